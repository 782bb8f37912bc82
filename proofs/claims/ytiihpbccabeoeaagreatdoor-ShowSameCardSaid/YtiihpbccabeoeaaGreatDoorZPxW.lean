/-
  The document's own parser: choices.
-/
import Derived.Test.YtiihpbccabeoeaaGreatDoorZPxV
import Derived.Deep.AppendLies
namespace Go.Proofs.YtiihpbccabeoeaaGreatDoor
open Go.RowKit
set_option linter.unusedVariables false
set_option maxRecDepth 100000 in
set_option maxHeartbeats 4000000 in
theorem qbranch_any (K : Nat) (hcmd : QCmdOK K) (w : World) (Lo B ps n i deep : Nat) (tv : Value) (T : List Tk) (h : QS w Lo B ps tv n T i 0) (hi : i ≤ T.length) (hd : deep + 1 + K = 41) :
    Calls Tryz.prog 181 #[.pointer (some ⟨ps, 0, none⟩), .int .i64 (deep : Nat)] w (QNode w Lo B ps tv n T i (2 * K + 2) false (choiceF (commandF K) (T.drop i))) := by
  obtain ⟨res, hres⟩ : ∃ res, res = choiceF (commandF K) (T.drop i) := ⟨_, rfl⟩
  rw [← hres]
  rw [choice_eq, List.length_drop] at hres
  have hc8 := cells_node
  obtain ⟨i0, hi0, hz0, hz1, hz2⟩ := info_parts info_node
  have HRES := Lib.hid hres
  have HC := Lib.hid hcmd
  have HD := Lib.hid hd
  have HPS := Lib.hid h.lt
  have hmT : T.length ≤ 20000 := h.sm.1
  have hdw : IntKind.i64.wrap ((deep : Int) + 1) = (deep : Int) + 1 := IntWalk.i64_in _ (by omega)
  have HS := Lib.hid h
  clear hres hcmd h
  go_enter Tryz.func181, Tryz.ntmps181
  go_wp2_with fail
  obtain ⟨N, hN⟩ : ∃ N, N = w.heap.size + 1 := ⟨_, rfl⟩
  obtain ⟨W, hW⟩ : ∃ W, W = (w.alloc (.cells #[.int .i64 0, .bool false, .string ⟨#[]⟩, .slice none 0 0, .slice none 0 0, .slice none 0 0, .slice none 0 0, .slice none 0 0] 44)).alloc (.cells #[.int .i64 6, .bool false, .string ⟨#[]⟩, .slice none 0 0, .slice none 0 0, .slice none 0 0, .slice none 0 0, .slice none 0 0] 44) := ⟨_, rfl⟩
  have hk0 : Keeps (fun _ => False) w W := by rw [hW]; exact ((Keeps.refl _ _).alloc _).alloc _
  have HG0 := Lib.hid (show QR (fun _ => False) True w W Lo B ps tv n T (w.heap.size + 1) N [.int .i64 0, .bool false, .string ⟨#[]⟩, .slice none 0 0, .slice none 0 0, .slice none 0 0, .slice none 0 0, .slice none 0 0] [.int 6, .bool false, .str [], .sl 1 [], .sl 2 [], .sl 2 []] [.sl 2 []] [.int .i64 6, .bool false, .string ⟨#[]⟩, .slice none 0 0, .slice none 0 0, .slice none 0 0] [.slice none 0 0] 8 44 i 0 0 none 0 [] from ⟨HS.out.keep0 hk0, hk0.mono (fun _ _ h => h.elim), by rw [hW]; exact (new_rec8 w _ _ _ _ _ _ _ _ _).keep (S := fun _ => False) ((Keeps.refl _ _).alloc _) (fun h => h), by rw [hW, hN]; have h9 := new_rec8 (w.alloc (.cells #[.int .i64 0, .bool false, .string ⟨#[]⟩, .slice none 0 0, .slice none 0 0, .slice none 0 0, .slice none 0 0, .slice none 0 0] 44)) (.int .i64 6) (.bool false) (.string ⟨#[]⟩) (.slice none 0 0) (.slice none 0 0) (.slice none 0 0) (.slice none 0 0) (.slice none 0 0) 44; simpa using h9, ⟨[], fun _ => trivial, World.ownsRow_nil _ _ _ _⟩, fun g hg => (by cases hg), fun g hg => (by cases hg), fun _ => ⟨.int _, .bool _, .str _, .nil _ _ _ (Nat.zero_le _), .nil _ _ _ (Nat.zero_le _), .nil _ _ _ (Nat.zero_le _), trivial⟩, fun _ => ⟨.nil _ _ _ (Nat.zero_le _), trivial⟩⟩)
  try rw [← hW]
  try rw [← hN]
  have HNX := Lib.hid (show w.heap.size < N by omega)
  have HNE := Lib.hid hN
  have HWW := Lib.hid hW
  clear hk0 hW hN HS
  try go_wp2_with fail
  try rw [← HWW.out]
  try rw [← HNE.out]
  clear HWW
  go_loopg [] (T.length + 2000 - i) (fun g wr => ∃ (gd : Prop) (I x m : Nat) (la : Option Addr) (lc : Nat) (acc : List Dt), g = T.length + 2000 - I ∧ i ≤ I ∧ I ≤ T.length + (2 * K + 2) ∧ m ≤ I ∧ Hid (QR (fun _ => False) gd w wr Lo B ps tv n T (w.heap.size + 1) N [.int .i64 0, .bool false, .string ⟨#[]⟩, .slice none 0 0, .slice none 0 0, .slice none 0 0, .slice none 0 0, .slice none 0 0] [.int 6, .bool false, .str [], .sl 1 [], .sl 2 [], .sl 2 []] [.sl 2 []] [.int .i64 6, .bool false, .string ⟨#[]⟩, .slice none 0 0, .slice none 0 0, .slice none 0 0] [.slice none 0 0] 8 44 I x m la lc acc) ∧ Hid (gd → AllN acc) ∧ Hid (CH gd K acc T I x res))
  case atStart => exact ⟨True, i, 0, 0, none, 0, [], rfl, Nat.le_refl _, by omega, Nat.zero_le _, HG0, Lib.hid (fun _ => AllN.nil), Lib.hid (.inl ⟨trivial, rfl, hi, _, Nat.le_refl _, HRES.out⟩)⟩
  case round =>
    clear HG0 HRES
    obtain ⟨gd, I, x, m, la, lc, acc, hgk, hiI, hIb, hmI, HG, HAN, HST⟩ := hrel
    have HGK := Lib.hid hgk
    clear hgk
    obtain ⟨c0, c1, c2, f1, f2⟩ := HG.out.rs.cells
    have hlt := HG.out.rs.lt
    by_cases hx : x = 0
    · subst hx
      obtain ⟨g, hIT, M, hM, hr⟩ : gd ∧ I ≤ T.length ∧ ∃ M, T.length - I + 1 ≤ M ∧ res = choiceEnd (choiceLoop (commandF K) M acc (T.drop I)) := by
        rcases HST.out with ⟨g, _, h9⟩ | ⟨h9, _⟩
        · exact ⟨g, h9⟩
        · exact absurd rfl h9
      obtain ⟨M, rfl⟩ : ∃ M', M = M' + 1 := ⟨M - 1, by omega⟩
      rw [choice_iter] at hr
      have HR := Lib.hid hr
      have HG0 := Lib.hid g
      clear hr g HST
      go_wp2_with fail
      refine (qlist_any K HC.out wr Lo B ps n I (deep + 1) tv T HG.out.rs hIT (by have := HD.out; omega)).mono ?_
      rintro e w2 ⟨va, ja, xa, rfl, hija, hjab, hs2, hk2, hfa⟩
      go_upto_region 4 with fail
      obtain ⟨NA, hNA⟩ : ∃ NA, NA = w2.heap.size := ⟨_, rfl⟩
      obtain ⟨W3, hW3⟩ : ∃ W3, W3 = w2.alloc (.cells #[.int .i64 va.k, .bool va.nt, .string va.nm, .slice va.a0 va.n0 va.c0, .slice va.a1 va.n1 va.c1, .slice va.a2 va.n2 va.c2, .slice va.a3 va.n3 va.c3, .slice va.a4 va.n4 va.c4] 44) := ⟨_, rfl⟩
      rw [← hW3]
      try rw [← hNA]
      have hk3 : Keeps (fun _ => False) w2 W3 := by rw [hW3]; exact (Keeps.refl _ _).alloc _
      have hwr := HG.out.rc.lt
      have hsz2 := hk2.size
      have HAR := Lib.hid (show RecAt W3 NA [.int .i64 va.k, .bool va.nt, .string va.nm, .slice va.a0 va.n0 va.c0, .slice va.a1 va.n1 va.c1, .slice va.a2 va.n2 va.c2, .slice va.a3 va.n3 va.c3, .slice va.a4 va.n4 va.c4] by rw [hW3, hNA]; exact new_rec8 _ _ _ _ _ _ _ _ _ _)
      have HNN := Lib.hid (show N < NA ∧ NA ≠ ps ∧ ps < w.heap.size ∧ w.heap.size < N ∧ N < wr.heap.size ∧ wr.heap.size ≤ NA by have := HNX.out; have := HPS.out; have := hs2.lt; omega)
      have hka := hk2.trans hk3 (fun _ _ h => h.elim)
      have HGW := Lib.hid HG.out
      have HKA := Lib.hid hka
      replace HG := Lib.hid (HG.out.move HPS.out (Nat.lt_succ_self _) HNX.out hka (hs2.keep0 hk3))
      have HFA := Lib.hid hfa
      have HTA := Lib.hid (show ∀ ds, RdL w2 (Qd Lo B wr.heap.size) ds va.vals → RdL W3 (Qd Lo B wr.heap.size) ds va.vals from fun ds hr => hr.keep hk3 (fun _ _ _ h => h))
      clear hs2 hk2 hfa hk3 hka hW3 hNA hwr hsz2 c0 c1 c2 f1 f2 hlt
      have hja2 : ja + 1 ≤ T.length + 500 := by have := HD.out; omega
      go_wp2_with fail
      refine (qwant_any W3 Lo B ps n ja xa tv T [116, 104, 101, 110] HG.out.rs (by omega)).mono ?_
      rintro e w4 ⟨rfl, hs4, hk4⟩
      obtain ⟨xt, hxt⟩ : ∃ xt, xt = if xa = 0 then (if isWF [116, 104, 101, 110] (T.drop ja) then 0 else 2) else xa := ⟨_, rfl⟩
      rw [← hxt] at hs4
      replace HG := Lib.hid (HG.out.move HPS.out (Nat.lt_succ_self _) HNX.out hk4 hs4)
      replace HAR := Lib.hid (HAR.out.keep hk4 HNN.out.2.1)
      have HTA4 := Lib.hid (show ∀ ds, RdL w2 (Qd Lo B wr.heap.size) ds va.vals → RdL w4 (Qd Lo B wr.heap.size) ds va.vals from fun ds hr => (HTA.out ds hr).keep hk4 (fun b _ hb e => qd_ne (X := wr.heap.size) hs4.ps (by have := HNN.out; omega) hb e))
      have HKT := Lib.hid (HKA.out.trans hk4 (fun _ _ h => h))
      have HCL := Lib.hid (close_any (P := isWF [116, 104, 101, 110]) (wfP1 (by decide)) (wfP2 (by decide)) HFA.out hxt)
      have HSZ4 := Lib.hid hk4.size
      have HIJ := Lib.hid (show I ≤ ja from hija)
      clear hs4 hk4 hxt HTA HFA
      obtain ⟨c0, c1, c2, f1, f2⟩ := HG.out.rs.cells
      have hlt := HG.out.rs.lt
      by_cases hxt : xt = 0
      · subst hxt
        obtain ⟨c, hw, hnc, hdc, hjaT, hlc⟩ : ∃ c, isWF [116, 104, 101, 110] (T.drop ja) = true ∧ NdD c ∧ RdL w4 (Qd Lo B wr.heap.size) c va.vals ∧ ja < T.length ∧ listF (commandF K) (T.drop I) = .ok (c, T.drop ja) := by
          rcases HCL.out with ⟨c, _, hw, _, hn, hd, hj, hr⟩ | ⟨h9, _⟩
          · exact ⟨c, hw, hn, HTA4.out c hd, toks_in (isW_pos (by decide) hw), hr⟩
          · exact absurd rfl h9
        have HNC := Lib.hid hnc
        have HDC := Lib.hid hdc
        have HRB := Lib.hid (show res = choiceB K M (acc ++ c) (listF (commandF K) (T.drop (ja + 1))) by rw [HR.out, hlc, choiceA_yes hw, drop_tail])
        clear hw hnc hdc hlc HCL HR HTA4
        go_wp2_with fail
        refine (qlist_any K HC.out w4 Lo B ps n (ja + 1) (deep + 1) tv T HG.out.rs (by omega) (by have := HD.out; omega)).mono ?_
        rintro e w5a ⟨vb, jb, xb, rfl, hijb, hjbb, hs5, hk5, hfb⟩
        obtain ⟨gb, db, hgb, hst⟩ := hfb.state (choiceB K M (acc ++ c)) (fun e => rfl) (fun _ ds r h => choiceB_no h) HRB.out
        have HST := Lib.hid hst
        go_upto_region 8 with fail
        obtain ⟨NB, hNB⟩ : ∃ NB, NB = w5a.heap.size := ⟨_, rfl⟩
        obtain ⟨W6, hW6⟩ : ∃ W6, W6 = w5a.alloc (.cells #[.int .i64 vb.k, .bool vb.nt, .string vb.nm, .slice vb.a0 vb.n0 vb.c0, .slice vb.a1 vb.n1 vb.c1, .slice vb.a2 vb.n2 vb.c2, .slice vb.a3 vb.n3 vb.c3, .slice vb.a4 vb.n4 vb.c4] 44) := ⟨_, rfl⟩
        rw [← hW6]
        try rw [← hNB]
        have hk6 : Keeps (fun _ => False) w5a W6 := by rw [hW6]; exact (Keeps.refl _ _).alloc _
        have hkk := hk5.trans hk6 (fun _ _ h => h.elim)
        have HBR := Lib.hid (show RecAt W6 NB [.int .i64 vb.k, .bool vb.nt, .string vb.nm, .slice vb.a0 vb.n0 vb.c0, .slice vb.a1 vb.n1 vb.c1, .slice vb.a2 vb.n2 vb.c2, .slice vb.a3 vb.n3 vb.c3, .slice vb.a4 vb.n4 vb.c4] by rw [hW6, hNB]; exact new_rec8 _ _ _ _ _ _ _ _ _ _)
        have hna4 := HAR.out.lt
        have hszT := HKT.out.size
        replace HAR := Lib.hid (HAR.out.keep hkk HNN.out.2.1)
        have hxw := HG.out.rc.lt
        have hsz5 := hk5.size
        have hsz4 := HSZ4.out
        have hsz6 : W6.heap.size = w5a.heap.size + 1 := by rw [hW6]; simp
        have hwa := HAR.out.lt
        obtain ⟨hn1, hn2, hn3, hn4, hn5, hn6⟩ := HNN.out
        obtain ⟨xs, hown4, hrec4, hF⟩ := HGW.out.more (G' := gd ∧ gb) (y := xb) (J := jb) (us := [.int .i64 va.k, .bool va.nt, .string va.nm, .slice va.a0 va.n0 va.c0, .slice va.a1 va.n1 va.c1, .slice va.a2 va.n2 va.c2, .slice va.a3 va.n3 va.c3, .slice va.a4 va.n4 va.c4, .int .i64 vb.k, .bool vb.nt, .string vb.nm, .slice vb.a0 vb.n0 vb.c0, .slice vb.a1 vb.n1 vb.c1, .slice vb.a2 vb.n2 vb.c2, .slice vb.a3 vb.n3 vb.c3, .slice vb.a4 vb.n4 vb.c4]) (d2 := c ++ db) HPS.out (Nat.lt_succ_self _) HNX.out (by omega) (HKT.out.trans hkk (fun _ _ h => h)) (hs5.keep0 hk6) (fun g => g.1)
          (fun g => (HDC.out.keep hkk (fun b _ hb e => qd_ne (X := wr.heap.size) hs5.ps (by omega) hb e)).app (((hgb g.2).2.keep hk6 (fun _ _ _ h => h)).mono (fun b _ hb => by rcases hb with h | h; exact .inl h; exact .inr (by omega)))) (fun b hb => hb.elim)
        have HF := Lib.hid hF
        have HAN2 := Lib.hid (show gd ∧ gb → AllN (acc ++ (c ++ db)) from fun g => (HAN.out g.1).app ((AllN.of HNC.out).app (AllN.of (hgb g.2).1)))
        have hrec4' := (show RecAt W6 N [.int .i64 6, .bool false, .string ⟨#[]⟩, .slice none 0 0, .slice none 0 0, .slice none 0 0, .slice la m lc, .slice none 0 0] from hrec4)
        obtain ⟨⟨x0, x1, x2, x3, x4, x5, x6, x7⟩, ⟨xf0, xf1, xf2, xf3, xf4, xf5, xf6, xf7⟩⟩ := hrec4'.eight
        obtain ⟨⟨a0, a1, a2, a3, a4, a5, a6, a7⟩, ⟨af0, af1, af2, af3, af4, af5, af6, af7⟩⟩ := HAR.out.eight
        obtain ⟨⟨b0, b1, b2, b3, b4, b5, b6, b7⟩, ⟨bf0, bf1, bf2, bf3, bf4, bf5, bf6, bf7⟩⟩ := HBR.out.eight
        have hNl := hrec4.lt
        have hNAl := HAR.out.lt
        have hNBl := HBR.out.lt
        have hne : N ≠ NA ∧ N ≠ NB ∧ NA ≠ NB := by omega
        obtain ⟨hne1, hne2, hne3⟩ := hne
        have HJB := Lib.hid (show ja + 1 ≤ jb from hijb)
        have HJBB := Lib.hid hjbb
        have hjb2 : jb + 1 ≤ T.length + 500 := by have := HD.out; omega
        clear hF hrec4 hrec4' hk5 hk6 hkk hsz5 hsz6 hsz4 hwa hna4 hszT hNB hW6 hgb hst hs5 hfb hxw hn1 hn2 hn3 hn4 hn5 hn6 HDC HNC HAN
        go_upto_region 9 with (at_builtin; refine wpList_append_lies _ rfl (.tmp 33) (.tmp 36) _ rfl 0 44 i0 _ 8 152 Tryz.underlying23 hi0 hz0 hz1 hz2 rfl (by omega) (.slice la m lc) m xs rfl (hown4.alloc _) ⟨W6.heap.size, 0, none⟩ 2 2 [.int .i64 va.k, .bool va.nt, .string va.nm, .slice va.a0 va.n0 va.c0, .slice va.a1 va.n1 va.c1, .slice va.a2 va.n2 va.c2, .slice va.a3 va.n3 va.c3, .slice va.a4 va.n4 va.c4, .int .i64 vb.k, .bool vb.nt, .string vb.nm, .slice vb.a0 vb.n0 vb.c0, .slice vb.a1 vb.n1 vb.c1, .slice vb.a2 vb.n2 vb.c2, .slice vb.a3 vb.n3 vb.c3, .slice vb.a4 vb.n4 vb.c4] rfl rfl (World.news_of_block (cs := #[.int .i64 va.k, .bool va.nt, .string va.nm, .slice va.a0 va.n0 va.c0, .slice va.a1 va.n1 va.c1, .slice va.a2 va.n2 va.c2, .slice va.a3 va.n3 va.c3, .slice va.a4 va.n4 va.c4, .int .i64 vb.k, .bool vb.nt, .string vb.nm, .slice vb.a0 vb.n0 vb.c0, .slice vb.a1 vb.n1 vb.c1, .slice vb.a2 vb.n2 vb.c2, .slice vb.a3 vb.n3 vb.c3, .slice vb.a4 vb.n4 vb.c4]) (t := 44) (fr := (0, 0)) (heap_alloc_new W6 _)) (by simp [Value.oneCell']) (by omega) (by unfold maxLen; omega) (by omega) (by simp) (W6.heap.size + 1) (by simp) ?_; intro gg cap w5 hown2 hgrow hat hlt5; have hG5 := HF.out gg (m + 2) cap w5 _ hown2 ((Keeps.refl _ _).alloc _) hgrow (hat.imp id (fun h => by omega)); obtain ⟨hrec5, hq5, hk5⟩ := hG5; have hrec5 := (show RecAt w5 N [.int .i64 6, .bool false, .string ⟨#[]⟩, .slice none 0 0, .slice none 0 0, .slice none 0 0, .slice la m lc, .slice none 0 0] from hrec5); obtain ⟨⟨z0, z1, z2, z3, z4, z5, z6, z7⟩, ⟨zf0, zf1, zf2, zf3, zf4, zf5, zf6, zf7⟩⟩ := hrec5.eight; have hN5 := hrec5.lt; have HG := Lib.hid (show QR (fun _ => False) (gd ∧ gb) w (w5.setCell ⟨N, 6, none⟩ (.slice (some ⟨gg, 0, none⟩) (m + 2) cap)) Lo B ps tv n T (w.heap.size + 1) N [.int .i64 0, .bool false, .string ⟨#[]⟩, .slice none 0 0, .slice none 0 0, .slice none 0 0, .slice none 0 0, .slice none 0 0] [.int 6, .bool false, .str [], .sl 1 [], .sl 2 [], .sl 2 []] [.sl 2 []] [.int .i64 6, .bool false, .string ⟨#[]⟩, .slice none 0 0, .slice none 0 0, .slice none 0 0] [.slice none 0 0] 8 44 jb xb (m + 2) (some ⟨gg, 0, none⟩) cap (acc ++ (c ++ db)) from hq5); clear hrec5 hq5 hk5; clear hown2 hgrow hat)
        obtain ⟨wk, hwk⟩ : ∃ wk, wk = w5.setCell ⟨N, 6, none⟩ (.slice (some ⟨gg, 0, none⟩) (m + 2) cap) := ⟨_, rfl⟩
        rw [← hwk]
        rw [← hwk] at HG
        clear hwk
        obtain ⟨s, hs⟩ : ∃ s, plainT (atF (T.drop jb)) = s := ⟨_, rfl⟩
        have HQ := Lib.hid (qplain_at HG.out.rs s hs 0)
        have HSS := Lib.hid hs
        clear hs
        try clear z0 z1 z2 z3 z4 z5 z6 z7
        go_wp2_with fail
        refine HQ.out.mono ?_
        rintro e wq ⟨rfl, dq, rfl⟩
        obtain ⟨wl, hw2⟩ : ∃ wl, wl = wk.drewN dq := ⟨_, rfl⟩
        rw [← hw2]
        have hkw : Keeps (fun _ => False) wk wl := by rw [hw2]; exact (Keeps.refl _ _).drewN _
        replace HG := Lib.hid (HG.out.keep0 hkw)
        clear hw2 hkw
        go_wp2_with fail
        refine (qwant_any wl Lo B ps n jb xb tv T s HG.out.rs (by omega)).mono ?_
        rintro e wm ⟨rfl, hsm, hkm⟩
        rw [show (if xb = 0 then (if isWF s (T.drop jb) then 0 else 2) else xb) = xb by rw [isWF_plain HSS.out s, beq_self_eq_true]; by_cases h : xb = 0; rw [if_pos h]; exact h.symm; rw [if_neg h]] at hsm
        replace HG := Lib.hid (HG.out.move HPS.out (Nat.lt_succ_self _) HNX.out hkm hsm)
        have HIB := Lib.hid (show i ≤ jb + 1 ∧ jb + 1 ≤ T.length + (2 * K + 2) by have := HIJ.out; have := HJB.out; have := HJBB.out; omega)
        clear hsm hkm
        by_cases h1 : s = [102, 105]
        · subst h1
          have HQ2 := Lib.hid (show (((gd ∧ gb) ∧ xb = 0 ∧ jb + 1 ≤ T.length ∧ NdD (ndR 6 false [] [] [] [] (acc ++ (c ++ db)) []) ∧ res = .ok (ndR 6 false [] [] [] [] (acc ++ (c ++ db)) [], T.drop (jb + 1))) ∨ (∀ w D us, QF false w D T res us (jb + 1) xb)) from by
            have hw : isWF [102, 105] (T.drop jb) = true := by rw [isWF_plain HSS.out]; rfl
            rcases HST.out with ⟨g, hx, _, hr⟩ | ⟨hx, hr⟩ | ⟨_, ho, _⟩
            · have := toks_in (isW_pos (by decide) hw)
              refine .inl ⟨⟨HG0.out, g⟩, hx, by omega, ⟨_, _, _, _, _, _, _, _, rfl⟩, ?_⟩
              rw [hr, choiceB_rest (by rw [isWF_plain HSS.out]; rfl) (by rw [isWF_plain HSS.out]; rfl), choiceEnd_yes hw, drop_tail, List.append_assoc]
            · exact .inr fun _ _ _ => QF.err hx hr
            · rw [wfP2 (by decide) _ ho] at hw; cases hw)
          obtain ⟨⟨x0, x1, x2, x3, x4, x5, x6, x7⟩, ⟨xf0, xf1, xf2, xf3, xf4, xf5, xf6, xf7⟩⟩ := (show RecAt wm N [.int .i64 6, .bool false, .string ⟨#[]⟩, .slice none 0 0, .slice none 0 0, .slice none 0 0, .slice (some ⟨gg, 0, none⟩) (m + 2) cap, .slice none 0 0] from HG.out.rc).eight
          have hNl := HG.out.rc.lt
          have HF := Lib.hid (show QF false wm (fun b => Qd Lo B w.heap.size b ∧ b ≠ w.heap.size) T res [.int .i64 6, .bool false, .string ⟨#[]⟩, .slice none 0 0, .slice none 0 0, .slice none 0 0, .slice (some ⟨gg, 0, none⟩) (m + 2) cap, .slice none 0 0] _ _ from qr_fin HG.out (Nat.lt_succ_self _) HPS.out HQ2.out)
          have HK := Lib.hid HG.out.kp
          have HS := Lib.hid HG.out.rs
          obtain ⟨⟨z0, z1, z2, z3, z4, z5, z6, z7⟩, ⟨zf0, zf1, zf2, zf3, zf4, zf5, zf6, zf7⟩⟩ := HG.out.zr.eight
          have hzl := HG.out.zr.lt
          go_wp2_with fail
          refine bodyPost_ret (v := .agg #[.int .i64 6, .bool false, .string ⟨#[]⟩, .slice none 0 0, .slice none 0 0, .slice none 0 0, .slice (some ⟨gg, 0, none⟩) (m + 2) cap, .slice none 0 0]) (by simp [results, Tryz.results181, go_sem, z0, z1, z2, z3, z4, z5, z6, z7]) rfl ?_
          obtain ⟨f1, f2, f3⟩ := qnd_fin HK.out HS.out HPS.out HF.out (set8_keeps wm w.heap.size (.int .i64 6) (.bool false) (.string ⟨#[]⟩) (.slice none 0 0) (.slice none 0 0) (.slice none 0 0) (.slice (some ⟨gg, 0, none⟩) (m + 2) cap) (.slice none 0 0))
          exact ⟨⟨6, false, ⟨#[]⟩, none, 0, 0, none, 0, 0, none, 0, 0, some ⟨gg, 0, none⟩, m + 2, cap, none, 0, 0⟩, _, _, rfl, HIB.out.1, HIB.out.2, f1, f2, f3⟩
        · have t1 : (s == [102, 105]) = false := ls_ne h1
          have H1 := Lib.hid h1
          clear h1
          by_cases h2 : s = [101, 108, 105, 102]
          · subst h2
            have HCH := Lib.hid (show CH (gd ∧ gb) K (acc ++ (c ++ db)) T (jb + 1) xb res from by
              have hw : isWF [101, 108, 105, 102] (T.drop jb) = true := by rw [isWF_plain HSS.out]; rfl
              rcases HST.out with ⟨g, hx, _, hr⟩ | ⟨hx, hr⟩ | ⟨_, ho, _⟩
              · have := toks_in (isW_pos (by decide) hw)
                refine .inl ⟨⟨HG0.out, g⟩, hx, by omega, M, by have := HIJ.out; have := HJB.out; omega, ?_⟩
                rw [hr, choiceB_elif hw, drop_tail, List.append_assoc]
              · exact .inr ⟨hx, hr⟩
              · rw [wfP2 (by decide) _ ho] at hw; cases hw)
            go_wp2_with fail
            go_roundg (T.length + 2000 - (jb + 1))
            case measure => have := HGK.out; have := HIJ.out; have := HJB.out; have := HIB.out; omega
            case rel => exact ⟨gd ∧ gb, jb + 1, xb, m + 2, _, _, acc ++ (c ++ db), rfl, HIB.out.1, HIB.out.2, by have := HIJ.out; have := HJB.out; omega, HG, HAN2, HCH⟩
          · have t2 : (s == [101, 108, 105, 102]) = false := ls_ne h2
            have H2 := Lib.hid h2
            clear h2
            by_cases h3 : s = [101, 108, 115, 101]
            · subst h3
              have hw : isWF [101, 108, 115, 101] (T.drop jb) = true := by rw [isWF_plain HSS.out]; rfl
              have hjl := toks_in (isW_pos (by decide) hw)
              have HW := Lib.hid hw
              clear hw
              go_wp2_with fail
              refine (qlist_uni K HC.out wm Lo B ps n (jb + 1) xb (deep + 1) tv T HG.out.rs (fun _ => by omega) (by have := HD.out; omega)).mono ?_
              rintro e wn ⟨vc, jc, xc, rfl, hjc1, hjc2, hsn, hkn, hfc⟩
              obtain ⟨xe, hxe⟩ : ∃ xe, xe = if xc = 0 then (if isWF [102, 105] (T.drop jc) then 0 else 2) else xc := ⟨_, rfl⟩
              obtain ⟨gc, dc, hgc, hfin⟩ := choice_else_fin HST.out HW.out hfc hxe
              have HXE := Lib.hid hxe
              have HFI := Lib.hid hfin
              go_upto_region 17 with fail
              obtain ⟨NC, hNC⟩ : ∃ NC, NC = wn.heap.size := ⟨_, rfl⟩
              obtain ⟨W7, hW7⟩ : ∃ W7, W7 = wn.alloc (.cells #[.int .i64 vc.k, .bool vc.nt, .string vc.nm, .slice vc.a0 vc.n0 vc.c0, .slice vc.a1 vc.n1 vc.c1, .slice vc.a2 vc.n2 vc.c2, .slice vc.a3 vc.n3 vc.c3, .slice vc.a4 vc.n4 vc.c4] 44) := ⟨_, rfl⟩
              rw [← hW7]
              try rw [← hNC]
              have hk7 : Keeps (fun _ => False) wn W7 := by rw [hW7]; exact (Keeps.refl _ _).alloc _
              have hkk := hkn.trans hk7 (fun _ _ h => h.elim)
              have HCR := Lib.hid (show RecAt W7 NC [.int .i64 vc.k, .bool vc.nt, .string vc.nm, .slice vc.a0 vc.n0 vc.c0, .slice vc.a1 vc.n1 vc.c1, .slice vc.a2 vc.n2 vc.c2, .slice vc.a3 vc.n3 vc.c3, .slice vc.a4 vc.n4 vc.c4] by rw [hW7, hNC]; exact new_rec8 _ _ _ _ _ _ _ _ _ _)
              have hxw := HG.out.rc.lt
              have hszn := hkn.size
              obtain ⟨xs, hown4, hrec4, hF⟩ := HG.out.more (G' := gc) (y := xc) (J := jc) (us := [.int .i64 vc.k, .bool vc.nt, .string vc.nm, .slice vc.a0 vc.n0 vc.c0, .slice vc.a1 vc.n1 vc.c1, .slice vc.a2 vc.n2 vc.c2, .slice vc.a3 vc.n3 vc.c3, .slice vc.a4 vc.n4 vc.c4]) (d2 := dc) HPS.out (Nat.lt_succ_self _) HNX.out (by have := HNE.out; omega) hkk (hsn.keep0 hk7) (fun g => ⟨HG0.out, (hgc g).1⟩) (fun g => (hgc g).2.2.keep hk7 (fun _ _ _ h => h)) (fun b hb => hb.elim)
              have HF := Lib.hid hF
              have hrec4' := (show RecAt W7 N [.int .i64 6, .bool false, .string ⟨#[]⟩, .slice none 0 0, .slice none 0 0, .slice none 0 0, .slice (some ⟨gg, 0, none⟩) (m + 2) cap, .slice none 0 0] from hrec4)
              obtain ⟨⟨x0, x1, x2, x3, x4, x5, x6, x7⟩, ⟨xf0, xf1, xf2, xf3, xf4, xf5, xf6, xf7⟩⟩ := hrec4'.eight
              obtain ⟨⟨u0, u1, u2, u3, u4, u5, u6, u7⟩, ⟨uf0, uf1, uf2, uf3, uf4, uf5, uf6, uf7⟩⟩ := HCR.out.eight
              have hNl := hrec4.lt
              have hNCl := HCR.out.lt
              have hne9 : N ≠ NC := by omega
              have hjc : jc + 1 ≤ T.length + 900 := by have := HD.out; omega
              have HIC := Lib.hid (show i ≤ jc + 1 ∧ jc + 1 ≤ T.length + (2 * K + 2) by have := HIB.out; omega)
              clear hF hrec4 hrec4' hk7 hkk hNC hW7 hgc hfin hsn hkn hfc hxe hxw hszn hjc1 hjc2
              go_upto_region 18 with (at_builtin; refine wpList_append_lies _ rfl (.tmp 57) (.tmp 59) _ rfl 0 44 i0 _ 8 152 Tryz.underlying23 hi0 hz0 hz1 hz2 rfl (by omega) (.slice (some ⟨gg, 0, none⟩) (m + 2) cap) (m + 2) xs rfl (hown4.alloc _) ⟨W7.heap.size, 0, none⟩ 1 1 [.int .i64 vc.k, .bool vc.nt, .string vc.nm, .slice vc.a0 vc.n0 vc.c0, .slice vc.a1 vc.n1 vc.c1, .slice vc.a2 vc.n2 vc.c2, .slice vc.a3 vc.n3 vc.c3, .slice vc.a4 vc.n4 vc.c4] rfl rfl (World.news_of_block (cs := #[.int .i64 vc.k, .bool vc.nt, .string vc.nm, .slice vc.a0 vc.n0 vc.c0, .slice vc.a1 vc.n1 vc.c1, .slice vc.a2 vc.n2 vc.c2, .slice vc.a3 vc.n3 vc.c3, .slice vc.a4 vc.n4 vc.c4]) (t := 44) (fr := (0, 0)) (heap_alloc_new W7 _)) (by simp [Value.oneCell']) (by omega) (by unfold maxLen; omega) (by omega) (by simp) (W7.heap.size + 1) (by simp) ?_; intro gg2 cap2 w6 hown2 hgrow hat hlt5; have hG5 := HF.out gg2 ((m + 2) + 1) cap2 w6 _ hown2 ((Keeps.refl _ _).alloc _) hgrow (hat.imp id (fun h => by omega)); obtain ⟨hrec5, hq5, hk5⟩ := hG5; have hrec5 := (show RecAt w6 N [.int .i64 6, .bool false, .string ⟨#[]⟩, .slice none 0 0, .slice none 0 0, .slice none 0 0, .slice (some ⟨gg, 0, none⟩) (m + 2) cap, .slice none 0 0] from hrec5); obtain ⟨⟨z0, z1, z2, z3, z4, z5, z6, z7⟩, ⟨zf0, zf1, zf2, zf3, zf4, zf5, zf6, zf7⟩⟩ := hrec5.eight; have hN5 := hrec5.lt; have HG := Lib.hid (show QR (fun _ => False) gc w (w6.setCell ⟨N, 6, none⟩ (.slice (some ⟨gg2, 0, none⟩) (m + 2 + 1) cap2)) Lo B ps tv n T (w.heap.size + 1) N [.int .i64 0, .bool false, .string ⟨#[]⟩, .slice none 0 0, .slice none 0 0, .slice none 0 0, .slice none 0 0, .slice none 0 0] [.int 6, .bool false, .str [], .sl 1 [], .sl 2 [], .sl 2 []] [.sl 2 []] [.int .i64 6, .bool false, .string ⟨#[]⟩, .slice none 0 0, .slice none 0 0, .slice none 0 0] [.slice none 0 0] 8 44 jc xc (m + 2 + 1) (some ⟨gg2, 0, none⟩) cap2 (acc ++ (c ++ db) ++ dc) from hq5); clear hrec5 hq5 hk5; clear hown2 hgrow hat)
              obtain ⟨wo, hwo⟩ : ∃ wo, wo = w6.setCell ⟨N, 6, none⟩ (.slice (some ⟨gg2, 0, none⟩) (m + 2 + 1) cap2) := ⟨_, rfl⟩
              rw [← hwo]
              rw [← hwo] at HG
              clear hwo
              try clear z0 z1 z2 z3 z4 z5 z6 z7
              go_wp2_with fail
              refine (qwant_any wo Lo B ps n jc xc tv T [102, 105] HG.out.rs (by omega)).mono ?_
              rintro e wp ⟨rfl, hsp, hkp⟩
              rw [← HXE.out] at hsp
              replace HG := Lib.hid (HG.out.move HPS.out (Nat.lt_succ_self _) HNX.out hkp hsp)
              have HQ2 := Lib.hid (show ((gc ∧ xe = 0 ∧ jc + 1 ≤ T.length ∧ NdD (ndR 6 false [] [] [] [] (acc ++ (c ++ db) ++ dc) []) ∧ res = .ok (ndR 6 false [] [] [] [] (acc ++ (c ++ db) ++ dc) [], T.drop (jc + 1))) ∨ (∀ w D us, QF false w D T res us (jc + 1) xe)) from by
                rcases HFI.out with ⟨g, h0, hj, hr⟩ | ⟨h0, hr⟩
                · exact .inl ⟨g, h0, hj, ⟨_, _, _, _, _, _, _, _, rfl⟩, by rw [hr, List.append_assoc acc c db]⟩
                · exact .inr fun _ _ _ => QF.err h0 hr)
              clear hsp hkp
              obtain ⟨⟨x0, x1, x2, x3, x4, x5, x6, x7⟩, ⟨xf0, xf1, xf2, xf3, xf4, xf5, xf6, xf7⟩⟩ := (show RecAt wp N [.int .i64 6, .bool false, .string ⟨#[]⟩, .slice none 0 0, .slice none 0 0, .slice none 0 0, .slice (some ⟨gg2, 0, none⟩) (m + 2 + 1) cap2, .slice none 0 0] from HG.out.rc).eight
              have hNl := HG.out.rc.lt
              have HF := Lib.hid (show QF false wp (fun b => Qd Lo B w.heap.size b ∧ b ≠ w.heap.size) T res [.int .i64 6, .bool false, .string ⟨#[]⟩, .slice none 0 0, .slice none 0 0, .slice none 0 0, .slice (some ⟨gg2, 0, none⟩) (m + 2 + 1) cap2, .slice none 0 0] _ _ from qr_fin HG.out (Nat.lt_succ_self _) HPS.out HQ2.out)
              have HK := Lib.hid HG.out.kp
              have HS := Lib.hid HG.out.rs
              obtain ⟨⟨z0, z1, z2, z3, z4, z5, z6, z7⟩, ⟨zf0, zf1, zf2, zf3, zf4, zf5, zf6, zf7⟩⟩ := HG.out.zr.eight
              have hzl := HG.out.zr.lt
              go_wp2_with fail
              refine bodyPost_ret (v := .agg #[.int .i64 6, .bool false, .string ⟨#[]⟩, .slice none 0 0, .slice none 0 0, .slice none 0 0, .slice (some ⟨gg2, 0, none⟩) (m + 2 + 1) cap2, .slice none 0 0]) (by simp [results, Tryz.results181, go_sem, z0, z1, z2, z3, z4, z5, z6, z7]) rfl ?_
              obtain ⟨f1, f2, f3⟩ := qnd_fin HK.out HS.out HPS.out HF.out (set8_keeps wp w.heap.size (.int .i64 6) (.bool false) (.string ⟨#[]⟩) (.slice none 0 0) (.slice none 0 0) (.slice none 0 0) (.slice (some ⟨gg2, 0, none⟩) (m + 2 + 1) cap2) (.slice none 0 0))
              exact ⟨⟨6, false, ⟨#[]⟩, none, 0, 0, none, 0, 0, none, 0, 0, some ⟨gg2, 0, none⟩, m + 2 + 1, cap2, none, 0, 0⟩, _, _, rfl, HIC.out.1, HIC.out.2, f1, f2, f3⟩
            · have t3 : (s == [101, 108, 115, 101]) = false := ls_ne h3
              obtain ⟨xf, hxf⟩ : ∃ xf, xf = if xb = 0 then 2 else xb := ⟨_, rfl⟩
              have HCH := Lib.hid (show CH False K [] T (jb + 1) xf res from by
                have hw1 : isWF [102, 105] (T.drop jb) = false := by rw [isWF_plain HSS.out]; exact t1
                have hw2 : isWF [101, 108, 105, 102] (T.drop jb) = false := by rw [isWF_plain HSS.out]; exact t2
                have hw3 : isWF [101, 108, 115, 101] (T.drop jb) = false := by rw [isWF_plain HSS.out]; exact t3
                rcases HST.out with ⟨g, hx, _, hr⟩ | ⟨hx, hr⟩ | ⟨hx, _, hr⟩
                · rw [if_pos hx] at hxf
                  exact .inr ⟨by omega, by rw [hr, hxf, choiceB_rest hw2 hw3, choiceEnd_no hw1]⟩
                · rw [if_neg hx] at hxf
                  exact .inr ⟨by omega, by rw [hxf]; exact hr⟩
                · rw [if_pos hx] at hxf
                  exact .inr ⟨by omega, by rw [hxf]; exact hr⟩)
              have HXF := Lib.hid hxf
              clear h3 hxf
              go_wp2_with fail
              refine (qfail_any wm Lo B ps n (jb + 1) xb 2 tv T HG.out.rs).mono ?_
              rintro e wq ⟨rfl, hsq, hkq⟩
              rw [← HXF.out] at hsq
              replace HG := Lib.hid (HG.out.move HPS.out (Nat.lt_succ_self _) HNX.out hkq hsq)
              clear hsq hkq
              go_wp2_with fail
              go_roundg (T.length + 2000 - (jb + 1))
              case measure => have := HGK.out; have := HIJ.out; have := HJB.out; have := HIB.out; omega
              case rel =>
                have hw := HG.out.weak (G' := False) (fun h => h.elim)
                obtain ⟨xs, _, ho⟩ := hw.own
                exact ⟨False, jb + 1, xf, m + 2, _, _, [], rfl, HIB.out.1, HIB.out.2, by have := HIJ.out; have := HJB.out; omega, Lib.hid ⟨hw.rs, hw.kp, hw.zr, hw.rc, ⟨xs, fun h => h.elim, ho⟩, hw.low, hw.ex, fun h => h.elim, fun h => h.elim⟩, Lib.hid (fun h => h.elim), HCH⟩
      · have t : ((xt : Int) != 0) = true := by rw [bne_iff_ne]; omega
        have HBAD := Lib.hid (show ∀ w D us, QF false w D T res us (ja + 1) xt from fun _ _ _ => by
          rcases HCL.out with ⟨_, _, _, h9, _⟩ | ⟨_, hf⟩
          · exact absurd h9 hxt
          · exact QF.err hxt (by rw [HR.out, hf (choiceA K M acc) (fun e => rfl) (fun ds r h => choiceA_no h)]))
        have HIB := Lib.hid (show i ≤ ja + 1 ∧ ja + 1 ≤ T.length + (2 * K + 2) by have := HIJ.out; omega)
        clear hxt HCL HR
        obtain ⟨⟨x0, x1, x2, x3, x4, x5, x6, x7⟩, ⟨xf0, xf1, xf2, xf3, xf4, xf5, xf6, xf7⟩⟩ := (show RecAt w4 N [.int .i64 6, .bool false, .string ⟨#[]⟩, .slice none 0 0, .slice none 0 0, .slice none 0 0, .slice la m lc, .slice none 0 0] from HG.out.rc).eight
        have hNl := HG.out.rc.lt
        have HF := Lib.hid (show QF false w4 (fun b => Qd Lo B w.heap.size b ∧ b ≠ w.heap.size) T res [.int .i64 6, .bool false, .string ⟨#[]⟩, .slice none 0 0, .slice none 0 0, .slice none 0 0, .slice la m lc, .slice none 0 0] _ _ from qr_fin HG.out (Nat.lt_succ_self _) HPS.out (.inr HBAD.out))
        have HK := Lib.hid HG.out.kp
        have HS := Lib.hid HG.out.rs
        obtain ⟨⟨z0, z1, z2, z3, z4, z5, z6, z7⟩, ⟨zf0, zf1, zf2, zf3, zf4, zf5, zf6, zf7⟩⟩ := HG.out.zr.eight
        have hzl := HG.out.zr.lt
        go_wp2_with fail
        refine bodyPost_ret (v := .agg #[.int .i64 6, .bool false, .string ⟨#[]⟩, .slice none 0 0, .slice none 0 0, .slice none 0 0, .slice la m lc, .slice none 0 0]) (by simp [results, Tryz.results181, go_sem, z0, z1, z2, z3, z4, z5, z6, z7]) rfl ?_
        obtain ⟨f1, f2, f3⟩ := qnd_fin HK.out HS.out HPS.out HF.out (set8_keeps w4 w.heap.size (.int .i64 6) (.bool false) (.string ⟨#[]⟩) (.slice none 0 0) (.slice none 0 0) (.slice none 0 0) (.slice la m lc) (.slice none 0 0))
        exact ⟨⟨6, false, ⟨#[]⟩, none, 0, 0, none, 0, 0, none, 0, 0, la, m, lc, none, 0, 0⟩, _, _, rfl, HIB.out.1, HIB.out.2, f1, f2, f3⟩
    · have t : ((x : Int) == 0) = false := by rw [beq_eq_false_iff_ne]; omega
      have HBAD := Lib.hid (show ∀ w D us, QF false w D T res us I x from fun _ _ _ => by
        rcases HST.out with ⟨_, h9, _⟩ | ⟨_, h9⟩
        · exact absurd h9 hx
        · exact QF.err hx h9)
      have HIB := Lib.hid (show i ≤ I ∧ I ≤ T.length + (2 * K + 2) by omega)
      clear hx HST
      obtain ⟨⟨x0, x1, x2, x3, x4, x5, x6, x7⟩, ⟨xf0, xf1, xf2, xf3, xf4, xf5, xf6, xf7⟩⟩ := (show RecAt wr N [.int .i64 6, .bool false, .string ⟨#[]⟩, .slice none 0 0, .slice none 0 0, .slice none 0 0, .slice la m lc, .slice none 0 0] from HG.out.rc).eight
      have hNl := HG.out.rc.lt
      have HF := Lib.hid (show QF false wr (fun b => Qd Lo B w.heap.size b ∧ b ≠ w.heap.size) T res [.int .i64 6, .bool false, .string ⟨#[]⟩, .slice none 0 0, .slice none 0 0, .slice none 0 0, .slice la m lc, .slice none 0 0] _ _ from qr_fin HG.out (Nat.lt_succ_self _) HPS.out (.inr HBAD.out))
      have HK := Lib.hid HG.out.kp
      have HS := Lib.hid HG.out.rs
      obtain ⟨⟨z0, z1, z2, z3, z4, z5, z6, z7⟩, ⟨zf0, zf1, zf2, zf3, zf4, zf5, zf6, zf7⟩⟩ := HG.out.zr.eight
      have hzl := HG.out.zr.lt
      go_wp2_with fail
      refine bodyPost_ret (v := .agg #[.int .i64 6, .bool false, .string ⟨#[]⟩, .slice none 0 0, .slice none 0 0, .slice none 0 0, .slice la m lc, .slice none 0 0]) (by simp [results, Tryz.results181, go_sem, z0, z1, z2, z3, z4, z5, z6, z7]) rfl ?_
      obtain ⟨f1, f2, f3⟩ := qnd_fin HK.out HS.out HPS.out HF.out (set8_keeps wr w.heap.size (.int .i64 6) (.bool false) (.string ⟨#[]⟩) (.slice none 0 0) (.slice none 0 0) (.slice none 0 0) (.slice la m lc) (.slice none 0 0))
      exact ⟨⟨6, false, ⟨#[]⟩, none, 0, 0, none, 0, 0, none, 0, 0, la, m, lc, none, 0, 0⟩, _, _, rfl, HIB.out.1, HIB.out.2, f1, f2, f3⟩
end Go.Proofs.YtiihpbccabeoeaaGreatDoor
