/-
  The document's own parser: while, until.
-/
import Derived.Test.YtiihpbccabeoeaaGreatDoorZPxT
namespace Go.Proofs.YtiihpbccabeoeaaGreatDoor
open Go.RowKit
set_option linter.unusedVariables false
theorem qf_le {w : World} {D : Nat → Prop} {T : List Tk} {res : PR (List Dt)} {us : List Value} {j x : Nat} {cl : Bool} (h : QF cl w D T res us j x) (hx : x = 0) : j ≤ T.length := by
  cases res with
  | error y =>
    rcases h with ⟨h1, h2⟩ | ⟨_, _, ho⟩
    · omega
    · have := toks_in (op_pos ho); omega
  | ok p =>
    obtain ⟨ds, r⟩ := p
    rcases h with ⟨_, _, _, _, hj⟩ | ⟨_, _, h9 | ⟨_, ho⟩⟩
    · exact hj
    · omega
    · have := toks_in (op_pos ho); omega
theorem while_fin {K kind : Nat} {ts : List Tk} {wl w5 w6 : World} {Dl D5 D : Nat → Prop} {T : List Tk} {res : PR (List Dt)} {us1 us2 : List Value} {j bd j2 x2 : Nat} (hl : QF true wl Dl T (listF (commandF K) ts) us1 j bd) (hres : res = whileG (commandF K) kind (listF (commandF K) ts))
    (hcase : (bd = 0 ∧ QF false w5 D5 T (bodyF (commandF K) (T.drop j)) us2 j2 x2) ∨ (bd ≠ 0 ∧ x2 = bd)) (t1 : ∀ ds, RdL wl Dl ds us1 → RdL w6 D ds us1) (t2 : ∀ ds, RdL w5 D5 ds us2 → RdL w6 D ds us2) :
    (∃ ds, res = .ok (ndR kind false [] [] [] [] ds [], T.drop j2) ∧ x2 = 0 ∧ j2 ≤ T.length ∧ ds.length = 2 * 8 ∧ RdL w6 D ds (us1 ++ us2)) ∨ QF false w6 (fun _ => False) T res [] j2 x2 := by
  have hno : ∀ ds r, closesF r = false → whileG (commandF K) kind (.ok (ds, r)) = .error 2 := fun ds r h => by
    unfold whileG
    dsimp only
    rw [body_none]
    cases hw : isWF [100, 111] r with
    | false => rfl
    | true => rw [wfP1 (s := [100, 111]) (by decide) r hw] at h; cases h
  rcases hcase with ⟨hb, hq⟩ | ⟨hb, rfl⟩
  · rcases hl.split (whileG (commandF K) kind) (fun e => rfl) (fun _ => hno) with ⟨ds, r, hr, _, hn, hd, hj, _⟩ | ⟨h9, _⟩ | ⟨_, ho, hr⟩
    · have hr2 : res = (match bodyF (commandF K) (T.drop j) with
          | .error e => .error e
          | .ok (b, r2) => .ok (ndR kind false [] [] [] [] (ds ++ b) [], r2)) := by rw [hres, hr, hj]; rfl
      rcases hq.split (fun p => (match p with
          | .error e => .error e
          | .ok (b, r2) => .ok (ndR kind false [] [] [] [] (ds ++ b) [], r2) : PR (List Dt))) (fun e => rfl) (fun h => by cases h) with ⟨d2, r2, hr3, hx, hn2, hd2, hj2, hl2⟩ | ⟨hx, hr3⟩ | ⟨hx, ho, hr3⟩
      · refine .inl ⟨ds ++ d2, ?_, hx, hl2, by rw [List.length_append, hn.len, hn2.len], (t1 ds hd).app (t2 d2 hd2)⟩
        rw [hr2, hr3, hj2]
      · exact .inr (QF.err hx (hr2.trans hr3))
      · exact .inr (QF.stk ho hx (hr2.trans hr3))
    · exact absurd hb h9
    · rw [body_none (wfP2 (by decide) _ ho)] at hq
      rw [hres, hr]
      exact .inr hq
  · rcases hl.split (whileG (commandF K) kind) (fun e => rfl) (fun _ => hno) with ⟨ds, r, hr, h0, _⟩ | ⟨_, hr⟩ | ⟨h0, _⟩
    · exact absurd h0 hb
    · exact .inr (QF.err hb (by rw [hres, hr]))
    · exact absurd h0 hb
theorem qbody_uni (K : Nat) (hcmd : QCmdOK K) (w : World) (Lo B ps n i x deep : Nat) (tv : Value) (T : List Tk) (h : QS w Lo B ps tv n T i x) (hi : x = 0 → i ≤ T.length) (hi2 : i + 1 ≤ T.length + 1000) (hd : deep + 1 + K = 41) :
    Calls Tryz.prog 184 #[.pointer (some ⟨ps, 0, none⟩), .int .i64 (deep : Nat)] w fun e w' => ∃ (v : NV) (j y : Nat), e = .returned (.agg #[.int .i64 v.k, .bool v.nt, .string v.nm, .slice v.a0 v.n0 v.c0, .slice v.a1 v.n1 v.c1, .slice v.a2 v.n2 v.c2, .slice v.a3 v.n3 v.c3, .slice v.a4 v.n4 v.c4]) ∧ i ≤ j ∧ (j ≤ T.length + (2 * K + 1) ∨ j = i + 1) ∧ QS w' Lo B ps tv n T j y ∧ Keeps (fun b => b = ps) w w' ∧ ((x = 0 ∧ QF false w' (Qd Lo B w.heap.size) T (bodyF (commandF K) (T.drop i)) v.vals j y) ∨ (x ≠ 0 ∧ y = x)) := by
  by_cases hx : x = 0
  · subst hx
    refine (qbody_any K hcmd w Lo B ps n i deep tv T h (hi rfl) hd).mono ?_
    rintro e w' ⟨v, j, y, he, h1, h2, h3, h4, h5⟩
    exact ⟨v, j, y, he, h1, .inl h2, h3, h4, .inl ⟨rfl, h5⟩⟩
  · refine (qbody_bad w Lo B ps n i x deep tv T h hx hi2).mono ?_
    rintro e w' ⟨he, h3, h4⟩
    exact ⟨⟨0, false, ⟨#[]⟩, none, 0, 0, none, 0, 0, none, 0, 0, none, 0, 0, none, 0, 0⟩, i + 1, x, he, by omega, .inr rfl, h3, h4, .inr ⟨hx, rfl⟩⟩
set_option maxRecDepth 100000 in
set_option maxHeartbeats 2000000 in
theorem qwhile_any (K : Nat) (hcmd : QCmdOK K) (w : World) (Lo B ps n i deep : Nat) (tv : Value) (T : List Tk) (h : QS w Lo B ps tv n T i 0) (hi : i ≤ T.length) (hd : deep + 1 + K = 41) (ho : isWF [119, 104, 105, 108, 101] (T.drop i) = true) :
    Calls Tryz.prog 163 #[.pointer (some ⟨ps, 0, none⟩), .int .i64 (deep : Nat)] w (QNode w Lo B ps tv n T i (2 * K + 1) false (whileF (commandF K) 7 (T.drop i).tail)) := by
  obtain ⟨res, hres⟩ : ∃ res, res = whileF (commandF K) 7 (T.drop i).tail := ⟨_, rfl⟩
  rw [← hres]
  rw [while_eq, drop_tail] at hres
  have HPS := Lib.hid h.lt
  have HS := Lib.hid h
  have HC := Lib.hid hcmd
  have HD := Lib.hid hd
  have HRES := Lib.hid hres
  have hmT : T.length ≤ 20000 := h.sm.1
  have hdw : IntKind.i64.wrap ((deep : Int) + 1) = (deep : Int) + 1 := IntWalk.i64_in _ (by omega)
  have hsum : IntKind.i64.wrap ((i : Int) + 1) = (i : Int) + 1 := IntWalk.i64_in _ (by omega)
  have hc8 := cells_node
  have HO := Lib.hid (beq_iff_eq.1 ho)
  have HOP := Lib.hid (word_op ho (by decide))
  have hpos := toks_in (isW_pos (by decide) ho)
  clear h hcmd hd hres ho
  go_enter Tryz.func163, Tryz.ntmps163
  go_wp2_with fail
  obtain ⟨W, hW⟩ : ∃ W, W = w.alloc (.cells #[.int .i64 0, .bool false, .string ⟨#[]⟩, .slice none 0 0, .slice none 0 0, .slice none 0 0, .slice none 0 0, .slice none 0 0] 44) := ⟨_, rfl⟩
  have hk0 : Keeps (fun _ => False) w W := by rw [hW]; exact (Keeps.refl _ _).alloc _
  have HZ := Lib.hid (show RecAt W w.heap.size [.int .i64 0, .bool false, .string ⟨#[]⟩, .slice none 0 0, .slice none 0 0, .slice none 0 0, .slice none 0 0, .slice none 0 0] by rw [hW]; exact new_rec8 w _ _ _ _ _ _ _ _ _)
  rw [← hW]
  have HK := Lib.hid (hk0.mono (T := fun b => b = ps) (fun _ _ h => h.elim))
  replace HS := Lib.hid (HS.out.keep0 hk0)
  clear hk0 hW
  have HQ := Lib.hid (qop_at HS.out [40] false HOP.out 0)
  refine HQ.out.mono ?_
  rintro e wq ⟨rfl, dq, rfl⟩
  obtain ⟨Wa, hw2⟩ : ∃ Wa, Wa = W.drewN dq := ⟨_, rfl⟩
  rw [← hw2]
  have hkw : Keeps (fun _ => False) W Wa := by rw [hw2]; exact (Keeps.refl _ _).drewN _
  replace HS := Lib.hid (HS.out.keep0 hkw)
  replace HZ := Lib.hid (HZ.out.keep hkw (fun h => h))
  replace HK := Lib.hid (HK.out.trans hkw (fun _ _ h => h.elim))
  clear hw2 hkw
  have HQ2 := Lib.hid (qplain_at HS.out [119, 104, 105, 108, 101] HO.out 0)
  go_wp2_with fail
  refine HQ2.out.mono ?_
  rintro e wq ⟨rfl, dq, rfl⟩
  obtain ⟨W1, hw2⟩ : ∃ W1, W1 = Wa.drewN dq := ⟨_, rfl⟩
  rw [← hw2]
  have hkw : Keeps (fun _ => False) Wa W1 := by rw [hw2]; exact (Keeps.refl _ _).drewN _
  replace HS := Lib.hid (HS.out.keep0 hkw)
  replace HZ := Lib.hid (HZ.out.keep hkw (fun h => h))
  replace HK := Lib.hid (HK.out.trans hkw (fun _ _ h => h.elim))
  clear hw2 hkw
  obtain ⟨c0, c1, c2, f1, f2⟩ := HS.out.cells
  have hlt := HS.out.lt
  go_wp2_with fail
  obtain ⟨W2, hw2⟩ : ∃ W2, W2 = W1.setCell ⟨ps, 1, none⟩ (.int .i64 ((i : Int) + 1)) := ⟨_, rfl⟩
  rw [← hw2]
  obtain ⟨hi1, hi2⟩ := inc_qs HS.out (by omega)
  rw [← hw2] at hi1 hi2
  replace HS := Lib.hid hi1
  replace HZ := Lib.hid (HZ.out.keep hi2 (fun e => by have := HPS.out; omega))
  replace HK := Lib.hid (HK.out.trans hi2 (fun _ _ h => h))
  clear hw2 hi1 hi2
  clear c0 c1 c2 f1 f2 hlt HO HOP
  refine (qlist_any K HC.out W2 Lo B ps n (i + 1) (deep + 1) tv T HS.out (by omega) (by have := HD.out; omega)).mono ?_
  rintro e w3 ⟨v, j, bd, rfl, hij, hjb, hs3, hk3, hf3⟩
  go_upto_region 25 with fail
  obtain ⟨NB, hNB⟩ : ∃ NB, NB = w3.heap.size := ⟨_, rfl⟩
  obtain ⟨W4, hW4⟩ : ∃ W4, W4 = w3.alloc (.cells #[.int .i64 v.k, .bool v.nt, .string v.nm, .slice v.a0 v.n0 v.c0, .slice v.a1 v.n1 v.c1, .slice v.a2 v.n2 v.c2, .slice v.a3 v.n3 v.c3, .slice v.a4 v.n4 v.c4] 44) := ⟨_, rfl⟩
  rw [← hW4]
  try rw [← hNB]
  have hk4 : Keeps (fun _ => False) w3 W4 := by rw [hW4]; exact (Keeps.refl _ _).alloc _
  have hkk := hk3.trans hk4 (fun _ _ h => h.elim)
  replace HS := Lib.hid (hs3.keep0 hk4)
  have hnb : NB ≠ ps := by have := hs3.lt; omega
  have HN := Lib.hid (show RecAt W4 NB [.int .i64 v.k, .bool v.nt, .string v.nm, .slice v.a0 v.n0 v.c0, .slice v.a1 v.n1 v.c1, .slice v.a2 v.n2 v.c2, .slice v.a3 v.n3 v.c3, .slice v.a4 v.n4 v.c4] by rw [hW4, hNB]; exact new_rec8 _ _ _ _ _ _ _ _ _ _)
  have hwc := HZ.out.lt
  replace HZ := Lib.hid (HZ.out.keep hkk (fun e => by have := HPS.out; omega))
  replace HK := Lib.hid (HK.out.trans hkk (fun _ _ h => h))
  have HQF := Lib.hid hf3
  have HTO := Lib.hid (show ∀ ds, RdL w3 (Qd Lo B W2.heap.size) ds v.vals → RdL W4 (fun b => Qd Lo B w.heap.size b ∧ b ≠ w.heap.size) ds v.vals from fun ds hr => (hr.keep hk4 (fun _ _ _ h => h)).mono (fun b _ hb => by have := hs3.ps; have := HPS.out; rcases hb with h | h; exact ⟨.inl h, by omega⟩; exact ⟨.inr (by omega), by omega⟩))
  have HIB := Lib.hid (show i ≤ j + 1 ∧ j + 1 ≤ T.length + (2 * K + 1) by omega)
  have HIB0 := Lib.hid (show i + 1 ≤ j from hij)
  have hjb2 : j + 1 ≤ T.length + 500 := by have := HD.out; omega
  clear hs3 hk3 hf3 hk4 hkk hNB hW4 hij hjb hwc
  go_wp2_with fail
  refine (qbody_uni K HC.out W4 Lo B ps n j bd deep tv T HS.out (fun h => qf_le HQF.out h) (by omega) HD.out).mono ?_
  rintro e w5 ⟨v2, j2, xb, rfl, hij2, hjb3, hs5, hk5, hf5⟩
  have HIB2 := Lib.hid (show i ≤ j2 ∧ j2 ≤ T.length + (2 * K + 1) by have := HIB0.out; have := HIB.out; omega)
  clear hij2 hjb3
  go_upto_region 26 with fail
  obtain ⟨NC, hNC⟩ : ∃ NC, NC = w5.heap.size := ⟨_, rfl⟩
  obtain ⟨W6, hW6⟩ : ∃ W6, W6 = w5.alloc (.cells #[.int .i64 v2.k, .bool v2.nt, .string v2.nm, .slice v2.a0 v2.n0 v2.c0, .slice v2.a1 v2.n1 v2.c1, .slice v2.a2 v2.n2 v2.c2, .slice v2.a3 v2.n3 v2.c3, .slice v2.a4 v2.n4 v2.c4] 44) := ⟨_, rfl⟩
  rw [← hW6]
  try rw [← hNC]
  have hk6 : Keeps (fun _ => False) w5 W6 := by rw [hW6]; exact (Keeps.refl _ _).alloc _
  have HNC := Lib.hid (show RecAt W6 NC [.int .i64 v2.k, .bool v2.nt, .string v2.nm, .slice v2.a0 v2.n0 v2.c0, .slice v2.a1 v2.n1 v2.c1, .slice v2.a2 v2.n2 v2.c2, .slice v2.a3 v2.n3 v2.c3, .slice v2.a4 v2.n4 v2.c4] by rw [hW6, hNC]; exact new_rec8 _ _ _ _ _ _ _ _ _ _)
  have hkk := hk5.trans hk6 (fun _ _ h => h.elim)
  have hwc := HZ.out.lt
  replace HS := Lib.hid (hs5.keep0 hk6)
  replace HZ := Lib.hid (HZ.out.keep hkk (fun e => by have := HPS.out; omega))
  replace HK := Lib.hid (HK.out.trans hkk (fun _ _ h => h))
  replace HN := Lib.hid (HN.out.keep hkk hnb)
  have HFIN := Lib.hid (while_fin (w6 := W6) (D := fun b => Qd Lo B w.heap.size b ∧ b ≠ w.heap.size) HQF.out HRES.out hf5 (fun ds hr => (HTO.out ds hr).keep hkk (fun b _ hb e => qd_ne (X := w.heap.size) hs5.ps HPS.out hb.1 e)) (fun ds hr => (hr.keep hk6 (fun _ _ _ h => h)).mono (fun b _ hb => by have := hs5.ps; have := HPS.out; rcases hb with h | h; exact ⟨.inl h, by omega⟩; exact ⟨.inr (by omega), by omega⟩)))
  clear hs5 hk5 hk6 hkk hNC hW6 hwc hf5
  obtain ⟨⟨x0, x1, x2, x3, x4, x5, x6, x7⟩, ⟨xf0, xf1, xf2, xf3, xf4, xf5, xf6, xf7⟩⟩ := HN.out.eight
  obtain ⟨⟨u0, u1, u2, u3, u4, u5, u6, u7⟩, ⟨uf0, uf1, uf2, uf3, uf4, uf5, uf6, uf7⟩⟩ := HNC.out.eight
  have hNl := HN.out.lt
  have hNCl := HNC.out.lt
  obtain ⟨⟨z0, z1, z2, z3, z4, z5, z6, z7⟩, ⟨zf0, zf1, zf2, zf3, zf4, zf5, zf6, zf7⟩⟩ := HZ.out.eight
  have hzl := HZ.out.lt
  go_wp2_with fail
  refine bodyPost_ret (v := .agg #[.int .i64 7, .bool false, .string ⟨#[]⟩, .slice none 0 0, .slice none 0 0, .slice none 0 0, .slice (some ⟨W6.heap.size, 0, none⟩) 2 2, .slice none 0 0]) (by simp [results, Tryz.results163, go_sem, z0, z1, z2, z3, z4, z5, z6, z7, hzl]) rfl ?_
  exact ⟨⟨7, false, ⟨#[]⟩, none, 0, 0, none, 0, 0, none, 0, 0, some ⟨W6.heap.size, 0, none⟩, 2, 2, none, 0, 0⟩, j2, xb, rfl, HIB2.out.1, HIB2.out.2, pack_kids (kind := 7) (m := 2) (vv := v.vals ++ v2.vals) HK.out HS.out HPS.out HZ.out.lt (set8_keeps W6 w.heap.size (.int .i64 7) (.bool false) (.string ⟨#[]⟩) (.slice none 0 0) (.slice none 0 0) (.slice none 0 0) (.slice (some ⟨W6.heap.size, 0, none⟩) 2 2) (.slice none 0 0)) (by simp [World.setCell]) rfl (by decide) HFIN.out⟩
set_option maxRecDepth 100000 in
set_option maxHeartbeats 2000000 in
theorem quntil_any (K : Nat) (hcmd : QCmdOK K) (w : World) (Lo B ps n i deep : Nat) (tv : Value) (T : List Tk) (h : QS w Lo B ps tv n T i 0) (hi : i ≤ T.length) (hd : deep + 1 + K = 41) (ho : isWF [117, 110, 116, 105, 108] (T.drop i) = true) :
    Calls Tryz.prog 163 #[.pointer (some ⟨ps, 0, none⟩), .int .i64 (deep : Nat)] w (QNode w Lo B ps tv n T i (2 * K + 1) false (whileF (commandF K) 8 (T.drop i).tail)) := by
  obtain ⟨res, hres⟩ : ∃ res, res = whileF (commandF K) 8 (T.drop i).tail := ⟨_, rfl⟩
  rw [← hres]
  rw [while_eq, drop_tail] at hres
  have HPS := Lib.hid h.lt
  have HS := Lib.hid h
  have HC := Lib.hid hcmd
  have HD := Lib.hid hd
  have HRES := Lib.hid hres
  have hmT : T.length ≤ 20000 := h.sm.1
  have hdw : IntKind.i64.wrap ((deep : Int) + 1) = (deep : Int) + 1 := IntWalk.i64_in _ (by omega)
  have hsum : IntKind.i64.wrap ((i : Int) + 1) = (i : Int) + 1 := IntWalk.i64_in _ (by omega)
  have hc8 := cells_node
  have HO := Lib.hid (beq_iff_eq.1 ho)
  have HOP := Lib.hid (word_op ho (by decide))
  have hpos := toks_in (isW_pos (by decide) ho)
  clear h hcmd hd hres ho
  go_enter Tryz.func163, Tryz.ntmps163
  go_wp2_with fail
  obtain ⟨W, hW⟩ : ∃ W, W = w.alloc (.cells #[.int .i64 0, .bool false, .string ⟨#[]⟩, .slice none 0 0, .slice none 0 0, .slice none 0 0, .slice none 0 0, .slice none 0 0] 44) := ⟨_, rfl⟩
  have hk0 : Keeps (fun _ => False) w W := by rw [hW]; exact (Keeps.refl _ _).alloc _
  have HZ := Lib.hid (show RecAt W w.heap.size [.int .i64 0, .bool false, .string ⟨#[]⟩, .slice none 0 0, .slice none 0 0, .slice none 0 0, .slice none 0 0, .slice none 0 0] by rw [hW]; exact new_rec8 w _ _ _ _ _ _ _ _ _)
  rw [← hW]
  have HK := Lib.hid (hk0.mono (T := fun b => b = ps) (fun _ _ h => h.elim))
  replace HS := Lib.hid (HS.out.keep0 hk0)
  clear hk0 hW
  have HQ := Lib.hid (qop_at HS.out [40] false HOP.out 0)
  refine HQ.out.mono ?_
  rintro e wq ⟨rfl, dq, rfl⟩
  obtain ⟨Wa, hw2⟩ : ∃ Wa, Wa = W.drewN dq := ⟨_, rfl⟩
  rw [← hw2]
  have hkw : Keeps (fun _ => False) W Wa := by rw [hw2]; exact (Keeps.refl _ _).drewN _
  replace HS := Lib.hid (HS.out.keep0 hkw)
  replace HZ := Lib.hid (HZ.out.keep hkw (fun h => h))
  replace HK := Lib.hid (HK.out.trans hkw (fun _ _ h => h.elim))
  clear hw2 hkw
  have HQ2 := Lib.hid (qplain_at HS.out [117, 110, 116, 105, 108] HO.out 0)
  go_wp2_with fail
  refine HQ2.out.mono ?_
  rintro e wq ⟨rfl, dq, rfl⟩
  obtain ⟨W1, hw2⟩ : ∃ W1, W1 = Wa.drewN dq := ⟨_, rfl⟩
  rw [← hw2]
  have hkw : Keeps (fun _ => False) Wa W1 := by rw [hw2]; exact (Keeps.refl _ _).drewN _
  replace HS := Lib.hid (HS.out.keep0 hkw)
  replace HZ := Lib.hid (HZ.out.keep hkw (fun h => h))
  replace HK := Lib.hid (HK.out.trans hkw (fun _ _ h => h.elim))
  clear hw2 hkw
  obtain ⟨c0, c1, c2, f1, f2⟩ := HS.out.cells
  have hlt := HS.out.lt
  go_wp2_with fail
  obtain ⟨W2, hw2⟩ : ∃ W2, W2 = W1.setCell ⟨ps, 1, none⟩ (.int .i64 ((i : Int) + 1)) := ⟨_, rfl⟩
  rw [← hw2]
  obtain ⟨hi1, hi2⟩ := inc_qs HS.out (by omega)
  rw [← hw2] at hi1 hi2
  replace HS := Lib.hid hi1
  replace HZ := Lib.hid (HZ.out.keep hi2 (fun e => by have := HPS.out; omega))
  replace HK := Lib.hid (HK.out.trans hi2 (fun _ _ h => h))
  clear hw2 hi1 hi2
  clear c0 c1 c2 f1 f2 hlt HO HOP
  refine (qlist_any K HC.out W2 Lo B ps n (i + 1) (deep + 1) tv T HS.out (by omega) (by have := HD.out; omega)).mono ?_
  rintro e w3 ⟨v, j, bd, rfl, hij, hjb, hs3, hk3, hf3⟩
  go_upto_region 25 with fail
  obtain ⟨NB, hNB⟩ : ∃ NB, NB = w3.heap.size := ⟨_, rfl⟩
  obtain ⟨W4, hW4⟩ : ∃ W4, W4 = w3.alloc (.cells #[.int .i64 v.k, .bool v.nt, .string v.nm, .slice v.a0 v.n0 v.c0, .slice v.a1 v.n1 v.c1, .slice v.a2 v.n2 v.c2, .slice v.a3 v.n3 v.c3, .slice v.a4 v.n4 v.c4] 44) := ⟨_, rfl⟩
  rw [← hW4]
  try rw [← hNB]
  have hk4 : Keeps (fun _ => False) w3 W4 := by rw [hW4]; exact (Keeps.refl _ _).alloc _
  have hkk := hk3.trans hk4 (fun _ _ h => h.elim)
  replace HS := Lib.hid (hs3.keep0 hk4)
  have hnb : NB ≠ ps := by have := hs3.lt; omega
  have HN := Lib.hid (show RecAt W4 NB [.int .i64 v.k, .bool v.nt, .string v.nm, .slice v.a0 v.n0 v.c0, .slice v.a1 v.n1 v.c1, .slice v.a2 v.n2 v.c2, .slice v.a3 v.n3 v.c3, .slice v.a4 v.n4 v.c4] by rw [hW4, hNB]; exact new_rec8 _ _ _ _ _ _ _ _ _ _)
  have hwc := HZ.out.lt
  replace HZ := Lib.hid (HZ.out.keep hkk (fun e => by have := HPS.out; omega))
  replace HK := Lib.hid (HK.out.trans hkk (fun _ _ h => h))
  have HQF := Lib.hid hf3
  have HTO := Lib.hid (show ∀ ds, RdL w3 (Qd Lo B W2.heap.size) ds v.vals → RdL W4 (fun b => Qd Lo B w.heap.size b ∧ b ≠ w.heap.size) ds v.vals from fun ds hr => (hr.keep hk4 (fun _ _ _ h => h)).mono (fun b _ hb => by have := hs3.ps; have := HPS.out; rcases hb with h | h; exact ⟨.inl h, by omega⟩; exact ⟨.inr (by omega), by omega⟩))
  have HIB := Lib.hid (show i ≤ j + 1 ∧ j + 1 ≤ T.length + (2 * K + 1) by omega)
  have HIB0 := Lib.hid (show i + 1 ≤ j from hij)
  have hjb2 : j + 1 ≤ T.length + 500 := by have := HD.out; omega
  clear hs3 hk3 hf3 hk4 hkk hNB hW4 hij hjb hwc
  go_wp2_with fail
  refine (qbody_uni K HC.out W4 Lo B ps n j bd deep tv T HS.out (fun h => qf_le HQF.out h) (by omega) HD.out).mono ?_
  rintro e w5 ⟨v2, j2, xb, rfl, hij2, hjb3, hs5, hk5, hf5⟩
  have HIB2 := Lib.hid (show i ≤ j2 ∧ j2 ≤ T.length + (2 * K + 1) by have := HIB0.out; have := HIB.out; omega)
  clear hij2 hjb3
  go_upto_region 26 with fail
  obtain ⟨NC, hNC⟩ : ∃ NC, NC = w5.heap.size := ⟨_, rfl⟩
  obtain ⟨W6, hW6⟩ : ∃ W6, W6 = w5.alloc (.cells #[.int .i64 v2.k, .bool v2.nt, .string v2.nm, .slice v2.a0 v2.n0 v2.c0, .slice v2.a1 v2.n1 v2.c1, .slice v2.a2 v2.n2 v2.c2, .slice v2.a3 v2.n3 v2.c3, .slice v2.a4 v2.n4 v2.c4] 44) := ⟨_, rfl⟩
  rw [← hW6]
  try rw [← hNC]
  have hk6 : Keeps (fun _ => False) w5 W6 := by rw [hW6]; exact (Keeps.refl _ _).alloc _
  have HNC := Lib.hid (show RecAt W6 NC [.int .i64 v2.k, .bool v2.nt, .string v2.nm, .slice v2.a0 v2.n0 v2.c0, .slice v2.a1 v2.n1 v2.c1, .slice v2.a2 v2.n2 v2.c2, .slice v2.a3 v2.n3 v2.c3, .slice v2.a4 v2.n4 v2.c4] by rw [hW6, hNC]; exact new_rec8 _ _ _ _ _ _ _ _ _ _)
  have hkk := hk5.trans hk6 (fun _ _ h => h.elim)
  have hwc := HZ.out.lt
  replace HS := Lib.hid (hs5.keep0 hk6)
  replace HZ := Lib.hid (HZ.out.keep hkk (fun e => by have := HPS.out; omega))
  replace HK := Lib.hid (HK.out.trans hkk (fun _ _ h => h))
  replace HN := Lib.hid (HN.out.keep hkk hnb)
  have HFIN := Lib.hid (while_fin (w6 := W6) (D := fun b => Qd Lo B w.heap.size b ∧ b ≠ w.heap.size) HQF.out HRES.out hf5 (fun ds hr => (HTO.out ds hr).keep hkk (fun b _ hb e => qd_ne (X := w.heap.size) hs5.ps HPS.out hb.1 e)) (fun ds hr => (hr.keep hk6 (fun _ _ _ h => h)).mono (fun b _ hb => by have := hs5.ps; have := HPS.out; rcases hb with h | h; exact ⟨.inl h, by omega⟩; exact ⟨.inr (by omega), by omega⟩)))
  clear hs5 hk5 hk6 hkk hNC hW6 hwc hf5
  obtain ⟨⟨x0, x1, x2, x3, x4, x5, x6, x7⟩, ⟨xf0, xf1, xf2, xf3, xf4, xf5, xf6, xf7⟩⟩ := HN.out.eight
  obtain ⟨⟨u0, u1, u2, u3, u4, u5, u6, u7⟩, ⟨uf0, uf1, uf2, uf3, uf4, uf5, uf6, uf7⟩⟩ := HNC.out.eight
  have hNl := HN.out.lt
  have hNCl := HNC.out.lt
  obtain ⟨⟨z0, z1, z2, z3, z4, z5, z6, z7⟩, ⟨zf0, zf1, zf2, zf3, zf4, zf5, zf6, zf7⟩⟩ := HZ.out.eight
  have hzl := HZ.out.lt
  go_wp2_with fail
  refine bodyPost_ret (v := .agg #[.int .i64 8, .bool false, .string ⟨#[]⟩, .slice none 0 0, .slice none 0 0, .slice none 0 0, .slice (some ⟨W6.heap.size, 0, none⟩) 2 2, .slice none 0 0]) (by simp [results, Tryz.results163, go_sem, z0, z1, z2, z3, z4, z5, z6, z7, hzl]) rfl ?_
  exact ⟨⟨8, false, ⟨#[]⟩, none, 0, 0, none, 0, 0, none, 0, 0, some ⟨W6.heap.size, 0, none⟩, 2, 2, none, 0, 0⟩, j2, xb, rfl, HIB2.out.1, HIB2.out.2, pack_kids (kind := 8) (m := 2) (vv := v.vals ++ v2.vals) HK.out HS.out HPS.out HZ.out.lt (set8_keeps W6 w.heap.size (.int .i64 8) (.bool false) (.string ⟨#[]⟩) (.slice none 0 0) (.slice none 0 0) (.slice none 0 0) (.slice (some ⟨W6.heap.size, 0, none⟩) 2 2) (.slice none 0 0)) (by simp [World.setCell]) rfl (by decide) HFIN.out⟩
end Go.Proofs.YtiihpbccabeoeaaGreatDoor
