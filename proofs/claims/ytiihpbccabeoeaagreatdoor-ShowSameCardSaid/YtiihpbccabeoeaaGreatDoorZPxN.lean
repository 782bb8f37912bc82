/-
  The document's own parser: pipelines.
-/
import Derived.Test.YtiihpbccabeoeaaGreatDoorZPkW
import Derived.Deep.AppendLies
namespace Go.Proofs.YtiihpbccabeoeaaGreatDoor
open Go.RowKit
set_option linter.unusedVariables false
def pipeF (K : Nat) (q : Bool) (p : PR (List Dt)) : PR (List Dt) := match p with
  | .error e => .error e
  | .ok (d, r) => pipeEnd q (pipeLoop (commandF K) (r.length + 1) d r)
def pipeG (K M : Nat) (q : Bool) (acc : List Dt) (p : PR (List Dt)) : PR (List Dt) := match p with
  | .error e => .error e
  | .ok (d, r) => pipeEnd q (pipeLoop (commandF K) M (acc ++ d) r)
theorem qpipeline_eq (K : Nat) (ts : List Tk) (q : Bool) (hq : isWF [33] ts = q) : pipelineF (commandF K) ts = pipeF K q (commandF K (goF q ts)) := by
  subst hq
  rw [pipeline_eq]
  rfl
theorem pipe_iter {K M : Nat} {q : Bool} {acc : List Dt} {ts : List Tk} (h : isOpF [124] ts = true) : pipeEnd q (pipeLoop (commandF K) (M + 1) acc ts) = pipeG K M q acc (commandF K (linesF ts.tail)) := by
  rw [pipeLoop_succ, h, if_pos rfl]
  cases commandF K (linesF ts.tail) with
  | error e => rfl
  | ok p => rfl
theorem pipe_stop {K M : Nat} {q : Bool} {acc : List Dt} {ts : List Tk} (h : isOpF [124] ts = false) : pipeEnd q (pipeLoop (commandF K) (M + 1) acc ts) = if acc.length = 8 ∧ q = false then .ok (acc, ts) else .ok (ndR 2 q [] [] [] [] acc [], ts) := by
  rw [pipeLoop_succ, h, if_neg (by simp)]
  rfl
def PG (K : Nat) (q : Bool) (acc : List Dt) (T : List Tk) (I : Nat) (res : PR (List Dt)) : Prop := ∃ M, T.length - I + 1 ≤ M ∧ res = pipeEnd q (pipeLoop (commandF K) M acc (T.drop I))
theorem pipe_fin {K : Nat} {q : Bool} {acc : List Dt} {T : List Tk} {I x m : Nat} {res : PR (List Dt)} {gd : Prop} {w : World} {D : Nat → Prop} {us : List Value} (hst : QSt gd (PG K q acc T I res) T I x res) (hx : x ≠ 0 ∨ isOpF [124] (T.drop I) = false) (hl : gd → acc.length = m * 8) (ha : gd → AllN acc)
    (hr : gd → RdL w D (if m = 1 ∧ q = false then acc else ndR 2 q [] [] [] [] acc []) us) : QF false w D T res us I x := by
  rcases hx with hx | ho
  · rcases hst with ⟨_, h0, _⟩ | ⟨_, h⟩ | ⟨h0, _⟩
    · exact absurd h0 hx
    · exact QF.err hx h
    · exact absurd h0 hx
  · refine hst.fin (fun g hp => ?_) (fun g hp => ⟨?_, hr g⟩)
    · obtain ⟨M, hM, h⟩ := hp
      obtain ⟨M, rfl⟩ : ∃ M', M = M' + 1 := ⟨M - 1, by omega⟩
      have h8 := hl g
      rw [h, pipe_stop ho]
      by_cases hc : m = 1 ∧ q = false
      · rw [if_pos ⟨by omega, hc.2⟩, if_pos hc]
      · rw [if_neg (fun h' => hc ⟨by omega, h'.2⟩), if_neg hc]
    · by_cases hc : m = 1 ∧ q = false
      · rw [if_pos hc]
        exact (ha g).one (by have := hl g; omega)
      · rw [if_neg hc]
        exact ⟨_, _, _, _, _, _, _, _, rfl⟩
set_option maxRecDepth 100000 in
set_option maxHeartbeats 4000000 in
theorem qpipe_any (K : Nat) (hcmd : QCmdOK K) (w : World) (Lo B ps n i deep : Nat) (tv : Value) (T : List Tk) (h : QS w Lo B ps tv n T i 0) (hi : i ≤ T.length) (hd : deep + K = 41) :
    Calls Tryz.prog 123 #[.pointer (some ⟨ps, 0, none⟩), .int .i64 (deep : Nat)] w (QNode w Lo B ps tv n T i (2 * K) false (pipelineF (commandF K) (T.drop i))) := by
  obtain ⟨res, hres⟩ : ∃ res, res = pipelineF (commandF K) (T.drop i) := ⟨_, rfl⟩
  rw [← hres]
  obtain ⟨q, hq⟩ : ∃ q, isWF [33] (T.drop i) = q := ⟨_, rfl⟩
  rw [qpipeline_eq K _ q hq] at hres
  have hc8 := cells_node
  obtain ⟨i0, hi0, hz0, hz1, hz2⟩ := info_parts info_node
  have HRES := Lib.hid hres
  have HC := Lib.hid hcmd
  have HD := Lib.hid hd
  have HPS := Lib.hid h.lt
  have hmT : T.length ≤ 20000 := h.sm.1
  obtain ⟨s, hs⟩ : ∃ s, plainT (atF (T.drop i)) = s := ⟨_, rfl⟩
  have hsq : (s == [33]) = q := by rw [← hs]; exact hq
  have HSQ := Lib.hid hq
  have HS := Lib.hid h
  have HSP := Lib.hid hs
  clear hres hcmd h hq hs
  go_enter Tryz.func123, Tryz.ntmps123
  go_wp2_with fail
  obtain ⟨N, hN⟩ : ∃ N, N = w.heap.size + 1 := ⟨_, rfl⟩
  obtain ⟨W, hW⟩ : ∃ W, W = (w.alloc (.cells #[.int .i64 0, .bool false, .string ⟨#[]⟩, .slice none 0 0, .slice none 0 0, .slice none 0 0, .slice none 0 0, .slice none 0 0] 44)).alloc (.cells #[.int .i64 2, .bool false, .string ⟨#[]⟩, .slice none 0 0, .slice none 0 0, .slice none 0 0, .slice none 0 0, .slice none 0 0] 44) := ⟨_, rfl⟩
  have hk0 : Keeps (fun _ => False) w W := by rw [hW]; exact ((Keeps.refl _ _).alloc _).alloc _
  have HZ := Lib.hid (show RecAt W w.heap.size [.int .i64 0, .bool false, .string ⟨#[]⟩, .slice none 0 0, .slice none 0 0, .slice none 0 0, .slice none 0 0, .slice none 0 0] by rw [hW]; exact (new_rec8 w _ _ _ _ _ _ _ _ _).keep (S := fun _ => False) ((Keeps.refl _ _).alloc _) (fun h => h))
  have HR := Lib.hid (show RecAt W N [.int .i64 2, .bool false, .string ⟨#[]⟩, .slice none 0 0, .slice none 0 0, .slice none 0 0, .slice none 0 0, .slice none 0 0] by rw [hW, hN]; have h9 := new_rec8 (w.alloc (.cells #[.int .i64 0, .bool false, .string ⟨#[]⟩, .slice none 0 0, .slice none 0 0, .slice none 0 0, .slice none 0 0, .slice none 0 0] 44)) (.int .i64 2) (.bool false) (.string ⟨#[]⟩) (.slice none 0 0) (.slice none 0 0) (.slice none 0 0) (.slice none 0 0) (.slice none 0 0) 44; simpa using h9)
  rw [← hW]
  try rw [← hN]
  have HK0 := Lib.hid hk0
  replace HS := Lib.hid (HS.out.keep0 hk0)
  have HNX := Lib.hid (show w.heap.size < N by omega)
  have HNE := Lib.hid hN
  clear hk0 hW hN
  have HQ := Lib.hid (qplain_at HS.out s HSP.out 0)
  refine HQ.out.mono ?_
  rintro e wq ⟨rfl, dq, rfl⟩
  obtain ⟨W1, hw2⟩ : ∃ W1, W1 = W.drewN dq := ⟨_, rfl⟩
  rw [← hw2]
  have hkw : Keeps (fun _ => False) W W1 := by rw [hw2]; exact (Keeps.refl _ _).drewN _
  replace HS := Lib.hid (HS.out.keep0 hkw)
  replace HZ := Lib.hid (HZ.out.keep hkw (fun h => h))
  replace HR := Lib.hid (HR.out.keep hkw (fun h => h))
  replace HK0 := Lib.hid (HK0.out.trans hkw (fun _ _ h => h))
  clear hw2 hkw
  go_upto_if 11 with fail
  go_cut [] from 12 to 19 (fun wx => ∃ (j : Nat) (wy : World), wy = wx ∧ i ≤ j ∧ j ≤ T.length ∧ Hid (T.drop j = goF q (T.drop i)) ∧ Hid (QR (fun _ => False) True w wy Lo B ps tv n T (w.heap.size + 1) N [.int .i64 0, .bool false, .string ⟨#[]⟩, .slice none 0 0, .slice none 0 0, .slice none 0 0, .slice none 0 0, .slice none 0 0] [.int 2, .bool q, .str [], .sl 1 [], .sl 2 [], .sl 2 []] [.sl 2 []] [.int .i64 2, .bool q, .string ⟨#[]⟩, .slice none 0 0, .slice none 0 0, .slice none 0 0] [.slice none 0 0] 8 44 j 0 0 none 0 []))
  case first =>
    obtain ⟨c0, c1, c2, f1, f2⟩ := HS.out.cells
    have hlt := HS.out.lt
    obtain ⟨⟨x0, x1, x2, x3, x4, x5, x6, x7⟩, ⟨xf0, xf1, xf2, xf3, xf4, xf5, xf6, xf7⟩⟩ := HR.out.eight
    have hNl := HR.out.lt
    have hsum : IntKind.i64.wrap ((i : Int) + 1) = (i : Int) + 1 := IntWalk.i64_in _ (by omega)
    have hnp : N ≠ ps := by have := HNX.out; have := HPS.out; omega
    cases q with
    | true =>
      have HPO := Lib.hid (toks_in (isW_pos (by decide) HSQ.out))
      go_wp2_with fail
      go_meet
      case rel =>
        have hkN : Keeps (fun b => b = N) W1 (W1.setCell ⟨N, 1, none⟩ (.bool true)) := (Keeps.refl _ _).setCell _ _ fun _ => rfl
        have hnx := HNX.out
        have hpx := HPS.out
        have hbp := HS.out.ps
        have hqr : QR (fun _ => False) True w (W1.setCell ⟨N, 1, none⟩ (.bool true)) Lo B ps tv n T (w.heap.size + 1) N [.int .i64 0, .bool false, .string ⟨#[]⟩, .slice none 0 0, .slice none 0 0, .slice none 0 0, .slice none 0 0, .slice none 0 0] [.int 2, .bool true, .str [], .sl 1 [], .sl 2 [], .sl 2 []] [.sl 2 []] [.int .i64 2, .bool true, .string ⟨#[]⟩, .slice none 0 0, .slice none 0 0, .slice none 0 0] [.slice none 0 0] 8 44 i 0 0 none 0 [] := ⟨HS.out.keep hkN (fun b hb e => by omega) (fun e => hnp e.symm), (HK0.out.mono (fun _ _ h => h.elim)).fresh hkN (fun b e => by omega), HZ.out.keep hkN (fun e => by omega), HR.out.set 1 _, ⟨[], fun _ => trivial, World.ownsRow_nil _ _ _ _⟩, fun g hg => (by cases hg), fun g hg => (by cases hg), fun _ => ⟨.int _, .bool _, .str _, .nil _ _ _ (Nat.zero_le _), .nil _ _ _ (Nat.zero_le _), .nil _ _ _ (Nat.zero_le _), trivial⟩, fun _ => ⟨.nil _ _ _ (Nat.zero_le _), trivial⟩⟩
        have hinc := hqr.inc HPS.out (Nat.lt_succ_self _) HNX.out (by omega)
        exact ⟨i + 1, _, rfl, by omega, by have := HPO.out; omega, Lib.hid (by show T.drop (i + 1) = (T.drop i).tail; rw [drop_tail]), Lib.hid hinc⟩
    | false =>
      go_wp2_with fail
      go_meet
      case rel => exact ⟨i, _, rfl, Nat.le_refl _, hi, Lib.hid rfl, Lib.hid ⟨HS.out, HK0.out.mono (fun _ _ h => h.elim), HZ.out, HR.out, ⟨[], fun _ => trivial, World.ownsRow_nil _ _ _ _⟩, fun g hg => (by cases hg), fun g hg => (by cases hg), fun _ => ⟨.int _, .bool _, .str _, .nil _ _ _ (Nat.zero_le _), .nil _ _ _ (Nat.zero_le _), .nil _ _ _ (Nat.zero_le _), trivial⟩, fun _ => ⟨.nil _ _ _ (Nat.zero_le _), trivial⟩⟩⟩
  case rest =>
    obtain ⟨j1, wy, hwx, hij1, hjT1, HTJ, HG⟩ := hcut
    subst hwx
    have hnp : N ≠ ps := by have := HNX.out; have := HPS.out; omega
    have HRES1 := Lib.hid (show res = pipeF K q (commandF K (T.drop j1)) by rw [HTJ.out]; exact HRES.out)
    have hxw := HG.out.rc.lt
    have HXW := Lib.hid (show w.heap.size + 1 ≤ wy.heap.size ∧ N < wy.heap.size by have := HNE.out; omega)
    clear HRES HTJ hxw hsq HSQ HSP HS HZ HR HK0
    try clear x0 x1 x2 x3 x4 x5 x6 x7 xf0 xf1 xf2 xf3 xf4 xf5 xf6 xf7 hNl
    go_wp2_with fail
    refine (HC.out wy Lo B ps n j1 deep tv T HG.out.rs hjT1 HD.out).mono ?_
    rintro e w2 ⟨v, j2, bd, rfl, hj12, hj2b, hs2, hk2, hf2⟩
    obtain ⟨gd, dd, hgd, hst⟩ := hf2.state (pipeF K q) (fun e => rfl) (fun h => by cases h) HRES1.out
    have HST := Lib.hid (hst.map (good2 := PG K q dd T j2 res) (fun _ h => ⟨(T.drop j2).length + 1, by rw [List.length_drop]; omega, h⟩))
    have HGD := Lib.hid hgd
    have HS2 := Lib.hid hs2
    have HK2 := Lib.hid hk2
    clear hgd hst hs2 hk2 hf2
    go_upto_region 6 with fail
    obtain ⟨NB, hNB⟩ : ∃ NB, NB = w2.heap.size := ⟨_, rfl⟩
    obtain ⟨W3, hW3⟩ : ∃ W3, W3 = w2.alloc (.cells #[.int .i64 v.k, .bool v.nt, .string v.nm, .slice v.a0 v.n0 v.c0, .slice v.a1 v.n1 v.c1, .slice v.a2 v.n2 v.c2, .slice v.a3 v.n3 v.c3, .slice v.a4 v.n4 v.c4] 44) := ⟨_, rfl⟩
    rw [← hW3]
    try rw [← hNB]
    have hk3 : Keeps (fun _ => False) w2 W3 := by rw [hW3]; exact (Keeps.refl _ _).alloc _
    have HNR := Lib.hid (show RecAt W3 NB [.int .i64 v.k, .bool v.nt, .string v.nm, .slice v.a0 v.n0 v.c0, .slice v.a1 v.n1 v.c1, .slice v.a2 v.n2 v.c2, .slice v.a3 v.n3 v.c3, .slice v.a4 v.n4 v.c4] by rw [hW3, hNB]; exact new_rec8 _ _ _ _ _ _ _ _ _ _)
    have hsz2 := HK2.out.size
    have hsz3 : W3.heap.size = w2.heap.size + 1 := by rw [hW3]; simp
    obtain ⟨la0, m0, lc0, hm0, hlo, HG⟩ : ∃ (la0 : Option Addr) (m0 lc0 : Nat), m0 = 0 ∧ (∀ g, (Value.slice la0 m0 lc0).ownBlock = some g → False) ∧ Hid (QR (fun _ => False) True w wy Lo B ps tv n T (w.heap.size + 1) N [.int .i64 0, .bool false, .string ⟨#[]⟩, .slice none 0 0, .slice none 0 0, .slice none 0 0, .slice none 0 0, .slice none 0 0] [.int 2, .bool q, .str [], .sl 1 [], .sl 2 [], .sl 2 []] [.sl 2 []] [.int .i64 2, .bool q, .string ⟨#[]⟩, .slice none 0 0, .slice none 0 0, .slice none 0 0] [.slice none 0 0] 8 44 j1 0 m0 la0 lc0 []) := ⟨none, 0, 0, rfl, fun g h => (by cases h), HG⟩
    have HM0 := Lib.hid hm0
    have hm0b : m0 ≤ 5 := by omega
    have HLO := Lib.hid hlo
    obtain ⟨xs, hown4, hrec4, hF⟩ := (HG.out.frame (E' := fun b => b = NB) (fun g hg => (hlo g hg).elim)).more (G' := gd) (y := bd) (J := j2) (us := [.int .i64 v.k, .bool v.nt, .string v.nm, .slice v.a0 v.n0 v.c0, .slice v.a1 v.n1 v.c1, .slice v.a2 v.n2 v.c2, .slice v.a3 v.n3 v.c3, .slice v.a4 v.n4 v.c4]) (d2 := dd) HPS.out (Nat.lt_succ_self _) HNX.out HXW.out.1 (HK2.out.trans hk3 (fun _ _ h => h.elim)) (HS2.out.keep0 hk3) (fun _ => trivial) (fun g => ((HGD.out g).2.keep hk3 (fun _ _ _ h => h)).mono (fun _ _ h => h)) (fun b hb => by omega)
    have HDD := Lib.hid (show gd → NdD dd ∧ RdL W3 (fun b => Qd Lo B (w.heap.size + 1) b ∧ b ≠ N ∧ b < NB) dd [.int .i64 v.k, .bool v.nt, .string v.nm, .slice v.a0 v.n0 v.c0, .slice v.a1 v.n1 v.c1, .slice v.a2 v.n2 v.c2, .slice v.a3 v.n3 v.c3, .slice v.a4 v.n4 v.c4] from fun g => ⟨(HGD.out g).1, ((HGD.out g).2.lt.keep hk3 (fun _ _ _ h => h)).mono (fun b _ hb => by rcases hb.1 with h | h; exact ⟨.inl h, by have := HNX.out; have := HPS.out; have := HS2.out.ps; omega, by have := HNX.out; have := HPS.out; have := HS2.out.ps; omega⟩; exact ⟨.inr (by have := HXW.out; omega), by have := HXW.out; have := HNE.out; omega, by omega⟩)⟩)
    have HNN := Lib.hid (show N < NB ∧ w.heap.size < NB ∧ ps < NB by have := HXW.out; have := HNE.out; have := HPS.out; omega)
    have HF := Lib.hid hF
    have hrec4' := (show RecAt W3 N [.int .i64 2, .bool q, .string ⟨#[]⟩, .slice none 0 0, .slice none 0 0, .slice none 0 0, .slice la0 m0 lc0, .slice none 0 0] from hrec4)
    obtain ⟨⟨x0, x1, x2, x3, x4, x5, x6, x7⟩, ⟨xf0, xf1, xf2, xf3, xf4, xf5, xf6, xf7⟩⟩ := hrec4'.eight
    obtain ⟨⟨u0, u1, u2, u3, u4, u5, u6, u7⟩, ⟨uf0, uf1, uf2, uf3, uf4, uf5, uf6, uf7⟩⟩ := HNR.out.eight
    have hNl := hrec4.lt
    have hNBl := HNR.out.lt
    have hne : N ≠ NB := by have := HNN.out; omega
    clear hlo hm0 hF hrec4 hrec4' hk3 hsz2 hsz3 hNB hW3 HG HGD HS2 HK2
    go_wp2_with (at_builtin; refine wpList_append_lies _ rfl (.tmp 24) (.tmp 26) _ rfl 0 44 i0 _ 8 152 Tryz.underlying23 hi0 hz0 hz1 hz2 rfl (by omega) (.slice la0 m0 lc0) m0 xs rfl (hown4.alloc _) ⟨W3.heap.size, 0, none⟩ 1 1 [.int .i64 v.k, .bool v.nt, .string v.nm, .slice v.a0 v.n0 v.c0, .slice v.a1 v.n1 v.c1, .slice v.a2 v.n2 v.c2, .slice v.a3 v.n3 v.c3, .slice v.a4 v.n4 v.c4] rfl rfl (World.news_of_block (cs := #[.int .i64 v.k, .bool v.nt, .string v.nm, .slice v.a0 v.n0 v.c0, .slice v.a1 v.n1 v.c1, .slice v.a2 v.n2 v.c2, .slice v.a3 v.n3 v.c3, .slice v.a4 v.n4 v.c4]) (t := 44) (fr := (0, 0)) (heap_alloc_new W3 _)) (by simp [Value.oneCell']) (by omega) (by unfold maxLen; omega) (by omega) (by simp) (W3.heap.size + 1) (by simp) ?_; intro gg cap w5 hown2 hgrow hat hlt5; have hG5 := HF.out gg (m0 + 1) cap w5 _ hown2 ((Keeps.refl _ _).alloc _) hgrow (hat.imp id (fun h => by omega)); obtain ⟨hrec5, hq5, hk5⟩ := hG5; have hrec5 := (show RecAt w5 N [.int .i64 2, .bool q, .string ⟨#[]⟩, .slice none 0 0, .slice none 0 0, .slice none 0 0, .slice la0 m0 lc0, .slice none 0 0] from hrec5); obtain ⟨⟨z0, z1, z2, z3, z4, z5, z6, z7⟩, ⟨zf0, zf1, zf2, zf3, zf4, zf5, zf6, zf7⟩⟩ := hrec5.eight; have hN5 := hrec5.lt; have HG5 := Lib.hid (show QR (fun b => b = NB) gd w (w5.setCell ⟨N, 6, none⟩ (.slice (some ⟨gg, 0, none⟩) (m0 + 1) cap)) Lo B ps tv n T (w.heap.size + 1) N [.int .i64 0, .bool false, .string ⟨#[]⟩, .slice none 0 0, .slice none 0 0, .slice none 0 0, .slice none 0 0, .slice none 0 0] [.int 2, .bool q, .str [], .sl 1 [], .sl 2 [], .sl 2 []] [.sl 2 []] [.int .i64 2, .bool q, .string ⟨#[]⟩, .slice none 0 0, .slice none 0 0, .slice none 0 0] [.slice none 0 0] 8 44 j2 bd (m0 + 1) (some ⟨gg, 0, none⟩) cap ([] ++ dd) from hq5); have HKK := Lib.hid hk5; clear hrec5 hq5 hk5; clear hown2 hgrow hat)
    go_loopg [] (T.length + 2000 - j2) (fun g wr => ∃ (gd : Prop) (I x m : Nat) (la : Option Addr) (lc : Nat) (acc : List Dt), g = T.length + 2000 - I ∧ i ≤ I ∧ I ≤ T.length + 2 * K ∧ 1 ≤ m ∧ m ≤ I + 1 ∧ Hid (QR (fun b => b = NB) gd w wr Lo B ps tv n T (w.heap.size + 1) N [.int .i64 0, .bool false, .string ⟨#[]⟩, .slice none 0 0, .slice none 0 0, .slice none 0 0, .slice none 0 0, .slice none 0 0] [.int 2, .bool q, .str [], .sl 1 [], .sl 2 [], .sl 2 []] [.sl 2 []] [.int .i64 2, .bool q, .string ⟨#[]⟩, .slice none 0 0, .slice none 0 0, .slice none 0 0] [.slice none 0 0] 8 44 I x m la lc acc) ∧ Hid (gd → AllN acc) ∧ Hid (gd → m = 1 → RdL wr (fun b => Qd Lo B (w.heap.size + 1) b ∧ b ≠ N ∧ b < NB) acc [.int .i64 v.k, .bool v.nt, .string v.nm, .slice v.a0 v.n0 v.c0, .slice v.a1 v.n1 v.c1, .slice v.a2 v.n2 v.c2, .slice v.a3 v.n3 v.c3, .slice v.a4 v.n4 v.c4]) ∧ Hid (RecAt wr NB [.int .i64 v.k, .bool v.nt, .string v.nm, .slice v.a0 v.n0 v.c0, .slice v.a1 v.n1 v.c1, .slice v.a2 v.n2 v.c2, .slice v.a3 v.n3 v.c3, .slice v.a4 v.n4 v.c4]) ∧ Hid (QSt gd (PG K q acc T I res) T I x res))
    case atStart => exact ⟨gd, j2, bd, m0 + 1, _, _, dd, rfl, by omega, hj2b, by omega, by have := HM0.out; omega, HG5, Lib.hid (fun g => AllN.of (HDD.out g).1), Lib.hid (fun g _ => ((HDD.out g).2.keep HKK.out (fun b _ hb e => by have := HNN.out; rcases e with e | e; exact hb.2.1 e; exact HLO.out _ e))), Lib.hid (HNR.out.keep HKK.out (fun e => by have := HNN.out; rcases e with e | e; omega; exact HLO.out _ e)), HST⟩
    case round =>
      obtain ⟨gd, I, x, m, la, lc, acc, hgk, hiI, hIb, hm1, hmI, HG, HAN, HN0, HNR, HST⟩ := hrel
      have HGK := Lib.hid hgk
      clear hgk
      try clear z0 z1 z2 z3 z4 z5 z6 z7 zf0 zf1 zf2 zf3 zf4 zf5 zf6 zf7 hN5
      try clear x0 x1 x2 x3 x4 x5 x6 x7 xf0 xf1 xf2 xf3 xf4 xf5 xf6 xf7 hNl
      try clear u0 u1 u2 u3 u4 u5 u6 u7 uf0 uf1 uf2 uf3 uf4 uf5 uf6 uf7 hNBl
      obtain ⟨c0, c1, c2, f1, f2⟩ := HG.out.rs.cells
      have hlt := HG.out.rs.lt
      by_cases hx : x = 0
      · subst hx
        cases ho : isOpF [124] (T.drop I) with
        | true =>
          obtain ⟨g, hIT, M, hM, hr⟩ : gd ∧ I ≤ T.length ∧ PG K q acc T I res := by
            rcases HST.out with ⟨g, _, hIT, hp⟩ | ⟨h9, _⟩ | ⟨_, h9, _⟩
            · exact ⟨g, hIT, hp⟩
            · exact absurd rfl h9
            · rw [op40_ne h9 [124] (by decide)] at ho; cases ho
          obtain ⟨M, rfl⟩ : ∃ M', M = M' + 1 := ⟨M - 1, by omega⟩
          rw [pipe_iter ho] at hr
          have HR := Lib.hid hr
          have HG0 := Lib.hid g
          have hpos := toks_in (op_pos ho)
          have hsum : IntKind.i64.wrap ((I : Int) + 1) = (I : Int) + 1 := IntWalk.i64_in _ (by omega)
          have HQ := Lib.hid (qop_at HG.out.rs [124] true ho 0)
          clear ho hr g HST HN0
          go_wp2_with fail
          refine HQ.out.mono ?_
          rintro e wq ⟨rfl, dq, rfl⟩
          obtain ⟨w2, hw2⟩ : ∃ w2, w2 = wr.drewN dq := ⟨_, rfl⟩
          rw [← hw2]
          have hkw : Keeps (fun _ => False) wr w2 := by rw [hw2]; exact (Keeps.refl _ _).drewN _
          replace HG := Lib.hid (HG.out.keep0 hkw)
          replace HNR := Lib.hid (HNR.out.keep hkw (fun h => h))
          clear hw2 hkw
          obtain ⟨c0, c1, c2, f1, f2⟩ := HG.out.rs.cells
          have hlt := HG.out.rs.lt
          go_wp2_with fail
          obtain ⟨w3, hw2⟩ : ∃ w3, w3 = w2.setCell ⟨ps, 1, none⟩ (.int .i64 ((I : Int) + 1)) := ⟨_, rfl⟩
          rw [← hw2]
          replace HG := Lib.hid (by have h9 := HG.out.inc HPS.out (Nat.lt_succ_self _) HNX.out (by omega); rw [← hw2] at h9; exact h9)
          replace HNR := Lib.hid (HNR.out.keep (show Keeps (fun b => b = ps) w2 w3 by rw [hw2]; exact (Keeps.refl _ _).setCell _ _ fun _ => rfl) (fun e => by have := HNN.out; omega))
          clear hw2
          refine (qlines_any _ Lo B ps n (I + 1) 0 tv T HG.out.rs).mono ?_
          rintro e w4 ⟨rfl, j, hj1, hj2, hj3, hj4, hs4, hk4⟩
          have hjT : j ≤ T.length := hj2 (by omega)
          replace HG := Lib.hid (HG.out.move HPS.out (Nat.lt_succ_self _) HNX.out hk4 hs4)
          replace HNR := Lib.hid (HNR.out.keep hk4 (fun e => by have := HNN.out; omega))
          replace HR := Lib.hid (show res = pipeG K M q acc (commandF K (T.drop j)) by rw [hj4, ← drop_tail]; exact HR.out)
          have hxw := HG.out.rc.lt
          have HXW2 := Lib.hid (show w.heap.size + 1 ≤ w4.heap.size by have := HNE.out; omega)
          clear hs4 hk4 hj4 hj3 hj2 hxw c0 c1 c2 f1 f2 hlt
          go_wp2_with fail
          refine (HC.out w4 Lo B ps n j deep tv T HG.out.rs hjT HD.out).mono ?_
          rintro e w5 ⟨v2, j5, bd5, rfl, hj15, hj5b, hs5, hk5, hf5⟩
          obtain ⟨gd5, d5, hgd5, hst5⟩ := hf5.state (pipeG K M q acc) (fun e => rfl) (fun h => by cases h) HR.out
          have HST := Lib.hid (hst5.map (good2 := PG K q (acc ++ d5) T j5 res) (fun _ h => ⟨M, by omega, h⟩))
          have HGD := Lib.hid hgd5
          have HS5 := Lib.hid hs5
          have HK5 := Lib.hid hk5
          clear hgd5 hst5 hs5 hk5 hf5
          go_upto_region 11 with fail
          obtain ⟨NC, hNC⟩ : ∃ NC, NC = w5.heap.size := ⟨_, rfl⟩
          obtain ⟨W6, hW6⟩ : ∃ W6, W6 = w5.alloc (.cells #[.int .i64 v2.k, .bool v2.nt, .string v2.nm, .slice v2.a0 v2.n0 v2.c0, .slice v2.a1 v2.n1 v2.c1, .slice v2.a2 v2.n2 v2.c2, .slice v2.a3 v2.n3 v2.c3, .slice v2.a4 v2.n4 v2.c4] 44) := ⟨_, rfl⟩
          rw [← hW6]
          try rw [← hNC]
          have hk6 : Keeps (fun _ => False) w5 W6 := by rw [hW6]; exact (Keeps.refl _ _).alloc _
          have HMR := Lib.hid (show RecAt W6 NC [.int .i64 v2.k, .bool v2.nt, .string v2.nm, .slice v2.a0 v2.n0 v2.c0, .slice v2.a1 v2.n1 v2.c1, .slice v2.a2 v2.n2 v2.c2, .slice v2.a3 v2.n3 v2.c3, .slice v2.a4 v2.n4 v2.c4] by rw [hW6, hNC]; exact new_rec8 _ _ _ _ _ _ _ _ _ _)
          have hsz5 := HK5.out.size
          have hsz6 : W6.heap.size = w5.heap.size + 1 := by rw [hW6]; simp
          have hnbl := HNR.out.lt
          obtain ⟨xs, hown4, hrec4, hF⟩ := HG.out.more (G' := gd5) (y := bd5) (J := j5) (us := [.int .i64 v2.k, .bool v2.nt, .string v2.nm, .slice v2.a0 v2.n0 v2.c0, .slice v2.a1 v2.n1 v2.c1, .slice v2.a2 v2.n2 v2.c2, .slice v2.a3 v2.n3 v2.c3, .slice v2.a4 v2.n4 v2.c4]) (d2 := d5) HPS.out (Nat.lt_succ_self _) HNX.out HXW2.out (HK5.out.trans hk6 (fun _ _ h => h.elim)) (HS5.out.keep0 hk6) (fun _ => HG0.out) (fun g => ((HGD.out g).2.keep hk6 (fun _ _ _ h => h)).mono (fun _ _ h => h)) (fun b hb => by omega)
          have HF := Lib.hid hF
          have HEX := Lib.hid HG.out.ex
          have HNR6 := Lib.hid ((HNR.out.keep HK5.out (fun e => by have := HNN.out; omega)).keep hk6 (fun h => h))
          have HAN6 := Lib.hid (show gd5 → AllN (acc ++ d5) from fun g => (HAN.out HG0.out).app (AllN.of (HGD.out g).1))
          have hrec4' := (show RecAt W6 N [.int .i64 2, .bool q, .string ⟨#[]⟩, .slice none 0 0, .slice none 0 0, .slice none 0 0, .slice la m lc, .slice none 0 0] from hrec4)
          obtain ⟨⟨x0, x1, x2, x3, x4, x5, x6, x7⟩, ⟨xf0, xf1, xf2, xf3, xf4, xf5, xf6, xf7⟩⟩ := hrec4'.eight
          obtain ⟨⟨u0, u1, u2, u3, u4, u5, u6, u7⟩, ⟨uf0, uf1, uf2, uf3, uf4, uf5, uf6, uf7⟩⟩ := HMR.out.eight
          have hNl := hrec4.lt
          have hNCl := HMR.out.lt
          have hne : N ≠ NC := by have := HNN.out; omega
          clear hF hrec4 hrec4' hk6 hsz5 hsz6 hNC hW6 HG HGD HS5 HK5 hnbl HNR HAN
          go_wp2_with (at_builtin; refine wpList_append_lies _ rfl (.tmp 51) (.tmp 53) _ rfl 0 44 i0 _ 8 152 Tryz.underlying23 hi0 hz0 hz1 hz2 rfl (by omega) (.slice la m lc) m xs rfl (hown4.alloc _) ⟨W6.heap.size, 0, none⟩ 1 1 [.int .i64 v2.k, .bool v2.nt, .string v2.nm, .slice v2.a0 v2.n0 v2.c0, .slice v2.a1 v2.n1 v2.c1, .slice v2.a2 v2.n2 v2.c2, .slice v2.a3 v2.n3 v2.c3, .slice v2.a4 v2.n4 v2.c4] rfl rfl (World.news_of_block (cs := #[.int .i64 v2.k, .bool v2.nt, .string v2.nm, .slice v2.a0 v2.n0 v2.c0, .slice v2.a1 v2.n1 v2.c1, .slice v2.a2 v2.n2 v2.c2, .slice v2.a3 v2.n3 v2.c3, .slice v2.a4 v2.n4 v2.c4]) (t := 44) (fr := (0, 0)) (heap_alloc_new W6 _)) (by simp [Value.oneCell']) (by omega) (by unfold maxLen; omega) (by omega) (by simp) (W6.heap.size + 1) (by simp) ?_; intro gg cap w5 hown2 hgrow hat hlt5; have hG5 := HF.out gg (m + 1) cap w5 _ hown2 ((Keeps.refl _ _).alloc _) hgrow (hat.imp id (fun h => by omega)); obtain ⟨hrec5, hq5, hk5⟩ := hG5; have hrec5 := (show RecAt w5 N [.int .i64 2, .bool q, .string ⟨#[]⟩, .slice none 0 0, .slice none 0 0, .slice none 0 0, .slice la m lc, .slice none 0 0] from hrec5); obtain ⟨⟨z0, z1, z2, z3, z4, z5, z6, z7⟩, ⟨zf0, zf1, zf2, zf3, zf4, zf5, zf6, zf7⟩⟩ := hrec5.eight; have hN5 := hrec5.lt; have HG5 := Lib.hid (show QR (fun b => b = NB) gd5 w (w5.setCell ⟨N, 6, none⟩ (.slice (some ⟨gg, 0, none⟩) (m + 1) cap)) Lo B ps tv n T (w.heap.size + 1) N [.int .i64 0, .bool false, .string ⟨#[]⟩, .slice none 0 0, .slice none 0 0, .slice none 0 0, .slice none 0 0, .slice none 0 0] [.int 2, .bool q, .str [], .sl 1 [], .sl 2 [], .sl 2 []] [.sl 2 []] [.int .i64 2, .bool q, .string ⟨#[]⟩, .slice none 0 0, .slice none 0 0, .slice none 0 0] [.slice none 0 0] 8 44 j5 bd5 (m + 1) (some ⟨gg, 0, none⟩) cap (acc ++ d5) from hq5); have HKK := Lib.hid hk5; clear hrec5 hq5 hk5; clear hown2 hgrow hat)
          go_roundg (T.length + 2000 - j5)
          case measure => have := HGK.out; omega
          case rel => exact ⟨gd5, j5, bd5, m + 1, _, _, acc ++ d5, rfl, by omega, hj5b, by omega, by omega, HG5, HAN6, Lib.hid (fun g h => by omega), Lib.hid (HNR6.out.keep HKK.out (fun e => by have := HNN.out; rcases e with e | e; omega; exact HEX.out _ e rfl)), HST⟩
        | false =>
          have HQ := Lib.hid (qop_at HG.out.rs [124] false ho 0)
          have HX := Lib.hid (show 0 ≠ 0 ∨ isOpF [124] (T.drop I) = false from .inr ho)
          clear ho
          go_wp2_with fail
          refine HQ.out.mono ?_
          rintro e wq ⟨rfl, dq, rfl⟩
          obtain ⟨w2, hw2⟩ : ∃ w2, w2 = wr.drewN dq := ⟨_, rfl⟩
          rw [← hw2]
          have hkw : Keeps (fun _ => False) wr w2 := by rw [hw2]; exact (Keeps.refl _ _).drewN _
          replace HG := Lib.hid (HG.out.keep0 hkw)
          replace HNR := Lib.hid (HNR.out.keep hkw (fun h => h))
          replace HN0 := Lib.hid (fun g h => (HN0.out g h).keep hkw (fun _ _ _ h => h))
          clear hw2 hkw
          clear c0 c1 c2 f1 f2 hlt
          obtain ⟨wf, hwf⟩ : ∃ wf, wf = w2 := ⟨_, rfl⟩
          rw [← hwf]
          rw [← hwf] at HG HN0 HNR
          clear hwf
          obtain ⟨⟨x0, x1, x2, x3, x4, x5, x6, x7⟩, ⟨xf0, xf1, xf2, xf3, xf4, xf5, xf6, xf7⟩⟩ := (show RecAt wf N [.int .i64 2, .bool q, .string ⟨#[]⟩, .slice none 0 0, .slice none 0 0, .slice none 0 0, .slice la m lc, .slice none 0 0] from HG.out.rc).eight
          obtain ⟨⟨n0, n1, n2, n3, n4, n5, n6, n7⟩, ⟨nf0, nf1, nf2, nf3, nf4, nf5, nf6, nf7⟩⟩ := HNR.out.eight
          have hNl := HG.out.rc.lt
          have hNBl := HNR.out.lt
          have hne : N ≠ NB := by have := HNN.out; omega
          by_cases hm : m = 1
          · subst hm
            cases q with
            | false =>
              have hf := pipe_fin (w := wf) (D := fun b => Qd Lo B w.heap.size b ∧ b ≠ w.heap.size) (us := [.int .i64 v.k, .bool v.nt, .string v.nm, .slice v.a0 v.n0 v.c0, .slice v.a1 v.n1 v.c1, .slice v.a2 v.n2 v.c2, .slice v.a3 v.n3 v.c3, .slice v.a4 v.n4 v.c4]) HST.out HX.out HG.out.mlen HAN.out (fun g => by rw [if_pos ⟨rfl, rfl⟩]; exact (HN0.out g rfl).mono (fun b _ hb => ⟨by rcases hb.1 with h | h; exact .inl h; exact .inr (by omega), by rcases hb.1 with h | h; exact (by have := HPS.out; have := HG.out.rs.ps; omega); exact (by omega)⟩))
              have HF := Lib.hid hf
              have HK := Lib.hid HG.out.kp
              have HS := Lib.hid HG.out.rs
              clear hf
              obtain ⟨⟨z0, z1, z2, z3, z4, z5, z6, z7⟩, ⟨zf0, zf1, zf2, zf3, zf4, zf5, zf6, zf7⟩⟩ := HG.out.zr.eight
              have hzl := HG.out.zr.lt
              go_wp2_with fail
              refine bodyPost_ret (v := .agg #[.int .i64 v.k, .bool v.nt, .string v.nm, .slice v.a0 v.n0 v.c0, .slice v.a1 v.n1 v.c1, .slice v.a2 v.n2 v.c2, .slice v.a3 v.n3 v.c3, .slice v.a4 v.n4 v.c4]) (by simp [results, Tryz.results123, go_sem, z0, z1, z2, z3, z4, z5, z6, z7]) rfl ?_
              obtain ⟨f1, f2, f3⟩ := qnd_fin HK.out HS.out HPS.out HF.out (set8_keeps wf w.heap.size (.int .i64 v.k) (.bool v.nt) (.string v.nm) (.slice v.a0 v.n0 v.c0) (.slice v.a1 v.n1 v.c1) (.slice v.a2 v.n2 v.c2) (.slice v.a3 v.n3 v.c3) (.slice v.a4 v.n4 v.c4))
              exact ⟨v, I, 0, rfl, hiI, hIb, f1, f2, f3⟩
            | true =>
              have hf := pipe_fin (w := wf) (D := fun b => Qd Lo B w.heap.size b ∧ b ≠ w.heap.size) (us := [.int .i64 2, .bool true, .string ⟨#[]⟩, .slice none 0 0, .slice none 0 0, .slice none 0 0, .slice la 1 lc, .slice none 0 0]) HST.out HX.out HG.out.mlen HAN.out (fun g => by rw [if_neg (by simp)]; exact (HG.out.all g).mono (fun b _ hb => ⟨by rcases hb with h | h; exact .inl h; exact .inr (by omega), by rcases hb with h | h; exact (by have := HPS.out; have := HG.out.rs.ps; omega); exact (by omega)⟩))
              have HF := Lib.hid hf
              have HK := Lib.hid HG.out.kp
              have HS := Lib.hid HG.out.rs
              clear hf
              obtain ⟨⟨z0, z1, z2, z3, z4, z5, z6, z7⟩, ⟨zf0, zf1, zf2, zf3, zf4, zf5, zf6, zf7⟩⟩ := HG.out.zr.eight
              have hzl := HG.out.zr.lt
              go_wp2_with fail
              refine bodyPost_ret (v := .agg #[.int .i64 2, .bool true, .string ⟨#[]⟩, .slice none 0 0, .slice none 0 0, .slice none 0 0, .slice la 1 lc, .slice none 0 0]) (by simp [results, Tryz.results123, go_sem, z0, z1, z2, z3, z4, z5, z6, z7]) rfl ?_
              obtain ⟨f1, f2, f3⟩ := qnd_fin HK.out HS.out HPS.out HF.out (set8_keeps wf w.heap.size (.int .i64 2) (.bool true) (.string ⟨#[]⟩) (.slice none 0 0) (.slice none 0 0) (.slice none 0 0) (.slice la 1 lc) (.slice none 0 0))
              exact ⟨⟨2, true, ⟨#[]⟩, none, 0, 0, none, 0, 0, none, 0, 0, la, 1, lc, none, 0, 0⟩, I, 0, rfl, hiI, hIb, f1, f2, f3⟩
          · have t1 : ((m : Int) == 1) = false := by rw [beq_eq_false_iff_ne]; omega
            have HM := Lib.hid hm
            clear hm
            have hf := pipe_fin (w := wf) (D := fun b => Qd Lo B w.heap.size b ∧ b ≠ w.heap.size) (us := [.int .i64 2, .bool q, .string ⟨#[]⟩, .slice none 0 0, .slice none 0 0, .slice none 0 0, .slice la m lc, .slice none 0 0]) HST.out HX.out HG.out.mlen HAN.out (fun g => by rw [if_neg (fun h => HM.out h.1)]; exact (HG.out.all g).mono (fun b _ hb => ⟨by rcases hb with h | h; exact .inl h; exact .inr (by omega), by rcases hb with h | h; exact (by have := HPS.out; have := HG.out.rs.ps; omega); exact (by omega)⟩))
            have HF := Lib.hid hf
            have HK := Lib.hid HG.out.kp
            have HS := Lib.hid HG.out.rs
            clear hf
            obtain ⟨⟨z0, z1, z2, z3, z4, z5, z6, z7⟩, ⟨zf0, zf1, zf2, zf3, zf4, zf5, zf6, zf7⟩⟩ := HG.out.zr.eight
            have hzl := HG.out.zr.lt
            go_wp2_with fail
            refine bodyPost_ret (v := .agg #[.int .i64 2, .bool q, .string ⟨#[]⟩, .slice none 0 0, .slice none 0 0, .slice none 0 0, .slice la m lc, .slice none 0 0]) (by simp [results, Tryz.results123, go_sem, z0, z1, z2, z3, z4, z5, z6, z7]) rfl ?_
            obtain ⟨f1, f2, f3⟩ := qnd_fin HK.out HS.out HPS.out HF.out (set8_keeps wf w.heap.size (.int .i64 2) (.bool q) (.string ⟨#[]⟩) (.slice none 0 0) (.slice none 0 0) (.slice none 0 0) (.slice la m lc) (.slice none 0 0))
            exact ⟨⟨2, q, ⟨#[]⟩, none, 0, 0, none, 0, 0, none, 0, 0, la, m, lc, none, 0, 0⟩, I, 0, rfl, hiI, hIb, f1, f2, f3⟩
      · have t : ((x : Int) == 0) = false := by rw [beq_eq_false_iff_ne]; omega
        have HX := Lib.hid (show x ≠ 0 ∨ isOpF [124] (T.drop I) = false from .inl hx)
        clear hx
        go_upto_region 12 with fail
        obtain ⟨wf, hwf⟩ : ∃ wf, wf = wr := ⟨_, rfl⟩
        rw [← hwf]
        rw [← hwf] at HG HN0 HNR
        clear hwf
        obtain ⟨⟨x0, x1, x2, x3, x4, x5, x6, x7⟩, ⟨xf0, xf1, xf2, xf3, xf4, xf5, xf6, xf7⟩⟩ := (show RecAt wf N [.int .i64 2, .bool q, .string ⟨#[]⟩, .slice none 0 0, .slice none 0 0, .slice none 0 0, .slice la m lc, .slice none 0 0] from HG.out.rc).eight
        obtain ⟨⟨n0, n1, n2, n3, n4, n5, n6, n7⟩, ⟨nf0, nf1, nf2, nf3, nf4, nf5, nf6, nf7⟩⟩ := HNR.out.eight
        have hNl := HG.out.rc.lt
        have hNBl := HNR.out.lt
        have hne : N ≠ NB := by have := HNN.out; omega
        by_cases hm : m = 1
        · subst hm
          cases q with
          | false =>
            have hf := pipe_fin (w := wf) (D := fun b => Qd Lo B w.heap.size b ∧ b ≠ w.heap.size) (us := [.int .i64 v.k, .bool v.nt, .string v.nm, .slice v.a0 v.n0 v.c0, .slice v.a1 v.n1 v.c1, .slice v.a2 v.n2 v.c2, .slice v.a3 v.n3 v.c3, .slice v.a4 v.n4 v.c4]) HST.out HX.out HG.out.mlen HAN.out (fun g => by rw [if_pos ⟨rfl, rfl⟩]; exact (HN0.out g rfl).mono (fun b _ hb => ⟨by rcases hb.1 with h | h; exact .inl h; exact .inr (by omega), by rcases hb.1 with h | h; exact (by have := HPS.out; have := HG.out.rs.ps; omega); exact (by omega)⟩))
            have HF := Lib.hid hf
            have HK := Lib.hid HG.out.kp
            have HS := Lib.hid HG.out.rs
            clear hf
            obtain ⟨⟨z0, z1, z2, z3, z4, z5, z6, z7⟩, ⟨zf0, zf1, zf2, zf3, zf4, zf5, zf6, zf7⟩⟩ := HG.out.zr.eight
            have hzl := HG.out.zr.lt
            go_wp2_with fail
            refine bodyPost_ret (v := .agg #[.int .i64 v.k, .bool v.nt, .string v.nm, .slice v.a0 v.n0 v.c0, .slice v.a1 v.n1 v.c1, .slice v.a2 v.n2 v.c2, .slice v.a3 v.n3 v.c3, .slice v.a4 v.n4 v.c4]) (by simp [results, Tryz.results123, go_sem, z0, z1, z2, z3, z4, z5, z6, z7]) rfl ?_
            obtain ⟨f1, f2, f3⟩ := qnd_fin HK.out HS.out HPS.out HF.out (set8_keeps wf w.heap.size (.int .i64 v.k) (.bool v.nt) (.string v.nm) (.slice v.a0 v.n0 v.c0) (.slice v.a1 v.n1 v.c1) (.slice v.a2 v.n2 v.c2) (.slice v.a3 v.n3 v.c3) (.slice v.a4 v.n4 v.c4))
            exact ⟨v, I, x, rfl, hiI, hIb, f1, f2, f3⟩
          | true =>
            have hf := pipe_fin (w := wf) (D := fun b => Qd Lo B w.heap.size b ∧ b ≠ w.heap.size) (us := [.int .i64 2, .bool true, .string ⟨#[]⟩, .slice none 0 0, .slice none 0 0, .slice none 0 0, .slice la 1 lc, .slice none 0 0]) HST.out HX.out HG.out.mlen HAN.out (fun g => by rw [if_neg (by simp)]; exact (HG.out.all g).mono (fun b _ hb => ⟨by rcases hb with h | h; exact .inl h; exact .inr (by omega), by rcases hb with h | h; exact (by have := HPS.out; have := HG.out.rs.ps; omega); exact (by omega)⟩))
            have HF := Lib.hid hf
            have HK := Lib.hid HG.out.kp
            have HS := Lib.hid HG.out.rs
            clear hf
            obtain ⟨⟨z0, z1, z2, z3, z4, z5, z6, z7⟩, ⟨zf0, zf1, zf2, zf3, zf4, zf5, zf6, zf7⟩⟩ := HG.out.zr.eight
            have hzl := HG.out.zr.lt
            go_wp2_with fail
            refine bodyPost_ret (v := .agg #[.int .i64 2, .bool true, .string ⟨#[]⟩, .slice none 0 0, .slice none 0 0, .slice none 0 0, .slice la 1 lc, .slice none 0 0]) (by simp [results, Tryz.results123, go_sem, z0, z1, z2, z3, z4, z5, z6, z7]) rfl ?_
            obtain ⟨f1, f2, f3⟩ := qnd_fin HK.out HS.out HPS.out HF.out (set8_keeps wf w.heap.size (.int .i64 2) (.bool true) (.string ⟨#[]⟩) (.slice none 0 0) (.slice none 0 0) (.slice none 0 0) (.slice la 1 lc) (.slice none 0 0))
            exact ⟨⟨2, true, ⟨#[]⟩, none, 0, 0, none, 0, 0, none, 0, 0, la, 1, lc, none, 0, 0⟩, I, x, rfl, hiI, hIb, f1, f2, f3⟩
        · have t1 : ((m : Int) == 1) = false := by rw [beq_eq_false_iff_ne]; omega
          have HM := Lib.hid hm
          clear hm
          have hf := pipe_fin (w := wf) (D := fun b => Qd Lo B w.heap.size b ∧ b ≠ w.heap.size) (us := [.int .i64 2, .bool q, .string ⟨#[]⟩, .slice none 0 0, .slice none 0 0, .slice none 0 0, .slice la m lc, .slice none 0 0]) HST.out HX.out HG.out.mlen HAN.out (fun g => by rw [if_neg (fun h => HM.out h.1)]; exact (HG.out.all g).mono (fun b _ hb => ⟨by rcases hb with h | h; exact .inl h; exact .inr (by omega), by rcases hb with h | h; exact (by have := HPS.out; have := HG.out.rs.ps; omega); exact (by omega)⟩))
          have HF := Lib.hid hf
          have HK := Lib.hid HG.out.kp
          have HS := Lib.hid HG.out.rs
          clear hf
          obtain ⟨⟨z0, z1, z2, z3, z4, z5, z6, z7⟩, ⟨zf0, zf1, zf2, zf3, zf4, zf5, zf6, zf7⟩⟩ := HG.out.zr.eight
          have hzl := HG.out.zr.lt
          go_wp2_with fail
          refine bodyPost_ret (v := .agg #[.int .i64 2, .bool q, .string ⟨#[]⟩, .slice none 0 0, .slice none 0 0, .slice none 0 0, .slice la m lc, .slice none 0 0]) (by simp [results, Tryz.results123, go_sem, z0, z1, z2, z3, z4, z5, z6, z7]) rfl ?_
          obtain ⟨f1, f2, f3⟩ := qnd_fin HK.out HS.out HPS.out HF.out (set8_keeps wf w.heap.size (.int .i64 2) (.bool q) (.string ⟨#[]⟩) (.slice none 0 0) (.slice none 0 0) (.slice none 0 0) (.slice la m lc) (.slice none 0 0))
          exact ⟨⟨2, q, ⟨#[]⟩, none, 0, 0, none, 0, 0, none, 0, 0, la, m, lc, none, 0, 0⟩, I, x, rfl, hiI, hIb, f1, f2, f3⟩
end Go.Proofs.YtiihpbccabeoeaaGreatDoor
