/-
  ParseSimple's walk.
-/
import Derived.Test.YtcahifkiiabioaaDoorPkK
import Derived.Deep.AppendLies
namespace Go.Proofs.YtcahifkiiabioaaDoor
open Go.RowKit
set_option linter.unusedVariables false

theorem low_two (x : Int) : ∃ m : Nat, bits .and .i64 x 3 = (m : Int) ∧ m < 4 := by
  have h : (BitVec.ofInt 64 x &&& BitVec.ofInt 64 3).toNat < 4 := by
    rw [BitVec.toNat_and]
    exact Nat.lt_of_le_of_lt Nat.and_le_right (by decide)
  refine ⟨(BitVec.ofInt 64 x &&& BitVec.ofInt 64 3).toNat, ?_, h⟩
  show IntKind.i64.wrap (((BitVec.ofInt 64 x &&& BitVec.ofInt 64 3).toNat : Nat) : Int) = _
  exact IntWalk.i64_in _ (by omega)
def smOf (z : Int) : Nat := (bits .and .i64 z 3).toNat
def smAt (z : List Int) (i : Nat) : List Nat := (z.take i).map smOf
theorem smAt_succ {z : List Int} {i : Nat} (h : i < z.length) : smAt z (i + 1) = smAt z i ++ [smOf (z.getD i 0)] := by
  unfold smAt
  rw [List.take_succ_eq_append_getElem h, List.map_append, List.getD_eq_getElem?_getD, List.getElem?_eq_getElem h]
  rfl
theorem smAt_len {z : List Int} {i : Nat} (h : i ≤ z.length) : (smAt z i).length = i := by
  unfold smAt
  rw [List.length_map, List.length_take]; omega
theorem smS_snoc (ks : List Nat) (k : Nat) : smS (ks ++ [k]) = smS ks ++ smS [k] := by simp [smS]
theorem fold_snoc (ks : List Nat) (k : Nat) (x : SimS) : (ks ++ [k]).foldl SimS.step x = (ks.foldl SimS.step x).step k := by simp
theorem sim_small : ∀ (ks : List Nat) (x : SimS), (ks.foldl SimS.step x).ws.length ≤ x.ws.length + ks.length ∧ (ks.foldl SimS.step x).gs.length ≤ x.gs.length + ks.length ∧ (ks.foldl SimS.step x).rs.length ≤ x.rs.length + ks.length
  | [], x => by simp
  | k :: ks, x => by
    obtain ⟨h1, h2, h3⟩ := sim_small ks (x.step k)
    have : (x.step k).ws.length ≤ x.ws.length + 1 ∧ (x.step k).gs.length ≤ x.gs.length + 1 ∧ (x.step k).rs.length ≤ x.rs.length + 1 := by
      match k with
      | 0 => simp only [SimS.step]; split <;> simp
      | 1 => simp [SimS.step]
      | 2 => simp [SimS.step]
      | k + 3 => simp [SimS.step]
    rw [List.foldl_cons, List.length_cons]
    omega
/-- What the loop holds. -/
structure SmL (w1 wr : World) (X N O : Nat) (z : List Int) (i : Nat) (S : ByteArray) (x : SimS) (wa : Option Addr) (wm wc : Nat) (ga : Option Addr) (gm gc : Nat) (ra : Option Addr) (rm rk : Nat) : Prop where
  tx : S.data.toList = smS (smAt z i)
  st : x = (smAt z i).foldl SimS.step ⟨[], [], []⟩
  m1 : wm = x.ws.length
  m2 : gm = x.gs.length
  m3 : rm = x.rs.length
  sm : SmK w1 wr X N O wa wm wc (x.ws.map wordR) ga gm gc (x.gs.flatMap prR) ra rm rk (x.rs.flatMap prR)
theorem SmL.size {w1 wr : World} {X N O : Nat} {z : List Int} {i : Nat} {S : ByteArray} {x : SimS} {wa : Option Addr} {wm wc : Nat} {ga : Option Addr} {gm gc : Nat} {ra : Option Addr} {rm rk : Nat} (h : SmL w1 wr X N O z i S x wa wm wc ga gm gc ra rm rk) (hi : i ≤ z.length) :
    S.size ≤ 5 * i ∧ wm ≤ i ∧ gm ≤ i ∧ rm ≤ i := by
  have h1 := (smS_bytes (smAt z i)).1
  rw [smAt_len hi, ← h.tx, ← Lib.size_eq] at h1
  obtain ⟨h2, h3, h4⟩ := sim_small (smAt z i) ⟨[], [], []⟩
  rw [← h.st, smAt_len hi] at h2 h3 h4
  rw [h.m1, h.m2, h.m3]
  simp only [List.length_nil, Nat.zero_add] at h2 h3 h4
  exact ⟨h1, h2, h3, h4⟩

set_option maxRecDepth 100000 in
set_option maxHeartbeats 8000000 in
theorem parseSimple_walk (a0 : Option Addr) (n0 c0 : Nat) (z0 : List Int) (w : World) (hr : IsRow .i64 w a0 n0 c0 z0) (hsh : w.ShapedOpen Tryd.prog) (hL : laidMetH Tryd.prog Rows.parseSimpleRow.laid w) :
    Calls Tryd.prog 6 #[.slice a0 n0 c0] w fun e w' => e = .returned (.bool true) ∧ Below w.heap.size w w' := by
  have HEV := Lib.hid (ev_of rfl hL hsh)
  clear hL hsh
  have hc8 := cells_node
  have hcw := cells_word
  have hcr := cells_redir
  have hca := cells_assign
  obtain ⟨i0, hi0, hz0, hz1, hz2⟩ := info_parts info_redir
  obtain ⟨i1, hi1, hy0, hy1, hy2⟩ := info_parts info_assign
  obtain ⟨i2, hi2, hx0, hx1, hx2⟩ := info_parts info_word
  have hrd := isRow_reads hr
  obtain ⟨hnz, _, _⟩ := isRow_cap hr
  have HRD := Lib.hid hrd
  clear hr hrd
  by_cases hl0 : n0 = 0
  · subst hl0
    go_enter Tryd.func6, Tryd.ntmps6
    go_wp2_with fail
    refine (palive_any w _ HEV.out).mono ?_
    rintro e w1 ⟨rfl, hk⟩
    have HK := Lib.hid hk
    clear hk
    go_wp2_with fail
    go_ret
    exact ⟨rfl, HK.out.below0 (fun _ h => h.elim)⟩
  have t0 : ¬ (n0 : Int) < 1 := by omega
  by_cases hl : 20 < n0
  · have t1 : (20 : Int) < (n0 : Int) := by omega
    go_enter Tryd.func6, Tryd.ntmps6
    go_wp2_with fail
    refine (palive_any w _ HEV.out).mono ?_
    rintro e w1 ⟨rfl, hk⟩
    have HK := Lib.hid hk
    clear hk
    go_wp2_with fail
    go_ret
    exact ⟨rfl, HK.out.below0 (fun _ h => h.elim)⟩
  have t1 : ¬ (20 : Int) < (n0 : Int) := by omega
  go_enter Tryd.func6, Tryd.ntmps6
  go_wp2_with fail
  refine (palive_any w _ HEV.out).mono ?_
  rintro e w1 ⟨rfl, hk⟩
  have HK := Lib.hid hk
  clear hk
  go_wp2_with fail
  obtain ⟨W, hW⟩ : ∃ W, W = w1.alloc (.cells #[.int .i64 1, .bool false, .string ⟨#[]⟩, .slice none 0 0, .slice none 0 0, .slice none 0 0, .slice none 0 0, .slice none 0 0] 40) := ⟨_, rfl⟩
  rw [← hW]
  have hkW : Keeps (fun _ => False) w1 W := by rw [hW]; exact (Keeps.refl _ _).alloc _
  have hRN : RecAt W w1.heap.size [.int .i64 1, .bool false, .string ⟨#[]⟩, .slice none 0 0, .slice none 0 0, .slice none 0 0, .slice none 0 0, .slice none 0 0] := by rw [hW]; exact new_rec8 _ _ _ _ _ _ _ _ _ _
  have hXW : W.heap.size = w1.heap.size + 1 := by rw [hW]; simp
  refine (textWord_any ⟨#[49]⟩ W).mono ?_
  rintro e w2 ⟨O, rfl, hO1, hO2, hO3, hk2⟩
  obtain ⟨N, hN⟩ : ∃ N, N = w1.heap.size := ⟨_, rfl⟩
  obtain ⟨X, hX⟩ : ∃ X, X = W.heap.size := ⟨_, rfl⟩
  have HS0 := Lib.hid (show SmL w1 w2 X N O z0 0 ⟨#[]⟩ ⟨[], [], []⟩ none 0 0 none 0 0 none 0 0 from
    ⟨rfl, rfl, rfl, rfl, rfl, ⟨(hkW.mono (fun _ _ h => h.elim)).trans hk2 (fun _ _ h => h.elim), by rw [hN]; exact hRN.keep hk2 (fun h => h), OwnD.nil _ _ _ _, OwnD.nil _ _ _ _, OwnD.nil _ _ _ _, fun g hg => (by cases hg), fun g hg => (by cases hg), fun g hg => (by cases hg),
      hO3, ⟨⟨by omega, by omega⟩, by simp [Value.ownBlock], by simp [Value.ownBlock], by simp [Value.ownBlock]⟩, hO2, ⟨by omega, by omega, by have := hk2.size; omega⟩⟩⟩)
  rw [← hN]
  clear hW hkW hRN hXW hO1 hO2 hO3 hk2 hN hX
  go_wp2_with fail
  go_loopw [5, 7] (fun s' i' wr => ∃ (i : Nat) (S : ByteArray) (x : SimS) (wa : Option Addr) (wm wc : Nat) (ga : Option Addr) (gm gc : Nat) (ra : Option Addr) (rm rk : Nat), s' = .string S ∧ i' = .int .i64 i ∧ i ≤ n0 ∧ Hid (SmL w1 wr X N O z0 i S x wa wm wc ga gm gc ra rm rk)) (fun _ i' _ => n0 - (intOf i').toNat)
  case atStart => exact ⟨0, ⟨#[]⟩, _, none, 0, 0, none, 0, 0, none, 0, 0, rfl, rfl, Nat.zero_le _, HS0⟩
  case round =>
    obtain ⟨i, S, x, wa, wm, wc, ga, gm, gc, ra, rm, rk, rfl, rfl, hi, HS⟩ := hrel
    obtain ⟨hS7, hwm, hgm, hrm⟩ := HS.out.size (by omega)
    obtain ⟨⟨z0', z1, z2, z3, z4, z5, z6, z7⟩, zf0, zf1, zf2, zf3, zf4, zf5, zf6, zf7⟩ := HS.out.sm.ro.eight
    have hNl := HS.out.sm.ro.lt
    rcases Nat.lt_or_ge i n0 with hlt | hge
    · have p1 : (i : Int) < (n0 : Int) := by omega
      obtain ⟨b, off, rfl, hb, hc⟩ := HRD.out i hlt
      obtain ⟨q, hq⟩ : ∃ q, q = z0.getD i 0 := ⟨_, rfl⟩
      have hc : w.cell? ⟨b, off + i, none⟩ = some (.int .i64 q) := by rw [hq]; exact hc
      have hkr : Keeps (fun b => w1.heap.size ≤ b) w wr := (HK.out.mono (fun _ _ h => h.elim)).trans HS.out.sm.kp (fun _ _ h => h)
      have hbr : b < wr.heap.size := Nat.lt_of_lt_of_le hb hkr.size
      have hcr2 : wr.cell? ⟨b, off + i, none⟩ = some (.int .i64 q) := (World.cell?_of_block (hkr.block b hb (fun h => by have := HK.out.size; omega))).trans hc
      obtain ⟨m, hm, hm4⟩ := low_two q
      have HST := Lib.hid (show smAt z0 (i + 1) = smAt z0 i ++ [m] by
        rw [smAt_succ (by omega), ← hq]
        unfold smOf
        rw [hm, Int.toNat_natCast])
      clear hq hc hkr HS0
      have hm5 : m = 0 ∨ m = 1 ∨ m = 2 ∨ m = 3 := by omega
      rcases hm5 with rfl | rfl | rfl | rfl
      · by_cases hw0 : wm = 0
        · have t2 : ((wm : Int) == 0) = true := by rw [beq_iff_eq]; omega
          have hwe : x.ws.isEmpty = true := by rw [List.isEmpty_iff]; exact List.eq_nil_of_length_eq_zero (by rw [← HS.out.m1]; exact hw0)
          have HWE := Lib.hid hwe
          clear hwe hw0
          have hSn : (S ++ ⟨#[32, 120, 61, 49]⟩ : ByteArray).data.toList = smS (smAt z0 (i + 1)) := by
            rw [HST.out, smS_snoc, ← HS.out.tx]; simp [smS]
          have HTX := Lib.hid hSn
          have HFX := Lib.hid (show (⟨x.ws, x.gs ++ [([120], [txtP [49]])], x.rs⟩ : SimS) = (smAt z0 (i + 1)).foldl SimS.step ⟨[], [], []⟩ by rw [HST.out, fold_snoc, ← HS.out.st]; unfold SimS.step; rw [if_pos HWE.out]; rfl)
          obtain ⟨xs, hown4, hrec4, hF⟩ := HS.out.sm.moreA (d2 := prR ([120], [txtP [49]])) (us := [.string ⟨#[120]⟩, .slice (some ⟨O, 0, none⟩) 1 1]) ⟨.str _, HS.out.sm.on.mono (fun b _ hb => by rw [hb]; exact HS.out.sm.op), trivial⟩
          have HF := Lib.hid hF
          have HM := Lib.hid HS.out
          clear hF hSn hrec4 HS
          go_wp2_with (at_builtin; refine wpList_append_lies _ rfl (.tmp 54) (.tmp 57) _ rfl 0 45 i1 _ 2 40 Tryd.underlying36 hi1 hy0 hy1 hy2 rfl (by omega) (.slice ga gm gc) gm xs rfl (hown4.alloc _) ⟨wr.heap.size, 0, none⟩ 1 1 [.string ⟨#[120]⟩, .slice (some ⟨O, 0, none⟩) 1 1] rfl rfl (World.news_of_block (cs := #[.string ⟨#[120]⟩, .slice (some ⟨O, 0, none⟩) 1 1]) (t := 45) (fr := (0, 0)) (heap_alloc_new wr _)) (by simp [Value.oneCell']) (by omega) (by unfold maxLen; omega) (by omega) (by simp) (wr.heap.size + 1) (by simp) ?_; intro gg cap w5 hown2 hgrow hat hlt5; obtain ⟨hrec5, hG5⟩ := HF.out gg cap w5 _ hown2 hgrow hat; obtain ⟨⟨y0, y1, y2, y3, y4, y5, y6, y7⟩, yf0, yf1, yf2, yf3, yf4, yf5, yf6, yf7⟩ := RecAt.eight hrec5; have hN5 := hrec5.lt; have HG5 := Lib.hid hG5; clear hrec5 hG5 hown2 hgrow hat)
          go_wp2_with fail
          go_roundw
          case rel => exact ⟨i + 1, _, (⟨x.ws, x.gs ++ [([120], [txtP [49]])], x.rs⟩ : SimS), wa, wm, wc, _, gm + 1, cap, ra, rm, rk, rfl, rfl, by omega, Lib.hid ⟨HTX.out, HFX.out, HM.out.m1, by rw [HM.out.m2]; simp, HM.out.m3, by rw [List.flatMap_append]; exact HG5.out⟩⟩
          case measure => simp [intOf]; omega
        · have t2 : ((wm : Int) == 0) = false := by rw [beq_eq_false_iff_ne]; omega
          have hwe : ¬ x.ws.isEmpty = true := fun h => hw0 (by rw [HS.out.m1]; rw [List.isEmpty_iff] at h; rw [h]; rfl)
          have HWE := Lib.hid hwe
          clear hwe hw0
          have hSn : (S ++ ⟨#[32, 120, 61, 49]⟩ : ByteArray).data.toList = smS (smAt z0 (i + 1)) := by
            rw [HST.out, smS_snoc, ← HS.out.tx]; simp [smS]
          have HTX := Lib.hid hSn
          have HFX := Lib.hid (show (⟨x.ws ++ [[txtP [120, 61, 49]]], x.gs, x.rs⟩ : SimS) = (smAt z0 (i + 1)).foldl SimS.step ⟨[], [], []⟩ by rw [HST.out, fold_snoc, ← HS.out.st]; unfold SimS.step; rw [if_neg HWE.out]; rfl)
          have HCALL := Lib.hid (show ∀ (g : Nat) (w4 : World), wr.drew.heap.size ≤ g → g < w4.heap.size → Rd w4 (fun b => b = g) (wordR [txtP [120, 61, 49]]) (.slice (some ⟨g, 0, none⟩) 1 1) → Keeps (fun _ => False) wr.drew w4 → ∃ xs, w4.ownsRow 0 32 1 (.slice wa wm wc) wm xs ∧ RecAt w4 N [.int .i64 1, .bool false, .string ⟨#[]⟩, .slice wa wm wc, .slice ga gm gc, .slice ra rm rk, .slice none 0 0, .slice none 0 0] ∧
              ∀ (gg cap : Nat) (w5 : World) (o : Obj), w5.ownsRow 0 32 1 (.slice (some ⟨gg, 0, none⟩) (wm + 1) cap) (wm + 1) (xs ++ [.slice (some ⟨g, 0, none⟩) 1 1]) → (w4.alloc o).grownBy w5 (Value.slice wa wm wc).ownBlock → ((Value.slice wa wm wc).ownBlock = some gg ∨ gg = w4.heap.size + 1) →
                RecAt w5 N [.int .i64 1, .bool false, .string ⟨#[]⟩, .slice wa wm wc, .slice ga gm gc, .slice ra rm rk, .slice none 0 0, .slice none 0 0] ∧
                SmK w1 (w5.setCell ⟨N, 3, none⟩ (.slice (some ⟨gg, 0, none⟩) (wm + 1) cap)) X N O (some ⟨gg, 0, none⟩) (wm + 1) cap (x.ws.map wordR ++ [wordR [txtP [120, 61, 49]]]) ga gm gc (x.gs.flatMap prR) ra rm rk (x.rs.flatMap prR) from fun g w4 h1 h2 h3 h4 => by
            have hd := HS.out.sm.keep0 ((Keeps.refl (fun _ => False) wr).drew)
            have h5 := hd.keep0 h4
            exact h5.moreW ⟨h3.mono (fun b _ hb => by rw [hb]; exact hd.pnew h1), trivial⟩)
          have HM := Lib.hid HS.out
          clear hSn HS
          go_wp2_with fail
          first
            | go_region_law (first
              | (refine step_append_lies _ (by rfl) _ _ _ (by rfl) 0 32 i2 _ 1 24 Tryd.underlying35 hi2 hx0 hx1 hx2 rfl (by omega) (.slice wa wm wc) wm xs (by rfl) (hown4.alloc _)
                  ⟨w4.heap.size, 0, none⟩ 1 1 [.slice (some ⟨g, 0, none⟩) 1 1] (by rfl) (by rfl) (World.news_of_block (cs := #[.slice (some ⟨g, 0, none⟩) 1 1]) (t := 32) (fr := (0, 0)) (heap_alloc_new w4 _)) (by simp [Value.oneCell'])
                  (by omega) (by unfold maxLen; omega) (by omega) (by simp) (w4.heap.size + 1) (by simp) ?_
                 intro gg cap w5 hown2 hgrow hat hlt5
                 obtain ⟨hrec5, hG5⟩ := HF.out gg cap w5 _ hown2 hgrow hat
                 obtain ⟨⟨y0, y1, y2, y3, y4, y5, y6, y7⟩, yf0, yf1, yf2, yf3, yf4, yf5, yf6, yf7⟩ := RecAt.eight hrec5
                 have hN5 := hrec5.lt
                 have HG5 := Lib.hid hG5
                 clear hrec5 hG5 hown2 hgrow hat)
              | (go_simp; go_at_call 13; refine (textWord_any _ _).mono ?_; rintro e w4 ⟨g, he, hg1, hg2, hg3, hg4⟩; subst he; obtain ⟨xs, hown4, hrec4, hF⟩ := HCALL.out g w4 hg1 hg2 hg3 hg4; obtain ⟨⟨u0, u1, u2, u3, u4, u5, u6, u7⟩, uf0, uf1, uf2, uf3, uf4, uf5, uf6, uf7⟩ := RecAt.eight hrec4; have hN4 := hrec4.lt; have HF := Lib.hid hF; clear hF hrec4 hg1 hg3 hg4))
            | fail
          all_goals
            go_wp2_with fail
            go_roundw
            case rel => exact ⟨i + 1, _, (⟨x.ws ++ [[txtP [120, 61, 49]]], x.gs, x.rs⟩ : SimS), _, wm + 1, cap, ga, gm, gc, ra, rm, rk, rfl, rfl, by omega, Lib.hid ⟨HTX.out, HFX.out, by rw [HM.out.m1]; simp, HM.out.m2, HM.out.m3, by rw [List.map_append]; exact HG5.out⟩⟩
            case measure => simp [intOf]; omega
      · have hSn : (S ++ ⟨#[32, 62, 32, 49]⟩ : ByteArray).data.toList = smS (smAt z0 (i + 1)) := by
          rw [HST.out, smS_snoc, ← HS.out.tx]; simp [smS]
        have HTX := Lib.hid hSn
        have HFX := Lib.hid (show (⟨x.ws, x.gs, x.rs ++ [([62], [txtP [49]])]⟩ : SimS) = (smAt z0 (i + 1)).foldl SimS.step ⟨[], [], []⟩ by rw [HST.out, fold_snoc, ← HS.out.st]; rfl)
        obtain ⟨xs, hown4, hrec4, hF⟩ := HS.out.sm.moreR (d2 := prR ([62], [txtP [49]])) (us := [.string ⟨#[62]⟩, .slice (some ⟨O, 0, none⟩) 1 1]) ⟨.str _, HS.out.sm.on.mono (fun b _ hb => by rw [hb]; exact HS.out.sm.op), trivial⟩
        have HF := Lib.hid hF
        have HM := Lib.hid HS.out
        clear hF hSn hrec4 HS
        go_wp2_with (at_builtin; refine wpList_append_lies _ rfl (.tmp 71) (.tmp 74) _ rfl 0 47 i0 _ 2 40 Tryd.underlying37 hi0 hz0 hz1 hz2 rfl (by omega) (.slice ra rm rk) rm xs rfl (hown4.alloc _) ⟨wr.heap.size, 0, none⟩ 1 1 [.string ⟨#[62]⟩, .slice (some ⟨O, 0, none⟩) 1 1] rfl rfl (World.news_of_block (cs := #[.string ⟨#[62]⟩, .slice (some ⟨O, 0, none⟩) 1 1]) (t := 47) (fr := (0, 0)) (heap_alloc_new wr _)) (by simp [Value.oneCell']) (by omega) (by unfold maxLen; omega) (by omega) (by simp) (wr.heap.size + 1) (by simp) ?_; intro gg cap w5 hown2 hgrow hat hlt5; obtain ⟨hrec5, hG5⟩ := HF.out gg cap w5 _ hown2 hgrow hat; obtain ⟨⟨y0, y1, y2, y3, y4, y5, y6, y7⟩, yf0, yf1, yf2, yf3, yf4, yf5, yf6, yf7⟩ := RecAt.eight hrec5; have hN5 := hrec5.lt; have HG5 := Lib.hid hG5; clear hrec5 hG5 hown2 hgrow hat)
        go_wp2_with fail
        go_roundw
        case rel => exact ⟨i + 1, _, (⟨x.ws, x.gs, x.rs ++ [([62], [txtP [49]])]⟩ : SimS), wa, wm, wc, ga, gm, gc, _, rm + 1, cap, rfl, rfl, by omega, Lib.hid ⟨HTX.out, HFX.out, HM.out.m1, HM.out.m2, by rw [HM.out.m3]; simp, by rw [List.flatMap_append]; exact HG5.out⟩⟩
        case measure => simp [intOf]; omega
      · have hSn : (S ++ ⟨#[32, 50, 62, 62, 49]⟩ : ByteArray).data.toList = smS (smAt z0 (i + 1)) := by
          rw [HST.out, smS_snoc, ← HS.out.tx]; simp [smS]
        have HTX := Lib.hid hSn
        have HFX := Lib.hid (show (⟨x.ws, x.gs, x.rs ++ [([50, 62, 62], [txtP [49]])]⟩ : SimS) = (smAt z0 (i + 1)).foldl SimS.step ⟨[], [], []⟩ by rw [HST.out, fold_snoc, ← HS.out.st]; rfl)
        obtain ⟨xs, hown4, hrec4, hF⟩ := HS.out.sm.moreR (d2 := prR ([50, 62, 62], [txtP [49]])) (us := [.string ⟨#[50, 62, 62]⟩, .slice (some ⟨O, 0, none⟩) 1 1]) ⟨.str _, HS.out.sm.on.mono (fun b _ hb => by rw [hb]; exact HS.out.sm.op), trivial⟩
        have HF := Lib.hid hF
        have HM := Lib.hid HS.out
        clear hF hSn hrec4 HS
        go_wp2_with (at_builtin; refine wpList_append_lies _ rfl (.tmp 82) (.tmp 85) _ rfl 0 47 i0 _ 2 40 Tryd.underlying37 hi0 hz0 hz1 hz2 rfl (by omega) (.slice ra rm rk) rm xs rfl (hown4.alloc _) ⟨wr.heap.size, 0, none⟩ 1 1 [.string ⟨#[50, 62, 62]⟩, .slice (some ⟨O, 0, none⟩) 1 1] rfl rfl (World.news_of_block (cs := #[.string ⟨#[50, 62, 62]⟩, .slice (some ⟨O, 0, none⟩) 1 1]) (t := 47) (fr := (0, 0)) (heap_alloc_new wr _)) (by simp [Value.oneCell']) (by omega) (by unfold maxLen; omega) (by omega) (by simp) (wr.heap.size + 1) (by simp) ?_; intro gg cap w5 hown2 hgrow hat hlt5; obtain ⟨hrec5, hG5⟩ := HF.out gg cap w5 _ hown2 hgrow hat; obtain ⟨⟨y0, y1, y2, y3, y4, y5, y6, y7⟩, yf0, yf1, yf2, yf3, yf4, yf5, yf6, yf7⟩ := RecAt.eight hrec5; have hN5 := hrec5.lt; have HG5 := Lib.hid hG5; clear hrec5 hG5 hown2 hgrow hat)
        go_wp2_with fail
        go_roundw
        case rel => exact ⟨i + 1, _, (⟨x.ws, x.gs, x.rs ++ [([50, 62, 62], [txtP [49]])]⟩ : SimS), wa, wm, wc, ga, gm, gc, _, rm + 1, cap, rfl, rfl, by omega, Lib.hid ⟨HTX.out, HFX.out, HM.out.m1, HM.out.m2, by rw [HM.out.m3]; simp, by rw [List.flatMap_append]; exact HG5.out⟩⟩
        case measure => simp [intOf]; omega
      · have hSn : (S ++ ⟨#[32, 49]⟩ : ByteArray).data.toList = smS (smAt z0 (i + 1)) := by
          rw [HST.out, smS_snoc, ← HS.out.tx]; simp [smS]
        have HTX := Lib.hid hSn
        have HFX := Lib.hid (show (⟨x.ws ++ [[txtP [49]]], x.gs, x.rs⟩ : SimS) = (smAt z0 (i + 1)).foldl SimS.step ⟨[], [], []⟩ by rw [HST.out, fold_snoc, ← HS.out.st]; rfl)
        obtain ⟨xs, hown4, hrec4, hF⟩ := HS.out.sm.moreW (d2 := [wordR [txtP [49]]]) (us := [.slice (some ⟨O, 0, none⟩) 1 1]) ⟨HS.out.sm.on.mono (fun b _ hb => by rw [hb]; exact HS.out.sm.op), trivial⟩
        have HF := Lib.hid hF
        have HM := Lib.hid HS.out
        clear hF hSn hrec4 HS
        go_wp2_with (at_builtin; refine wpList_append_lies _ rfl (.tmp 40) (.tmp 42) _ rfl 0 32 i2 _ 1 24 Tryd.underlying35 hi2 hx0 hx1 hx2 rfl (by omega) (.slice wa wm wc) wm xs rfl (hown4.alloc _) ⟨wr.heap.size, 0, none⟩ 1 1 [.slice (some ⟨O, 0, none⟩) 1 1] rfl rfl (World.news_of_block (cs := #[.slice (some ⟨O, 0, none⟩) 1 1]) (t := 32) (fr := (0, 0)) (heap_alloc_new wr _)) (by simp [Value.oneCell']) (by omega) (by unfold maxLen; omega) (by omega) (by simp) (wr.heap.size + 1) (by simp) ?_; intro gg cap w5 hown2 hgrow hat hlt5; obtain ⟨hrec5, hG5⟩ := HF.out gg cap w5 _ hown2 hgrow hat; obtain ⟨⟨y0, y1, y2, y3, y4, y5, y6, y7⟩, yf0, yf1, yf2, yf3, yf4, yf5, yf6, yf7⟩ := RecAt.eight hrec5; have hN5 := hrec5.lt; have HG5 := Lib.hid hG5; clear hrec5 hG5 hown2 hgrow hat)
        go_wp2_with fail
        go_roundw
        case rel => exact ⟨i + 1, _, (⟨x.ws ++ [[txtP [49]]], x.gs, x.rs⟩ : SimS), _, wm + 1, cap, ga, gm, gc, ra, rm, rk, rfl, rfl, by omega, Lib.hid ⟨HTX.out, HFX.out, by rw [HM.out.m1]; simp, HM.out.m2, HM.out.m3, by rw [List.map_append]; exact HG5.out⟩⟩
        case measure => simp [intOf]; omega
    · obtain rfl : i = n0 := by omega
      have p1 : ¬ (i : Int) < (i : Int) := by omega
      have hp := simple_parse (smAt z0 i) (fun h => by have := smAt_len (z := z0) (i := i) (by omega); rw [h] at this; simp at this; omega) (by rw [smAt_len (by omega)]; omega)
      rw [← HS.out.tx, ← HS.out.st] at hp
      have HP := Lib.hid hp
      have HV := Lib.hid (HEV.out.keep ((HK.out.mono (fun _ _ h => h.elim)).trans HS.out.sm.kp (fun _ _ h => h)) (S := fun b => w1.heap.size ≤ b) (fun b hb h => by have := HK.out.size; omega))
      clear hp HS0
      go_wp2_with fail
      refine (parse_any wr _ S HV.out (by omega)).mono ?_
      rw [HP.out]
      rintro e w3 ⟨a, ml, cl, rfl, hrd, hk⟩
      have HR := Lib.hid hrd
      have HK3 := Lib.hid hk
      have HS3 := Lib.hid (HS.out.sm.keep0 hk)
      obtain ⟨⟨y0, y1, y2, y3, y4, y5, y6, y7⟩, _⟩ := HS3.out.ro.eight
      have hN3 := HS3.out.ro.lt
      clear hrd hk z0' z1 z2 z3 z4 z5 z6 z7 zf0 zf1 zf2 zf3 zf4 zf5 zf6 zf7 hNl
      go_wp2_with fail
      refine (pnum_any 0 _).mono ?_
      rintro e w4 ⟨rfl, hw4⟩
      subst hw4
      go_wp2_with fail
      obtain ⟨W5, hW5⟩ : ∃ W5, W5 = w4.alloc (.cells #[.int .i64 1, .bool false, .string ⟨#[]⟩, .slice wa wm wc, .slice ga gm gc, .slice ra rm rk, .slice none 0 0, .slice none 0 0] 40) := ⟨_, rfl⟩
      rw [← hW5]
      have hk5 : Keeps (fun _ => False) w4 W5 := by rw [hW5]; exact (Keeps.refl _ _).alloc _
      have hall := HS3.out.all
      have hrd5 : Rd W5 (fun b => X ≤ b) (.sl 8 x.row) (.slice (some ⟨w4.heap.size, 0, none⟩) 1 1) := rd_lit (k := 8) (m := 1) hall rfl (by decide) hW5 (by have := HS3.out.xl; omega)
      have hgood : GoodB 1 x.row := ⟨[⟨1, false, [], x.ws, x.gs, x.rs, [], []⟩], by simp [Nx.row, SimS.row]; rfl, fun y hy => by rw [List.mem_singleton.1 hy]; exact ⟨rfl, rfl⟩⟩
      refine (same_all 1 W5 _ _ x.row _ _ _ _ _ _ hgood (HR.out.keep0 hk5) hrd5).mono ?_
      rintro e w6 ⟨rfl, hk6⟩
      have HKF := Lib.hid (((((HK.out.mono (fun _ _ h => h.elim)).trans HS.out.sm.kp (fun _ _ h => h)).trans HK3.out (fun _ _ h => h.elim)).trans hk5 (fun _ _ h => h.elim)).trans hk6 (fun _ _ h => h.elim))
      clear hk5 hk6 hall hrd5 hgood hW5
      go_wp2_with fail
      go_ret
      exact ⟨rfl, HKF.out.below0 (fun b h => by have := HK.out.size; omega)⟩
end Go.Proofs.YtcahifkiiabioaaDoor
