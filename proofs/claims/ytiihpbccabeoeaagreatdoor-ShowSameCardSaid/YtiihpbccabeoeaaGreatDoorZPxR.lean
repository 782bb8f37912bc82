/-
  The document's own parser: lists.
-/
import Derived.Test.YtiihpbccabeoeaaGreatDoorZPxO
namespace Go.Proofs.YtiihpbccabeoeaaGreatDoor
open Go.RowKit
set_option linter.unusedVariables false
def At8 (w : World) (g : Nat) (v : NV) : Prop := g < w.heap.size ∧ ∀ k u, v.vals[k]? = some u → w.cell? ⟨g, k, none⟩ = some u
theorem At8.keep {w w' : World} {g : Nat} {v : NV} {S : Nat → Prop} (h : At8 w g v) (hk : Keeps S w w') (hg : ¬ S g) : At8 w' g v :=
  ⟨Nat.lt_of_lt_of_le h.1 hk.size, fun k u hu => (World.cell?_of_block (hk.block g h.1 hg)).trans (h.2 k u hu)⟩
theorem At8.eight {w : World} {g : Nat} {v : NV} (h : At8 w g v) : w.cell? ⟨g, 0, none⟩ = some (.int .i64 v.k) ∧ w.cell? ⟨g, 1, none⟩ = some (.bool v.nt) ∧ w.cell? ⟨g, 2, none⟩ = some (.string v.nm) ∧ w.cell? ⟨g, 3, none⟩ = some (.slice v.a0 v.n0 v.c0) ∧ w.cell? ⟨g, 4, none⟩ = some (.slice v.a1 v.n1 v.c1) ∧ w.cell? ⟨g, 5, none⟩ = some (.slice v.a2 v.n2 v.c2) ∧ w.cell? ⟨g, 6, none⟩ = some (.slice v.a3 v.n3 v.c3) ∧ w.cell? ⟨g, 7, none⟩ = some (.slice v.a4 v.n4 v.c4) :=
  ⟨h.2 0 _ rfl, h.2 1 _ rfl, h.2 2 _ rfl, h.2 3 _ rfl, h.2 4 _ rfl, h.2 5 _ rfl, h.2 6 _ rfl, h.2 7 _ rfl⟩
theorem owns_at8 {w : World} {Ty : TypeId} {g cap : Nat} {v : NV} (h : w.ownsRow 0 Ty 8 (.slice (some ⟨g, 0, none⟩) 1 cap) 1 v.vals) : At8 w g v := by
  refine ⟨(h.lt g rfl).2, fun k u hu => ?_⟩
  have hk : k < 8 := by
    have := (List.getElem?_eq_some_iff.1 hu).1
    simpa [NV.vals] using this
  rcases h.2 with ⟨e, h0⟩ | ⟨g', cap', cur, e, hb, hg, h1, h2, h3⟩
  · cases e
  · have hc := h.cellAt k (by omega)
    obtain rfl : g = g' := by injection e with e1; injection e1 with e1; injection e1
    rw [hc]
    exact hu
theorem rdl_of : ∀ {w : World} {D : Nat → Prop} {ds : List Dt} {vs : List Value} (hl : ds.length = vs.length) (h : ∀ j (hj : j < ds.length) (hj' : j < vs.length), Rd w D ds[j] vs[j]), RdL w D ds vs
  | w, D, [], [], _, _ => trivial
  | w, D, d :: ds, v :: vs, hl, h => ⟨h 0 (by simp) (by simp), rdl_of (by simpa using hl) (fun j hj hj' => h (j + 1) (by simpa using hj) (by simpa using hj'))⟩
  | w, D, [], v :: vs, hl, _ => by simp at hl
  | w, D, d :: ds, [], hl, _ => by simp at hl
theorem rd_at8 {w : World} {D : Nat → Prop} {ds : List Dt} {g c : Nat} {v : NV} (h : Rd w D (.sl 8 ds) (.slice (some ⟨g, 0, none⟩) 1 c)) (hl : ds.length = 8) (h8 : At8 w g v) : RdL w D ds v.vals := by
  refine rdl_of (by rw [hl]; rfl) fun j hj hj' => ?_
  obtain ⟨b, off, u, e, hb, hD, hc, hr⟩ := h.cell hj
  obtain ⟨rfl, rfl⟩ : g = b ∧ 0 = off := by simpa using e
  rw [Nat.zero_add] at hc
  have hc2 := h8.2 j v.vals[j] (List.getElem?_eq_getElem hj')
  rw [hc] at hc2
  rw [← Option.some.inj hc2]
  exact hr
def LFin (gd : Prop) (acc : List Dt) (T : List Tk) (I x : Nat) (res : PR (List Dt)) : Prop := (gd ∧ x = 0 ∧ I ≤ T.length ∧ AllN acc ∧ res = .ok (seqF acc, T.drop I)) ∨ ∀ w D us, QF true w D T res us I x
theorem list_fin {gd : Prop} {acc : List Dt} {T : List Tk} {I x : Nat} {res : PR (List Dt)} {w : World} {D : Nat → Prop} {us : List Value} (h : LFin gd acc T I x res) (hr : gd → AllN acc → NdD (seqF acc) ∧ RdL w D (seqF acc) us) : QF true w D T res us I x := by
  rcases h with ⟨g, hx, hI, ha, h⟩ | h
  · exact QF.good h hx (hr g ha).1 (hr g ha).2 rfl hI
  · exact h w D us
theorem seq_one {acc : List Dt} (h : acc.length = 8) : seqF acc = acc := if_pos h
theorem seq_more {acc : List Dt} (h : acc.length ≠ 8) : seqF acc = ndR 5 false [] [] [] [] acc [] := if_neg h
set_option maxRecDepth 100000 in
set_option maxHeartbeats 4000000 in
theorem qlist_any (K : Nat) (hcmd : QCmdOK K) (w : World) (Lo B ps n i deep : Nat) (tv : Value) (T : List Tk) (h : QS w Lo B ps tv n T i 0) (hi : i ≤ T.length) (hd : deep + K = 41) :
    Calls Tryz.prog 63 #[.pointer (some ⟨ps, 0, none⟩), .int .i64 (deep : Nat)] w (QNode w Lo B ps tv n T i (2 * K) true (listF (commandF K) (T.drop i))) := by
  obtain ⟨res, hres⟩ : ∃ res, res = listF (commandF K) (T.drop i) := ⟨_, rfl⟩
  rw [← hres]
  rw [list_eq K] at hres
  have hc8 := cells_node
  obtain ⟨i0, hi0, hz0, hz1, hz2⟩ := info_parts info_node
  have HRES := Lib.hid hres
  have HC := Lib.hid hcmd
  have HD := Lib.hid hd
  have HPS := Lib.hid h.lt
  have hmT : T.length ≤ 20000 := h.sm.1
  have HS := Lib.hid h
  clear hres hcmd h
  go_enter Tryz.func63, Tryz.ntmps63
  go_wp2_with fail
  obtain ⟨W, hW⟩ : ∃ W, W = w.alloc (.cells #[.int .i64 0, .bool false, .string ⟨#[]⟩, .slice none 0 0, .slice none 0 0, .slice none 0 0, .slice none 0 0, .slice none 0 0] 44) := ⟨_, rfl⟩
  have hk0 : Keeps (fun _ => False) w W := by rw [hW]; exact (Keeps.refl _ _).alloc _
  have HZ := Lib.hid (show RecAt W w.heap.size [.int .i64 0, .bool false, .string ⟨#[]⟩, .slice none 0 0, .slice none 0 0, .slice none 0 0, .slice none 0 0, .slice none 0 0] by rw [hW]; exact new_rec8 w _ _ _ _ _ _ _ _ _)
  rw [← hW]
  have HK0 := Lib.hid hk0
  replace HS := Lib.hid (HS.out.keep0 hk0)
  clear hk0 hW
  refine (qlines_any W Lo B ps n i 0 tv T HS.out).mono ?_
  rintro e w1 ⟨rfl, j0, hj1, hj2, hj3, hj4, hs4, hk4⟩
  have hj0 := hj2 hi
  have HG := Lib.hid (show QM True w w1 Lo B ps tv n T (w.heap.size + 1) j0 0 (.slice none 0 0) 8 44 0 [] from ⟨hs4, ⟨[], fun _ => trivial, World.ownsRow_nil _ _ _ _⟩, fun g hg => (by cases hg), (HK0.out.mono (fun _ _ h => h.elim)).trans hk4 (fun _ _ h => h)⟩)
  replace HZ := Lib.hid (HZ.out.keep hk4 (fun e => by have := HPS.out; omega))
  have HLA := Lib.hid (show LAt K [] T j0 res from .inl (by rw [hj4]; exact HRES.out))
  clear hs4 hk4 hj4 hj3 hj2 HRES HS HK0
  go_wp2_with fail
  go_loopg [5] (T.length + 2000 - j0) (fun g l' wr => ∃ (I m : Nat) (la : Option Addr) (lc : Nat) (acc : List Dt), g = T.length + 2000 - I ∧ l' = .slice la m lc ∧ i ≤ I ∧ I ≤ T.length ∧ m ≤ I ∧ Hid (QM True w wr Lo B ps tv n T (w.heap.size + 1) I 0 (.slice la m lc) 8 44 m acc) ∧ Hid (RecAt wr w.heap.size [.int .i64 0, .bool false, .string ⟨#[]⟩, .slice none 0 0, .slice none 0 0, .slice none 0 0, .slice none 0 0, .slice none 0 0]) ∧ Hid (AllN acc) ∧ Hid (LAt K acc T I res))
  case atStart => exact ⟨j0, 0, none, 0, [], rfl, rfl, hj1, hj0, Nat.zero_le _, HG, HZ, Lib.hid AllN.nil, HLA⟩
  case round =>
    clear HG HZ HLA
    obtain ⟨I, m, la, lc, acc, hgk, rfl, hiI, hIT, hmI, HG, HZ, HAN, HLA⟩ := hrel
    have HGK := Lib.hid hgk
    clear hgk
    obtain ⟨c0, c1, c2, f1, f2⟩ := HG.out.rs.cells
    have hlt := HG.out.rs.lt
    go_wp2_with fail
    refine (qandOr_any K HC.out wr Lo B ps n I deep tv T HG.out.rs hIT HD.out).mono ?_
    rintro e w2 ⟨v, j2, bd, rfl, hij2, hj2b, hs2, hk2, hf2⟩
    obtain ⟨gd, dd, hgd, hst⟩ := lat_next HLA.out hf2
    have HST := Lib.hid hst
    have HGD := Lib.hid hgd
    go_upto_region 5 with fail
    obtain ⟨NB, hNB⟩ : ∃ NB, NB = w2.heap.size := ⟨_, rfl⟩
    obtain ⟨W3, hW3⟩ : ∃ W3, W3 = w2.alloc (.cells #[.int .i64 v.k, .bool v.nt, .string v.nm, .slice v.a0 v.n0 v.c0, .slice v.a1 v.n1 v.c1, .slice v.a2 v.n2 v.c2, .slice v.a3 v.n3 v.c3, .slice v.a4 v.n4 v.c4] 44) := ⟨_, rfl⟩
    rw [← hW3]
    try rw [← hNB]
    have hk3 : Keeps (fun _ => False) w2 W3 := by rw [hW3]; exact (Keeps.refl _ _).alloc _
    have HNR := Lib.hid (show RecAt W3 NB [.int .i64 v.k, .bool v.nt, .string v.nm, .slice v.a0 v.n0 v.c0, .slice v.a1 v.n1 v.c1, .slice v.a2 v.n2 v.c2, .slice v.a3 v.n3 v.c3, .slice v.a4 v.n4 v.c4] by rw [hW3, hNB]; exact new_rec8 _ _ _ _ _ _ _ _ _ _)
    have hzl0 := HZ.out.lt
    obtain ⟨xs, hown4, hF⟩ := HG.out.more (G' := gd) (y := bd) (J := j2) (us := [.int .i64 v.k, .bool v.nt, .string v.nm, .slice v.a0 v.n0 v.c0, .slice v.a1 v.n1 v.c1, .slice v.a2 v.n2 v.c2, .slice v.a3 v.n3 v.c3, .slice v.a4 v.n4 v.c4]) (d2 := dd) (by have := HPS.out; omega) hzl0 (Nat.le_succ _) (hk2.trans hk3 (fun _ _ h => h.elim)) (hs2.keep0 hk3) (fun _ => trivial) (fun g => ((HGD.out g).2.keep hk3 (fun _ _ _ h => h)))
    have HF := Lib.hid hF
    have HXL := Lib.hid (show m = 0 → xs = [] from fun e => by have h9 := hown4.1; rw [e] at h9; exact List.eq_nil_of_length_eq_zero (by omega))
    have HLOW := Lib.hid HG.out.low
    replace HZ := Lib.hid ((HZ.out.keep hk2 (fun e => by have := HPS.out; omega)).keep hk3 (fun h => h))
    have HAN2 := Lib.hid (show gd → AllN (acc ++ dd) from fun g => HAN.out.app (AllN.of (HGD.out g).1))
    have HIB := Lib.hid (show i ≤ j2 ∧ j2 ≤ T.length + 2 * K by omega)
    have HIJ := Lib.hid hij2
    obtain ⟨⟨u0, u1, u2, u3, u4, u5, u6, u7⟩, ⟨uf0, uf1, uf2, uf3, uf4, uf5, uf6, uf7⟩⟩ := HNR.out.eight
    have hNBl := HNR.out.lt
    clear hF hgd hst hs2 hk2 hf2 hk3 hNB hW3 HG HGD hij2 hj2b c0 c1 c2 f1 f2 hlt hzl0
    go_upto_region 6 with (at_builtin; refine wpList_append_lies _ rfl (.tmp 17) (.tmp 19) _ rfl 0 44 i0 _ 8 152 Tryz.underlying23 hi0 hz0 hz1 hz2 rfl (by omega) (.slice la m lc) m xs rfl (hown4.alloc _) ⟨W3.heap.size, 0, none⟩ 1 1 [.int .i64 v.k, .bool v.nt, .string v.nm, .slice v.a0 v.n0 v.c0, .slice v.a1 v.n1 v.c1, .slice v.a2 v.n2 v.c2, .slice v.a3 v.n3 v.c3, .slice v.a4 v.n4 v.c4] rfl rfl (World.news_of_block (cs := #[.int .i64 v.k, .bool v.nt, .string v.nm, .slice v.a0 v.n0 v.c0, .slice v.a1 v.n1 v.c1, .slice v.a2 v.n2 v.c2, .slice v.a3 v.n3 v.c3, .slice v.a4 v.n4 v.c4]) (t := 44) (fr := (0, 0)) (heap_alloc_new W3 _)) (by simp [Value.oneCell']) (by omega) (by unfold maxLen; omega) (by omega) (by simp) (W3.heap.size + 1) (by simp) ?_; intro gg cap w5 hown2 hgrow hat hlt5; have hG5 := HF.out gg (m + 1) cap w5 _ hown2 ((Keeps.refl _ _).alloc _) hgrow (hat.imp id (fun h => by omega)); obtain ⟨hq5, hk5⟩ := hG5; have HG := Lib.hid (show QM gd w w5 Lo B ps tv n T (w.heap.size + 1) j2 bd (.slice (some ⟨gg, 0, none⟩) (m + 1) cap) 8 44 (m + 1) (acc ++ dd) from hq5); replace HZ := Lib.hid (HZ.out.keep hk5 (fun e => by have := HLOW.out _ e; omega)); have HA8 := Lib.hid (show m = 0 → At8 w5 gg v from fun e => by rw [HXL.out e, e] at hown2; exact owns_at8 hown2); clear hq5 hk5; clear hown2 hgrow hat)
    obtain ⟨c0, c1, c2, f1, f2⟩ := HG.out.rs.cells
    have hlt := HG.out.rs.lt
    have hpg : gg ≠ ps := by have := HG.out.low gg rfl; have := HPS.out; omega
    by_cases hy : bd = 0
    · subst hy
      by_cases hor : isOpF [59] (T.drop j2) = true ∨ isOpF [10] (T.drop j2) = true
      · obtain ⟨g, hjT, hr⟩ : gd ∧ j2 ≤ T.length ∧ res = listEnd (allLoop (commandF K) ((T.drop j2).length + 1) (acc ++ dd) (T.drop j2)) := by
          rcases HST.out with ⟨g, _, hjT, hr⟩ | ⟨h9 | h9, _⟩
          · exact ⟨g, hjT, hr⟩
          · exact absurd rfl h9
          · rcases hor with hor | hor
            · rw [op40_ne h9 [59] (by decide)] at hor; cases hor
            · rw [op40_ne h9 [10] (by decide)] at hor; cases hor
        have hpos : j2 < T.length := by rcases hor with hor | hor <;> exact toks_in (op_pos hor)
        have HGO := Lib.hid (fun I h => lat_more (T := T) (I := I) hr (by rcases hor with h | h <;> rw [h]; rfl; exact Bool.or_true _) h)
        have HG0 := Lib.hid g
        have hsum : IntKind.i64.wrap ((j2 : Int) + 1) = (j2 : Int) + 1 := IntWalk.i64_in _ (by omega)
        cases o1 : isOpF [59] (T.drop j2) with
        | true =>
          have HQ := Lib.hid (qop_at HG.out.rs [59] true o1 0)
          clear hor hr g HST o1
          go_wp2_with fail
          refine HQ.out.mono ?_
          rintro e wq ⟨rfl, q, rfl⟩
          obtain ⟨w6, hw6⟩ : ∃ w6, w6 = w5.drewN q := ⟨_, rfl⟩
          rw [← hw6]
          have hkw : Keeps (fun _ => False) w5 w6 := by rw [hw6]; exact (Keeps.refl _ _).drewN _
          replace HG := Lib.hid (HG.out.keep0 hkw)
          replace HZ := Lib.hid (HZ.out.keep hkw (fun h => h))
          replace HA8 := Lib.hid (fun e => (HA8.out e).keep hkw (fun h => h))
          clear hw6 hkw
          obtain ⟨c0, c1, c2, f1, f2⟩ := HG.out.rs.cells
          have hlt := HG.out.rs.lt
          go_wp2_with fail
          obtain ⟨w7, hw7⟩ : ∃ w7, w7 = w6.setCell ⟨ps, 1, none⟩ (.int .i64 ((j2 : Int) + 1)) := ⟨_, rfl⟩
          rw [← hw7]
          replace HG := Lib.hid (by have h9 := HG.out.inc (by have := HPS.out; omega) (by omega); rw [← hw7] at h9; exact h9)
          have hkw : Keeps (fun b => b = ps) w6 w7 := by rw [hw7]; exact (Keeps.refl _ _).setCell _ _ fun _ => rfl
          refine (qlines_any w7 Lo B ps n (j2 + 1) 0 tv T HG.out.rs).mono ?_
          rintro e w8 ⟨rfl, j, hj1, hj2, hj3, hj4, hs8, hk8⟩
          have hjT2 : j ≤ T.length := hj2 (by omega)
          rw [← drop_tail] at hj4
          obtain ⟨hgo1, hgo2⟩ := HGO.out j hj4
          have hkw8 := hkw.trans hk8 (fun _ _ h => h)
          replace HG := Lib.hid (HG.out.move (by have := HPS.out; omega) hk8 hs8)
          replace HZ := Lib.hid (HZ.out.keep hkw8 (fun e => by have := HPS.out; omega))
          replace HA8 := Lib.hid (fun e => (HA8.out e).keep hkw8 hpg)
          have HIJ2 := Lib.hid (show j2 + 1 ≤ j from hj1)
          have HGO1 := Lib.hid hgo1
          have HGO2 := Lib.hid hgo2
          clear hw7 hkw hs8 hk8 hj1 hj2 hj3 hj4 hkw8 hgo1 hgo2 c0 c1 c2 f1 f2 hlt HIB
          cases hcl : closesF (T.drop j) with
          | true =>
            have HCL := Lib.hid (qcloses_any w8 Lo B ps n j 0 tv T HG.out.rs)
            rw [hcl] at HCL
            have HFIN := Lib.hid (show LFin gd (acc ++ dd) T j 0 res from .inl ⟨HG0.out, rfl, hjT2, HAN2.out HG0.out, HGO1.out hcl⟩)
            have HIB := Lib.hid (show i ≤ j ∧ j ≤ T.length + 2 * K by have := HIJ.out; have := HIJ2.out; omega)
            clear hcl
            go_wp2_with fail
            refine HCL.out.mono ?_
            rintro e wq ⟨rfl, q2, rfl⟩
            replace HG := Lib.hid (HG.out.keep0 ((Keeps.refl _ _).drewN q2))
            replace HZ := Lib.hid (HZ.out.keep ((Keeps.refl (fun _ => False) _).drewN q2) (fun h => h))
            replace HA8 := Lib.hid (fun e => (HA8.out e).keep ((Keeps.refl (fun _ => False) _).drewN q2) (fun h => h))
            obtain ⟨wf, hwf⟩ : ∃ wf, wf = (w8.drewN q2) := ⟨_, rfl⟩
            rw [← hwf]
            rw [← hwf] at HG HZ HA8
            have HK := Lib.hid HG.out.kp
            have HS := Lib.hid HG.out.rs
            by_cases hm : m = 0
            · subst hm
              have hf := list_fin (w := wf) (D := fun b => Qd Lo B w.heap.size b ∧ b ≠ w.heap.size) (us := [.int .i64 v.k, .bool v.nt, .string v.nm, .slice v.a0 v.n0 v.c0, .slice v.a1 v.n1 v.c1, .slice v.a2 v.n2 v.c2, .slice v.a3 v.n3 v.c3, .slice v.a4 v.n4 v.c4]) HFIN.out (fun g ha => by
                have hl := HG.out.mlen g
                rw [seq_one (by omega)]
                exact ⟨ha.one (by omega), (rd_at8 (HG.out.reads g) (by omega) (HA8.out rfl)).mono (fun b _ hb => ⟨by rcases hb with h | h; exact .inl h; exact .inr (by omega), by rcases hb with h | h; exact (by have := HPS.out; have := HG.out.rs.ps; omega); exact (by omega)⟩)⟩)
              have HF := Lib.hid hf
              obtain ⟨n0, n1, n2, n3, n4, n5, n6, n7⟩ := (HA8.out rfl).eight
              have hgl := (HA8.out rfl).1
              clear hf hwf
              obtain ⟨⟨z0, z1, z2, z3, z4, z5, z6, z7⟩, ⟨zf0, zf1, zf2, zf3, zf4, zf5, zf6, zf7⟩⟩ := HZ.out.eight
              have hzl := HZ.out.lt
              go_wp2_with fail
              refine bodyPost_ret (v := .agg #[.int .i64 v.k, .bool v.nt, .string v.nm, .slice v.a0 v.n0 v.c0, .slice v.a1 v.n1 v.c1, .slice v.a2 v.n2 v.c2, .slice v.a3 v.n3 v.c3, .slice v.a4 v.n4 v.c4]) (by simp [results, Tryz.results63, go_sem, z0, z1, z2, z3, z4, z5, z6, z7]) rfl ?_
              obtain ⟨f1, f2, f3⟩ := qnd_fin HK.out HS.out HPS.out HF.out (set8_keeps wf w.heap.size (.int .i64 v.k) (.bool v.nt) (.string v.nm) (.slice v.a0 v.n0 v.c0) (.slice v.a1 v.n1 v.c1) (.slice v.a2 v.n2 v.c2) (.slice v.a3 v.n3 v.c3) (.slice v.a4 v.n4 v.c4))
              exact ⟨v, _, _, rfl, HIB.out.1, HIB.out.2, f1, f2, f3⟩
            · have t1 : (((m + 1 : Nat) : Int) == 1) = false := by rw [beq_eq_false_iff_ne]; omega
              have hf := list_fin (w := wf) (D := fun b => Qd Lo B w.heap.size b ∧ b ≠ w.heap.size) (us := [.int .i64 5, .bool false, .string ⟨#[]⟩, .slice none 0 0, .slice none 0 0, .slice none 0 0, .slice (some ⟨gg, 0, none⟩) (m + 1) cap, .slice none 0 0]) HFIN.out (fun g ha => by
                have hl := HG.out.mlen g
                rw [seq_more (by omega)]
                have hr := (HG.out.reads g).mono (D' := fun b => Qd Lo B w.heap.size b ∧ b ≠ w.heap.size) (fun b _ hb => ⟨by rcases hb with h | h; exact .inl h; exact .inr (by omega), by rcases hb with h | h; exact (by have := HPS.out; have := HG.out.rs.ps; omega); exact (by omega)⟩)
                exact ⟨⟨_, _, _, _, _, _, _, _, rfl⟩, .int _, .bool _, .str _, .nil _ _ _ (Nat.zero_le _), .nil _ _ _ (Nat.zero_le _), .nil _ _ _ (Nat.zero_le _), hr, .nil _ _ _ (Nat.zero_le _), trivial⟩)
              have HF := Lib.hid hf
              clear hf hwf hm
              obtain ⟨⟨z0, z1, z2, z3, z4, z5, z6, z7⟩, ⟨zf0, zf1, zf2, zf3, zf4, zf5, zf6, zf7⟩⟩ := HZ.out.eight
              have hzl := HZ.out.lt
              go_wp2_with fail
              refine bodyPost_ret (v := .agg #[.int .i64 5, .bool false, .string ⟨#[]⟩, .slice none 0 0, .slice none 0 0, .slice none 0 0, .slice (some ⟨gg, 0, none⟩) (m + 1) cap, .slice none 0 0]) (by simp [results, Tryz.results63, go_sem, z0, z1, z2, z3, z4, z5, z6, z7]) rfl ?_
              obtain ⟨f1, f2, f3⟩ := qnd_fin HK.out HS.out HPS.out HF.out (set8_keeps wf w.heap.size (.int .i64 5) (.bool false) (.string ⟨#[]⟩) (.slice none 0 0) (.slice none 0 0) (.slice none 0 0) (.slice (some ⟨gg, 0, none⟩) (m + 1) cap) (.slice none 0 0))
              exact ⟨⟨5, false, ⟨#[]⟩, none, 0, 0, none, 0, 0, none, 0, 0, some ⟨gg, 0, none⟩, m + 1, cap, none, 0, 0⟩, _, _, rfl, HIB.out.1, HIB.out.2, f1, f2, f3⟩
          | false =>
            have HCL := Lib.hid (qcloses_any w8 Lo B ps n j 0 tv T HG.out.rs)
            rw [hcl] at HCL
            have HLA2 := Lib.hid (HGO2.out hcl)
            clear hcl
            go_wp2_with fail
            refine HCL.out.mono ?_
            rintro e wq ⟨rfl, q2, rfl⟩
            go_wp2_with fail
            go_roundg (T.length + 2000 - j)
            case measure => have := HGK.out; have := HIJ.out; have := HIJ2.out; omega
            case rel => exact ⟨j, m + 1, _, _, acc ++ dd, rfl, rfl, by have := HIJ.out; have := HIJ2.out; omega, hjT2, by have := HIJ.out; have := HIJ2.out; omega, Lib.hid ((HG.out.weak (fun _ => HG0.out)).keep0 ((Keeps.refl _ _).drewN q2)), Lib.hid (HZ.out.keep ((Keeps.refl (fun _ => False) _).drewN q2) (fun h => h)), Lib.hid (HAN2.out HG0.out), HLA2⟩
        | false =>
          have o2 : isOpF [10] (T.drop j2) = true := by rcases hor with h | h; rw [h] at o1; cases o1; exact h
          have HQ := Lib.hid (qop_at HG.out.rs [59] false o1 0)
          have HQ2 := Lib.hid (fun q => qop_at HG.out.rs [10] true o2 q)
          clear hor hr g HST o1 o2
          go_wp2_with fail
          refine HQ.out.mono ?_
          rintro e wq ⟨rfl, q0, rfl⟩
          go_wp2_with fail
          refine (HQ2.out q0).mono ?_
          rintro e wq ⟨rfl, q, rfl⟩
          obtain ⟨w6, hw6⟩ : ∃ w6, w6 = w5.drewN q := ⟨_, rfl⟩
          rw [← hw6]
          have hkw : Keeps (fun _ => False) w5 w6 := by rw [hw6]; exact (Keeps.refl _ _).drewN _
          replace HG := Lib.hid (HG.out.keep0 hkw)
          replace HZ := Lib.hid (HZ.out.keep hkw (fun h => h))
          replace HA8 := Lib.hid (fun e => (HA8.out e).keep hkw (fun h => h))
          clear hw6 hkw
          obtain ⟨c0, c1, c2, f1, f2⟩ := HG.out.rs.cells
          have hlt := HG.out.rs.lt
          go_wp2_with fail
          obtain ⟨w7, hw7⟩ : ∃ w7, w7 = w6.setCell ⟨ps, 1, none⟩ (.int .i64 ((j2 : Int) + 1)) := ⟨_, rfl⟩
          rw [← hw7]
          replace HG := Lib.hid (by have h9 := HG.out.inc (by have := HPS.out; omega) (by omega); rw [← hw7] at h9; exact h9)
          have hkw : Keeps (fun b => b = ps) w6 w7 := by rw [hw7]; exact (Keeps.refl _ _).setCell _ _ fun _ => rfl
          refine (qlines_any w7 Lo B ps n (j2 + 1) 0 tv T HG.out.rs).mono ?_
          rintro e w8 ⟨rfl, j, hj1, hj2, hj3, hj4, hs8, hk8⟩
          have hjT2 : j ≤ T.length := hj2 (by omega)
          rw [← drop_tail] at hj4
          obtain ⟨hgo1, hgo2⟩ := HGO.out j hj4
          have hkw8 := hkw.trans hk8 (fun _ _ h => h)
          replace HG := Lib.hid (HG.out.move (by have := HPS.out; omega) hk8 hs8)
          replace HZ := Lib.hid (HZ.out.keep hkw8 (fun e => by have := HPS.out; omega))
          replace HA8 := Lib.hid (fun e => (HA8.out e).keep hkw8 hpg)
          have HIJ2 := Lib.hid (show j2 + 1 ≤ j from hj1)
          have HGO1 := Lib.hid hgo1
          have HGO2 := Lib.hid hgo2
          clear hw7 hkw hs8 hk8 hj1 hj2 hj3 hj4 hkw8 hgo1 hgo2 c0 c1 c2 f1 f2 hlt HIB
          cases hcl : closesF (T.drop j) with
          | true =>
            have HCL := Lib.hid (qcloses_any w8 Lo B ps n j 0 tv T HG.out.rs)
            rw [hcl] at HCL
            have HFIN := Lib.hid (show LFin gd (acc ++ dd) T j 0 res from .inl ⟨HG0.out, rfl, hjT2, HAN2.out HG0.out, HGO1.out hcl⟩)
            have HIB := Lib.hid (show i ≤ j ∧ j ≤ T.length + 2 * K by have := HIJ.out; have := HIJ2.out; omega)
            clear hcl
            go_wp2_with fail
            refine HCL.out.mono ?_
            rintro e wq ⟨rfl, q2, rfl⟩
            replace HG := Lib.hid (HG.out.keep0 ((Keeps.refl _ _).drewN q2))
            replace HZ := Lib.hid (HZ.out.keep ((Keeps.refl (fun _ => False) _).drewN q2) (fun h => h))
            replace HA8 := Lib.hid (fun e => (HA8.out e).keep ((Keeps.refl (fun _ => False) _).drewN q2) (fun h => h))
            obtain ⟨wf, hwf⟩ : ∃ wf, wf = (w8.drewN q2) := ⟨_, rfl⟩
            rw [← hwf]
            rw [← hwf] at HG HZ HA8
            have HK := Lib.hid HG.out.kp
            have HS := Lib.hid HG.out.rs
            by_cases hm : m = 0
            · subst hm
              have hf := list_fin (w := wf) (D := fun b => Qd Lo B w.heap.size b ∧ b ≠ w.heap.size) (us := [.int .i64 v.k, .bool v.nt, .string v.nm, .slice v.a0 v.n0 v.c0, .slice v.a1 v.n1 v.c1, .slice v.a2 v.n2 v.c2, .slice v.a3 v.n3 v.c3, .slice v.a4 v.n4 v.c4]) HFIN.out (fun g ha => by
                have hl := HG.out.mlen g
                rw [seq_one (by omega)]
                exact ⟨ha.one (by omega), (rd_at8 (HG.out.reads g) (by omega) (HA8.out rfl)).mono (fun b _ hb => ⟨by rcases hb with h | h; exact .inl h; exact .inr (by omega), by rcases hb with h | h; exact (by have := HPS.out; have := HG.out.rs.ps; omega); exact (by omega)⟩)⟩)
              have HF := Lib.hid hf
              obtain ⟨n0, n1, n2, n3, n4, n5, n6, n7⟩ := (HA8.out rfl).eight
              have hgl := (HA8.out rfl).1
              clear hf hwf
              obtain ⟨⟨z0, z1, z2, z3, z4, z5, z6, z7⟩, ⟨zf0, zf1, zf2, zf3, zf4, zf5, zf6, zf7⟩⟩ := HZ.out.eight
              have hzl := HZ.out.lt
              go_wp2_with fail
              refine bodyPost_ret (v := .agg #[.int .i64 v.k, .bool v.nt, .string v.nm, .slice v.a0 v.n0 v.c0, .slice v.a1 v.n1 v.c1, .slice v.a2 v.n2 v.c2, .slice v.a3 v.n3 v.c3, .slice v.a4 v.n4 v.c4]) (by simp [results, Tryz.results63, go_sem, z0, z1, z2, z3, z4, z5, z6, z7]) rfl ?_
              obtain ⟨f1, f2, f3⟩ := qnd_fin HK.out HS.out HPS.out HF.out (set8_keeps wf w.heap.size (.int .i64 v.k) (.bool v.nt) (.string v.nm) (.slice v.a0 v.n0 v.c0) (.slice v.a1 v.n1 v.c1) (.slice v.a2 v.n2 v.c2) (.slice v.a3 v.n3 v.c3) (.slice v.a4 v.n4 v.c4))
              exact ⟨v, _, _, rfl, HIB.out.1, HIB.out.2, f1, f2, f3⟩
            · have t1 : (((m + 1 : Nat) : Int) == 1) = false := by rw [beq_eq_false_iff_ne]; omega
              have hf := list_fin (w := wf) (D := fun b => Qd Lo B w.heap.size b ∧ b ≠ w.heap.size) (us := [.int .i64 5, .bool false, .string ⟨#[]⟩, .slice none 0 0, .slice none 0 0, .slice none 0 0, .slice (some ⟨gg, 0, none⟩) (m + 1) cap, .slice none 0 0]) HFIN.out (fun g ha => by
                have hl := HG.out.mlen g
                rw [seq_more (by omega)]
                have hr := (HG.out.reads g).mono (D' := fun b => Qd Lo B w.heap.size b ∧ b ≠ w.heap.size) (fun b _ hb => ⟨by rcases hb with h | h; exact .inl h; exact .inr (by omega), by rcases hb with h | h; exact (by have := HPS.out; have := HG.out.rs.ps; omega); exact (by omega)⟩)
                exact ⟨⟨_, _, _, _, _, _, _, _, rfl⟩, .int _, .bool _, .str _, .nil _ _ _ (Nat.zero_le _), .nil _ _ _ (Nat.zero_le _), .nil _ _ _ (Nat.zero_le _), hr, .nil _ _ _ (Nat.zero_le _), trivial⟩)
              have HF := Lib.hid hf
              clear hf hwf hm
              obtain ⟨⟨z0, z1, z2, z3, z4, z5, z6, z7⟩, ⟨zf0, zf1, zf2, zf3, zf4, zf5, zf6, zf7⟩⟩ := HZ.out.eight
              have hzl := HZ.out.lt
              go_wp2_with fail
              refine bodyPost_ret (v := .agg #[.int .i64 5, .bool false, .string ⟨#[]⟩, .slice none 0 0, .slice none 0 0, .slice none 0 0, .slice (some ⟨gg, 0, none⟩) (m + 1) cap, .slice none 0 0]) (by simp [results, Tryz.results63, go_sem, z0, z1, z2, z3, z4, z5, z6, z7]) rfl ?_
              obtain ⟨f1, f2, f3⟩ := qnd_fin HK.out HS.out HPS.out HF.out (set8_keeps wf w.heap.size (.int .i64 5) (.bool false) (.string ⟨#[]⟩) (.slice none 0 0) (.slice none 0 0) (.slice none 0 0) (.slice (some ⟨gg, 0, none⟩) (m + 1) cap) (.slice none 0 0))
              exact ⟨⟨5, false, ⟨#[]⟩, none, 0, 0, none, 0, 0, none, 0, 0, some ⟨gg, 0, none⟩, m + 1, cap, none, 0, 0⟩, _, _, rfl, HIB.out.1, HIB.out.2, f1, f2, f3⟩
          | false =>
            have HCL := Lib.hid (qcloses_any w8 Lo B ps n j 0 tv T HG.out.rs)
            rw [hcl] at HCL
            have HLA2 := Lib.hid (HGO2.out hcl)
            clear hcl
            go_wp2_with fail
            refine HCL.out.mono ?_
            rintro e wq ⟨rfl, q2, rfl⟩
            go_wp2_with fail
            go_roundg (T.length + 2000 - j)
            case measure => have := HGK.out; have := HIJ.out; have := HIJ2.out; omega
            case rel => exact ⟨j, m + 1, _, _, acc ++ dd, rfl, rfl, by have := HIJ.out; have := HIJ2.out; omega, hjT2, by have := HIJ.out; have := HIJ2.out; omega, Lib.hid ((HG.out.weak (fun _ => HG0.out)).keep0 ((Keeps.refl _ _).drewN q2)), Lib.hid (HZ.out.keep ((Keeps.refl (fun _ => False) _).drewN q2) (fun h => h)), Lib.hid (HAN2.out HG0.out), HLA2⟩
      · obtain ⟨o1, o2⟩ := not_or.1 hor
        rw [Bool.not_eq_true] at o1 o2
        have HFIN := Lib.hid (show LFin gd (acc ++ dd) T j2 0 res from by
          rcases HST.out with ⟨g, hx, hjT, hr⟩ | ⟨_, h9⟩
          · exact .inl ⟨g, hx, hjT, HAN2.out g, lat_stop hr o1 o2⟩
          · exact .inr h9)
        have HQ := Lib.hid (qop_at HG.out.rs [59] false o1 0)
        have HQ2 := Lib.hid (fun q => qop_at HG.out.rs [10] false o2 q)
        clear hor o1 o2 HST
        go_wp2_with fail
        refine HQ.out.mono ?_
        rintro e wq ⟨rfl, q0, rfl⟩
        go_wp2_with fail
        refine (HQ2.out q0).mono ?_
        rintro e wq ⟨rfl, q, rfl⟩
        replace HG := Lib.hid (HG.out.keep0 ((Keeps.refl _ _).drewN q))
        replace HZ := Lib.hid (HZ.out.keep ((Keeps.refl (fun _ => False) _).drewN q) (fun h => h))
        replace HA8 := Lib.hid (fun e => (HA8.out e).keep ((Keeps.refl (fun _ => False) _).drewN q) (fun h => h))
        clear c0 c1 c2 f1 f2 hlt
        obtain ⟨wf, hwf⟩ : ∃ wf, wf = (w5.drewN q) := ⟨_, rfl⟩
        rw [← hwf]
        rw [← hwf] at HG HZ HA8
        have HK := Lib.hid HG.out.kp
        have HS := Lib.hid HG.out.rs
        by_cases hm : m = 0
        · subst hm
          have hf := list_fin (w := wf) (D := fun b => Qd Lo B w.heap.size b ∧ b ≠ w.heap.size) (us := [.int .i64 v.k, .bool v.nt, .string v.nm, .slice v.a0 v.n0 v.c0, .slice v.a1 v.n1 v.c1, .slice v.a2 v.n2 v.c2, .slice v.a3 v.n3 v.c3, .slice v.a4 v.n4 v.c4]) HFIN.out (fun g ha => by
            have hl := HG.out.mlen g
            rw [seq_one (by omega)]
            exact ⟨ha.one (by omega), (rd_at8 (HG.out.reads g) (by omega) (HA8.out rfl)).mono (fun b _ hb => ⟨by rcases hb with h | h; exact .inl h; exact .inr (by omega), by rcases hb with h | h; exact (by have := HPS.out; have := HG.out.rs.ps; omega); exact (by omega)⟩)⟩)
          have HF := Lib.hid hf
          obtain ⟨n0, n1, n2, n3, n4, n5, n6, n7⟩ := (HA8.out rfl).eight
          have hgl := (HA8.out rfl).1
          clear hf hwf
          obtain ⟨⟨z0, z1, z2, z3, z4, z5, z6, z7⟩, ⟨zf0, zf1, zf2, zf3, zf4, zf5, zf6, zf7⟩⟩ := HZ.out.eight
          have hzl := HZ.out.lt
          go_wp2_with fail
          refine bodyPost_ret (v := .agg #[.int .i64 v.k, .bool v.nt, .string v.nm, .slice v.a0 v.n0 v.c0, .slice v.a1 v.n1 v.c1, .slice v.a2 v.n2 v.c2, .slice v.a3 v.n3 v.c3, .slice v.a4 v.n4 v.c4]) (by simp [results, Tryz.results63, go_sem, z0, z1, z2, z3, z4, z5, z6, z7]) rfl ?_
          obtain ⟨f1, f2, f3⟩ := qnd_fin HK.out HS.out HPS.out HF.out (set8_keeps wf w.heap.size (.int .i64 v.k) (.bool v.nt) (.string v.nm) (.slice v.a0 v.n0 v.c0) (.slice v.a1 v.n1 v.c1) (.slice v.a2 v.n2 v.c2) (.slice v.a3 v.n3 v.c3) (.slice v.a4 v.n4 v.c4))
          exact ⟨v, _, _, rfl, HIB.out.1, HIB.out.2, f1, f2, f3⟩
        · have t1 : (((m + 1 : Nat) : Int) == 1) = false := by rw [beq_eq_false_iff_ne]; omega
          have hf := list_fin (w := wf) (D := fun b => Qd Lo B w.heap.size b ∧ b ≠ w.heap.size) (us := [.int .i64 5, .bool false, .string ⟨#[]⟩, .slice none 0 0, .slice none 0 0, .slice none 0 0, .slice (some ⟨gg, 0, none⟩) (m + 1) cap, .slice none 0 0]) HFIN.out (fun g ha => by
            have hl := HG.out.mlen g
            rw [seq_more (by omega)]
            have hr := (HG.out.reads g).mono (D' := fun b => Qd Lo B w.heap.size b ∧ b ≠ w.heap.size) (fun b _ hb => ⟨by rcases hb with h | h; exact .inl h; exact .inr (by omega), by rcases hb with h | h; exact (by have := HPS.out; have := HG.out.rs.ps; omega); exact (by omega)⟩)
            exact ⟨⟨_, _, _, _, _, _, _, _, rfl⟩, .int _, .bool _, .str _, .nil _ _ _ (Nat.zero_le _), .nil _ _ _ (Nat.zero_le _), .nil _ _ _ (Nat.zero_le _), hr, .nil _ _ _ (Nat.zero_le _), trivial⟩)
          have HF := Lib.hid hf
          clear hf hwf hm
          obtain ⟨⟨z0, z1, z2, z3, z4, z5, z6, z7⟩, ⟨zf0, zf1, zf2, zf3, zf4, zf5, zf6, zf7⟩⟩ := HZ.out.eight
          have hzl := HZ.out.lt
          go_wp2_with fail
          refine bodyPost_ret (v := .agg #[.int .i64 5, .bool false, .string ⟨#[]⟩, .slice none 0 0, .slice none 0 0, .slice none 0 0, .slice (some ⟨gg, 0, none⟩) (m + 1) cap, .slice none 0 0]) (by simp [results, Tryz.results63, go_sem, z0, z1, z2, z3, z4, z5, z6, z7]) rfl ?_
          obtain ⟨f1, f2, f3⟩ := qnd_fin HK.out HS.out HPS.out HF.out (set8_keeps wf w.heap.size (.int .i64 5) (.bool false) (.string ⟨#[]⟩) (.slice none 0 0) (.slice none 0 0) (.slice none 0 0) (.slice (some ⟨gg, 0, none⟩) (m + 1) cap) (.slice none 0 0))
          exact ⟨⟨5, false, ⟨#[]⟩, none, 0, 0, none, 0, 0, none, 0, 0, some ⟨gg, 0, none⟩, m + 1, cap, none, 0, 0⟩, _, _, rfl, HIB.out.1, HIB.out.2, f1, f2, f3⟩
    · have t : ((bd : Int) != 0) = true := by rw [bne_iff_ne]; omega
      have HFIN := Lib.hid (show LFin gd (acc ++ dd) T j2 bd res from by
        rcases HST.out with ⟨_, hx, _⟩ | ⟨_, h9⟩
        · exact absurd hx hy
        · exact .inr h9)
      clear hy HST
      go_upto_region 10 with fail
      obtain ⟨wf, hwf⟩ : ∃ wf, wf = w5 := ⟨_, rfl⟩
      rw [← hwf]
      rw [← hwf] at HG HZ HA8
      have HK := Lib.hid HG.out.kp
      have HS := Lib.hid HG.out.rs
      by_cases hm : m = 0
      · subst hm
        have hf := list_fin (w := wf) (D := fun b => Qd Lo B w.heap.size b ∧ b ≠ w.heap.size) (us := [.int .i64 v.k, .bool v.nt, .string v.nm, .slice v.a0 v.n0 v.c0, .slice v.a1 v.n1 v.c1, .slice v.a2 v.n2 v.c2, .slice v.a3 v.n3 v.c3, .slice v.a4 v.n4 v.c4]) HFIN.out (fun g ha => by
          have hl := HG.out.mlen g
          rw [seq_one (by omega)]
          exact ⟨ha.one (by omega), (rd_at8 (HG.out.reads g) (by omega) (HA8.out rfl)).mono (fun b _ hb => ⟨by rcases hb with h | h; exact .inl h; exact .inr (by omega), by rcases hb with h | h; exact (by have := HPS.out; have := HG.out.rs.ps; omega); exact (by omega)⟩)⟩)
        have HF := Lib.hid hf
        obtain ⟨n0, n1, n2, n3, n4, n5, n6, n7⟩ := (HA8.out rfl).eight
        have hgl := (HA8.out rfl).1
        clear hf hwf
        obtain ⟨⟨z0, z1, z2, z3, z4, z5, z6, z7⟩, ⟨zf0, zf1, zf2, zf3, zf4, zf5, zf6, zf7⟩⟩ := HZ.out.eight
        have hzl := HZ.out.lt
        go_wp2_with fail
        refine bodyPost_ret (v := .agg #[.int .i64 v.k, .bool v.nt, .string v.nm, .slice v.a0 v.n0 v.c0, .slice v.a1 v.n1 v.c1, .slice v.a2 v.n2 v.c2, .slice v.a3 v.n3 v.c3, .slice v.a4 v.n4 v.c4]) (by simp [results, Tryz.results63, go_sem, z0, z1, z2, z3, z4, z5, z6, z7]) rfl ?_
        obtain ⟨f1, f2, f3⟩ := qnd_fin HK.out HS.out HPS.out HF.out (set8_keeps wf w.heap.size (.int .i64 v.k) (.bool v.nt) (.string v.nm) (.slice v.a0 v.n0 v.c0) (.slice v.a1 v.n1 v.c1) (.slice v.a2 v.n2 v.c2) (.slice v.a3 v.n3 v.c3) (.slice v.a4 v.n4 v.c4))
        exact ⟨v, _, _, rfl, HIB.out.1, HIB.out.2, f1, f2, f3⟩
      · have t1 : (((m + 1 : Nat) : Int) == 1) = false := by rw [beq_eq_false_iff_ne]; omega
        have hf := list_fin (w := wf) (D := fun b => Qd Lo B w.heap.size b ∧ b ≠ w.heap.size) (us := [.int .i64 5, .bool false, .string ⟨#[]⟩, .slice none 0 0, .slice none 0 0, .slice none 0 0, .slice (some ⟨gg, 0, none⟩) (m + 1) cap, .slice none 0 0]) HFIN.out (fun g ha => by
          have hl := HG.out.mlen g
          rw [seq_more (by omega)]
          have hr := (HG.out.reads g).mono (D' := fun b => Qd Lo B w.heap.size b ∧ b ≠ w.heap.size) (fun b _ hb => ⟨by rcases hb with h | h; exact .inl h; exact .inr (by omega), by rcases hb with h | h; exact (by have := HPS.out; have := HG.out.rs.ps; omega); exact (by omega)⟩)
          exact ⟨⟨_, _, _, _, _, _, _, _, rfl⟩, .int _, .bool _, .str _, .nil _ _ _ (Nat.zero_le _), .nil _ _ _ (Nat.zero_le _), .nil _ _ _ (Nat.zero_le _), hr, .nil _ _ _ (Nat.zero_le _), trivial⟩)
        have HF := Lib.hid hf
        clear hf hwf hm
        obtain ⟨⟨z0, z1, z2, z3, z4, z5, z6, z7⟩, ⟨zf0, zf1, zf2, zf3, zf4, zf5, zf6, zf7⟩⟩ := HZ.out.eight
        have hzl := HZ.out.lt
        go_wp2_with fail
        refine bodyPost_ret (v := .agg #[.int .i64 5, .bool false, .string ⟨#[]⟩, .slice none 0 0, .slice none 0 0, .slice none 0 0, .slice (some ⟨gg, 0, none⟩) (m + 1) cap, .slice none 0 0]) (by simp [results, Tryz.results63, go_sem, z0, z1, z2, z3, z4, z5, z6, z7]) rfl ?_
        obtain ⟨f1, f2, f3⟩ := qnd_fin HK.out HS.out HPS.out HF.out (set8_keeps wf w.heap.size (.int .i64 5) (.bool false) (.string ⟨#[]⟩) (.slice none 0 0) (.slice none 0 0) (.slice none 0 0) (.slice (some ⟨gg, 0, none⟩) (m + 1) cap) (.slice none 0 0))
        exact ⟨⟨5, false, ⟨#[]⟩, none, 0, 0, none, 0, 0, none, 0, 0, some ⟨gg, 0, none⟩, m + 1, cap, none, 0, 0⟩, _, _, rfl, HIB.out.1, HIB.out.2, f1, f2, f3⟩
end Go.Proofs.YtiihpbccabeoeaaGreatDoor
