/-
  Tokens behind the deferred closure.
-/
import Derived.Test.YtnndnldpbdhkgaaLexAJ
import Derived.Deep.RegionHeld3
namespace Go.Proofs.Ytnndnldpbdhkgaa
open Go.RowKit
set_option linter.unusedVariables false

set_option maxRecDepth 100000 in
set_option maxHeartbeats 4000000 in
theorem tokens_rest (s : ByteArray) (w : World) (hs : s.size ≤ 20000) (hx : mayF s.data.toList = 0) :
    Calls Try.prog 14 #[.string s] w (TokensPost w (tokD (s.size + 1) (rest s 0))) := by
  have HX := Lib.hid hx
  obtain ⟨res, hres⟩ : ∃ res, res = tokD (s.size + 1) (rest s 0) := ⟨_, rfl⟩
  rw [← hres]
  rw [tokD_tokT] at hres
  have HR := Lib.hid hres
  clear hx hres
  have hmf : ∀ (fn : Fn) (first cap : Array Value) (w : World), (Instr.makeFunc fn first cap).run Try.prog w = .ok (.func fn first cap) w := fun _ _ _ _ => rfl
  have hc3 := cells_token
  obtain ⟨i0, hi0, hz0, hz1, hz2⟩ := info_parts info_token
  go_enter_defers Try.func14, Try.ntmps14
  go_wp2_with fail
  refine (may_any s _ (by omega)).mono ?_
  rintro e w1 ⟨rfl, hw1⟩
  rw [HX.out]
  subst hw1
  go_wp2_with fail
  obtain ⟨W, hW⟩ : ∃ W, W = ((w.alloc (.cells #[.slice none 0 0] 23)).alloc (.cells #[.int .i64 0] 24)).alloc (.cells #[.string s, .int .i64 0, .int .i64 0] 55) := ⟨_, rfl⟩
  rw [← hW]
  have hsz : W.heap.size = w.heap.size + 1 + 1 + 1 := by rw [hW]; simp
  have hsW : ScanAt W (w.heap.size + 1 + 1) s ((0 : Nat) : Int) ((0 : Nat) : Int) := by
    rw [hW]
    refine ⟨55, ?_⟩
    have := heap_alloc_new ((w.alloc (.cells #[.slice none 0 0] 23)).alloc (.cells #[.int .i64 0] 24)) (.cells #[.string s, .int .i64 0, .int .i64 0] 55)
    have e : ((w.alloc (.cells #[.slice none 0 0] 23)).alloc (.cells #[.int .i64 0] 24)).heap.size = w.heap.size + 1 + 1 := by simp
    rw [e] at this
    exact this
  obtain ⟨cs, hcs⟩ : ∃ cs, cs = w.heap.size + 1 + 1 := ⟨_, rfl⟩
  rw [← hcs] at hsW
  rw [← hcs] at hsz
  rw [← hcs]
  have HSZ := Lib.hid hsz
  have HCS := Lib.hid hcs
  have hR : RecAt W w.heap.size [.slice none 0 0] ∧ RecAt W (w.heap.size + 1) [.int .i64 0] := by
    have k1 : Keeps (fun _ => False) (w.alloc (.cells #[.slice none 0 0] 23)) W := by rw [hW]; exact ((Keeps.refl _ _).alloc _).alloc _
    have k2 : Keeps (fun _ => False) ((w.alloc (.cells #[.slice none 0 0] 23)).alloc (.cells #[.int .i64 0] 24)) W := by rw [hW]; exact (Keeps.refl _ _).alloc _
    have a1 := heap_alloc_new w (.cells #[.slice none 0 0] 23)
    have a2 := heap_alloc_new (w.alloc (.cells #[.slice none 0 0] 23)) (.cells #[.int .i64 0] 24)
    rw [show (w.alloc (.cells #[.slice none 0 0] 23)).heap.size = w.heap.size + 1 by simp] at a2
    exact ⟨⟨_, (k1.block _ (by simp) (fun h => h)).trans a1⟩, ⟨_, (k2.block _ (by simp) (fun h => h)).trans a2⟩⟩
  have h12 : cs ≠ w.heap.size ∧ cs ≠ w.heap.size + 1 ∧ cs < W.heap.size ∧ w.heap.size + 1 < W.heap.size := ⟨by omega, by omega, by omega, by omega⟩
  have hL0 : TkLoop W W w.heap.size cs s 0 [] (.slice none 0 0) := ⟨hsW, hR.1, hR.2, OwnTks.nil _ _, fun g hg => (by cases hg), Keeps.refl _ _, Nat.zero_le _⟩
  have HL0 := Lib.hid hL0
  have H12 := Lib.hid h12
  have HKW := Lib.hid (show Keeps (fun _ => False) w W by rw [hW]; exact (((Keeps.refl _ _).alloc _).alloc _).alloc _)
  clear hW hcs hsz hR hL0 h12
  refine (skip_any cs s 0 _ _ hsW (by omega) (by omega)).mono ?_
  rintro e w2 ⟨rfl, J, _, hJs, hJr, hJc, hJk⟩
  rw [← hJr] at HR
  have hh : ∀ c t, rest s J = c :: t → (c == 32 || c == 9) = false := fun c t e => skip_head (hJr.symm.trans e)
  have HL1 := Lib.hid (HL0.out.move hJk hJc (Nat.zero_le _) H12.out.1 H12.out.2.1 H12.out.2.2.1)
  have HH := Lib.hid hh
  clear hJr hJc hJk hh hsW HL0
  go_wp2_with fail
  go_loopg [] (s.size + 2 - J) (fun k wr => ∃ (I M : Nat) (l : List Tk) (v : Value), k = s.size + 2 - I ∧ I ≤ s.size ∧ TkLoop W wr w.heap.size cs s I l v ∧ s.size - I ≤ M ∧ res = consL l (tokT M (rest s I)) ∧ (∀ c t, rest s I = c :: t → (c == 32 || c == 9) = false))
  case atStart => exact ⟨J, s.size, [], _, rfl, hJs, HL1.out, by omega, by rw [consL_nil]; exact HR.out, HH.out⟩
  case round =>
    obtain ⟨I, M, l, v, hgk, hI, hlp, hMn, hr, hhd⟩ := hrel
    have HGK := Lib.hid hgk
    have HLP := Lib.hid hlp
    have HHD := Lib.hid hhd
    clear hgk hlp hhd HL1 HH
    rcases Nat.lt_or_ge I s.size with hlt | hge
    · have he : decide (s.size ≤ I) = false := decide_eq_false (by omega)
      have HE := Lib.hid he
      obtain ⟨M, rfl⟩ : ∃ M', M = M' + 1 := ⟨M - 1, by omega⟩
      have hb := HHD.out _ _ (rest_cons hlt)
      have hr2 : res = consL l (match tokOne (rest s I) with
        | .error e => .error e
        | .ok (x, r1) => consT x (tokD (M + 1) r1)) := by rw [hr, rest_cons hlt]; rfl
      have HR2 := Lib.hid hr2
      have HB := Lib.hid hb
      clear hr hr2 he hb
      go_wp2_with fail
      refine (end_any cs s I _ _ HLP.out.sc).mono ?_
      rintro e w3 ⟨rfl, q2, rfl⟩
      rw [HE.out]
      obtain ⟨w3, hw3⟩ : ∃ w3, w3 = wr.drewN q2 := ⟨_, rfl⟩
      rw [← hw3]
      have HL3 := Lib.hid (show TkLoop W w3 w.heap.size cs s I l v from HLP.out.move (by rw [hw3]; exact (Keeps.refl _ _).drewN _) (by rw [hw3]; exact HLP.out.sc.drewN _) (Nat.le_refl _) H12.out.1 H12.out.2.1 H12.out.2.2.1)
      clear hw3
      cases htk : tokOne (rest s I) with
      | error x =>
        have hrx : res = .error x := by rw [HR2.out, htk]; rfl
        have HRX := Lib.hid hrx
        have HTK := Lib.hid htk
        obtain ⟨c0, f0⟩ := HL3.out.r0.one
        obtain ⟨va, vn, vc, rfl⟩ : ∃ a n c, v = .slice a n c := by obtain ⟨a, c, e, _⟩ := HL3.out.own.shape; exact ⟨a, _, c, e⟩
        have HSD := Lib.hid (show ScanAt w3.drew cs s I ((0 : Nat) : Int) from HL3.out.sc.keep (S := fun _ => False) (Keeps.refl _ _).drew (fun h => h))
        clear hrx htk
        have hL4 : ∀ w4, Keeps (fun b => b = cs) w3.drew w4 → RecAt w4 w.heap.size [.slice va vn vc] ∧ RecAt w4 (w.heap.size + 1) [.int .i64 0] ∧ Keeps (fun b => b = cs) w3 w4 := fun w4 hk => by
          have hk' := (Keeps.refl (fun b => b = cs) w3).drew.trans hk (fun _ _ h => h)
          exact ⟨HL3.out.r0.keep hk' (fun e => H12.out.1 e.symm), HL3.out.r1.keep hk' (fun e => H12.out.2.1 e.symm), hk'⟩
        have HFIN := Lib.hid (show ∀ w4 w5, Keeps (fun b => b = cs) w3 w4 → Keeps (fun b => b = w.heap.size ∨ b = w.heap.size + 1) w4 w5 → Keeps (fun _ => False) w w5 from fun w4 w5 h1 h2 =>
          (((HKW.out.trans HL3.out.kp (fun b hb e => by have := HCS.out; omega)).trans h1 (fun b hb e => by have := HCS.out; omega)).trans h2 (fun b hb e => by omega)))
        go_wp2_with fail
        refine wp_region_any (by kernel_rfl) ?_
        change wpAny _ _ _ _ _ _ _ (World.drew _)
        refine wpAny_ready (rs := [0, 1]) (by kernel_rfl) (by simp) ?_
        refine AllReady.cons rfl (fun K hK => ?_) (AllReady.cons rfl (fun K hK => ?_) AllReady.nil)
        · go_simp
          refine hK _ _ ?_
          clear hK K
          refine wpAny_ready (rs := [1]) (by kernel_rfl) (by simp) ?_
          refine AllReady.cons rfl (fun K hK => ?_) AllReady.nil
          go_simp
          refine hK _ _ ?_
          clear hK K
          refine wpAny_ready (rs := [2]) (by kernel_rfl) (by simp) ?_
          refine AllReady.cons rfl (fun K hK => ?_) AllReady.nil
          go_simp
          go_at_call 28
          refine (token_any cs s I _ HSD.out hlt hs).mono ?_
          rw [HTK.out]
          rintro e w4 ⟨rfl, hk4⟩
          obtain ⟨hA, hB, hk5⟩ := hL4 w4 hk4
          have HK5 := Lib.hid hk5
          have g0 := hA.one
          have g1 := hB.one
          have glt := hB.lt
          clear hk4 hk5
          go_simp
          clear hK K
          refine leaves_cons (f := 24) (args := #[.pointer (some ⟨w.heap.size, 0, none⟩), .pointer (some ⟨w.heap.size + 1, 0, none⟩)]) (by simp) (by simp [go_sem]) ?_
          refine (tok_catch _ _ x _ _ [] _ g0.1 g1.1 g0.2 g1.2 (by omega) (by omega) glt).mono ?_
          rintro e u' w'' ⟨rfl, rfl, rfl⟩
          obtain ⟨W4, hW4, k0, k1, hk4⟩ := caught_cells2 (x := x) (o := .cells #[.int .i64 x] 74) hA hB
          rw [← hW4]
          simp [Leaves, settle, results, Try.results14, go_sem, k0, k1]
          rw [HRX.out]
          exact ⟨rfl, HFIN.out _ _ HK5.out hk4⟩
        · go_simp
          refine hK _ _ ?_
          clear hK K
          refine wpAny_ready (rs := [0, 2]) (by kernel_rfl) (by simp) ?_
          refine AllReady.cons rfl (fun K hK => ?_) (AllReady.cons rfl (fun K hK => ?_) AllReady.nil)
          · go_simp
            refine hK _ _ ?_
            clear hK K
            refine wpAny_ready (rs := [2]) (by kernel_rfl) (by simp) ?_
            refine AllReady.cons rfl (fun K hK => ?_) AllReady.nil
            go_simp
            go_at_call 28
            refine (token_any cs s I _ HSD.out hlt hs).mono ?_
            rw [HTK.out]
            rintro e w4 ⟨rfl, hk4⟩
            obtain ⟨hA, hB, hk5⟩ := hL4 w4 hk4
            have HK5 := Lib.hid hk5
            have g0 := hA.one
            have g1 := hB.one
            have glt := hB.lt
            clear hk4 hk5
            go_simp
            clear hK K
            refine leaves_cons (f := 24) (args := #[.pointer (some ⟨w.heap.size, 0, none⟩), .pointer (some ⟨w.heap.size + 1, 0, none⟩)]) (by simp) (by simp [go_sem]) ?_
            refine (tok_catch _ _ x _ _ [] _ g0.1 g1.1 g0.2 g1.2 (by omega) (by omega) glt).mono ?_
            rintro e u' w'' ⟨rfl, rfl, rfl⟩
            obtain ⟨W4, hW4, k0, k1, hk4⟩ := caught_cells2 (x := x) (o := .cells #[.int .i64 x] 74) hA hB
            rw [← hW4]
            simp [Leaves, settle, results, Try.results14, go_sem, k0, k1]
            rw [HRX.out]
            exact ⟨rfl, HFIN.out _ _ HK5.out hk4⟩
          · go_simp
            go_at_call 28
            refine (token_any cs s I _ HSD.out hlt hs).mono ?_
            rw [HTK.out]
            rintro e w4 ⟨rfl, hk4⟩
            obtain ⟨hA, hB, hk5⟩ := hL4 w4 hk4
            have HK5 := Lib.hid hk5
            have g0 := hA.one
            have g1 := hB.one
            have glt := hB.lt
            clear hk4 hk5
            go_simp
            clear hK K
            refine leaves_cons (f := 24) (args := #[.pointer (some ⟨w.heap.size, 0, none⟩), .pointer (some ⟨w.heap.size + 1, 0, none⟩)]) (by simp) (by simp [go_sem]) ?_
            refine (tok_catch _ _ x _ _ [] _ g0.1 g1.1 g0.2 g1.2 (by omega) (by omega) glt).mono ?_
            rintro e u' w'' ⟨rfl, rfl, rfl⟩
            obtain ⟨W4, hW4, k0, k1, hk4⟩ := caught_cells2 (x := x) (o := .cells #[.int .i64 x] 74) hA hB
            rw [← hW4]
            simp [Leaves, settle, results, Try.results14, go_sem, k0, k1]
            rw [HRX.out]
            exact ⟨rfl, HFIN.out _ _ HK5.out hk4⟩
      | ok xr =>
        obtain ⟨x, r1⟩ := xr
        have hrx : res = consL (l ++ [x]) (tokT M (skipF false r1)) := by
          rw [HR2.out, htk]
          show consL l (consT x (tokD (M + 1) r1)) = _
          rw [consL_cons, tokD_tokT]
        have hlen : r1.length ≤ (rest s (I + 1)).length := by
          have h := htk
          rw [rest_cons hlt] at h
          exact tokOne_len HB.out h
        have HRX := Lib.hid hrx
        have HTK := Lib.hid htk
        obtain ⟨c0, f0⟩ := HL3.out.r0.one
        obtain ⟨L, hL⟩ : ∃ L, L = l.length := ⟨_, rfl⟩
        obtain ⟨va, vc, rfl⟩ : ∃ a c, v = .slice a L c := by obtain ⟨a, c, e, _⟩ := HL3.out.own.shape; exact ⟨a, c, by rw [hL]; exact e⟩
        have hLI : L ≤ I := by rw [hL]; exact HL3.out.len
        have HSD := Lib.hid (show ScanAt w3.drew cs s I ((0 : Nat) : Int) from HL3.out.sc.keep (S := fun _ => False) (Keeps.refl _ _).drew (fun h => h))
        have HCALL := Lib.hid (show ∀ e w4, TokPost w3.drew cs s (.ok (x, r1)) e w4 → ∃ (I2 : Nat) (T : ByteArray) (ax : Option Addr) (xl cx : Nat) (xs : List Value), e = .returned (.agg #[.int .i64 (x.kind : Nat), .string T, .slice ax xl cx]) ∧ (I < I2 ∧ I2 ≤ s.size ∧ rest s I2 = r1) ∧ w4.ownsRow 0 34 3 (.slice va L vc) L xs ∧ w4.cell? ⟨w.heap.size, 0, none⟩ = some (.slice va L vc) ∧ w.heap.size < w4.heap.size ∧
            (∀ (g cap : Nat) (w5 : World) (o : Obj), w5.ownsRow 0 34 3 (.slice (some ⟨g, 0, none⟩) (L + 1) cap) (L + 1) (xs ++ [.int .i64 (x.kind : Nat), .string T, .slice ax xl cx]) → (w4.alloc o).grownBy w5 (Value.slice va L vc).ownBlock → ((Value.slice va L vc).ownBlock = some g ∨ g = w4.heap.size + 1) →
              w5.cell? ⟨w.heap.size, 0, none⟩ = some (.slice va L vc) ∧ w5.frozen? ⟨w.heap.size, 0, none⟩ = false ∧ TkLoop W (w5.setCell ⟨w.heap.size, 0, none⟩ (.slice (some ⟨g, 0, none⟩) (L + 1) cap)) w.heap.size cs s I2 (l ++ [x]) (.slice (some ⟨g, 0, none⟩) (L + 1) cap)) from fun e w4 hp => by
          subst hL
          obtain ⟨I2, n, T, tv, he, hT, hI2, hr2, hs2, hp2, hk2⟩ := hp
          obtain ⟨ax, cx, rfl, _, _⟩ := hp2.shape
          have hk' := (Keeps.refl (fun b => b = cs) w3).drew.trans hk2 (fun _ _ h => h)
          rw [← hr2, rest_len, rest_len] at hlen
          obtain ⟨xs, ho, hne, hF⟩ := HL3.out.more hk' hs2 (show I < I2 by omega) H12.out.1 H12.out.2.1 H12.out.2.2.1 H12.out.2.2.2 hp2
          obtain ⟨T⟩ := T
          have hT2 : T = x.text.toArray := by rw [← hT]
          refine ⟨I2, ⟨T⟩, ax, _, cx, xs, he, ⟨by omega, hI2, hr2⟩, ho, (HL3.out.r0.keep hk' (fun e => H12.out.1 e.symm)).one.1, (HL3.out.r0.keep hk' (fun e => H12.out.1 e.symm)).lt, fun g cap w5 o h1 h2 h3 => ?_⟩
          rw [hT2] at h1
          exact hF g cap w5 o h1 h2 h3)
        clear hrx htk hlen hL
        go_wp2_with fail
        first
          | go_region_law (first
            | (refine step_append_lies _ (by rfl) _ _ _ (by rfl) 0 34 i0 _ 3 48 Try.underlying23 hi0 hz0 hz1 hz2 rfl (by omega) (.slice va L vc) L xs (by rfl) (hown4.alloc _)
                ⟨w4.heap.size, 0, none⟩ 1 1 [.int .i64 (x.kind : Nat), .string T, .slice ax xl cx] (by rfl) (by rfl) (World.news_of_block (cs := #[.int .i64 (x.kind : Nat), .string T, .slice ax xl cx]) (t := 34) (fr := (0, 0)) (heap_alloc_new w4 _)) (by simp [Value.oneCell'])
                (by omega) (by unfold maxLen; omega) (by omega) (by simp) (w4.heap.size + 1) (by simp) ?_; intro gg cap w5 hown2 hgrow hat hlt5
               obtain ⟨y0, y1, hTL⟩ := HF.out gg cap w5 _ hown2 hgrow hat
               have HTL := Lib.hid hTL
               clear hTL hown2 hgrow hat)
            | (go_simp; go_at_call 28; refine (token_any cs s I _ HSD.out hlt hs).mono ?_; rw [HTK.out]; intro e w4 hp; obtain ⟨I2, T, ax, xl, cx, xs, he, hI2, hown4, c4, lw4, hF⟩ := HCALL.out e w4 hp; subst he; have HF := Lib.hid hF; have HI2 := Lib.hid hI2; clear hp hF hI2))
          | fail
        all_goals
          go_wp2_with fail
          refine (skip_any cs s I2 _ _ HTL.out.sc (by omega) HI2.out.2.1).mono ?_
          rintro e w6 ⟨rfl, J2, hJ1, hJ2, hJ3, hJ4, hJ5⟩
          have HL6 := Lib.hid (HTL.out.move hJ5 hJ4 hJ1 H12.out.1 H12.out.2.1 H12.out.2.2.1)
          have hjh : ∀ c t, rest s J2 = c :: t → (c == 32 || c == 9) = false := fun c t e => skip_head (hJ3.symm.trans e)
          have hjr : res = consL (l ++ [x]) (tokT M (rest s J2)) := by rw [HRX.out, hJ3, HI2.out.2.2]
          have HJR := Lib.hid hjr
          have HJH := Lib.hid hjh
          clear hJ3 hJ4 hJ5 hjh hjr HTL
          go_wp2_with fail
          go_roundg (s.size + 2 - J2)
          case measure => have := HGK.out; have := HI2.out.1; omega
          case rel => exact ⟨J2, M, l ++ [x], _, rfl, hJ2, HL6.out, by have := HI2.out.1; omega, HJR.out, HJH.out⟩
    · have he : decide (s.size ≤ I) = true := decide_eq_true hge
      have HE := Lib.hid he
      have hrx : res = .ok l := by rw [hr, rest_nil hge]; show Except.ok (l ++ []) = _; rw [List.append_nil]
      have HRX := Lib.hid hrx
      clear hr hrx he
      go_wp2_with fail
      refine (end_any cs s I _ _ HLP.out.sc).mono ?_
      rintro e w3 ⟨rfl, q2, rfl⟩
      rw [HE.out]
      obtain ⟨w3, hw3⟩ : ∃ w3, w3 = wr.drewN q2 := ⟨_, rfl⟩
      rw [← hw3]
      have HL3 := Lib.hid (show TkLoop W w3 w.heap.size cs s I l v from HLP.out.move (by rw [hw3]; exact (Keeps.refl _ _).drewN _) (by rw [hw3]; exact HLP.out.sc.drewN _) (Nat.le_refl _) H12.out.1 H12.out.2.1 H12.out.2.2.1)
      clear hw3
      obtain ⟨va, vn, vc, rfl⟩ : ∃ a n c, v = .slice a n c := by obtain ⟨a, c, e, _⟩ := HL3.out.own.shape; exact ⟨a, _, c, e⟩
      obtain ⟨c0, f0⟩ := HL3.out.r0.one
      obtain ⟨c1, f1⟩ := HL3.out.r1.one
      have glt := HL3.out.r1.lt
      go_wp2_with fail
      refine leaves_cons (f := 24) (args := #[.pointer (some ⟨w.heap.size, 0, none⟩), .pointer (some ⟨w.heap.size + 1, 0, none⟩)]) (by simp) (by simp [go_sem]) ?_
      refine (tok_catch_idle _ _ _).mono ?_
      rintro e u' w'' ⟨rfl, rfl, rfl⟩
      obtain ⟨W5, hW5, k0, k1, hk5⟩ := done_cells2 (u := .slice va vn vc) HL3.out.r0 HL3.out.r1
      rw [← hW5]
      refine ⟨.tuple #[.slice va vn vc, .int .i64 0], by simp [results, Try.results14, go_sem, k0, k1], ?_⟩
      rw [HRX.out]
      have hwz := HSZ.out
      have hwc := HCS.out
      have ho := HL3.out.own.keep hk5 (fun b hb hB e => by omega) (fun g hg e => by have := HL3.out.low g hg; omega)
      obtain ⟨n, hn⟩ := ho.reads (fun g hg => HL3.out.low g hg)
      exact ⟨_, n, rfl, hn.mono (fun b hb h => by omega), (HKW.out.trans HL3.out.kp (fun b hb e => by omega)).trans hk5 (fun b hb e => by omega)⟩

theorem tokens_any (s : ByteArray) (w : World) (hs : s.size ≤ 140737488351232) : Calls Try.prog 14 #[.string s] w (TokensPost w (tokensF s.data.toList)) := by
  unfold tokensF
  by_cases h : mayF s.data.toList = 0
  · rw [if_pos h]
    have hl : s.size ≤ 16384 := by
      unfold mayF at h
      rw [← Lib.size_eq] at h
      split at h
      · cases h
      · omega
    have := tokens_rest s w (by omega) h
    rw [rest0, Lib.size_eq] at this
    exact this
  · rw [if_neg h]
    exact tokens_long s w hs _ rfl h
end Go.Proofs.Ytnndnldpbdhkgaa
