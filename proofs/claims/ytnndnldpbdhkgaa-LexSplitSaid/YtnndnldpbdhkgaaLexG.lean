/-
  One thing outside quotes.
-/
import Derived.Test.YtnndnldpbdhkgaaLexF
import Derived.Laws.IdiomStrings
namespace Go.Proofs.Ytnndnldpbdhkgaa
open Go.RowKit
set_option linter.unusedVariables false

theorem lexD_out (m d : Nat) (c : UInt8) (t : List UInt8) : lexD (m + 1) (.one false) d (c :: t) =
    if c == 39 then (match untilF 39 t with
      | none => .error 2
      | some k => .ok ([quoP (t.take k)], t.drop (k + 1)))
    else if c == 34 then (lexD m .dq d t).ahead [quoP []]
    else if c == 92 then (match t with
      | [] => .ok ([quoP [92]], [])
      | x :: t' => if x == 10 then .ok ([], t') else .ok ([quoP [x]], t'))
    else if c == 96 then .error 2
    else if c == 36 then lexD m (.dol false) d t
    else .ok ([txtP [c]], t) := rfl
theorem lexD_inn (m d : Nat) (c : UInt8) (t : List UInt8) : lexD (m + 1) (.one true) d (c :: t) =
    if c == 34 || c == 96 then .error 2
    else if c == 92 && headIs 10 t then .ok ([], t.tail)
    else if c == 92 && escB (t.headD 0) then .ok ([quoP [t.headD 0]], t.tail)
    else if c == 36 then lexD m (.dol true) d t
    else .ok ([quoP [c]], t) := rfl

theorem conv_one (W : World) (H : Nat) (x : UInt8) (hH : W.heap.size = H) : (convert 36 9 (.slice (some ⟨H, 0, none⟩) 1 1)).run Try.prog (W.alloc (.cells #[.int .u8 (x.toNat : Nat)] 5)) = .ok (.string ⟨#[x]⟩) (W.alloc (.cells #[.int .u8 (x.toNat : Nat)] 5)) := by
  subst hH
  refine run_convert_bytes_back _ _ _ 5 _ 1 [x] Try.underlying36 Try.underlying5 Try.underlying9 (fun j hj => ?_)
  obtain rfl : j = 0 := by simp at hj; omega
  have hb := heap_alloc_new W (.cells #[.int .u8 (x.toNat : Nat)] 5)
  have : (⟨W.heap.size, 0, none⟩ : Addr).add 0 = ⟨W.heap.size, 0, none⟩ := rfl
  rw [this, cell_of_row _ _ 0 _ _ _ hb]
  rfl
/-- Behind one byte: the world, the scanner, the bag. -/
theorem step_one {w : World} {B cs wb i : Nat} {s : ByteArray} {d : Int} {g : Option Nat} {N : List Pt × Bool} {m n : Nat} (h : ScanAt w cs s i d) (hb : Bag w B cs wb g N m) (j : Int) : ∃ w1, w1 = (w.drewN n).setCell ⟨cs, 1, none⟩ (.int .i64 j) ∧ ScanAt w1 cs s j d ∧ Bag w1 B cs wb g N m ∧ Keeps (fun b => b = cs) w w1 := by
  obtain ⟨w1, hw, hs, hk⟩ := scan_moved (n := n) h j
  exact ⟨w1, hw, hs, hb.keep hk (fun _ _ e => e), hk⟩
/-- A put behind a move of the scanner: what stands then. -/
theorem put_then {w w1 w2 : World} {B cs wb : Nat} {s : ByteArray} {i : Nat} {d : Nat} {g : Option Nat} {N N' : List Pt × Bool} {m m' : Nat} {e : Ending} (h : PutPost w1 B cs wb g N' m e w2) (hs : ScanAt w1 cs s i d) (hb : Bag w1 B cs wb g N m') (h1 : Keeps (fun b => b = cs) w w1) :
    e = .returned (.tuple #[]) ∧ ∃ g', ScanAt w2 cs s i d ∧ Bag w2 B cs wb g' N' m ∧ Newer w g g' ∧ Keeps (Fp cs wb g) w w2 := by
  obtain ⟨he, g', hb2, hn, hk⟩ := h
  have hl := hb.le
  obtain ⟨_, _, _, _, _, _, hgc, _⟩ := hb
  have hsz := h1.size
  refine ⟨he, g', hs.keep hk (fun s => by rcases s with s | s; omega; exact hgc s), hb2, ?_, ?_⟩
  · rcases hn with rfl | ⟨x, e1, hx⟩
    · exact .inl rfl
    · exact .inr ⟨x, e1, by omega⟩
  · exact (h1.mono (T := Fp cs wb g) fun _ _ e => .inl e).trans hk fun x _ e => .inr e

/-- .. and the thing is done. -/
theorem thing_put {w w1 w2 : World} {B cs wb : Nat} {s : ByteArray} {i : Nat} {d : Nat} {g : Option Nat} {N N' : List Pt × Bool} {m : Nat} {e : Ending} {l : List Pt} {r : List UInt8} (h : PutPost w1 B cs wb g N' m e w2) (hs : ScanAt w1 cs s i d) {m' : Nat} (hb : Bag w1 B cs wb g N m') (h1 : Keeps (fun b => b = cs) w w1)
    (hi : i ≤ s.size) (hr : rest s i = r) (hN : l.foldl stepN N = N') (hm : m ≤ 2 * i) : ThingPost w B cs wb s d g N (.ok (l, r)) e w2 := by
  obtain ⟨he, g', h2, h3, h4, h5⟩ := put_then h hs hb h1
  exact ⟨he, i, g', hi, hr, h2, by rw [hN]; exact h3.mono hm, h4, h5⟩
/-- What stands behind a move of the scanner stands from before it. -/
theorem thing_from {w w1 w2 : World} {B cs wb : Nat} {s : ByteArray} {d : Nat} {g : Option Nat} {N : List Pt × Bool} {res : Res} {e : Ending} (h : ThingPost w1 B cs wb s d g N res e w2) (h1 : Keeps (fun b => b = cs) w w1) : ThingPost w B cs wb s d g N res e w2 := by
  cases res with
  | error x => exact ⟨h.1, (h1.mono (T := Fp cs wb g) fun _ _ e => .inl e).trans h.2 fun _ _ e => e⟩
  | ok lr =>
    obtain ⟨he, i', g', a1, a2, a3, a4, a5, a6⟩ := h
    have hsz := h1.size
    refine ⟨he, i', g', a1, a2, a3, a4, ?_, (h1.mono (T := Fp cs wb g) fun _ _ e => .inl e).trans a6 fun _ _ e => e⟩
    rcases a5 with rfl | ⟨x, e1, hx⟩
    · exact .inl rfl
    · exact .inr ⟨x, e1, by omega⟩
/-- Nothing is put. -/
theorem thing_none {w w1 : World} {B cs wb : Nat} {s : ByteArray} {i : Nat} {d : Nat} {g : Option Nat} {N : List Pt × Bool} {m : Nat} {r : List UInt8} (hs : ScanAt w1 cs s i d) (hb : Bag w1 B cs wb g N m) (h1 : Keeps (fun b => b = cs) w w1)
    (hi : i ≤ s.size) (hr : rest s i = r) (hm : m ≤ 2 * i) : ThingPost w B cs wb s d g N (.ok ([], r)) (.returned (.tuple #[])) w1 :=
  ⟨rfl, i, g, hi, hr, hs, hb.mono hm, .inl rfl, h1.mono fun _ _ e => .inl e⟩
/-- A move behind a put. -/
theorem thing_move {w w2 w3 : World} {B cs wb : Nat} {s : ByteArray} {j : Nat} {d : Nat} {g g' : Option Nat} {N N' : List Pt × Bool} {m : Nat} {l : List Pt} {r : List UInt8} (hb : Bag w2 B cs wb g' N' m) (hn : Newer w g g') (hk : Keeps (Fp cs wb g) w w2) (hs3 : ScanAt w3 cs s j d) (hk3 : Keeps (fun b => b = cs) w2 w3)
    (hi : j ≤ s.size) (hr : rest s j = r) (hN : l.foldl stepN N = N') (hm : m ≤ 2 * j) : ThingPost w B cs wb s d g N (.ok (l, r)) (.returned (.tuple #[])) w3 :=
  ⟨rfl, j, g', hi, hr, hs3, by rw [hN]; exact (hb.keep hk3 (fun _ _ e => e)).mono hm, hn, hk.trans hk3 fun _ _ e => .inl e⟩

set_option maxRecDepth 100000 in
set_option maxHeartbeats 4000000 in
theorem out_step (n : Nat) (IH : ∀ m, m < n → Does m) (B cs wb : Nat) (s : ByteArray) (i d : Nat) (g : Option Nat) (N : List Pt × Bool) (w : World) (hsc : ScanAt w cs s i d) (hi : i < s.size) (hd : d ≤ 40) (hs : s.size ≤ 20000) (hb : Bag w B cs wb g N (2 * i)) (hn : 2 * (s.size - i) ≤ n) :
    Calls Try.prog 36 #[.pointer (some ⟨cs, 0, none⟩), .pointer (some ⟨wb, 0, none⟩)] w (ThingPost w B cs wb s d g N (lexD n (.one false) d (rest s i))) := by
  obtain ⟨m, rfl⟩ : ∃ m, n = m + 1 := ⟨n - 1, by omega⟩
  have hD := IH m (by omega)
  clear IH
  rw [rest_cons hi]
  obtain ⟨c, hc⟩ : ∃ c, c = byteAt s i := ⟨_, rfl⟩
  rw [← hc]
  obtain ⟨res, hres⟩ : ∃ res, res = lexD (m + 1) (.one false) d (c :: rest s (i + 1)) := ⟨_, rfl⟩
  rw [← hres]
  rw [lexD_out] at hres
  have HC := Lib.hid hc
  have HD := Lib.hid hD
  have HB := Lib.hid hb
  obtain ⟨c0, c1, c2, f1, f2⟩ := hsc.cells
  have HSC := Lib.hid hsc
  clear hc hD hb hsc
  have hi1 : i + 1 ≤ s.size := hi
  by_cases t : c = 39
  · have e1 : ((c.toNat : Int) == 39) = true := test_yes (c := c) (k := 39) t
    rw [if_pos (beq_iff_eq.2 t)] at hres
    clear t
    cases hu : untilF 39 (rest s (i + 1)) with
    | none =>
      rw [hu] at hres
      dsimp only at hres
      have HRES := Lib.hid hres; clear hres
      have HU := Lib.hid hu; clear hu
      go_enter Try.func36, Try.ntmps36
      go_wp2_with fail
      refine (at0_any cs s i d _ HSC.out (by omega) (by omega)).mono ?_
      rintro e w1 ⟨rfl, q, rfl⟩
      rw [← HC.out]
      go_wp2_with fail
      obtain ⟨w1, hw1, hs1, hb1, hk1⟩ := step_one (n := q) HSC.out HB.out ((i : Int) + 1)
      rw [← hw1]
      have HK1 := Lib.hid hk1
      have HB1 := Lib.hid hb1
      have HS1 := Lib.hid hs1
      clear hk1 hw1 hb1 hs1
      refine (single_no cs s (i + 1) d _ HS1.out (by omega) hi1 HU.out).mono ?_
      rintro e w2 ⟨rfl, hk2⟩
      have HK2 := Lib.hid hk2
      clear hk2
      go_wp2_with fail
      refine ⟨rfl, ?_⟩
      rw [HRES.out]
      exact ⟨rfl, (HK1.out.trans HK2.out (fun _ _ h => h)).mono fun _ _ h => .inl h⟩
    | some k =>
      have hk := (untilF_some hu).2
      rw [rest_len] at hk
      rw [hu] at hres
      dsimp only at hres
      rw [rest_drop] at hres
      have HRES := Lib.hid hres; clear hres
      have HU := Lib.hid hu; clear hu
      go_enter Try.func36, Try.ntmps36
      go_wp2_with fail
      refine (at0_any cs s i d _ HSC.out (by omega) (by omega)).mono ?_
      rintro e w1 ⟨rfl, q, rfl⟩
      rw [← HC.out]
      go_wp2_with fail
      obtain ⟨w1, hw1, hs1, hb1, hk1⟩ := step_one (n := q) HSC.out HB.out ((i : Int) + 1)
      rw [← hw1]
      have HK1 := Lib.hid hk1
      have HB1 := Lib.hid hb1
      have HS1 := Lib.hid hs1
      clear hk1 hw1 hb1 hs1
      refine (single_yes cs s (i + 1) k d _ HS1.out (by omega) hi1 HU.out).mono ?_
      rintro e w2 ⟨r, rfl, hr, hs2, hk2⟩
      have HR := Lib.hid hr
      have HS2 := Lib.hid hs2
      have HB2 := Lib.hid (HB1.out.keep hk2 (fun _ _ e => e))
      have HK2 := Lib.hid (HK1.out.trans hk2 (fun _ _ h => h))
      have hrs : r.size = k := by rw [Lib.size_eq, hr, List.length_take, rest_len]; omega
      have HRS := Lib.hid hrs
      clear hr hs2 hk2 hrs
      go_wp2_with fail
      refine (put2_any B cs wb g N (2 * i) r _ HB2.out (by omega) (HS2.out.lt)).mono ?_
      intro e w3 hp
      have hfin := thing_put (d := d) (r := rest s (i + 1 + (k + 1))) (l := [quoP ((rest s (i + 1)).take k)]) hp HS2.out HB2.out HK2.out (by omega) (by rfl) (by rw [HR.out]; rfl) (by have := HRS.out; omega)
      have he := hp.1
      subst he
      have HF := Lib.hid hfin
      clear hp hfin
      go_wp2_with fail
      go_end0
      rw [HRES.out]
      exact HF.out
  · have e1 : ((c.toNat : Int) == 39) = false := test_no (c := c) (k := 39) t
    rw [if_neg (fun h => t (beq_iff_eq.1 h))] at hres
    clear t
    by_cases t : c = 34
    · have e2 : ((c.toNat : Int) == 34) = true := test_yes (c := c) (k := 34) t
      rw [if_pos (beq_iff_eq.2 t)] at hres
      clear t
      have HRES := Lib.hid hres; clear hres
      go_enter Try.func36, Try.ntmps36
      go_wp2_with fail
      refine (at0_any cs s i d _ HSC.out (by omega) (by omega)).mono ?_
      rintro e w1 ⟨rfl, q, rfl⟩
      rw [← HC.out]
      go_wp2_with fail
      obtain ⟨w1, hw1, hs1, hb1, hk1⟩ := step_one (n := q) HSC.out HB.out ((i : Int) + 1)
      rw [← hw1]
      have HK1 := Lib.hid hk1
      have HB1 := Lib.hid hb1
      have HS1 := Lib.hid hs1
      clear hk1 hw1 hb1 hs1
      refine (HD.out.dq B cs wb s (i + 1) d (2 * i) g N w1 HS1.out hi1 hd hs HB1.out (by omega) (by omega)).mono ?_
      intro e w2 hp
      have hfin := thing_from hp HK1.out
      cases hres2 : (lexD m .dq d (rest s (i + 1))).ahead [quoP []] with
      | error x =>
        rw [hres2] at hp hfin
        have hr2 := HRES.out.trans hres2
        have HR2 := Lib.hid hr2
        have he := hp.1
        subst he
        have HF := Lib.hid hfin
        clear hp hfin hres2 hr2
        go_wp2_with fail
        refine ⟨rfl, ?_⟩
        rw [HR2.out]
        exact HF.out
      | ok lr =>
        obtain ⟨l, r⟩ := lr
        rw [hres2] at hp hfin
        have hr2 := HRES.out.trans hres2
        have HR2 := Lib.hid hr2
        have he := hp.1
        subst he
        have HF := Lib.hid hfin
        clear hp hfin hres2 hr2
        go_wp2_with fail
        go_end0
        rw [HR2.out]
        exact HF.out
    · have e2 : ((c.toNat : Int) == 34) = false := test_no (c := c) (k := 34) t
      rw [if_neg (fun h => t (beq_iff_eq.1 h))] at hres
      clear t
      by_cases t : c = 92
      · have e3 : ((c.toNat : Int) == 92) = true := test_yes (c := c) (k := 92) t
        rw [if_pos (beq_iff_eq.2 t)] at hres
        clear t
        rcases Nat.lt_or_ge (i + 1) s.size with hlt | hge
        · rw [rest_cons hlt] at hres
          dsimp only at hres
          obtain ⟨x, hx⟩ : ∃ x, x = byteAt s (i + 1) := ⟨_, rfl⟩
          rw [← hx] at hres
          by_cases t10 : x = 10
          · rw [if_pos (beq_iff_eq.2 t10)] at hres
            have hh : headIs 10 (rest s (i + 1)) = true := by rw [rest_cons hlt, ← hx, t10]; rfl
            have HH := Lib.hid hh
            clear t10 hh hx
            have HRES := Lib.hid hres; clear hres
            go_enter Try.func36, Try.ntmps36
            go_wp2_with fail
            refine (at0_any cs s i d _ HSC.out (by omega) (by omega)).mono ?_
            rintro e w1 ⟨rfl, q, rfl⟩
            rw [← HC.out]
            go_wp2_with fail
            obtain ⟨w1, hw1, hs1, hb1, hk1⟩ := step_one (n := q) HSC.out HB.out ((i : Int) + 1)
            rw [← hw1]
            have HK1 := Lib.hid hk1
            have HB1 := Lib.hid hb1
            have HS1 := Lib.hid hs1
            clear hk1 hw1 hb1 hs1
            refine (is_yes cs s ⟨#[10]⟩ (i + 1) d _ HS1.out (by omega) hi1 (by decide) (by rw [hasPrefix_starts, starts_one]; exact HH.out)).mono ?_
            rintro e w2 ⟨rfl, hs2, hk2⟩
            have HS2 := Lib.hid hs2
            have HB2 := Lib.hid (HB1.out.keep hk2 (fun _ _ e => e))
            have HK2 := Lib.hid (HK1.out.trans hk2 (fun _ _ h => h))
            clear hs2 hk2
            go_wp2_with fail
            go_end0
            rw [HRES.out]
            exact thing_none (i := i + 1 + 1) HS2.out HB2.out HK2.out (by omega) rfl (by omega)
          · rw [if_neg (fun h => t10 (beq_iff_eq.1 h))] at hres
            have hh : headIs 10 (rest s (i + 1)) = false := by
              rw [rest_cons hlt, ← hx]
              exact beq_eq_false_iff_ne.2 t10
            have he : decide (s.size ≤ i + 1) = false := decide_eq_false (by omega)
            have HE := Lib.hid he
            have HH := Lib.hid hh
            have HX := Lib.hid hx
            clear t10 hh hx he
            have HRES := Lib.hid hres; clear hres
            go_enter Try.func36, Try.ntmps36
            go_wp2_with fail
            refine (at0_any cs s i d _ HSC.out (by omega) (by omega)).mono ?_
            rintro e w1 ⟨rfl, q, rfl⟩
            rw [← HC.out]
            go_wp2_with fail
            obtain ⟨w1, hw1, hs1, hb1, hk1⟩ := step_one (n := q) HSC.out HB.out ((i : Int) + 1)
            rw [← hw1]
            have HK1 := Lib.hid hk1
            have HB1 := Lib.hid hb1
            have HS1 := Lib.hid hs1
            clear hk1 hw1 hb1 hs1
            refine (is_no cs s ⟨#[10]⟩ (i + 1) d _ HS1.out hi1 (by rw [hasPrefix_starts, starts_one]; exact HH.out)).mono ?_
            rintro e w2 ⟨rfl, q2, rfl⟩
            go_wp2_with fail
            refine (end_any cs s (i + 1) d _ (HS1.out.drewN _)).mono ?_
            rintro e w2 ⟨rfl, q3, rfl⟩
            rw [HE.out]
            have w1e : IntKind.i64.wrap ((i : Int) + 1 + 1) = (i : Int) + 1 + 1 := IntWalk.i64_in _ (by omega)
            have p1 : 0 ≤ (i : Int) + 1 := by omega
            have p2 : (i : Int) + 1 ≤ (i : Int) + 1 + 1 := by omega
            have p3 : (i : Int) + 1 + 1 ≤ (s.size : Int) := by omega
            have p4 : ((i : Int) + 1).toNat = i + 1 := by omega
            have p5 : ((i : Int) + 1 + 1).toNat = i + 1 + 1 := by omega
            clear c0 c1 c2 f1 f2
            go_wp2_with fail
            have hs2 : ScanAt (w1.drewN (q2 + q3)) cs s ((i : Int) + 1) d := HS1.out.drewN _
            have hkk : Keeps (fun b => b = cs) w1 (w1.drewN (q2 + q3)) := (Keeps.refl _ _).drewN _
            have hb2 := HB1.out.keep hkk (fun _ _ e => e)
            have hk2 := HK1.out.trans hkk (fun _ _ h => h)
            obtain ⟨W, hW⟩ : ∃ W, W = w1.drewN (q2 + q3) := ⟨_, rfl⟩
            rw [← hW] at hs2 hb2 hk2
            rw [← hW]
            have HB2 := Lib.hid hb2; have HK2 := Lib.hid hk2
            clear hW hkk hb2 hk2
            have HS2 := Lib.hid hs2
            obtain ⟨d0, d1, d2, df1, df2⟩ := hs2.cells
            clear hs2
            refine wp_region_still_tail 15 (by kernel_rfl) (by kernel_rfl) ?_
            simp only [List.take_succ_cons, List.take_zero, List.drop_succ_cons, List.drop_zero]
            change wpStill _ _ W.drew _ _ _
            repeat still_step
            refine wpStill_nil ?_
            change wpList _ _ _ _ _ W.drew
            go_wp2_with fail
            obtain ⟨R, hR⟩ : ∃ R, R = s.extract (i + 1) (i + 1 + 1) := ⟨_, rfl⟩
            rw [← hR]
            have hRd : R.data.toList = [x] := by
              rw [hR, Lib.extract_data, show i + 1 + 1 - (i + 1) = 1 by omega]
              show (rest s (i + 1)).take 1 = _
              rw [rest_cons hlt, ← HX.out]; rfl
            have hRs : R.size = 1 := by rw [Lib.size_eq, hRd]; rfl
            have HR := Lib.hid hRd
            clear hR hRd
            have hb3 := HB2.out.keep ((Keeps.refl (fun b => b = cs) W).drewN 1) (fun _ _ e => e)
            have hs3 := HS2.out.drewN 1
            have hk3 := HK2.out.drewN 1
            refine (put2_any B cs wb g N (2 * i) R _ hb3 (by omega) hs3.lt).mono ?_
            intro e w3 hp
            obtain ⟨he, g', hs4, hb4, hn4, hk4⟩ := put_then (d := d) (i := i + 1) hp hs3 hb3 hk3
            subst he
            have HB4 := Lib.hid hb4; have HN4 := Lib.hid hn4; have HK4 := Lib.hid hk4; have HS4 := Lib.hid hs4
            obtain ⟨c0, c1, c2, f1, f2⟩ := hs4.cells
            have HRS := Lib.hid hRs
            clear hp hb3 hs3 hk3 hb4 hn4 hk4 hs4 hRs
            go_wp2_with fail
            go_end0
            rw [HRES.out]
            refine thing_move (j := i + 1 + 1) HB4.out HN4.out HK4.out (scan_end HS4.out 0 (by omega)) (keep_end0 _ _ _ _) (by omega) rfl (by rw [HR.out]; rfl) (by have := HRS.out; omega)
        · rw [rest_nil hge] at hres
          dsimp only at hres
          have hh : headIs 10 (rest s (i + 1)) = false := by rw [rest_nil hge]; rfl
          have he : decide (s.size ≤ i + 1) = true := decide_eq_true hge
          have HE := Lib.hid he
          have HH := Lib.hid hh
          clear hh he
          have HRES := Lib.hid hres; clear hres
          go_enter Try.func36, Try.ntmps36
          go_wp2_with fail
          refine (at0_any cs s i d _ HSC.out (by omega) (by omega)).mono ?_
          rintro e w1 ⟨rfl, q, rfl⟩
          rw [← HC.out]
          go_wp2_with fail
          obtain ⟨w1, hw1, hs1, hb1, hk1⟩ := step_one (n := q) HSC.out HB.out ((i : Int) + 1)
          rw [← hw1]
          have HK1 := Lib.hid hk1
          have HB1 := Lib.hid hb1
          have HS1 := Lib.hid hs1
          clear hk1 hw1 hb1 hs1
          refine (is_no cs s ⟨#[10]⟩ (i + 1) d _ HS1.out hi1 (by rw [hasPrefix_starts, starts_one]; exact HH.out)).mono ?_
          rintro e w2 ⟨rfl, q2, rfl⟩
          go_wp2_with fail
          refine (end_any cs s (i + 1) d _ (HS1.out.drewN _)).mono ?_
          rintro e w2 ⟨rfl, q3, rfl⟩
          rw [HE.out]
          have HS2 := Lib.hid (HS1.out.drewN (q2 + q3))
          have hkk : Keeps (fun b => b = cs) w1 (w1.drewN (q2 + q3)) := (Keeps.refl _ _).drewN _
          have HB2 := Lib.hid (HB1.out.keep hkk (fun _ _ e => e))
          have HK2 := Lib.hid (HK1.out.trans hkk (fun _ _ h => h))
          clear hkk
          go_wp2_with fail
          refine (put2_any B cs wb g N (2 * i) ⟨#[92]⟩ _ HB2.out (by omega) (HS2.out.lt)).mono ?_
          intro e w3 hp
          have hfin := thing_put (d := d) (i := i + 1) (r := []) (l := [quoP [92]]) hp HS2.out HB2.out HK2.out hi1 (rest_nil hge) rfl (by show 2 * i + 1 + 1 ≤ _; omega)
          have he := hp.1
          subst he
          have HF := Lib.hid hfin
          clear hp hfin
          go_wp2_with fail
          go_end0
          rw [HRES.out]
          exact HF.out
      · have e3 : ((c.toNat : Int) == 92) = false := test_no (c := c) (k := 92) t
        rw [if_neg (fun h => t (beq_iff_eq.1 h))] at hres
        clear t
        by_cases t : c = 96
        · have e4 : ((c.toNat : Int) == 96) = true := test_yes (c := c) (k := 96) t
          rw [if_pos (beq_iff_eq.2 t)] at hres
          clear t
          have HRES := Lib.hid hres; clear hres
          go_enter Try.func36, Try.ntmps36
          go_wp2_with fail
          refine (at0_any cs s i d _ HSC.out (by omega) (by omega)).mono ?_
          rintro e w1 ⟨rfl, q, rfl⟩
          rw [← HC.out]
          go_wp2_with fail
          obtain ⟨w1, hw1, hs1, hb1, hk1⟩ := step_one (n := q) HSC.out HB.out ((i : Int) + 1)
          rw [← hw1]
          have HK1 := Lib.hid hk1
          have HB1 := Lib.hid hb1
          have HS1 := Lib.hid hs1
          clear hk1 hw1 hb1 hs1
          refine (fail_any 2 _).mono ?_
          rintro e w2 ⟨rfl, rfl⟩
          go_wp2_with fail
          refine ⟨rfl, ?_⟩
          rw [HRES.out]
          exact ⟨rfl, HK1.out.mono fun _ _ h => .inl h⟩
        · have e4 : ((c.toNat : Int) == 96) = false := test_no (c := c) (k := 96) t
          rw [if_neg (fun h => t (beq_iff_eq.1 h))] at hres
          clear t
          by_cases t : c = 36
          · have e5 : ((c.toNat : Int) == 36) = true := test_yes (c := c) (k := 36) t
            rw [if_pos (beq_iff_eq.2 t)] at hres
            clear t
            have HRES := Lib.hid hres; clear hres
            go_enter Try.func36, Try.ntmps36
            go_wp2_with fail
            refine (at0_any cs s i d _ HSC.out (by omega) (by omega)).mono ?_
            rintro e w1 ⟨rfl, q, rfl⟩
            rw [← HC.out]
            go_wp2_with fail
            obtain ⟨w1, hw1, hs1, hb1, hk1⟩ := step_one (n := q) HSC.out HB.out ((i : Int) + 1)
            rw [← hw1]
            have HK1 := Lib.hid hk1
            have HB1 := Lib.hid hb1
            have HS1 := Lib.hid hs1
            clear hk1 hw1 hb1 hs1
            refine (HD.out.dol false B cs wb s (i + 1) d (2 * i) g N w1 HS1.out hi1 hd hs HB1.out (by omega) (by omega)).mono ?_
            intro e w2 hp
            have hfin := thing_from hp HK1.out
            cases hres2 : lexD m (.dol false) d (rest s (i + 1)) with
            | error x =>
              rw [hres2] at hp hfin
              have hr2 := HRES.out.trans hres2
              have HR2 := Lib.hid hr2
              have he := hp.1
              subst he
              have HF := Lib.hid hfin
              clear hp hfin hres2 hr2
              go_wp2_with fail
              refine ⟨rfl, ?_⟩
              rw [HR2.out]
              exact HF.out
            | ok lr =>
              obtain ⟨l, r⟩ := lr
              rw [hres2] at hp hfin
              have hr2 := HRES.out.trans hres2
              have HR2 := Lib.hid hr2
              have he := hp.1
              subst he
              have HF := Lib.hid hfin
              clear hp hfin hres2 hr2
              go_wp2_with fail
              go_end0
              rw [HR2.out]
              exact HF.out
          · have e5 : ((c.toNat : Int) == 36) = false := test_no (c := c) (k := 36) t
            rw [if_neg (fun h => t (beq_iff_eq.1 h))] at hres
            clear t
            have HRES := Lib.hid hres; clear hres
            have kb := conv_one
            go_enter Try.func36, Try.ntmps36
            go_wp2_with fail
            refine (at0_any cs s i d _ HSC.out (by omega) (by omega)).mono ?_
            rintro e w1 ⟨rfl, q, rfl⟩
            rw [← HC.out]
            go_wp2_with fail
            obtain ⟨w1, hw1, hs1, hb1, hk1⟩ := step_one (n := q) HSC.out HB.out ((i : Int) + 1)
            rw [← hw1]
            have HK1 := Lib.hid hk1
            have HB1 := Lib.hid hb1
            have HS1 := Lib.hid hs1
            clear hk1 hw1 hb1 hs1
            clear kb
            have HS2 := Lib.hid (HS1.out.alloc (.cells #[.int .u8 (c.toNat : Nat)] 5))
            have hkk : Keeps (fun b => b = cs) w1 (w1.alloc (.cells #[.int .u8 (c.toNat : Nat)] 5)) := (Keeps.refl _ _).alloc _
            have HB2 := Lib.hid (HB1.out.keep hkk (fun _ _ e => e))
            have HK2 := Lib.hid (HK1.out.trans hkk (fun _ _ h => h))
            clear hkk
            refine (put1_any B cs wb g N (2 * i) ⟨#[c]⟩ _ HB2.out (by simp) (by omega) (HS2.out.lt)).mono ?_
            intro e w3 hp
            have hfin := thing_put (d := d) (i := i + 1) (r := rest s (i + 1)) (l := [txtP [c]]) hp HS2.out HB2.out HK2.out hi1 rfl rfl (by show 2 * i + 1 + 1 ≤ _; omega)
            have he := hp.1
            subst he
            have HF := Lib.hid hfin
            clear hp hfin
            go_wp2_with fail
            go_end0
            rw [HRES.out]
            exact HF.out
end Go.Proofs.Ytnndnldpbdhkgaa
