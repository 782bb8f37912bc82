/-
  A text expanded.
-/
import Derived.Test.YtglppnpllpfaeaaMacG
import Derived.Shelf.Strings.BuilderK
namespace Go.Proofs.Ytglppnpllpfaeaa
open Go.RowKit
set_option linter.unusedVariables false

theorem lays166 : Go.Proofs.Lays.n166 Try.prog Try.lays156_ren := { Try.lays156 with }
theorem write_any (B b : Nat) (acc : Bs) (s : ByteArray) (w : World) (h : Lib.IsBuilderF 63 5 B b (Lib.byteCells acc) w) (hlen : acc.length + s.size ≤ 140737488355328) (hBw : B ≤ w.heap.size) :
    Calls Try.prog 28 #[.pointer (some ⟨b, 0, none⟩), .string s] w fun e w' => e = .returned (.tuple #[.int .i64 s.size, .nilIface]) ∧ Lib.IsBuilderF 63 5 B b (Lib.byteCells (acc ++ s.data.toList)) w' ∧ Below B w w' ∧ Lib.OthersKept 5 (some b) w w' := by
  refine (Any.Builder_WriteString_k lays166 Try.Builder_Extra_156 B b (Lib.byteCells acc) s w h (by rw [Lib.byteCells_length]; exact hlen) hBw).mono ?_
  rintro e w' ⟨rfl, h1, h2, h3⟩
  rw [Lib.strCells_eq, ← Lib.byteCells_append] at h1
  exact ⟨rfl, Or.inr h1, h2, h3⟩
theorem cut_any (s : ByteArray) (c : UInt8) (w : World) (hs : s.size ≤ 1000000000) (hm : ∃ m : Int, w.cell? ⟨0, 0, none⟩ = some (.int .i64 m)) :
    Calls Try.prog 27 #[.string s, .string ⟨#[c]⟩] w fun e w' => e = .returned (.tuple #[strV (cutF c s.data.toList).1, strV (cutF c s.data.toList).2.1, .bool (cutF c s.data.toList).2.2]) ∧ Drawn w w' := by
  obtain ⟨m, hm⟩ := hm
  refine (Try.strings_Cut s ⟨#[c]⟩ m w (by omega) hm).mono ?_
  rintro e w' ⟨rfl, h'⟩
  refine ⟨?_, h'⟩
  rw [← cut_one]
  rfl

/-- What a writer to the builder in block b may touch. -/
def Built (w : World) (B b : Nat) (k : Nat) : Prop := B ≤ k ∧ (k = b ∨ ∃ c fz, w.heap[k]? = some (.cells c 5 fz))
theorem keeps_built {w w' : World} {B b : Nat} (h : Below B w w') (ho : Lib.OthersKept 5 (some b) w w') : Keeps (Built w B b) w w' := by
  refine ⟨h.os, h.tape, h.output, h.size, fun k hk hn => ?_⟩
  rcases Nat.lt_or_ge k B with h1 | h1
  · exact h.block k h1
  · obtain ⟨o, hob⟩ : ∃ o, w.heap[k]? = some o := ⟨_, Array.getElem?_eq_getElem hk⟩
    rw [hob]
    exact ho k o hob (fun e => hn ⟨h1, .inl (Option.some.inj e)⟩) fun c fz e => hn ⟨h1, .inr ⟨c, fz, by rw [hob, e]⟩⟩
theorem builder_block {w : World} {B b : Nat} {acc : List Value} (h : Lib.IsBuilderF 63 5 B b acc w) : ∃ cs, w.heap[b]? = some (.cells cs 63 (0, 0)) ∧ B ≤ b := by
  rcases h with ⟨hB, v, hb, _⟩ | ⟨hB, v, hb, _⟩ <;> exact ⟨_, hb, hB⟩
theorem builder_keep {w w' : World} {B b : Nat} {acc : List Value} {S : Nat → Prop} (h : Lib.IsBuilderF 63 5 B b acc w) (hk : Keeps S w w') (hb : ¬ S b) (hu : ∀ g c fz, w.heap[g]? = some (.cells c 5 fz) → B ≤ g → ¬ S g) : Lib.IsBuilderF 63 5 B b acc w' := by
  have key : ∀ p, Lib.BuilderAtF 63 5 B b p acc w → Lib.BuilderAtF 63 5 B b p acc w' := fun p ⟨hB, v, h1, h2, h3⟩ => by
    refine ⟨hB, v, (hk.block b (Array.getElem?_eq_some_iff.1 h1).1 hb).trans h1, ⟨h2.1, ?_⟩, h3⟩
    rcases h2.2 with h0 | ⟨g, cap, cur, fz, e, hg1, hg2, rest⟩
    · exact .inl h0
    · exact .inr ⟨g, cap, cur, fz, e, hg1, (hk.block g (Array.getElem?_eq_some_iff.1 hg2).1 (hu g cur fz hg2 hg1)).trans hg2, rest⟩
  exact h.elim (fun x => .inl (key _ x)) (fun x => .inr (key _ x))
/-- The row of open names is none of the builder's. -/
theorem row_not_built {w : World} {B b n : Nat} {acc xs : List Value} {ov : Value} (h : Lib.IsBuilderF 63 5 B b acc w) (ho : w.ownsRow 0 9 1 ov n xs) {g : Nat} (hg : ov.ownBlock = some g) : g ≠ b ∧ ∀ c fz, w.heap[g]? ≠ some (.cells c 5 fz) := by
  rcases ho.2 with ⟨rfl, _⟩ | ⟨g', cap, cur, rfl, _, h1, _⟩
  · cases hg
  · obtain rfl : g' = g := Option.some.inj hg
    refine ⟨fun e => ?_, fun c fz e => ?_⟩
    · obtain ⟨cs, h2, _⟩ := builder_block h
      rw [← e, h1] at h2
      injection h2 with h2
      injection h2 with _ h2
      exact absurd h2 (by decide)
    · rw [h1] at e
      injection e with e
      injection e with _ e
      exact absurd e (by decide)
/-- Where the text's loop begins a round. -/
structure TAt (w wr : World) (xb : Nat) (lv av ov ov' : Value) (l auto : List (Bs × Bs)) (op : List Bs) (deep refs : Nat) (acc : Bs) : Prop where
  x : XAt wr xb lv av ov' l auto op deep refs
  b : Lib.IsBuilderF 63 5 w.heap.size w.heap.size (Lib.byteCells acc) wr
  n : Newer w ov ov'
  k : Keeps (Foot xb ov) w wr
  lt : xb < w.heap.size
section
variable {w wr w2 : World} {xb : Nat} {lv av ov ov' ov2 : Value} {l auto : List (Bs × Bs)} {op : List Bs} {deep refs r2 : Nat} {acc acc2 : Bs}
theorem TAt.write (h : TAt w wr xb lv av ov ov' l auto op deep refs acc) (hb : Below w.heap.size wr w2) (ho : Lib.OthersKept 5 (some w.heap.size) wr w2) (hB : Lib.IsBuilderF 63 5 w.heap.size w.heap.size (Lib.byteCells acc2) w2) : TAt w w2 xb lv av ov ov' l auto op deep refs acc2 := by
  have hk := keeps_built hb ho
  have hl := h.lt
  refine ⟨h.x.keep hk (fun b hb e => by have := e.1; omega) (fun g hg e => ?_), hB, h.n, h.k.trans hk (fun b hb e => by have := e.1; omega), h.lt⟩
  obtain ⟨h1, h2⟩ := row_not_built h.b h.x.ho hg
  rcases e.2 with e | ⟨c, fz, e⟩
  · exact h1 e
  · exact h2 c fz e
theorem TAt.drewN (h : TAt w wr xb lv av ov ov' l auto op deep refs acc) (n : Nat) : TAt w (wr.drewN n) xb lv av ov ov' l auto op deep refs acc :=
  ⟨h.x.drewN n, builder_keep (S := fun _ => False) h.b ((Keeps.refl _ _).drewN n) (fun x => x) (fun _ _ _ _ _ x => x), h.n, h.k.drewN n, h.lt⟩
theorem TAt.called (h : TAt w wr xb lv av ov ov' l auto op deep refs acc) (hx : XAt w2 xb lv av ov2 l auto op deep r2) (hn : Newer wr ov' ov2) (hk : Keeps (Foot xb ov') wr w2) : TAt w w2 xb lv av ov ov2 l auto op deep r2 acc := by
  have hl := h.lt
  refine ⟨hx, builder_keep h.b hk ?_ ?_, h.n.trans hn h.k.size, Foot.trans h.k h.n hk, h.lt⟩
  · rintro (e | e)
    · omega
    · exact (row_not_built h.b h.x.ho e).1 rfl
  · rintro g c fz hg hge (e | e)
    · omega
    · exact (row_not_built h.b h.x.ho e).2 c fz hg
end
set_option maxRecDepth 100000 in
set_option maxHeartbeats 8000000 in
theorem text_any (l auto : List (Bs × Bs)) (k : Nat) (HR : RefOK l auto k) (hsm : Small auto) : TextOK l auto k := by
  intro w xb lv av ov op deep refs s h hk hs
  by_cases hlong : 16384 < s.size
  · rw [show textF (refF l auto k op) refs s.data.toList = .error 3 by unfold textF; rw [if_pos (by rw [← Lib.size_eq]; exact hlong)]]
    have p1 : (16384 : Int) < (s.size : Int) := by omega
    have HX := Lib.hid h
    clear h hlong
    go_enter Try.func22, Try.ntmps22
    go_wp2_with fail
    refine (fail_any 3 _).mono ?_
    rintro e w1 ⟨rfl, hw1⟩
    rw [hw1]
    go_wp2_with fail
    exact ⟨rfl, _, refs, rfl, HX.out.rc, Keeps.refl _ _⟩
  have p1 : ¬ (16384 : Int) < (s.size : Int) := by omega
  obtain ⟨ref, href⟩ : ∃ ref, ref = refF l auto k op := ⟨_, rfl⟩
  obtain ⟨res, hres⟩ : ∃ res, res = textF (refF l auto k op) refs s.data.toList := ⟨_, rfl⟩
  rw [← hres]
  have HRES := Lib.hid (show res = loopC ref [] refs s.data.toList by
    rw [hres, href]
    unfold textF
    rw [if_neg (by rw [← Lib.size_eq]; omega)]
    rfl)
  have HREF := Lib.hid href
  have HRL := Lib.hid (show ∀ a b c d, ref a b = .ok (c, d) → c.length ≤ 20000000000 from fun a b c d hh => refF_len hsm (by rw [← href]; exact hh))
  have HONE := Lib.hid (show ∀ (w : World) (ov : Value) (refs : Nat) (s : ByteArray), XAt w xb lv av ov l auto op deep refs → s.size ≤ 16384 → Calls Try.prog 30 #[.pointer (some ⟨xb, 0, none⟩), .string s] w (XPost w xb lv av ov l auto op deep mk2 (oneF ref refs s.data.toList)) from fun w ov refs s h h2 => by
    rw [href]; exact one_any l auto k HR w xb lv av ov op deep refs s h hk h2)
  have HX := Lib.hid h
  have hsz : s.size ≤ 16384 := by omega
  clear h hlong hres href HR hsm hs
  go_enter Try.func22, Try.ntmps22
  go_wp2_with fail
  have HT0 := Lib.hid (show TAt w (w.alloc (.cells #[.pointer none, .slice none 0 0] 63)) xb lv av ov ov l auto op deep refs [] from
    ⟨HX.out.alloc _, .inl ⟨Nat.le_refl _, .slice none 0 0, heap_alloc_new w _, ⟨rfl, .inl ⟨rfl, rfl⟩⟩, by simp [Value.ownBlock]⟩, Newer.refl _ _, (Keeps.refl _ _).alloc _, HX.out.rc.lt⟩)
  go_loopg [1] (s.size + 1) (fun g s' wr => ∃ (S : ByteArray) (acc : Bs) (ov' : Value) (r : Nat), g = S.size + 1 ∧ s' = .string S ∧ S.size ≤ 16384 ∧ acc.length ≤ 16384 ∧ Hid (res = loopC ref acc r S.data.toList) ∧ TAt w wr xb lv av ov ov' l auto op deep r acc)
  case atStart => exact ⟨s, [], ov, refs, rfl, rfl, hsz, Nat.zero_le _, HRES, HT0.out⟩
  case round =>
    obtain ⟨S, acc, ov', r, hgg, rfl, hSz, hacc, HL, htk⟩ := hrel
    have HGG := Lib.hid hgg
    have HTK := Lib.hid htk
    clear hgg htk
    obtain ⟨z, hz⟩ : ∃ z, z = cutF 36 S.data.toList := ⟨_, rfl⟩
    obtain ⟨F, R, ok⟩ := z
    have HZ := Lib.hid hz.symm
    have HFL := Lib.hid (show F.length ≤ 16384 by have := (cutF_le 36 S.data.toList).1; rw [← hz, ← Lib.size_eq] at this; dsimp only at this; omega)
    have HRSL := Lib.hid (show R.length ≤ S.size by have := (cutF_le 36 S.data.toList).2; rw [← hz, ← Lib.size_eq] at this; dsimp only at this; omega)
    have HRS := Lib.hid (show ok = true → R.length < S.size from fun h => by have := cutF_len (c := 36) (s := S.data.toList) (by rw [← hz]; exact h); rw [← hz, ← Lib.size_eq] at this; exact this)
    have HE := Lib.hid (show res = if 16384 < (acc ++ F).length then .error 3
      else if ok then (match oneF ref r R with
        | .error e => .error e
        | .ok ((y, k), r) => if 16384 < (acc ++ F ++ y).length then .error 3 else loopC ref (acc ++ F ++ y) r (R.drop k))
      else .ok (acc ++ F, r) by rw [HL.out, loopC_eq, ← hz]; rfl)
    clear hz
    have HFB : ∃ FB : ByteArray, FB = ⟨F.toArray⟩ := ⟨_, rfl⟩
    obtain ⟨FB, hFB⟩ := HFB
    obtain ⟨RB, hRB⟩ : ∃ RB : ByteArray, RB = ⟨R.toArray⟩ := ⟨_, rfl⟩
    have HFD := Lib.hid (show FB.data.toList = F by rw [hFB])
    have HRD := Lib.hid (show RB.data.toList = R by rw [hRB])
    have HCUT := Lib.hid (show ∀ (w : World), (∃ m : Int, w.cell? ⟨0, 0, none⟩ = some (.int .i64 m)) → Calls Try.prog 27 #[.string S, .string ⟨#[36]⟩] w fun e w' => e = .returned (.tuple #[.string FB, .string RB, .bool ok]) ∧ Drawn w w' from fun w hm => by
      refine (cut_any S 36 w (by omega) hm).mono ?_
      rintro e w' ⟨rfl, h⟩
      refine ⟨?_, h⟩
      rw [HZ.out, hFB, hRB]; rfl)
    clear hFB hRB
    have hRBs : RB.size ≤ 16384 := by rw [Lib.size_eq, HRD.out]; have := HRSL.out; omega
    go_wp2_with fail
    refine (HCUT.out _ HTK.out.x.gl).mono ?_
    rintro e w1 ⟨rfl, n1, hw1⟩
    have HT1 := Lib.hid (show TAt w w1 xb lv av ov ov' l auto op deep r acc by rw [hw1]; exact HTK.out.drewN n1)
    clear hw1
    go_wp2_with fail
    refine (write_any _ _ acc _ _ HT1.out.b (by rw [Lib.size_eq, HFD.out]; have := HFL.out; omega) HT1.out.k.size).mono ?_
    rintro e w2 ⟨rfl, hb2, hbl, hok⟩
    rw [HFD.out] at hb2
    obtain ⟨A1, hA1⟩ : ∃ A1, A1 = acc ++ F := ⟨_, rfl⟩
    rw [← hA1] at hb2
    have HT2 := Lib.hid (HT1.out.write hbl hok hb2)
    have hE := HE.out
    rw [← hA1] at hE
    have hA1l : A1.length ≤ 32768 := by rw [hA1, List.length_append]; have := HFL.out; omega
    clear hb2 hbl hok hA1
    obtain ⟨N1, hN1⟩ : ∃ N1, N1 = A1.length := ⟨_, rfl⟩
    have HN1 := Lib.hid hN1
    rw [← hN1] at hA1l
    rcases Nat.lt_or_ge 16384 N1 with h16 | h16
    · have HX3 := Lib.hid (show res = .error 3 by rw [hE, if_pos (by rw [← hN1]; exact h16)])
      have p16 : (16384 : Int) < (N1 : Int) := by omega
      clear hE hN1
      cases ok with
      | false =>
        go_wp2_with fail
        refine (Try.Builder_Len_f _ _ _ _ HT2.out.b).mono ?_
        rintro e wl ⟨rfl, hwl⟩
        rw [hwl, Lib.byteCells_length]
        clear hwl
        rw [← HN1.out]
        go_wp2_with fail
        refine (fail_any 3 _).mono ?_
        rintro e wf ⟨rfl, hwf⟩
        rw [hwf]
        clear hwf
        have HP := Lib.hid (show XPost w xb lv av ov l auto op deep strV res (failed 3) _ by rw [HX3.out]; exact ⟨ov', _, rfl, HT2.out.x.rc, HT2.out.k⟩)
        go_wp2_with fail
        exact ⟨rfl, HP.out⟩
      | true =>
        go_wp2_with fail
        refine (Try.Builder_Len_f _ _ _ _ HT2.out.b).mono ?_
        rintro e wl ⟨rfl, hwl⟩
        rw [hwl, Lib.byteCells_length]
        clear hwl
        rw [← HN1.out]
        go_wp2_with fail
        refine (Try.Builder_Len_f _ _ _ _ HT2.out.b).mono ?_
        rintro e wl ⟨rfl, hwl⟩
        rw [hwl, Lib.byteCells_length]
        clear hwl
        rw [← HN1.out]
        go_wp2_with fail
        refine (fail_any 3 _).mono ?_
        rintro e wf ⟨rfl, hwf⟩
        rw [hwf]
        clear hwf
        have HP := Lib.hid (show XPost w xb lv av ov l auto op deep strV res (failed 3) _ by rw [HX3.out]; exact ⟨ov', _, rfl, HT2.out.x.rc, HT2.out.k⟩)
        go_wp2_with fail
        exact ⟨rfl, HP.out⟩
    · rw [if_neg (by rw [← hN1]; omega)] at hE
      have p16 : ¬ (16384 : Int) < (N1 : Int) := by omega
      clear hN1
      cases ok with
      | false =>
        have HX3 := Lib.hid (show res = .ok (A1, r) by rw [hE, if_neg (by simp)])
        clear hE
        go_wp2_with fail
        refine (Try.Builder_Len_f _ _ _ _ HT2.out.b).mono ?_
        rintro e wl ⟨rfl, hwl⟩
        rw [hwl, Lib.byteCells_length]
        clear hwl
        rw [← HN1.out]
        go_wp2_with fail
        refine (Try.Builder_String_any_k _ _ A1 _ HT2.out.b HT2.out.k.size).mono ?_
        rintro e w3 ⟨rfl, hb3, hbl3, hok3⟩
        have HT3 := Lib.hid (HT2.out.write hbl3 hok3 hb3)
        clear hb3 hbl3 hok3
        go_wp2_with fail
        go_ret
        rw [HX3.out]
        exact ⟨ov', rfl, HT3.out.x, HT3.out.n, HT3.out.k⟩
      | true =>
        rw [if_pos rfl] at hE
        have HE2 := Lib.hid hE
        clear hE
        go_wp2_with fail
        refine (Try.Builder_Len_f _ _ _ _ HT2.out.b).mono ?_
        rintro e wl ⟨rfl, hwl⟩
        rw [hwl, Lib.byteCells_length]
        clear hwl
        rw [← HN1.out]
        have hcall := HONE.out w2 ov' r RB HT2.out.x hRBs
        rw [HRD.out] at hcall
        obtain ⟨ro, hro⟩ : ∃ ro, ro = oneF ref r R := ⟨_, rfl⟩
        rw [← hro] at hcall
        have HRO := Lib.hid hro
        have HCALL := Lib.hid hcall
        clear hro hcall
        go_wp2_with fail
        refine HCALL.out.mono ?_
        intro e w3 hp
        cases ro with
        | error x =>
          obtain ⟨ov4, r4, rfl, hr4, hk4⟩ := hp
          have HP := Lib.hid (show XPost w xb lv av ov l auto op deep strV res (failed x) w3 by
            rw [HE2.out, ← HRO.out]
            exact ⟨ov4, r4, rfl, hr4, Foot.trans HT2.out.k HT2.out.n hk4⟩)
          clear hr4 hk4
          go_wp2_with fail
          exact ⟨rfl, HP.out⟩
        | ok z =>
          obtain ⟨⟨y, n⟩, r'⟩ := z
          obtain ⟨ov4, rfl, hx4, hn4, hk4⟩ := hp
          have HT3 := Lib.hid (HT2.out.called hx4 hn4 hk4)
          obtain ⟨hnl, hyl⟩ := oneF_le HRL.out HRO.out.symm (fun o c t k h => closedF_lt h)
          have hnR : n ≤ RB.size := by rw [Lib.size_eq, HRD.out]; exact hnl
          obtain ⟨YB, hYB⟩ : ∃ YB : ByteArray, YB = ⟨y.toArray⟩ := ⟨_, rfl⟩
          have HYD := Lib.hid (show YB.data.toList = y by rw [hYB])
          have HYL := Lib.hid (show y.length ≤ 20000000000 by omega)
          have hE := HE2.out
          rw [← HRO.out] at hE
          dsimp only at hE
          rw [show mk2 (y, n) = .tuple #[.string YB, .int .i64 n] by rw [hYB]; rfl]
          have q1 : (n : Int) ≤ (RB.size : Int) := by omega
          clear hx4 hn4 hk4 hnl hyl hYB
          obtain ⟨A2, hA2⟩ : ∃ A2, A2 = A1 ++ y := ⟨_, rfl⟩
          rw [← hA2] at hE
          have HE3 := Lib.hid hE
          have HA2 := Lib.hid hA2
          clear hE hA2
          go_wp2_with fail
          refine (write_any _ _ A1 _ _ HT3.out.b (by rw [Lib.size_eq, HYD.out, ← HN1.out]; have := HYL.out; omega) HT3.out.k.size).mono ?_
          rintro e w4 ⟨rfl, hb4, hbl4, hok4⟩
          rw [HYD.out, ← HA2.out] at hb4
          have HT4 := Lib.hid (HT3.out.write hbl4 hok4 hb4)
          clear hb4 hbl4 hok4
          obtain ⟨N2, hN2⟩ : ∃ N2, N2 = A2.length := ⟨_, rfl⟩
          have HN2 := Lib.hid hN2
          rcases Nat.lt_or_ge 16384 N2 with h17 | h17
          · have HX3 := Lib.hid (show res = .error 3 by rw [HE3.out, if_pos (by rw [← hN2]; exact h17)])
            have p17 : (16384 : Int) < (N2 : Int) := by omega
            clear hN2
            go_wp2_with fail
            refine (Try.Builder_Len_f _ _ _ _ HT4.out.b).mono ?_
            rintro e wl ⟨rfl, hwl⟩
            rw [hwl, Lib.byteCells_length]
            clear hwl
            rw [← HN2.out]
            go_wp2_with fail
            refine (fail_any 3 _).mono ?_
            rintro e wf ⟨rfl, hwf⟩
            rw [hwf]
            clear hwf
            have HP := Lib.hid (show XPost w xb lv av ov l auto op deep strV res (failed 3) _ by rw [HX3.out]; exact ⟨ov4, _, rfl, HT4.out.x.rc, HT4.out.k⟩)
            go_wp2_with fail
            exact ⟨rfl, HP.out⟩
          · have HX3 := Lib.hid (show res = loopC ref A2 r' (R.drop n) by rw [HE3.out, if_neg (by rw [← hN2]; omega)])
            have p17 : ¬ (16384 : Int) < (N2 : Int) := by omega
            clear hN2
            go_wp2_with fail
            refine (Try.Builder_Len_f _ _ _ _ HT4.out.b).mono ?_
            rintro e wl ⟨rfl, hwl⟩
            rw [hwl, Lib.byteCells_length]
            clear hwl
            rw [← HN2.out]
            go_wp2_with fail
            go_roundg ((RB.extract n RB.size).size + 1)
            case measure =>
              have h1 := HGG.out
              have h2 := HRS.out (by first | rfl | trivial)
              have h3 : RB.size = R.length := by rw [Lib.size_eq, HRD.out]
              rw [ByteArray.size_extract]
              omega
            case rel => exact ⟨RB.extract n RB.size, A2, ov4, r', rfl, rfl, by rw [ByteArray.size_extract]; omega, by rw [← HN2.out]; omega, Lib.hid (by rw [HX3.out, ex_from, HRD.out]), HT4.out⟩
end Go.Proofs.Ytglppnpllpfaeaa
