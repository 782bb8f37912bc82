/-
  The value of a name.
-/
import Derived.Test.YtglppnpllpfaeaaMacE
import Derived.Test.YtglppnpllpfaeaaShelf
namespace Go.Proofs.Ytglppnpllpfaeaa
open Go.RowKit
set_option linter.unusedVariables false

theorem row_forms {w : World} {B n : Nat} {e : TypeId} {v : Value} {xs : List Value} (h : w.ownsRow B e 1 v n xs) : (v = .slice none 0 0 ∧ n = 0) ∨ ∃ g cap, v = .slice (some ⟨g, 0, none⟩) n cap := by
  rcases h.2 with h1 | ⟨g, cap, _, h1, _⟩
  · exact .inl h1
  · exact .inr ⟨g, cap, h1⟩
theorem contains_any (ov : Value) (op : List Bs) (name : ByteArray) (w : World) (h : w.ownsRow 0 9 1 ov op.length (op.map strV)) (hl : op.length ≤ 9223372036854775807) :
    Calls Try.prog 56 #[ov, .string name] w fun e w' => e = .returned (.bool (op.contains name.data.toList)) ∧ w' = w := by
  rcases row_forms h with ⟨rfl, h0⟩ | ⟨g, cap, rfl⟩
  · obtain rfl : op = [] := List.eq_nil_of_length_eq_zero h0
    exact Try.slices_Contains_string_empty none 0 name w
  · have e : Lib.containsS ((op.map fun x => (⟨x.toArray⟩ : ByteArray)).take op.length) name = op.contains name.data.toList := by
      rw [List.take_of_length_le (by simp), Bool.eq_iff_iff, Lib.containsS_iff, List.contains_iff_mem, List.mem_map]
      constructor
      · rintro ⟨x, hx, rfl⟩; simpa using hx
      · intro hx
        exact ⟨_, hx, by rw [Array.toArray_toList]⟩
    rw [← e]
    refine Try.slices_Contains_string g 0 op.length cap (op.map fun x => (⟨x.toArray⟩ : ByteArray)) name w (by simp) hl fun j hj => ?_
    rw [List.length_map] at hj
    have hc := h.cellAt j (by omega)
    rw [Nat.zero_add, hc, List.getElem?_map, List.getElem?_eq_getElem hj, List.getD_eq_getElem?_getD, List.getElem?_map, List.getElem?_eq_getElem hj]
    rfl
theorem info_string : (Try.prog.info? 9).map (fun i => (i.zero, i.size, i.bytes)) = some (some (.string ⟨#[]⟩), 1, 16) := by kernel_rfl

section
variable {w w2 : World} {xb : Nat} {lv av ov : Value} {l auto : List (Bs × Bs)} {op : List Bs} {deep refs : Nat}
theorem XAt.push {g cap : Nat} {o : Obj} {N : Bs} (h : XAt w xb lv av ov l auto op deep refs) (hd : op.length < deep)
    (hown : w2.ownsRow 0 9 1 (.slice (some ⟨g, 0, none⟩) (op.length + 1) cap) (op.length + 1) (op.map strV ++ [strV N])) (hgrow : (w.alloc o).grownBy w2 ov.ownBlock) (hat : ov.ownBlock = some g ∨ g = w.heap.size + 1) :
    RecAt w2 xb [lv, av, ov, .int .i64 deep, .int .i64 refs] ∧ XAt (w2.setCell ⟨xb, 2, none⟩ (.slice (some ⟨g, 0, none⟩) (op.length + 1) cap)) xb lv av (.slice (some ⟨g, 0, none⟩) (op.length + 1) cap) l auto (op ++ [N]) deep refs ∧
      Newer w ov (.slice (some ⟨g, 0, none⟩) (op.length + 1) cap) ∧ Keeps (Foot xb ov) w (w2.setCell ⟨xb, 2, none⟩ (.slice (some ⟨g, 0, none⟩) (op.length + 1) cap)) := by
  have hk : Keeps (fun b => ov.ownBlock = some b) w w2 := ((Keeps.refl _ w).alloc o).grown hgrow fun k hk _ => hk
  have hne : ∀ b, b ≤ xb → ¬ ov.ownBlock = some b := fun b hb e => by have := h.low b e; omega
  have hrc := h.rc.keep hk (hne xb (Nat.le_refl _))
  have hxl := h.rc.lt
  have hgx : xb < g := by
    rcases hat with e | e
    · exact h.low g e
    · omega
  have hk2 : Keeps (Foot xb ov) w (w2.setCell ⟨xb, 2, none⟩ (.slice (some ⟨g, 0, none⟩) (op.length + 1) cap)) := (hk.mono fun b _ e => .inr e).setCell _ _ fun _ => .inl rfl
  have hk3 : Keeps (fun b => b = xb) w2 (w2.setCell ⟨xb, 2, none⟩ (.slice (some ⟨g, 0, none⟩) (op.length + 1) cap)) := (Keeps.refl _ _).setCell _ _ fun _ => rfl
  refine ⟨hrc, ⟨hrc.set 2 _, ?_, ?_, ?_, ?_, ?_, h.deep40, h.refs_le, ?_, h.pos⟩, ?_, hk2⟩
  · exact h.hl.keep hk2 fun b _ hb e => by
      rcases e with e | e
      · omega
      · exact hne b (by omega) e
  · exact h.ha.keep hk2 fun b _ hb e => by
      rcases e with e | e
      · omega
      · exact hne b (by omega) e
  · rw [List.map_append, List.length_append]
    exact ownsRow_keep hown hk3 fun y hy e => by
      obtain rfl : g = y := Option.some.inj hy
      omega
  · intro y hy
    obtain rfl : g = y := Option.some.inj hy
    exact hgx
  · rw [List.length_append]; exact hd
  · obtain ⟨m, hm⟩ := h.gl
    exact ⟨m, by
      rw [World.cell?_of_block (hk2.block 0 (cellx_lt hm) (fun e => by
        rcases e with e | e
        · have := h.pos; omega
        · exact hne 0 (Nat.zero_le _) e))]
      exact hm⟩
  · intro y hy
    obtain rfl : g = y := Option.some.inj hy
    rcases hat with e | e
    · exact .inl e
    · exact .inr (by omega)
theorem XAt.pop {g cap : Nat} {N : Bs} (h : XAt w xb lv av (.slice (some ⟨g, 0, none⟩) (op.length + 1) cap) l auto (op ++ [N]) deep refs) :
    XAt (w.setCell ⟨xb, 2, none⟩ (.slice (some ⟨g, 0, none⟩) op.length cap)) xb lv av (.slice (some ⟨g, 0, none⟩) op.length cap) l auto op deep refs ∧ Keeps (Foot xb (.slice (some ⟨g, 0, none⟩) (op.length + 1) cap)) w (w.setCell ⟨xb, 2, none⟩ (.slice (some ⟨g, 0, none⟩) op.length cap)) := by
  have hk : Keeps (fun b => b = xb) w (w.setCell ⟨xb, 2, none⟩ (.slice (some ⟨g, 0, none⟩) op.length cap)) := (Keeps.refl _ _).setCell _ _ fun _ => rfl
  have hgx : xb < g := h.low g rfl
  have ho := h.ho
  rw [List.map_append, List.length_append] at ho
  refine ⟨⟨h.rc.set 2 _, ?_, ?_, ?_, ?_, ?_, h.deep40, h.refs_le, ?_, h.pos⟩, hk.mono fun b _ e => .inl e⟩
  · exact h.hl.keep hk fun b _ hb e => by omega
  · exact h.ha.keep hk fun b _ hb e => by omega
  · exact ownsRow_keep (ownsRow_less ho) hk fun y hy e => by
      obtain rfl : g = y := Option.some.inj hy
      omega
  · intro y hy
    obtain rfl : g = y := Option.some.inj hy
    exact hgx
  · have := h.ops; rw [List.length_append] at this; exact Nat.le_of_succ_le this
  · obtain ⟨m, hm⟩ := h.gl
    exact ⟨m, by rw [World.cell?_of_block (hk.block 0 (cellx_lt hm) (fun e => by have := h.pos; omega))]; exact hm⟩
end
/-- What text does, so deep. -/
def TextOK (l auto : List (Bs × Bs)) (k : Nat) : Prop := ∀ (w : World) (xb : Nat) (lv av ov : Value) (op : List Bs) (deep refs : Nat) (s : ByteArray), XAt w xb lv av ov l auto op deep refs → deep + k = 40 → s.size ≤ 140737488351232 →
  Calls Try.prog 22 #[.pointer (some ⟨xb, 0, none⟩), .string s] w (XPost w xb lv av ov l auto op deep strV (textF (refF l auto k op) refs s.data.toList))

set_option maxRecDepth 100000 in
set_option maxHeartbeats 4000000 in
theorem value_any (l auto : List (Bs × Bs)) (k : Nat) (HT : TextOK l auto k) (hsm : Small l) (w : World) (xb : Nat) (lv av ov : Value) (op : List Bs) (deep refs : Nat) (name : ByteArray) (h : XAt w xb lv av ov l auto op deep refs) (hk : deep + k = 40) (hop : op.length < deep) :
    Calls Try.prog 47 #[.pointer (some ⟨xb, 0, none⟩), .string name] w (XPost w xb lv av ov l auto op deep strV (valueF l auto op (fun o => textF (refF l auto k o)) refs name.data.toList)) := by
  obtain ⟨i0, hi0, hz0, hz1, hz2⟩ := info_parts info_string
  obtain ⟨N, hN⟩ : ∃ N, N = name.data.toList := ⟨_, rfl⟩
  rw [← hN]
  have HX := Lib.hid h
  have HN := Lib.hid hN
  have HTT := Lib.hid HT
  have HSM := Lib.hid hsm
  obtain ⟨⟨c0, c1, c2, c3, c4⟩, f2, f3, f4⟩ := h.rc.five
  obtain ⟨oa, oc, rfl, hole⟩ : ∃ oa oc, ov = .slice oa op.length oc ∧ op.length ≤ 40 := by
    have h1 := h.ops; have h2 := h.deep40
    rcases row_forms h.ho with ⟨e1, e2⟩ | ⟨g, cap, e1⟩
    · exact ⟨none, 0, by rw [e1, e2], by omega⟩
    · exact ⟨_, _, e1, by omega⟩
  clear h hN HT hsm
  cases hva : lastF auto N with
  | some v =>
    have HA := Lib.hid hva
    rw [show valueF l auto op (fun o => textF (refF l auto k o)) refs N = .ok (v, refs) by unfold valueF; rw [hva]]
    clear hva
    go_enter Try.func47, Try.ntmps47
    go_wp2_with fail
    refine (last_any auto av _ name _ HX.out.ha).mono ?_
    rintro e w1 ⟨rfl, hw1⟩
    rw [hw1, ← HN.out, HA.out, show lastV (some v) = .tuple #[.string ⟨v.toArray⟩, .bool true] from rfl]
    clear hw1
    go_wp2_with fail
    go_ret
    exact ⟨_, rfl, HX.out, Newer.refl _ _, Keeps.refl _ _⟩
  | none =>
    have HA := Lib.hid hva
    cases hvl : lastF l N with
    | none =>
      have HL := Lib.hid hvl
      rw [show valueF l auto op (fun o => textF (refF l auto k o)) refs N = .ok ([], refs) by unfold valueF; rw [hva, hvl]]
      clear hva hvl
      go_enter Try.func47, Try.ntmps47
      go_wp2_with fail
      refine (last_any auto av _ name _ HX.out.ha).mono ?_
      rintro e w1 ⟨rfl, hw1⟩
      rw [hw1, ← HN.out, HA.out, show lastV none = .tuple #[.string ⟨#[]⟩, .bool false] from rfl]
      clear hw1
      go_wp2_with fail
      refine (last_any l lv _ name _ HX.out.hl).mono ?_
      rintro e w1 ⟨rfl, hw1⟩
      rw [hw1, ← HN.out, HL.out, show lastV none = .tuple #[.string ⟨#[]⟩, .bool false] from rfl]
      clear hw1
      go_wp2_with fail
      go_ret
      exact ⟨_, rfl, HX.out, Newer.refl _ _, Keeps.refl _ _⟩
    | some v =>
      have HL := Lib.hid hvl
      have HV := Lib.hid (HSM.out.last hvl)
      cases hct : op.contains N with
      | true =>
        have HC := Lib.hid hct
        rw [show valueF l auto op (fun o => textF (refF l auto k o)) refs N = .error 18 by unfold valueF; rw [hva, hvl]; dsimp only; rw [hct, if_pos rfl]]
        clear hva hvl hct
        go_enter Try.func47, Try.ntmps47
        go_wp2_with fail
        refine (last_any auto av _ name _ HX.out.ha).mono ?_
        rintro e w1 ⟨rfl, hw1⟩
        rw [hw1, ← HN.out, HA.out, show lastV none = .tuple #[.string ⟨#[]⟩, .bool false] from rfl]
        clear hw1
        go_wp2_with fail
        refine (last_any l lv _ name _ HX.out.hl).mono ?_
        rintro e w1 ⟨rfl, hw1⟩
        rw [hw1, ← HN.out, HL.out, show lastV (some v) = .tuple #[.string ⟨v.toArray⟩, .bool true] from rfl]
        clear hw1
        go_wp2_with fail
        refine (contains_any _ op name _ HX.out.ho (by omega)).mono ?_
        rintro e w1 ⟨rfl, hw1⟩
        rw [hw1, ← HN.out, HC.out]
        clear hw1
        go_wp2_with fail
        refine (fail_any 18 _).mono ?_
        rintro e w1 ⟨rfl, hw1⟩
        rw [hw1]
        go_wp2_with fail
        exact ⟨rfl, _, refs, rfl, HX.out.rc, Keeps.refl _ _⟩
      | false =>
        have HC := Lib.hid hct
        rw [show valueF l auto op (fun o => textF (refF l auto k o)) refs N = textF (refF l auto k (op ++ [N])) refs v by unfold valueF; rw [hva, hvl]; dsimp only; rw [hct, if_neg (by simp)]]
        obtain ⟨res, hres⟩ : ∃ res, res = textF (refF l auto k (op ++ [N])) refs v := ⟨_, rfl⟩
        rw [← hres]
        have HRES := Lib.hid hres
        have HNA := Lib.hid (show strV N = .string name by rw [HN.out]; exact strV_of rfl)
        clear hva hvl hct hres
        go_enter Try.func47, Try.ntmps47
        go_wp2_with fail
        refine (last_any auto av _ name _ HX.out.ha).mono ?_
        rintro e w1 ⟨rfl, hw1⟩
        rw [hw1, ← HN.out, HA.out, show lastV none = .tuple #[.string ⟨#[]⟩, .bool false] from rfl]
        clear hw1
        go_wp2_with fail
        refine (last_any l lv _ name _ HX.out.hl).mono ?_
        rintro e w1 ⟨rfl, hw1⟩
        rw [hw1, ← HN.out, HL.out, show lastV (some v) = .tuple #[.string ⟨v.toArray⟩, .bool true] from rfl]
        clear hw1
        go_wp2_with fail
        refine (contains_any _ op name _ HX.out.ho (by omega)).mono ?_
        rintro e w1 ⟨rfl, hw1⟩
        rw [hw1, ← HN.out, HC.out]
        clear hw1
        go_wp2_with (at_builtin; refine wpList_append_lies _ rfl (.tmp 43) (.tmp 45) _ rfl 0 9 i0 _ 1 16 Try.underlying37 hi0 hz0 hz1 hz2 rfl (by omega) (.slice oa op.length oc) op.length (op.map strV) rfl (HX.out.ho.alloc _) ⟨w.heap.size, 0, none⟩ 1 1 [.string name] rfl rfl (World.news_of_block (cs := #[.string name]) (t := 9) (fr := (0, 0)) (heap_alloc_new w _)) (by simp [Value.oneCell']) (by omega) (by unfold maxLen; omega) (by omega) (by simp) (w.heap.size + 1) (by simp) ?_; intro g cap w2 hown hgrow hat hlt; obtain ⟨hr2, hx2, hn2, hk2⟩ := HX.out.push (o := .cells #[.string name] 9 (0, 0)) hop (HNA.out.symm ▸ hown) hgrow hat; obtain ⟨⟨e0, e1, e2, e3, e4⟩, g2, g3, g4⟩ := hr2.five; have HX2 := Lib.hid hx2; have HN2 := Lib.hid hn2; have HK2 := Lib.hid hk2; clear hr2 hx2 hn2 hk2 hown hgrow hat)
        have hcall := HTT.out _ xb lv av _ (op ++ [N]) deep refs ⟨v.toArray⟩ HX2.out hk (by
          have := HV.out
          show v.toArray.size ≤ _
          rw [List.size_toArray]; omega)
        rw [show (⟨v.toArray⟩ : ByteArray).data.toList = v from rfl, ← HRES.out] at hcall
        refine hcall.mono ?_
        intro e w4 hp
        cases res with
        | error x =>
          obtain ⟨ov4, r4, rfl, hr4, hk4⟩ := hp
          have HP := Lib.hid (show XPost w xb lv av (.slice oa op.length oc) l auto op deep strV (.error x) (failed x) w4 from ⟨ov4, r4, rfl, hr4, Foot.trans HK2.out HN2.out hk4⟩)
          clear hr4 hk4
          go_wp2_with fail
          exact ⟨rfl, HP.out⟩
        | ok z =>
          obtain ⟨y, r⟩ := z
          obtain ⟨ov4, rfl, hx4, hn4, hk4⟩ := hp
          have HX4 := Lib.hid hx4
          have HN4 := Lib.hid (HN2.out.trans hn4 HK2.out.size)
          have HK4 := Lib.hid (Foot.trans HK2.out HN2.out hk4)
          have hfo := row_forms hx4.ho
          rw [List.length_append] at hfo
          obtain ⟨g5, cap5, rfl⟩ : ∃ g cap, ov4 = .slice (some ⟨g, 0, none⟩) (op.length + 1) cap := by
            rcases hfo with ⟨_, h0⟩ | h0
            · exact absurd h0 (by simp)
            · exact h0
          obtain ⟨⟨k0, k1, k2, k3, k4⟩, m2, m3, m4⟩ := hx4.rc.five
          have hcp : op.length + 1 ≤ cap5 := by
            rcases hx4.ho.2 with ⟨h0, _⟩ | ⟨_, _, _, h0, _, _, h1, _⟩
            · cases h0
            · injection h0 with _ _ h0
              rw [List.length_append] at h1
              rw [h0]; exact h1
          have HX5 := Lib.hid (fun n => (hx4.drewN n).pop)
          clear hx4 hn4 hk4 hfo
          have ew : IntKind.i64.wrap (((op.length + 1 : Nat) : Int) - 1) = (op.length : Int) := by rw [IntWalk.i64_in _ (by omega)]; omega
          have q1 : (0 : Int) ≤ (op.length : Int) := by omega
          have q2 : (op.length : Int) ≤ (cap5 : Int) := by omega
          clear e0 e1 e2 e3 e4 g2 g3 g4 c0 c1 c2 c3 c4 f2 f3 f4
          go_wp2_with fail
          go_region
          go_wp2_with fail
          go_ret
          exact ⟨_, rfl, (HX5.out _).1, fun b hb => HN4.out b hb, Foot.trans HK4.out HN4.out (((Keeps.refl _ _).drewN _).trans (HX5.out _).2 fun _ _ e => e)⟩
end Go.Proofs.Ytglppnpllpfaeaa
