/-
  What stands behind a $.
-/
import Derived.Test.YtglppnpllpfaeaaMacF
namespace Go.Proofs.Ytglppnpllpfaeaa
open Go.RowKit
set_option linter.unusedVariables false

/-- What reference does, so deep. -/
def RefOK (l auto : List (Bs × Bs)) (k : Nat) : Prop := ∀ (w : World) (xb : Nat) (lv av ov : Value) (op : List Bs) (deep refs : Nat) (s : ByteArray), XAt w xb lv av ov l auto op deep refs → deep + k = 40 → s.size ≤ 16384 →
  Calls Try.prog 38 #[.pointer (some ⟨xb, 0, none⟩), .string s] w (XPost w xb lv av ov l auto op deep strV (refF l auto k op refs s.data.toList))
def mk2 (z : Bs × Nat) : Value := .tuple #[strV z.1, .int .i64 z.2]
theorem closedF_lt {o c : UInt8} : ∀ {t : Bs} {n k : Nat}, closedF o c n t = some k → k < t.length
  | [], _, _, h => by cases h
  | x :: t, n, k, h => by
    rw [closedF_cons] at h
    have key : ∀ m, (closedF o c m t).map (· + 1) = some k → k < (x :: t).length := fun m h => by
      cases h2 : closedF o c m t with
      | none => rw [h2] at h; cases h
      | some j =>
        rw [h2] at h
        have hj := closedF_lt h2
        obtain rfl := Option.some.inj h
        exact Nat.succ_lt_succ hj
    split at h
    · exact key _ h
    · split at h
      · split at h
        · obtain rfl := Option.some.inj h; exact Nat.succ_pos _
        · exact key _ h
      · exact key _ h
theorem ba_empty {s : ByteArray} (h : s.data.toList = []) : s.toList.isEmpty = true ∧ (s.toList == []) = true := by
  rw [Lib.toList_data, h]; exact ⟨rfl, rfl⟩
theorem ba_full {s : ByteArray} (h : s.data.toList ≠ []) : s.toList.isEmpty = false ∧ (s.toList == []) = false := by
  rw [Lib.toList_data]
  cases hs : s.data.toList with
  | nil => exact absurd hs h
  | cons x y => exact ⟨rfl, rfl⟩
theorem ex_from (s : ByteArray) (k : Nat) : (s.extract k s.size).data.toList = s.data.toList.drop k := exEnd s k
theorem ex_mid (s : ByteArray) (a b : Nat) : (s.extract a b).data.toList = (s.data.toList.drop a).take (b - a) := Lib.extract_data ..
theorem xpost_map {α β : Type} {w : World} {xb : Nat} {lv av ov : Value} {l auto : List (Bs × Bs)} {op : List Bs} {deep : Nat} {mk : β → Value} {w0 : World} {r : Nat} {y : β} {ov' : Value} {e : Ending} {w' : World}
    (h : e = .returned (mk y)) (hx : XAt w' xb lv av ov' l auto op deep r) (hn : Newer w ov ov') (hk : Keeps (Foot xb ov) w w') : XPost w xb lv av ov l auto op deep mk (.ok (y, r)) e w' := ⟨ov', h, hx, hn, hk⟩

set_option maxRecDepth 100000 in
set_option maxHeartbeats 4000000 in
theorem one_any (l auto : List (Bs × Bs)) (k : Nat) (HR : RefOK l auto k) (w : World) (xb : Nat) (lv av ov : Value) (op : List Bs) (deep refs : Nat) (s : ByteArray) (h : XAt w xb lv av ov l auto op deep refs) (hk : deep + k = 40) (hs : s.size ≤ 16384) :
    Calls Try.prog 30 #[.pointer (some ⟨xb, 0, none⟩), .string s] w (XPost w xb lv av ov l auto op deep mk2 (oneF (refF l auto k op) refs s.data.toList)) := by
  obtain ⟨⟨c0, c1, c2, c3, c4⟩, f2, f3, f4⟩ := h.rc.five
  have HX := Lib.hid h
  have HRR := Lib.hid HR
  have hrl := h.refs_le
  have ewr : IntKind.i64.wrap ((refs : Int) + 1) = (refs : Int) + 1 := IntWalk.i64_in _ (by omega)
  clear h HR
  obtain ⟨S, hS⟩ : ∃ S, S = s.data.toList := ⟨_, rfl⟩
  rw [← hS]
  have HS := Lib.hid hS
  have hsz : s.size = S.length := by rw [Lib.size_eq, hS]
  cases S with
  | nil =>
    obtain ⟨u1, u2⟩ := ba_empty (s := s) hS.symm
    clear hS
    rw [show oneF (refF l auto k op) refs [] = .ok (([36], 0), refs) from rfl]
    go_enter Try.func30, Try.ntmps30
    go_wp2_with fail
    go_ret2
    exact ⟨_, rfl, HX.out, Newer.refl _ _, Keeps.refl _ _⟩
  | cons c t =>
    obtain ⟨u1, u2⟩ := ba_full (s := s) (by rw [← hS]; simp)
    have hlt : 0 < s.size := by rw [hsz]; simp
    have hb := byteAt_in hlt
    rw [show byteAt s 0 = c by unfold byteAt; rw [← hS]; rfl] at hb
    have hlt' : (0 : Int) < (s.size : Int) := by omega
    rw [List.length_cons] at hsz
    obtain ⟨T, hT⟩ : ∃ T, T = t.length := ⟨_, rfl⟩
    have HTL := Lib.hid hT
    rw [← hT] at hsz
    have hsz1 : T + 1 ≤ s.size := by omega
    have hsz2 : s.size ≤ T + 1 := by omega
    clear hS hT hsz
    by_cases t36 : c = 36
    · have f36 : ((c.toNat : Int) == 36) = true := test_yes (c := c) (k := 36) t36
      rw [show oneF (refF l auto k op) refs (c :: t) = .ok (([36], 1), refs) by unfold oneF; dsimp only; rw [if_pos (by rw [t36]; rfl)]]
      clear t36
      go_enter Try.func30, Try.ntmps30
      go_wp2_with fail
      go_ret2
      exact ⟨_, rfl, HX.out, Newer.refl _ _, Keeps.refl _ _⟩
    have f36 : ((c.toNat : Int) == 36) = false := test_no (c := c) (k := 36) t36
    have HO := Lib.hid (show oneF (refF l auto k op) refs (c :: t) = if 10000 < refs + 1 then .error 3
      else if c == 40 then (match closedF 40 41 0 t with
        | none => .error 2
        | some n => match refF l auto k op (refs + 1) (t.take n) with | .error e => .error e | .ok (y, r) => .ok ((y, n + 2), r))
      else if c == 123 then (match closedF 123 125 0 t with
        | none => .error 2
        | some n => match refF l auto k op (refs + 1) (t.take n) with | .error e => .error e | .ok (y, r) => .ok ((y, n + 2), r))
      else match refF l auto k op (refs + 1) [c] with | .error e => .error e | .ok (y, r) => .ok ((y, 1), r) by
        unfold oneF; dsimp only; rw [if_neg (by rw [beq_iff_eq]; exact t36)]; rfl)
    rw [HO.out]
    clear t36
    by_cases hr : 10000 < refs + 1
    · rw [if_pos hr]
      have p1 : (10000 : Int) < (refs : Int) + 1 := by omega
      have HRC := Lib.hid (HX.out.rc.set 4 (.int .i64 ((refs : Int) + 1)))
      go_enter Try.func30, Try.ntmps30
      go_wp2_with fail
      refine (fail_any 3 _).mono ?_
      rintro e w1 ⟨rfl, hw1⟩
      rw [hw1]
      go_wp2_with fail
      exact ⟨rfl, _, refs + 1, rfl, HRC.out, (Keeps.refl _ _).setCell _ _ fun _ => .inl rfl⟩
    rw [if_neg hr]
    have p1 : ¬ (10000 : Int) < (refs : Int) + 1 := by omega
    obtain ⟨W, hW⟩ : ∃ W, W = w.setCell ⟨xb, 4, none⟩ (.int .i64 ((refs : Int) + 1)) := ⟨_, rfl⟩
    have HXW := Lib.hid (show XAt W xb lv av ov l auto op deep (refs + 1) by rw [hW]; exact HX.out.setRefs (refs + 1) (by omega))
    have HKW := Lib.hid (show Keeps (Foot xb ov) w W by rw [hW]; exact (Keeps.refl _ _).setCell _ _ fun _ => .inl rfl)
    have HNW := Lib.hid (show ∀ ov', Newer W ov ov' → Newer w ov ov' from fun ov' h => by
      intro g hg
      rcases h g hg with h1 | h1
      · exact .inl h1
      · exact .inr (Nat.le_trans HKW.out.size h1))
    have HWW := Lib.hid hW
    clear hW hr
    by_cases t40 : c = 40
    · have f40 : ((c.toNat : Int) == 40) = true := test_yes (c := c) (k := 40) t40
      have f123 : ((c.toNat : Int) == 123) = false := test_no (c := c) (k := 123) (by rw [t40]; decide)
      rw [if_pos (by rw [t40]; rfl)]
      clear t40
      cases hcl : closedF 40 41 0 t with
      | none =>
        have HCL := Lib.hid hcl
        dsimp only
        clear hcl
        go_enter Try.func30, Try.ntmps30
        go_wp2_with fail
        rw [← HWW.out]
        refine (closed_any _ 40 41 _ (by rw [ByteArray.size_extract]; omega) (by decide)).mono ?_
        rintro e w1 ⟨hw1, he⟩
        rw [ex_from, ← HS.out, List.drop_one, List.tail_cons, HCL.out] at he
        dsimp only at he
        rw [he, hw1]
        clear he hw1
        go_wp2_with fail
        exact ⟨rfl, _, refs + 1, rfl, HXW.out.rc, HKW.out⟩
      | some n =>
        have HCL := Lib.hid hcl
        have hn : n < T := by rw [HTL.out]; exact closedF_lt hcl
        dsimp only
        obtain ⟨res, hres⟩ : ∃ res, res = refF l auto k op (refs + 1) (t.take n) := ⟨_, rfl⟩
        rw [← hres]
        have HRES := Lib.hid hres
        have ew1 : IntKind.i64.wrap (1 + (n : Int)) = 1 + (n : Int) := IntWalk.i64_in _ (by omega)
        have ew2 : IntKind.i64.wrap ((n : Int) + 2) = ((n + 2 : Nat) : Int) := by rw [IntWalk.i64_in _ (by omega)]; rfl
        have q1 : (1 : Int) ≤ 1 + (n : Int) := by omega
        have q2 : 1 + (n : Int) ≤ (s.size : Int) := by omega
        have q3 : (1 + (n : Int)).toNat = 1 + n := by omega
        clear hcl hres
        go_enter Try.func30, Try.ntmps30
        go_wp2_with fail
        rw [← HWW.out]
        refine (closed_any _ 40 41 _ (by rw [ByteArray.size_extract]; omega) (by decide)).mono ?_
        rintro e w1 ⟨hw1, he⟩
        rw [ex_from, ← HS.out, List.drop_one, List.tail_cons, HCL.out] at he
        dsimp only at he
        rw [he, hw1]
        clear he hw1
        go_wp2_with fail
        have hcall := HRR.out W xb lv av ov op deep (refs + 1) (s.extract 1 (1 + n)) HXW.out hk (by rw [ByteArray.size_extract]; omega)
        rw [show (s.extract 1 (1 + n)).data.toList = t.take n by rw [ex_mid, ← HS.out, List.drop_one, List.tail_cons, Nat.add_sub_cancel_left], ← HRES.out] at hcall
        refine hcall.mono ?_
        intro e w4 hp
        cases res with
        | error x =>
          obtain ⟨ov4, r4, rfl, hr4, hk4⟩ := hp
          have HP := Lib.hid (show XPost w xb lv av ov l auto op deep mk2 (.error x) (failed x) w4 from ⟨ov4, r4, rfl, hr4, Foot.trans HKW.out (Newer.refl _ _) hk4⟩)
          clear hr4 hk4
          go_wp2_with fail
          exact ⟨rfl, HP.out⟩
        | ok z =>
          obtain ⟨y, r⟩ := z
          obtain ⟨ov4, rfl, hx4, hn4, hk4⟩ := hp
          have HP := Lib.hid (show XPost w xb lv av ov l auto op deep mk2 (.ok ((y, n + 2), r)) (.returned (mk2 (y, n + 2))) w4 from ⟨ov4, rfl, hx4, HNW.out ov4 hn4, Foot.trans HKW.out (Newer.refl _ _) hk4⟩)
          clear hx4 hn4 hk4
          unfold mk2 at HP
          unfold strV
          go_wp2_with fail
          go_ret2
          exact HP.out
    have f40 : ((c.toNat : Int) == 40) = false := test_no (c := c) (k := 40) t40
    rw [if_neg (by rw [beq_iff_eq]; exact t40)]
    by_cases t123 : c = 123
    · have f123 : ((c.toNat : Int) == 123) = true := test_yes (c := c) (k := 123) t123
      rw [if_pos (by rw [t123]; rfl)]
      clear t40 t123
      cases hcl : closedF 123 125 0 t with
      | none =>
        have HCL := Lib.hid hcl
        dsimp only
        clear hcl
        go_enter Try.func30, Try.ntmps30
        go_wp2_with fail
        rw [← HWW.out]
        refine (closed_any _ 123 125 _ (by rw [ByteArray.size_extract]; omega) (by decide)).mono ?_
        rintro e w1 ⟨hw1, he⟩
        rw [ex_from, ← HS.out, List.drop_one, List.tail_cons, HCL.out] at he
        dsimp only at he
        rw [he, hw1]
        clear he hw1
        go_wp2_with fail
        exact ⟨rfl, _, refs + 1, rfl, HXW.out.rc, HKW.out⟩
      | some n =>
        have HCL := Lib.hid hcl
        have hn : n < T := by rw [HTL.out]; exact closedF_lt hcl
        dsimp only
        obtain ⟨res, hres⟩ : ∃ res, res = refF l auto k op (refs + 1) (t.take n) := ⟨_, rfl⟩
        rw [← hres]
        have HRES := Lib.hid hres
        have ew1 : IntKind.i64.wrap (1 + (n : Int)) = 1 + (n : Int) := IntWalk.i64_in _ (by omega)
        have ew2 : IntKind.i64.wrap ((n : Int) + 2) = ((n + 2 : Nat) : Int) := by rw [IntWalk.i64_in _ (by omega)]; rfl
        have q1 : (1 : Int) ≤ 1 + (n : Int) := by omega
        have q2 : 1 + (n : Int) ≤ (s.size : Int) := by omega
        have q3 : (1 + (n : Int)).toNat = 1 + n := by omega
        clear hcl hres
        go_enter Try.func30, Try.ntmps30
        go_wp2_with fail
        rw [← HWW.out]
        refine (closed_any _ 123 125 _ (by rw [ByteArray.size_extract]; omega) (by decide)).mono ?_
        rintro e w1 ⟨hw1, he⟩
        rw [ex_from, ← HS.out, List.drop_one, List.tail_cons, HCL.out] at he
        dsimp only at he
        rw [he, hw1]
        clear he hw1
        go_wp2_with fail
        have hcall := HRR.out W xb lv av ov op deep (refs + 1) (s.extract 1 (1 + n)) HXW.out hk (by rw [ByteArray.size_extract]; omega)
        rw [show (s.extract 1 (1 + n)).data.toList = t.take n by rw [ex_mid, ← HS.out, List.drop_one, List.tail_cons, Nat.add_sub_cancel_left], ← HRES.out] at hcall
        refine hcall.mono ?_
        intro e w4 hp
        cases res with
        | error x =>
          obtain ⟨ov4, r4, rfl, hr4, hk4⟩ := hp
          have HP := Lib.hid (show XPost w xb lv av ov l auto op deep mk2 (.error x) (failed x) w4 from ⟨ov4, r4, rfl, hr4, Foot.trans HKW.out (Newer.refl _ _) hk4⟩)
          clear hr4 hk4
          go_wp2_with fail
          exact ⟨rfl, HP.out⟩
        | ok z =>
          obtain ⟨y, r⟩ := z
          obtain ⟨ov4, rfl, hx4, hn4, hk4⟩ := hp
          have HP := Lib.hid (show XPost w xb lv av ov l auto op deep mk2 (.ok ((y, n + 2), r)) (.returned (mk2 (y, n + 2))) w4 from ⟨ov4, rfl, hx4, HNW.out ov4 hn4, Foot.trans HKW.out (Newer.refl _ _) hk4⟩)
          clear hx4 hn4 hk4
          unfold mk2 at HP
          unfold strV
          go_wp2_with fail
          go_ret2
          exact HP.out
    have f123 : ((c.toNat : Int) == 123) = false := test_no (c := c) (k := 123) t123
    rw [if_neg (by rw [beq_iff_eq]; exact t123)]
    obtain ⟨res, hres⟩ : ∃ res, res = refF l auto k op (refs + 1) [c] := ⟨_, rfl⟩
    rw [← hres]
    have HRES := Lib.hid hres
    have q1 : (1 : Int) ≤ (s.size : Int) := by omega
    clear t40 t123 hres
    go_enter Try.func30, Try.ntmps30
    go_wp2_with fail
    rw [← HWW.out]
    have hcall := HRR.out W xb lv av ov op deep (refs + 1) (s.extract 0 1) HXW.out hk (by rw [ByteArray.size_extract]; omega)
    rw [show (s.extract 0 1).data.toList = [c] by rw [ex_mid, ← HS.out]; rfl, ← HRES.out] at hcall
    refine hcall.mono ?_
    intro e w4 hp
    cases res with
    | error x =>
      obtain ⟨ov4, r4, rfl, hr4, hk4⟩ := hp
      have HP := Lib.hid (show XPost w xb lv av ov l auto op deep mk2 (.error x) (failed x) w4 from ⟨ov4, r4, rfl, hr4, Foot.trans HKW.out (Newer.refl _ _) hk4⟩)
      clear hr4 hk4
      go_wp2_with fail
      exact ⟨rfl, HP.out⟩
    | ok z =>
      obtain ⟨y, r⟩ := z
      obtain ⟨ov4, rfl, hx4, hn4, hk4⟩ := hp
      have HP := Lib.hid (show XPost w xb lv av ov l auto op deep mk2 (.ok ((y, 1), r)) (.returned (mk2 (y, 1))) w4 from ⟨ov4, rfl, hx4, HNW.out ov4 hn4, Foot.trans HKW.out (Newer.refl _ _) hk4⟩)
      clear hx4 hn4 hk4
      unfold mk2 at HP
      unfold strV
      go_wp2_with fail
      go_ret2
      exact HP.out
end Go.Proofs.Ytglppnpllpfaeaa
