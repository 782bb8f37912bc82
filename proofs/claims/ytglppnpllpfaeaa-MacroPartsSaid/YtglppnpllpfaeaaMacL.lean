/-
  A reference.
-/
import Derived.Test.YtglppnpllpfaeaaMacK
import Derived.Defers
import Derived.Recover
import Derived.Laws.Pointers
namespace Go.Proofs.Ytglppnpllpfaeaa
open Go.RowKit
set_option linter.unusedVariables false

theorem less_any (x b : Nat) (d : Int) (u : FrameMode) (w : World) (hx : w.cell? ⟨x, 0, none⟩ = some (.pointer (some ⟨b, 0, none⟩))) (hd : w.cell? ⟨b, 3, none⟩ = some (.int .i64 d)) (hf : w.frozen? ⟨b, 3, none⟩ = false) (hw : IntKind.i64.wrap (d - 1) = d - 1) :
    CallsD Try.prog 46 #[.pointer (some ⟨x, 0, none⟩)] u w fun e u' w' => u' = u ∧ (e = .returned (.tuple #[]) ∧ w' = w.setCell ⟨b, 3, none⟩ (.int .i64 (d - 1))) := by
  go_enter_d Try.func46, Try.ntmps46
  go_wp2
  go_end0
  exact ⟨rfl, rfl⟩
theorem ref_zero (l auto : List (Bs × Bs)) : RefOK l auto 0 := by
  intro w xb lv av ov op deep refs s h hk hs
  obtain rfl : deep = 40 := by omega
  obtain ⟨⟨c0, c1, c2, c3, c4⟩, f2, f3, f4⟩ := h.rc.five
  have hxl := h.rc.lt
  have HX := Lib.hid h
  have hmf : ∀ (fn : Fn) (first cap : Array Value) (w : World), (Instr.makeFunc fn first cap).run Try.prog w = .ok (.func fn first cap) w := fun _ _ _ _ => rfl
  clear h
  rw [show refF l auto 0 op refs s.data.toList = .error 3 from rfl]
  go_enter_defers Try.func38, Try.ntmps38
  go_wp2_with fail
  refine (fail_any 3 _).mono ?_
  rintro e w1 ⟨rfl, hw1⟩
  rw [hw1]
  go_wp2_with fail
  simp [bodyPostD, Leaves, go_sem]
  exact ⟨_, refs, rfl, (HX.out.alloc _).rc, (Keeps.refl _ _).alloc _⟩
/-- Where a reference stands behind its door. -/
structure RAt (w W : World) (xb : Nat) (lv av ov ov' : Value) (l auto : List (Bs × Bs)) (op : List Bs) (deep r : Nat) : Prop where
  x : XAt W xb lv av ov' l auto op (deep + 1) r
  n : Newer w ov ov'
  nx : ov'.ownBlock ≠ some w.heap.size
  k : Keeps (Foot xb ov) w W
  bx : ∃ T, W.heap[w.heap.size]? = some (.cells #[.pointer (some ⟨xb, 0, none⟩)] T (0, 0))
  lt : xb < w.heap.size
theorem box_cell {W : World} {X xb : Nat} (h : ∃ T, W.heap[X]? = some (.cells #[.pointer (some ⟨xb, 0, none⟩)] T (0, 0))) : W.cell? ⟨X, 0, none⟩ = some (.pointer (some ⟨xb, 0, none⟩)) := by
  obtain ⟨T, h⟩ := h
  simp [World.cell?, h]
section
variable {w W W2 : World} {xb : Nat} {lv av ov ov' ov2 : Value} {l auto : List (Bs × Bs)} {op : List Bs} {deep r r2 : Nat}
theorem RAt.box_keep {S : Nat → Prop} (h : RAt w W xb lv av ov ov' l auto op deep r) (hk : Keeps S W W2) (hS : ¬ S w.heap.size) : ∃ T, W2.heap[w.heap.size]? = some (.cells #[.pointer (some ⟨xb, 0, none⟩)] T (0, 0)) := by
  obtain ⟨T, hT⟩ := h.bx
  exact ⟨T, (hk.block _ (Array.getElem?_eq_some_iff.1 hT).1 hS).trans hT⟩
theorem RAt.notFoot (h : RAt w W xb lv av ov ov' l auto op deep r) : ¬ Foot xb ov' w.heap.size := by
  rintro (e | e)
  · have := h.lt; omega
  · exact h.nx e
theorem RAt.called (h : RAt w W xb lv av ov ov' l auto op deep r) (hx : XAt W2 xb lv av ov2 l auto op (deep + 1) r2) (hn : Newer W ov' ov2) (hk : Keeps (Foot xb ov') W W2) : RAt w W2 xb lv av ov ov2 l auto op deep r2 := by
  refine ⟨hx, h.n.trans hn h.k.size, fun e => ?_, Foot.trans h.k h.n hk, h.box_keep hk h.notFoot, h.lt⟩
  obtain ⟨T, hT⟩ := h.bx
  have := (Array.getElem?_eq_some_iff.1 hT).1
  rcases hn _ e with e | e
  · exact h.nx e
  · omega
theorem RAt.drewN (h : RAt w W xb lv av ov ov' l auto op deep r) (n : Nat) : RAt w (W.drewN n) xb lv av ov ov' l auto op deep r :=
  ⟨h.x.drewN n, h.n, h.nx, h.k.drewN n, h.bx, h.lt⟩
theorem RAt.below (h : RAt w W xb lv av ov ov' l auto op deep r) (hb : Below W.heap.size W W2) : RAt w W2 xb lv av ov ov' l auto op deep r := by
  have hk : Keeps (fun _ => False) W W2 := Keeps.of_below hb _
  exact ⟨h.x.keep hk (fun _ _ x => x) (fun _ _ x => x), h.n, h.nx, h.k.trans hk (fun _ _ x => x.elim), h.box_keep hk (fun x => x), h.lt⟩
theorem RAt.err {x0 x1 x2 x3 x4 : Value} (h : RAt w W xb lv av ov ov' l auto op deep r) (hr : RecAt W2 xb [x0, x1, x2, x3, x4]) (hk : Keeps (Foot xb ov') W W2) :
    (∃ T, W2.heap[w.heap.size]? = some (.cells #[.pointer (some ⟨xb, 0, none⟩)] T (0, 0))) ∧ RecAt W2 xb [x0, x1, x2, x3, x4] ∧ Keeps (Foot xb ov) w W2 :=
  ⟨h.box_keep hk h.notFoot, hr, Foot.trans h.k h.n hk⟩
theorem err_done {x : Nat} (hr : RecAt W xb [lv, av, ov2, .int .i64 ((deep + 1 : Nat) : Int), .int .i64 r]) (hk : Keeps (Foot xb ov) w W) : XPost w xb lv av ov l auto op deep strV (.error x) (failed x) (W.setCell ⟨xb, 3, none⟩ (.int .i64 deep)) := by
  refine ⟨ov2, r, rfl, ?_, hk.setCell _ _ fun _ => .inl rfl⟩
  exact hr.set 3 _
theorem ok_done {y : Bs} (h : RAt w W xb lv av ov ov' l auto op deep r) (hops : op.length ≤ deep ∧ deep ≤ 40) : XPost w xb lv av ov l auto op deep strV (.ok (y, r)) (.returned (strV y)) (W.setCell ⟨xb, 3, none⟩ (.int .i64 deep)) := by
  exact ⟨ov', rfl, h.x.setDeep deep hops.1 hops.2, h.n, h.k.setCell _ _ fun _ => .inl rfl⟩
end
def swapRest (f g : Bs) : MR → MR
  | .error e => .error e
  | .ok (v, r2) => .ok (swappedF v f g, r2)
def partRest (l auto : List (Bs × Bs)) (k : Nat) (op : List Bs) (r : Nat) (t : Bs) : Option (Bs × Bs × Bs) → MR
  | none => valueF l auto op (fun o => textF (refF l auto k o)) r t
  | some (name, f, g) => swapRest f g (valueF l auto op (fun o => textF (refF l auto k o)) r name)
def refRest (l auto : List (Bs × Bs)) (k : Nat) (op : List Bs) : MR → MR
  | .error e => .error e
  | .ok (t, r) => partRest l auto k op r t (partsF t)
theorem refF_succ (l auto : List (Bs × Bs)) (k : Nat) (op : List Bs) (refs : Nat) (s : Bs) : refF l auto (k + 1) op refs s = refRest l auto k op (textF (refF l auto k op) refs s) := by
  show (match textF (refF l auto k op) refs s with | .error e => _ | .ok (t, r) => _) = _
  cases textF (refF l auto k op) refs s with
  | error e => rfl
  | ok z =>
    obtain ⟨t, r⟩ := z
    show (match partsF t with | none => _ | some (name, f, g) => _) = partRest l auto k op r t (partsF t)
    cases partsF t with
    | none => rfl
    | some z =>
      obtain ⟨name, f, g⟩ := z
      show (match valueF l auto op (fun o => textF (refF l auto k o)) r name with | .error e => _ | .ok (v, r2) => _) = swapRest f g _
      cases valueF l auto op (fun o => textF (refF l auto k o)) r name <;> rfl
set_option maxRecDepth 100000 in
set_option maxHeartbeats 8000000 in
theorem ref_succ (l auto : List (Bs × Bs)) (k : Nat) (HT : TextOK l auto k) (hsm : Small l ∧ Small auto) : RefOK l auto (k + 1) := by
  intro w xb lv av ov op deep refs s h hk hs
  obtain ⟨⟨c0, c1, c2, c3, c4⟩, f2, f3, f4⟩ := h.rc.five
  have hxl := h.rc.lt
  have hops : op.length ≤ deep ∧ deep ≤ 40 := ⟨h.ops, h.deep40⟩
  have hmf : ∀ (fn : Fn) (first cap : Array Value) (w : World), (Instr.makeFunc fn first cap).run Try.prog w = .ok (.func fn first cap) w := fun _ _ _ _ => rfl
  have e40 : ((deep : Int) == 40) = false := beq_eq_false_iff_ne.2 (by omega)
  have ewd : IntKind.i64.wrap ((deep : Int) + 1) = (deep : Int) + 1 := IntWalk.i64_in _ (by omega)
  obtain ⟨W1, hW1⟩ : ∃ W1, W1 = (w.setCell ⟨xb, 3, none⟩ (.int .i64 ((deep : Int) + 1))).alloc (.cells #[.pointer (some ⟨xb, 0, none⟩)] 49) := ⟨_, rfl⟩
  have HR1 := Lib.hid (show RAt w W1 xb lv av ov ov l auto op deep refs from by
    rw [hW1]
    refine ⟨(h.setDeep (deep + 1) (by omega) (by omega)).alloc _, Newer.refl _ _, fun e => ?_, ((Keeps.refl _ _).setCell _ _ fun _ => .inl rfl).alloc _, ⟨49, ?_⟩, hxl⟩
    · have := ownsRow_lt h.ho e; omega
    · have hh := heap_alloc_new (w.setCell ⟨xb, 3, none⟩ (.int .i64 ((deep : Int) + 1))) (.cells #[.pointer (some ⟨xb, 0, none⟩)] 49)
      rw [show (w.setCell ⟨xb, 3, none⟩ (.int .i64 ((deep : Int) + 1))).heap.size = w.heap.size by simp [World.setCell]] at hh
      exact hh)
  obtain ⟨tr, htr⟩ : ∃ tr, tr = textF (refF l auto k op) refs s.data.toList := ⟨_, rfl⟩
  have HTR := Lib.hid htr
  obtain ⟨res, hres⟩ : ∃ res, res = refF l auto (k + 1) op refs s.data.toList := ⟨_, rfl⟩
  rw [← hres]
  have HRES0 := Lib.hid (show res = refRest l auto k op tr by rw [hres, htr, refF_succ])
  have HW1 := Lib.hid hW1
  have HTL := Lib.hid (show ∀ t r, tr = .ok (t, r) → t.length ≤ 16384 from fun t r h => textF_len (htr.symm.trans h))
  clear h htr hres hW1
  go_enter_defers Try.func38, Try.ntmps38
  go_wp2_with fail
  rw [← HW1.out]
  have hcall := HT W1 xb lv av ov op (deep + 1) refs s HR1.out.x (by omega) (by omega)
  rw [← HTR.out] at hcall
  refine hcall.mono ?_
  intro e w4 hp
  cases tr with
  | error x =>
    obtain ⟨ov4, r4, rfl, hr4, hk4⟩ := hp
    have HP := Lib.hid (HR1.out.err hr4 hk4)
    clear hr4 hk4
    rw [show res = .error x from HRES0.out]
    go_wp2_with fail
    refine leaves_cons (f := 46) (args := #[.pointer (some ⟨w.heap.size, 0, none⟩)]) (by simp) (by simp [go_sem]) ?_
    refine (less_any w.heap.size xb ((deep + 1 : Nat) : Int) _ _ (box_cell HP.out.1) (HP.out.2.1.five.1.2.2.2.1) (HP.out.2.1.five.2.2.1) (by rw [IntWalk.i64_in _ (by omega)])).mono ?_
    rintro e u' w'' ⟨rfl, rfl, rfl⟩
    rw [show ((deep + 1 : Nat) : Int) - 1 = (deep : Int) by omega]
    simp [Leaves, settle, go_sem]
    exact err_done HP.out.2.1 HP.out.2.2
  | ok z =>
    obtain ⟨t, r⟩ := z
    obtain ⟨ov4, rfl, hx4, hn4, hk4⟩ := hp
    have HR4 := Lib.hid (HR1.out.called hx4 hn4 hk4)
    have HRES := Lib.hid (show res = partRest l auto k op r t (partsF t) from HRES0.out)
    have htl := HTL.out t r (by first | rfl | trivial)
    clear hx4 hn4 hk4
    obtain ⟨N, R, b1, hz1⟩ : ∃ N R b1, cutF 58 t = (N, R, b1) := ⟨_, _, _, rfl⟩
    obtain ⟨F, G, b2, hz2⟩ : ∃ F G b2, cutF 61 R = (F, G, b2) := ⟨_, _, _, rfl⟩
    have hl1 := cutF_le 58 t
    have hl2 := cutF_le 61 R
    rw [hz1] at hl1
    rw [hz2] at hl2
    dsimp only at hl1 hl2
    have HPF := Lib.hid (show partsF t = if b1 && b2 then some (N, F, G) else none by unfold partsF; rw [hz1]; dsimp only; rw [hz2])
    obtain ⟨TB, hTB⟩ : ∃ TB : ByteArray, TB = ⟨t.toArray⟩ := ⟨_, rfl⟩
    obtain ⟨NB, hNB⟩ : ∃ NB : ByteArray, NB = ⟨N.toArray⟩ := ⟨_, rfl⟩
    obtain ⟨RB, hRB⟩ : ∃ RB : ByteArray, RB = ⟨R.toArray⟩ := ⟨_, rfl⟩
    obtain ⟨FB, hFB⟩ : ∃ FB : ByteArray, FB = ⟨F.toArray⟩ := ⟨_, rfl⟩
    obtain ⟨GB, hGB⟩ : ∃ GB : ByteArray, GB = ⟨G.toArray⟩ := ⟨_, rfl⟩
    have HTD := Lib.hid (show TB.data.toList = t by rw [hTB])
    have HND := Lib.hid (show NB.data.toList = N by rw [hNB])
    have HRD := Lib.hid (show RB.data.toList = R by rw [hRB])
    have HFD := Lib.hid (show FB.data.toList = F by rw [hFB])
    have HGD := Lib.hid (show GB.data.toList = G by rw [hGB])
    have hTs : TB.size ≤ 16384 := by rw [Lib.size_eq, HTD.out]; omega
    have hRs : RB.size ≤ 16384 := by rw [Lib.size_eq, HRD.out]; omega
    have hFs : FB.size ≤ 16384 := by rw [Lib.size_eq, HFD.out]; omega
    have hGs : GB.size ≤ 16384 := by rw [Lib.size_eq, HGD.out]; omega
    have HC1 := Lib.hid (show ∀ (w : World), (∃ m : Int, w.cell? ⟨0, 0, none⟩ = some (.int .i64 m)) → Calls Try.prog 27 #[.string TB, .string ⟨#[58]⟩] w fun e w' => e = .returned (.tuple #[.string NB, .string RB, .bool b1]) ∧ Drawn w w' from fun w hm => by
      refine (cut_any TB 58 w (by omega) hm).mono ?_
      rintro e w' ⟨rfl, h⟩
      refine ⟨?_, h⟩
      rw [HTD.out, hz1, hNB, hRB]; rfl)
    have HC2 := Lib.hid (show ∀ (w : World), (∃ m : Int, w.cell? ⟨0, 0, none⟩ = some (.int .i64 m)) → Calls Try.prog 27 #[.string RB, .string ⟨#[61]⟩] w fun e w' => e = .returned (.tuple #[.string FB, .string GB, .bool b2]) ∧ Drawn w w' from fun w hm => by
      refine (cut_any RB 61 w (by omega) hm).mono ?_
      rintro e w' ⟨rfl, h⟩
      refine ⟨?_, h⟩
      rw [HRD.out, hz2, hFB, hGB]; rfl)
    rw [show strV t = .string TB by rw [hTB]; rfl]
    clear hl1 hl2 hz1 hz2 hTB hNB hRB hFB hGB htl
    cases b1 with
    | false =>
      have HPN := Lib.hid (show partsF t = none by rw [HPF.out]; rfl)
      cases b2 with
      | false =>
        obtain ⟨vr, hvr⟩ : ∃ vr, vr = valueF l auto op (fun o => textF (refF l auto k o)) r t := ⟨_, rfl⟩
        have HVR := Lib.hid hvr
        have HRV := Lib.hid (show res = vr by rw [HRES.out, HPN.out, hvr]; rfl)
        clear hvr
        go_wp2_with fail
        refine (HC1.out _ HR4.out.x.gl).mono ?_
        rintro e w5 ⟨rfl, q5, hw5⟩
        have HR5 := Lib.hid (show RAt w w5 xb lv av ov ov4 l auto op deep r from by rw [hw5]; exact HR4.out.drewN q5)
        clear hw5
        go_wp2_with fail
        refine (HC2.out _ HR5.out.x.gl).mono ?_
        rintro e w6 ⟨rfl, q6, hw6⟩
        have HR6 := Lib.hid (show RAt w w6 xb lv av ov ov4 l auto op deep r from by rw [hw6]; exact HR5.out.drewN q6)
        clear hw6
        have bx6 := box_cell HR6.out.bx
        go_wp2_with fail
        have hcall := value_any l auto k HT hsm.1 w6 xb lv av ov4 op (deep + 1) r TB HR6.out.x (by omega) (by omega)
        rw [HTD.out, ← HVR.out] at hcall
        refine hcall.mono ?_
        intro e w7 hp
        cases vr with
        | error x =>
          obtain ⟨ov8, r8, rfl, hr8, hk8⟩ := hp
          have HP := Lib.hid (HR6.out.err hr8 hk8)
          clear hr8 hk8
          rw [show res = .error x from HRV.out]
          go_wp2_with fail
          refine leaves_cons (f := 46) (args := #[.pointer (some ⟨w.heap.size, 0, none⟩)]) (by simp) (by simp [go_sem]) ?_
          refine (less_any w.heap.size xb ((deep + 1 : Nat) : Int) _ _ (box_cell HP.out.1) (HP.out.2.1.five.1.2.2.2.1) (HP.out.2.1.five.2.2.1) (by rw [IntWalk.i64_in _ (by omega)])).mono ?_
          rintro e u' w'' ⟨rfl, rfl, rfl⟩
          rw [show ((deep + 1 : Nat) : Int) - 1 = (deep : Int) by omega]
          simp [Leaves, settle, go_sem]
          exact err_done HP.out.2.1 HP.out.2.2
        | ok z =>
          obtain ⟨v, r2⟩ := z
          obtain ⟨ov8, rfl, hx8, hn8, hk8⟩ := hp
          have HR7 := Lib.hid (HR6.out.called hx8 hn8 hk8)
          clear hx8 hn8 hk8
          go_wp2_with fail
          refine leaves_cons (f := 46) (args := #[.pointer (some ⟨w.heap.size, 0, none⟩)]) (by simp) (by simp [go_sem]) ?_
          refine (less_any w.heap.size xb ((deep + 1 : Nat) : Int) _ _ (box_cell HR7.out.bx) (HR7.out.x.rc.five.1.2.2.2.1) (HR7.out.x.rc.five.2.2.1) (by rw [IntWalk.i64_in _ (by omega)])).mono ?_
          rintro e u' w'' ⟨rfl, rfl, rfl⟩
          rw [show ((deep + 1 : Nat) : Int) - 1 = (deep : Int) by omega]
          simp [Leaves, settle, results, Try.results38, go_sem]
          rw [show res = .ok (v, r2) from HRV.out]
          exact ok_done HR7.out hops
      | true =>
        obtain ⟨vr, hvr⟩ : ∃ vr, vr = valueF l auto op (fun o => textF (refF l auto k o)) r t := ⟨_, rfl⟩
        have HVR := Lib.hid hvr
        have HRV := Lib.hid (show res = vr by rw [HRES.out, HPN.out, hvr]; rfl)
        clear hvr
        go_wp2_with fail
        refine (HC1.out _ HR4.out.x.gl).mono ?_
        rintro e w5 ⟨rfl, q5, hw5⟩
        have HR5 := Lib.hid (show RAt w w5 xb lv av ov ov4 l auto op deep r from by rw [hw5]; exact HR4.out.drewN q5)
        clear hw5
        go_wp2_with fail
        refine (HC2.out _ HR5.out.x.gl).mono ?_
        rintro e w6 ⟨rfl, q6, hw6⟩
        have HR6 := Lib.hid (show RAt w w6 xb lv av ov ov4 l auto op deep r from by rw [hw6]; exact HR5.out.drewN q6)
        clear hw6
        have bx6 := box_cell HR6.out.bx
        go_wp2_with fail
        have hcall := value_any l auto k HT hsm.1 w6 xb lv av ov4 op (deep + 1) r TB HR6.out.x (by omega) (by omega)
        rw [HTD.out, ← HVR.out] at hcall
        refine hcall.mono ?_
        intro e w7 hp
        cases vr with
        | error x =>
          obtain ⟨ov8, r8, rfl, hr8, hk8⟩ := hp
          have HP := Lib.hid (HR6.out.err hr8 hk8)
          clear hr8 hk8
          rw [show res = .error x from HRV.out]
          go_wp2_with fail
          refine leaves_cons (f := 46) (args := #[.pointer (some ⟨w.heap.size, 0, none⟩)]) (by simp) (by simp [go_sem]) ?_
          refine (less_any w.heap.size xb ((deep + 1 : Nat) : Int) _ _ (box_cell HP.out.1) (HP.out.2.1.five.1.2.2.2.1) (HP.out.2.1.five.2.2.1) (by rw [IntWalk.i64_in _ (by omega)])).mono ?_
          rintro e u' w'' ⟨rfl, rfl, rfl⟩
          rw [show ((deep + 1 : Nat) : Int) - 1 = (deep : Int) by omega]
          simp [Leaves, settle, go_sem]
          exact err_done HP.out.2.1 HP.out.2.2
        | ok z =>
          obtain ⟨v, r2⟩ := z
          obtain ⟨ov8, rfl, hx8, hn8, hk8⟩ := hp
          have HR7 := Lib.hid (HR6.out.called hx8 hn8 hk8)
          clear hx8 hn8 hk8
          go_wp2_with fail
          refine leaves_cons (f := 46) (args := #[.pointer (some ⟨w.heap.size, 0, none⟩)]) (by simp) (by simp [go_sem]) ?_
          refine (less_any w.heap.size xb ((deep + 1 : Nat) : Int) _ _ (box_cell HR7.out.bx) (HR7.out.x.rc.five.1.2.2.2.1) (HR7.out.x.rc.five.2.2.1) (by rw [IntWalk.i64_in _ (by omega)])).mono ?_
          rintro e u' w'' ⟨rfl, rfl, rfl⟩
          rw [show ((deep + 1 : Nat) : Int) - 1 = (deep : Int) by omega]
          simp [Leaves, settle, results, Try.results38, go_sem]
          rw [show res = .ok (v, r2) from HRV.out]
          exact ok_done HR7.out hops
    | true =>
      cases b2 with
      | false =>
        have HPN := Lib.hid (show partsF t = none by rw [HPF.out]; rfl)
        obtain ⟨vr, hvr⟩ : ∃ vr, vr = valueF l auto op (fun o => textF (refF l auto k o)) r t := ⟨_, rfl⟩
        have HVR := Lib.hid hvr
        have HRV := Lib.hid (show res = vr by rw [HRES.out, HPN.out, hvr]; rfl)
        clear hvr
        go_wp2_with fail
        refine (HC1.out _ HR4.out.x.gl).mono ?_
        rintro e w5 ⟨rfl, q5, hw5⟩
        have HR5 := Lib.hid (show RAt w w5 xb lv av ov ov4 l auto op deep r from by rw [hw5]; exact HR4.out.drewN q5)
        clear hw5
        go_wp2_with fail
        refine (HC2.out _ HR5.out.x.gl).mono ?_
        rintro e w6 ⟨rfl, q6, hw6⟩
        have HR6 := Lib.hid (show RAt w w6 xb lv av ov ov4 l auto op deep r from by rw [hw6]; exact HR5.out.drewN q6)
        clear hw6
        have bx6 := box_cell HR6.out.bx
        go_wp2_with fail
        have hcall := value_any l auto k HT hsm.1 w6 xb lv av ov4 op (deep + 1) r TB HR6.out.x (by omega) (by omega)
        rw [HTD.out, ← HVR.out] at hcall
        refine hcall.mono ?_
        intro e w7 hp
        cases vr with
        | error x =>
          obtain ⟨ov8, r8, rfl, hr8, hk8⟩ := hp
          have HP := Lib.hid (HR6.out.err hr8 hk8)
          clear hr8 hk8
          rw [show res = .error x from HRV.out]
          go_wp2_with fail
          refine leaves_cons (f := 46) (args := #[.pointer (some ⟨w.heap.size, 0, none⟩)]) (by simp) (by simp [go_sem]) ?_
          refine (less_any w.heap.size xb ((deep + 1 : Nat) : Int) _ _ (box_cell HP.out.1) (HP.out.2.1.five.1.2.2.2.1) (HP.out.2.1.five.2.2.1) (by rw [IntWalk.i64_in _ (by omega)])).mono ?_
          rintro e u' w'' ⟨rfl, rfl, rfl⟩
          rw [show ((deep + 1 : Nat) : Int) - 1 = (deep : Int) by omega]
          simp [Leaves, settle, go_sem]
          exact err_done HP.out.2.1 HP.out.2.2
        | ok z =>
          obtain ⟨v, r2⟩ := z
          obtain ⟨ov8, rfl, hx8, hn8, hk8⟩ := hp
          have HR7 := Lib.hid (HR6.out.called hx8 hn8 hk8)
          clear hx8 hn8 hk8
          go_wp2_with fail
          refine leaves_cons (f := 46) (args := #[.pointer (some ⟨w.heap.size, 0, none⟩)]) (by simp) (by simp [go_sem]) ?_
          refine (less_any w.heap.size xb ((deep + 1 : Nat) : Int) _ _ (box_cell HR7.out.bx) (HR7.out.x.rc.five.1.2.2.2.1) (HR7.out.x.rc.five.2.2.1) (by rw [IntWalk.i64_in _ (by omega)])).mono ?_
          rintro e u' w'' ⟨rfl, rfl, rfl⟩
          rw [show ((deep + 1 : Nat) : Int) - 1 = (deep : Int) by omega]
          simp [Leaves, settle, results, Try.results38, go_sem]
          rw [show res = .ok (v, r2) from HRV.out]
          exact ok_done HR7.out hops
      | true =>
        have HPN := Lib.hid (show partsF t = some (N, F, G) by rw [HPF.out]; rfl)
        obtain ⟨vr, hvr⟩ : ∃ vr, vr = valueF l auto op (fun o => textF (refF l auto k o)) r N := ⟨_, rfl⟩
        have HVR := Lib.hid hvr
        have HRV := Lib.hid (show res = swapRest F G vr by rw [HRES.out, HPN.out, hvr]; rfl)
        have HVL := Lib.hid (show ∀ v r2, vr = .ok (v, r2) → v.length ≤ 100000 from fun v r2 h => valueF_len hsm.2 (ref := refF l auto k) (hvr.symm.trans h))
        clear hvr
        go_wp2_with fail
        refine (HC1.out _ HR4.out.x.gl).mono ?_
        rintro e w5 ⟨rfl, q5, hw5⟩
        have HR5 := Lib.hid (show RAt w w5 xb lv av ov ov4 l auto op deep r from by rw [hw5]; exact HR4.out.drewN q5)
        clear hw5
        go_wp2_with fail
        refine (HC2.out _ HR5.out.x.gl).mono ?_
        rintro e w6 ⟨rfl, q6, hw6⟩
        have HR6 := Lib.hid (show RAt w w6 xb lv av ov ov4 l auto op deep r from by rw [hw6]; exact HR5.out.drewN q6)
        clear hw6
        have bx6 := box_cell HR6.out.bx
        go_wp2_with fail
        have hcall := value_any l auto k HT hsm.1 w6 xb lv av ov4 op (deep + 1) r NB HR6.out.x (by omega) (by omega)
        rw [HND.out, ← HVR.out] at hcall
        refine hcall.mono ?_
        intro e w7 hp
        cases vr with
        | error x =>
          obtain ⟨ov8, r8, rfl, hr8, hk8⟩ := hp
          have HP := Lib.hid (HR6.out.err hr8 hk8)
          clear hr8 hk8
          rw [show res = .error x from HRV.out]
          go_wp2_with fail
          refine leaves_cons (f := 46) (args := #[.pointer (some ⟨w.heap.size, 0, none⟩)]) (by simp) (by simp [go_sem]) ?_
          refine (less_any w.heap.size xb ((deep + 1 : Nat) : Int) _ _ (box_cell HP.out.1) (HP.out.2.1.five.1.2.2.2.1) (HP.out.2.1.five.2.2.1) (by rw [IntWalk.i64_in _ (by omega)])).mono ?_
          rintro e u' w'' ⟨rfl, rfl, rfl⟩
          rw [show ((deep + 1 : Nat) : Int) - 1 = (deep : Int) by omega]
          simp [Leaves, settle, go_sem]
          exact err_done HP.out.2.1 HP.out.2.2
        | ok z =>
          obtain ⟨v, r2⟩ := z
          obtain ⟨ov8, rfl, hx8, hn8, hk8⟩ := hp
          have HR7 := Lib.hid (HR6.out.called hx8 hn8 hk8)
          clear hx8 hn8 hk8
          obtain ⟨VB, hVB⟩ : ∃ VB : ByteArray, VB = ⟨v.toArray⟩ := ⟨_, rfl⟩
          have HVD := Lib.hid (show VB.data.toList = v by rw [hVB])
          have hvs : VB.size ≤ 100000 := by rw [Lib.size_eq, HVD.out]; exact HVL.out v r2 (by first | rfl | trivial)
          rw [show strV v = .string VB by rw [hVB]; rfl]
          clear hVB
          go_wp2_with fail
          refine (swapped_any VB FB GB _ hvs hFs hGs HR7.out.x.gl).mono ?_
          rintro e w8 ⟨rfl, hb8⟩
          have HR8 := Lib.hid (HR7.out.below hb8)
          rw [HVD.out, HFD.out, HGD.out]
          clear hb8
          go_wp2_with fail
          refine leaves_cons (f := 46) (args := #[.pointer (some ⟨w.heap.size, 0, none⟩)]) (by simp) (by simp [go_sem]) ?_
          refine (less_any w.heap.size xb ((deep + 1 : Nat) : Int) _ _ (box_cell HR8.out.bx) (HR8.out.x.rc.five.1.2.2.2.1) (HR8.out.x.rc.five.2.2.1) (by rw [IntWalk.i64_in _ (by omega)])).mono ?_
          rintro e u' w'' ⟨rfl, rfl, rfl⟩
          rw [show ((deep + 1 : Nat) : Int) - 1 = (deep : Int) by omega]
          simp [Leaves, settle, results, Try.results38, go_sem]
          rw [show res = .ok (swappedF v F G, r2) from HRV.out]
          exact ok_done HR8.out hops
theorem ref_all (l auto : List (Bs × Bs)) (hsm : Small l ∧ Small auto) : ∀ k, RefOK l auto k
  | 0 => ref_zero l auto
  | k + 1 => ref_succ l auto k (text_any l auto k (ref_all l auto hsm k) hsm.2) hsm
theorem text_all (l auto : List (Bs × Bs)) (hsm : Small l ∧ Small auto) (k : Nat) : TextOK l auto k := text_any l auto k (ref_all l auto hsm k) hsm.2
end Go.Proofs.Ytglppnpllpfaeaa
