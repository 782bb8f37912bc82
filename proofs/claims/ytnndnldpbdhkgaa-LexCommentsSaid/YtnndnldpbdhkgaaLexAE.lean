/-
  A copy of parts.
-/
import Derived.Test.YtnndnldpbdhkgaaLexAD
import Derived.Lib.SliceRun
namespace Go.Proofs.Ytnndnldpbdhkgaa
open Go.RowKit
set_option linter.unusedVariables false

theorem cellsL_inv {l : List Pt} {vs : List Value} (hl : vs.length = l.length) {j : Nat} {u : Value} (h : (cellsL l vs)[j]? = some u) : ∃ (i r : Nat) (hi : i < l.length), j = i * 6 + r ∧ (cellsP l[i] (vs[i]'(by omega)))[r]? = some u := by
  have hj : j < l.length * 6 := by
    have := (List.getElem?_eq_some_iff.1 h).1
    rw [cellsL_len hl] at this
    exact this
  have hi : j / 6 < l.length := by omega
  have hr : j % 6 < (cellsP l[j / 6] (vs[j / 6]'(by omega))).length := by rw [cellsP_len]; exact Nat.mod_lt _ (by decide)
  obtain ⟨u', hu'⟩ : ∃ u', (cellsP l[j / 6] (vs[j / 6]'(by omega)))[j % 6]? = some u' := ⟨_, List.getElem?_eq_getElem hr⟩
  have h2 := cellsL_at hl hi (j % 6) u' hu'
  rw [show j / 6 * 6 + j % 6 = j by omega, h] at h2
  refine ⟨j / 6, j % 6, hi, by omega, ?_⟩
  rw [hu', Option.some.inj h2]

set_option maxRecDepth 100000 in
set_option maxHeartbeats 2000000 in
theorem clone_nil (n c : Nat) (w : World) :
    Calls Try.prog 37 #[.slice none n c] w fun e w' => e = .returned (.slice none 0 0) ∧ w' = w := by
  have q32 : ∀ (w : World) (a : Option Addr) (n c n' c' : Nat), (binOp .eql 32 (.slice a n c) (.slice none n' c')).run Try.prog w = .ok (.bool a.isNone) w := fun w a n c n' c' => Lib.run_eql_slice_nil w _ _ a n c n' c' Try.underlying32
  go_enter Try.func37, Try.ntmps37
  go_wp2_with fail
  go_ret
  exact ⟨rfl, rfl⟩

set_option maxRecDepth 100000 in
set_option maxHeartbeats 2000000 in
theorem clone_some (D : Nat → Prop) (k : Nat) (l : List Pt) (vs : List Value) (ad : Addr) (c : Nat) (w : World) (hl : vs.length = l.length) (hlen : l.length ≤ 1000000)
    (hc : ∀ j u, (cellsL l vs)[j]? = some u → w.cell? (ad.add j) = some u) (hone : ∀ u ∈ cellsL l vs, u.oneCell' = true) :
    Calls Try.prog 37 #[.slice (some ad) l.length c] w fun e w' => ∃ v', e = .returned v' ∧ w'.ownsRow w.heap.size 39 6 v' l.length (cellsL l vs) ∧ Keeps (fun _ => False) w w' := by
  have q32 : ∀ (w : World) (a : Option Addr) (n c n' c' : Nat), (binOp .eql 32 (.slice a n c) (.slice none n' c')).run Try.prog w = .ok (.bool a.isNone) w := fun w a n c n' c' => Lib.run_eql_slice_nil w _ _ a n c n' c' Try.underlying32
  obtain ⟨i0, hi0, hz0, hz1, hz2⟩ := info_parts info_part
  have hc6 := cells_part
  have HC := Lib.hid hc
  have HO := Lib.hid hone
  obtain ⟨L, hL⟩ : ∃ L, L = l.length := ⟨_, rfl⟩
  have hcl : (cellsL l vs).length = L * 6 := by rw [cellsL_len hl, hL]
  obtain ⟨xs, hxs⟩ : ∃ xs, xs = cellsL l vs := ⟨_, rfl⟩
  rw [← hxs] at hc hone hcl
  have HC := Lib.hid hc
  have HO := Lib.hid hone
  have HCL := Lib.hid hcl
  rw [← hL] at hlen
  rw [← hxs, ← hL]
  clear hc hone hcl hL hxs hl
  go_enter Try.func37, Try.ntmps37
  go_wp2_with (at_builtin; refine wpList_append_own _ rfl _ _ 32 rfl w.heap.size 39 i0 _ 6 88 Try.underlying32 hi0 hz0 hz1 hz2 rfl (by decide) _ _ _ rfl (World.ownsRow_made w #[] 0 (Nat.le_refl _) (Nat.zero_le _) rfl) ad L c xs rfl ?qc1 ?qc2 ?qc3 ?qc4 ?qc5 ?qc6 ?_)
  case qc1 => exact HCL.out
  case qc2 => intro j u hj; exact Lib.cell?_alloc_some _ (HC.out j u hj)
  case qc3 => exact HO.out
  case qc4 => unfold maxLen; omega
  case qc5 => omega
  case qc6 => simp
  intro v' w1 hown hgrow hnil
  go_wp2_with fail
  go_ret
  refine ⟨v', rfl, by simpa using hown, ?_⟩
  exact ((Keeps.refl _ w).alloc _).grown hgrow (fun k hk hkl => by simp [Value.ownBlock] at hk; omega)

theorem owns_low {w : World} {B : Nat} {e : TypeId} {z n : Nat} {v : Value} {xs : List Value} (h : w.ownsRow B e z v n xs) : w.ownsRow 0 e z v n xs ∧ ∀ g, v.ownBlock = some g → B ≤ g := by
  obtain ⟨h1, h2⟩ := h
  rcases h2 with h2 | ⟨g, cap, cur, rfl, hb, hr⟩
  · refine ⟨⟨h1, .inl h2⟩, fun g hg => ?_⟩
    rw [h2.1] at hg
    cases hg
  · exact ⟨⟨h1, .inr ⟨g, cap, cur, rfl, Nat.zero_le _, hr⟩⟩, fun y hy => by have h9 : g = y := Option.some.inj hy; omega⟩

theorem clone_any (D : Nat → Prop) (n : Nat) (l : List Pt) (v : Value) (w : World) (h : PtsAt w D n l v) (hlen : l.length ≤ 1000000) :
    Calls Try.prog 37 #[v] w fun e w' => ∃ v' n', e = .returned v' ∧ PtsAt w' (fun b => D b ∨ w.heap.size ≤ b) n' l v' ∧ Keeps (fun _ => False) w w' := by
  obtain ⟨a, c, rfl, hc1, hc2, H⟩ := h.succ
  cases a with
  | none =>
    have hl : l = [] := by
      cases l with
      | nil => rfl
      | cons x y =>
        obtain ⟨g, o, wv, e, _⟩ := H 0 (Nat.succ_pos _)
        cases e
    subst hl
    refine (clone_nil _ c w).mono ?_
    rintro e w' ⟨rfl, rfl⟩
    exact ⟨_, 0, rfl, PtsAt.nil _ _ 0, Keeps.refl _ _⟩
  | some ad =>
    have Hw : ∀ i (hi : i < l.length), ∃ wv g o, some ad = some (⟨g, o, none⟩ : Addr) ∧ g < w.heap.size ∧ D g ∧ PtCells w g (o + i * 6) l[i] wv ∧ PtsAt w D n l[i].word wv := fun i hi => by
      obtain ⟨g, o, wv, e⟩ := H i hi
      exact ⟨wv, g, o, e⟩
    obtain ⟨vs, hl, hvs⟩ : ∃ vs : List Value, vs.length = l.length ∧ ∀ i (hi : i < l.length) (hi' : i < vs.length), ∃ g o, some ad = some (⟨g, o, none⟩ : Addr) ∧ g < w.heap.size ∧ D g ∧ PtCells w g (o + i * 6) l[i] vs[i] ∧ PtsAt w D n l[i].word vs[i] :=
      ⟨List.ofFn (fun i : Fin l.length => Classical.choose (Hw i.1 i.2)), by simp, fun i hi hi' => by
        have := Classical.choose_spec (Hw i hi)
        simpa using this⟩
    refine (clone_some D n l vs ad c w hl hlen (fun j u hj => ?_) (fun u hu => ?_)).mono ?_
    · obtain ⟨i, r, hi, rfl, hu⟩ := cellsL_inv hl hj
      obtain ⟨g, o, e, _, _, hp, _⟩ := hvs i hi (by omega)
      obtain rfl := Option.some.inj e
      have := hp r u hu
      rw [show o + i * 6 + r = o + (i * 6 + r) by omega] at this
      rw [Addr.add_lit]; exact this
    · obtain ⟨j, hj⟩ := List.mem_iff_getElem?.1 hu
      obtain ⟨i, r, hi, rfl, hu⟩ := cellsL_inv hl hj
      obtain ⟨g, o, e, _, _, hp, hq⟩ := hvs i hi (by omega)
      obtain ⟨a2, c2, e2, _, _⟩ := hq.shape
      have hm := List.mem_of_getElem? hu
      rw [e2] at hm
      simp only [cellsP, strV, List.mem_cons, List.not_mem_nil, or_false] at hm
      rcases hm with rfl | rfl | rfl | rfl | rfl | rfl <;> rfl
    · rintro e w' ⟨v', rfl, hown, hk⟩
      obtain ⟨hown0, hbase⟩ := owns_low hown
      have hO : OwnPts w' (fun b => D b ∨ w.heap.size ≤ b) v' l := ⟨vs, n, hl, hown0, fun i hi hi' => by
        obtain ⟨g, o, e, _, _, hp, hq⟩ := hvs i hi hi'
        have h2 : PtsAt w (fun b => D b ∧ b < w.heap.size) n l[i].word vs[i] := hq.mono fun b hb hd => ⟨hd, hb⟩
        exact (h2.keep hk (fun _ _ _ h => h)).mono fun b _ hd => ⟨.inl hd.1, fun e => by have := hbase b e; omega⟩⟩
      obtain ⟨m, hm⟩ := hO.reads (fun g hg => .inr (hbase g hg))
      exact ⟨v', m, rfl, hm, hk⟩
end Go.Proofs.Ytnndnldpbdhkgaa
