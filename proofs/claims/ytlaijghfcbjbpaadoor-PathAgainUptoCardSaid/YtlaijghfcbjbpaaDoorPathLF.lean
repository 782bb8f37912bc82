/-
  The law PathAgain.
-/
import Derived.Test.YtlaijghfcbjbpaaDoorPathLE
namespace Go.Proofs.YtlaijghfcbjbpaaDoor
open Go.RowKit

theorem partsL_nozero {cwd p : Bytes} (h1 : (0 : UInt8) ∉ cwd) (h2 : (0 : UInt8) ∉ p) : ∀ x ∈ partsL cwd p, (0 : UInt8) ∉ x := by
  have hs : ∀ q : Bytes, (0 : UInt8) ∉ q → ∀ l : List Bytes, (∀ x ∈ l, (0 : UInt8) ∉ x) → ∀ x ∈ namesL l q, (0 : UInt8) ∉ x := by
    intro q hq l hl
    exact fold_all (P := fun x => (0 : UInt8) ∉ x) hl (fun s hs _ h => hq (splitL_sub q s hs 0 h)) (splitL_noslash q)
  unfold partsL
  split
  · exact hs p h2 [] (by simp)
  · exact hs p h2 _ (hs cwd h1 [] (by simp))

theorem flat_nozero {L : List Bytes} (h : ∀ x ∈ L, (0 : UInt8) ∉ x) : (0 : UInt8) ∉ writeL L := by
  unfold writeL
  split
  · decide
  · intro h0
    unfold flat at h0
    rw [List.mem_flatten] at h0
    obtain ⟨l, hl, h0⟩ := h0
    rw [List.mem_map] at hl
    obtain ⟨x, hx, rfl⟩ := hl
    rcases List.mem_append.1 h0 with h0 | h0
    · cases List.mem_singleton.1 h0
    · exact h x hx h0

/-- What a path that is no error is. -/
structure Whole (L : List Bytes) : Prop where
  plain : ∀ x ∈ L, Plain x
  zero : ∀ x ∈ L, (0 : UInt8) ∉ x
  long : longB L = false
  deep : L.length ≤ 20
  size : (writeL L).length ≤ 200

theorem whole_of {cwd p S : Bytes} (h : absF cwd p = (S, 0)) : ∃ L, S = writeL L ∧ Whole L := by
  unfold absF at h
  split at h
  · injection h with _ h; cases h
  · rename_i h1
    split at h
    · injection h with _ h; cases h
    · rename_i h2
      injection h with h _
      exact ⟨_, h.symm, partsL_plain cwd p, partsL_nozero (fun x => h1 (Or.inr (Or.inr x))) (fun x => h1 (Or.inr (Or.inl x))), by
        cases hl : longB (partsL cwd p)
        · rfl
        · exact absurd (Or.inl hl) h2, by
        rcases Nat.lt_or_ge 20 (partsL cwd p).length with x | x
        · exact absurd (Or.inr (Or.inl x)) h2
        · exact x, by
        rcases Nat.lt_or_ge 200 (writeL (partsL cwd p)).length with x | x
        · exact absurd (Or.inr (Or.inr x)) h2
        · exact x⟩

theorem writeL_ne (L : List Bytes) : writeL L ≠ [] := by rw [← join_writeL]; simp

theorem abs_whole {L : List Bytes} (h : Whole L) {other q : Bytes} (ho : (0 : UInt8) ∉ other) (hq : (0 : UInt8) ∉ q) (hne : q ≠ []) (hp : partsL other q = L) : absF other q = (writeL L, 0) := by
  unfold absF
  rw [if_neg (by rintro (x | x | x); exact hne x; exact hq x; exact ho x), hp, if_neg]
  rintro (x | x | x)
  · rw [h.long] at x; cases x
  · have := h.deep; omega
  · have := h.size; omega

theorem again_abs {L : List Bytes} (h : Whole L) {other : Bytes} (ho : (0 : UInt8) ∉ other) : absF other (writeL L) = (writeL L, 0) :=
  abs_whole h ho (flat_nozero h.zero) (writeL_ne L) (partsL_write h.plain other)

theorem again_dir {L : List Bytes} (h : Whole L) : dirF (writeL L) = writeL L.dropLast := by
  unfold dirF; rw [partsL_write h.plain]

theorem again_base {L : List Bytes} (h : Whole L) : baseF (writeL L) = L.getLastD [] := by
  unfold baseF; rw [partsL_write h.plain]

theorem mem_dropLast {L : List Bytes} {x : Bytes} (h : x ∈ L.dropLast) : x ∈ L := by
  rw [List.dropLast_eq_take] at h; exact List.mem_of_mem_take h

theorem last_eq {L : List Bytes} (h : L ≠ []) : L.getLastD [] = L.getLast h := by
  cases L with
  | nil => exact absurd rfl h
  | cons a r => rfl

theorem again_both {L : List Bytes} (h : Whole L) (hL : L ≠ []) : absF (writeL L.dropLast) (L.getLastD []) = (writeL L, 0) := by
  have hl : L.getLastD [] ∈ L := by
    rw [last_eq hL]
    exact List.getLast_mem hL
  have hc : L.dropLast ++ [L.getLastD []] = L := by
    rw [last_eq hL]
    exact List.dropLast_concat_getLast hL
  have hpl := h.plain _ hl
  refine abs_whole h (flat_nozero fun x hx => h.zero x (mem_dropLast hx)) (h.zero _ hl) hpl.1 ?_
  have hpre : Lib.hasPrefix (L.getLastD []) [47] = false := by
    cases hb : Lib.hasPrefix (L.getLastD []) [47]
    · rfl
    · obtain ⟨r, hr⟩ := (hasPrefix_slash _).1 hb
      exact absurd (by rw [hr]; simp) hpl.2.2.2
  rw [partsL_rel _ hpre, namesL_write (fun x hx => h.plain x (mem_dropLast hx)), List.nil_append, namesL_name hpl, hc]

theorem again_within {L : List Bytes} (h : Whole L) (hL : L ≠ []) : withinF (writeL L) (writeL L.dropLast) = false := by
  cases hw : withinF (writeL L) (writeL L.dropLast)
  · rfl
  · obtain ⟨r, hr⟩ := (withinF_iff _ _).1 hw
    rw [partsL_write h.plain, partsL_write (fun x hx => h.plain x (mem_dropLast hx))] at hr
    have := congrArg List.length hr
    have hpos := List.length_pos_iff.2 hL
    rw [List.length_append, List.length_dropLast] at this
    omega

theorem again_root (q : Bytes) : withinF [47] q = true := by
  refine (withinF_iff _ _).2 ⟨partsL [47] q, ?_⟩
  rw [show partsL [47] [47] = [] by decide]; rfl

theorem writeL_root {L : List Bytes} : writeL L = [47] ↔ L = [] ∨ L = [[]] := by
  constructor
  · intro h
    unfold writeL at h
    split at h
    · rename_i e; exact Or.inl e
    · have := congrArg List.length h
      rw [flat_length] at this
      match L, this with
      | [], _ => exact Or.inl rfl
      | [x], this =>
        simp [lens] at this
        rw [this]; exact Or.inr rfl
      | x :: y :: r, this => simp at this; omega
  · rintro (rfl | rfl) <;> rfl

set_option maxHeartbeats 2000000 in
theorem pathAgain_walk (cwd p other : ByteArray) (w : World) (hc : cwd.size ≤ 1048576) (hp : p.size ≤ 1048576) (ho : other.size ≤ 1048576) (hsh : w.ShapedOpen Tryd.prog) :
    Calls Tryd.prog 10 #[.string cwd, .string p, .string other] w fun e w' => e = .returned (.bool true) ∧ Below w.heap.size w w' := by
  obtain ⟨m, hm⟩ := maxLen_any w hsh
  have hml := cell_lt hm
  have HM := Lib.hid hm; clear hm hsh
  have hra : ∀ W : World, Calls Tryd.prog 31 #[.string cwd, .string p] W (RetAbs (absF cwd.data.toList p.data.toList) W) := fun W => refAbs_any cwd p W (by omega) (by omega)
  obtain ⟨r, hr⟩ : ∃ r, r = absF cwd.data.toList p.data.toList := ⟨_, rfl⟩
  rw [← hr] at hra
  obtain ⟨S0, x⟩ := r
  obtain ⟨S, hS⟩ : ∃ S : ByteArray, S = ⟨S0.toArray⟩ := ⟨_, rfl⟩
  have hSd : S.data.toList = S0 := by rw [hS]
  have hra2 : ∀ W : World, Calls Tryd.prog 31 #[.string cwd, .string p] W (fun e w' => e = .returned (.tuple #[.string S, .int .i64 x]) ∧ Below W.heap.size W w') := fun W => by rw [hS]; exact hra W
  have HRA := Lib.hid hra2; clear hra hra2 hS
  by_cases hx : x = 0
  · subst hx
    obtain ⟨L, hL, hwh⟩ := whole_of hr.symm
    rw [hL] at hSd
    clear hr hL
    have hSz : S.size ≤ 200 := by rw [Lib.size_eq, hSd]; exact hwh.size
    by_cases ho : 100 < other.size
    · clear hSd
      go_enter Tryd.func10, Tryd.ntmps10
      go_wp2_with (first | (go_at_call 21; refine (alive_any m _ HM.out).mono ?_; rintro e w1 ⟨rfl, hb⟩; have HB := Lib.hid hb; clear hb))
      refine (HRA.out _).mono ?_
      rintro e w2 ⟨rfl, hb⟩
      replace HB := Lib.hid (HB.out.trans (hb.mono HB.out.size)); clear hb
      go_wp2
      go_ret
      exact ⟨rfl, HB.out⟩
    by_cases hz : 0 ≤ Lib.indexByte other.data.toList 0
    · clear hSd
      go_enter Tryd.func10, Tryd.ntmps10
      go_wp2_with (first | (go_at_call 21; refine (alive_any m _ HM.out).mono ?_; rintro e w1 ⟨rfl, hb⟩; have HB := Lib.hid hb; clear hb))
      refine (HRA.out _).mono ?_
      rintro e w2 ⟨rfl, hb⟩
      replace HB := Lib.hid (HB.out.trans (hb.mono HB.out.size)); clear hb
      go_wp2_with (first | (go_at_call 28; refine (at_zero _ _ (by omega)).mono ?_; rintro e w' ⟨rfl, rfl⟩))
      go_ret
      exact ⟨rfl, HB.out⟩
    have h0 : (0 : UInt8) ∉ other.data.toList := fun h => hz ((zero_iff _).2 h)
    have hab : absF other.data.toList S.data.toList = (S.data.toList, 0) := by rw [hSd]; exact again_abs hwh h0
    have hcA : ∀ W : World, W.cell? ⟨0, 0, none⟩ = some (.int .i64 m) → Calls Tryd.prog 26 #[.string other, .string S] W (fun e w' => e = .returned (.tuple #[.string S, .int .i64 0]) ∧ Below W.heap.size W w') := fun W hW => by
      have h := abs_any other S m W (by omega) (by omega) hW
      rw [hab] at h
      refine h.mono ?_
      rintro e w' ⟨he, hb⟩
      exact ⟨he.trans (by rw [Lib.mk_data]), hb⟩
    obtain ⟨D, hD⟩ : ∃ D : ByteArray, D = ⟨(dirF S.data.toList).toArray⟩ := ⟨_, rfl⟩
    obtain ⟨T, hT⟩ : ∃ T : ByteArray, T = ⟨(baseF S.data.toList).toArray⟩ := ⟨_, rfl⟩
    have hDd : D.data.toList = writeL L.dropLast := by rw [hD, hSd]; exact again_dir hwh
    have hTd : T.data.toList = L.getLastD [] := by rw [hT, hSd]; exact again_base hwh
    have hDz : D.size ≤ 100000 := by rw [hD]; exact dirF_size S (by omega)
    have hTz : T.size ≤ 100000 := by
      rw [Lib.size_eq, hTd]
      have h1 := hwh.size
      by_cases hL : L = []
      · rw [hL]; simp
      · have hl : L.getLastD [] ∈ L := by
          rw [last_eq hL]
          exact List.getLast_mem hL
        obtain ⟨k, hk⟩ := List.getElem?_of_mem hl
        have h2 := lens_get L k
        rw [List.getD_eq_getElem?_getD, hk] at h2
        simp only [Option.getD_some] at h2
        unfold writeL at h1
        rw [if_neg hL, flat_length] at h1
        omega
    have hcD : ∀ W : World, W.cell? ⟨0, 0, none⟩ = some (.int .i64 m) → Calls Tryd.prog 30 #[.string S] W (RetB (.string D) W) := fun W hW => by rw [hD]; exact dir_any S m W (by omega) hW
    have hcT : ∀ W : World, W.cell? ⟨0, 0, none⟩ = some (.int .i64 m) → Calls Tryd.prog 34 #[.string S] W (RetB (.string T) W) := fun W hW => by rw [hT]; exact base_any S m W (by omega) hW
    have w1 : withinF D.data.toList S.data.toList = true := by rw [hD]; exact within_dir S.data.toList
    have w2 : withinF (⟨#[47]⟩ : ByteArray).data.toList S.data.toList = true := again_root _
    have HCA := Lib.hid hcA; have HCD := Lib.hid hcD; have HCT := Lib.hid hcT; have W1 := Lib.hid w1; have W2 := Lib.hid w2
    clear hab hcA hcD hcT hD hT w1 w2 h0
    by_cases hL : L = []
    · have hS1 : S = ⟨#[47]⟩ := ba_ext (by rw [hSd, hL]; rfl)
      have hD1 : D = ⟨#[47]⟩ := ba_ext (by rw [hDd, hL]; rfl)
      have hT1 : T = ⟨#[]⟩ := ba_ext (by rw [hTd, hL]; rfl)
      clear hSd hDd hTd hwh
      subst hS1; subst hD1; subst hT1
      go_enter Tryd.func10, Tryd.ntmps10
      go_wp2_with (first | (go_at_call 21; refine (alive_any m _ HM.out).mono ?_; rintro e w1 ⟨rfl, hb⟩; have HB := Lib.hid hb; clear hb))
      refine (HRA.out _).mono ?_
      rintro e w2 ⟨rfl, hb⟩
      replace HB := Lib.hid (HB.out.trans (hb.mono HB.out.size)); clear hb
      go_wp2_with (first | (go_at_call 28; refine (at_zero _ _ (by omega)).mono ?_; rintro e w' ⟨rfl, rfl⟩))
      refine (HCA.out _ ((HB.out.cell (p := ⟨0, 0, none⟩) hml).trans HM.out)).mono ?_
      rintro e w2 ⟨rfl, hb⟩
      replace HB := Lib.hid (HB.out.trans (hb.mono HB.out.size)); clear hb
      go_wp2_with fail
      refine (HCD.out _ ((HB.out.cell (p := ⟨0, 0, none⟩) hml).trans HM.out)).mono ?_
      rintro e w2 ⟨rfl, hb⟩
      replace HB := Lib.hid (HB.out.trans (hb.mono HB.out.size)); clear hb
      go_wp2_with fail
      refine (HCT.out _ ((HB.out.cell (p := ⟨0, 0, none⟩) hml).trans HM.out)).mono ?_
      rintro e w2 ⟨rfl, hb⟩
      replace HB := Lib.hid (HB.out.trans (hb.mono HB.out.size)); clear hb
      go_wp2_with (first | (go_at_call 27; go_in) | (go_at_call 29; refine (withinB _ _ true m _ (by decide) (by decide) ((HB.out.cell (p := ⟨0, 0, none⟩) hml).trans HM.out) W2.out).mono ?_; rintro e w6 ⟨rfl, hb⟩; replace HB := Lib.hid (HB.out.trans (hb.mono HB.out.size)); clear hb))
      go_ret
      exact ⟨rfl, HB.out⟩
    · have hne : S.data.toList ≠ [47] := by
        rw [hSd]
        intro h
        rcases writeL_root.1 h with h | h
        · exact hL h
        · exact (hwh.plain [] (by rw [h]; simp)).1 rfl
      have e1 : (S.toList == [47]) = false := by rw [Lib.toList_data]; exact beq_no hne
      have hab : absF D.data.toList T.data.toList = (S.data.toList, 0) := by rw [hSd, hDd, hTd]; exact again_both hwh hL
      have hcB : ∀ W : World, W.cell? ⟨0, 0, none⟩ = some (.int .i64 m) → Calls Tryd.prog 26 #[.string D, .string T] W (fun e w' => e = .returned (.tuple #[.string S, .int .i64 0]) ∧ Below W.heap.size W w') := fun W hW => by
        have h := abs_any D T m W (by omega) (by omega) hW
        rw [hab] at h
        refine h.mono ?_
        rintro e w' ⟨he, hb⟩
        exact ⟨he.trans (by rw [Lib.mk_data]), hb⟩
      have w3 : withinF S.data.toList D.data.toList = false := by rw [hSd, hDd]; exact again_within hwh hL
      have HCB := Lib.hid hcB; have W3 := Lib.hid w3
      clear hSd hDd hTd hwh hL hne hab hcB w3
      go_enter Tryd.func10, Tryd.ntmps10
      go_wp2_with (first | (go_at_call 21; refine (alive_any m _ HM.out).mono ?_; rintro e w1 ⟨rfl, hb⟩; have HB := Lib.hid hb; clear hb))
      refine (HRA.out _).mono ?_
      rintro e w2 ⟨rfl, hb⟩
      replace HB := Lib.hid (HB.out.trans (hb.mono HB.out.size)); clear hb
      go_wp2_with (first | (go_at_call 28; refine (at_zero _ _ (by omega)).mono ?_; rintro e w' ⟨rfl, rfl⟩))
      refine (HCA.out _ ((HB.out.cell (p := ⟨0, 0, none⟩) hml).trans HM.out)).mono ?_
      rintro e w2 ⟨rfl, hb⟩
      replace HB := Lib.hid (HB.out.trans (hb.mono HB.out.size)); clear hb
      go_wp2_with fail
      refine (HCD.out _ ((HB.out.cell (p := ⟨0, 0, none⟩) hml).trans HM.out)).mono ?_
      rintro e w2 ⟨rfl, hb⟩
      replace HB := Lib.hid (HB.out.trans (hb.mono HB.out.size)); clear hb
      go_wp2_with fail
      refine (HCT.out _ ((HB.out.cell (p := ⟨0, 0, none⟩) hml).trans HM.out)).mono ?_
      rintro e w2 ⟨rfl, hb⟩
      replace HB := Lib.hid (HB.out.trans (hb.mono HB.out.size)); clear hb
      go_wp2_with (first | (go_at_call 27; go_in))
      refine (withinB _ _ true m _ (by omega) (by omega) ((HB.out.cell (p := ⟨0, 0, none⟩) hml).trans HM.out) W1.out).mono ?_
      rintro e w2 ⟨rfl, hb⟩
      replace HB := Lib.hid (HB.out.trans (hb.mono HB.out.size)); clear hb
      go_wp2_with fail
      refine (withinB _ _ true m _ (by decide) (by omega) ((HB.out.cell (p := ⟨0, 0, none⟩) hml).trans HM.out) W2.out).mono ?_
      rintro e w2 ⟨rfl, hb⟩
      replace HB := Lib.hid (HB.out.trans (hb.mono HB.out.size)); clear hb
      go_wp2_with fail
      refine (HCB.out _ ((HB.out.cell (p := ⟨0, 0, none⟩) hml).trans HM.out)).mono ?_
      rintro e w2 ⟨rfl, hb⟩
      replace HB := Lib.hid (HB.out.trans (hb.mono HB.out.size)); clear hb
      go_wp2_with (first | (go_at_call 27; go_in))
      refine (withinB _ _ false m _ (by omega) (by omega) ((HB.out.cell (p := ⟨0, 0, none⟩) hml).trans HM.out) W3.out).mono ?_
      rintro e w2 ⟨rfl, hb⟩
      replace HB := Lib.hid (HB.out.trans (hb.mono HB.out.size)); clear hb
      go_wp2
      go_ret
      exact ⟨rfl, HB.out⟩
  · have e0 : (x == 0) = false := by simp [hx]
    have e1 : (x != 0) = true := by simp [hx]
    clear hr hx hSd
    go_enter Tryd.func10, Tryd.ntmps10
    go_wp2_with (first | (go_at_call 21; refine (alive_any m _ HM.out).mono ?_; rintro e w1 ⟨rfl, hb⟩; have HB := Lib.hid hb; clear hb))
    refine (HRA.out _).mono ?_
    rintro e w2 ⟨rfl, hb⟩
    replace HB := Lib.hid (HB.out.trans (hb.mono HB.out.size)); clear hb
    go_wp2
    go_ret
    exact ⟨rfl, HB.out⟩

end Go.Proofs.YtlaijghfcbjbpaaDoor
