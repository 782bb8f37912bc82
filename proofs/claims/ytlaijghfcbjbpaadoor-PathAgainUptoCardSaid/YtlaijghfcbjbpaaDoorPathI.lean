/-
  The contracts of Equal, SameStrings, Within and its reference.
-/
import Derived.Test.YtlaijghfcbjbpaaDoorPathH
namespace Go.Proofs.YtlaijghfcbjbpaaDoor
open Go.RowKit

theorem names_ext {A B : List Bytes} : A = B ↔ A.length = B.length ∧ ∀ k, k < A.length → (⟨(A.getD k []).toArray⟩ : ByteArray) = ⟨(B.getD k []).toArray⟩ := by
  constructor
  · rintro rfl; exact ⟨rfl, fun _ _ => rfl⟩
  · rintro ⟨h1, h2⟩
    refine List.ext_getElem h1 fun k ha hb => ?_
    have := congrArg (fun b : ByteArray => b.data.toList) (h2 k ha)
    simpa [ha, hb] using this

theorem sameL (a b : Option Addr) (n ca m cb : Nat) (A B : List Bytes) (w : World) (ha : ReadsL w a n A) (hb : ReadsL w b m B) (hn : n ≤ 100000000) (hm : m ≤ 100000000) :
    Calls Tryd.prog 25 #[.slice a n ca, .slice b m cb] w (RetQuiet (.bool (decide (A = B))) w) :=
  same_any a b n ca m cb _ _ _ w (by omega) (by omega) ha.2 hb.2 (by rw [decide_eq_true_eq, names_ext, ← ha.1, ← hb.1])

theorem equalL (a b : Option Addr) (n ca m cb : Nat) (A B : List Bytes) (w : World) (ha : ReadsL w a n A) (hb : ReadsL w b m B) (hn : n ≤ 100000000) (hm : m ≤ 100000000) :
    Calls Tryd.prog 51 #[.slice a n ca, .slice b m cb] w (RetQuiet (.bool (decide (A = B))) w) := by
  by_cases hnm : n = m
  · subst hnm
    rcases Nat.eq_zero_or_pos n with h0 | h0
    · subst h0
      refine (Tryd.slices_Equal_string_empty a b ca 0 cb w (by omega)).mono ?_
      rintro e w' ⟨rfl, rfl⟩
      refine ⟨?_, 0, rfl⟩
      have h1 : A = [] := List.eq_nil_of_length_eq_zero ha.1.symm
      have h2 : B = [] := List.eq_nil_of_length_eq_zero hb.1.symm
      rw [h1, h2]; rfl
    · obtain ⟨b1, o1, rfl, _, _⟩ := ha.2 0 h0
      obtain ⟨b2, o2, rfl, _, _⟩ := hb.2 0 h0
      have cellsOf : ∀ {bk of : Nat} {L : List Bytes}, ReadsL w (some ⟨bk, of, none⟩) n L → ∀ j, j < (L.map fun x => (⟨x.toArray⟩ : ByteArray)).length → w.cell? ⟨bk, of + j, none⟩ = some (.string ((L.map fun x => (⟨x.toArray⟩ : ByteArray)).getD j ByteArray.empty)) := by
        intro bk of L h j hj
        rw [List.length_map] at hj
        obtain ⟨b', off', he, _, hc⟩ := h.2 j (by rw [h.1]; exact hj)
        simp only [Option.some.injEq, Addr.mk.injEq, and_true] at he
        obtain ⟨rfl, rfl⟩ := he
        rw [hc]
        simp [hj]
      refine (Tryd.slices_Equal_string b1 o1 n ca b2 o2 n cb (A.map fun x => (⟨x.toArray⟩ : ByteArray)) (B.map fun x => (⟨x.toArray⟩ : ByteArray)) w (by rw [List.length_map, ← ha.1]; exact Nat.le_refl _) (by rw [List.length_map, ← hb.1]; exact Nat.le_refl _) (by omega) (by omega) (cellsOf ha) (cellsOf hb)).mono ?_
      rintro e w' ⟨rfl, h⟩
      refine ⟨?_, h⟩
      congr 2
      rw [List.take_of_length_le (by rw [List.length_map, ← ha.1]; exact Nat.le_refl _), List.take_of_length_le (by rw [List.length_map, ← hb.1]; exact Nat.le_refl _)]
      have hinj : (A.map (fun x => (⟨x.toArray⟩ : ByteArray)) = B.map fun x => (⟨x.toArray⟩ : ByteArray)) ↔ A = B := by
        constructor
        · intro h
          have h3 := congrArg (List.map fun b : ByteArray => b.data.toList) h
          rw [List.map_map, List.map_map] at h3
          have e : ∀ L : List Bytes, L.map ((fun b : ByteArray => b.data.toList) ∘ fun x => (⟨x.toArray⟩ : ByteArray)) = L := fun L => by
            conv => rhs; rw [← List.map_id L]
            rfl
          rwa [e, e] at h3
        · rintro rfl; rfl
      simp only [hinj]
  · refine (Tryd.slices_Equal_string_lens a b n ca m cb w hnm).mono ?_
    rintro e w' ⟨rfl, rfl⟩
    refine ⟨?_, 0, rfl⟩
    have : A ≠ B := by rintro rfl; exact hnm (ha.1.trans hb.1.symm)
    rw [decide_eq_false this]

theorem within_at (p q : Bytes) : withinF p q = (decide ((partsL [47] p).length ≤ (partsL [47] q).length) && decide (partsL [47] p = (partsL [47] q).take (partsL [47] p).length)) := by
  unfold withinF; rw [Bool.decide_and]

set_option maxHeartbeats 1000000 in
theorem within_any (p q : ByteArray) (m : Int) (w : World) (hp : p.size ≤ 10000000) (hq : q.size ≤ 10000000) (hm : w.cell? ⟨0, 0, none⟩ = some (.int .i64 m)) :
    Calls Tryd.prog 29 #[.string p, .string q] w (RetB (.bool (withinF p.data.toList q.data.toList)) w) := by
  have hP : ∀ (s : ByteArray) (W : World), s.size ≤ 10000000 → (W.cell? ⟨0, 0, none⟩ = some (.int .i64 m)) → Calls Tryd.prog 24 #[.string ⟨#[47]⟩, .string s] W (RetL (partsL [47] s.data.toList) W) := fun s W hs hcm => rootParts s m W hs hcm
  obtain ⟨hbl, hbz⟩ := root_bounds p hp
  obtain ⟨hbl2, hbz2⟩ := root_bounds q hq
  rw [within_at]
  have hPp : ∀ W : World, (W.cell? ⟨0, 0, none⟩ = some (.int .i64 m)) → Calls Tryd.prog 24 #[.string ⟨#[47]⟩, .string p] W (RetL (partsL [47] p.data.toList) W) := fun W hcm => hP p W hp hcm
  have hPq : ∀ W : World, (W.cell? ⟨0, 0, none⟩ = some (.int .i64 m)) → Calls Tryd.prog 24 #[.string ⟨#[47]⟩, .string q] W (RetL (partsL [47] q.data.toList) W) := fun W hcm => hP q W hq hcm
  clear hP
  obtain ⟨A, hA⟩ : ∃ A, A = partsL [47] p.data.toList := ⟨_, rfl⟩
  obtain ⟨B, hB⟩ : ∃ B, B = partsL [47] q.data.toList := ⟨_, rfl⟩
  rw [← hA] at hPp hbl ⊢
  rw [← hB] at hPq hbl2 ⊢
  clear hA hB hbz hbz2
  obtain ⟨n, hn⟩ : ∃ n, n = A.length := ⟨_, rfl⟩
  obtain ⟨k, hk⟩ : ∃ k, k = B.length := ⟨_, rfl⟩
  have h1 : ∀ W : World, (W.cell? ⟨0, 0, none⟩ = some (.int .i64 m)) → Calls Tryd.prog 24 #[.string ⟨#[47]⟩, .string p] W (fun e w' => ∃ a c, e = .returned (.slice a n c) ∧ ReadsL w' a n A ∧ n ≤ c ∧ c ≤ 9223372036854775807 ∧ Below W.heap.size W w') := by
    intro W hcm
    refine (hPp W hcm).mono ?_
    rintro e w' ⟨a, c, he, h1, h2, h3, h4⟩
    rw [← hn] at he h1 h2
    exact ⟨a, c, he, h1, h2, h3, h4⟩
  have h2 : ∀ W : World, (W.cell? ⟨0, 0, none⟩ = some (.int .i64 m)) → Calls Tryd.prog 24 #[.string ⟨#[47]⟩, .string q] W (fun e w' => ∃ a c, e = .returned (.slice a k c) ∧ ReadsL w' a k B ∧ k ≤ c ∧ c ≤ 9223372036854775807 ∧ Below W.heap.size W w') := by
    intro W hcm
    refine (hPq W hcm).mono ?_
    rintro e w' ⟨a, c, he, h1, h2, h3, h4⟩
    rw [← hk] at he h1 h2
    exact ⟨a, c, he, h1, h2, h3, h4⟩
  have H1 := Lib.hid h1; have H2 := Lib.hid h2
  rw [← hn] at hbl ⊢
  rw [← hk] at hbl2 ⊢
  clear hn hk h1 h2 hPp hPq
  have hml := cell_lt hm
  have HM := Lib.hid hm; clear hm
  by_cases hle : n ≤ k
  · have e1 : decide (n ≤ k) = true := by simp [hle]
    rw [e1, Bool.true_and]
    clear e1
    obtain ⟨r, hr⟩ : ∃ r, r = decide (A = B.take n) := ⟨_, rfl⟩
    have HR := Lib.hid hr
    rw [← hr]; clear hr
    go_enter Tryd.func29, Tryd.ntmps29
    go_wp2_with fail
    refine (H1.out _ HM.out).mono ?_
    rintro e w1 ⟨a, c, rfl, hrl, hlc, hcm, hb1⟩
    have HM1 := Lib.hid ((hb1.cell (p := ⟨0, 0, none⟩) hml).trans HM.out)
    have HRL := Lib.hid hrl; have HB1 := Lib.hid hb1; clear hrl hb1
    go_wp2_with fail
    refine (H2.out _ HM1.out).mono ?_
    rintro e w2 ⟨a2, c2, rfl, hrl2, hlc2, hcm2, hb2⟩
    have HRA := Lib.hid (HRL.out.below hb2)
    have HRB := Lib.hid (hrl2.take hle)
    have HB2 := Lib.hid (HB1.out.trans (hb2.mono HB1.out.size)); clear hrl2 hb2
    have hcall : ∀ c2', Calls Tryd.prog 51 #[.slice a n c, .slice a2 n c2'] w2 (RetQuiet (.bool r) w2) := fun c2' => by rw [HR.out]; exact equalL _ _ _ _ _ _ _ _ _ HRA.out HRB.out hbl hbl
    have HC := Lib.hid hcall; clear hcall
    cases a2
    all_goals
      go_wp2_with (go_at_call 51; refine (HC.out _).mono ?_; rintro e w3 ⟨rfl, q3, rfl⟩)
      go_ret
      exact ⟨rfl, HB2.out.trans ((drewN_below w2 q3).mono HB2.out.size)⟩
  · have e1 : decide (n ≤ k) = false := by simp; omega
    rw [e1, Bool.false_and]
    clear e1
    go_enter Tryd.func29, Tryd.ntmps29
    go_wp2_with fail
    refine (H1.out _ HM.out).mono ?_
    rintro e w1 ⟨a, c, rfl, hrl, hlc, hcm, hb1⟩
    have HM1 := Lib.hid ((hb1.cell (p := ⟨0, 0, none⟩) hml).trans HM.out)
    have HB1 := Lib.hid hb1; clear hrl hb1
    go_wp2_with fail
    refine (H2.out _ HM1.out).mono ?_
    rintro e w2 ⟨a2, c2, rfl, hrl2, hlc2, hcm2, hb2⟩
    have HB2 := Lib.hid (HB1.out.trans (hb2.mono HB1.out.size)); clear hrl2 hb2
    go_wp2
    go_ret
    exact ⟨rfl, HB2.out⟩

set_option maxHeartbeats 1000000 in
theorem refWithin_any (p q : ByteArray) (w : World) (hp : p.size ≤ 10000000) (hq : q.size ≤ 10000000) :
    Calls Tryd.prog 36 #[.string p, .string q] w (RetB (.bool (withinF p.data.toList q.data.toList)) w) := by
  have hP : ∀ (s : ByteArray) (W : World), s.size ≤ 10000000 → Calls Tryd.prog 32 #[.string ⟨#[47]⟩, .string s] W (RetL (partsL [47] s.data.toList) W) := fun s W hs => rootRefParts s W hs
  obtain ⟨hbl, hbz⟩ := root_bounds p hp
  obtain ⟨hbl2, hbz2⟩ := root_bounds q hq
  rw [within_at]
  have hPp : ∀ W : World, Calls Tryd.prog 32 #[.string ⟨#[47]⟩, .string p] W (RetL (partsL [47] p.data.toList) W) := fun W => hP p W hp
  have hPq : ∀ W : World, Calls Tryd.prog 32 #[.string ⟨#[47]⟩, .string q] W (RetL (partsL [47] q.data.toList) W) := fun W => hP q W hq
  clear hP
  obtain ⟨A, hA⟩ : ∃ A, A = partsL [47] p.data.toList := ⟨_, rfl⟩
  obtain ⟨B, hB⟩ : ∃ B, B = partsL [47] q.data.toList := ⟨_, rfl⟩
  rw [← hA] at hPp hbl ⊢
  rw [← hB] at hPq hbl2 ⊢
  clear hA hB hbz hbz2
  obtain ⟨n, hn⟩ : ∃ n, n = A.length := ⟨_, rfl⟩
  obtain ⟨k, hk⟩ : ∃ k, k = B.length := ⟨_, rfl⟩
  have h1 : ∀ W : World, Calls Tryd.prog 32 #[.string ⟨#[47]⟩, .string p] W (fun e w' => ∃ a c, e = .returned (.slice a n c) ∧ ReadsL w' a n A ∧ n ≤ c ∧ c ≤ 9223372036854775807 ∧ Below W.heap.size W w') := by
    intro W
    refine (hPp W).mono ?_
    rintro e w' ⟨a, c, he, h1, h2, h3, h4⟩
    rw [← hn] at he h1 h2
    exact ⟨a, c, he, h1, h2, h3, h4⟩
  have h2 : ∀ W : World, Calls Tryd.prog 32 #[.string ⟨#[47]⟩, .string q] W (fun e w' => ∃ a c, e = .returned (.slice a k c) ∧ ReadsL w' a k B ∧ k ≤ c ∧ c ≤ 9223372036854775807 ∧ Below W.heap.size W w') := by
    intro W
    refine (hPq W).mono ?_
    rintro e w' ⟨a, c, he, h1, h2, h3, h4⟩
    rw [← hk] at he h1 h2
    exact ⟨a, c, he, h1, h2, h3, h4⟩
  have H1 := Lib.hid h1; have H2 := Lib.hid h2
  rw [← hn] at hbl ⊢
  rw [← hk] at hbl2 ⊢
  clear hn hk h1 h2 hPp hPq
  by_cases hle : n ≤ k
  · have e1 : decide (n ≤ k) = true := by simp [hle]
    rw [e1, Bool.true_and]
    clear e1
    obtain ⟨r, hr⟩ : ∃ r, r = decide (A = B.take n) := ⟨_, rfl⟩
    have HR := Lib.hid hr
    rw [← hr]; clear hr
    go_enter Tryd.func36, Tryd.ntmps36
    go_wp2_with fail
    refine (H1.out _).mono ?_
    rintro e w1 ⟨a, c, rfl, hrl, hlc, hcm, hb1⟩
    have HRL := Lib.hid hrl; have HB1 := Lib.hid hb1; clear hrl hb1
    go_wp2_with fail
    refine (H2.out _).mono ?_
    rintro e w2 ⟨a2, c2, rfl, hrl2, hlc2, hcm2, hb2⟩
    have HRA := Lib.hid (HRL.out.below hb2)
    have HRB := Lib.hid (hrl2.take hle)
    have HB2 := Lib.hid (HB1.out.trans (hb2.mono HB1.out.size)); clear hrl2 hb2
    have hcall : ∀ c2', Calls Tryd.prog 25 #[.slice a n c, .slice a2 n c2'] w2 (RetQuiet (.bool r) w2) := fun c2' => by rw [HR.out]; exact sameL _ _ _ _ _ _ _ _ _ HRA.out HRB.out hbl hbl
    have HC := Lib.hid hcall; clear hcall
    cases a2
    all_goals
      go_wp2_with (go_at_call 25; refine (HC.out _).mono ?_; rintro e w3 ⟨rfl, q3, rfl⟩)
      go_ret
      exact ⟨rfl, HB2.out.trans ((drewN_below w2 q3).mono HB2.out.size)⟩
  · have e1 : decide (n ≤ k) = false := by simp; omega
    rw [e1, Bool.false_and]
    clear e1
    go_enter Tryd.func36, Tryd.ntmps36
    go_wp2_with fail
    refine (H1.out _).mono ?_
    rintro e w1 ⟨a, c, rfl, hrl, hlc, hcm, hb1⟩
    have HB1 := Lib.hid hb1; clear hrl hb1
    go_wp2_with fail
    refine (H2.out _).mono ?_
    rintro e w2 ⟨a2, c2, rfl, hrl2, hlc2, hcm2, hb2⟩
    have HB2 := Lib.hid (HB1.out.trans (hb2.mono HB1.out.size)); clear hrl2 hb2
    go_wp2
    go_ret
    exact ⟨rfl, HB2.out⟩

end Go.Proofs.YtlaijghfcbjbpaaDoor
