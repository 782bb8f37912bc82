/-
  The contracts of Dir, Base, Within and of their references.
-/
import Derived.Test.YtlaijghfcbjbpaaDoorPathG
namespace Go.Proofs.YtlaijghfcbjbpaaDoor
open Go.RowKit

theorem rootParts (p : ByteArray) (m : Int) (w : World) (hp : p.size ≤ 10000000) (hm : w.cell? ⟨0, 0, none⟩ = some (.int .i64 m)) :
    Calls Tryd.prog 24 #[.string ⟨#[47]⟩, .string p] w (RetL (partsL [47] p.data.toList) w) :=
  partsR ⟨#[47]⟩ p m w (by decide) hp hm

theorem rootRefParts (p : ByteArray) (w : World) (hp : p.size ≤ 10000000) :
    Calls Tryd.prog 32 #[.string ⟨#[47]⟩, .string p] w (RetL (partsL [47] p.data.toList) w) :=
  refPartsR ⟨#[47]⟩ p w (by decide) hp

theorem root_bounds (p : ByteArray) (hp : p.size ≤ 10000000) : (partsL [47] p.data.toList).length ≤ 100000000 ∧ lens (partsL [47] p.data.toList) ≤ 100000000 :=
  partsL_bounds ⟨#[47]⟩ p (by decide) hp

theorem ReadsL.dropLast {w : World} {a : Option Addr} {n : Nat} {L : List Bytes} (h : ReadsL w a n L) : ReadsL w a (n - 1) L.dropLast := by
  have h2 := h.take (m := n - 1) (by omega)
  rw [List.dropLast_eq_take, ← h.1]; exact h2

def RetB (v : Value) (w : World) (e : Ending) (w' : World) : Prop := e = .returned v ∧ Below w.heap.size w w'

theorem retB_str {s : ByteArray} {l : Bytes} {w w' : World} (h : l = s.data.toList) (hb : Below w.heap.size w w') : RetB (.string ⟨l.toArray⟩) w (.returned (.string s)) w' := by
  refine ⟨?_, hb⟩
  rw [h]

theorem getLast_at {L : List Bytes} {n : Nat} (h : L.length = n + 1) : L.getLastD [] = L.getD n [] := by
  rw [List.getLastD_eq_getLast?, List.getLast?_eq_getElem?, h, List.getD_eq_getElem?_getD]; rfl

set_option maxHeartbeats 1000000 in
theorem dir_any (p : ByteArray) (m : Int) (w : World) (hp : p.size ≤ 10000000) (hm : w.cell? ⟨0, 0, none⟩ = some (.int .i64 m)) :
    Calls Tryd.prog 30 #[.string p] w (RetB (.string ⟨(dirF p.data.toList).toArray⟩) w) := by
  have hP := rootParts p m w hp hm
  obtain ⟨hbl, hbz⟩ := root_bounds p hp
  unfold dirF
  obtain ⟨L, hL⟩ : ∃ L, L = partsL [47] p.data.toList := ⟨_, rfl⟩
  rw [← hL] at hP hbl hbz ⊢
  clear hL
  have hz := lens_dropLast L
  have HZ := Lib.hid (Nat.le_trans hz hbz)
  obtain ⟨n, hn⟩ : ∃ n, n = L.length := ⟨_, rfl⟩
  have hPn : Calls Tryd.prog 24 #[.string ⟨#[47]⟩, .string p] w (fun e w' => ∃ a c, e = .returned (.slice a n c) ∧ ReadsL w' a n L ∧ n ≤ c ∧ c ≤ 9223372036854775807 ∧ Below w.heap.size w w') := by
    refine hP.mono ?_
    rintro e w' ⟨a, c, he, h1, h2, h3, h4⟩
    rw [← hn] at he h1 h2
    exact ⟨a, c, he, h1, h2, h3, h4⟩
  have HPN := Lib.hid hPn
  rw [← hn] at hbl
  clear hn hPn hP hbz hz
  by_cases h0 : n = 0
  · subst h0
    go_enter Tryd.func30, Tryd.ntmps30
    go_wp2_with fail
    refine HPN.out.mono ?_
    rintro e w1 ⟨a, c, rfl, hrl, hlc, hcm, hb1⟩
    have HD := Lib.hid hrl.dropLast
    have HB1 := Lib.hid hb1; clear hrl hb1
    cases a
    all_goals
      go_wp2_with (go_at_call 50; refine (join_any _ _ _ L.dropLast _ HD.out (by omega) HZ.out (by omega)).mono ?_; rintro e w2 ⟨rfl, hb2⟩; have HB2 := Lib.hid hb2; clear hb2)
      go_ret
      exact ⟨rfl, HB1.out.trans (HB2.out.mono HB1.out.size)⟩
  · obtain ⟨k, rfl⟩ : ∃ k, n = k + 1 := ⟨n - 1, by omega⟩
    clear h0
    go_enter Tryd.func30, Tryd.ntmps30
    go_wp2_with fail
    refine HPN.out.mono ?_
    rintro e w1 ⟨a, c, rfl, hrl, hlc, hcm, hb1⟩
    obtain ⟨b, off, rfl, _, _⟩ := hrl.2 0 (by omega)
    have HD := Lib.hid hrl.dropLast
    have HB1 := Lib.hid hb1; clear hrl hb1
    go_wp2_with (go_at_call 50; refine (join_any _ _ _ L.dropLast _ HD.out (by omega) HZ.out (by omega)).mono ?_; rintro e w2 ⟨rfl, hb2⟩; have HB2 := Lib.hid hb2; clear hb2)
    go_ret
    exact ⟨rfl, HB1.out.trans (HB2.out.mono HB1.out.size)⟩

set_option maxHeartbeats 1000000 in
theorem base_any (p : ByteArray) (m : Int) (w : World) (hp : p.size ≤ 10000000) (hm : w.cell? ⟨0, 0, none⟩ = some (.int .i64 m)) :
    Calls Tryd.prog 34 #[.string p] w (RetB (.string ⟨(baseF p.data.toList).toArray⟩) w) := by
  have hP := rootParts p m w hp hm
  obtain ⟨hbl, hbz⟩ := root_bounds p hp
  unfold baseF
  obtain ⟨L, hL⟩ : ∃ L, L = partsL [47] p.data.toList := ⟨_, rfl⟩
  rw [← hL] at hP hbl hbz ⊢
  clear hL
  obtain ⟨n, hn⟩ : ∃ n, n = L.length := ⟨_, rfl⟩
  have hPn : Calls Tryd.prog 24 #[.string ⟨#[47]⟩, .string p] w (fun e w' => ∃ a c, e = .returned (.slice a n c) ∧ ReadsL w' a n L ∧ n ≤ c ∧ c ≤ 9223372036854775807 ∧ Below w.heap.size w w') := by
    refine hP.mono ?_
    rintro e w' ⟨a, c, he, h1, h2, h3, h4⟩
    rw [← hn] at he h1 h2
    exact ⟨a, c, he, h1, h2, h3, h4⟩
  have HPN := Lib.hid hPn
  have HN := Lib.hid hn
  rw [← hn] at hbl
  clear hn hPn hP hbz
  by_cases h0 : n = 0
  · subst h0
    go_enter Tryd.func34, Tryd.ntmps34
    go_wp2_with fail
    refine HPN.out.mono ?_
    rintro e w1 ⟨a, c, rfl, hrl, hlc, hcm, hb1⟩
    have HB1 := Lib.hid hb1; clear hrl hb1
    go_wp2
    go_ret
    exact retB_str (s := ⟨#[]⟩) (by rw [List.eq_nil_of_length_eq_zero HN.out.symm]; rfl) HB1.out
  · obtain ⟨k, rfl⟩ : ∃ k, n = k + 1 := ⟨n - 1, by omega⟩
    clear h0
    go_enter Tryd.func34, Tryd.ntmps34
    go_wp2_with fail
    refine HPN.out.mono ?_
    rintro e w1 ⟨a, c, rfl, hrl, hlc, hcm, hb1⟩
    obtain ⟨b, off, rfl, _, hc0⟩ := hrl.2 k (by omega)
    obtain ⟨X, hX⟩ : ∃ X : ByteArray, X = ⟨(L.getD k []).toArray⟩ := ⟨_, rfl⟩
    have hcell : w1.cell? ⟨b, off + k, none⟩ = some (.string X) := by rw [hX]; exact hc0
    have hXd : X.data.toList = L.getLastD [] := by rw [getLast_at HN.out.symm, hX]
    have HX := Lib.hid hXd
    have HB1 := Lib.hid hb1; clear hrl hb1 hc0 hX hXd
    go_wp2
    go_ret
    exact retB_str HX.out.symm HB1.out

set_option maxHeartbeats 1000000 in
theorem refDir_any (p : ByteArray) (w : World) (hp : p.size ≤ 10000000) :
    Calls Tryd.prog 33 #[.string p] w (RetB (.string ⟨(dirF p.data.toList).toArray⟩) w) := by
  have hP := rootRefParts p w hp
  obtain ⟨hbl, hbz⟩ := root_bounds p hp
  unfold dirF
  obtain ⟨L, hL⟩ : ∃ L, L = partsL [47] p.data.toList := ⟨_, rfl⟩
  rw [← hL] at hP hbl hbz ⊢
  clear hL
  have hz := lens_dropLast L
  have HZ := Lib.hid (Nat.le_trans hz hbz)
  obtain ⟨n, hn⟩ : ∃ n, n = L.length := ⟨_, rfl⟩
  have hPn : Calls Tryd.prog 32 #[.string ⟨#[47]⟩, .string p] w (fun e w' => ∃ a c, e = .returned (.slice a n c) ∧ ReadsL w' a n L ∧ n ≤ c ∧ c ≤ 9223372036854775807 ∧ Below w.heap.size w w') := by
    refine hP.mono ?_
    rintro e w' ⟨a, c, he, h1, h2, h3, h4⟩
    rw [← hn] at he h1 h2
    exact ⟨a, c, he, h1, h2, h3, h4⟩
  have HPN := Lib.hid hPn
  rw [← hn] at hbl
  clear hn hPn hP hbz hz
  by_cases h0 : n = 0
  · subst h0
    go_enter Tryd.func33, Tryd.ntmps33
    go_wp2_with fail
    refine HPN.out.mono ?_
    rintro e w1 ⟨a, c, rfl, hrl, hlc, hcm, hb1⟩
    have HD := Lib.hid hrl.dropLast
    have HB1 := Lib.hid hb1; clear hrl hb1
    cases a
    all_goals
      go_wp2_with (go_at_call 23; refine (write_any _ _ _ L.dropLast _ HD.out (by omega) HZ.out).mono ?_; rintro e w2 ⟨rfl, rfl⟩; have HB2 := Lib.hid (Below.refl w1.heap.size w1))
      go_ret
      exact ⟨rfl, HB1.out.trans (HB2.out.mono HB1.out.size)⟩
  · obtain ⟨k, rfl⟩ : ∃ k, n = k + 1 := ⟨n - 1, by omega⟩
    clear h0
    go_enter Tryd.func33, Tryd.ntmps33
    go_wp2_with fail
    refine HPN.out.mono ?_
    rintro e w1 ⟨a, c, rfl, hrl, hlc, hcm, hb1⟩
    obtain ⟨b, off, rfl, _, _⟩ := hrl.2 0 (by omega)
    have HD := Lib.hid hrl.dropLast
    have HB1 := Lib.hid hb1; clear hrl hb1
    go_wp2_with (go_at_call 23; refine (write_any _ _ _ L.dropLast _ HD.out (by omega) HZ.out).mono ?_; rintro e w2 ⟨rfl, rfl⟩; have HB2 := Lib.hid (Below.refl w1.heap.size w1))
    go_ret
    exact ⟨rfl, HB1.out.trans (HB2.out.mono HB1.out.size)⟩

set_option maxHeartbeats 1000000 in
theorem refBase_any (p : ByteArray) (w : World) (hp : p.size ≤ 10000000) :
    Calls Tryd.prog 35 #[.string p] w (RetB (.string ⟨(baseF p.data.toList).toArray⟩) w) := by
  have hP := rootRefParts p w hp
  obtain ⟨hbl, hbz⟩ := root_bounds p hp
  unfold baseF
  obtain ⟨L, hL⟩ : ∃ L, L = partsL [47] p.data.toList := ⟨_, rfl⟩
  rw [← hL] at hP hbl hbz ⊢
  clear hL
  obtain ⟨n, hn⟩ : ∃ n, n = L.length := ⟨_, rfl⟩
  have hPn : Calls Tryd.prog 32 #[.string ⟨#[47]⟩, .string p] w (fun e w' => ∃ a c, e = .returned (.slice a n c) ∧ ReadsL w' a n L ∧ n ≤ c ∧ c ≤ 9223372036854775807 ∧ Below w.heap.size w w') := by
    refine hP.mono ?_
    rintro e w' ⟨a, c, he, h1, h2, h3, h4⟩
    rw [← hn] at he h1 h2
    exact ⟨a, c, he, h1, h2, h3, h4⟩
  have HPN := Lib.hid hPn
  have HN := Lib.hid hn
  rw [← hn] at hbl
  clear hn hPn hP hbz
  by_cases h0 : n = 0
  · subst h0
    go_enter Tryd.func35, Tryd.ntmps35
    go_wp2_with fail
    refine HPN.out.mono ?_
    rintro e w1 ⟨a, c, rfl, hrl, hlc, hcm, hb1⟩
    have HB1 := Lib.hid hb1; clear hrl hb1
    go_wp2
    go_ret
    exact retB_str (s := ⟨#[]⟩) (by rw [List.eq_nil_of_length_eq_zero HN.out.symm]; rfl) HB1.out
  · obtain ⟨k, rfl⟩ : ∃ k, n = k + 1 := ⟨n - 1, by omega⟩
    clear h0
    go_enter Tryd.func35, Tryd.ntmps35
    go_wp2_with fail
    refine HPN.out.mono ?_
    rintro e w1 ⟨a, c, rfl, hrl, hlc, hcm, hb1⟩
    obtain ⟨b, off, rfl, _, hc0⟩ := hrl.2 k (by omega)
    obtain ⟨X, hX⟩ : ∃ X : ByteArray, X = ⟨(L.getD k []).toArray⟩ := ⟨_, rfl⟩
    have hcell : w1.cell? ⟨b, off + k, none⟩ = some (.string X) := by rw [hX]; exact hc0
    have hXd : X.data.toList = L.getLastD [] := by rw [getLast_at HN.out.symm, hX]
    have HX := Lib.hid hXd
    have HB1 := Lib.hid hb1; clear hrl hb1 hc0 hX hXd
    go_wp2
    go_ret
    exact retB_str HX.out.symm HB1.out

end Go.Proofs.YtlaijghfcbjbpaaDoor
