/-
  ShowSame's walk.
-/
import Derived.Test.YtiihpbccabeoeaaGreatDoorZPsU
import Derived.Test.YtiihpbccabeoeaaGreatDoorZPsS
import Derived.Test.YtiihpbccabeoeaaGreatDoorZPsE
import Derived.Test.YtiihpbccabeoeaaGreatDoorZPxAJ
import Derived.Test.YtiihpbccabeoeaaGreatDoorZPsR
namespace Go.Proofs.YtiihpbccabeoeaaGreatDoor
open Go.RowKit
set_option linter.unusedVariables false
theorem maxLen10 (w : World) (h : w.ShapedOpen Tryz.prog) : ∃ m, w.cell? ⟨0, 0, none⟩ = some (.int .i64 m) := Go.Proofs.cell_of_shapedOpen_int (zero := #[.int .i64 0]) (t := 3) h (of_decide_eq_true (by kernel_rfl)) (by kernel_rfl) rfl (by kernel_rfl) (by kernel_rfl) Tryz.underlying3
theorem keeps_below0 {a b : World} (h : Keeps (fun _ => False) a b) : Below a.heap.size a b := (h.mono (T := fun x => a.heap.size ≤ x) fun x _ s => s.elim).below (Nat.le_refl _)
def NdAt (w : World) (n : Nat) (ds : List Dt) (a : Option Addr) (m c : Nat) : Prop := NodesD n ds ∧ Rd w (fun _ => True) (.sl 8 ds) (.slice a m c)
theorem NdAt.keep0 {w w' : World} {n : Nat} {ds : List Dt} {a : Option Addr} {m c : Nat} (h : NdAt w n ds a m c) (hk : Keeps (fun _ => False) w w') : NdAt w' n ds a m c := ⟨h.1, rdKeep0 h.2 hk⟩
theorem same_ask {w : World} {n k : Nat} {ds es : List Dt} {a b : Option Addr} {m c m' c' : Nat} (h : NdAt w n ds a m c) (g : NdAt w k es b m' c') : Calls Tryz.prog 11 #[.slice a m c, .slice b m' c'] w (SamePost w (ds = es)) := same_allx (n + 1) n k (Nat.lt_succ_self _) w _ _ ds es a b m c m' c' h.1 g.1 h.2 g.2
theorem show_ask {w : World} {n k : Nat} {ds es : List Dt} {a b : Option Addr} {m c m' c' : Nat} (h : NdAt w n ds a m c) (g : NdAt w k es b m' c') : Calls Tryz.prog 15 #[.slice a m c, .slice b m' c'] w (SamePost w (ds = es)) := show_all (n + 1) n k (Nat.lt_succ_self _) w _ _ ds es a b m c m' c' h.1 g.1 h.2 g.2
def ScrAt (w : World) (e : Ending) (w' : World) : Prop := ∃ (a : Option Addr) (m c x n : Nat) (ds : List Dt), e = .returned (.tuple #[.slice a m c, .int .i64 (x : Nat)]) ∧ NdAt w' n ds a m c ∧ Keeps (fun _ => False) w w'
theorem scr_any (w : World) (S : ByteArray) (hs : S.size ≤ 140737488351232) : Calls Tryz.prog 9 #[.string S] w (ScrAt w) := by
  have h := qparse_any w S.data.toList (by rw [← Lib.size_eq]; exact hs)
  rw [show (⟨S.data.toList.toArray⟩ : ByteArray) = S from rfl] at h
  refine h.mono fun e w' hp => ?_
  cases hr : parseF S.data.toList with
  | error x =>
    rw [hr] at hp
    exact ⟨none, 0, 0, x, 0, [], hp.1, ⟨rfl, .nil _ _ _ (Nat.zero_le _)⟩, hp.2⟩
  | ok ds =>
    rw [hr] at hp
    obtain ⟨a, m, c, he, hrd, hk⟩ := hp
    obtain ⟨n, hn⟩ := parse_good hr
    exact ⟨a, m, c, 0, n, ds, he, ⟨hn, hrd.mono fun _ _ _ => trivial⟩, hk⟩
set_option maxRecDepth 100000 in
set_option maxHeartbeats 4000000 in
theorem alive10 (m : Int) (w : World) (hm : w.cell? ⟨0, 0, none⟩ = some (.int .i64 m)) :
    Calls Tryz.prog 8 #[] w fun e w' => e = .returned (.bool true) ∧ Keeps (fun _ => False) w w' := by
  obtain ⟨n, hn⟩ := parse_good ex_parse
  obtain ⟨S, hS⟩ : ∃ S : ByteArray, S = ⟨exS.toArray⟩ := ⟨_, rfl⟩
  have hQ : ∀ W, Calls Tryz.prog 9 #[.string S] W fun e w' => ∃ (a : Option Addr) (c : Nat), e = .returned (.tuple #[.slice a 1 c, .int .i64 0]) ∧ NdAt w' n exT a 1 c ∧ Keeps (fun _ => False) W w' := fun W => by
    have h := qparse_any W exS (by decide)
    rw [ex_parse, ← hS] at h
    refine h.mono fun e w' hp => ?_
    obtain ⟨a, m, c, he, hrd, hk⟩ := hp
    have hm1 : m = 1 := (rdRecs (k := 8) (f := Ny.row) (xs := [exAnd]) (fun _ => rfl) (by decide) hrd).1
    subst hm1
    exact ⟨a, c, he, ⟨hn, hrd.mono fun _ _ _ => trivial⟩, hk⟩
  have HQ := Lib.hid hQ
  have hlit : (⟨#[97, 32, 39, 98, 32, 99, 39, 32, 124, 32, 100, 32, 38, 38, 32, 101]⟩ : ByteArray) = S := by rw [hS]; rfl
  have hQ0 := hQ
  rw [← hlit] at hQ0
  have HQ0 := Lib.hid hQ0
  have HSC := Lib.hid (show ∀ (W : World) (a : Option Addr) (c : Nat), NdAt W n exT a 1 c → Keeps (fun _ => False) w W → Calls Tryz.prog 10 #[.slice a 1 c] W (NodeSays W S) from fun W a c h hk => by
    rw [hS]; exact ex_script m W _ a 1 c h.2 (cellKeep hm hk (cellLt hm)))
  have HNE := Lib.hid (show exT ≠ [] from fun h => by have := congrArg List.length h; cases this)
  clear hQ hQ0 hlit hS hm
  obtain ⟨ds, hds⟩ : ∃ ds, ds = exT := ⟨_, rfl⟩
  rw [← hds] at HQ HQ0 HSC HNE
  clear hds hn
  go_enter Tryz.func8, Tryz.ntmps8
  go_wp2_with fail
  refine (HQ0.out w).mono ?_
  rintro e w1 ⟨a, c, rfl, ha, hk1⟩
  have HA := Lib.hid ha
  have HK1 := Lib.hid hk1
  clear ha hk1
  go_wp2_with fail
  refine (HSC.out w1 a c HA.out HK1.out).mono ?_
  rintro e w2 ⟨rfl, hb2⟩
  have hk2 := keep0_below hb2
  replace HA := Lib.hid (HA.out.keep0 hk2)
  have HK2 := Lib.hid (HK1.out.trans hk2 (fun _ _ h => h))
  clear hb2 hk2
  go_wp2_with fail
  refine (HQ.out w2).mono ?_
  rintro e w3 ⟨b, c', rfl, hb, hk3⟩
  have HB := Lib.hid hb
  replace HA := Lib.hid (HA.out.keep0 hk3)
  have HK3 := Lib.hid (HK2.out.trans hk3 (fun _ _ h => h))
  clear hb hk3
  go_wp2_with fail
  refine (same_ask HA.out HB.out).mono ?_
  rintro e w4 ⟨r, rfl, hr, hk4⟩
  obtain rfl : r = true := hr.2 rfl
  replace HA := Lib.hid (HA.out.keep0 hk4)
  replace HB := Lib.hid (HB.out.keep0 hk4)
  have HK4 := Lib.hid (HK3.out.trans hk4 (fun _ _ h => h))
  clear hr hk4
  go_wp2_with fail
  refine (show_ask HA.out HB.out).mono ?_
  rintro e w5 ⟨r, rfl, hr, hk5⟩
  obtain rfl : r = true := hr.2 rfl
  replace HA := Lib.hid (HA.out.keep0 hk5)
  have HK5 := Lib.hid (HK4.out.trans hk5 (fun _ _ h => h))
  clear hr hk5
  go_wp2_with fail
  refine (show_ask HA.out (show NdAt w5 0 [] none 0 0 from ⟨rfl, .nil _ _ _ (Nat.zero_le _)⟩)).mono ?_
  rintro e w6 ⟨r, rfl, hr, hk6⟩
  obtain rfl : r = false := by
    cases r with
    | false => rfl
    | true => exact absurd (hr.1 rfl) HNE.out
  have HK6 := Lib.hid (HK5.out.trans hk6 (fun _ _ h => h))
  clear hr hk6
  go_wp2_with fail
  go_ret
  exact ⟨rfl, HK6.out⟩
set_option maxRecDepth 100000 in
set_option maxHeartbeats 4000000 in
theorem showSame_walk (a0 a1 : ByteArray) (a2 : Option Addr) (n2 c2 : Nat) (k2 : Nat) (ds : List Dt) (a3 : Option Addr) (n3 c3 : Nat) (k3 : Nat) (es : List Dt) (w : World) (h0 : a0.size ≤ 140737488351232) (h1 : a1.size ≤ 140737488351232) (h2 : NdAt w k2 ds a2 n2 c2) (h3 : NdAt w k3 es a3 n3 c3) (hsh : w.ShapedOpen Tryz.prog) :
    Calls Tryz.prog 5 #[.string a0, .string a1, .slice a2 n2 c2, .slice a3 n3 c3] w fun e w' => e = .returned (.bool true) ∧ Below w.heap.size w w' := by
  obtain ⟨m, hm⟩ := maxLen10 w hsh
  have HAL := Lib.hid (alive10 m w hm)
  have HL := Lib.hid h2
  have HM := Lib.hid h3
  clear h2 h3 hm hsh
  rcases Nat.lt_or_ge 300 a0.size with hl0 | hl0
  · have p0 : (300 : Int) < (a0.size : Int) := by omega
    clear hl0
    go_enter Tryz.func5, Tryz.ntmps5
    go_wp2_with fail
    refine HAL.out.mono ?_
    rintro e w1 ⟨rfl, hk1⟩
    have HK1 := Lib.hid hk1
    clear hk1
    go_wp2_with fail
    go_ret
    exact ⟨rfl, keeps_below0 HK1.out⟩
  have p0 : ¬ (300 : Int) < (a0.size : Int) := by omega
  clear hl0
  rcases Nat.lt_or_ge 300 a1.size with hl1 | hl1
  · have p1 : (300 : Int) < (a1.size : Int) := by omega
    clear hl1
    go_enter Tryz.func5, Tryz.ntmps5
    go_wp2_with fail
    refine HAL.out.mono ?_
    rintro e w1 ⟨rfl, hk1⟩
    have HK1 := Lib.hid hk1
    clear hk1
    go_wp2_with fail
    go_ret
    exact ⟨rfl, keeps_below0 HK1.out⟩
  have p1 : ¬ (300 : Int) < (a1.size : Int) := by omega
  clear hl1
  rcases Nat.lt_or_ge 10 n2 with hl2 | hl2
  · have p2 : (10 : Int) < (n2 : Int) := by omega
    go_enter Tryz.func5, Tryz.ntmps5
    go_wp2_with fail
    refine HAL.out.mono ?_
    rintro e w1 ⟨rfl, hk1⟩
    have HK1 := Lib.hid hk1
    clear hk1
    go_wp2_with fail
    go_ret
    exact ⟨rfl, keeps_below0 HK1.out⟩
  have p2 : ¬ (10 : Int) < (n2 : Int) := by omega
  rcases Nat.lt_or_ge 10 n3 with hl3 | hl3
  · have p3 : (10 : Int) < (n3 : Int) := by omega
    go_enter Tryz.func5, Tryz.ntmps5
    go_wp2_with fail
    refine HAL.out.mono ?_
    rintro e w1 ⟨rfl, hk1⟩
    have HK1 := Lib.hid hk1
    clear hk1
    go_wp2_with fail
    go_ret
    exact ⟨rfl, keeps_below0 HK1.out⟩
  have p3 : ¬ (10 : Int) < (n3 : Int) := by omega
  go_enter Tryz.func5, Tryz.ntmps5
  go_wp2_with fail
  refine HAL.out.mono ?_
  rintro e w1 ⟨rfl, hk1⟩
  have HK1 := Lib.hid hk1
  clear hk1 HAL
  go_wp2_with fail
  refine (scr_any w1 a0 h0).mono ?_
  rintro e w2 ⟨xa, xm, xc, xe, xn, dx, rfl, hx, hk2⟩
  have HX := Lib.hid hx
  have HK2 := Lib.hid (HK1.out.trans hk2 (fun _ _ h => h))
  clear hx hk2
  go_wp2_with fail
  refine (scr_any w2 a1 h1).mono ?_
  rintro e w3 ⟨ya, ym, yc, ye, yn, dy, rfl, hy, hk3⟩
  replace HX := Lib.hid (HX.out.keep0 hk3)
  have HY := Lib.hid hy
  have HK3 := Lib.hid (HK2.out.trans hk3 (fun _ _ h => h))
  clear hy hk3
  replace HL := Lib.hid (HL.out.keep0 HK3.out)
  replace HM := Lib.hid (HM.out.keep0 HK3.out)
  go_wp2_with fail
  refine (show_ask HX.out HY.out).mono ?_
  rintro e w4 ⟨r4, rfl, hr4, hk4⟩
  replace HX := Lib.hid (HX.out.keep0 hk4)
  replace HY := Lib.hid (HY.out.keep0 hk4)
  replace HL := Lib.hid (HL.out.keep0 hk4)
  replace HM := Lib.hid (HM.out.keep0 hk4)
  have HK4 := Lib.hid (HK3.out.trans hk4 (fun _ _ h => h))
  clear hk4
  have HR4 := Lib.hid hr4
  clear hr4
  go_wp2_with fail
  refine (same_ask HX.out HY.out).mono ?_
  rintro e w5 ⟨r5, rfl, hr5, hk5⟩
  replace HX := Lib.hid (HX.out.keep0 hk5)
  replace HL := Lib.hid (HL.out.keep0 hk5)
  replace HM := Lib.hid (HM.out.keep0 hk5)
  have HK5 := Lib.hid (HK4.out.trans hk5 (fun _ _ h => h))
  clear hk5
  obtain rfl : r4 = r5 := (Bool.eq_iff_iff.2 (HR4.out.trans hr5.symm))
  clear hr5 HR4
  have t5 : (r4 == r4) = true := by simp
  go_wp2_with fail
  refine (show_ask HL.out HM.out).mono ?_
  rintro e w6 ⟨r6, rfl, hr6, hk6⟩
  replace HX := Lib.hid (HX.out.keep0 hk6)
  replace HL := Lib.hid (HL.out.keep0 hk6)
  replace HM := Lib.hid (HM.out.keep0 hk6)
  have HK6 := Lib.hid (HK5.out.trans hk6 (fun _ _ h => h))
  clear hk6
  have HR6 := Lib.hid hr6
  clear hr6
  go_wp2_with fail
  refine (same_ask HL.out HM.out).mono ?_
  rintro e w7 ⟨r7, rfl, hr7, hk7⟩
  replace HX := Lib.hid (HX.out.keep0 hk7)
  replace HL := Lib.hid (HL.out.keep0 hk7)
  have HK7 := Lib.hid (HK6.out.trans hk7 (fun _ _ h => h))
  clear hk7
  obtain rfl : r6 = r7 := (Bool.eq_iff_iff.2 (HR6.out.trans hr7.symm))
  clear hr7 HR6
  have t7 : (r6 == r6) = true := by simp
  go_wp2_with fail
  refine (show_ask HX.out HX.out).mono ?_
  rintro e w8 ⟨r8, rfl, hr8, hk8⟩
  replace HL := Lib.hid (HL.out.keep0 hk8)
  have HK8 := Lib.hid (HK7.out.trans hk8 (fun _ _ h => h))
  clear hk8
  obtain rfl : r8 = true := hr8.2 rfl
  clear hr8
  go_wp2_with fail
  refine (show_ask HL.out HL.out).mono ?_
  rintro e w9 ⟨r9, rfl, hr9, hk9⟩
  have HK9 := Lib.hid (HK8.out.trans hk9 (fun _ _ h => h))
  clear hk9
  obtain rfl : r9 = true := hr9.2 rfl
  clear hr9
  go_wp2_with fail
  go_ret
  exact ⟨rfl, keeps_below0 HK9.out⟩
end Go.Proofs.YtiihpbccabeoeaaGreatDoor
