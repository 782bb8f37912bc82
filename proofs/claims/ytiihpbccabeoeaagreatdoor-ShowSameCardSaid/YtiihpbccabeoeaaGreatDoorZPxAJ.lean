/-
  The document's own parser: scripts, however deep.
-/
import Derived.Test.YtiihpbccabeoeaaGreatDoorZPxAI
import Derived.Test.YtiihpbccabeoeaaGreatDoorZPkU
namespace Go.Proofs.YtiihpbccabeoeaaGreatDoor
open Go.RowKit
set_option linter.unusedVariables false
theorem QTPost.below {w w1 w' : World} {res : Except Nat (List Dt)} {e : Ending} (hk : Keeps (fun _ => False) w w1) (h : QTPost w1 w.heap.size res e w') : QSPost w res e w' := by
  cases res with
  | ok ds =>
    obtain ⟨a, m, c, he, hr, hk2⟩ := h
    exact ⟨a, m, c, he, hr, hk.trans hk2 (fun _ _ h => h)⟩
  | error x => exact ⟨h.1, hk.trans h.2 (fun _ _ h => h)⟩
theorem qscr_shape {w w' : World} {res : Except Nat (List Dt)} {e : Ending} (h : QSPost w res e w') : ∃ (a : Option Addr) (m c : Nat) (x : Nat), e = .returned (.tuple #[.slice a m c, .int .i64 (x : Nat)]) := by
  cases res with
  | ok ds => obtain ⟨a, m, c, he, _⟩ := h; exact ⟨a, m, c, 0, he⟩
  | error x => exact ⟨none, 0, 0, x, h.1⟩
set_option maxRecDepth 100000 in
set_option maxHeartbeats 4000000 in
theorem qscript_ok (K : Nat) (hcmd : QCmdOK K) : QScrOK K := by
  intro w s deep hs hd
  have HC := Lib.hid hcmd
  have HD := Lib.hid hd
  obtain ⟨res, hres⟩ : ∃ res, res = scriptF (commandF K) s := ⟨_, rfl⟩
  rw [← hres]
  unfold scriptF at hres
  have HRES := Lib.hid hres
  obtain ⟨S, hS⟩ : ∃ S : ByteArray, S = ⟨s.toArray⟩ := ⟨_, rfl⟩
  have hd2 : S.data.toList = s := by rw [hS]
  have hSs : S.size ≤ 140737488351232 := by rw [Lib.size_eq, hd2]; exact hs
  have HTK := Lib.hid (rtoks_any S w hSs)
  rw [hd2] at HTK
  rw [← hS]
  clear hcmd hd hres hS hd2 hSs hs
  go_enter Tryz.func20, Tryz.ntmps20
  go_wp2_with fail
  refine HTK.out.mono ?_
  intro e w1 hp
  cases htk : tokensF s with
  | error x =>
    rw [htk] at hp
    obtain ⟨h0, rfl, hk1⟩ := hp
    have HRX := Lib.hid (show res = .error x by rw [HRES.out, htk])
    have HK := Lib.hid hk1
    have hx : ((x : Int) != 0) = true := by
      rw [bne_iff_ne]
      omega
    clear hk1 htk
    go_wp2_with fail
    go_ret2
    rw [HRX.out]
    exact ⟨rfl, HK.out⟩
  | ok T =>
    rw [htk] at hp
    obtain ⟨v, rfl, hT, hlow, hk1⟩ := hp
    obtain ⟨n, hT⟩ := hT.reads hlow
    obtain ⟨ta, tc, rfl, _, _⟩ := hT.shape
    have HRX := Lib.hid (show res = treeF (commandF K) T by rw [HRES.out, htk])
    have HSM := Lib.hid (toks_small htk)
    have HK := Lib.hid hk1
    have HT := Lib.hid (show TksAt w1 (fun b => w.heap.size ≤ b ∧ b < w1.heap.size) n T _ from hT.mono fun b hb h => ⟨h, hb⟩)
    clear hk1 htk hT hlow
    go_wp2_with fail
    refine (qtree_any K HC.out w1 w.heap.size n deep _ T HT.out HK.out.size HSM.out HD.out).mono ?_
    intro e w2 hp
    rw [← HRX.out] at hp
    have hp2 := hp.below HK.out
    have HP := Lib.hid hp2
    obtain ⟨a, m, c, x, rfl⟩ := qscr_shape hp2
    clear hp hp2
    go_wp2_with fail
    go_ret2
    exact HP.out
theorem qcmd_all : ∀ K, QCmdOK K
  | 0 => qcommand_zero
  | K + 1 => qcommand_succ K (qcmd_all K) (qscript_ok K (qcmd_all K))
theorem qparse_any (w : World) (s : List UInt8) (hs : s.length ≤ 140737488351232) :
    Calls Tryz.prog 9 #[.string ⟨s.toArray⟩] w (QSPost w (parseF s)) := by
  obtain ⟨res, hres⟩ : ∃ res, res = parseF s := ⟨_, rfl⟩
  rw [← hres]
  have HRES := Lib.hid hres
  have HH := Lib.hid (qscript_ok 40 (qcmd_all 40) w s 1 hs rfl)
  clear hres
  go_enter Tryz.func9, Tryz.ntmps9
  go_wp2_with fail
  refine HH.out.mono ?_
  intro e w2 hp
  rw [show scriptF (commandF 40) s = res from HRES.out.symm] at hp
  have HP := Lib.hid hp
  obtain ⟨a, m, c, x, rfl⟩ := qscr_shape hp
  clear hp
  go_wp2_with fail
  go_ret2
  exact HP.out
end Go.Proofs.YtiihpbccabeoeaaGreatDoor
