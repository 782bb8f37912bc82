/-
  What show writes of pipelines and lists of commands.
-/
import Derived.Test.YtiihpbccabeoeaaGreatDoorZPsZ
namespace Go.Proofs.YtiihpbccabeoeaaGreatDoor
open Go.RowKit
set_option linter.unusedVariables false
theorem ownsKeep {w w' : World} {B T k n : Nat} {v : Value} {xs : List Value} (h : w.ownsRow B T k v n xs) (hk : Keeps (fun _ => False) w w') : w'.ownsRow B T k v n xs := by
  refine ⟨h.1, ?_⟩
  rcases h.2 with h0 | ⟨g, cap, cur, rfl, hb, hg, rest⟩
  · exact .inl h0
  · exact .inr ⟨g, cap, cur, rfl, hb, (hk.block g (Array.getElem?_eq_some_iff.1 hg).1 (fun h => h)).trans hg, rest⟩
theorem info_string : (Tryz.prog.info? 9).map (fun i => (i.zero, i.size, i.bytes)) = some (some (.string ⟨#[]⟩), 1, 16) := by kernel_rfl
def NodeSays (W : World) (s : ByteArray) (e : Ending) (w' : World) : Prop := e = .returned (.string s) ∧ Below W.heap.size W w'
set_option maxRecDepth 100000 in
set_option maxHeartbeats 4000000 in
theorem all0 (w : World) (D : Nat → Prop) (xs : List Ny) (outs : List ByteArray) (sep R : ByteArray) (A : Option Addr) (C : Nat) (hl : outs.length = xs.length) (ha : Rd w D (.sl 8 (xs.flatMap Ny.row)) (.slice A outs.length C))
    (hn : ∀ i (hi : i < xs.length) (ho : i < outs.length) (W : World) (wa : Option Addr) (wl wc : Nat) (ga : Option Addr) (gl gc : Nat) (ra : Option Addr) (rl rcp : Nat) (ka : Option Addr) (kl kc : Nat) (aa : Option Addr) (al ac : Nat), Keeps (fun _ => False) w W → NyR W D xs[i] wa wl wc ga gl gc ra rl rcp ka kl kc aa al ac → Calls Tryz.prog 34 #[.agg #[.int .i64 xs[i].kind, .bool xs[i].nt, .string ⟨xs[i].nm.toArray⟩, .slice wa wl wc, .slice ga gl gc, .slice ra rl rcp, .slice ka kl kc, .slice aa al ac]] W (NodeSays W outs[i]))
    (hL : outs.length ≤ 1000) (h0 : 0 < outs.length) (hR : (Lib.join (outs.map (·.data.toList)) sep.data.toList) = R.data.toList) (hlen : R.size ≤ 100000) :
    Calls Tryz.prog 21 #[.slice A outs.length C, .string sep] w (NodeSays w R) := by
  obtain ⟨i0, hi, hz0, hz1, hz2⟩ := info_parts info_string
  have hc8 := cells_node
  obtain ⟨L, hLe⟩ : ∃ L, L = outs.length := ⟨_, rfl⟩
  have HLE := Lib.hid hLe
  have HXL := Lib.hid hl
  have HA := Lib.hid ha
  have HN := Lib.hid hn
  have HR := Lib.hid hR
  rw [← hLe] at HA hL h0
  rw [← hLe]
  obtain ⟨B, hB⟩ : ∃ B, B = w.heap.size := ⟨_, rfl⟩
  have HBE := Lib.hid hB
  clear ha hn hR hLe hl hB
  go_enter Tryz.func21, Tryz.ntmps21
  go_wp2_with fail
  go_loopw [5, 10] (fun sl k' wr => ∃ k : Nat, k' = .int .i64 k ∧ k ≤ L ∧ Hid (wr.ownsRow B 9 1 sl k ((outs.take k).map .string)) ∧ Hid (Below w.heap.size w wr)) (fun _ k' _ => L - (intOf k').toNat)
  case atStart => exact ⟨0, rfl, Nat.zero_le _, Lib.hid (World.ownsRow_nil _ _ _ _), Lib.hid (Below.refl _ _)⟩
  case round =>
    obtain ⟨k, rfl, hk, HO, HB⟩ := hrel
    by_cases hlt : k < L
    · have hl2 : k < xs.length := by have := HLE.out; have := HXL.out; omega
      have hl3 : k < outs.length := by rw [← HLE.out]; exact hlt
      obtain ⟨g, o, wa, wl, wc, ga, gl, gc, ra, rl, rcp, ka, kl, kc, aa, al, ac, rfl, hg, ⟨q0, q1, q2, q3, q4, q5, q6, q7⟩, hx⟩ := nodesAt2 (rdKeep0 HA.out (keep0_below HB.out)) hl2
      have HC := Lib.hid (fun W (hw : Keeps (fun _ => False) wr W) => HN.out k hl2 hl3 W _ _ _ _ _ _ _ _ _ _ _ _ _ _ _ ((keep0_below HB.out).trans hw (fun _ _ s => s)) (hx.keep0 hw))
      obtain ⟨x, hxe⟩ : ∃ x, x = xs[k] := ⟨_, rfl⟩
      obtain ⟨S, hS⟩ : ∃ S, S = outs[k] := ⟨_, rfl⟩
      rw [← hxe, ← hS] at HC
      rw [← hxe] at q0 q1 q2
      have HSN := Lib.hid (show (outs.take (k + 1)).map Value.string = (outs.take k).map Value.string ++ [.string S] by rw [List.take_succ_eq_append_getElem hl3, List.map_append, hS]; rfl)
      obtain ⟨kx, hkx⟩ : ∃ l, l = x.kind := ⟨_, rfl⟩
      obtain ⟨tx, htx⟩ : ∃ l, l = x.nt := ⟨_, rfl⟩
      obtain ⟨nx, hnx⟩ : ∃ l : ByteArray, l = ⟨x.nm.toArray⟩ := ⟨_, rfl⟩
      rw [← hkx, ← htx, ← hnx] at HC
      rw [← hkx] at q0
      rw [← htx] at q1
      rw [← hnx] at q2
      have p1 : (k : Int) < (L : Int) := by omega
      clear hx hxe hS hkx htx hnx hl2
      go_wp2_with fail
      obtain ⟨W, hW⟩ : ∃ W, W = wr.alloc (.cells #[.int .i64 kx, .bool tx, .string nx, .slice wa wl wc, .slice ga gl gc, .slice ra rl rcp, .slice ka kl kc, .slice aa al ac] 44) := ⟨_, rfl⟩
      rw [← hW]
      have hkW : Keeps (fun _ => False) wr W := by rw [hW]; exact (Keeps.refl _ _).alloc _
      have hsz := HB.out.size
      have hbe := HBE.out
      have hbW : Below w.heap.size w W := by rw [hW]; exact HB.out.alloc (by omega) _
      refine (HC.out W hkW).mono ?_
      rintro e w2 ⟨rfl, hb2⟩
      have hown2 := ownsKeep (ownsKeep HO.out hkW) (keep0_below hb2)
      have hb3 := hbW.trans (hb2.mono (by have := hkW.size; omega))
      have HB2 := Lib.hid hb3
      have hs2 := hb3.size
      clear hkW hbW hb2 hb3 hW
      go_wp2_with (at_builtin; refine wpList_append_own _ rfl _ _ 47 rfl B 9 i0 (.string ⟨#[]⟩) 1 16 Tryz.underlying47 hi hz0 hz1 hz2 rfl (by decide) _ _ _ rfl (hown2.alloc _) ⟨w2.heap.size, 0, none⟩ 1 1 [.string S] rfl rfl ?c1 ?c2 ?c3 ?c4 ?c5 ?_)
      case c1 =>
        intro j u hj
        match j, hj with
        | 0, hj => simp at hj; subst hj; simp [Addr.add]
      case c2 => intro u hu; simp at hu; subst hu; rfl
      case c3 => unfold maxLen; omega
      case c4 => omega
      case c5 => simp; omega
      intro v' w3 hown' hgrow _
      have HB3 := Lib.hid ((HB2.out.alloc (by omega) _).grown hgrow (by simp; omega) (fun k hk => by have := (hown2.lt k hk).1; omega))
      have HO3 := Lib.hid hown'
      clear hown' hgrow hown2
      go_wp2_with fail
      go_roundw
      case rel => exact ⟨k + 1, by go_num, by omega, Lib.hid (by rw [HSN.out, List.map_take, HBE.out]; exact HO3.out), HB3⟩
      case measure => simp [intOf]; omega
    · obtain rfl : k = L := by omega
      have p1 : ¬ (k : Int) < (k : Int) := by omega
      obtain ⟨g, cap, cur, rfl, hbg, hg, hcap, hcm, hcs, htake⟩ := HO.out.2.resolve_left (fun h => by omega)
      have hcells : ∀ (j : Nat) x, outs[j]? = some x → wr.cell? ⟨g, 0 + j, none⟩ = some (.string x) := fun j x hj => by
        have h9 := HO.out.cells (g := g) rfl j (.string x) (by rw [List.take_of_length_le (by rw [← HLE.out]; exact Nat.le_refl _), List.getElem?_map, hj]; rfl)
        have e9 : (⟨g, 0, none⟩ : Addr).add j = ⟨g, 0 + j, none⟩ := by
          cases j with
          | zero => rfl
          | succ j => simp [Addr.add]
        rw [e9] at h9
        exact h9
      have hJ := Tryz.strings_Join g 0 cap outs sep wr hcells (Array.getElem?_eq_some_iff.1 hg).1 (by rw [← HLE.out]; omega) (by rw [← HLE.out]; exact hcap) (by rw [HR.out, ← Lib.size_eq]; omega)
      rw [HR.out, ← HLE.out, show (⟨R.data.toList.toArray⟩ : ByteArray) = R from rfl] at hJ
      have HJ := Lib.hid hJ
      clear hJ hcells hbg hg hcap hcm hcs htake
      go_wp2_with fail
      refine HJ.out.mono ?_
      rintro e w2 ⟨rfl, hb2⟩
      have HB2 := Lib.hid (HB.out.trans (hb2.mono HB.out.size))
      clear hb2
      go_wp2_with fail
      go_ret
      exact ⟨rfl, HB2.out⟩
set_option maxRecDepth 100000 in
set_option maxHeartbeats 4000000 in
theorem barePipe (w : World)  (nx S : ByteArray) (wa : Option Addr) (wl wc : Nat) (ga : Option Addr) (gl gc : Nat) (ra : Option Addr) (rl rcp : Nat) (ka : Option Addr) (kl kc : Nat) (aa : Option Addr) (al ac : Nat)
    (hall : ∀ W, Keeps (fun _ => False) w W → Calls Tryz.prog 21 #[.slice ka kl kc, .string ⟨#[32, 124, 32]⟩] W (NodeSays W S)) :
    Calls Tryz.prog 66 #[.agg #[.int .i64 2, .bool false, .string nx, .slice wa wl wc, .slice ga gl gc, .slice ra rl rcp, .slice ka kl kc, .slice aa al ac]] w (NodeSays w S) := by
  have HC := Lib.hid hall
  clear hall
  obtain ⟨W, hW⟩ : ∃ W, W = w.alloc (.cells #[.int .i64 2, .bool false, .string nx, .slice wa wl wc, .slice ga gl gc, .slice ra rl rcp, .slice ka kl kc, .slice aa al ac] 44) := ⟨_, rfl⟩
  have hkW : Keeps (fun _ => False) w W := by rw [hW]; exact (Keeps.refl _ _).alloc _
  have HBW := Lib.hid (show Below w.heap.size w W by rw [hW]; exact (Below.refl _ _).alloc (Nat.le_refl _) _)
  have HRC := Lib.hid (show RecAt W w.heap.size [.int .i64 2, .bool false, .string nx, .slice wa wl wc, .slice ga gl gc, .slice ra rl rcp, .slice ka kl kc, .slice aa al ac] by rw [hW]; exact new_rec8 w _ _ _ _ _ _ _ _ _)
  have HWE := Lib.hid hW
  have HKW := Lib.hid hkW
  clear hW hkW
  go_enter Tryz.func66, Tryz.ntmps66
  go_upto_region 1 with fail
  rw [← HWE.out]
  obtain ⟨⟨x0, x1, x2, x3, x4, x5, x6, x7⟩, _⟩ := HRC.out.eight
  have lx := HRC.out.lt
  go_wp2_with fail
  refine (HC.out W HKW.out).mono ?_
  rintro e w2 ⟨rfl, hb2⟩
  obtain ⟨⟨x0, x1, x2, x3, x4, x5, x6, x7⟩, _⟩ := (HRC.out.keep (S := fun _ => False) (keep0_below hb2) (fun h => h)).eight
  have lx := (HRC.out.keep (S := fun _ => False) (keep0_below hb2) (fun h => h)).lt
  have HB2 := Lib.hid (HBW.out.trans (hb2.mono HBW.out.size))
  clear hb2
  go_wp2_with fail
  go_ret
  exact ⟨rfl, HB2.out⟩
set_option maxRecDepth 100000 in
set_option maxHeartbeats 4000000 in
theorem bareAnd (w : World) (tx : Bool) (nx S : ByteArray) (wa : Option Addr) (wl wc : Nat) (ga : Option Addr) (gl gc : Nat) (ra : Option Addr) (rl rcp : Nat) (ka : Option Addr) (kl kc : Nat) (aa : Option Addr) (al ac : Nat)
    (hall : ∀ W, Keeps (fun _ => False) w W → Calls Tryz.prog 21 #[.slice ka kl kc, .string ⟨#[32, 38, 38, 32]⟩] W (NodeSays W S)) :
    Calls Tryz.prog 66 #[.agg #[.int .i64 3, .bool tx, .string nx, .slice wa wl wc, .slice ga gl gc, .slice ra rl rcp, .slice ka kl kc, .slice aa al ac]] w (NodeSays w S) := by
  have HC := Lib.hid hall
  clear hall
  obtain ⟨W, hW⟩ : ∃ W, W = w.alloc (.cells #[.int .i64 3, .bool tx, .string nx, .slice wa wl wc, .slice ga gl gc, .slice ra rl rcp, .slice ka kl kc, .slice aa al ac] 44) := ⟨_, rfl⟩
  have hkW : Keeps (fun _ => False) w W := by rw [hW]; exact (Keeps.refl _ _).alloc _
  have HBW := Lib.hid (show Below w.heap.size w W by rw [hW]; exact (Below.refl _ _).alloc (Nat.le_refl _) _)
  have HRC := Lib.hid (show RecAt W w.heap.size [.int .i64 3, .bool tx, .string nx, .slice wa wl wc, .slice ga gl gc, .slice ra rl rcp, .slice ka kl kc, .slice aa al ac] by rw [hW]; exact new_rec8 w _ _ _ _ _ _ _ _ _)
  have HWE := Lib.hid hW
  have HKW := Lib.hid hkW
  clear hW hkW
  go_enter Tryz.func66, Tryz.ntmps66
  go_upto_region 1 with fail
  rw [← HWE.out]
  obtain ⟨⟨x0, x1, x2, x3, x4, x5, x6, x7⟩, _⟩ := HRC.out.eight
  have lx := HRC.out.lt
  go_wp2_with fail
  refine (HC.out W HKW.out).mono ?_
  rintro e w2 ⟨rfl, hb2⟩
  skip
  have HB2 := Lib.hid (HBW.out.trans (hb2.mono HBW.out.size))
  clear hb2
  go_wp2_with fail
  go_ret
  exact ⟨rfl, HB2.out⟩
set_option maxRecDepth 100000 in
set_option maxHeartbeats 4000000 in
theorem nodeSimple (w : World) (tx : Bool) (nx S : ByteArray) (wa : Option Addr) (wl wc : Nat) (ga : Option Addr) (gl gc : Nat) (ra : Option Addr) (rl rcp : Nat) (ka : Option Addr) (kl kc : Nat) (aa : Option Addr) (al ac : Nat)
    (hs : ∀ W, Keeps (fun _ => False) w W → Calls Tryz.prog 64 #[.agg #[.int .i64 1, .bool tx, .string nx, .slice wa wl wc, .slice ga gl gc, .slice ra rl rcp, .slice ka kl kc, .slice aa al ac]] W (NodeSays W S)) :
    Calls Tryz.prog 34 #[.agg #[.int .i64 1, .bool tx, .string nx, .slice wa wl wc, .slice ga gl gc, .slice ra rl rcp, .slice ka kl kc, .slice aa al ac]] w (NodeSays w S) := by
  have HC := Lib.hid hs
  clear hs
  obtain ⟨W, hW⟩ : ∃ W, W = w.alloc (.cells #[.int .i64 1, .bool tx, .string nx, .slice wa wl wc, .slice ga gl gc, .slice ra rl rcp, .slice ka kl kc, .slice aa al ac] 44) := ⟨_, rfl⟩
  have hkW : Keeps (fun _ => False) w W := by rw [hW]; exact (Keeps.refl _ _).alloc _
  have HBW := Lib.hid (show Below w.heap.size w W by rw [hW]; exact (Below.refl _ _).alloc (Nat.le_refl _) _)
  have HRC := Lib.hid (show RecAt W w.heap.size [.int .i64 1, .bool tx, .string nx, .slice wa wl wc, .slice ga gl gc, .slice ra rl rcp, .slice ka kl kc, .slice aa al ac] by rw [hW]; exact new_rec8 w _ _ _ _ _ _ _ _ _)
  have HWE := Lib.hid hW
  have HKW := Lib.hid hkW
  clear hW hkW
  go_enter Tryz.func34, Tryz.ntmps34
  go_upto_region 1 with fail
  rw [← HWE.out]
  obtain ⟨⟨x0, x1, x2, x3, x4, x5, x6, x7⟩, _⟩ := HRC.out.eight
  have lx := HRC.out.lt
  go_wp2_with fail
  refine (HC.out W HKW.out).mono ?_
  rintro e w2 ⟨rfl, hb2⟩
  have HB2 := Lib.hid (HBW.out.trans (hb2.mono HBW.out.size))
  clear hb2
  go_wp2_with fail
  go_ret
  exact ⟨rfl, HB2.out⟩
set_option maxRecDepth 100000 in
set_option maxHeartbeats 4000000 in
theorem nodeOp (w : World) (kx : Int) (hk : kx ≠ 1) (tx : Bool) (nx S S2 : ByteArray) (wa : Option Addr) (wl wc : Nat) (ga : Option Addr) (gl gc : Nat) (ra : Option Addr) (rl rcp : Nat) (ka : Option Addr) (kl kc : Nat) (aa : Option Addr) (al ac : Nat) (hrl : rl = 0) (hSs : S.size ≤ 100000) (hS2 : Lib.trimSuffix (S.data.toList ++ [32]) [32] = S2.data.toList)
    (hs : ∀ W, Keeps (fun _ => False) w W → Calls Tryz.prog 66 #[.agg #[.int .i64 kx, .bool tx, .string nx, .slice wa wl wc, .slice ga gl gc, .slice ra rl rcp, .slice ka kl kc, .slice aa al ac]] W (NodeSays W S)) :
    Calls Tryz.prog 34 #[.agg #[.int .i64 kx, .bool tx, .string nx, .slice wa wl wc, .slice ga gl gc, .slice ra rl rcp, .slice ka kl kc, .slice aa al ac]] w (NodeSays w S2) := by
  subst hrl
  have t0 : (kx == 1) = false := by rw [beq_eq_false_iff_ne]; exact hk
  have HC := Lib.hid hs
  have hq1 : (⟨#[32]⟩ : ByteArray).size = 1 := rfl
  have hq2 : (⟨#[]⟩ : ByteArray).size = 0 := rfl
  have hT := fun w => Tryz.strings_TrimSuffix (S ++ ⟨#[32]⟩ ++ ⟨#[]⟩) ⟨#[32]⟩ w (by simp [ByteArray.size_append, hq1, hq2]; omega)
  rw [show (S ++ ⟨#[32]⟩ ++ ⟨#[]⟩ : ByteArray).data.toList = S.data.toList ++ [32] by simp, show (⟨#[32]⟩ : ByteArray).data.toList = [32] from rfl, hS2, show (⟨S2.data.toList.toArray⟩ : ByteArray) = S2 from rfl] at hT
  have HT := Lib.hid hT
  clear hs hT hS2 hk
  obtain ⟨W, hW⟩ : ∃ W, W = w.alloc (.cells #[.int .i64 kx, .bool tx, .string nx, .slice wa wl wc, .slice ga gl gc, .slice ra 0 rcp, .slice ka kl kc, .slice aa al ac] 44) := ⟨_, rfl⟩
  have hkW : Keeps (fun _ => False) w W := by rw [hW]; exact (Keeps.refl _ _).alloc _
  have HBW := Lib.hid (show Below w.heap.size w W by rw [hW]; exact (Below.refl _ _).alloc (Nat.le_refl _) _)
  have HRC := Lib.hid (show RecAt W w.heap.size [.int .i64 kx, .bool tx, .string nx, .slice wa wl wc, .slice ga gl gc, .slice ra 0 rcp, .slice ka kl kc, .slice aa al ac] by rw [hW]; exact new_rec8 w _ _ _ _ _ _ _ _ _)
  have HWE := Lib.hid hW
  have HKW := Lib.hid hkW
  clear hW hkW
  go_enter Tryz.func34, Tryz.ntmps34
  go_upto_region 1 with fail
  rw [← HWE.out]
  obtain ⟨⟨x0, x1, x2, x3, x4, x5, x6, x7⟩, _⟩ := HRC.out.eight
  have lx := HRC.out.lt
  go_wp2_with fail
  go_region_with (first
    | (go_at_call 66; refine (HC.out W.drew (HKW.out.trans ((Keeps.refl (fun _ => False) W).drew) (fun _ _ h => h))).mono ?_; rintro e w2 ⟨rfl, hb2⟩; have hk2 := ((Keeps.refl (fun _ => False) W).drew).trans (keep0_below hb2) (fun _ _ h => h); have HB2 := Lib.hid (HBW.out.trans ((Below.drew (Below.refl w.heap.size W)).trans (hb2.mono HBW.out.size))); obtain ⟨⟨x0, x1, x2, x3, x4, x5, x6, x7⟩, _⟩ := (HRC.out.keep hk2 (fun h => h)).eight; have lx := (HRC.out.keep hk2 (fun h => h)).lt; clear hb2 hk2)
    | (go_at_call 67; refine (redirs0 _ _ _).mono ?_; rintro e w3 ⟨rfl, rfl⟩)
    | (go_at_call 65; refine (HT.out _).mono ?_; rintro e w3 ⟨rfl, rfl⟩))
  all_goals (
    go_wp2_with fail
    go_ret
    exact ⟨rfl, HB2.out⟩)
end Go.Proofs.YtiihpbccabeoeaaGreatDoor
