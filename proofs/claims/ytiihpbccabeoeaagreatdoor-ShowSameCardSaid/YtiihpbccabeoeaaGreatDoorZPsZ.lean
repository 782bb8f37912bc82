/-
  What show writes of simple commands.
-/
import Derived.Test.YtiihpbccabeoeaaGreatDoorZPsY
import Derived.Test.YtiihpbccabeoeaaGreatDoorZPsC
namespace Go.Proofs.YtiihpbccabeoeaaGreatDoor
open Go.RowKit
set_option linter.unusedVariables false
def wordsS (vs : List (List Px)) : List UInt8 := vs.flatMap fun v => 32 :: outS v
def rowsP (vs : List (List Px)) : List (List Dt) := vs.map fun v => v.flatMap Px.row
theorem wordsS_snoc {vs : List (List Px)} {k : Nat} (h : k < vs.length) : wordsS (vs.take (k + 1)) = wordsS (vs.take k) ++ (32 :: outS vs[k]) := by
  unfold wordsS
  rw [List.take_succ_eq_append_getElem h, List.flatMap_append]
  simp
theorem wordsS_le (vs : List (List Px)) (k : Nat) : (wordsS (vs.take k)).length ≤ (wordsS vs).length := by
  have h : wordsS vs = wordsS (vs.take k) ++ wordsS (vs.drop k) := by
    unfold wordsS
    rw [← List.flatMap_append, List.take_append_drop]
  rw [h, List.length_append]
  omega
theorem keep0_below {a b : World} (h : Below a.heap.size a b) : Keeps (fun _ => False) a b := Keeps.of_below h _
set_option maxRecDepth 100000 in
set_option maxHeartbeats 4000000 in
theorem words0 (m : Int) (w : World) (D : Nat → Prop) (vs : List (List Px)) (a : Option Addr) (L c : Nat) (ha : Rd w D (.sl 1 ((rowsP vs).flatMap wdD)) (.slice a L c)) (hx : ∀ v ∈ vs, WordOKS v) (hm : w.cell? ⟨0, 0, none⟩ = some (.int .i64 m)) (hlen : (wordsS vs).length ≤ 100000) :
    Calls Tryz.prog 97 #[.slice a L c] w fun e w' => e = .returned (.string ⟨(wordsS vs).toArray⟩) ∧ Below w.heap.size w w' := by
  have hLb := rdBound (by decide) ha
  have HL := Lib.hid (show L = vs.length by have h := (rdRecs (k := 1) (fun _ => rfl) (by decide) ha).1; rw [h]; simp [rowsP])
  have HA := Lib.hid ha
  have HX := Lib.hid hx
  have HM := Lib.hid hm
  have hm0 := cellLt hm
  clear ha hx hm
  go_enter Tryz.func97, Tryz.ntmps97
  go_wp2_with fail
  go_loopw [3, 8] (fun sv k' wr => ∃ (k : Nat) (S : ByteArray), sv = .string S ∧ k' = .int .i64 k ∧ k ≤ L ∧ Hid (S.data.toList = wordsS (vs.take k)) ∧ Hid (Below w.heap.size w wr)) (fun _ k' _ => L - (intOf k').toNat)
  case atStart => exact ⟨0, ⟨#[]⟩, rfl, rfl, Nat.zero_le _, Lib.hid rfl, Lib.hid (Below.refl _ _)⟩
  case round =>
    obtain ⟨k, S, rfl, rfl, hk, HS, HB⟩ := hrel
    have hSs : S.size ≤ 100000 := by rw [Lib.size_eq, HS.out]; exact Nat.le_trans (wordsS_le vs k) hlen
    by_cases hlt : k < L
    · have hl2 : k < vs.length := by rw [← HL.out]; exact hlt
      have hl3 : k < (rowsP vs).length := by unfold rowsP; rw [List.length_map]; exact hl2
      obtain ⟨g, o, xa, xl, xc, rfl, hg, q0, hp⟩ := wordsAt (rdKeep0 HA.out (keep0_below HB.out)) hl3
      rw [show (rowsP vs)[k] = vs[k].flatMap Px.row by simp [rowsP]] at hp
      have hsn := wordsS_snoc hl2
      have hle := wordsS_le vs (k + 1)
      rw [hsn, List.length_append, List.length_cons] at hle
      obtain ⟨R, hR⟩ : ∃ R : ByteArray, R = ⟨(outS vs[k]).toArray⟩ := ⟨_, rfl⟩
      have hRl : R.data.toList = outS vs[k] := by rw [hR]
      have hRs : R.size ≤ 100000 := by rw [Lib.size_eq, hRl]; omega
      have hsum : S.size + (1 + R.size) ≤ 100000 := by rw [Lib.size_eq, Lib.size_eq, HS.out, hRl]; omega
      have hC := word0 m wr D vs[k] xa xl xc hp (HX.out _ (List.getElem_mem hl2)) (cellKeep HM.out (keep0_below HB.out) hm0) (Nat.lt_of_lt_of_le hm0 HB.out.size)
      rw [← hR] at hC
      have HC := Lib.hid hC
      have HSN := Lib.hid hsn
      have HR := Lib.hid hRl
      have p1 : (k : Int) < (L : Int) := by omega
      clear hp hC hsn hle hR hRl hl3
      go_wp2_with fail
      refine HC.out.mono ?_
      rintro e w2 ⟨rfl, hb2⟩
      have HB2 := Lib.hid (HB.out.trans (hb2.mono HB.out.size))
      clear hb2
      go_wp2_with fail
      go_roundw
      case rel => exact ⟨k + 1, _, rfl, by go_num, by omega, Lib.hid (by rw [HSN.out]; simp [HS.out, HR.out]), HB2⟩
      case measure => simp [intOf]; omega
    · obtain rfl : k = L := by omega
      have p1 : ¬ (k : Int) < (k : Int) := by omega
      have HSE := Lib.hid (show S = ⟨(wordsS vs).toArray⟩ by
        have h9 := HS.out
        rw [List.take_of_length_le (by rw [← HL.out]; exact Nat.le_refl _)] at h9
        rw [← h9])
      go_wp2_with fail
      go_ret
      exact ⟨by rw [← HSE.out]; rfl, HB.out⟩
theorem redirs0 (w : World) (a : Option Addr) (c : Nat) :
    Calls Tryz.prog 67 #[.slice a 0 c] w fun e w' => e = .returned (.string ⟨#[]⟩) ∧ w' = w := by
  go_enter Tryz.func67, Tryz.ntmps67
  go_wp2_with fail
  go_loopw [3, 8] (fun sv k' wr => sv = .string ⟨#[]⟩ ∧ k' = .int .i64 0 ∧ wr = w) (fun _ _ _ => 0)
  case atStart => exact ⟨rfl, rfl, rfl⟩
  case round =>
    obtain ⟨rfl, rfl, rfl⟩ := hrel
    go_wp2_with fail
    go_ret
    exact ⟨rfl, rfl⟩
def simpS (vs : List (List Px)) : List UInt8 := Lib.trimSuffix (Lib.trimPrefix (wordsS vs) [32]) [32]
theorem trimP_le (s p : List UInt8) : (Lib.trimPrefix s p).length ≤ s.length := by
  unfold Lib.trimPrefix
  split
  · rw [List.length_drop]; omega
  · exact Nat.le_refl _
set_option maxRecDepth 100000 in
set_option maxHeartbeats 4000000 in
theorem simple0 (m : Int) (w : World) (D : Nat → Prop) (x : Ny) (vs : List (List Px)) (wa : Option Addr) (wl wc : Nat) (ga : Option Addr) (gl gc : Nat) (ra : Option Addr) (rl rcp : Nat) (ka : Option Addr) (kl kc : Nat) (aa : Option Addr) (al ac : Nat) (ha : NyR w D x wa wl wc ga gl gc ra rl rcp ka kl kc aa al ac) (hws : x.ws = rowsP vs) (hgl : gl = 0) (hrl : rl = 0) (hx : ∀ v ∈ vs, WordOKS v) (hm : w.cell? ⟨0, 0, none⟩ = some (.int .i64 m)) (hlen : (wordsS vs).length ≤ 100000) :
    Calls Tryz.prog 64 #[.agg #[.int .i64 x.kind, .bool x.nt, .string ⟨x.nm.toArray⟩, .slice wa wl wc, .slice ga gl gc, .slice ra rl rcp, .slice ka kl kc, .slice aa al ac]] w fun e w' => e = .returned (.string ⟨(simpS vs).toArray⟩) ∧ Below w.heap.size w w' := by
  subst hgl hrl
  have haw := ha.ws
  rw [hws] at haw
  obtain ⟨kx, hkx⟩ : ∃ l, l = x.kind := ⟨_, rfl⟩
  obtain ⟨tx, htx⟩ : ∃ l, l = x.nt := ⟨_, rfl⟩
  obtain ⟨nx, hnx⟩ : ∃ l : ByteArray, l = ⟨x.nm.toArray⟩ := ⟨_, rfl⟩
  rw [← hkx, ← htx, ← hnx]
  obtain ⟨W, hW⟩ : ∃ W, W = w.alloc (.cells #[.int .i64 kx, .bool tx, .string nx, .slice wa wl wc, .slice ga 0 gc, .slice ra 0 rcp, .slice ka kl kc, .slice aa al ac] 44) := ⟨_, rfl⟩
  have hkW : Keeps (fun _ => False) w W := by rw [hW]; exact (Keeps.refl _ _).alloc _
  have hbW : Below w.heap.size w W := by rw [hW]; exact (Below.refl _ _).alloc (Nat.le_refl _) _
  have HRC := Lib.hid (show RecAt W w.heap.size [.int .i64 kx, .bool tx, .string nx, .slice wa wl wc, .slice ga 0 gc, .slice ra 0 rcp, .slice ka kl kc, .slice aa al ac] by rw [hW]; exact new_rec8 w _ _ _ _ _ _ _ _ _)
  obtain ⟨V, hV⟩ : ∃ V : ByteArray, V = ⟨(wordsS vs).toArray⟩ := ⟨_, rfl⟩
  have hVl : V.data.toList = wordsS vs := by rw [hV]
  have hC := words0 m W D vs wa wl wc (rdKeep0 haw hkW) hx (cellKeep hm hkW (cellLt hm)) hlen
  rw [← hV] at hC
  obtain ⟨V2, hV2⟩ : ∃ V2 : ByteArray, V2 = ⟨(Lib.trimPrefix (wordsS vs) [32]).toArray⟩ := ⟨_, rfl⟩
  have hV2l : V2.data.toList = Lib.trimPrefix (wordsS vs) [32] := by rw [hV2]
  have hV2s : V2.size ≤ 100000 := by rw [Lib.size_eq, hV2l]; exact Nat.le_trans (trimP_le _ _) hlen
  have hC2 := fun w => Tryz.strings_TrimPrefix V ⟨#[32]⟩ w
  rw [hVl, show (⟨#[32]⟩ : ByteArray).data.toList = [32] from rfl, ← hV2] at hC2
  have hem : (⟨#[]⟩ : ByteArray) ++ V2 = V2 := ByteArray.empty_append
  obtain ⟨V3, hV3⟩ : ∃ V3 : ByteArray, V3 = ⟨(simpS vs).toArray⟩ := ⟨_, rfl⟩
  have hC3 := fun w => Tryz.strings_TrimSuffix V2 ⟨#[32]⟩ w (by omega)
  rw [hV2l, show (⟨#[32]⟩ : ByteArray).data.toList = [32] from rfl, show (⟨(Lib.trimSuffix (Lib.trimPrefix (wordsS vs) [32]) [32]).toArray⟩ : ByteArray) = V3 from hV3.symm] at hC3
  rw [← hV3]
  have HC := Lib.hid hC
  have HC2 := Lib.hid hC2
  have HC3 := Lib.hid hC3
  have HBW := Lib.hid hbW
  have HWE := Lib.hid hW
  have HEM := Lib.hid hem
  clear ha haw hws hx hm hkx htx hnx hW hkW hbW hV hVl hC hV2 hV2l hC2 hV3 hC3 hem
  go_enter Tryz.func64, Tryz.ntmps64
  go_upto_region 1 with fail
  rw [← HWE.out]
  obtain ⟨⟨x0, x1, x2, x3, x4, x5, x6, x7⟩, _⟩ := HRC.out.eight
  have lx := HRC.out.lt
  go_wp2_with fail
  refine (redirs0 W _ _).mono ?_
  rintro e w1 ⟨rfl, hw1⟩
  rw [hw1]
  clear hw1
  go_wp2_with fail
  go_loopw [3, 13] (fun sv k' wr => sv = .string ⟨#[]⟩ ∧ k' = .int .i64 0 ∧ wr = W) (fun _ _ _ => 0)
  case atStart => exact ⟨rfl, rfl, rfl⟩
  case round =>
    obtain ⟨rfl, rfl, rfl⟩ := hrel
    go_wp2_with fail
    refine HC.out.mono ?_
    rintro e w2 ⟨rfl, hb2⟩
    have HB2 := Lib.hid (HBW.out.trans (hb2.mono HBW.out.size))
    clear hb2
    go_wp2_with fail
    refine (HC2.out _).mono ?_
    rintro e w3 ⟨rfl, rfl⟩
    go_wp2_with fail
    rw [HEM.out]
    refine (HC3.out _).mono ?_
    rintro e w3 ⟨rfl, rfl⟩
    go_wp2_with fail
    go_ret
    exact ⟨rfl, HB2.out⟩
end Go.Proofs.YtiihpbccabeoeaaGreatDoor
