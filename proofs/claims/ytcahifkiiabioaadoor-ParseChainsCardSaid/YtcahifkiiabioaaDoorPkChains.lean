/-
  ParseChains' walk.
-/
import Derived.Test.YtcahifkiiabioaaDoorPkL
import Derived.Deep.AppendLies
import Derived.Deep.Cut
namespace Go.Proofs.YtcahifkiiabioaaDoor
open Go.RowKit
set_option linter.unusedVariables false

theorem low_ten (x : Int) : ∃ m : Nat, bits .and .i64 x 1023 = (m : Int) ∧ m < 1024 := by
  refine ⟨(BitVec.ofInt 64 x &&& BitVec.ofInt 64 1023).toNat, ?_, ?_⟩
  · have h : (BitVec.ofInt 64 x &&& BitVec.ofInt 64 1023).toNat < 1024 := by
      rw [BitVec.toNat_and]
      exact Nat.lt_of_le_of_lt Nat.and_le_right (by decide)
    show IntKind.i64.wrap (((BitVec.ofInt 64 x &&& BitVec.ofInt 64 1023).toNat : Nat) : Int) = _
    exact IntWalk.i64_in _ (by omega)
  · rw [BitVec.toNat_and]
    exact Nat.lt_of_le_of_lt Nat.and_le_right (by decide)
def chOf (z : Int) : Nat := (bits .and .i64 z 1023).toNat % 3
def chAll (z : List Int) (n : Nat) : List Nat := (z.take n).map chOf
theorem chAll_len {z : List Int} {n : Nat} (h : n ≤ z.length) : (chAll z n).length = n := by
  unfold chAll
  rw [List.length_map, List.length_take]; omega
theorem chAll_at {z : List Int} {n i : Nat} (h : n ≤ z.length) (hi : i < n) : (chAll z n)[i]? = some (chOf (z.getD i 0)) := by
  unfold chAll
  rw [List.getElem?_map, List.getElem?_take_of_lt hi, List.getD_eq_getElem?_getD, List.getElem?_eq_getElem (by omega)]
  rfl
theorem chS_snoc (b : Bool) (ks : List Nat) (k : Nat) : chS b (ks ++ [k]) = chS b ks ++ (32 :: (opS k ++ (gapS b ++ [97]))) := by simp [chS]
theorem take_snoc {ks : List Nat} {i k : Nat} (h : ks[i]? = some k) : ks.take (i + 1) = ks.take i ++ [k] := by
  obtain ⟨hi, e⟩ := List.getElem?_eq_some_iff.1 h
  rw [List.take_succ_eq_append_getElem hi, e]
theorem drop_head {ks : List Nat} {i k : Nat} (h : ks[i]? = some k) : ks.drop i = k :: ks.drop (i + 1) := by
  obtain ⟨hi, e⟩ := List.getElem?_eq_some_iff.1 h
  rw [List.drop_eq_getElem_cons hi, e]
def gapB (b : Bool) : ByteArray := if b then ⟨#[10, 10]⟩ else ⟨#[32]⟩
theorem gapB_list (b : Bool) : (gapB b).data.toList = gapS b := by cases b <;> rfl
theorem gapB_size (b : Bool) : (gapB b).size ≤ 2 := by cases b <;> decide
theorem txt_rd (w1 w : World) (s : ByteArray) (hw : w1 = w.alloc (.cells #[.int .i64 1, .string s, .string ⟨#[]⟩, .string ⟨#[]⟩, .slice none 0 0, .bool false] 34)) : Rd w1 (fun b => b = w.heap.size) (wordR [txtP s.data.toList]) (.slice (some ⟨w.heap.size, 0, none⟩) 1 1) := by
  subst hw
  refine rd_pts (n := 1) ⟨some ⟨w.heap.size, 0, none⟩, 1, rfl, Nat.le_refl _, by decide, fun i hi => ?_⟩
  obtain rfl : i = 0 := by simp at hi; omega
  refine ⟨w.heap.size, 0, .slice none 0 0, rfl, by simp, rfl, fun j u hu => ?_, ⟨rfl, none, 0, rfl, Nat.zero_le _⟩⟩
  have hb := heap_alloc_new w (.cells #[.int .i64 1, .string s, .string ⟨#[]⟩, .string ⟨#[]⟩, .slice none 0 0, .bool false] 34)
  rw [cell_of_row _ _ _ _ _ _ hb]
  have h6 : j = 0 ∨ j = 1 ∨ j = 2 ∨ j = 3 ∨ j = 4 ∨ j = 5 := by
    have : j < 6 := by
      rcases Nat.lt_or_ge j 6 with h | h
      · exact h
      · rw [List.getElem?_eq_none (by rw [cellsP_len]; exact h)] at hu; cases hu
    omega
  rcases h6 with rfl | rfl | rfl | rfl | rfl | rfl <;> (obtain rfl := Option.some.inj hu; rfl)
/-- Where the loop begins. -/
theorem ch_start (w1 wa wb wc wd we wf : World) (ua : Option Addr) (hua : ua = some ⟨w1.heap.size + 1, 0, none⟩) (ha : wa = w1.alloc (.cells #[.int .i64 1, .string ⟨#[97]⟩, .string ⟨#[]⟩, .string ⟨#[]⟩, .slice none 0 0, .bool false] 34))
    (hb : wb = wa.alloc (.cells #[.slice (some ⟨w1.heap.size, 0, none⟩) 1 1] 32)) (hc : wc = wb.alloc (.cells #[.int .i64 1, .bool false, .string ⟨#[]⟩, .slice ua 1 1, .slice none 0 0, .slice none 0 0, .slice none 0 0, .slice none 0 0] 40)) (hd : wd = wc.alloc (.cells #[.int .i64 1, .bool false, .string ⟨#[]⟩, .slice ua 1 1, .slice none 0 0, .slice none 0 0, .slice none 0 0, .slice none 0 0] 40)) (he : we = wd.alloc (.cells #[.int .i64 1, .bool false, .string ⟨#[]⟩, .slice ua 1 1, .slice none 0 0, .slice none 0 0, .slice none 0 0, .slice none 0 0] 40)) (hf : wf = we.alloc (.cells #[.int .i64 0, .bool false, .string ⟨#[]⟩, .slice none 0 0, .slice none 0 0, .slice none 0 0, .slice none 0 0, .slice none 0 0] 40)) :
    ChK w1 wf w1.heap.size (w1.heap.size + 1 + 1) (w1.heap.size + 1 + 1 + 1) (w1.heap.size + 1 + 1 + 1 + 1 + 1) ua 0 [] [.int .i64 0, .bool false, .string ⟨#[]⟩, .slice none 0 0, .slice none 0 0, .slice none 0 0, .slice none 0 0, .slice none 0 0] (some ⟨w1.heap.size + 1 + 1 + 1 + 1, 0, none⟩) 0 1 := by
  have sa : wa.heap.size = w1.heap.size + 1 := by rw [ha]; simp
  have sb : wb.heap.size = w1.heap.size + 1 + 1 := by rw [hb]; simp [sa]
  have sc : wc.heap.size = w1.heap.size + 1 + 1 + 1 := by rw [hc]; simp [sb]
  have sd : wd.heap.size = w1.heap.size + 1 + 1 + 1 + 1 := by rw [hd]; simp [sc]
  have se : we.heap.size = w1.heap.size + 1 + 1 + 1 + 1 + 1 := by rw [he]; simp [sd]
  have ka : Keeps (fun _ => False) w1 wa := by rw [ha]; exact (Keeps.refl _ _).alloc _
  have kb : Keeps (fun _ => False) wa wb := by rw [hb]; exact (Keeps.refl _ _).alloc _
  have kc : Keeps (fun _ => False) wb wc := by rw [hc]; exact (Keeps.refl _ _).alloc _
  have kd : Keeps (fun _ => False) wc wd := by rw [hd]; exact (Keeps.refl _ _).alloc _
  have ke : Keeps (fun _ => False) wd we := by rw [he]; exact (Keeps.refl _ _).alloc _
  have kf : Keeps (fun _ => False) we wf := by rw [hf]; exact (Keeps.refl _ _).alloc _
  have hr1 := txt_rd wa w1 ⟨#[97]⟩ ha
  have hr2 : Rd wb (fun b => b = w1.heap.size ∨ b = w1.heap.size + 1) (.sl 1 [wordR [txtP [97]]]) (.slice (some ⟨wa.heap.size, 0, none⟩) 1 1) :=
    rd_lit (k := 1) (m := 1) (w := wa) (D := fun b => b = w1.heap.size ∨ b = w1.heap.size + 1) (vs := [.slice (some ⟨w1.heap.size, 0, none⟩) 1 1]) (cs := [wordR [txtP [97]]]) ⟨hr1.mono (fun b _ h => .inl h), trivial⟩ rfl (by decide) hb (.inr sa)
  rw [sa, ← hua] at hr2
  have hda : RdL wf (fun b => b = w1.heap.size ∨ b = w1.heap.size + 1) aD (aV ua) :=
    ⟨.int _, .bool _, .str _, ((((hr2.keep0 kc).keep0 kd).keep0 ke).keep0 kf), .nil _ _ _ (Nat.zero_le _), .nil _ _ _ (Nat.zero_le _), .nil _ _ _ (Nat.zero_le _), .nil _ _ _ (Nat.zero_le _), trivial⟩
  have hda2 : RdL wf (fun b => Dc (w1.heap.size + 1 + 1) (w1.heap.size + 1 + 1 + 1) (w1.heap.size + 1 + 1 + 1 + 1 + 1) w1.heap.size b ∧ (Value.slice (some ⟨w1.heap.size + 1 + 1 + 1 + 1, 0, none⟩) (0 + 1) 1).ownBlock ≠ some b) aD (aV ua) := hda.mono fun b _ hb => by
    refine ⟨⟨?_, ?_, ?_, ?_⟩, fun e => ?_⟩
    · rcases hb with h | h <;> omega
    · rcases hb with h | h <;> omega
    · rcases hb with h | h <;> omega
    · rcases hb with h | h <;> omega
    · have h3 : w1.heap.size + 1 + 1 + 1 + 1 = b := Option.some.inj e
      rcases hb with h | h <;> omega
  refine ⟨((((((ka.more kb).more kc).more kd).more ke).more kf).mono (fun _ _ h => h.elim)), ?_, hda2, ?_, ?_, ⟨_, _, _, _, _, _, _, _, _, _, _, _, _, _, _, _, _, _, rfl⟩, fun h => absurd rfl h, ⟨aV ua, ?_, ?_⟩, fun g hg => ?_, ⟨Nat.le_refl _, by omega, by omega, by omega⟩, ⟨by omega, by omega, by omega⟩⟩
  · have h : RecAt wc wb.heap.size (aV ua) := by rw [hc]; exact new_rec8 _ _ _ _ _ _ _ _ _ _
    rw [sb] at h
    exact ((h.keep kd (fun e => e)).keep ke (fun e => e)).keep kf (fun e => e)
  · have h : RecAt wd wc.heap.size (aV ua) := by rw [hd]; exact new_rec8 _ _ _ _ _ _ _ _ _ _
    rw [sc] at h
    exact (h.keep ke (fun e => e)).keep kf (fun e => e)
  · have h : RecAt wf we.heap.size [.int .i64 0, .bool false, .string ⟨#[]⟩, .slice none 0 0, .slice none 0 0, .slice none 0 0, .slice none 0 0, .slice none 0 0] := by rw [hf]; exact new_rec8 _ _ _ _ _ _ _ _ _ _
    rw [se] at h
    exact h
  · rw [manyA_succ, show manyA 0 = [] from rfl, List.append_nil]
    exact hda2
  · have h : we.ownsRow 0 40 8 (.slice (some ⟨wd.heap.size, 0, none⟩) 1 1) 1 (aV ua) := by
      rw [he]
      have := World.ownsRow_lit (base := 0) (e := 40) (size := 8) wd (aV ua).toArray 1 (Nat.zero_le _) (by decide) (by simp)
      simpa using this
    rw [sd] at h
    rw [hf]
    exact h.alloc _
  · have h3 : w1.heap.size + 1 + 1 + 1 + 1 = g := Option.some.inj hg
    exact ⟨by omega, by omega, by omega, by omega⟩
theorem comb_len0 (m : Nat) : (pipeD m).length = 8 := comb_len 0 [] m
/-- What the loop holds. -/
structure ChL (w1 wr : World) (X A0 B0 C0 : Nat) (ua : Option Addr) (b : Bool) (ks : List Nat) (i : Nat) (S : ByteArray) (kd : Nat) (ah : List Dt) (vs : List Value) (pa : Option Addr) (M pc : Nat) : Prop where
  ck : ∃ m fl, M = m + 1 ∧ m ≤ i ∧ ChK w1 wr X A0 B0 C0 ua fl ah vs pa m pc ∧
    ((i ≤ ks.length ∧ fl = kd ∧ S.data.toList = 97 :: chS b (ks.take i) ∧ chainD ks 0 0 [] = chainD (ks.drop i) m kd ah) ∨
     (i = ks.length + 1 ∧ fl = 1 ∧ S.data.toList = 97 :: chS b ks ∧ ah = chainD ks 0 0 []))

set_option maxRecDepth 100000 in
set_option maxHeartbeats 16000000 in
theorem parseChains_walk (a0 : Option Addr) (n0 c0 : Nat) (z0 : List Int) (a1 : Bool) (w : World) (hr : IsRow .i64 w a0 n0 c0 z0) (hsh : w.ShapedOpen Tryd.prog) (hL : laidMetH Tryd.prog Rows.parseChainsRow.laid w) :
    Calls Tryd.prog 5 #[.slice a0 n0 c0, .bool a1] w fun e w' => e = .returned (.bool true) ∧ Below w.heap.size w w' := by
  have HEV := Lib.hid (ev_of rfl hL hsh)
  clear hL hsh
  have hc8 := cells_node
  have hc6 := cells_part
  have hcw := cells_word
  obtain ⟨i0, hi0, hz0, hz1, hz2⟩ := info_parts info_node
  have hrd := isRow_reads hr
  obtain ⟨hnz, _, _⟩ := isRow_cap hr
  have HRD := Lib.hid hrd
  clear hr hrd
  by_cases hl : 20 < n0
  · have t1 : (20 : Int) < (n0 : Int) := by omega
    go_enter Tryd.func5, Tryd.ntmps5
    go_wp2_with fail
    refine (palive_any w _ HEV.out).mono ?_
    rintro e w1 ⟨rfl, hk⟩
    have HK := Lib.hid hk
    clear hk
    go_wp2_with fail
    go_ret
    exact ⟨rfl, HK.out.below0 (fun _ h => h.elim)⟩
  have t1 : ¬ (20 : Int) < (n0 : Int) := by omega
  obtain ⟨ks, hks⟩ : ∃ ks, ks = chAll z0 n0 := ⟨_, rfl⟩
  have hkl : ks.length = n0 := by rw [hks]; exact chAll_len hnz
  have HKS := Lib.hid hks
  clear hks
  obtain ⟨G, hG⟩ : ∃ G, G = gapB a1 := ⟨_, rfl⟩
  have hG1 : G.size ≤ 2 := by rw [hG]; exact gapB_size a1
  have HG := Lib.hid hG
  clear hG
  go_enter Tryd.func5, Tryd.ntmps5
  go_wp2_with fail
  refine (palive_any w _ HEV.out).mono ?_
  rintro e w1 ⟨rfl, hk⟩
  have HK := Lib.hid hk
  clear hk
  go_upto_if 35 with fail
  obtain ⟨wa, hwa⟩ : ∃ wa, wa = w1.alloc (.cells #[.int .i64 1, .string ⟨#[97]⟩, .string ⟨#[]⟩, .string ⟨#[]⟩, .slice none 0 0, .bool false] 34) := ⟨_, rfl⟩
  rw [← hwa]
  obtain ⟨wb, hwb⟩ : ∃ wb, wb = wa.alloc (.cells #[.slice (some ⟨w1.heap.size, 0, none⟩) 1 1] 32) := ⟨_, rfl⟩
  rw [← hwb]
  obtain ⟨ua, hua⟩ : ∃ ua : Option Addr, ua = some ⟨w1.heap.size + 1, 0, none⟩ := ⟨_, rfl⟩
  rw [← hua]
  obtain ⟨wc, hwc⟩ : ∃ wc, wc = wb.alloc (.cells #[.int .i64 1, .bool false, .string ⟨#[]⟩, .slice ua 1 1, .slice none 0 0, .slice none 0 0, .slice none 0 0, .slice none 0 0] 40) := ⟨_, rfl⟩
  rw [← hwc]
  obtain ⟨wd, hwd⟩ : ∃ wd, wd = wc.alloc (.cells #[.int .i64 1, .bool false, .string ⟨#[]⟩, .slice ua 1 1, .slice none 0 0, .slice none 0 0, .slice none 0 0, .slice none 0 0] 40) := ⟨_, rfl⟩
  rw [← hwd]
  obtain ⟨we, hwe⟩ : ∃ we, we = wd.alloc (.cells #[.int .i64 1, .bool false, .string ⟨#[]⟩, .slice ua 1 1, .slice none 0 0, .slice none 0 0, .slice none 0 0, .slice none 0 0] 40) := ⟨_, rfl⟩
  rw [← hwe]
  obtain ⟨W, hW⟩ : ∃ W, W = we.alloc (.cells #[.int .i64 0, .bool false, .string ⟨#[]⟩, .slice none 0 0, .slice none 0 0, .slice none 0 0, .slice none 0 0, .slice none 0 0] 40) := ⟨_, rfl⟩
  rw [← hW]
  have HS0 := ch_start w1 wa wb wc wd we W ua hua hwa hwb hwc hwd hwe hW
  obtain ⟨X, hX⟩ : ∃ X, X = w1.heap.size := ⟨_, rfl⟩
  obtain ⟨A0, hA⟩ : ∃ A0, A0 = X + 1 + 1 := ⟨_, rfl⟩
  obtain ⟨B0, hB⟩ : ∃ B0, B0 = X + 1 + 1 + 1 := ⟨_, rfl⟩
  obtain ⟨G0, hG0⟩ : ∃ G0, G0 = X + 1 + 1 + 1 + 1 := ⟨_, rfl⟩
  obtain ⟨C0, hC⟩ : ∃ C0, C0 = X + 1 + 1 + 1 + 1 + 1 := ⟨_, rfl⟩
  rw [← hX] at HS0
  rw [← hC, ← hG0, ← hB, ← hA] at HS0
  rw [← hX]
  rw [← hC, ← hG0, ← hB, ← hA]
  have HS0 := Lib.hid HS0
  have HXW := Lib.hid hX
  clear hwa hwb hwc hwd hwe hW hua hX hA hB hG0 hC
  go_cut [12] from 35 to 35 (fun g' wx => g' = .string G ∧ wx = W)
  case first =>
    cases a1
    · go_wp2_with fail
      go_meet
      case rel => exact ⟨by rw [HG.out]; rfl, rfl⟩
    · go_wp2_with fail
      go_meet
      case rel => exact ⟨by rw [HG.out]; rfl, rfl⟩
  obtain ⟨hg12, hwx⟩ := hcut
  subst hg12 hwx
  go_wp2_with fail
  go_loopw [7, 9, 11, 13] (fun s' p' k' i' wr => ∃ (i : Nat) (S : ByteArray) (kd : Nat) (ah : List Dt) (vs : List Value) (pa : Option Addr) (M pc : Nat), s' = .string S ∧ p' = .slice pa M pc ∧ k' = .int .i64 (kd : Nat) ∧ i' = .int .i64 i ∧ i ≤ n0 + 1 ∧ Hid (ChL w1 wr X A0 B0 C0 ua a1 ks i S kd ah vs pa M pc)) (fun _ _ _ i' _ => n0 + 1 - (intOf i').toNat)
  case atStart => exact ⟨0, ⟨#[97]⟩, 0, _, _, _, 1, 1, rfl, rfl, rfl, rfl, Nat.zero_le _, Lib.hid ⟨0, 0, rfl, Nat.le_refl _, HS0.out, .inl ⟨Nat.zero_le _, rfl, by simp [chS], rfl⟩⟩⟩
  case round =>
    obtain ⟨i, S, kd, ah, vs, pa, M, pc, rfl, rfl, rfl, rfl, hi, HL⟩ := hrel
    obtain ⟨m, fl, hMm, hmi, hck, hmd⟩ := HL.out.ck
    obtain ⟨vk, vb, vt, va0, vn0, vc0, va1, vn1, vc1, va2, vn2, vc2, va3, vn3, vc3, va4, vn4, vc4, rfl⟩ := hck.e8
    obtain ⟨⟨x0, x1, x2, x3, x4, x5, x6, x7⟩, _⟩ := hck.ra.eight
    obtain ⟨⟨y0, y1, y2, y3, y4, y5, y6, y7⟩, yf0, yf1, yf2, yf3, yf4, yf5, yf6, yf7⟩ := hck.rh.eight
    have hAl := hck.ra.lt
    have hCl := hck.rh.lt
    have hAC := hck.ne.2.1
    have hCA : C0 ≠ A0 := fun e => hck.ne.2.1 e.symm
    have hBC := hck.ne.2.2
    have hCB : C0 ≠ B0 := fun e => hck.ne.2.2 e.symm
    have HCK := Lib.hid hck
    have HMM := Lib.hid hMm
    have hMb : M ≤ 40 := by omega
    rcases Nat.lt_or_ge n0 i with hgt | hle
    · obtain rfl : i = n0 + 1 := by omega
      have p1 : ¬ (((n0 + 1 : Nat) : Int) ≤ (n0 : Int)) := by omega
      obtain ⟨_, hfl, htx, hah⟩ : n0 + 1 = ks.length + 1 ∧ fl = 1 ∧ S.data.toList = 97 :: chS a1 ks ∧ ah = chainD ks 0 0 [] := by
        rcases hmd with h | h
        · omega
        · exact h
      subst hfl
      have hp := chain_parse a1 ks (by omega)
      rw [← htx, ← hah] at hp
      have HP := Lib.hid hp
      obtain ⟨n', hgood⟩ := good_chain ks 2 0 0 [] (fun h => absurd rfl h) (by omega)
      have hlen := chain_len ks 0 0 []
      rw [← hah] at hgood hlen
      have HGD := Lib.hid hgood
      have HLN := Lib.hid hlen
      have hS7 : S.size ≤ 130 := by
        have h1 := (chS_bytes a1 ks).1
        rw [Lib.size_eq, htx, List.length_cons]
        omega
      obtain ⟨⟨q0, q1, q2, q3, q4, q5, q6, q7⟩, qf0, qf1, qf2, qf3, qf4, qf5, qf6, qf7⟩ := hck.rb.eight
      have hBl := hck.rb.lt
      obtain ⟨W2, hW2⟩ : ∃ W2, W2 = ((((((((wr.setCell ⟨B0, 0, none⟩ (.int .i64 vk)).setCell ⟨B0, 1, none⟩ (.bool vb)).setCell ⟨B0, 2, none⟩ (.string vt)).setCell ⟨B0, 3, none⟩ (.slice va0 vn0 vc0)).setCell ⟨B0, 4, none⟩ (.slice va1 vn1 vc1)).setCell ⟨B0, 5, none⟩ (.slice va2 vn2 vc2)).setCell ⟨B0, 6, none⟩ (.slice va3 vn3 vc3)).setCell ⟨B0, 7, none⟩ (.slice va4 vn4 vc4)) := ⟨_, rfl⟩
      have hk2 : Keeps (fun b => b = B0) wr W2 := by rw [hW2]; exact set8_keeps _ _ _ _ _ _ _ _ _ _
      have HB2 := Lib.hid (show RecAt W2 B0 [.int .i64 vk, .bool vb, .string vt, .slice va0 vn0 vc0, .slice va1 vn1 vc1, .slice va2 vn2 vc2, .slice va3 vn3 vc3, .slice va4 vn4 vc4] by rw [hW2]; exact set8_rec hck.rb _ _ _ _ _ _ _ _)
      have HD2 := Lib.hid (((hck.dc (by decide)).lt.keep hk2 (fun b _ hb e => hb.1.1.2.2.1 e)).mono (D' := fun _ => True) (fun _ _ _ => trivial))
      have HK2 := Lib.hid (((HK.out.mono (fun _ _ h => h.elim)).trans hck.kp (fun _ _ h => h)).trans hk2 (fun b hb h => by have := hck.xl; have := HXW.out; omega))
      have HX2 := Lib.hid hck.xl
      have HV2 := Lib.hid (HEV.out.keep HK2.out (fun b hb h => by have := HXW.out; have := HK.out.size; omega))
      have HW2 := Lib.hid hW2
      clear hp hgood hlen hk2 hck hW2 htx hah hmd HS0 HL hMm
      go_wp2_with (rw [← HW2.out])
      refine (parse_any W2 _ S HV2.out (by omega)).mono ?_
      rw [HP.out]
      rintro e w3 ⟨a, ml, cl, rfl, hrd, hk⟩
      have HR := Lib.hid hrd
      have HK3 := Lib.hid hk
      obtain ⟨⟨r0, r1, r2, r3, r4, r5, r6, r7⟩, _⟩ := (HB2.out.keep hk (fun h => h)).eight
      have hB3 := (HB2.out.keep hk (fun h => h)).lt
      clear hrd hk x0 x1 x2 x3 x4 x5 x6 x7 y0 y1 y2 y3 y4 y5 y6 y7 yf0 yf1 yf2 yf3 yf4 yf5 yf6 yf7 q0 q1 q2 q3 q4 q5 q6 q7 qf0 qf1 qf2 qf3 qf4 qf5 qf6 qf7
      go_wp2_with fail
      refine (pnum_any 0 _).mono ?_
      rintro e w4 ⟨rfl, hw4⟩
      subst hw4
      go_wp2_with fail
      obtain ⟨W5, hW5⟩ : ∃ W5, W5 = w4.alloc (.cells #[.int .i64 vk, .bool vb, .string vt, .slice va0 vn0 vc0, .slice va1 vn1 vc1, .slice va2 vn2 vc2, .slice va3 vn3 vc3, .slice va4 vn4 vc4] 40) := ⟨_, rfl⟩
      rw [← hW5]
      have hk5 : Keeps (fun _ => False) w4 W5 := by rw [hW5]; exact (Keeps.refl _ _).alloc _
      have hrd5 := rd_lit (k := 8) (m := 1) (HD2.out.keep HK3.out (fun _ _ _ h => h)) (by rw [HLN.out]) (by decide) hW5 trivial
      refine (same_all n' W5 _ _ ah _ _ _ _ _ _ HGD.out (HR.out.keep0 hk5) hrd5).mono ?_
      rintro e w6 ⟨rfl, hk6⟩
      have HKF := Lib.hid (((HK2.out.trans HK3.out (fun _ _ h => h.elim)).trans hk5 (fun _ _ h => h.elim)).trans hk6 (fun _ _ h => h.elim))
      clear hk5 hk6 hrd5 hW5
      go_wp2_with fail
      go_ret
      exact ⟨rfl, HKF.out.below0 (fun b h => by have := HK.out.size; have := HXW.out; omega)⟩
    have p1 : (i : Int) ≤ (n0 : Int) := by omega
    obtain ⟨_, hfl, htx, hch⟩ : i ≤ ks.length ∧ fl = kd ∧ S.data.toList = 97 :: chS a1 (ks.take i) ∧ chainD ks 0 0 [] = chainD (ks.drop i) m kd ah := by
      rcases hmd with h | h
      · exact h
      · omega
    have HCK : Hid (ChK w1 wr X A0 B0 C0 ua kd ah [.int .i64 vk, .bool vb, .string vt, .slice va0 vn0 vc0, .slice va1 vn1 vc1, .slice va2 vn2 vc2, .slice va3 vn3 vc3, .slice va4 vn4 vc4] pa m pc) := by rw [← hfl]; exact HCK
    clear hfl
    have hS7 : S.size ≤ 130 := by
      have h1 := (chS_bytes a1 (ks.take i)).1
      rw [Lib.size_eq, htx, List.length_cons]
      have : (ks.take i).length ≤ i := by rw [List.length_take]; omega
      omega
    have HTX := Lib.hid htx
    have HCH := Lib.hid hch
    clear htx hch hmd hck hMm HL HS0
    have hpp : Hid (RdL wr (fun b => Dc A0 B0 C0 X b ∧ b < wr.heap.size) (pipeD m) (if m = 0 then aV ua else [.int .i64 2, .bool false, .string ⟨#[]⟩, .slice none 0 0, .slice none 0 0, .slice none 0 0, .slice pa M pc, .slice none 0 0])) := Lib.hid (by have h := HCK.out.pipe; rw [← HMM.out] at h; exact h)
    rcases Nat.lt_or_ge i n0 with hlt | hge
    · have p2 : (i : Int) < (n0 : Int) := by omega
      obtain ⟨b, off, rfl, hb, hc⟩ := HRD.out i hlt
      obtain ⟨q, hq⟩ : ∃ q, q = z0.getD i 0 := ⟨_, rfl⟩
      have hc : w.cell? ⟨b, off + i, none⟩ = some (.int .i64 q) := by rw [hq]; exact hc
      have hkr : Keeps (fun b => X ≤ b) w wr := (HK.out.mono (fun _ _ h => h.elim)).trans HCK.out.kp (fun _ _ h => h)
      have hbr : b < wr.heap.size := Nat.lt_of_lt_of_le hb hkr.size
      have hcr2 : wr.cell? ⟨b, off + i, none⟩ = some (.int .i64 q) := (World.cell?_of_block (hkr.block b hb (fun h => by have := HK.out.size; have := HXW.out; omega))).trans hc
      obtain ⟨mm, hm, hmm⟩ := low_ten q
      have hki := chAll_at (z := z0) (n := n0) hnz hlt
      rw [← HKS.out, ← hq] at hki
      have hkq : chOf q = mm % 3 := by unfold chOf; rw [hm, Int.toNat_natCast]
      rw [hkq] at hki
      have hrm : (mm : Int).tmod 3 = ((mm % 3 : Nat) : Int) := rfl
      have HTK := Lib.hid (take_snoc hki)
      have HDR := Lib.hid (drop_head hki)
      obtain ⟨k, hk⟩ : ∃ k, k = mm % 3 := ⟨_, rfl⟩
      have hk3 : k < 3 := by omega
      rw [← hk] at hrm HTK HDR
      clear hq hc hkr hki hkq hk
      have hk4 : k = 0 ∨ k = 1 ∨ k = 2 := by omega
      rcases hk4 with rfl | rfl | rfl
      · have HSN := Lib.hid (show (S ++ ⟨#[32, 124]⟩ ++ G ++ ⟨#[97]⟩ : ByteArray).data.toList = 97 :: chS a1 (ks.take (i + 1)) by
          rw [HTK.out, chS_snoc, ← List.cons_append, ← HTX.out]
          have hg := gapB_list a1
          rw [← HG.out] at hg
          simp [hg, opS])
        obtain ⟨xs, hown4, hF⟩ := HCK.out.more
        rw [← HMM.out] at hown4 hF
        have HF := Lib.hid hF
        clear hF hpp
        go_wp2_with (at_builtin; refine wpList_append_lies _ rfl (.tmp 59) (.tmp 61) _ rfl 0 40 i0 _ 8 152 Tryd.underlying24 hi0 hz0 hz1 hz2 rfl (by omega) (.slice pa M pc) M xs rfl (hown4.alloc _) ⟨wr.heap.size, 0, none⟩ 1 1 [.int .i64 1, .bool false, .string ⟨#[]⟩, .slice ua 1 1, .slice none 0 0, .slice none 0 0, .slice none 0 0, .slice none 0 0] rfl rfl (World.news_of_block (cs := #[.int .i64 1, .bool false, .string ⟨#[]⟩, .slice ua 1 1, .slice none 0 0, .slice none 0 0, .slice none 0 0, .slice none 0 0]) (t := 40) (fr := (0, 0)) (heap_alloc_new wr _)) (by simp [Value.oneCell']) (by omega) (by unfold maxLen; omega) (by omega) (by simp) (wr.heap.size + 1) (by simp) ?_; intro gg cap w5 hown2 hgrow hat hlt5; have hG5 := HF.out gg cap w5 _ hown2 hgrow hat; have HG5 := Lib.hid hG5; clear hG5 hown2 hgrow hat)
        go_wp2_with fail
        go_roundw
        case rel => exact ⟨i + 1, _, kd, ah, _, _, M + 1, cap, rfl, rfl, rfl, by simp, by omega, Lib.hid ⟨m + 1, kd, by rw [HMM.out], by omega, by have h := HG5.out; rw [HMM.out] at h; exact h, .inl ⟨by omega, rfl, HSN.out, by rw [HCH.out, HDR.out]; rfl⟩⟩⟩
        case measure => simp [intOf]; omega
      · have HSN := Lib.hid (show (S ++ ⟨#[32, 38, 38]⟩ ++ G ++ ⟨#[97]⟩ : ByteArray).data.toList = 97 :: chS a1 (ks.take (i + 1)) by
          rw [HTK.out, chS_snoc, ← List.cons_append, ← HTX.out]
          have hg := gapB_list a1
          rw [← HG.out] at hg
          simp [hg, opS])
        by_cases hmz : m = 0
        · have hm0 : m = 0 := hmz
          rw [if_pos hm0] at hpp
          have hM1 : M = 1 := by rw [HMM.out, hm0]
          subst hM1
          by_cases hkz : kd = 0
          · subst hkz
            obtain ⟨W5, hW5⟩ : ∃ W5, W5 = (((((((((wr.setCell ⟨C0, 0, none⟩ (.int .i64 1)).setCell ⟨C0, 1, none⟩ (.bool false)).setCell ⟨C0, 2, none⟩ (.string ⟨#[]⟩)).setCell ⟨C0, 3, none⟩ (.slice ua 1 1)).setCell ⟨C0, 4, none⟩ (.slice none 0 0)).setCell ⟨C0, 5, none⟩ (.slice none 0 0)).setCell ⟨C0, 6, none⟩ (.slice none 0 0)).setCell ⟨C0, 7, none⟩ (.slice none 0 0)).alloc (.cells #[.int .i64 1, .bool false, .string ⟨#[]⟩, .slice ua 1 1, .slice none 0 0, .slice none 0 0, .slice none 0 0, .slice none 0 0] 40)) := ⟨_, rfl⟩
            have hsk := set8_keeps wr C0 (.int .i64 1) (.bool false) (.string ⟨#[]⟩) (.slice ua 1 1) (.slice none 0 0) (.slice none 0 0) (.slice none 0 0) (.slice none 0 0)
            have hsr := set8_rec HCK.out.rh (.int .i64 1) (.bool false) (.string ⟨#[]⟩) (.slice ua 1 1) (.slice none 0 0) (.slice none 0 0) (.slice none 0 0) (.slice none 0 0)
            have hk5 : Keeps (fun b => b = C0) wr W5 := by rw [hW5]; exact hsk.alloc _
            have hC5 : RecAt W5 C0 [.int .i64 1, .bool false, .string ⟨#[]⟩, .slice ua 1 1, .slice none 0 0, .slice none 0 0, .slice none 0 0, .slice none 0 0] := by rw [hW5]; exact hsr.keep (S := fun _ => False) ((Keeps.refl _ _).alloc _) (fun h => h)
            have hd5 : RdL W5 (fun b => Dc A0 B0 C0 X b ∧ b < W5.heap.size) (pipeD m) [.int .i64 1, .bool false, .string ⟨#[]⟩, .slice ua 1 1, .slice none 0 0, .slice none 0 0, .slice none 0 0, .slice none 0 0] := (hpp.out.keep hk5 (fun b _ hb e => hb.1.2.2.2 e)).mono fun b _ hb => ⟨hb.1, by have := hk5.size; omega⟩
            have hcomb : combD 0 ah (pipeD m) = pipeD m := if_pos rfl
            rw [← hcomb] at hd5
            have HNX := Lib.hid (show ∀ w6, w6 = W5.alloc (.cells (aV ua).toArray 40) → ChK w1 w6 X A0 B0 C0 ua 3 (combD 0 ah (pipeD m)) [.int .i64 1, .bool false, .string ⟨#[]⟩, .slice ua 1 1, .slice none 0 0, .slice none 0 0, .slice none 0 0, .slice none 0 0] (some ⟨W5.heap.size, 0, none⟩) 0 1 from fun w6 h6 => HCK.out.next hk5 hC5 ⟨_, _, _, _, _, _, _, _, _, _, _, _, _, _, _, _, _, _, rfl⟩ hd5 h6 3)
            have HW5 := Lib.hid hW5
            have hs5 : W5.heap.size = wr.heap.size + 1 := by rw [hW5]; simp
            have HS5 := Lib.hid hs5
            clear hW5 hk5 hC5 hd5 hcomb hsk hsr hs5
            go_wp2_with fail
            go_roundw
            case rel => exact ⟨i + 1, _, 3, combD 0 ah (pipeD m), _, _, 1, 1, rfl, rfl, rfl, by simp, by omega, Lib.hid ⟨0, 3, rfl, Nat.zero_le _, by rw [← HS5.out]; exact HNX.out _ (by rw [HW5.out]), .inl ⟨by omega, rfl, HSN.out, by rw [HCH.out, HDR.out]; rfl⟩⟩⟩
            case measure => simp [intOf]; omega
          · have t4 : ((kd : Int) == 0) = false := by rw [beq_eq_false_iff_ne]; omega
            obtain ⟨W5, hW5⟩ : ∃ W5, W5 = ((((((((((wr.setCell ⟨C0, 0, none⟩ (.int .i64 (kd : Nat))).setCell ⟨C0, 1, none⟩ (.bool false)).setCell ⟨C0, 2, none⟩ (.string ⟨#[]⟩)).setCell ⟨C0, 3, none⟩ (.slice none 0 0)).setCell ⟨C0, 4, none⟩ (.slice none 0 0)).setCell ⟨C0, 5, none⟩ (.slice none 0 0)).setCell ⟨C0, 6, none⟩ (.slice (some ⟨wr.heap.size + 1, 0, none⟩) 2 2)).setCell ⟨C0, 7, none⟩ (.slice none 0 0)).alloc (.cells #[.int .i64 1, .bool false, .string ⟨#[]⟩, .slice ua 1 1, .slice none 0 0, .slice none 0 0, .slice none 0 0, .slice none 0 0] 40)).alloc (.cells #[.int .i64 vk, .bool vb, .string vt, .slice va0 vn0 vc0, .slice va1 vn1 vc1, .slice va2 vn2 vc2, .slice va3 vn3 vc3, .slice va4 vn4 vc4, .int .i64 1, .bool false, .string ⟨#[]⟩, .slice ua 1 1, .slice none 0 0, .slice none 0 0, .slice none 0 0, .slice none 0 0] 40)) := ⟨_, rfl⟩
            have hsk := set8_keeps wr C0 (.int .i64 (kd : Nat)) (.bool false) (.string ⟨#[]⟩) (.slice none 0 0) (.slice none 0 0) (.slice none 0 0) (.slice (some ⟨wr.heap.size + 1, 0, none⟩) 2 2) (.slice none 0 0)
            have hsr := set8_rec HCK.out.rh (.int .i64 (kd : Nat)) (.bool false) (.string ⟨#[]⟩) (.slice none 0 0) (.slice none 0 0) (.slice none 0 0) (.slice (some ⟨wr.heap.size + 1, 0, none⟩) 2 2) (.slice none 0 0)
            obtain ⟨W4, hW4⟩ : ∃ W4, W4 = (((((((((wr.setCell ⟨C0, 0, none⟩ (.int .i64 (kd : Nat))).setCell ⟨C0, 1, none⟩ (.bool false)).setCell ⟨C0, 2, none⟩ (.string ⟨#[]⟩)).setCell ⟨C0, 3, none⟩ (.slice none 0 0)).setCell ⟨C0, 4, none⟩ (.slice none 0 0)).setCell ⟨C0, 5, none⟩ (.slice none 0 0)).setCell ⟨C0, 6, none⟩ (.slice (some ⟨wr.heap.size + 1, 0, none⟩) 2 2)).setCell ⟨C0, 7, none⟩ (.slice none 0 0)).alloc (.cells #[.int .i64 1, .bool false, .string ⟨#[]⟩, .slice ua 1 1, .slice none 0 0, .slice none 0 0, .slice none 0 0, .slice none 0 0] 40)) := ⟨_, rfl⟩
            have hs4 : W4.heap.size = wr.heap.size + 1 := by rw [hW4]; simp
            have hk4 : Keeps (fun b => b = C0) wr W4 := by rw [hW4]; exact hsk.alloc _
            have hC4 : RecAt W4 C0 [.int .i64 (kd : Nat), .bool false, .string ⟨#[]⟩, .slice none 0 0, .slice none 0 0, .slice none 0 0, .slice (some ⟨wr.heap.size + 1, 0, none⟩) 2 2, .slice none 0 0] := by rw [hW4]; exact hsr.keep (S := fun _ => False) ((Keeps.refl _ _).alloc _) (fun h => h)
            rw [← hW4] at hW5
            have h45 : Keeps (fun _ => False) W4 W5 := by rw [hW5]; exact (Keeps.refl _ _).alloc _
            have hk5 : Keeps (fun b => b = C0) wr W5 := hk4.trans h45 (fun _ _ h => h.elim)
            have hC5 := hC4.keep h45 (fun h => h)
            have hdn := (hpp.out.keep hk4 (fun b _ hb e => hb.1.2.2.2 e)).mono (D' := fun b => Dc A0 B0 C0 X b ∧ b < W5.heap.size) fun b _ hb => ⟨hb.1, by have := hk5.size; omega⟩
            have hda := ((HCK.out.dc hkz).lt.keep hk4 (fun b _ hb e => hb.1.1.2.2.2 e)).mono (D' := fun b => Dc A0 B0 C0 X b ∧ b < W5.heap.size) fun b _ hb => ⟨hb.1.1, by have := hb.2; have := hk5.size; omega⟩
            have hla : ah.length = 8 := by have := hda.len; simpa using this.symm
            have hcs := HCK.out.sizes
            have hrow : Rd W5 (fun b => Dc A0 B0 C0 X b ∧ b < W5.heap.size) (.sl 8 (ah ++ pipeD m)) (.slice (some ⟨W4.heap.size, 0, none⟩) 2 2) := rd_lit (k := 8) (m := 2) (hda.app hdn) (by rw [List.length_append, hla, comb_len0]) (by decide) hW5 ⟨⟨by omega, by omega, by omega, by omega⟩, by rw [hW5]; simp⟩
            rw [hs4] at hrow
            have hd5 : RdL W5 (fun b => Dc A0 B0 C0 X b ∧ b < W5.heap.size) (ndR kd false [] [] [] [] (ah ++ pipeD m) []) [.int .i64 (kd : Nat), .bool false, .string ⟨#[]⟩, .slice none 0 0, .slice none 0 0, .slice none 0 0, .slice (some ⟨wr.heap.size + 1, 0, none⟩) 2 2, .slice none 0 0] := ⟨.int _, .bool _, .str _, .nil _ _ _ (Nat.zero_le _), .nil _ _ _ (Nat.zero_le _), .nil _ _ _ (Nat.zero_le _), hrow, .nil _ _ _ (Nat.zero_le _), trivial⟩
            have hcomb : combD kd ah (pipeD m) = ndR kd false [] [] [] [] (ah ++ pipeD m) [] := if_neg hkz
            rw [← hcomb] at hd5
            have HNX := Lib.hid (show ∀ w6, w6 = W5.alloc (.cells (aV ua).toArray 40) → ChK w1 w6 X A0 B0 C0 ua 3 (combD kd ah (pipeD m)) [.int .i64 (kd : Nat), .bool false, .string ⟨#[]⟩, .slice none 0 0, .slice none 0 0, .slice none 0 0, .slice (some ⟨wr.heap.size + 1, 0, none⟩) 2 2, .slice none 0 0] (some ⟨W5.heap.size, 0, none⟩) 0 1 from fun w6 h6 => HCK.out.next hk5 hC5 ⟨_, _, _, _, _, _, _, _, _, _, _, _, _, _, _, _, _, _, rfl⟩ hd5 h6 3)
            have HW5 := Lib.hid hW5
            have hs5 : W5.heap.size = wr.heap.size + 1 + 1 := by rw [hW5]; simp [hs4]
            have HS5 := Lib.hid hs5
            have HW4 := Lib.hid hW4
            clear hW5 hW4 hk5 hC5 hd5 hcomb hsk hsr hs5 hk4 hC4 h45 hdn hda hla hrow hs4 hcs
            go_wp2_with fail
            go_roundw
            case rel => exact ⟨i + 1, _, 3, combD kd ah (pipeD m), _, _, 1, 1, rfl, rfl, rfl, by simp, by omega, Lib.hid ⟨0, 3, rfl, Nat.zero_le _, by rw [← HS5.out]; exact HNX.out _ (by rw [HW5.out, HW4.out]), .inl ⟨by omega, rfl, HSN.out, by rw [HCH.out, HDR.out]; rfl⟩⟩⟩
            case measure => simp [intOf]; omega
        · have hm0 : m ≠ 0 := hmz
          rw [if_neg hm0] at hpp
          have hM2 : 1 < M := by have := HMM.out; omega
          have p4 : (1 : Int) < (M : Int) := by omega
          by_cases hkz : kd = 0
          · subst hkz
            obtain ⟨W5, hW5⟩ : ∃ W5, W5 = (((((((((wr.setCell ⟨C0, 0, none⟩ (.int .i64 2)).setCell ⟨C0, 1, none⟩ (.bool false)).setCell ⟨C0, 2, none⟩ (.string ⟨#[]⟩)).setCell ⟨C0, 3, none⟩ (.slice none 0 0)).setCell ⟨C0, 4, none⟩ (.slice none 0 0)).setCell ⟨C0, 5, none⟩ (.slice none 0 0)).setCell ⟨C0, 6, none⟩ (.slice pa M pc)).setCell ⟨C0, 7, none⟩ (.slice none 0 0)).alloc (.cells #[.int .i64 2, .bool false, .string ⟨#[]⟩, .slice none 0 0, .slice none 0 0, .slice none 0 0, .slice pa M pc, .slice none 0 0] 40)) := ⟨_, rfl⟩
            have hsk := set8_keeps wr C0 (.int .i64 2) (.bool false) (.string ⟨#[]⟩) (.slice none 0 0) (.slice none 0 0) (.slice none 0 0) (.slice pa M pc) (.slice none 0 0)
            have hsr := set8_rec HCK.out.rh (.int .i64 2) (.bool false) (.string ⟨#[]⟩) (.slice none 0 0) (.slice none 0 0) (.slice none 0 0) (.slice pa M pc) (.slice none 0 0)
            have hk5 : Keeps (fun b => b = C0) wr W5 := by rw [hW5]; exact hsk.alloc _
            have hC5 : RecAt W5 C0 [.int .i64 2, .bool false, .string ⟨#[]⟩, .slice none 0 0, .slice none 0 0, .slice none 0 0, .slice pa M pc, .slice none 0 0] := by rw [hW5]; exact hsr.keep (S := fun _ => False) ((Keeps.refl _ _).alloc _) (fun h => h)
            have hd5 : RdL W5 (fun b => Dc A0 B0 C0 X b ∧ b < W5.heap.size) (pipeD m) [.int .i64 2, .bool false, .string ⟨#[]⟩, .slice none 0 0, .slice none 0 0, .slice none 0 0, .slice pa M pc, .slice none 0 0] := (hpp.out.keep hk5 (fun b _ hb e => hb.1.2.2.2 e)).mono fun b _ hb => ⟨hb.1, by have := hk5.size; omega⟩
            have hcomb : combD 0 ah (pipeD m) = pipeD m := if_pos rfl
            rw [← hcomb] at hd5
            have HNX := Lib.hid (show ∀ w6, w6 = W5.alloc (.cells (aV ua).toArray 40) → ChK w1 w6 X A0 B0 C0 ua 3 (combD 0 ah (pipeD m)) [.int .i64 2, .bool false, .string ⟨#[]⟩, .slice none 0 0, .slice none 0 0, .slice none 0 0, .slice pa M pc, .slice none 0 0] (some ⟨W5.heap.size, 0, none⟩) 0 1 from fun w6 h6 => HCK.out.next hk5 hC5 ⟨_, _, _, _, _, _, _, _, _, _, _, _, _, _, _, _, _, _, rfl⟩ hd5 h6 3)
            have HW5 := Lib.hid hW5
            have hs5 : W5.heap.size = wr.heap.size + 1 := by rw [hW5]; simp
            have HS5 := Lib.hid hs5
            clear hW5 hk5 hC5 hd5 hcomb hsk hsr hs5
            go_wp2_with fail
            go_roundw
            case rel => exact ⟨i + 1, _, 3, combD 0 ah (pipeD m), _, _, 1, 1, rfl, rfl, rfl, by simp, by omega, Lib.hid ⟨0, 3, rfl, Nat.zero_le _, by rw [← HS5.out]; exact HNX.out _ (by rw [HW5.out]), .inl ⟨by omega, rfl, HSN.out, by rw [HCH.out, HDR.out]; rfl⟩⟩⟩
            case measure => simp [intOf]; omega
          · have t4 : ((kd : Int) == 0) = false := by rw [beq_eq_false_iff_ne]; omega
            obtain ⟨W5, hW5⟩ : ∃ W5, W5 = ((((((((((wr.setCell ⟨C0, 0, none⟩ (.int .i64 (kd : Nat))).setCell ⟨C0, 1, none⟩ (.bool false)).setCell ⟨C0, 2, none⟩ (.string ⟨#[]⟩)).setCell ⟨C0, 3, none⟩ (.slice none 0 0)).setCell ⟨C0, 4, none⟩ (.slice none 0 0)).setCell ⟨C0, 5, none⟩ (.slice none 0 0)).setCell ⟨C0, 6, none⟩ (.slice (some ⟨wr.heap.size + 1, 0, none⟩) 2 2)).setCell ⟨C0, 7, none⟩ (.slice none 0 0)).alloc (.cells #[.int .i64 2, .bool false, .string ⟨#[]⟩, .slice none 0 0, .slice none 0 0, .slice none 0 0, .slice pa M pc, .slice none 0 0] 40)).alloc (.cells #[.int .i64 vk, .bool vb, .string vt, .slice va0 vn0 vc0, .slice va1 vn1 vc1, .slice va2 vn2 vc2, .slice va3 vn3 vc3, .slice va4 vn4 vc4, .int .i64 2, .bool false, .string ⟨#[]⟩, .slice none 0 0, .slice none 0 0, .slice none 0 0, .slice pa M pc, .slice none 0 0] 40)) := ⟨_, rfl⟩
            have hsk := set8_keeps wr C0 (.int .i64 (kd : Nat)) (.bool false) (.string ⟨#[]⟩) (.slice none 0 0) (.slice none 0 0) (.slice none 0 0) (.slice (some ⟨wr.heap.size + 1, 0, none⟩) 2 2) (.slice none 0 0)
            have hsr := set8_rec HCK.out.rh (.int .i64 (kd : Nat)) (.bool false) (.string ⟨#[]⟩) (.slice none 0 0) (.slice none 0 0) (.slice none 0 0) (.slice (some ⟨wr.heap.size + 1, 0, none⟩) 2 2) (.slice none 0 0)
            obtain ⟨W4, hW4⟩ : ∃ W4, W4 = (((((((((wr.setCell ⟨C0, 0, none⟩ (.int .i64 (kd : Nat))).setCell ⟨C0, 1, none⟩ (.bool false)).setCell ⟨C0, 2, none⟩ (.string ⟨#[]⟩)).setCell ⟨C0, 3, none⟩ (.slice none 0 0)).setCell ⟨C0, 4, none⟩ (.slice none 0 0)).setCell ⟨C0, 5, none⟩ (.slice none 0 0)).setCell ⟨C0, 6, none⟩ (.slice (some ⟨wr.heap.size + 1, 0, none⟩) 2 2)).setCell ⟨C0, 7, none⟩ (.slice none 0 0)).alloc (.cells #[.int .i64 2, .bool false, .string ⟨#[]⟩, .slice none 0 0, .slice none 0 0, .slice none 0 0, .slice pa M pc, .slice none 0 0] 40)) := ⟨_, rfl⟩
            have hs4 : W4.heap.size = wr.heap.size + 1 := by rw [hW4]; simp
            have hk4 : Keeps (fun b => b = C0) wr W4 := by rw [hW4]; exact hsk.alloc _
            have hC4 : RecAt W4 C0 [.int .i64 (kd : Nat), .bool false, .string ⟨#[]⟩, .slice none 0 0, .slice none 0 0, .slice none 0 0, .slice (some ⟨wr.heap.size + 1, 0, none⟩) 2 2, .slice none 0 0] := by rw [hW4]; exact hsr.keep (S := fun _ => False) ((Keeps.refl _ _).alloc _) (fun h => h)
            rw [← hW4] at hW5
            have h45 : Keeps (fun _ => False) W4 W5 := by rw [hW5]; exact (Keeps.refl _ _).alloc _
            have hk5 : Keeps (fun b => b = C0) wr W5 := hk4.trans h45 (fun _ _ h => h.elim)
            have hC5 := hC4.keep h45 (fun h => h)
            have hdn := (hpp.out.keep hk4 (fun b _ hb e => hb.1.2.2.2 e)).mono (D' := fun b => Dc A0 B0 C0 X b ∧ b < W5.heap.size) fun b _ hb => ⟨hb.1, by have := hk5.size; omega⟩
            have hda := ((HCK.out.dc hkz).lt.keep hk4 (fun b _ hb e => hb.1.1.2.2.2 e)).mono (D' := fun b => Dc A0 B0 C0 X b ∧ b < W5.heap.size) fun b _ hb => ⟨hb.1.1, by have := hb.2; have := hk5.size; omega⟩
            have hla : ah.length = 8 := by have := hda.len; simpa using this.symm
            have hcs := HCK.out.sizes
            have hrow : Rd W5 (fun b => Dc A0 B0 C0 X b ∧ b < W5.heap.size) (.sl 8 (ah ++ pipeD m)) (.slice (some ⟨W4.heap.size, 0, none⟩) 2 2) := rd_lit (k := 8) (m := 2) (hda.app hdn) (by rw [List.length_append, hla, comb_len0]) (by decide) hW5 ⟨⟨by omega, by omega, by omega, by omega⟩, by rw [hW5]; simp⟩
            rw [hs4] at hrow
            have hd5 : RdL W5 (fun b => Dc A0 B0 C0 X b ∧ b < W5.heap.size) (ndR kd false [] [] [] [] (ah ++ pipeD m) []) [.int .i64 (kd : Nat), .bool false, .string ⟨#[]⟩, .slice none 0 0, .slice none 0 0, .slice none 0 0, .slice (some ⟨wr.heap.size + 1, 0, none⟩) 2 2, .slice none 0 0] := ⟨.int _, .bool _, .str _, .nil _ _ _ (Nat.zero_le _), .nil _ _ _ (Nat.zero_le _), .nil _ _ _ (Nat.zero_le _), hrow, .nil _ _ _ (Nat.zero_le _), trivial⟩
            have hcomb : combD kd ah (pipeD m) = ndR kd false [] [] [] [] (ah ++ pipeD m) [] := if_neg hkz
            rw [← hcomb] at hd5
            have HNX := Lib.hid (show ∀ w6, w6 = W5.alloc (.cells (aV ua).toArray 40) → ChK w1 w6 X A0 B0 C0 ua 3 (combD kd ah (pipeD m)) [.int .i64 (kd : Nat), .bool false, .string ⟨#[]⟩, .slice none 0 0, .slice none 0 0, .slice none 0 0, .slice (some ⟨wr.heap.size + 1, 0, none⟩) 2 2, .slice none 0 0] (some ⟨W5.heap.size, 0, none⟩) 0 1 from fun w6 h6 => HCK.out.next hk5 hC5 ⟨_, _, _, _, _, _, _, _, _, _, _, _, _, _, _, _, _, _, rfl⟩ hd5 h6 3)
            have HW5 := Lib.hid hW5
            have hs5 : W5.heap.size = wr.heap.size + 1 + 1 := by rw [hW5]; simp [hs4]
            have HS5 := Lib.hid hs5
            have HW4 := Lib.hid hW4
            clear hW5 hW4 hk5 hC5 hd5 hcomb hsk hsr hs5 hk4 hC4 h45 hdn hda hla hrow hs4 hcs
            go_wp2_with fail
            go_roundw
            case rel => exact ⟨i + 1, _, 3, combD kd ah (pipeD m), _, _, 1, 1, rfl, rfl, rfl, by simp, by omega, Lib.hid ⟨0, 3, rfl, Nat.zero_le _, by rw [← HS5.out]; exact HNX.out _ (by rw [HW5.out, HW4.out]), .inl ⟨by omega, rfl, HSN.out, by rw [HCH.out, HDR.out]; rfl⟩⟩⟩
            case measure => simp [intOf]; omega
      · have HSN := Lib.hid (show (S ++ ⟨#[32, 124, 124]⟩ ++ G ++ ⟨#[97]⟩ : ByteArray).data.toList = 97 :: chS a1 (ks.take (i + 1)) by
          rw [HTK.out, chS_snoc, ← List.cons_append, ← HTX.out]
          have hg := gapB_list a1
          rw [← HG.out] at hg
          simp [hg, opS])
        by_cases hmz : m = 0
        · have hm0 : m = 0 := hmz
          rw [if_pos hm0] at hpp
          have hM1 : M = 1 := by rw [HMM.out, hm0]
          subst hM1
          by_cases hkz : kd = 0
          · subst hkz
            obtain ⟨W5, hW5⟩ : ∃ W5, W5 = (((((((((wr.setCell ⟨C0, 0, none⟩ (.int .i64 1)).setCell ⟨C0, 1, none⟩ (.bool false)).setCell ⟨C0, 2, none⟩ (.string ⟨#[]⟩)).setCell ⟨C0, 3, none⟩ (.slice ua 1 1)).setCell ⟨C0, 4, none⟩ (.slice none 0 0)).setCell ⟨C0, 5, none⟩ (.slice none 0 0)).setCell ⟨C0, 6, none⟩ (.slice none 0 0)).setCell ⟨C0, 7, none⟩ (.slice none 0 0)).alloc (.cells #[.int .i64 1, .bool false, .string ⟨#[]⟩, .slice ua 1 1, .slice none 0 0, .slice none 0 0, .slice none 0 0, .slice none 0 0] 40)) := ⟨_, rfl⟩
            have hsk := set8_keeps wr C0 (.int .i64 1) (.bool false) (.string ⟨#[]⟩) (.slice ua 1 1) (.slice none 0 0) (.slice none 0 0) (.slice none 0 0) (.slice none 0 0)
            have hsr := set8_rec HCK.out.rh (.int .i64 1) (.bool false) (.string ⟨#[]⟩) (.slice ua 1 1) (.slice none 0 0) (.slice none 0 0) (.slice none 0 0) (.slice none 0 0)
            have hk5 : Keeps (fun b => b = C0) wr W5 := by rw [hW5]; exact hsk.alloc _
            have hC5 : RecAt W5 C0 [.int .i64 1, .bool false, .string ⟨#[]⟩, .slice ua 1 1, .slice none 0 0, .slice none 0 0, .slice none 0 0, .slice none 0 0] := by rw [hW5]; exact hsr.keep (S := fun _ => False) ((Keeps.refl _ _).alloc _) (fun h => h)
            have hd5 : RdL W5 (fun b => Dc A0 B0 C0 X b ∧ b < W5.heap.size) (pipeD m) [.int .i64 1, .bool false, .string ⟨#[]⟩, .slice ua 1 1, .slice none 0 0, .slice none 0 0, .slice none 0 0, .slice none 0 0] := (hpp.out.keep hk5 (fun b _ hb e => hb.1.2.2.2 e)).mono fun b _ hb => ⟨hb.1, by have := hk5.size; omega⟩
            have hcomb : combD 0 ah (pipeD m) = pipeD m := if_pos rfl
            rw [← hcomb] at hd5
            have HNX := Lib.hid (show ∀ w6, w6 = W5.alloc (.cells (aV ua).toArray 40) → ChK w1 w6 X A0 B0 C0 ua 4 (combD 0 ah (pipeD m)) [.int .i64 1, .bool false, .string ⟨#[]⟩, .slice ua 1 1, .slice none 0 0, .slice none 0 0, .slice none 0 0, .slice none 0 0] (some ⟨W5.heap.size, 0, none⟩) 0 1 from fun w6 h6 => HCK.out.next hk5 hC5 ⟨_, _, _, _, _, _, _, _, _, _, _, _, _, _, _, _, _, _, rfl⟩ hd5 h6 4)
            have HW5 := Lib.hid hW5
            have hs5 : W5.heap.size = wr.heap.size + 1 := by rw [hW5]; simp
            have HS5 := Lib.hid hs5
            clear hW5 hk5 hC5 hd5 hcomb hsk hsr hs5
            go_wp2_with fail
            go_roundw
            case rel => exact ⟨i + 1, _, 4, combD 0 ah (pipeD m), _, _, 1, 1, rfl, rfl, rfl, by simp, by omega, Lib.hid ⟨0, 4, rfl, Nat.zero_le _, by rw [← HS5.out]; exact HNX.out _ (by rw [HW5.out]), .inl ⟨by omega, rfl, HSN.out, by rw [HCH.out, HDR.out]; rfl⟩⟩⟩
            case measure => simp [intOf]; omega
          · have t4 : ((kd : Int) == 0) = false := by rw [beq_eq_false_iff_ne]; omega
            obtain ⟨W5, hW5⟩ : ∃ W5, W5 = ((((((((((wr.setCell ⟨C0, 0, none⟩ (.int .i64 (kd : Nat))).setCell ⟨C0, 1, none⟩ (.bool false)).setCell ⟨C0, 2, none⟩ (.string ⟨#[]⟩)).setCell ⟨C0, 3, none⟩ (.slice none 0 0)).setCell ⟨C0, 4, none⟩ (.slice none 0 0)).setCell ⟨C0, 5, none⟩ (.slice none 0 0)).setCell ⟨C0, 6, none⟩ (.slice (some ⟨wr.heap.size + 1, 0, none⟩) 2 2)).setCell ⟨C0, 7, none⟩ (.slice none 0 0)).alloc (.cells #[.int .i64 1, .bool false, .string ⟨#[]⟩, .slice ua 1 1, .slice none 0 0, .slice none 0 0, .slice none 0 0, .slice none 0 0] 40)).alloc (.cells #[.int .i64 vk, .bool vb, .string vt, .slice va0 vn0 vc0, .slice va1 vn1 vc1, .slice va2 vn2 vc2, .slice va3 vn3 vc3, .slice va4 vn4 vc4, .int .i64 1, .bool false, .string ⟨#[]⟩, .slice ua 1 1, .slice none 0 0, .slice none 0 0, .slice none 0 0, .slice none 0 0] 40)) := ⟨_, rfl⟩
            have hsk := set8_keeps wr C0 (.int .i64 (kd : Nat)) (.bool false) (.string ⟨#[]⟩) (.slice none 0 0) (.slice none 0 0) (.slice none 0 0) (.slice (some ⟨wr.heap.size + 1, 0, none⟩) 2 2) (.slice none 0 0)
            have hsr := set8_rec HCK.out.rh (.int .i64 (kd : Nat)) (.bool false) (.string ⟨#[]⟩) (.slice none 0 0) (.slice none 0 0) (.slice none 0 0) (.slice (some ⟨wr.heap.size + 1, 0, none⟩) 2 2) (.slice none 0 0)
            obtain ⟨W4, hW4⟩ : ∃ W4, W4 = (((((((((wr.setCell ⟨C0, 0, none⟩ (.int .i64 (kd : Nat))).setCell ⟨C0, 1, none⟩ (.bool false)).setCell ⟨C0, 2, none⟩ (.string ⟨#[]⟩)).setCell ⟨C0, 3, none⟩ (.slice none 0 0)).setCell ⟨C0, 4, none⟩ (.slice none 0 0)).setCell ⟨C0, 5, none⟩ (.slice none 0 0)).setCell ⟨C0, 6, none⟩ (.slice (some ⟨wr.heap.size + 1, 0, none⟩) 2 2)).setCell ⟨C0, 7, none⟩ (.slice none 0 0)).alloc (.cells #[.int .i64 1, .bool false, .string ⟨#[]⟩, .slice ua 1 1, .slice none 0 0, .slice none 0 0, .slice none 0 0, .slice none 0 0] 40)) := ⟨_, rfl⟩
            have hs4 : W4.heap.size = wr.heap.size + 1 := by rw [hW4]; simp
            have hk4 : Keeps (fun b => b = C0) wr W4 := by rw [hW4]; exact hsk.alloc _
            have hC4 : RecAt W4 C0 [.int .i64 (kd : Nat), .bool false, .string ⟨#[]⟩, .slice none 0 0, .slice none 0 0, .slice none 0 0, .slice (some ⟨wr.heap.size + 1, 0, none⟩) 2 2, .slice none 0 0] := by rw [hW4]; exact hsr.keep (S := fun _ => False) ((Keeps.refl _ _).alloc _) (fun h => h)
            rw [← hW4] at hW5
            have h45 : Keeps (fun _ => False) W4 W5 := by rw [hW5]; exact (Keeps.refl _ _).alloc _
            have hk5 : Keeps (fun b => b = C0) wr W5 := hk4.trans h45 (fun _ _ h => h.elim)
            have hC5 := hC4.keep h45 (fun h => h)
            have hdn := (hpp.out.keep hk4 (fun b _ hb e => hb.1.2.2.2 e)).mono (D' := fun b => Dc A0 B0 C0 X b ∧ b < W5.heap.size) fun b _ hb => ⟨hb.1, by have := hk5.size; omega⟩
            have hda := ((HCK.out.dc hkz).lt.keep hk4 (fun b _ hb e => hb.1.1.2.2.2 e)).mono (D' := fun b => Dc A0 B0 C0 X b ∧ b < W5.heap.size) fun b _ hb => ⟨hb.1.1, by have := hb.2; have := hk5.size; omega⟩
            have hla : ah.length = 8 := by have := hda.len; simpa using this.symm
            have hcs := HCK.out.sizes
            have hrow : Rd W5 (fun b => Dc A0 B0 C0 X b ∧ b < W5.heap.size) (.sl 8 (ah ++ pipeD m)) (.slice (some ⟨W4.heap.size, 0, none⟩) 2 2) := rd_lit (k := 8) (m := 2) (hda.app hdn) (by rw [List.length_append, hla, comb_len0]) (by decide) hW5 ⟨⟨by omega, by omega, by omega, by omega⟩, by rw [hW5]; simp⟩
            rw [hs4] at hrow
            have hd5 : RdL W5 (fun b => Dc A0 B0 C0 X b ∧ b < W5.heap.size) (ndR kd false [] [] [] [] (ah ++ pipeD m) []) [.int .i64 (kd : Nat), .bool false, .string ⟨#[]⟩, .slice none 0 0, .slice none 0 0, .slice none 0 0, .slice (some ⟨wr.heap.size + 1, 0, none⟩) 2 2, .slice none 0 0] := ⟨.int _, .bool _, .str _, .nil _ _ _ (Nat.zero_le _), .nil _ _ _ (Nat.zero_le _), .nil _ _ _ (Nat.zero_le _), hrow, .nil _ _ _ (Nat.zero_le _), trivial⟩
            have hcomb : combD kd ah (pipeD m) = ndR kd false [] [] [] [] (ah ++ pipeD m) [] := if_neg hkz
            rw [← hcomb] at hd5
            have HNX := Lib.hid (show ∀ w6, w6 = W5.alloc (.cells (aV ua).toArray 40) → ChK w1 w6 X A0 B0 C0 ua 4 (combD kd ah (pipeD m)) [.int .i64 (kd : Nat), .bool false, .string ⟨#[]⟩, .slice none 0 0, .slice none 0 0, .slice none 0 0, .slice (some ⟨wr.heap.size + 1, 0, none⟩) 2 2, .slice none 0 0] (some ⟨W5.heap.size, 0, none⟩) 0 1 from fun w6 h6 => HCK.out.next hk5 hC5 ⟨_, _, _, _, _, _, _, _, _, _, _, _, _, _, _, _, _, _, rfl⟩ hd5 h6 4)
            have HW5 := Lib.hid hW5
            have hs5 : W5.heap.size = wr.heap.size + 1 + 1 := by rw [hW5]; simp [hs4]
            have HS5 := Lib.hid hs5
            have HW4 := Lib.hid hW4
            clear hW5 hW4 hk5 hC5 hd5 hcomb hsk hsr hs5 hk4 hC4 h45 hdn hda hla hrow hs4 hcs
            go_wp2_with fail
            go_roundw
            case rel => exact ⟨i + 1, _, 4, combD kd ah (pipeD m), _, _, 1, 1, rfl, rfl, rfl, by simp, by omega, Lib.hid ⟨0, 4, rfl, Nat.zero_le _, by rw [← HS5.out]; exact HNX.out _ (by rw [HW5.out, HW4.out]), .inl ⟨by omega, rfl, HSN.out, by rw [HCH.out, HDR.out]; rfl⟩⟩⟩
            case measure => simp [intOf]; omega
        · have hm0 : m ≠ 0 := hmz
          rw [if_neg hm0] at hpp
          have hM2 : 1 < M := by have := HMM.out; omega
          have p4 : (1 : Int) < (M : Int) := by omega
          by_cases hkz : kd = 0
          · subst hkz
            obtain ⟨W5, hW5⟩ : ∃ W5, W5 = (((((((((wr.setCell ⟨C0, 0, none⟩ (.int .i64 2)).setCell ⟨C0, 1, none⟩ (.bool false)).setCell ⟨C0, 2, none⟩ (.string ⟨#[]⟩)).setCell ⟨C0, 3, none⟩ (.slice none 0 0)).setCell ⟨C0, 4, none⟩ (.slice none 0 0)).setCell ⟨C0, 5, none⟩ (.slice none 0 0)).setCell ⟨C0, 6, none⟩ (.slice pa M pc)).setCell ⟨C0, 7, none⟩ (.slice none 0 0)).alloc (.cells #[.int .i64 2, .bool false, .string ⟨#[]⟩, .slice none 0 0, .slice none 0 0, .slice none 0 0, .slice pa M pc, .slice none 0 0] 40)) := ⟨_, rfl⟩
            have hsk := set8_keeps wr C0 (.int .i64 2) (.bool false) (.string ⟨#[]⟩) (.slice none 0 0) (.slice none 0 0) (.slice none 0 0) (.slice pa M pc) (.slice none 0 0)
            have hsr := set8_rec HCK.out.rh (.int .i64 2) (.bool false) (.string ⟨#[]⟩) (.slice none 0 0) (.slice none 0 0) (.slice none 0 0) (.slice pa M pc) (.slice none 0 0)
            have hk5 : Keeps (fun b => b = C0) wr W5 := by rw [hW5]; exact hsk.alloc _
            have hC5 : RecAt W5 C0 [.int .i64 2, .bool false, .string ⟨#[]⟩, .slice none 0 0, .slice none 0 0, .slice none 0 0, .slice pa M pc, .slice none 0 0] := by rw [hW5]; exact hsr.keep (S := fun _ => False) ((Keeps.refl _ _).alloc _) (fun h => h)
            have hd5 : RdL W5 (fun b => Dc A0 B0 C0 X b ∧ b < W5.heap.size) (pipeD m) [.int .i64 2, .bool false, .string ⟨#[]⟩, .slice none 0 0, .slice none 0 0, .slice none 0 0, .slice pa M pc, .slice none 0 0] := (hpp.out.keep hk5 (fun b _ hb e => hb.1.2.2.2 e)).mono fun b _ hb => ⟨hb.1, by have := hk5.size; omega⟩
            have hcomb : combD 0 ah (pipeD m) = pipeD m := if_pos rfl
            rw [← hcomb] at hd5
            have HNX := Lib.hid (show ∀ w6, w6 = W5.alloc (.cells (aV ua).toArray 40) → ChK w1 w6 X A0 B0 C0 ua 4 (combD 0 ah (pipeD m)) [.int .i64 2, .bool false, .string ⟨#[]⟩, .slice none 0 0, .slice none 0 0, .slice none 0 0, .slice pa M pc, .slice none 0 0] (some ⟨W5.heap.size, 0, none⟩) 0 1 from fun w6 h6 => HCK.out.next hk5 hC5 ⟨_, _, _, _, _, _, _, _, _, _, _, _, _, _, _, _, _, _, rfl⟩ hd5 h6 4)
            have HW5 := Lib.hid hW5
            have hs5 : W5.heap.size = wr.heap.size + 1 := by rw [hW5]; simp
            have HS5 := Lib.hid hs5
            clear hW5 hk5 hC5 hd5 hcomb hsk hsr hs5
            go_wp2_with fail
            go_roundw
            case rel => exact ⟨i + 1, _, 4, combD 0 ah (pipeD m), _, _, 1, 1, rfl, rfl, rfl, by simp, by omega, Lib.hid ⟨0, 4, rfl, Nat.zero_le _, by rw [← HS5.out]; exact HNX.out _ (by rw [HW5.out]), .inl ⟨by omega, rfl, HSN.out, by rw [HCH.out, HDR.out]; rfl⟩⟩⟩
            case measure => simp [intOf]; omega
          · have t4 : ((kd : Int) == 0) = false := by rw [beq_eq_false_iff_ne]; omega
            obtain ⟨W5, hW5⟩ : ∃ W5, W5 = ((((((((((wr.setCell ⟨C0, 0, none⟩ (.int .i64 (kd : Nat))).setCell ⟨C0, 1, none⟩ (.bool false)).setCell ⟨C0, 2, none⟩ (.string ⟨#[]⟩)).setCell ⟨C0, 3, none⟩ (.slice none 0 0)).setCell ⟨C0, 4, none⟩ (.slice none 0 0)).setCell ⟨C0, 5, none⟩ (.slice none 0 0)).setCell ⟨C0, 6, none⟩ (.slice (some ⟨wr.heap.size + 1, 0, none⟩) 2 2)).setCell ⟨C0, 7, none⟩ (.slice none 0 0)).alloc (.cells #[.int .i64 2, .bool false, .string ⟨#[]⟩, .slice none 0 0, .slice none 0 0, .slice none 0 0, .slice pa M pc, .slice none 0 0] 40)).alloc (.cells #[.int .i64 vk, .bool vb, .string vt, .slice va0 vn0 vc0, .slice va1 vn1 vc1, .slice va2 vn2 vc2, .slice va3 vn3 vc3, .slice va4 vn4 vc4, .int .i64 2, .bool false, .string ⟨#[]⟩, .slice none 0 0, .slice none 0 0, .slice none 0 0, .slice pa M pc, .slice none 0 0] 40)) := ⟨_, rfl⟩
            have hsk := set8_keeps wr C0 (.int .i64 (kd : Nat)) (.bool false) (.string ⟨#[]⟩) (.slice none 0 0) (.slice none 0 0) (.slice none 0 0) (.slice (some ⟨wr.heap.size + 1, 0, none⟩) 2 2) (.slice none 0 0)
            have hsr := set8_rec HCK.out.rh (.int .i64 (kd : Nat)) (.bool false) (.string ⟨#[]⟩) (.slice none 0 0) (.slice none 0 0) (.slice none 0 0) (.slice (some ⟨wr.heap.size + 1, 0, none⟩) 2 2) (.slice none 0 0)
            obtain ⟨W4, hW4⟩ : ∃ W4, W4 = (((((((((wr.setCell ⟨C0, 0, none⟩ (.int .i64 (kd : Nat))).setCell ⟨C0, 1, none⟩ (.bool false)).setCell ⟨C0, 2, none⟩ (.string ⟨#[]⟩)).setCell ⟨C0, 3, none⟩ (.slice none 0 0)).setCell ⟨C0, 4, none⟩ (.slice none 0 0)).setCell ⟨C0, 5, none⟩ (.slice none 0 0)).setCell ⟨C0, 6, none⟩ (.slice (some ⟨wr.heap.size + 1, 0, none⟩) 2 2)).setCell ⟨C0, 7, none⟩ (.slice none 0 0)).alloc (.cells #[.int .i64 2, .bool false, .string ⟨#[]⟩, .slice none 0 0, .slice none 0 0, .slice none 0 0, .slice pa M pc, .slice none 0 0] 40)) := ⟨_, rfl⟩
            have hs4 : W4.heap.size = wr.heap.size + 1 := by rw [hW4]; simp
            have hk4 : Keeps (fun b => b = C0) wr W4 := by rw [hW4]; exact hsk.alloc _
            have hC4 : RecAt W4 C0 [.int .i64 (kd : Nat), .bool false, .string ⟨#[]⟩, .slice none 0 0, .slice none 0 0, .slice none 0 0, .slice (some ⟨wr.heap.size + 1, 0, none⟩) 2 2, .slice none 0 0] := by rw [hW4]; exact hsr.keep (S := fun _ => False) ((Keeps.refl _ _).alloc _) (fun h => h)
            rw [← hW4] at hW5
            have h45 : Keeps (fun _ => False) W4 W5 := by rw [hW5]; exact (Keeps.refl _ _).alloc _
            have hk5 : Keeps (fun b => b = C0) wr W5 := hk4.trans h45 (fun _ _ h => h.elim)
            have hC5 := hC4.keep h45 (fun h => h)
            have hdn := (hpp.out.keep hk4 (fun b _ hb e => hb.1.2.2.2 e)).mono (D' := fun b => Dc A0 B0 C0 X b ∧ b < W5.heap.size) fun b _ hb => ⟨hb.1, by have := hk5.size; omega⟩
            have hda := ((HCK.out.dc hkz).lt.keep hk4 (fun b _ hb e => hb.1.1.2.2.2 e)).mono (D' := fun b => Dc A0 B0 C0 X b ∧ b < W5.heap.size) fun b _ hb => ⟨hb.1.1, by have := hb.2; have := hk5.size; omega⟩
            have hla : ah.length = 8 := by have := hda.len; simpa using this.symm
            have hcs := HCK.out.sizes
            have hrow : Rd W5 (fun b => Dc A0 B0 C0 X b ∧ b < W5.heap.size) (.sl 8 (ah ++ pipeD m)) (.slice (some ⟨W4.heap.size, 0, none⟩) 2 2) := rd_lit (k := 8) (m := 2) (hda.app hdn) (by rw [List.length_append, hla, comb_len0]) (by decide) hW5 ⟨⟨by omega, by omega, by omega, by omega⟩, by rw [hW5]; simp⟩
            rw [hs4] at hrow
            have hd5 : RdL W5 (fun b => Dc A0 B0 C0 X b ∧ b < W5.heap.size) (ndR kd false [] [] [] [] (ah ++ pipeD m) []) [.int .i64 (kd : Nat), .bool false, .string ⟨#[]⟩, .slice none 0 0, .slice none 0 0, .slice none 0 0, .slice (some ⟨wr.heap.size + 1, 0, none⟩) 2 2, .slice none 0 0] := ⟨.int _, .bool _, .str _, .nil _ _ _ (Nat.zero_le _), .nil _ _ _ (Nat.zero_le _), .nil _ _ _ (Nat.zero_le _), hrow, .nil _ _ _ (Nat.zero_le _), trivial⟩
            have hcomb : combD kd ah (pipeD m) = ndR kd false [] [] [] [] (ah ++ pipeD m) [] := if_neg hkz
            rw [← hcomb] at hd5
            have HNX := Lib.hid (show ∀ w6, w6 = W5.alloc (.cells (aV ua).toArray 40) → ChK w1 w6 X A0 B0 C0 ua 4 (combD kd ah (pipeD m)) [.int .i64 (kd : Nat), .bool false, .string ⟨#[]⟩, .slice none 0 0, .slice none 0 0, .slice none 0 0, .slice (some ⟨wr.heap.size + 1, 0, none⟩) 2 2, .slice none 0 0] (some ⟨W5.heap.size, 0, none⟩) 0 1 from fun w6 h6 => HCK.out.next hk5 hC5 ⟨_, _, _, _, _, _, _, _, _, _, _, _, _, _, _, _, _, _, rfl⟩ hd5 h6 4)
            have HW5 := Lib.hid hW5
            have hs5 : W5.heap.size = wr.heap.size + 1 + 1 := by rw [hW5]; simp [hs4]
            have HS5 := Lib.hid hs5
            have HW4 := Lib.hid hW4
            clear hW5 hW4 hk5 hC5 hd5 hcomb hsk hsr hs5 hk4 hC4 h45 hdn hda hla hrow hs4 hcs
            go_wp2_with fail
            go_roundw
            case rel => exact ⟨i + 1, _, 4, combD kd ah (pipeD m), _, _, 1, 1, rfl, rfl, rfl, by simp, by omega, Lib.hid ⟨0, 4, rfl, Nat.zero_le _, by rw [← HS5.out]; exact HNX.out _ (by rw [HW5.out, HW4.out]), .inl ⟨by omega, rfl, HSN.out, by rw [HCH.out, HDR.out]; rfl⟩⟩⟩
            case measure => simp [intOf]; omega
    · obtain rfl : i = n0 := by omega
      have p2 : ¬ (i : Int) < (i : Int) := by omega
      by_cases hmz : m = 0
      · have hm0 : m = 0 := hmz
        rw [if_pos hm0] at hpp
        have hM1 : M = 1 := by rw [HMM.out, hm0]
        subst hM1
        by_cases hkz : kd = 0
        · subst hkz
          obtain ⟨W5, hW5⟩ : ∃ W5, W5 = (((((((((wr.setCell ⟨C0, 0, none⟩ (.int .i64 1)).setCell ⟨C0, 1, none⟩ (.bool false)).setCell ⟨C0, 2, none⟩ (.string ⟨#[]⟩)).setCell ⟨C0, 3, none⟩ (.slice ua 1 1)).setCell ⟨C0, 4, none⟩ (.slice none 0 0)).setCell ⟨C0, 5, none⟩ (.slice none 0 0)).setCell ⟨C0, 6, none⟩ (.slice none 0 0)).setCell ⟨C0, 7, none⟩ (.slice none 0 0)).alloc (.cells #[.int .i64 1, .bool false, .string ⟨#[]⟩, .slice ua 1 1, .slice none 0 0, .slice none 0 0, .slice none 0 0, .slice none 0 0] 40)) := ⟨_, rfl⟩
          have hsk := set8_keeps wr C0 (.int .i64 1) (.bool false) (.string ⟨#[]⟩) (.slice ua 1 1) (.slice none 0 0) (.slice none 0 0) (.slice none 0 0) (.slice none 0 0)
          have hsr := set8_rec HCK.out.rh (.int .i64 1) (.bool false) (.string ⟨#[]⟩) (.slice ua 1 1) (.slice none 0 0) (.slice none 0 0) (.slice none 0 0) (.slice none 0 0)
          have hk5 : Keeps (fun b => b = C0) wr W5 := by rw [hW5]; exact hsk.alloc _
          have hC5 : RecAt W5 C0 [.int .i64 1, .bool false, .string ⟨#[]⟩, .slice ua 1 1, .slice none 0 0, .slice none 0 0, .slice none 0 0, .slice none 0 0] := by rw [hW5]; exact hsr.keep (S := fun _ => False) ((Keeps.refl _ _).alloc _) (fun h => h)
          have hd5 : RdL W5 (fun b => Dc A0 B0 C0 X b ∧ b < W5.heap.size) (pipeD m) [.int .i64 1, .bool false, .string ⟨#[]⟩, .slice ua 1 1, .slice none 0 0, .slice none 0 0, .slice none 0 0, .slice none 0 0] := (hpp.out.keep hk5 (fun b _ hb e => hb.1.2.2.2 e)).mono fun b _ hb => ⟨hb.1, by have := hk5.size; omega⟩
          have hcomb : combD 0 ah (pipeD m) = pipeD m := if_pos rfl
          rw [← hcomb] at hd5
          have HNX := Lib.hid (show ∀ w6, w6 = W5.alloc (.cells (aV ua).toArray 40) → ChK w1 w6 X A0 B0 C0 ua 1 (combD 0 ah (pipeD m)) [.int .i64 1, .bool false, .string ⟨#[]⟩, .slice ua 1 1, .slice none 0 0, .slice none 0 0, .slice none 0 0, .slice none 0 0] (some ⟨W5.heap.size, 0, none⟩) 0 1 from fun w6 h6 => HCK.out.next hk5 hC5 ⟨_, _, _, _, _, _, _, _, _, _, _, _, _, _, _, _, _, _, rfl⟩ hd5 h6 1)
          have HW5 := Lib.hid hW5
          have hs5 : W5.heap.size = wr.heap.size + 1 := by rw [hW5]; simp
          have HS5 := Lib.hid hs5
          clear hW5 hk5 hC5 hd5 hcomb hsk hsr hs5
          go_wp2_with fail
          go_roundw
          case rel => exact ⟨i + 1, S, 0, combD 0 ah (pipeD m), _, _, 1, 1, rfl, rfl, rfl, by simp, Nat.le_refl _, Lib.hid ⟨0, 1, rfl, Nat.zero_le _, by rw [← HS5.out]; exact HNX.out _ (by rw [HW5.out]), .inr ⟨by omega, rfl, by rw [HTX.out, List.take_of_length_le (by omega)], by rw [HCH.out, List.drop_eq_nil_of_le (by omega)]; rfl⟩⟩⟩
          case measure => simp [intOf]
        · have t4 : ((kd : Int) == 0) = false := by rw [beq_eq_false_iff_ne]; omega
          obtain ⟨W5, hW5⟩ : ∃ W5, W5 = ((((((((((wr.setCell ⟨C0, 0, none⟩ (.int .i64 (kd : Nat))).setCell ⟨C0, 1, none⟩ (.bool false)).setCell ⟨C0, 2, none⟩ (.string ⟨#[]⟩)).setCell ⟨C0, 3, none⟩ (.slice none 0 0)).setCell ⟨C0, 4, none⟩ (.slice none 0 0)).setCell ⟨C0, 5, none⟩ (.slice none 0 0)).setCell ⟨C0, 6, none⟩ (.slice (some ⟨wr.heap.size + 1, 0, none⟩) 2 2)).setCell ⟨C0, 7, none⟩ (.slice none 0 0)).alloc (.cells #[.int .i64 1, .bool false, .string ⟨#[]⟩, .slice ua 1 1, .slice none 0 0, .slice none 0 0, .slice none 0 0, .slice none 0 0] 40)).alloc (.cells #[.int .i64 vk, .bool vb, .string vt, .slice va0 vn0 vc0, .slice va1 vn1 vc1, .slice va2 vn2 vc2, .slice va3 vn3 vc3, .slice va4 vn4 vc4, .int .i64 1, .bool false, .string ⟨#[]⟩, .slice ua 1 1, .slice none 0 0, .slice none 0 0, .slice none 0 0, .slice none 0 0] 40)) := ⟨_, rfl⟩
          have hsk := set8_keeps wr C0 (.int .i64 (kd : Nat)) (.bool false) (.string ⟨#[]⟩) (.slice none 0 0) (.slice none 0 0) (.slice none 0 0) (.slice (some ⟨wr.heap.size + 1, 0, none⟩) 2 2) (.slice none 0 0)
          have hsr := set8_rec HCK.out.rh (.int .i64 (kd : Nat)) (.bool false) (.string ⟨#[]⟩) (.slice none 0 0) (.slice none 0 0) (.slice none 0 0) (.slice (some ⟨wr.heap.size + 1, 0, none⟩) 2 2) (.slice none 0 0)
          obtain ⟨W4, hW4⟩ : ∃ W4, W4 = (((((((((wr.setCell ⟨C0, 0, none⟩ (.int .i64 (kd : Nat))).setCell ⟨C0, 1, none⟩ (.bool false)).setCell ⟨C0, 2, none⟩ (.string ⟨#[]⟩)).setCell ⟨C0, 3, none⟩ (.slice none 0 0)).setCell ⟨C0, 4, none⟩ (.slice none 0 0)).setCell ⟨C0, 5, none⟩ (.slice none 0 0)).setCell ⟨C0, 6, none⟩ (.slice (some ⟨wr.heap.size + 1, 0, none⟩) 2 2)).setCell ⟨C0, 7, none⟩ (.slice none 0 0)).alloc (.cells #[.int .i64 1, .bool false, .string ⟨#[]⟩, .slice ua 1 1, .slice none 0 0, .slice none 0 0, .slice none 0 0, .slice none 0 0] 40)) := ⟨_, rfl⟩
          have hs4 : W4.heap.size = wr.heap.size + 1 := by rw [hW4]; simp
          have hk4 : Keeps (fun b => b = C0) wr W4 := by rw [hW4]; exact hsk.alloc _
          have hC4 : RecAt W4 C0 [.int .i64 (kd : Nat), .bool false, .string ⟨#[]⟩, .slice none 0 0, .slice none 0 0, .slice none 0 0, .slice (some ⟨wr.heap.size + 1, 0, none⟩) 2 2, .slice none 0 0] := by rw [hW4]; exact hsr.keep (S := fun _ => False) ((Keeps.refl _ _).alloc _) (fun h => h)
          rw [← hW4] at hW5
          have h45 : Keeps (fun _ => False) W4 W5 := by rw [hW5]; exact (Keeps.refl _ _).alloc _
          have hk5 : Keeps (fun b => b = C0) wr W5 := hk4.trans h45 (fun _ _ h => h.elim)
          have hC5 := hC4.keep h45 (fun h => h)
          have hdn := (hpp.out.keep hk4 (fun b _ hb e => hb.1.2.2.2 e)).mono (D' := fun b => Dc A0 B0 C0 X b ∧ b < W5.heap.size) fun b _ hb => ⟨hb.1, by have := hk5.size; omega⟩
          have hda := ((HCK.out.dc hkz).lt.keep hk4 (fun b _ hb e => hb.1.1.2.2.2 e)).mono (D' := fun b => Dc A0 B0 C0 X b ∧ b < W5.heap.size) fun b _ hb => ⟨hb.1.1, by have := hb.2; have := hk5.size; omega⟩
          have hla : ah.length = 8 := by have := hda.len; simpa using this.symm
          have hcs := HCK.out.sizes
          have hrow : Rd W5 (fun b => Dc A0 B0 C0 X b ∧ b < W5.heap.size) (.sl 8 (ah ++ pipeD m)) (.slice (some ⟨W4.heap.size, 0, none⟩) 2 2) := rd_lit (k := 8) (m := 2) (hda.app hdn) (by rw [List.length_append, hla, comb_len0]) (by decide) hW5 ⟨⟨by omega, by omega, by omega, by omega⟩, by rw [hW5]; simp⟩
          rw [hs4] at hrow
          have hd5 : RdL W5 (fun b => Dc A0 B0 C0 X b ∧ b < W5.heap.size) (ndR kd false [] [] [] [] (ah ++ pipeD m) []) [.int .i64 (kd : Nat), .bool false, .string ⟨#[]⟩, .slice none 0 0, .slice none 0 0, .slice none 0 0, .slice (some ⟨wr.heap.size + 1, 0, none⟩) 2 2, .slice none 0 0] := ⟨.int _, .bool _, .str _, .nil _ _ _ (Nat.zero_le _), .nil _ _ _ (Nat.zero_le _), .nil _ _ _ (Nat.zero_le _), hrow, .nil _ _ _ (Nat.zero_le _), trivial⟩
          have hcomb : combD kd ah (pipeD m) = ndR kd false [] [] [] [] (ah ++ pipeD m) [] := if_neg hkz
          rw [← hcomb] at hd5
          have HNX := Lib.hid (show ∀ w6, w6 = W5.alloc (.cells (aV ua).toArray 40) → ChK w1 w6 X A0 B0 C0 ua 1 (combD kd ah (pipeD m)) [.int .i64 (kd : Nat), .bool false, .string ⟨#[]⟩, .slice none 0 0, .slice none 0 0, .slice none 0 0, .slice (some ⟨wr.heap.size + 1, 0, none⟩) 2 2, .slice none 0 0] (some ⟨W5.heap.size, 0, none⟩) 0 1 from fun w6 h6 => HCK.out.next hk5 hC5 ⟨_, _, _, _, _, _, _, _, _, _, _, _, _, _, _, _, _, _, rfl⟩ hd5 h6 1)
          have HW5 := Lib.hid hW5
          have hs5 : W5.heap.size = wr.heap.size + 1 + 1 := by rw [hW5]; simp [hs4]
          have HS5 := Lib.hid hs5
          have HW4 := Lib.hid hW4
          clear hW5 hW4 hk5 hC5 hd5 hcomb hsk hsr hs5 hk4 hC4 h45 hdn hda hla hrow hs4 hcs
          go_wp2_with fail
          go_roundw
          case rel => exact ⟨i + 1, S, kd, combD kd ah (pipeD m), _, _, 1, 1, rfl, rfl, rfl, by simp, Nat.le_refl _, Lib.hid ⟨0, 1, rfl, Nat.zero_le _, by rw [← HS5.out]; exact HNX.out _ (by rw [HW5.out, HW4.out]), .inr ⟨by omega, rfl, by rw [HTX.out, List.take_of_length_le (by omega)], by rw [HCH.out, List.drop_eq_nil_of_le (by omega)]; rfl⟩⟩⟩
          case measure => simp [intOf]
      · have hm0 : m ≠ 0 := hmz
        rw [if_neg hm0] at hpp
        have hM2 : 1 < M := by have := HMM.out; omega
        have p4 : (1 : Int) < (M : Int) := by omega
        by_cases hkz : kd = 0
        · subst hkz
          obtain ⟨W5, hW5⟩ : ∃ W5, W5 = (((((((((wr.setCell ⟨C0, 0, none⟩ (.int .i64 2)).setCell ⟨C0, 1, none⟩ (.bool false)).setCell ⟨C0, 2, none⟩ (.string ⟨#[]⟩)).setCell ⟨C0, 3, none⟩ (.slice none 0 0)).setCell ⟨C0, 4, none⟩ (.slice none 0 0)).setCell ⟨C0, 5, none⟩ (.slice none 0 0)).setCell ⟨C0, 6, none⟩ (.slice pa M pc)).setCell ⟨C0, 7, none⟩ (.slice none 0 0)).alloc (.cells #[.int .i64 2, .bool false, .string ⟨#[]⟩, .slice none 0 0, .slice none 0 0, .slice none 0 0, .slice pa M pc, .slice none 0 0] 40)) := ⟨_, rfl⟩
          have hsk := set8_keeps wr C0 (.int .i64 2) (.bool false) (.string ⟨#[]⟩) (.slice none 0 0) (.slice none 0 0) (.slice none 0 0) (.slice pa M pc) (.slice none 0 0)
          have hsr := set8_rec HCK.out.rh (.int .i64 2) (.bool false) (.string ⟨#[]⟩) (.slice none 0 0) (.slice none 0 0) (.slice none 0 0) (.slice pa M pc) (.slice none 0 0)
          have hk5 : Keeps (fun b => b = C0) wr W5 := by rw [hW5]; exact hsk.alloc _
          have hC5 : RecAt W5 C0 [.int .i64 2, .bool false, .string ⟨#[]⟩, .slice none 0 0, .slice none 0 0, .slice none 0 0, .slice pa M pc, .slice none 0 0] := by rw [hW5]; exact hsr.keep (S := fun _ => False) ((Keeps.refl _ _).alloc _) (fun h => h)
          have hd5 : RdL W5 (fun b => Dc A0 B0 C0 X b ∧ b < W5.heap.size) (pipeD m) [.int .i64 2, .bool false, .string ⟨#[]⟩, .slice none 0 0, .slice none 0 0, .slice none 0 0, .slice pa M pc, .slice none 0 0] := (hpp.out.keep hk5 (fun b _ hb e => hb.1.2.2.2 e)).mono fun b _ hb => ⟨hb.1, by have := hk5.size; omega⟩
          have hcomb : combD 0 ah (pipeD m) = pipeD m := if_pos rfl
          rw [← hcomb] at hd5
          have HNX := Lib.hid (show ∀ w6, w6 = W5.alloc (.cells (aV ua).toArray 40) → ChK w1 w6 X A0 B0 C0 ua 1 (combD 0 ah (pipeD m)) [.int .i64 2, .bool false, .string ⟨#[]⟩, .slice none 0 0, .slice none 0 0, .slice none 0 0, .slice pa M pc, .slice none 0 0] (some ⟨W5.heap.size, 0, none⟩) 0 1 from fun w6 h6 => HCK.out.next hk5 hC5 ⟨_, _, _, _, _, _, _, _, _, _, _, _, _, _, _, _, _, _, rfl⟩ hd5 h6 1)
          have HW5 := Lib.hid hW5
          have hs5 : W5.heap.size = wr.heap.size + 1 := by rw [hW5]; simp
          have HS5 := Lib.hid hs5
          clear hW5 hk5 hC5 hd5 hcomb hsk hsr hs5
          go_wp2_with fail
          go_roundw
          case rel => exact ⟨i + 1, S, 0, combD 0 ah (pipeD m), _, _, 1, 1, rfl, rfl, rfl, by simp, Nat.le_refl _, Lib.hid ⟨0, 1, rfl, Nat.zero_le _, by rw [← HS5.out]; exact HNX.out _ (by rw [HW5.out]), .inr ⟨by omega, rfl, by rw [HTX.out, List.take_of_length_le (by omega)], by rw [HCH.out, List.drop_eq_nil_of_le (by omega)]; rfl⟩⟩⟩
          case measure => simp [intOf]
        · have t4 : ((kd : Int) == 0) = false := by rw [beq_eq_false_iff_ne]; omega
          obtain ⟨W5, hW5⟩ : ∃ W5, W5 = ((((((((((wr.setCell ⟨C0, 0, none⟩ (.int .i64 (kd : Nat))).setCell ⟨C0, 1, none⟩ (.bool false)).setCell ⟨C0, 2, none⟩ (.string ⟨#[]⟩)).setCell ⟨C0, 3, none⟩ (.slice none 0 0)).setCell ⟨C0, 4, none⟩ (.slice none 0 0)).setCell ⟨C0, 5, none⟩ (.slice none 0 0)).setCell ⟨C0, 6, none⟩ (.slice (some ⟨wr.heap.size + 1, 0, none⟩) 2 2)).setCell ⟨C0, 7, none⟩ (.slice none 0 0)).alloc (.cells #[.int .i64 2, .bool false, .string ⟨#[]⟩, .slice none 0 0, .slice none 0 0, .slice none 0 0, .slice pa M pc, .slice none 0 0] 40)).alloc (.cells #[.int .i64 vk, .bool vb, .string vt, .slice va0 vn0 vc0, .slice va1 vn1 vc1, .slice va2 vn2 vc2, .slice va3 vn3 vc3, .slice va4 vn4 vc4, .int .i64 2, .bool false, .string ⟨#[]⟩, .slice none 0 0, .slice none 0 0, .slice none 0 0, .slice pa M pc, .slice none 0 0] 40)) := ⟨_, rfl⟩
          have hsk := set8_keeps wr C0 (.int .i64 (kd : Nat)) (.bool false) (.string ⟨#[]⟩) (.slice none 0 0) (.slice none 0 0) (.slice none 0 0) (.slice (some ⟨wr.heap.size + 1, 0, none⟩) 2 2) (.slice none 0 0)
          have hsr := set8_rec HCK.out.rh (.int .i64 (kd : Nat)) (.bool false) (.string ⟨#[]⟩) (.slice none 0 0) (.slice none 0 0) (.slice none 0 0) (.slice (some ⟨wr.heap.size + 1, 0, none⟩) 2 2) (.slice none 0 0)
          obtain ⟨W4, hW4⟩ : ∃ W4, W4 = (((((((((wr.setCell ⟨C0, 0, none⟩ (.int .i64 (kd : Nat))).setCell ⟨C0, 1, none⟩ (.bool false)).setCell ⟨C0, 2, none⟩ (.string ⟨#[]⟩)).setCell ⟨C0, 3, none⟩ (.slice none 0 0)).setCell ⟨C0, 4, none⟩ (.slice none 0 0)).setCell ⟨C0, 5, none⟩ (.slice none 0 0)).setCell ⟨C0, 6, none⟩ (.slice (some ⟨wr.heap.size + 1, 0, none⟩) 2 2)).setCell ⟨C0, 7, none⟩ (.slice none 0 0)).alloc (.cells #[.int .i64 2, .bool false, .string ⟨#[]⟩, .slice none 0 0, .slice none 0 0, .slice none 0 0, .slice pa M pc, .slice none 0 0] 40)) := ⟨_, rfl⟩
          have hs4 : W4.heap.size = wr.heap.size + 1 := by rw [hW4]; simp
          have hk4 : Keeps (fun b => b = C0) wr W4 := by rw [hW4]; exact hsk.alloc _
          have hC4 : RecAt W4 C0 [.int .i64 (kd : Nat), .bool false, .string ⟨#[]⟩, .slice none 0 0, .slice none 0 0, .slice none 0 0, .slice (some ⟨wr.heap.size + 1, 0, none⟩) 2 2, .slice none 0 0] := by rw [hW4]; exact hsr.keep (S := fun _ => False) ((Keeps.refl _ _).alloc _) (fun h => h)
          rw [← hW4] at hW5
          have h45 : Keeps (fun _ => False) W4 W5 := by rw [hW5]; exact (Keeps.refl _ _).alloc _
          have hk5 : Keeps (fun b => b = C0) wr W5 := hk4.trans h45 (fun _ _ h => h.elim)
          have hC5 := hC4.keep h45 (fun h => h)
          have hdn := (hpp.out.keep hk4 (fun b _ hb e => hb.1.2.2.2 e)).mono (D' := fun b => Dc A0 B0 C0 X b ∧ b < W5.heap.size) fun b _ hb => ⟨hb.1, by have := hk5.size; omega⟩
          have hda := ((HCK.out.dc hkz).lt.keep hk4 (fun b _ hb e => hb.1.1.2.2.2 e)).mono (D' := fun b => Dc A0 B0 C0 X b ∧ b < W5.heap.size) fun b _ hb => ⟨hb.1.1, by have := hb.2; have := hk5.size; omega⟩
          have hla : ah.length = 8 := by have := hda.len; simpa using this.symm
          have hcs := HCK.out.sizes
          have hrow : Rd W5 (fun b => Dc A0 B0 C0 X b ∧ b < W5.heap.size) (.sl 8 (ah ++ pipeD m)) (.slice (some ⟨W4.heap.size, 0, none⟩) 2 2) := rd_lit (k := 8) (m := 2) (hda.app hdn) (by rw [List.length_append, hla, comb_len0]) (by decide) hW5 ⟨⟨by omega, by omega, by omega, by omega⟩, by rw [hW5]; simp⟩
          rw [hs4] at hrow
          have hd5 : RdL W5 (fun b => Dc A0 B0 C0 X b ∧ b < W5.heap.size) (ndR kd false [] [] [] [] (ah ++ pipeD m) []) [.int .i64 (kd : Nat), .bool false, .string ⟨#[]⟩, .slice none 0 0, .slice none 0 0, .slice none 0 0, .slice (some ⟨wr.heap.size + 1, 0, none⟩) 2 2, .slice none 0 0] := ⟨.int _, .bool _, .str _, .nil _ _ _ (Nat.zero_le _), .nil _ _ _ (Nat.zero_le _), .nil _ _ _ (Nat.zero_le _), hrow, .nil _ _ _ (Nat.zero_le _), trivial⟩
          have hcomb : combD kd ah (pipeD m) = ndR kd false [] [] [] [] (ah ++ pipeD m) [] := if_neg hkz
          rw [← hcomb] at hd5
          have HNX := Lib.hid (show ∀ w6, w6 = W5.alloc (.cells (aV ua).toArray 40) → ChK w1 w6 X A0 B0 C0 ua 1 (combD kd ah (pipeD m)) [.int .i64 (kd : Nat), .bool false, .string ⟨#[]⟩, .slice none 0 0, .slice none 0 0, .slice none 0 0, .slice (some ⟨wr.heap.size + 1, 0, none⟩) 2 2, .slice none 0 0] (some ⟨W5.heap.size, 0, none⟩) 0 1 from fun w6 h6 => HCK.out.next hk5 hC5 ⟨_, _, _, _, _, _, _, _, _, _, _, _, _, _, _, _, _, _, rfl⟩ hd5 h6 1)
          have HW5 := Lib.hid hW5
          have hs5 : W5.heap.size = wr.heap.size + 1 + 1 := by rw [hW5]; simp [hs4]
          have HS5 := Lib.hid hs5
          have HW4 := Lib.hid hW4
          clear hW5 hW4 hk5 hC5 hd5 hcomb hsk hsr hs5 hk4 hC4 h45 hdn hda hla hrow hs4 hcs
          go_wp2_with fail
          go_roundw
          case rel => exact ⟨i + 1, S, kd, combD kd ah (pipeD m), _, _, 1, 1, rfl, rfl, rfl, by simp, Nat.le_refl _, Lib.hid ⟨0, 1, rfl, Nat.zero_le _, by rw [← HS5.out]; exact HNX.out _ (by rw [HW5.out, HW4.out]), .inr ⟨by omega, rfl, by rw [HTX.out, List.take_of_length_le (by omega)], by rw [HCH.out, List.drop_eq_nil_of_le (by omega)]; rfl⟩⟩⟩
          case measure => simp [intOf]
end Go.Proofs.YtcahifkiiabioaaDoor
