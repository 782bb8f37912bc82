/-
  strconv.FormatUint to base 16.
-/
import Derived.Test.YtnddnhjlaojllaaDoorRealAE
namespace Go.Proofs.YtnddnhjlaojllaaDoor
open Go.RowKit
set_option linter.unusedVariables false

theorem cellx_lt {w : World} {b o : Nat} {v : Value} (h : w.cell? ⟨b, o, none⟩ = some v) : b < w.heap.size := by
  rcases Nat.lt_or_ge b w.heap.size with h2 | h2
  · exact h2
  · exfalso
    unfold World.cell? at h
    rw [Array.getElem?_eq_none h2] at h
    cases h
/-- The table that the library's TrailingZeros64 reads, at the one place. -/
def TZ (w : World) : Prop := w.cell? ⟨6, 15, none⟩ = some (.int .u8 4)
theorem TZ.keep {w w' : World} {B : Nat} (h : TZ w) (hb : Below B w w') (hB : w.heap.size ≤ B) : TZ w' := by
  unfold TZ at h ⊢
  have hlt := cellx_lt h
  rw [World.cell?_of_block (hb.block _ (by exact Nat.lt_of_lt_of_le hlt hB))]
  exact h
set_option maxHeartbeats 4000000 in
theorem zeros64_16 (w : World) (h : TZ w) : Calls Tryd.prog 88 #[.int .u64 16] w fun e w' => e = .returned (.int .i64 4) ∧ w = w' := by
  unfold TZ at h
  have e1 : bits .and .u64 16 (IntKind.u64.wrap (-16)) = 16 := by decide +kernel
  have e2 : (IntKind.u64.wrap (16 * 285870213051353865) / 288230376151711744).toNat = 15 := by decide +kernel
  have e3 : IntKind.u64.wrap (16 * 285870213051353865) = 4573923408821661840 := by decide +kernel
  go_enter Tryd.func88, Tryd.ntmps88
  go_wp2_with fail
  go_ret
  exact ⟨rfl, rfl⟩
theorem zeros_16 (w : World) (h : TZ w) : Calls Tryd.prog 83 #[.int .u64 16] w fun e w' => e = .returned (.int .i64 4) ∧ w = w' := by
  go_enter Tryd.func83, Tryd.ntmps83
  go_wp2_with fail
  refine (zeros64_16 w h).mono ?_
  rintro e w1 ⟨rfl, rfl⟩
  go_wp2_with fail
  go_ret
  exact ⟨rfl, rfl⟩
theorem pow2_16 (w : World) : Calls Tryd.prog 82 #[.int .i64 16] w fun e w' => e = .returned (.bool true) ∧ w = w' := by
  go_enter Tryd.func82, Tryd.ntmps82
  go_wp2_with fail
  go_ret
  refine ⟨?_, rfl⟩
  show Ending.returned (.bool (bits .and .i64 16 15 == 0)) = _
  rw [show bits .and .i64 16 15 = 0 by decide +kernel]
  rfl
/-- The array of digits, as it stands behind the loop's writes: its last cells are l. -/
structure ArrAt (w0 w : World) (B : Nat) (l : Bt) : Prop where
  len : l.length ≤ 65
  row : ∀ j, j < 65 → ∃ x, w.cell? ⟨B, j, none⟩ = some (.int .u8 x) ∧ w.frozen? ⟨B, j, none⟩ = false
  cells : ∀ j (h : j < l.length), w.cell? ⟨B, 65 - l.length + j, none⟩ = some (.int .u8 (l[j].toNat : Int))
  below : Below w0.heap.size w0 w
  lies : B = w0.heap.size
theorem ArrAt.start (w : World) : ArrAt w (w.alloc (.cells Tryd.zeroCells95 95)) w.heap.size [] := by
  refine ⟨by decide, fun j hj => ⟨0, ?_, by simp⟩, fun j hj => absurd hj (Nat.not_lt_zero _), ?_, rfl⟩
  · rw [World.cell?_alloc_new]
    have hs : Tryd.zeroCells95 = Array.replicate 65 (.int .u8 0) := by rfl
    rw [hs]
    simp [hj]
  · exact Below.alloc (Below.refl _ _) (Nat.le_refl _) _
theorem ArrAt.drew {w0 w : World} {B : Nat} {l : Bt} (h : ArrAt w0 w B l) : ArrAt w0 w.drew B l :=
  ⟨h.len, h.row, h.cells, Below.drew h.below, h.lies⟩
theorem ArrAt.step {w0 w : World} {B : Nat} {l : Bt} (h : ArrAt w0 w B l) (hl : l.length < 65) (c : UInt8) (i : Nat) (hi : i = 65 - l.length - 1) :
    ArrAt w0 (w.setCell ⟨B, i, none⟩ (.int .u8 (c.toNat : Int))) B (c :: l) := by
  subst hi
  obtain ⟨x0, hx0, hf0⟩ := h.row (65 - l.length - 1) (by omega)
  refine ⟨by rw [List.length_cons]; omega, fun j hj => ?_, fun j hj => ?_, ?_, h.lies⟩
  · obtain ⟨x, hx, hf⟩ := h.row j hj
    by_cases e : j = 65 - l.length - 1
    · exact ⟨c.toNat, by rw [e]; exact World.cell?_setCell_same _ _ _ hx0, by rw [World.frozen?_setCell]; exact hf⟩
    · refine ⟨x, ?_, by rw [World.frozen?_setCell]; exact hf⟩
      rw [World.cell?_setCell_other _ _ _ _ (fun h => e (by have := congrArg Addr.off h; simpa using this.symm))]
      exact hx
  · rw [List.length_cons] at hj ⊢
    cases j with
    | zero =>
      rw [show 65 - (l.length + 1) + 0 = 65 - l.length - 1 by omega]
      exact World.cell?_setCell_same _ _ _ hx0
    | succ j =>
      rw [show 65 - (l.length + 1) + (j + 1) = 65 - l.length + j by omega, World.cell?_setCell_other _ _ _ _ (fun h => by have := congrArg Addr.off h; simp at this; omega), List.getElem_cons_succ]
      exact h.cells j (by omega)
  · exact Below.setCell h.below (by rw [h.lies]; exact Nat.le_refl _) _
theorem hexS_pos (u : Nat) : 1 ≤ (hexS u).length := by
  rw [hexS]
  split <;> simp
def D36 : ByteArray := ⟨#[48, 49, 50, 51, 52, 53, 54, 55, 56, 57, 97, 98, 99, 100, 101, 102, 103, 104, 105, 106, 107, 108, 109, 110, 111, 112, 113, 114, 115, 116, 117, 118, 119, 120, 121, 122]⟩
theorem D36_at {v : Nat} (h : v < 16) (h' : v < D36.size) : D36[v] = hexC v := by
  have : ∀ v : Fin 16, D36.data.toList[v.val]? = some (hexC v.val) := by decide +kernel
  have h2 := this ⟨v, h⟩
  rw [byte_here D36 v h'] at h2
  exact Option.some.inj h2
theorem and_15 (x : Nat) (hx : x < 18446744073709551616) : bits .and .u64 (x : Int) 15 = ((x % 16 : Nat) : Int) := by
  rw [show (15 : Int) = ((15 : Nat) : Int) from rfl, and_u64 x 15 hx (by decide), show (15 : Nat) = 2 ^ 4 - 1 from rfl, Nat.and_two_pow_sub_one_eq_mod]
theorem hexS_bound {x u : Nat} {l : Bt} (h : hexS u = hexS x ++ l) : hexN (hexS x) ≤ x := by
  have : ∀ k y, y < 16 ^ (k + 1) → hexN (hexS y) = y := by
    intro k
    induction k with
    | zero => intro y hy; rw [hexS, dif_pos (by simpa using hy)]; exact (show 0 * 16 + hexV (hexC y) = y by rw [(hexC_parts (by simpa using hy)).2]; omega)
    | succ k ih =>
      intro y hy
      rw [Nat.pow_succ] at hy
      by_cases h16 : y < 16
      · rw [hexS, dif_pos h16]; exact (show 0 * 16 + hexV (hexC y) = y by rw [(hexC_parts h16).2]; omega)
      · rw [hexS, dif_neg h16, hexN_snoc, ih (y / 16) (by omega), (hexC_parts (show y % 16 < 16 by omega)).2]; omega
  exact Nat.le_of_eq (this x x (Nat.lt_of_lt_of_le (Nat.lt_pow_self (by decide : 1 < 16)) (Nat.pow_le_pow_right (by decide) (by omega))))
set_option maxRecDepth 100000 in
set_option maxHeartbeats 8000000 in
theorem formatBits_16 (u : Nat) (hu : u < 18446744073709551616) (w : World) (h : TZ w) :
    Calls Tryd.prog 70 #[.slice none 0 0, .int .u64 u, .int .i64 16, .bool false, .bool false] w fun e w' => e = .returned (.tuple #[.slice none 0 0, .string ⟨(hexS u).toArray⟩]) ∧ Below w.heap.size w w' := by
  obtain ⟨B, hB⟩ : ∃ B, B = w.heap.size := ⟨_, rfl⟩
  obtain ⟨W, hW⟩ : ∃ W, W = w.alloc (.cells Tryd.zeroCells95 95) := ⟨_, rfl⟩
  have harr : ArrAt w W B [] := by rw [hW, hB]; exact ArrAt.start w
  have HTZ := Lib.hid (show TZ W from h.keep harr.below (Nat.le_refl _))
  have HARR := Lib.hid harr
  have HB := Lib.hid hB
  have HW := Lib.hid hW
  have h16 := Lib.hid (hex_pad 15 u (show u < 16 ^ 16 from hu)).1
  have HU := Lib.hid hu
  clear h hB hW harr hu
  go_enter Tryd.func70, Tryd.ntmps70
  go_wp2_with fail
  refine (pow2_16 _).mono ?_
  rintro e w1 ⟨rfl, rfl⟩
  go_wp2_with fail
  rw [← HW.out, ← HB.out]
  refine (zeros_16 _ HTZ.out).mono ?_
  rintro e w1 ⟨rfl, rfl⟩
  go_wp2_with fail
  go_loopg [1, 13] 20 (fun k vu vi wr => ∃ (x : Nat) (l : Bt), k = 20 - l.length ∧ vu = .int .u64 x ∧ vi = .int .i64 (65 - l.length : Nat) ∧ ArrAt w wr B l ∧ hexS u = hexS x ++ l ∧ x ≤ u)
  case atStart => exact ⟨u, [], rfl, rfl, rfl, HARR.out, by simp, Nat.le_refl _⟩
  case round =>
    obtain ⟨x, l, hgk, rfl, rfl, hA, hS, hxu⟩ := hrel
    have HGK := Lib.hid hgk
    have HA := Lib.hid hA
    have HS := Lib.hid hS
    have hl15 : l.length ≤ 15 := by
      have h1 := congrArg List.length hS
      rw [List.length_append] at h1
      have := hexS_pos x
      have := h16.out
      omega
    have HXU := Lib.hid hxu
    obtain ⟨⟨y, hc0, hf0⟩⟩ : Nonempty (∃ y, wr.cell? ⟨B, 65 - l.length - 1, none⟩ = some (.int .u8 y) ∧ wr.frozen? ⟨B, 65 - l.length - 1, none⟩ = false) := ⟨hA.row _ (by omega)⟩
    obtain ⟨v, hv⟩ : ∃ v, v = x % 16 := ⟨_, rfl⟩
    have hx64 : x < 18446744073709551616 := Nat.lt_of_le_of_lt hxu HU.out
    have eand : bits .and .u64 (x : Int) 15 = (v : Int) := by rw [hv]; exact and_15 x hx64
    have hv16 : v < 16 := by omega
    have HV := Lib.hid hv
    clear hgk hA hS hxu hx64 hv
    by_cases h1 : x < 16
    · have q1 : ¬ (16 : Int) ≤ (x : Int) := by omega
      clear eand
      go_upto_region 30 with (fail)
      go_name_world W2 hW0
      have hW2 : W2 = wr.setCell ⟨B, 65 - l.length - 1, none⟩ (.int .u8 ((D36[x]'(by rw [show D36.size = 36 from rfl]; omega)).toNat : Int)) := hW0.symm
      clear hW0
      have hA2 : ArrAt w W2 B (hexC x :: l) := by
        rw [hW2, D36_at h1]
        exact HA.out.step (by omega) _ _ rfl
      have hS2 : hexC x :: l = hexS u := by
        rw [HS.out, hexS, dif_pos h1]; rfl
      have hsl : ∀ W, (Instr.sliceAt 95 (.pointer (some ⟨B, 0, none⟩)) (some (.int .i64 (((65 - l.length : Nat) : Int) - 1))) none none).run Tryd.prog W = .ok (.slice (some ⟨B, 65 - l.length - 1, none⟩) (hexC x :: l).length (hexC x :: l).length) W := fun W => by
        have hal : Tryd.prog.arrayLen 95 = 65 := by kernel_rfl
        have hel : Tryd.prog.elem 95 = 5 := by kernel_rfl
        have hsz : (sizeOf 5).run Tryd.prog W = .ok 1 W := by go_simp
        rw [run_sliceAt_array_l W 95 ⟨B, 0, none⟩ (by kernel_rfl) .i64 _ (by omega) (by rw [hal]; omega), hel, hsz, hal]
        show Result.ok (slicedAt ⟨B, 0, none⟩ (((65 - l.length : Nat) : Int) - 1).toNat 65 65 1) W = _
        unfold slicedAt
        rw [if_neg (by omega), Lib.add_plain, List.length_cons, show (((65 - l.length : Nat) : Int) - 1).toNat = 65 - l.length - 1 by omega, show 0 + (65 - l.length - 1) * 1 = 65 - l.length - 1 by omega, show 65 - (65 - l.length - 1) = l.length + 1 by omega]
      have hcv : (convert 64 9 (.slice (some ⟨B, 65 - l.length - 1, none⟩) (hexC x :: l).length (hexC x :: l).length)).run Tryd.prog W2 = .ok (.string ⟨(hexC x :: l).toArray⟩) W2 :=
        run_convert_bytes_back (P := Tryd.prog) W2 64 9 5 ⟨B, 65 - l.length - 1, none⟩ _ (hexC x :: l) Tryd.underlying64 Tryd.underlying5 Tryd.underlying9 (fun j hj => by
          have h2 := hA2.cells j hj
          rw [List.length_cons, show 65 - (l.length + 1) = 65 - l.length - 1 by omega] at h2
          rw [Lib.add_plain]
          exact h2)
      rw [hS2] at hsl hcv
      have HA2 := Lib.hid hA2.below
      have HW2 := Lib.hid hW2
      obtain ⟨N, hN⟩ : ∃ N, N = (hexS u).length := ⟨_, rfl⟩
      obtain ⟨SB, hSB⟩ : ∃ SB : ByteArray, SB = ⟨(hexS u).toArray⟩ := ⟨_, rfl⟩
      rw [← hN] at hsl hcv
      rw [← hSB] at hcv
      have HSB := Lib.hid hSB
      clear hA2 hW2 hS2 hN hSB hc0 hf0
      go_wp2_with fail
      go_ret2
      exact ⟨by rw [← HSB.out]; rfl, HA2.out⟩
    · have q1 : (16 : Int) ≤ (x : Int) := by omega
      go_wp2_with fail
      go_roundg (20 - (l.length + 1))
      case measure => have := HGK.out; omega
      case rel =>
        refine ⟨x / 16, hexC v :: l, by rw [List.length_cons], rfl, ?_, ?_, ?_, ?_⟩
        · rw [List.length_cons]; congr 1; omega
        · show ArrAt w (wr.setCell ⟨B, 65 - l.length - 1, none⟩ (.int .u8 ((D36[v]'(by rw [show D36.size = 36 from rfl]; omega)).toNat : Int))) B (hexC v :: l)
          rw [D36_at hv16]
          exact HA.out.step (by omega) _ _ rfl
        · rw [HS.out, hexS, dif_neg h1, HV.out, List.append_assoc]; rfl
        · have := HXU.out; omega
end Go.Proofs.YtnddnhjlaojllaaDoor
