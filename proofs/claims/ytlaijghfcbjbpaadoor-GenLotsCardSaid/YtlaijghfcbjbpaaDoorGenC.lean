/-
  The contract of gen.Makefile.
-/
import Derived.Test.YtlaijghfcbjbpaaDoorGenB
namespace Go.Proofs.YtlaijghfcbjbpaaDoor
open Go.RowKit Go.Joins

def needsF (i n : Nat) : Nat → Int → List UInt8 × Int
  | 0, s => ([], s)
  | k + 1, s => ((needsF i n k s).1 ++ (needF i n (needsF i n k s).2).1, (needF i n (needsF i n k s).2).2)
def tailF (i k : Nat) : List UInt8 :=
  if 0 < k then [10, 9, 99, 97, 116, 32, 36, 94, 32, 62, 32, 36, 64, 10] else [10, 9, 101, 99, 104, 111, 32] ++ Lib.decDigits i ++ [32, 62, 32, 36, 64, 10]
def headF (i : Nat) : List UInt8 := [116] ++ Lib.decDigits i ++ [58]
def tgtF (i n : Nat) (s : Int) : List UInt8 × Int :=
  (headF i ++ (needsF i n (nextV s 3).toNat (nextS s)).1 ++ tailF i (nextV s 3).toNat, (needsF i n (nextV s 3).toNat (nextS s)).2)
def makeF (n : Nat) : Nat → Int → List UInt8 × Int
  | 0, s => ([], s)
  | i + 1, s => ((makeF n i s).1 ++ (tgtF i n (makeF n i s).2).1, (tgtF i n (makeF n i s).2).2)

theorem needF_len (i n : Nat) (s : Int) (_ : i < 50) (hn : n ≤ 50) : (needF i n s).1.length ≤ 4 := by
  obtain ⟨u, hu, hu3⟩ := nextV3 (nextS s)
  unfold needF
  split
  · simp; have := dec_len (i + 1 + (nextV s 3).toNat) (by omega); omega
  · simp; have := dec_len (nextV (nextS s) 3).toNat (by rw [hu]; simp; omega); omega
theorem needsF_len (i n k : Nat) (s : Int) (hi : i < 50) (hn : n ≤ 50) : (needsF i n k s).1.length ≤ 4 * k := by
  induction k with
  | zero => simp [needsF]
  | succ k ih =>
    have := needF_len i n (needsF i n k s).2 hi hn
    simp only [needsF, List.length_append]; omega
theorem headF_len (i : Nat) (hi : i < 50) : (headF i).length ≤ 4 := by
  have := dec_len i (by omega)
  simp [headF]; omega
theorem tailF_len (i k : Nat) (hi : i < 50) : (tailF i k).length ≤ 20 := by
  have := dec_len i (by omega)
  unfold tailF
  split <;> simp <;> omega
theorem tgtF_len (i n : Nat) (s : Int) (hi : i < 50) (hn : n ≤ 50) : (tgtF i n s).1.length ≤ 40 := by
  obtain ⟨u, hu, hu3⟩ := nextV3 s
  have h1 := headF_len i hi
  have h2 := needsF_len i n (nextV s 3).toNat (nextS s) hi hn
  have h3 := tailF_len i (nextV s 3).toNat hi
  have : (nextV s 3).toNat = u := by rw [hu]; simp
  simp only [tgtF, List.length_append]; omega
theorem makeF_len (n i : Nat) (s : Int) (hi : i ≤ 50) (hn : n ≤ 50) : (makeF n i s).1.length ≤ 40 * i := by
  induction i with
  | zero => simp [makeF]
  | succ k ih =>
    have := tgtF_len k n (makeF n k s).2 (by omega) hn
    have := ih (by omega)
    simp only [makeF, List.length_append]; omega

def clamp (n : Int) (m : Nat) : Nat := min n.toNat m
theorem clamp_eq (n : Int) (m : Nat) : min (max 0 n) (m : Int) = (clamp n m : Int) := by
  unfold clamp; omega
theorem clamp_le (n : Int) (m : Nat) : clamp n m ≤ m := Nat.min_le_right _ _

/-- A builder that holds l, in blocks from B on. -/
def BuildAt (B : Nat) (l : List UInt8) (w : World) : Prop := Lib.IsBuilder 57 5 B B (Lib.byteCells l) w
theorem BuildAt.lt {B : Nat} {l : List UInt8} {w : World} (h : BuildAt B l w) : B < w.heap.size := by
  rcases h with h | h <;> exact h.lt
theorem BuildAt.grown {B L : Nat} {l : List UInt8} {w w' : World} (h : BuildAt B l w) (g : w.grownBy w' (some L)) (hL : L < B) : BuildAt B l w' := by
  have key : ∀ p, Lib.BuilderAt 57 5 B B p (Lib.byteCells l) w → Lib.BuilderAt 57 5 B B p (Lib.byteCells l) w' := by
    rintro p ⟨h1, v, h2, h3, h4⟩
    refine ⟨h1, v, (g.block B (Array.getElem?_eq_some_iff.1 h2).1 (by simp; omega)).trans h2, h3.kept g ?_, h4⟩
    cases hv : v.ownBlock with
    | none => exact Or.inl rfl
    | some x =>
      have := h3.lt x hv
      exact Or.inr (by simp; omega)
  rcases h with h | h
  · exact Or.inl (key _ h)
  · exact Or.inr (key _ h)
theorem BuildAt.new (w : World) : BuildAt w.heap.size [] (w.alloc (.cells #[.pointer none, .slice none 0 0] 57)) := Lib.fresh_isBuilder _ _ w
theorem write_build (B : Nat) (l : List UInt8) (s : ByteArray) (w : World) (h : BuildAt B l w) (hlen : l.length + s.size ≤ 140737488355328) :
    Calls Tryd.prog 37 #[.pointer (some ⟨B, 0, none⟩), .string s] w fun e w' => e = .returned (.tuple #[.int .i64 s.size, .nilIface]) ∧ BuildAt B (l ++ s.data.toList) w' ∧ Below B w w' :=
  write_str B B l s w h hlen (Nat.le_of_lt h.lt)
theorem string_build (B : Nat) (l : List UInt8) (w : World) (h : BuildAt B l w) :
    Calls Tryd.prog 39 #[.pointer (some ⟨B, 0, none⟩)] w fun e w' => e = .returned (.string ⟨l.toArray⟩) ∧ Below B w w' :=
  Tryd.Builder_String_any B B l w h (Nat.le_of_lt h.lt)

theorem makefile_any (s n : Int) (w : World) :
    Calls Tryd.prog 18 #[.int .i64 s, .int .i64 n] w fun e w' => e = .returned (.string ⟨(makeF (clamp n 50) (clamp n 50) (low s)).1.toArray⟩) ∧ Below w.heap.size w w' := by
  obtain ⟨z, hz⟩ : ∃ z, z = clamp n 50 := ⟨_, rfl⟩
  have hz50 : z ≤ 50 := by rw [hz]; exact clamp_le _ _
  have hzi : min (max 0 n) 50 = (z : Int) := by rw [hz]; exact clamp_eq n 50
  rw [← hz]
  have HZ := Lib.hid hzi; clear hz hzi
  obtain ⟨s0, hs0⟩ : ∃ s0, s0 = low s := ⟨_, rfl⟩
  go_enter Tryd.func18, Tryd.ntmps18
  go_wp2_with fail
  refine (new_any s _).mono ?_
  rintro e w1 ⟨rfl, T, rfl⟩
  rw [← hs0]
  have HS0 := Lib.hid hs0; clear hs0
  go_wp2_with fail
  rw [HZ.out]
  have hl0 := (LotAt.new w s0 T).alloc (.cells #[.pointer none, .slice none 0 0] 57)
  have hb0 := BuildAt.new (w.alloc (.cells #[.int .i64 s0] T))
  have hbel0 := below_alloc2 w (.cells #[.int .i64 s0] T) (.cells #[.pointer none, .slice none 0 0] 57)
  rw [show (w.alloc (.cells #[.int .i64 s0] T)).heap.size = w.heap.size + 1 by simp] at hb0
  obtain ⟨w2, hw2⟩ : ∃ w2, w2 = (w.alloc (.cells #[.int .i64 s0] T)).alloc (.cells #[.pointer none, .slice none 0 0] 57) := ⟨_, rfl⟩
  rw [← hw2] at hl0 hb0 hbel0 ⊢
  clear hw2
  have HL0 := Lib.hid hl0; have HB0 := Lib.hid hb0; have HBE0 := Lib.hid hbel0
  clear hl0 hb0 hbel0
  obtain ⟨L, hL⟩ : ∃ L, L = w.heap.size := ⟨_, rfl⟩
  rw [← hL] at HL0 HB0 HBE0 ⊢
  have HLW := Lib.hid hL; clear hL
  go_loopw [15] (fun i wr => ∃ k : Nat, k ≤ z ∧ i = .int .i64 k ∧ BuildAt (L + 1) (makeF z k s0).1 wr ∧ LotAt wr L (makeF z k s0).2 ∧ Below L w wr) (fun i _ => z - (intOf i).toNat)
  case atStart => exact ⟨0, Nat.zero_le _, rfl, HB0.out, HL0.out, HBE0.out⟩
  case round =>
    obtain ⟨k, hk, rfl, hb, hl, hbel⟩ := hrel
    clear HB0 HL0 HBE0
    by_cases hlt : k < z
    · have hml := makeF_len z k s0 (by omega) hz50
      obtain ⟨acc, hacc⟩ : ∃ acc, acc = (makeF z k s0).1 := ⟨_, rfl⟩
      obtain ⟨s1, hs1⟩ : ∃ s1, s1 = (makeF z k s0).2 := ⟨_, rfl⟩
      rw [← hacc] at hb hml
      rw [← hs1] at hl
      have HACC := Lib.hid hacc; have HS1 := Lib.hid hs1
      have HB := Lib.hid hb; have HL := Lib.hid hl; have HBE := Lib.hid hbel
      clear hacc hs1 hb hl hbel
      go_wp2_with fail
      refine (dec_any k (by omega) _).mono ?_
      rintro e w3 ⟨⟨D, rfl, hD, hDl⟩, rfl⟩
      have HD := Lib.hid hD; clear hD
      go_wp2_with fail
      refine (write_build (L + 1) acc _ _ HB.out (by simp [ByteArray.size_append, show (⟨#[116]⟩ : ByteArray).size = 1 from rfl, show (⟨#[58]⟩ : ByteArray).size = 1 from rfl]; omega)).mono ?_
      rintro e w4 ⟨rfl, hb, hbel⟩
      have hx : acc ++ (({ data := #[116] } : ByteArray) ++ D ++ { data := #[58] }).data.toList = acc ++ headF k := by simp [headF, HD.out]
      rw [hx] at hb
      have hl := HL.out.below hbel (by omega)
      replace HB := Lib.hid hb; replace HL := Lib.hid hl; replace HBE := Lib.hid (HBE.out.trans (hbel.mono (by omega)))
      clear hb hl hbel hx
      go_wp2_with fail
      refine (next_lot L s1 3 _ HL.out).mono ?_
      rintro e w5 ⟨rfl, hl, hg⟩
      obtain ⟨v, hv, hv3⟩ := nextV3 s1
      rw [hv]
      have HV := Lib.hid hv; clear hv
      replace HB := Lib.hid (HB.out.grown hg (by omega)); have hLt := HL.out.lt
      replace HL := Lib.hid hl
      replace HBE := Lib.hid (HBE.out.grown hg (by omega) (by simp))
      clear hl hg hLt
      have hF : tgtF k z s1 = (headF k ++ (needsF k z v (nextS s1)).1 ++ tailF k v, (needsF k z v (nextS s1)).2) := by
        unfold tgtF; rw [HV.out]; simp
      have HF := Lib.hid hF; clear hF
      obtain ⟨s2, hs2⟩ : ∃ s2, s2 = nextS s1 := ⟨_, rfl⟩
      rw [← hs2] at HF HL
      clear hs2
      go_wp2_with fail
      go_loopw [26] (fun i wr => ∃ j : Nat, j ≤ v ∧ i = .int .i64 j ∧ BuildAt (L + 1) (acc ++ headF k ++ (needsF k z j s2).1) wr ∧ LotAt wr L (needsF k z j s2).2 ∧ Below L w wr) (fun i _ => v - (intOf i).toNat)
      case atStart => exact ⟨0, Nat.zero_le _, rfl, by simpa [needsF] using HB.out, HL.out, HBE.out⟩
      case round =>
        obtain ⟨j, hj, rfl, hb, hl, hbel⟩ := hrel
        clear HB HL HBE
        have hnl := needsF_len k z j s2 (by omega) hz50
        have hhl := headF_len k (by omega)
        by_cases hlt2 : j < v
        · obtain ⟨acc2, hacc2⟩ : ∃ acc2, acc2 = (needsF k z j s2).1 := ⟨_, rfl⟩
          obtain ⟨s3, hs3⟩ : ∃ s3, s3 = (needsF k z j s2).2 := ⟨_, rfl⟩
          rw [← hacc2] at hb hnl
          rw [← hs3] at hl
          have hfl := needF_len k z s3 (by omega) hz50
          have HACC2 := Lib.hid hacc2; have HS3 := Lib.hid hs3
          have HB := Lib.hid hb; have HL := Lib.hid hl; have HBE := Lib.hid hbel
          clear hacc2 hs3 hb hl hbel
          go_wp2_with fail
          refine (need_any L k z s3 _ HL.out (by omega) hz50).mono ?_
          rintro e w6 ⟨⟨S, rfl, hS⟩, hl, hg⟩
          have hLt := HL.out.lt
          have hSl : S.size ≤ 4 := by rw [Lib.size_eq, hS]; exact hfl
          have HS := Lib.hid hS; clear hS
          replace HL := Lib.hid hl
          replace HB := Lib.hid (HB.out.grown hg (by omega))
          replace HBE := Lib.hid (HBE.out.grown hg (by omega) (by simp))
          clear hl hg hLt
          go_wp2_with fail
          refine (write_build (L + 1) _ _ _ HB.out (by simp; omega)).mono ?_
          rintro e w7 ⟨rfl, hb, hbel⟩
          have hl := HL.out.below hbel (by omega)
          replace HB := Lib.hid hb; replace HL := Lib.hid hl; replace HBE := Lib.hid (HBE.out.trans (hbel.mono (by omega)))
          clear hb hl hbel
          go_wp2_with fail
          go_roundw
          case rel => exact ⟨j + 1, by omega, by go_num, by simp only [needsF]; rw [← HACC2.out, ← HS3.out, ← HS.out, ← List.append_assoc]; exact HB.out, by simp only [needsF]; rw [← HS3.out]; exact HL.out, HBE.out⟩
          case measure => simp [intOf]; omega
        · obtain rfl : j = v := by omega
          have HB := Lib.hid hb; have HL := Lib.hid hl; have HBE := Lib.hid hbel
          clear hb hl hbel
          by_cases hv0 : 0 < j
          · have hT : tailF k j = [10, 9, 99, 97, 116, 32, 36, 94, 32, 62, 32, 36, 64, 10] := by unfold tailF; rw [if_pos hv0]
            have HT := Lib.hid hT; clear hT
            go_wp2_with fail
            refine (write_build (L + 1) _ _ _ HB.out (by simp; (try simp [ByteArray.size]); omega)).mono ?_
            rintro e w7 ⟨rfl, hb, hbel⟩
            have hl := HL.out.below hbel (by omega)
            replace HB := Lib.hid hb; replace HL := Lib.hid hl; replace HBE := Lib.hid (HBE.out.trans (hbel.mono (by omega)))
            clear hb hl hbel
            go_wp2_with fail
            go_roundw
            case rel => exact ⟨k + 1, by omega, by go_num, by simp only [makeF]; rw [← HACC.out, ← HS1.out, HF.out, HT.out, ← List.append_assoc, ← List.append_assoc]; exact HB.out, by simp only [makeF]; rw [← HS1.out, HF.out]; exact HL.out, HBE.out⟩
            case measure => simp [intOf]; omega
          · have hT : tailF k j = [10, 9, 101, 99, 104, 111, 32] ++ Lib.decDigits k ++ [32, 62, 32, 36, 64, 10] := by unfold tailF; rw [if_neg hv0]
            have HT := Lib.hid hT; clear hT
            go_wp2_with fail
            refine (dec_any k (by omega) _).mono ?_
            rintro e w7 ⟨⟨D2, rfl, hD2, hD2l⟩, rfl⟩
            have HD2 := Lib.hid hD2; clear hD2
            go_wp2_with fail
            refine (write_build (L + 1) _ _ _ HB.out (by simp [ByteArray.size_append, show (⟨#[10, 9, 101, 99, 104, 111, 32]⟩ : ByteArray).size = 7 from rfl, show (⟨#[32, 62, 32, 36, 64, 10]⟩ : ByteArray).size = 6 from rfl]; omega)).mono ?_
            rintro e w7 ⟨rfl, hb, hbel⟩
            have hl := HL.out.below hbel (by omega)
            replace HB := Lib.hid hb; replace HL := Lib.hid hl; replace HBE := Lib.hid (HBE.out.trans (hbel.mono (by omega)))
            clear hb hl hbel
            go_wp2_with fail
            go_roundw
            case rel => exact ⟨k + 1, by omega, by go_num, by simp only [makeF]; rw [← HACC.out, ← HS1.out, HF.out, HT.out, ← List.append_assoc, ← List.append_assoc]; simpa [HD2.out] using HB.out, by simp only [makeF]; rw [← HS1.out, HF.out]; exact HL.out, HBE.out⟩
            case measure => simp [intOf]; omega
    · obtain rfl : k = z := by omega
      have HB := Lib.hid hb; have HBE := Lib.hid hbel
      clear hb hl hbel
      go_wp2_with fail
      refine (string_build (L + 1) _ _ HB.out).mono ?_
      rintro e w8 ⟨rfl, hbel⟩
      replace HBE := Lib.hid (HBE.out.trans (hbel.mono (by omega)))
      clear hbel
      go_wp2_with fail
      go_ret
      exact ⟨by rw [← HS0.out]; rfl, by rw [← HLW.out]; exact HBE.out⟩
end Go.Proofs.YtlaijghfcbjbpaaDoor
