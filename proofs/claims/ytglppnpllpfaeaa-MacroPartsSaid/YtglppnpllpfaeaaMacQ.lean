/-
  Numbers as digits; a row of pairs that a call makes.
-/
import Derived.Test.YtglppnpllpfaeaaMacNested
namespace Go.Proofs.Ytglppnpllpfaeaa
open Go.RowKit
set_option linter.unusedVariables false

/-- A number's digits; the number is less than a hundred. -/
def digF (n : Nat) : Bs := if n ≤ 9 then [UInt8.ofNat (48 + n)] else [UInt8.ofNat (48 + n / 10), UInt8.ofNat (48 + n % 10)]
def tenS : ByteArray := ⟨#[48, 49, 50, 51, 52, 53, 54, 55, 56, 57]⟩
theorem ten_at (r : Nat) (h : r ≤ 9) : (tenS.extract r (r + 1)).data.toList = [UInt8.ofNat (48 + r)] := by
  have : ∀ r : Fin 10, (tenS.extract r.val (r.val + 1)).data.toList = [UInt8.ofNat (48 + r.val)] := by decide +kernel
  exact this ⟨r, by omega⟩
theorem dig_len (n : Nat) : (digF n).length ≤ 2 := by unfold digF; split <;> simp
def DigPost (w : World) (n : Nat) (e : Ending) (w' : World) : Prop := ∃ D : ByteArray, e = .returned (.string D) ∧ D.data.toList = digF n ∧ w' = w
theorem digit_one (n : Nat) (h : n ≤ 9) (w : World) : Calls Try.prog 16 #[.int .i64 n] w (DigPost w n) := by
  have h10 : (n : Int).tmod 10 = (n : Int) := by
    rw [show (n : Int).tmod 10 = ((n % 10 : Nat) : Int) from rfl, Nat.mod_eq_of_lt (by omega)]
  have ew : IntKind.i64.wrap ((n : Int) + 1) = (n : Int) + 1 := IntWalk.i64_in _ (by omega)
  have q1 : (n : Int) ≤ (n : Int) + 1 := by omega
  have q2 : (n : Int) + 1 ≤ 10 := by omega
  have q3 : ((n : Int) + 1).toNat = n + 1 := by omega
  have q4 : ¬ (9 : Int) < (n : Int) := by omega
  go_enter Try.func16, Try.ntmps16
  go_wp2_with fail
  go_ret
  refine ⟨_, rfl, ?_, rfl⟩
  unfold digF
  rw [if_pos h]
  exact ten_at n h
theorem digits_any (n : Nat) (h : n ≤ 99) (w : World) : Calls Try.prog 16 #[.int .i64 n] w (DigPost w n) := by
  by_cases h9 : n ≤ 9
  · exact digit_one n h9 w
  · obtain ⟨r, hr⟩ : ∃ r, r = n % 10 := ⟨_, rfl⟩
    obtain ⟨q, hq⟩ : ∃ q, q = n / 10 := ⟨_, rfl⟩
    have h10 : (n : Int).tmod 10 = (r : Int) := by rw [hr]; rfl
    have h11 : (n : Int).tdiv 10 = (q : Int) := by rw [hq]; rfl
    have hr9 : r ≤ 9 := by omega
    have hq9 : q ≤ 9 := by omega
    have ew : IntKind.i64.wrap ((r : Int) + 1) = (r : Int) + 1 := IntWalk.i64_in _ (by omega)
    have ew2 : IntKind.i64.wrap (q : Int) = (q : Int) := IntWalk.i64_in _ (by omega)
    have q1 : (r : Int) ≤ (r : Int) + 1 := by omega
    have q2 : (r : Int) + 1 ≤ 10 := by omega
    have q3 : ((r : Int) + 1).toNat = r + 1 := by omega
    have q4 : (9 : Int) < (n : Int) := by omega
    have HF := Lib.hid (show digF n = [UInt8.ofNat (48 + q)] ++ [UInt8.ofNat (48 + r)] by unfold digF; rw [if_neg h9, hr, hq]; rfl)
    clear hr hq h9
    go_enter Try.func16, Try.ntmps16
    go_wp2_with fail
    refine (digit_one q hq9 _).mono ?_
    rintro e w1 ⟨D, rfl, hD, hw1⟩
    have HD := Lib.hid hD
    have hDs : D.size ≤ 2 := by rw [Lib.size_eq, hD]; exact dig_len q
    rw [hw1]
    clear hD hw1
    go_wp2_with fail
    go_ret
    refine ⟨_, rfl, ?_, rfl⟩
    rw [HF.out, ba_append, HD.out]
    unfold digF
    rw [if_pos hq9]
    exact congrArg _ (ten_at r hr9)
theorem dig_name (n : Nat) (h : n ≤ 99) : ∀ c ∈ digF n, nameB c = true ∧ c ≠ 109 := by
  have : ∀ n : Fin 100, ∀ c ∈ digF n.val, nameB c = true ∧ c ≠ 109 := by decide +kernel
  exact this ⟨n, by omega⟩
theorem dig_inj (i j : Nat) (hi : i ≤ 31) (hj : j ≤ 31) (h : digF i = digF j) : i = j := by
  have : ∀ i j : Fin 32, digF i.val = digF j.val → i.val = j.val := by decide +kernel
  exact this ⟨i, by omega⟩ ⟨j, by omega⟩ h
/-- m and a number. -/
def nm (i : Nat) : Bs := 109 :: digF i
theorem nm_name (i : Nat) (h : i ≤ 99) : ∀ c ∈ nm i, nameB c = true := fun c hc => by
  rcases List.mem_cons.1 hc with rfl | hc
  · decide
  · exact (dig_name i h c hc).1
theorem nm_inj {i j : Nat} (hi : i ≤ 31) (hj : j ≤ 31) (h : nm i = nm j) : i = j := dig_inj i j hi hj (List.cons.inj h).2
theorem nm_len (i : Nat) : (nm i).length ≤ 3 := by have := dig_len i; unfold nm; simp; omega

/-- A row of pairs of the call's own. -/
def OwnPr (w : World) (v : Value) (l : List (Bs × Bs)) : Prop := w.ownsRow 0 35 2 v l.length (cellsPr l)
theorem info_pair : (Try.prog.info? 35).map (fun i => (i.zero, i.size, i.bytes)) = some (some (.agg #[.string ⟨#[]⟩, .string ⟨#[]⟩]), 2, 32) := by kernel_rfl
theorem OwnPr.shape {w : World} {v : Value} {l : List (Bs × Bs)} (h : OwnPr w v l) : ∃ a c, v = .slice a l.length c := by
  rcases h.2 with ⟨rfl, h0⟩ | ⟨g, cap, _, rfl, _⟩
  · exact ⟨none, 0, by rw [h0]⟩
  · exact ⟨_, _, rfl⟩
theorem OwnPr.pairs {w : World} {v : Value} {l : List (Bs × Bs)} (h : OwnPr w v l) (hl : l.length ≤ 1000000) : PairsAt w (fun _ => True) v l := by
  rcases h.2 with ⟨rfl, h0⟩ | ⟨g, cap, cur, rfl, _, hg, hle, _, hs, ht⟩
  · obtain rfl : l = [] := List.eq_nil_of_length_eq_zero h0
    exact PairsAt.nil _ _
  · refine pairs_block hg (fun k u hu => ?_) rfl hl
    have hk : k < l.length * 2 := by rw [← cellsPr_len]; exact (List.getElem?_eq_some_iff.1 hu).1
    rw [← ht, List.getElem?_take_of_lt hk] at hu
    rw [← Array.getElem?_toList]; exact hu
theorem OwnPr.keep {w w' : World} {v : Value} {l : List (Bs × Bs)} {S : Nat → Prop} (h : OwnPr w v l) (hk : Keeps S w w') (hv : ∀ g, v.ownBlock = some g → ¬ S g) : OwnPr w' v l := by
  refine ⟨h.1, ?_⟩
  rcases h.2 with h0 | ⟨g, cap, cur, rfl, hb, hg, rest⟩
  · exact .inl h0
  · exact .inr ⟨g, cap, cur, rfl, hb, (hk.block g (Array.getElem?_eq_some_iff.1 hg).1 (hv g rfl)).trans hg, rest⟩
/-- A loop that makes pairs: what holds where a round begins. -/
structure PrAt (W wr : World) (v : Value) (l : List (Bs × Bs)) : Prop where
  own : OwnPr wr v l
  low : ∀ g, v.ownBlock = some g → W.heap.size ≤ g
  kp : Keeps (fun b => W.heap.size ≤ b) W wr
theorem PrAt.more {W wr w2 : World} {v : Value} {l : List (Bs × Bs)} {A B : ByteArray} {o : Obj} {g cap n : Nat} (h : PrAt W wr v l) (hn : n = l.length) (hown : w2.ownsRow 0 35 2 (.slice (some ⟨g, 0, none⟩) (n + 1) cap) (n + 1) (cellsPr l ++ [.string A, .string B])) (hgrow : (wr.alloc o).grownBy w2 v.ownBlock) (hat : v.ownBlock = some g ∨ g = wr.heap.size + 1) :
    PrAt W w2 (.slice (some ⟨g, 0, none⟩) (n + 1) cap) (l ++ [(A.data.toList, B.data.toList)]) := by
  subst hn
  have k : Keeps (fun b => v.ownBlock = some b) wr w2 := ((Keeps.refl _ wr).alloc o).grown hgrow fun k hk _ => hk
  have hgW : W.heap.size ≤ g := by
    have := h.kp.size
    rcases hat with e | e
    · exact h.low g e
    · omega
  refine ⟨?_, fun y hy => ?_, h.kp.trans k (fun b _ e => h.low b e)⟩
  · unfold OwnPr
    rw [List.length_append, cellsPr_append]
    show w2.ownsRow 0 35 2 _ (l.length + 1) (cellsPr l ++ [strV A.data.toList, strV B.data.toList])
    rw [strV_of (s := A) rfl, strV_of (s := B) rfl]
    exact hown
  · obtain rfl : g = y := Option.some.inj hy
    exact hgW
end Go.Proofs.Ytglppnpllpfaeaa
