/-
  The document's Expand, whole.
-/
import Derived.Test.YtglppnpllpfaeaaMacY
namespace Go.Proofs.Ytglppnpllpfaeaa
open Go.RowKit
set_option linter.unusedVariables false

/-- What the document's Expand hands back. -/
def RExpPost (w : World) (res : Except Nat Bs) (e : Ending) (w' : World) : Prop :=
  ∃ (X : ByteArray) (x : Int), e = .returned (.tuple #[.string X, .int .i64 x]) ∧ Keeps (fun _ => False) w w' ∧ (x = 0 → res = .ok X.data.toList) ∧ X.size ≤ 16384
theorem rexp_of {w W w' : World} {xb : Nat} {lv av : Value} {l auto : List (Bs × Bs)} {s : Bs} {tr : MR} (htr : tr = textF (refF l auto 40 []) 0 s) {e : Ending} (hk : Keeps (fun _ => False) w W) (hxb : w.heap.size = xb)
    (h : YPost W xb lv av l auto tr e w') : ∃ (X : ByteArray) (x : Int), e = .returned (.tuple #[.string X, .int .i64 x]) ∧ Keeps (fun _ => False) w w' ∧ (x = 0 → expandF l auto s = .ok X.data.toList) ∧ X.size ≤ 16384 := by
  have key : ∀ {w' : World}, Keeps (fun b => b = xb) W w' → Keeps (fun _ => False) w w' := fun h => hk.trans h (fun b hb e => by omega)
  cases tr with
  | error x =>
    obtain ⟨rfl, h0, h1⟩ := h
    exact ⟨⟨#[]⟩, x, rfl, key h1, fun h => by omega, by decide⟩
  | ok z =>
    obtain ⟨y, r⟩ := z
    obtain ⟨rfl, h0, h1⟩ := h
    refine ⟨⟨y.toArray⟩, 0, rfl, key h1, fun _ => ?_, ?_⟩
    · rw [expandF_out, ← htr]
      show Except.ok y = Except.ok _
      simp
    · rw [Lib.size_eq]
      have := textF_len htr.symm
      simpa using this
set_option maxRecDepth 100000 in
set_option maxHeartbeats 8000000 in
theorem refExpandTop_any (s : ByteArray) (lv av : Value) (l auto : List (Bs × Bs)) (w : World) (hs : s.size ≤ 140737488351232) (hl : PairsAt w (fun _ => True) lv l) (ha : PairsAt w (fun _ => True) av auto) (hsm : Small l ∧ Small auto) :
    Calls Try.prog 15 #[.string s, lv, av] w (RExpPost w (expandF l auto s.data.toList)) := by
  obtain ⟨la, ln, lc, rfl⟩ : ∃ (a : Option Addr) (n c : Nat), lv = .slice a n c := by obtain ⟨a, c, e, _⟩ := hl; exact ⟨_, _, _, e⟩
  obtain ⟨ua, un, uc, rfl⟩ : ∃ (a : Option Addr) (n c : Nat), av = .slice a n c := by obtain ⟨a, c, e, _⟩ := ha; exact ⟨_, _, _, e⟩
  obtain ⟨tr, htr⟩ : ∃ tr, tr = textF (refF l auto 40 []) 0 s.data.toList := ⟨_, rfl⟩
  obtain ⟨W, hW⟩ : ∃ W, W = w.alloc (.cells #[.slice la ln lc, .slice ua un uc, .int .i64 0] 55) := ⟨_, rfl⟩
  have hk0 : Keeps (fun _ => False) w W := by rw [hW]; exact (Keeps.refl _ _).alloc _
  have a1 := heap_alloc_new w (.cells #[.slice la ln lc, .slice ua un uc, .int .i64 0] 55)
  rw [← hW] at a1
  have hx : YAt W w.heap.size (.slice la ln lc) (.slice ua un uc) l auto 0 := by
    have key : ∀ v q, PairsAt w (fun _ => True) v q → PairsAt W (fun b => b ≠ w.heap.size) v q := fun v q hp => by
      obtain ⟨a, c, e, hq, H⟩ := hp
      refine ⟨a, c, e, hq, fun i hi => ?_⟩
      obtain ⟨b, off, ea, hb, _, c1, c2⟩ := H i hi
      refine ⟨b, off, ea, Nat.lt_of_lt_of_le hb hk0.size, by omega, ?_, ?_⟩
      · rw [World.cell?_of_block (hk0.block b hb (fun h => h))]; exact c1
      · rw [World.cell?_of_block (hk0.block b hb (fun h => h))]; exact c2
    exact ⟨⟨_, a1⟩, key _ l hl, key _ auto ha, by omega⟩
  have hcall := refText_all l auto hsm 40 W w.heap.size (.slice la ln lc) (.slice ua un uc) (.slice none 0 0) [] 0 0 s hx (OpAt.nil _ _) (Nat.le_refl _) rfl hs
  rw [← htr] at hcall
  have HCALL := Lib.hid hcall
  have HTR := Lib.hid htr
  have HK0 := Lib.hid hk0
  have HW := Lib.hid hW
  clear htr hW hk0 a1 hx hcall hl ha
  go_enter Try.func15, Try.ntmps15
  go_wp2_with fail
  rw [← HW.out]
  refine HCALL.out.mono ?_
  intro e w4 hp
  obtain ⟨X, x, rfl, hk4, hz, hsz⟩ := rexp_of HTR.out HK0.out rfl hp
  have HZ := Lib.hid hz
  have HK4 := Lib.hid hk4
  clear hz hk4 hp
  go_wp2_with fail
  go_ret2
  exact ⟨X, x, rfl, HK4.out, HZ.out, hsz⟩
end Go.Proofs.Ytglppnpllpfaeaa
