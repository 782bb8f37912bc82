/-
  Expand, whole.
-/
import Derived.Test.YtglppnpllpfaeaaMacM
namespace Go.Proofs.Ytglppnpllpfaeaa
open Go.RowKit
set_option linter.unusedVariables false

def outF : MR → Except Nat Bs
  | .error e => .error e
  | .ok (t, _) => .ok t
theorem expandF_out (l auto : List (Bs × Bs)) (s : Bs) : expandF l auto s = outF (textF (refF l auto 40 []) 0 s) := by
  show (match textF (refF l auto 40 []) 0 s with | .error e => _ | .ok (t, _) => _) = _
  cases textF (refF l auto 40 []) 0 s <;> rfl
set_option maxRecDepth 100000 in
set_option maxHeartbeats 8000000 in
theorem expand_any (s : ByteArray) (lv av : Value) (l auto : List (Bs × Bs)) (w : World) (hs : s.size ≤ 140737488351232) (hl : PairsAt w (fun _ => True) lv l) (ha : PairsAt w (fun _ => True) av auto) (hsm : Small l ∧ Small auto) (gl : ∃ m : Int, w.cell? ⟨0, 0, none⟩ = some (.int .i64 m)) :
    Calls Try.prog 13 #[.string s, lv, av] w (ExpPost w (expandF l auto s.data.toList)) := by
  have hmf : ∀ (fn : Fn) (first cap : Array Value) (w : World), (Instr.makeFunc fn first cap).run Try.prog w = .ok (.func fn first cap) w := fun _ _ _ _ => rfl
  obtain ⟨la, ln, lc, rfl⟩ : ∃ (a : Option Addr) (n c : Nat), lv = .slice a n c := by obtain ⟨a, c, e, _⟩ := hl; exact ⟨_, _, _, e⟩
  obtain ⟨ua, un, uc, rfl⟩ : ∃ (a : Option Addr) (n c : Nat), av = .slice a n c := by obtain ⟨a, c, e, _⟩ := ha; exact ⟨_, _, _, e⟩
  obtain ⟨tr, htr⟩ : ∃ tr, tr = textF (refF l auto 40 []) 0 s.data.toList := ⟨_, rfl⟩
  have hex : expandF l auto s.data.toList = outF tr := by rw [htr, expandF_out]
  rw [hex]
  have HTR := Lib.hid htr
  obtain ⟨W, hW⟩ : ∃ W, W = ((w.alloc (.cells #[.string ⟨#[]⟩] 9)).alloc (.cells #[.int .i64 0] 25)).alloc (.cells #[.slice la ln lc, .slice ua un uc, .slice none 0 0, .int .i64 0, .int .i64 0] 51) := ⟨_, rfl⟩
  have hk0 : Keeps (fun _ => False) w W := by rw [hW]; exact (((Keeps.refl _ _).alloc _).alloc _).alloc _
  have a1 := heap_alloc_new w (.cells #[.string ⟨#[]⟩] 9)
  have a2 := heap_alloc_new (w.alloc (.cells #[.string ⟨#[]⟩] 9)) (.cells #[.int .i64 0] 25)
  have a3 := heap_alloc_new ((w.alloc (.cells #[.string ⟨#[]⟩] 9)).alloc (.cells #[.int .i64 0] 25)) (.cells #[.slice la ln lc, .slice ua un uc, .slice none 0 0, .int .i64 0, .int .i64 0] 51)
  rw [show (w.alloc (.cells #[.string ⟨#[]⟩] 9)).heap.size = w.heap.size + 1 by simp] at a2
  rw [show ((w.alloc (.cells #[.string ⟨#[]⟩] 9)).alloc (.cells #[.int .i64 0] 25)).heap.size = w.heap.size + 1 + 1 by simp, ← hW] at a3
  have h2 : Res2 W w.heap.size := by
    have k1 : Keeps (fun _ => False) (w.alloc (.cells #[.string ⟨#[]⟩] 9)) W := by rw [hW]; exact ((Keeps.refl _ _).alloc _).alloc _
    have k2 : Keeps (fun _ => False) ((w.alloc (.cells #[.string ⟨#[]⟩] 9)).alloc (.cells #[.int .i64 0] 25)) W := by rw [hW]; exact (Keeps.refl _ _).alloc _
    exact ⟨_, _, (k1.block _ (by simp) (fun h => h)).trans a1, (k2.block _ (by simp) (fun h => h)).trans a2⟩
  obtain ⟨m, hm⟩ := gl
  have hx : XAt W (w.heap.size + 1 + 1) (.slice la ln lc) (.slice ua un uc) (.slice none 0 0) l auto [] 0 0 := by
    have hkb : Keeps (fun b => w.heap.size ≤ b) w W := hk0.mono fun b _ h => h.elim
    have key : ∀ v q, PairsAt w (fun _ => True) v q → PairsAt W (fun b => b < w.heap.size + 1 + 1) v q := fun v q hp => by
      obtain ⟨a, c, e, hq, H⟩ := hp
      refine ⟨a, c, e, hq, fun i hi => ?_⟩
      obtain ⟨b, off, ea, hb, _, c1, c2⟩ := H i hi
      refine ⟨b, off, ea, Nat.lt_of_lt_of_le hb hk0.size, by omega, ?_, ?_⟩
      · rw [World.cell?_of_block (hk0.block b hb (fun h => h))]; exact c1
      · rw [World.cell?_of_block (hk0.block b hb (fun h => h))]; exact c2
    exact ⟨⟨_, a3⟩, key _ l hl, key _ auto ha, World.ownsRow_nil _ _ _ _, fun g hg => (by cases hg), Nat.le_refl _, by omega, by omega, ⟨m, by rw [World.cell?_of_block (hk0.block 0 (cellx_lt hm) (fun h => h))]; exact hm⟩, by omega⟩
  have hcall := text_all l auto hsm 40 W (w.heap.size + 1 + 1) (.slice la ln lc) (.slice ua un uc) (.slice none 0 0) [] 0 0 s hx rfl hs
  rw [← htr] at hcall
  have HCALL := Lib.hid hcall
  have H2 := Lib.hid h2
  have HK0 := Lib.hid hk0
  have HW := Lib.hid hW
  clear hex htr hW hk0 a1 a2 a3 h2 hx hcall hm hl ha
  go_enter_defers Try.func13, Try.ntmps13
  go_wp2_with fail
  rw [← HW.out]
  refine HCALL.out.mono ?_
  intro e w4 hp
  cases tr with
  | error x =>
    obtain ⟨ov4, r4, rfl, hr4, hk4⟩ := hp
    have HK4 := Lib.hid hk4
    have hres := H2.out.keep hk4 (by rintro (e | e); omega; cases e) (by rintro (e | e); omega; cases e)
    obtain ⟨d0, d1, f0, f1, lt⟩ := hres.cells
    clear hr4 hk4
    go_wp2_with fail
    refine leaves_cons (f := 21) (args := #[.pointer (some ⟨w.heap.size, 0, none⟩), .pointer (some ⟨w.heap.size + 1, 0, none⟩)]) (by simp) (by simp [go_sem]) ?_
    refine (exp_catch w.heap.size (w.heap.size + 1) x _ _ [] _ d0 d1 f0 f1 (by omega) (by omega) lt).mono ?_
    rintro e u' w'' ⟨rfl, rfl, hw''⟩
    obtain ⟨k0, k1, kk⟩ := res2_set (.string ⟨#[]⟩) (.int .i64 x) hres
    have hk5 : Keeps (fun b => b = w.heap.size ∨ b = w.heap.size + 1) w4 w'' := by rw [hw'']; exact (kk.alloc _).drew
    have k0' : w''.cell? ⟨w.heap.size, 0, none⟩ = some (.string ⟨#[]⟩) := by
      rw [hw'']
      exact (World.cell?_of_block (((Keeps.refl (fun _ => False) _).alloc _).drew.block _ (by simp [World.setCell]; omega) (fun h => h))).trans k0
    have k1' : w''.cell? ⟨w.heap.size + 1, 0, none⟩ = some (.int .i64 x) := by
      rw [hw'']
      exact (World.cell?_of_block (((Keeps.refl (fun _ => False) _).alloc _).drew.block _ (by simp [World.setCell]; omega) (fun h => h))).trans k1
    simp [Leaves, settle, results, Try.results13, go_sem, k0', k1']
    refine ⟨rfl, (HK0.out.trans HK4.out (fun b hb e => ?_)).trans hk5 (fun b hb e => ?_)⟩
    · rcases e with e | e
      · omega
      · cases e
    · rcases e with e | e <;> omega
  | ok z =>
    obtain ⟨t, r⟩ := z
    obtain ⟨ov4, rfl, hx4, hn4, hk4⟩ := hp
    have HK4 := Lib.hid hk4
    have hres := H2.out.keep hk4 (by rintro (e | e); omega; cases e) (by rintro (e | e); omega; cases e)
    obtain ⟨d0, d1, f0, f1, lt⟩ := hres.cells
    obtain ⟨k0, k1, kk⟩ := res2_set (strV t) (.int .i64 0) hres
    have HKK := Lib.hid kk
    have K0 := Lib.hid k0
    have K1 := Lib.hid k1
    clear hx4 hn4 hk4 hres k0 k1 kk
    obtain ⟨TB, hTB⟩ : ∃ TB : ByteArray, TB = ⟨t.toArray⟩ := ⟨_, rfl⟩
    have HTB := Lib.hid (show strV t = .string TB by rw [hTB]; rfl)
    rw [HTB.out] at K0 K1 HKK
    rw [HTB.out]
    clear hTB
    go_wp2_with fail
    refine leaves_cons (f := 21) (args := #[.pointer (some ⟨w.heap.size, 0, none⟩), .pointer (some ⟨w.heap.size + 1, 0, none⟩)]) (by simp) (by simp [go_sem]) ?_
    refine (exp_catch_idle _ _ _).mono ?_
    rintro e u' w'' ⟨rfl, rfl, rfl⟩
    simp [Leaves, settle, results, Try.results13, go_sem, K0.out, K1.out]
    refine ⟨by rw [HTB.out], (HK0.out.trans HK4.out (fun b hb e => ?_)).trans HKK.out (fun b hb e => ?_)⟩
    · rcases e with e | e
      · omega
      · cases e
    · rcases e with e | e <;> omega
end Go.Proofs.Ytglppnpllpfaeaa
