/-
  The document's Same, of commands of any kind.
-/
import Derived.Test.YtiihpbccabeoeaaGreatDoorZPsB
import Derived.Test.YtiihpbccabeoeaaGreatDoorZPkF
import Derived.Deep.RegionHeld3
namespace Go.Proofs.YtiihpbccabeoeaaGreatDoor
open Go.RowKit
set_option linter.unusedVariables false
structure NyR (w : World) (D : Nat → Prop) (x : Ny) (wa : Option Addr) (wl wc : Nat) (ga : Option Addr) (gl gc : Nat) (ra : Option Addr) (rl rcp : Nat) (ka : Option Addr) (kl kc : Nat) (aa : Option Addr) (al ac : Nat) : Prop where
  ws : Rd w D (.sl 1 (x.ws.flatMap wdD)) (.slice wa wl wc)
  gs : Rd w D (.sl 2 (x.gs.flatMap prD)) (.slice ga gl gc)
  rs : Rd w D (.sl 2 (x.rs.flatMap prD)) (.slice ra rl rcp)
  ks : Rd w D (.sl 8 x.ks) (.slice ka kl kc)
  ar : Rd w D (.sl 2 (x.ar.flatMap arD)) (.slice aa al ac)
theorem NyR.keep0 {w w' : World} {D : Nat → Prop} {x : Ny} {wa ga ra ka aa : Option Addr} {wl wc gl gc rl rcp kl kc al ac : Nat} (h : NyR w D x wa wl wc ga gl gc ra rl rcp ka kl kc aa al ac) (hk : Keeps (fun _ => False) w w') : NyR w' D x wa wl wc ga gl gc ra rl rcp ka kl kc aa al ac := ⟨rdKeep0 h.ws hk, rdKeep0 h.gs hk, rdKeep0 h.rs hk, rdKeep0 h.ks hk, rdKeep0 h.ar hk⟩
theorem nodesAt2 {w : World} {D : Nat → Prop} {a : Option Addr} {m c : Nat} {xs : List Ny} (h : Rd w D (.sl 8 (xs.flatMap Ny.row)) (.slice a m c)) {i : Nat} (hi : i < xs.length) :
    ∃ (g o : Nat) (wa : Option Addr) (wl wc : Nat) (ga : Option Addr) (gl gc : Nat) (ra : Option Addr) (rl rcp : Nat) (ka : Option Addr) (kl kc : Nat) (aa : Option Addr) (al ac : Nat), a = some ⟨g, o, none⟩ ∧ g < w.heap.size ∧
      (w.cell? ⟨g, o + i * 8, none⟩ = some (.int .i64 xs[i].kind) ∧ w.cell? ⟨g, o + i * 8 + 1, none⟩ = some (.bool xs[i].nt) ∧ w.cell? ⟨g, o + i * 8 + 2, none⟩ = some (.string ⟨xs[i].nm.toArray⟩) ∧ w.cell? ⟨g, o + i * 8 + 3, none⟩ = some (.slice wa wl wc) ∧ w.cell? ⟨g, o + i * 8 + 4, none⟩ = some (.slice ga gl gc) ∧ w.cell? ⟨g, o + i * 8 + 5, none⟩ = some (.slice ra rl rcp) ∧ w.cell? ⟨g, o + i * 8 + 6, none⟩ = some (.slice ka kl kc) ∧ w.cell? ⟨g, o + i * 8 + 7, none⟩ = some (.slice aa al ac)) ∧
      NyR w D xs[i] wa wl wc ga gl gc ra rl rcp ka kl kc aa al ac := by
  obtain ⟨g, o, v, rfl, hg, hc, hv⟩ := nodesAt h hi
  obtain ⟨wa, wl, wc, e3⟩ := rdSl (by decide) hv.ws
  obtain ⟨ga, gl, gc, e4⟩ := rdSl (by decide) hv.gs
  obtain ⟨ra, rl, rcp, e5⟩ := rdSl (by decide) hv.rs
  obtain ⟨ka, kl, kc, e6⟩ := rdSl (by decide) hv.ks
  obtain ⟨aa, al, ac, e7⟩ := rdSl (by decide) hv.ar
  exact ⟨g, o, wa, wl, wc, ga, gl, gc, ra, rl, rcp, ka, kl, kc, aa, al, ac, rfl, hg, ⟨by rw [← hv.k]; exact hc 0 (by decide), by rw [← hv.t]; exact hc 1 (by decide), by rw [← hv.n]; exact hc 2 (by decide), by rw [← e3]; exact hc 3 (by decide), by rw [← e4]; exact hc 4 (by decide), by rw [← e5]; exact hc 5 (by decide), by rw [← e6]; exact hc 6 (by decide), by rw [← e7]; exact hc 7 (by decide)⟩, by rw [← e3]; exact hv.ws, by rw [← e4]; exact hv.gs, by rw [← e5]; exact hv.rs, by rw [← e6]; exact hv.ks, by rw [← e7]; exact hv.ar⟩
def NyOK (n : Nat) (x : Ny) : Prop := (∀ v ∈ x.ws, PartsD n v) ∧ (∀ g ∈ x.gs, PartsD n g.2) ∧ (∀ g ∈ x.rs, PartsD n g.2) ∧ NodesD n x.ks ∧ ∀ a ∈ x.ar, (∀ v ∈ a.1, PartsD n v) ∧ NodesD n a.2
theorem NodesD.out {n : Nat} {ds : List Dt} (h : NodesD n ds) : ∃ xs : List Ny, ds = xs.flatMap Ny.row ∧ ∀ x ∈ xs, 0 < n ∧ NyOK (n - 1) x := by
  cases n with
  | zero => exact ⟨[], h, fun x hx => by cases hx⟩
  | succ n =>
    obtain ⟨xs, h1, h2⟩ := h
    exact ⟨xs, h1, fun x hx => ⟨Nat.succ_pos _, h2 x hx⟩⟩
theorem ny_iff {xs ys : List Ny} : xs.flatMap Ny.row = ys.flatMap Ny.row ↔ xs = ys := ⟨flatInj (k := 8) (by decide) (fun _ => rfl) ny_inj xs ys, fun h => by rw [h]⟩
theorem Ny.ext' {x y : Ny} (h0 : x.kind = y.kind) (h1 : x.nt = y.nt) (h2 : x.nm = y.nm) (h3 : x.ws = y.ws) (h4 : x.gs = y.gs) (h5 : x.rs = y.rs) (h6 : x.ks = y.ks) (h7 : x.ar = y.ar) : x = y := by
  cases x; cases y
  dsimp only at h0 h1 h2 h3 h4 h5 h6 h7
  subst h0 h1 h2 h3 h4 h5 h6 h7
  rfl
theorem take_all {α} {a b : List α} {k : Nat} (ha : k = a.length) (hb : k = b.length) (h : a.take k = b.take k) : a = b := by
  rw [List.take_of_length_le (by omega), List.take_of_length_le (by omega)] at h
  exact h
def SameOKx (N : Nat) : Prop := ∀ (n m : Nat), n < N → ∀ (w : World) (D E : Nat → Prop) (ds es : List Dt) (aa ba : Option Addr) (an ac bn bc : Nat), NodesD n ds → NodesD m es → Rd w D (.sl 8 ds) (.slice aa an ac) → Rd w E (.sl 8 es) (.slice ba bn bc) →
  Calls Tryz.prog 11 #[.slice aa an ac, .slice ba bn bc] w (SamePost w (ds = es))
end Go.Proofs.YtiihpbccabeoeaaGreatDoor
