/-
  Commands and words of any kind, as data; what they are in memory.
-/
import Derived.Test.YtiihpbccabeoeaaGreatDoorZPkE
namespace Go.Proofs.YtiihpbccabeoeaaGreatDoor
open Go.RowKit
set_option linter.unusedVariables false
structure Px where
  kind : Int
  text : Bs
  name : Bs
  op : Bs
  word : List Dt
  quoted : Bool
def Px.row (x : Px) : List Dt := [.int x.kind, .str x.text, .str x.name, .str x.op, .sl 6 x.word, .bool x.quoted]
def PartsD : Nat → List Dt → Prop
  | 0, ds => ds = []
  | n + 1, ds => ∃ xs : List Px, ds = xs.flatMap Px.row ∧ ∀ x ∈ xs, PartsD n x.word
structure Ny where
  kind : Int
  nt : Bool
  nm : Bs
  ws : List (List Dt)
  gs : List (Bs × List Dt)
  rs : List (Bs × List Dt)
  ks : List Dt
  ar : List (List (List Dt) × List Dt)
def wdD (w : List Dt) : List Dt := [.sl 6 w]
def prD (g : Bs × List Dt) : List Dt := [.str g.1, .sl 6 g.2]
def arD (a : List (List Dt) × List Dt) : List Dt := [.sl 1 (a.1.flatMap wdD), .sl 8 a.2]
def Ny.row (x : Ny) : List Dt := [.int x.kind, .bool x.nt, .str x.nm, .sl 1 (x.ws.flatMap wdD), .sl 2 (x.gs.flatMap prD), .sl 2 (x.rs.flatMap prD), .sl 8 x.ks, .sl 2 (x.ar.flatMap arD)]
def NodesD : Nat → List Dt → Prop
  | 0, ds => ds = []
  | n + 1, ds => ∃ xs : List Ny, ds = xs.flatMap Ny.row ∧ ∀ x ∈ xs, (∀ v ∈ x.ws, PartsD n v) ∧ (∀ g ∈ x.gs, PartsD n g.2) ∧ (∀ g ∈ x.rs, PartsD n g.2) ∧ NodesD n x.ks ∧ ∀ a ∈ x.ar, (∀ v ∈ a.1, PartsD n v) ∧ NodesD n a.2
theorem flatLen {α : Type} {f : α → List Dt} {k : Nat} (hf : ∀ a, (f a).length = k) : ∀ xs : List α, (xs.flatMap f).length = xs.length * k
  | [] => by simp
  | x :: t => by rw [List.flatMap_cons, List.length_append, hf, flatLen hf t, List.length_cons]; rw [Nat.succ_mul]; omega
theorem flatAt {α : Type} {f : α → List Dt} {k : Nat} (hf : ∀ a, (f a).length = k) : ∀ {xs : List α} {i : Nat} (hi : i < xs.length) {j : Nat} (hj : j < k), (xs.flatMap f)[i * k + j]? = (f xs[i])[j]?
  | x :: t, 0, hi, j, hj => by
    rw [List.flatMap_cons, Nat.zero_mul, Nat.zero_add, List.getElem?_append_left (by rw [hf]; exact hj)]; rfl
  | x :: t, i + 1, hi, j, hj => by
    rw [List.flatMap_cons, List.getElem?_append_right (by rw [hf, Nat.succ_mul]; omega), hf, show (i + 1) * k + j - k = i * k + j by rw [Nat.succ_mul]; omega]
    exact flatAt hf (xs := t) (by simpa using hi) hj
theorem flatInj {α : Type} {f : α → List Dt} {k : Nat} (hk : 0 < k) (hf : ∀ a, (f a).length = k) (hi : ∀ a b, f a = f b → a = b) : ∀ xs ys : List α, xs.flatMap f = ys.flatMap f → xs = ys
  | [], [], _ => rfl
  | [], y :: u, h => by
    have := congrArg List.length h
    rw [flatLen hf, flatLen hf, List.length_cons, Nat.succ_mul, List.length_nil] at this
    omega
  | x :: t, [], h => by
    have := congrArg List.length h
    rw [flatLen hf, flatLen hf, List.length_cons, Nat.succ_mul, List.length_nil] at this
    omega
  | x :: t, y :: u, h => by
    rw [List.flatMap_cons, List.flatMap_cons] at h
    obtain ⟨h1, h2⟩ := List.append_inj h (by rw [hf, hf])
    rw [hi _ _ h1, flatInj hk hf hi t u h2]
theorem px_inj (a b : Px) (h : a.row = b.row) : a = b := by
  cases a; cases b
  simp only [Px.row, List.cons.injEq, Dt.int.injEq, Dt.str.injEq, Dt.sl.injEq, Dt.bool.injEq, true_and, and_true] at h
  obtain ⟨h0, h1, h2, h3, h4, h5⟩ := h
  subst h0 h1 h2 h3 h4 h5
  rfl
theorem wd_inj (a b : List Dt) (h : wdD a = wdD b) : a = b := by
  simp only [wdD, List.cons.injEq, Dt.sl.injEq, true_and, and_true] at h
  exact h
theorem pr_inj (a b : Bs × List Dt) (h : prD a = prD b) : a = b := by
  simp only [prD, List.cons.injEq, Dt.sl.injEq, Dt.str.injEq, true_and, and_true] at h
  exact Prod.ext h.1 h.2
theorem ar_inj (a b : List (List Dt) × List Dt) (h : arD a = arD b) : a = b := by
  simp only [arD, List.cons.injEq, Dt.sl.injEq, true_and, and_true] at h
  exact Prod.ext (flatInj (k := 1) (by decide) (fun _ => rfl) wd_inj _ _ h.1) h.2
theorem ny_inj (a b : Ny) (h : a.row = b.row) : a = b := by
  cases a; cases b
  simp only [Ny.row, List.cons.injEq, Dt.int.injEq, Dt.str.injEq, Dt.sl.injEq, Dt.bool.injEq, true_and, and_true] at h
  obtain ⟨h0, h1, h2, h3, h4, h5, h6, h7⟩ := h
  have h3 := flatInj (k := 1) (by decide) (fun _ => rfl) wd_inj _ _ h3
  have h4 := flatInj (k := 2) (by decide) (fun _ => rfl) pr_inj _ _ h4
  have h5 := flatInj (k := 2) (by decide) (fun _ => rfl) pr_inj _ _ h5
  have h7 := flatInj (k := 2) (by decide) (fun _ => rfl) ar_inj _ _ h7
  subst h0 h1 h2 h3 h4 h5 h6 h7
  rfl
section
variable {w : World} {D : Nat → Prop} {a : Option Addr} {m c : Nat}
theorem rdRecs {α : Type} {f : α → List Dt} {k : Nat} (hf : ∀ a, (f a).length = k) (hk : 0 < k) {xs : List α} (h : Rd w D (.sl k (xs.flatMap f)) (.slice a m c)) :
    m = xs.length ∧ ∀ i (hi : i < xs.length), ∃ b off, a = some ⟨b, off, none⟩ ∧ b < w.heap.size ∧ ∀ j, j < k → ∃ u, w.cell? ⟨b, off + i * k + j, none⟩ = some u ∧ ∀ d, (f xs[i])[j]? = some d → Rd w D d u := by
  obtain ⟨a', m', c', e, hl, _, _⟩ := h.shape hk
  injection e with e1 e2 e3
  subst e1 e2 e3
  rw [flatLen hf] at hl
  refine ⟨(Nat.eq_of_mul_eq_mul_right hk hl).symm, fun i hi => ?_⟩
  have hpos : i * k + k ≤ xs.length * k := by rw [← Nat.succ_mul]; exact Nat.mul_le_mul_right _ hi
  obtain ⟨b, off, u0, rfl, hb, _, _, _⟩ := h.cell (j := i * k) (by rw [flatLen hf]; omega)
  refine ⟨b, off, rfl, hb, fun j hj => ?_⟩
  have hj2 : i * k + j < (xs.flatMap f).length := by rw [flatLen hf]; omega
  obtain ⟨b2, off2, u, e, _, _, h1, h2⟩ := h.cell hj2
  injection e with e
  injection e with e1 e2 e3
  subst e1 e2
  refine ⟨u, by rw [Nat.add_assoc]; exact h1, fun d hd2 => ?_⟩
  rw [← flatAt hf hi hj, List.getElem?_eq_getElem hj2] at hd2
  rw [← Option.some.inj hd2]
  exact h2
theorem rdBound {k : Nat} {cs : List Dt} (hk : 0 < k) (h : Rd w D (.sl k cs) (.slice a m c)) : m ≤ 9223372036854775807 := by
  obtain ⟨a', m', c', e, _, h1, h2⟩ := h.shape hk
  injection e with e1 e2 e3
  subst e1 e2 e3
  unfold maxLen at h2
  omega
theorem rdInt {n : Int} {u : Value} (h : Rd w D (.int n) u) : u = .int .i64 n := by cases h; rfl
theorem rdBool {b : Bool} {u : Value} (h : Rd w D (.bool b) u) : u = .bool b := by cases h; rfl
theorem rdStr {l : List UInt8} {u : Value} (h : Rd w D (.str l) u) : u = .string ⟨l.toArray⟩ := by cases h; rfl
theorem rdSl {k : Nat} {cs : List Dt} {u : Value} (hk : 0 < k) (h : Rd w D (.sl k cs) u) : ∃ xa xl xc, u = .slice xa xl xc := by
  obtain ⟨a, m, c, rfl, _⟩ := h.shape hk
  exact ⟨a, m, c, rfl⟩
theorem partsAt {xs : List Px} (h : Rd w D (.sl 6 (xs.flatMap Px.row)) (.slice a m c)) {i : Nat} (hi : i < xs.length) :
    ∃ (g o : Nat) (xa : Option Addr) (xl xc : Nat), a = some ⟨g, o, none⟩ ∧ g < w.heap.size ∧
      (w.cell? ⟨g, o + i * 6, none⟩ = some (.int .i64 xs[i].kind) ∧ w.cell? ⟨g, o + i * 6 + 1, none⟩ = some (.string ⟨xs[i].text.toArray⟩) ∧ w.cell? ⟨g, o + i * 6 + 2, none⟩ = some (.string ⟨xs[i].name.toArray⟩) ∧ w.cell? ⟨g, o + i * 6 + 3, none⟩ = some (.string ⟨xs[i].op.toArray⟩) ∧ w.cell? ⟨g, o + i * 6 + 4, none⟩ = some (.slice xa xl xc) ∧ w.cell? ⟨g, o + i * 6 + 5, none⟩ = some (.bool xs[i].quoted)) ∧
      Rd w D (.sl 6 xs[i].word) (.slice xa xl xc) := by
  obtain ⟨b, off, rfl, hb, hF⟩ := (rdRecs (k := 6) (fun _ => rfl) (by decide) h).2 i hi
  obtain ⟨u0, c0, r0⟩ := hF 0 (by decide)
  obtain ⟨u1, c1, r1⟩ := hF 1 (by decide)
  obtain ⟨u2, c2, r2⟩ := hF 2 (by decide)
  obtain ⟨u3, c3, r3⟩ := hF 3 (by decide)
  obtain ⟨u4, c4, r4⟩ := hF 4 (by decide)
  obtain ⟨u5, c5, r5⟩ := hF 5 (by decide)
  generalize xs[i] = x at *
  obtain rfl := rdInt (n := x.kind) (r0 _ rfl)
  obtain rfl := rdStr (l := x.text) (r1 _ rfl)
  obtain rfl := rdStr (l := x.name) (r2 _ rfl)
  obtain rfl := rdStr (l := x.op) (r3 _ rfl)
  have s4 : Rd w D (.sl 6 x.word) u4 := r4 _ rfl
  obtain ⟨xa, xl, xc, rfl⟩ := rdSl (by decide) s4
  obtain rfl := rdBool (b := x.quoted) (r5 _ rfl)
  exact ⟨b, off, xa, xl, xc, rfl, hb, ⟨c0, c1, c2, c3, c4, c5⟩, s4⟩
theorem wordsAt {ws : List (List Dt)} (h : Rd w D (.sl 1 (ws.flatMap wdD)) (.slice a m c)) {i : Nat} (hi : i < ws.length) :
    ∃ (g o : Nat) (xa : Option Addr) (xl xc : Nat), a = some ⟨g, o, none⟩ ∧ g < w.heap.size ∧ w.cell? ⟨g, o + i, none⟩ = some (.slice xa xl xc) ∧ Rd w D (.sl 6 ws[i]) (.slice xa xl xc) := by
  obtain ⟨b, off, rfl, hb, hF⟩ := (rdRecs (k := 1) (fun _ => rfl) (by decide) h).2 i hi
  obtain ⟨u, h1, h2⟩ := hF 0 (by decide)
  have s4 : Rd w D (.sl 6 ws[i]) u := h2 _ rfl
  obtain ⟨xa, xl, xc, rfl⟩ := rdSl (by decide) s4
  exact ⟨b, off, xa, xl, xc, rfl, hb, by rw [Nat.mul_one, Nat.add_zero] at h1; exact h1, s4⟩
theorem pairsAt {gs : List (Bs × List Dt)} (h : Rd w D (.sl 2 (gs.flatMap prD)) (.slice a m c)) {i : Nat} (hi : i < gs.length) :
    ∃ (g o : Nat) (xa : Option Addr) (xl xc : Nat), a = some ⟨g, o, none⟩ ∧ g < w.heap.size ∧ w.cell? ⟨g, o + i * 2, none⟩ = some (.string ⟨gs[i].1.toArray⟩) ∧ w.cell? ⟨g, o + i * 2 + 1, none⟩ = some (.slice xa xl xc) ∧ Rd w D (.sl 6 gs[i].2) (.slice xa xl xc) := by
  obtain ⟨b, off, rfl, hb, hF⟩ := (rdRecs (k := 2) (fun _ => rfl) (by decide) h).2 i hi
  obtain ⟨u0, c0, r0⟩ := hF 0 (by decide)
  obtain ⟨u1, c1, r1⟩ := hF 1 (by decide)
  obtain rfl := rdStr (l := gs[i].1) (r0 _ rfl)
  have s4 : Rd w D (.sl 6 gs[i].2) u1 := r1 _ rfl
  obtain ⟨xa, xl, xc, rfl⟩ := rdSl (by decide) s4
  exact ⟨b, off, xa, xl, xc, rfl, hb, c0, c1, s4⟩
theorem armsAt {ar : List (List (List Dt) × List Dt)} (h : Rd w D (.sl 2 (ar.flatMap arD)) (.slice a m c)) {i : Nat} (hi : i < ar.length) :
    ∃ (g o : Nat) (pa : Option Addr) (pn pc : Nat) (ba : Option Addr) (bn bc : Nat), a = some ⟨g, o, none⟩ ∧ g < w.heap.size ∧ w.cell? ⟨g, o + i * 2, none⟩ = some (.slice pa pn pc) ∧ w.cell? ⟨g, o + i * 2 + 1, none⟩ = some (.slice ba bn bc) ∧ Rd w D (.sl 1 (ar[i].1.flatMap wdD)) (.slice pa pn pc) ∧ Rd w D (.sl 8 ar[i].2) (.slice ba bn bc) := by
  obtain ⟨b, off, rfl, hb, hF⟩ := (rdRecs (k := 2) (fun _ => rfl) (by decide) h).2 i hi
  obtain ⟨u0, c0, r0⟩ := hF 0 (by decide)
  obtain ⟨u1, c1, r1⟩ := hF 1 (by decide)
  have s0 : Rd w D (.sl 1 (ar[i].1.flatMap wdD)) u0 := r0 _ rfl
  have s1 : Rd w D (.sl 8 ar[i].2) u1 := r1 _ rfl
  obtain ⟨pa, pn, pc, rfl⟩ := rdSl (by decide) s0
  obtain ⟨ba, bn, bc, rfl⟩ := rdSl (by decide) s1
  exact ⟨b, off, pa, pn, pc, ba, bn, bc, rfl, hb, c0, c1, s0, s1⟩
structure NyV (w : World) (D : Nat → Prop) (x : Ny) (v : Nat → Value) : Prop where
  k : v 0 = .int .i64 x.kind
  t : v 1 = .bool x.nt
  n : v 2 = .string ⟨x.nm.toArray⟩
  ws : Rd w D (.sl 1 (x.ws.flatMap wdD)) (v 3)
  gs : Rd w D (.sl 2 (x.gs.flatMap prD)) (v 4)
  rs : Rd w D (.sl 2 (x.rs.flatMap prD)) (v 5)
  ks : Rd w D (.sl 8 x.ks) (v 6)
  ar : Rd w D (.sl 2 (x.ar.flatMap arD)) (v 7)
theorem nodesAt {xs : List Ny} (h : Rd w D (.sl 8 (xs.flatMap Ny.row)) (.slice a m c)) {i : Nat} (hi : i < xs.length) :
    ∃ (g o : Nat) (v : Nat → Value), a = some ⟨g, o, none⟩ ∧ g < w.heap.size ∧ (∀ j, j < 8 → w.cell? ⟨g, o + i * 8 + j, none⟩ = some (v j)) ∧ NyV w D xs[i] v := by
  obtain ⟨b, off, rfl, hb, hF⟩ := (rdRecs (k := 8) (fun _ => rfl) (by decide) h).2 i hi
  have hch : ∃ v : Nat → Value, ∀ j, j < 8 → w.cell? ⟨b, off + i * 8 + j, none⟩ = some (v j) ∧ ∀ d, (xs[i].row)[j]? = some d → Rd w D d (v j) :=
    ⟨fun j => if hj : j < 8 then Classical.choose (hF j hj) else .int .i64 0, fun j hj => by
      have e : (if hj : j < 8 then Classical.choose (hF j hj) else Value.int .i64 0) = Classical.choose (hF j hj) := dif_pos hj
      show w.cell? _ = some (if hj : j < 8 then Classical.choose (hF j hj) else Value.int .i64 0) ∧ ∀ d, (xs[i].row)[j]? = some d → Rd w D d (if hj : j < 8 then Classical.choose (hF j hj) else Value.int .i64 0)
      rw [e]
      exact Classical.choose_spec (hF j hj)⟩
  obtain ⟨v, hv⟩ := hch
  refine ⟨b, off, v, rfl, hb, fun j hj => (hv j hj).1, ?_⟩
  generalize xs[i] = x at *
  exact ⟨rdInt ((hv 0 (by decide)).2 _ rfl), rdBool ((hv 1 (by decide)).2 _ rfl), rdStr ((hv 2 (by decide)).2 _ rfl), (hv 3 (by decide)).2 _ rfl, (hv 4 (by decide)).2 _ rfl, (hv 5 (by decide)).2 _ rfl, (hv 6 (by decide)).2 _ rfl, (hv 7 (by decide)).2 _ rfl⟩
end
end Go.Proofs.YtiihpbccabeoeaaGreatDoor
