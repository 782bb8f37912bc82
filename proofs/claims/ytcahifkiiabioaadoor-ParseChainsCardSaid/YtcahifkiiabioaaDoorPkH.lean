/-
  A simple command in memory: three slices that grow.
  A simple command.
  A function's definition.
  A command that is not simple: plain parts, and its record.
-/
import Derived.Test.YtcahifkiiabioaaDoorPkG
namespace Go.Proofs.YtcahifkiiabioaaDoor
open Go.RowKit
set_option linter.unusedVariables false

/-- One of three rows grows; the two others stay. -/
theorem grow3 {w4 : World} {X N : Nat} {P : Nat → Prop} {v v2 v3 : Value} {k k2 k3 m m2 m3 : Nat} {Ty T2 T3 : TypeId} {ds ds2 ds3 d2 : List Dt} {us : List Value} {L0 : Nat}
    (hP : ∀ b, P b → (X ≤ b ∧ b ≠ N) ∧ v.ownBlock ≠ some b ∧ v2.ownBlock ≠ some b ∧ v3.ownBlock ≠ some b)
    (h1 : OwnD w4 P v k Ty m ds) (h2 : OwnD w4 P v2 k2 T2 m2 ds2) (h3 : OwnD w4 P v3 k3 T3 m3 ds3)
    (l1 : ∀ g, v.ownBlock = some g → X ≤ g ∧ g ≠ N ∧ v2.ownBlock ≠ some g ∧ v3.ownBlock ≠ some g) (l2 : ∀ g, v2.ownBlock = some g → g ≠ N) (l3 : ∀ g, v3.ownBlock = some g → g ≠ N)
    (hL : X ≤ L0 ∧ N < L0 ∧ L0 ≤ w4.heap.size ∧ ∀ g, (v.ownBlock = some g ∨ v2.ownBlock = some g ∨ v3.ownBlock = some g) → g < L0) (hPL : ∀ b, L0 ≤ b → P b)
    (hx : RdL w4 (fun b => L0 ≤ b) d2 us) :
    ∃ xs, w4.ownsRow 0 Ty k v m xs ∧ ∀ (gg cap : Nat) (w5 : World) (o : Obj) (f : Nat) (P' : Nat → Prop), w5.ownsRow 0 Ty k (.slice (some ⟨gg, 0, none⟩) (m + 1) cap) (m + 1) (xs ++ us) → (w4.alloc o).grownBy w5 v.ownBlock → (v.ownBlock = some gg ∨ gg = w4.heap.size + 1) →
      (∀ b, P b → gg ≠ b → P' b) →
      (X ≤ gg ∧ gg ≠ N ∧ v2.ownBlock ≠ some gg ∧ v3.ownBlock ≠ some gg) ∧ Keeps (fun b => v.ownBlock = some b) w4 w5 ∧
      OwnD (w5.setCell ⟨N, f, none⟩ (.slice (some ⟨gg, 0, none⟩) (m + 1) cap)) P' (.slice (some ⟨gg, 0, none⟩) (m + 1) cap) k Ty (m + 1) (ds ++ d2) ∧
      OwnD (w5.setCell ⟨N, f, none⟩ (.slice (some ⟨gg, 0, none⟩) (m + 1) cap)) P' v2 k2 T2 m2 ds2 ∧ OwnD (w5.setCell ⟨N, f, none⟩ (.slice (some ⟨gg, 0, none⟩) (m + 1) cap)) P' v3 k3 T3 m3 ds3 := by
  obtain ⟨hXL, hNL, hLw, hgL⟩ := hL
  obtain ⟨xs, hr, ho⟩ := h1
  refine ⟨xs, ho, fun gg cap w5 o f P' hown hgrow hat hP' => ?_⟩
  have hk5 : Keeps (fun b => v.ownBlock = some b) w4 w5 := ((Keeps.refl _ w4).alloc o).grown hgrow (fun k hk _ => hk)
  have hgN : gg ≠ N := by
    rcases hat with h | h
    · exact (l1 gg h).2.1
    · omega
  have hgX : X ≤ gg := by
    rcases hat with h | h
    · exact (l1 gg h).1
    · omega
  have hg2 : v2.ownBlock ≠ some gg ∧ v3.ownBlock ≠ some gg := by
    rcases hat with h | h
    · exact (l1 gg h).2.2
    · exact ⟨fun e => by have := hgL gg (.inr (.inl e)); omega, fun e => by have := hgL gg (.inr (.inr e)); omega⟩
  have hk6 : Keeps (fun b => b = N) w5 (w5.setCell ⟨N, f, none⟩ (.slice (some ⟨gg, 0, none⟩) (m + 1) cap)) := (Keeps.refl _ _).setCell _ _ fun _ => rfl
  have hne : ∀ b, b < w4.heap.size → v.ownBlock ≠ some b → gg ≠ b := fun b hb hv e => by
    rcases hat with h | h
    · exact hv (by rw [h, e])
    · omega
  have hoth : ∀ {vv : Value} {kk mm : Nat} {TT : TypeId} {dd : List Dt}, OwnD w4 P vv kk TT mm dd → (∀ g, vv.ownBlock = some g → v.ownBlock ≠ some g ∧ g ≠ N) →
      OwnD (w5.setCell ⟨N, f, none⟩ (.slice (some ⟨gg, 0, none⟩) (m + 1) cap)) P' vv kk TT mm dd := by
    intro vv kk mm TT dd hh hv
    obtain ⟨ys, hy, hyo⟩ := hh
    have hy2 := ((hy.lt.keep hk5 (fun b _ hb e => (hP b hb.1.1).2.1 e)).keep hk6 (fun b _ hb e => (hP b hb.1.1).1.2 e))
    have hfin := hy2.mono (D' := fun b => P' b ∧ vv.ownBlock ≠ some b) fun b _ hb => ⟨hP' b hb.1.1 (hne b hb.2 (hP b hb.1.1).2.1), hb.1.2⟩
    refine ⟨ys, hfin, hyo.1, ?_⟩
    rcases hyo.2 with h0 | ⟨g', cap', cur, e, hb, hg, rest⟩
    · exact .inl h0
    · have hq := hv g' (by rw [e]; rfl)
      have hgl := (Array.getElem?_eq_some_iff.1 hg).1
      exact .inr ⟨g', cap', cur, e, hb, (hk6.block g' (Nat.lt_of_lt_of_le hgl hk5.size) hq.2).trans ((hk5.block g' hgl hq.1).trans hg), rest⟩
  refine ⟨⟨hgX, hgN, hg2⟩, hk5, ?_, hoth h2 (fun g hg => ⟨fun e => (l1 g e).2.2.1 hg, l2 g hg⟩), hoth h3 (fun g hg => ⟨fun e => (l1 g e).2.2.2 hg, l3 g hg⟩)⟩
  have hx2 : RdL w4 (fun b => P b ∧ v.ownBlock ≠ some b) d2 us := hx.mono fun b _ hb => ⟨hPL b hb, fun e => by have := hgL b (.inl e); omega⟩
  have hr2 := hr.app hx2
  have hr3 := ((hr2.lt.keep hk5 (fun b _ hb e => hb.1.2 e)).keep hk6 (fun b _ hb e => (hP b hb.1.1).1.2 e))
  have hr4 := hr3.mono (D' := fun b => P' b ∧ (Value.slice (some ⟨gg, 0, none⟩) (m + 1) cap).ownBlock ≠ some b) fun b _ hb => ⟨hP' b hb.1.1 (hne b hb.2 hb.1.2), fun e => hne b hb.2 hb.1.2 (Option.some.inj e)⟩
  refine ⟨xs ++ us, hr4, hown.1, ?_⟩
  rcases hown.2 with ⟨e, h0⟩ | ⟨g', cap', cur, e, hb, hg, rest⟩
  · cases e
  · have e1 : gg = g' := by injection e with e1; injection e1 with e1; injection e1
    exact .inr ⟨g', cap', cur, e, hb, (hk6.block g' (Array.getElem?_eq_some_iff.1 hg).1 (fun e2 => hgN (e1.trans e2))).trans hg, rest⟩

def Pr (X N : Nat) (o1 o2 o3 : Option Nat) (b : Nat) : Prop := (X ≤ b ∧ b ≠ N) ∧ o1 ≠ some b ∧ o2 ≠ some b ∧ o3 ≠ some b
/-- A simple command that is made: its record at N; words, assignments, redirections. -/
structure SI (w wr : World) (B cs : Nat) (tv : Value) (n : Nat) (T : List Tk) (d X N I : Nat) (wa : Option Addr) (wm wc : Nat) (ws : List Dt) (ga : Option Addr) (gm gc : Nat) (gs : List Dt) (ra : Option Addr) (rm rc : Nat) (rd : List Dt) : Prop where
  rs : RS wr B cs tv n T I d
  kp : Keeps (fun b => b = cs) w wr
  zr : RecAt wr w.heap.size [.int .i64 0, .bool false, .string ⟨#[]⟩, .slice none 0 0, .slice none 0 0, .slice none 0 0, .slice none 0 0, .slice none 0 0]
  ro : RecAt wr N [.int .i64 1, .bool false, .string ⟨#[]⟩, .slice wa wm wc, .slice ga gm gc, .slice ra rm rc, .slice none 0 0, .slice none 0 0]
  o1 : OwnD wr (Pr X N (Value.slice wa wm wc).ownBlock (Value.slice ga gm gc).ownBlock (Value.slice ra rm rc).ownBlock) (.slice wa wm wc) 1 32 wm ws
  o2 : OwnD wr (Pr X N (Value.slice wa wm wc).ownBlock (Value.slice ga gm gc).ownBlock (Value.slice ra rm rc).ownBlock) (.slice ga gm gc) 2 45 gm gs
  o3 : OwnD wr (Pr X N (Value.slice wa wm wc).ownBlock (Value.slice ga gm gc).ownBlock (Value.slice ra rm rc).ownBlock) (.slice ra rm rc) 2 47 rm rd
  l1 : ∀ g, (Value.slice wa wm wc).ownBlock = some g → X ≤ g ∧ g ≠ N ∧ (Value.slice ga gm gc).ownBlock ≠ some g ∧ (Value.slice ra rm rc).ownBlock ≠ some g
  l2 : ∀ g, (Value.slice ga gm gc).ownBlock = some g → X ≤ g ∧ g ≠ N ∧ (Value.slice wa wm wc).ownBlock ≠ some g ∧ (Value.slice ra rm rc).ownBlock ≠ some g
  l3 : ∀ g, (Value.slice ra rm rc).ownBlock = some g → X ≤ g ∧ g ≠ N ∧ (Value.slice wa wm wc).ownBlock ≠ some g ∧ (Value.slice ga gm gc).ownBlock ≠ some g
section
variable {w wr w4 : World} {B cs : Nat} {tv : Value} {n : Nat} {T : List Tk} {d X N I J : Nat} {wa : Option Addr} {wm wc : Nat} {ws : List Dt} {ga : Option Addr} {gm gc : Nat} {gs : List Dt} {ra : Option Addr} {rm rc : Nat} {rd : List Dt}
theorem SI.move (h : SI w wr B cs tv n T d X N I wa wm wc ws ga gm gc gs ra rm rc rd) (hc : cs < w.heap.size) (hX : w.heap.size < X) (hN : w.heap.size < N) (hk : Keeps (fun b => b = cs) wr w4) (hrs : RS w4 B cs tv n T J d) :
    SI w w4 B cs tv n T d X N J wa wm wc ws ga gm gc gs ra rm rc rd :=
  ⟨hrs, h.kp.trans hk (fun _ _ e => e), h.zr.keep hk (fun e => by omega), h.ro.keep hk (fun e => by omega),
   h.o1.keep hk (fun b _ hb e => by have := hb.1.1; omega) (fun g hg e => by have := (h.l1 g hg).1; omega), h.o2.keep hk (fun b _ hb e => by have := hb.1.1; omega) (fun g hg e => by have := (h.l2 g hg).1; omega),
   h.o3.keep hk (fun b _ hb e => by have := hb.1.1; omega) (fun g hg e => by have := (h.l3 g hg).1; omega), h.l1, h.l2, h.l3⟩
theorem SI.keep0 (h : SI w wr B cs tv n T d X N I wa wm wc ws ga gm gc gs ra rm rc rd) (hk : Keeps (fun _ => False) wr w4) :
    SI w w4 B cs tv n T d X N I wa wm wc ws ga gm gc gs ra rm rc rd :=
  ⟨h.rs.keep0 hk, h.kp.trans hk (fun _ _ e => e.elim), h.zr.keep hk (fun e => e), h.ro.keep hk (fun e => e),
   h.o1.keep hk (fun b _ _ e => e) (fun g _ e => e), h.o2.keep hk (fun b _ _ e => e) (fun g _ e => e), h.o3.keep hk (fun b _ _ e => e) (fun g _ e => e), h.l1, h.l2, h.l3⟩
theorem SI.sizes (h : SI w wr B cs tv n T d X N I wa wm wc ws ga gm gc gs ra rm rc rd) (hXw : X ≤ wr.heap.size) : X ≤ wr.heap.size ∧ N < wr.heap.size ∧ ∀ g, ((Value.slice wa wm wc).ownBlock = some g ∨ (Value.slice ga gm gc).ownBlock = some g ∨ (Value.slice ra rm rc).ownBlock = some g) → g < wr.heap.size :=
  ⟨hXw, h.ro.lt, fun g hg => by rcases hg with hg | hg | hg; exact h.o1.lt hg; exact h.o2.lt hg; exact h.o3.lt hg⟩
theorem SI.rest {w5 w6 : World} {v u : Value} {f : Nat} (h : SI w w4 B cs tv n T d X N J wa wm wc ws ga gm gc gs ra rm rc rd) (hc : cs < w.heap.size) (hX : w.heap.size < X) (hN : w.heap.size < N)
    (hv : ∀ g, v.ownBlock = some g → X ≤ g ∧ g ≠ N) (hk5 : Keeps (fun b => v.ownBlock = some b) w4 w5) (hw6 : w6 = w5.setCell ⟨N, f, none⟩ u) :
    RS w6 B cs tv n T J d ∧ Keeps (fun b => b = cs) w w6 ∧ RecAt w6 w.heap.size [.int .i64 0, .bool false, .string ⟨#[]⟩, .slice none 0 0, .slice none 0 0, .slice none 0 0, .slice none 0 0, .slice none 0 0] ∧
    RecAt w5 N [.int .i64 1, .bool false, .string ⟨#[]⟩, .slice wa wm wc, .slice ga gm gc, .slice ra rm rc, .slice none 0 0, .slice none 0 0] ∧
    RecAt w6 N ([.int .i64 1, .bool false, .string ⟨#[]⟩, .slice wa wm wc, .slice ga gm gc, .slice ra rm rc, .slice none 0 0, .slice none 0 0].set f u) := by
  have hB := h.rs.cs
  have hk6 : Keeps (fun b => b = N) w5 w6 := by rw [hw6]; exact (Keeps.refl _ _).setCell _ _ fun _ => rfl
  have hrc5 := h.ro.keep hk5 (fun e => (hv N e).2 rfl)
  refine ⟨(h.rs.keep hk5 (fun b hb e => by have := (hv b e).1; omega) (fun e => by have := (hv cs e).1; omega)).keep hk6 (fun b hb e => by omega) (fun e => by omega),
    (h.kp.trans hk5 (fun b hb e => by have := (hv b e).1; omega)).fresh hk6 (fun b e => by omega), (h.zr.keep hk5 (fun e => by have := (hv _ e).1; omega)).keep hk6 (fun e => by omega), hrc5, ?_⟩
  rw [hw6]
  exact hrc5.set f u
/-- A redirection more. -/
theorem SI.moreR (h : SI w wr B cs tv n T d X N I wa wm wc ws ga gm gc gs ra rm rc rd) (hc : cs < w.heap.size) (hX : w.heap.size < X) (hN : w.heap.size < N) (hXw : X ≤ wr.heap.size) (hk : Keeps (fun b => b = cs) wr w4) (hrs : RS w4 B cs tv n T J d) {d2 : List Dt} {us : List Value} (hx : RdL w4 (fun b => wr.heap.size ≤ b) d2 us) :
    ∃ xs, w4.ownsRow 0 47 2 (.slice ra rm rc) rm xs ∧ RecAt w4 N [.int .i64 1, .bool false, .string ⟨#[]⟩, .slice wa wm wc, .slice ga gm gc, .slice ra rm rc, .slice none 0 0, .slice none 0 0] ∧
      ∀ (gg cap : Nat) (w5 : World) (o : Obj), w5.ownsRow 0 47 2 (.slice (some ⟨gg, 0, none⟩) (rm + 1) cap) (rm + 1) (xs ++ us) → (w4.alloc o).grownBy w5 (Value.slice ra rm rc).ownBlock → ((Value.slice ra rm rc).ownBlock = some gg ∨ gg = w4.heap.size + 1) →
        RecAt w5 N [.int .i64 1, .bool false, .string ⟨#[]⟩, .slice wa wm wc, .slice ga gm gc, .slice ra rm rc, .slice none 0 0, .slice none 0 0] ∧
        SI w (w5.setCell ⟨N, 5, none⟩ (.slice (some ⟨gg, 0, none⟩) (rm + 1) cap)) B cs tv n T d X N J wa wm wc ws ga gm gc gs (some ⟨gg, 0, none⟩) (rm + 1) cap (rd ++ d2) := by
  have h4 := h.move hc hX hN hk hrs
  obtain ⟨s1, s2, s3⟩ := h.sizes hXw
  obtain ⟨xs, ho, hF⟩ := grow3 (fun b hb => ⟨hb.1, hb.2.2.2, hb.2.1, hb.2.2.1⟩) h4.o3 h4.o1 h4.o2 h4.l3 (fun g hg => (h4.l1 g hg).2.1) (fun g hg => (h4.l2 g hg).2.1)
    ⟨s1, s2, hk.size, fun g hg => by rcases hg with hg | hg | hg; exact s3 g (.inr (.inr hg)); exact s3 g (.inl hg); exact s3 g (.inr (.inl hg))⟩
    (fun b hb => ⟨⟨by omega, by omega⟩, fun e => by have := s3 b (.inl e); omega, fun e => by have := s3 b (.inr (.inl e)); omega, fun e => by have := s3 b (.inr (.inr e)); omega⟩) hx
  refine ⟨xs, ho, h4.ro, fun gg cap w5 o hown hgrow hat => ?_⟩
  obtain ⟨⟨a1, a2, a3, a4⟩, hk5, p1, p2, p3⟩ := hF gg cap w5 o 5 (Pr X N (Value.slice wa wm wc).ownBlock (Value.slice ga gm gc).ownBlock (Value.slice (some ⟨gg, 0, none⟩) (rm + 1) cap).ownBlock) hown hgrow hat (fun b hb hg => ⟨hb.1, hb.2.1, hb.2.2.1, fun e => hg (Option.some.inj e)⟩)
  obtain ⟨r1, r2, r3, r4, r5⟩ := h4.rest hc hX hN (fun g hg => ⟨(h4.l3 g hg).1, (h4.l3 g hg).2.1⟩) hk5 (f := 5) (u := .slice (some ⟨gg, 0, none⟩) (rm + 1) cap) rfl
  exact ⟨r4, ⟨r1, r2, r3, r5, p2, p3, p1, fun g hg => ⟨(h4.l1 g hg).1, (h4.l1 g hg).2.1, (h4.l1 g hg).2.2.1, fun e => by have h9 : gg = g := Option.some.inj e; exact a3 (by rw [h9]; exact hg)⟩,
    fun g hg => ⟨(h4.l2 g hg).1, (h4.l2 g hg).2.1, (h4.l2 g hg).2.2.1, fun e => by have h9 : gg = g := Option.some.inj e; exact a4 (by rw [h9]; exact hg)⟩, fun g hg => by have h9 : gg = g := Option.some.inj hg; subst h9; exact ⟨a1, a2, a3, a4⟩⟩⟩
/-- A word more. -/
theorem SI.moreW (h : SI w wr B cs tv n T d X N I wa wm wc ws ga gm gc gs ra rm rc rd) (hc : cs < w.heap.size) (hX : w.heap.size < X) (hN : w.heap.size < N) (hXw : X ≤ wr.heap.size) (hk : Keeps (fun b => b = cs) wr w4) (hrs : RS w4 B cs tv n T J d) {d2 : List Dt} {us : List Value} (hx : RdL w4 (fun b => wr.heap.size ≤ b) d2 us) :
    ∃ xs, w4.ownsRow 0 32 1 (.slice wa wm wc) wm xs ∧ RecAt w4 N [.int .i64 1, .bool false, .string ⟨#[]⟩, .slice wa wm wc, .slice ga gm gc, .slice ra rm rc, .slice none 0 0, .slice none 0 0] ∧
      ∀ (gg cap : Nat) (w5 : World) (o : Obj), w5.ownsRow 0 32 1 (.slice (some ⟨gg, 0, none⟩) (wm + 1) cap) (wm + 1) (xs ++ us) → (w4.alloc o).grownBy w5 (Value.slice wa wm wc).ownBlock → ((Value.slice wa wm wc).ownBlock = some gg ∨ gg = w4.heap.size + 1) →
        RecAt w5 N [.int .i64 1, .bool false, .string ⟨#[]⟩, .slice wa wm wc, .slice ga gm gc, .slice ra rm rc, .slice none 0 0, .slice none 0 0] ∧
        SI w (w5.setCell ⟨N, 3, none⟩ (.slice (some ⟨gg, 0, none⟩) (wm + 1) cap)) B cs tv n T d X N J (some ⟨gg, 0, none⟩) (wm + 1) cap (ws ++ d2) ga gm gc gs ra rm rc rd := by
  have h4 := h.move hc hX hN hk hrs
  obtain ⟨s1, s2, s3⟩ := h.sizes hXw
  obtain ⟨xs, ho, hF⟩ := grow3 (fun b hb => ⟨hb.1, hb.2.1, hb.2.2.1, hb.2.2.2⟩) h4.o1 h4.o2 h4.o3 h4.l1 (fun g hg => (h4.l2 g hg).2.1) (fun g hg => (h4.l3 g hg).2.1)
    ⟨s1, s2, hk.size, s3⟩
    (fun b hb => ⟨⟨by omega, by omega⟩, fun e => by have := s3 b (.inl e); omega, fun e => by have := s3 b (.inr (.inl e)); omega, fun e => by have := s3 b (.inr (.inr e)); omega⟩) hx
  refine ⟨xs, ho, h4.ro, fun gg cap w5 o hown hgrow hat => ?_⟩
  obtain ⟨⟨a1, a2, a3, a4⟩, hk5, p1, p2, p3⟩ := hF gg cap w5 o 3 (Pr X N (Value.slice (some ⟨gg, 0, none⟩) (wm + 1) cap).ownBlock (Value.slice ga gm gc).ownBlock (Value.slice ra rm rc).ownBlock) hown hgrow hat (fun b hb hg => ⟨hb.1, fun e => hg (Option.some.inj e), hb.2.2.1, hb.2.2.2⟩)
  obtain ⟨r1, r2, r3, r4, r5⟩ := h4.rest hc hX hN (fun g hg => ⟨(h4.l1 g hg).1, (h4.l1 g hg).2.1⟩) hk5 (f := 3) (u := .slice (some ⟨gg, 0, none⟩) (wm + 1) cap) rfl
  exact ⟨r4, ⟨r1, r2, r3, r5, p1, p2, p3, fun g hg => (by have h9 : gg = g := Option.some.inj hg; subst h9; exact ⟨a1, a2, a3, a4⟩),
    fun g hg => ⟨(h4.l2 g hg).1, (h4.l2 g hg).2.1, fun e => (by have h9 : gg = g := Option.some.inj e; exact a3 (by rw [h9]; exact hg)), (h4.l2 g hg).2.2.2⟩,
    fun g hg => ⟨(h4.l3 g hg).1, (h4.l3 g hg).2.1, fun e => (by have h9 : gg = g := Option.some.inj e; exact a4 (by rw [h9]; exact hg)), (h4.l3 g hg).2.2.2⟩⟩⟩
/-- An assignment more. -/
theorem SI.moreA (h : SI w wr B cs tv n T d X N I wa wm wc ws ga gm gc gs ra rm rc rd) (hc : cs < w.heap.size) (hX : w.heap.size < X) (hN : w.heap.size < N) (hXw : X ≤ wr.heap.size) (hk : Keeps (fun b => b = cs) wr w4) (hrs : RS w4 B cs tv n T J d) {d2 : List Dt} {us : List Value} (hx : RdL w4 (fun b => wr.heap.size ≤ b) d2 us) :
    ∃ xs, w4.ownsRow 0 45 2 (.slice ga gm gc) gm xs ∧ RecAt w4 N [.int .i64 1, .bool false, .string ⟨#[]⟩, .slice wa wm wc, .slice ga gm gc, .slice ra rm rc, .slice none 0 0, .slice none 0 0] ∧
      ∀ (gg cap : Nat) (w5 : World) (o : Obj), w5.ownsRow 0 45 2 (.slice (some ⟨gg, 0, none⟩) (gm + 1) cap) (gm + 1) (xs ++ us) → (w4.alloc o).grownBy w5 (Value.slice ga gm gc).ownBlock → ((Value.slice ga gm gc).ownBlock = some gg ∨ gg = w4.heap.size + 1) →
        RecAt w5 N [.int .i64 1, .bool false, .string ⟨#[]⟩, .slice wa wm wc, .slice ga gm gc, .slice ra rm rc, .slice none 0 0, .slice none 0 0] ∧
        SI w (w5.setCell ⟨N, 4, none⟩ (.slice (some ⟨gg, 0, none⟩) (gm + 1) cap)) B cs tv n T d X N J wa wm wc ws (some ⟨gg, 0, none⟩) (gm + 1) cap (gs ++ d2) ra rm rc rd := by
  have h4 := h.move hc hX hN hk hrs
  obtain ⟨s1, s2, s3⟩ := h.sizes hXw
  obtain ⟨xs, ho, hF⟩ := grow3 (fun b hb => ⟨hb.1, hb.2.2.1, hb.2.1, hb.2.2.2⟩) h4.o2 h4.o1 h4.o3 h4.l2 (fun g hg => (h4.l1 g hg).2.1) (fun g hg => (h4.l3 g hg).2.1)
    ⟨s1, s2, hk.size, fun g hg => by rcases hg with hg | hg | hg; exact s3 g (.inr (.inl hg)); exact s3 g (.inl hg); exact s3 g (.inr (.inr hg))⟩
    (fun b hb => ⟨⟨by omega, by omega⟩, fun e => by have := s3 b (.inl e); omega, fun e => by have := s3 b (.inr (.inl e)); omega, fun e => by have := s3 b (.inr (.inr e)); omega⟩) hx
  refine ⟨xs, ho, h4.ro, fun gg cap w5 o hown hgrow hat => ?_⟩
  obtain ⟨⟨a1, a2, a3, a4⟩, hk5, p1, p2, p3⟩ := hF gg cap w5 o 4 (Pr X N (Value.slice wa wm wc).ownBlock (Value.slice (some ⟨gg, 0, none⟩) (gm + 1) cap).ownBlock (Value.slice ra rm rc).ownBlock) hown hgrow hat (fun b hb hg => ⟨hb.1, hb.2.1, fun e => hg (Option.some.inj e), hb.2.2.2⟩)
  obtain ⟨r1, r2, r3, r4, r5⟩ := h4.rest hc hX hN (fun g hg => ⟨(h4.l2 g hg).1, (h4.l2 g hg).2.1⟩) hk5 (f := 4) (u := .slice (some ⟨gg, 0, none⟩) (gm + 1) cap) rfl
  exact ⟨r4, ⟨r1, r2, r3, r5, p2, p1, p3, fun g hg => ⟨(h4.l1 g hg).1, (h4.l1 g hg).2.1, fun e => (by have h9 : gg = g := Option.some.inj e; exact a3 (by rw [h9]; exact hg)), (h4.l1 g hg).2.2.2⟩,
    fun g hg => (by have h9 : gg = g := Option.some.inj hg; subst h9; exact ⟨a1, a2, a3, a4⟩),
    fun g hg => ⟨(h4.l3 g hg).1, (h4.l3 g hg).2.1, (h4.l3 g hg).2.2.1, fun e => (by have h9 : gg = g := Option.some.inj e; exact a4 (by rw [h9]; exact hg))⟩⟩⟩
theorem SI.all (h : SI w wr B cs tv n T d X N I wa wm wc ws ga gm gc gs ra rm rc rd) : RdL wr (fun b => X ≤ b) (ndR 1 false [] ws gs rd [] []) [.int .i64 1, .bool false, .string ⟨#[]⟩, .slice wa wm wc, .slice ga gm gc, .slice ra rm rc, .slice none 0 0, .slice none 0 0] := by
  have key : ∀ {v : Value} {k m : Nat} {Ty : TypeId} {ds : List Dt} {P : Nat → Prop}, OwnD wr P v k Ty m ds → (∀ b, P b → X ≤ b) → (∀ g, v.ownBlock = some g → X ≤ g) → Rd wr (fun b => X ≤ b) (.sl k ds) v := fun ho hP hv => by
    obtain ⟨us, hu, hoo⟩ := ho
    exact OwnD.reads (D := fun b => X ≤ b) ⟨us, hu.mono fun b _ hb => ⟨hP b hb.1, hb.2⟩, hoo⟩ hv
  exact ⟨.int _, .bool _, .str _, key h.o1 (fun b hb => hb.1.1) (fun g hg => (h.l1 g hg).1), key h.o2 (fun b hb => hb.1.1) (fun g hg => (h.l2 g hg).1), key h.o3 (fun b hb => hb.1.1) (fun g hg => (h.l3 g hg).1), .nil _ _ _ (Nat.zero_le _), .nil _ _ _ (Nat.zero_le _), trivial⟩
end
end Go.Proofs.YtcahifkiiabioaaDoor
namespace Go.Proofs.YtcahifkiiabioaaDoor
open Go.RowKit
set_option linter.unusedVariables false

theorem info_redir : (Tryd.prog.info? 47).map (fun i => (i.zero, i.size, i.bytes)) = some (some (.agg #[.string ⟨#[]⟩, .slice none 0 0]), 2, 40) := by kernel_rfl
theorem info_assign : (Tryd.prog.info? 45).map (fun i => (i.zero, i.size, i.bytes)) = some (some (.agg #[.string ⟨#[]⟩, .slice none 0 0]), 2, 40) := by kernel_rfl
theorem cells_redir : Tryd.prog.cellsOf 47 = 2 := by kernel_rfl
theorem cells_assign : Tryd.prog.cellsOf 45 = 2 := by kernel_rfl
def simpleW (scr : Bs → Except Nat Unit) (M : Nat) (ws gs rd : List Dt) (x : List Pt) (r : List Tk) : PR (List Dt) := match (if ws.isEmpty then assignF x else none) with
  | some (nm, v) => simpleF scr M ws (gs ++ [.str nm, wordR v]) rd r
  | none => simpleF scr M (ws ++ [wordR x]) gs rd r
theorem simple_succ (scr : Bs → Except Nat Unit) (M : Nat) (ws gs rd : List Dt) (ts : List Tk) : simpleF scr (M + 1) ws gs rd ts = if redirB ts then (match redirF scr ts with
      | .error e => .error e
      | .ok (d, r) => simpleF scr M ws gs (rd ++ d) r)
    else if (atF ts).kind == 1 then (match wordF scr ts with
      | .error e => .error e
      | .ok (w, r) => simpleW scr M ws gs rd w r)
    else .ok (ndR 1 false [] ws gs rd [] [], ts) := rfl

set_option maxRecDepth 100000 in
set_option maxHeartbeats 16000000 in
theorem simple_any (K : Nat) (hcmd : CmdOK K) (hscr : ScrOK K) (w : World) (B cs n i d : Nat) (tv : Value) (T : List Tk) (h : RS w B cs tv n T i d) (hd : d + K = 40) :
    Calls Tryd.prog 76 #[.pointer (some ⟨cs, 0, none⟩)] w (NodePost w B cs tv n T i d AnyS (simpleF (scrF (commandF K)) ((T.drop i).length + 1) [] [] [] (T.drop i))) := by
  obtain ⟨res, hres⟩ : ∃ res, res = simpleF (scrF (commandF K)) ((T.drop i).length + 1) [] [] [] (T.drop i) := ⟨_, rfl⟩
  rw [← hres]
  rw [List.length_drop] at hres
  have HSC := Lib.hid hscr
  clear hscr
  have hc1 := cells_word
  have hc2 := cells_redir
  have hc3 := cells_assign
  obtain ⟨i1, hi1, hy0, hy1, hy2⟩ := info_parts info_assign
  obtain ⟨i2, hi2, hx0, hx1, hx2⟩ := info_parts info_word
  have hc8 := cells_node
  obtain ⟨i0, hi0, hz0, hz1, hz2⟩ := info_parts info_redir
  have HRES := Lib.hid hres
  have HH := Lib.hid h
  have HC := Lib.hid hcmd
  have HD := Lib.hid hd
  have HCS := Lib.hid h.lt
  clear hres h hcmd hd
  go_enter Tryd.func76, Tryd.ntmps76
  go_wp2_with fail
  obtain ⟨W, hW⟩ : ∃ W, W = w.alloc (.cells #[.int .i64 0, .bool false, .string ⟨#[]⟩, .slice none 0 0, .slice none 0 0, .slice none 0 0, .slice none 0 0, .slice none 0 0] 40) := ⟨_, rfl⟩
  have hkW : Keeps (fun _ => False) w W := by rw [hW]; exact (Keeps.refl _ _).alloc _
  have HR := Lib.hid (show RecAt W w.heap.size [.int .i64 0, .bool false, .string ⟨#[]⟩, .slice none 0 0, .slice none 0 0, .slice none 0 0, .slice none 0 0, .slice none 0 0] by rw [hW]; exact new_rec8 _ _ _ _ _ _ _ _ _ _)
  rw [← hW]
  have HKW := Lib.hid hkW
  have HX := Lib.hid (show w.heap.size < W.heap.size by rw [hW]; simp)
  have HXE := Lib.hid (show W.heap.size = w.heap.size + 1 by rw [hW]; simp)
  have HS := Lib.hid (HH.out.keep0 hkW)
  clear hkW hW

  obtain ⟨wr, hwr⟩ : ∃ wr, wr = W.alloc (.cells #[.int .i64 1, .bool false, .string ⟨#[]⟩, .slice none 0 0, .slice none 0 0, .slice none 0 0, .slice none 0 0, .slice none 0 0] 40) := ⟨_, rfl⟩
  have hk3 : Keeps (fun _ => False) W wr := by rw [hwr]; exact (Keeps.refl _ _).alloc _
  obtain ⟨N, hN⟩ : ∃ N, N = W.heap.size := ⟨_, rfl⟩
  obtain ⟨X, hX⟩ : ∃ X, X = W.heap.size := ⟨_, rfl⟩
  have hxw := HX.out
  have HG0 := Lib.hid (show SI w wr B cs tv n T d X N i none 0 0 [] none 0 0 [] none 0 0 [] from
    ⟨HS.out.keep0 hk3, (HKW.out.mono (fun _ _ h => h.elim)).trans hk3 (fun _ _ h => h.elim), HR.out.keep hk3 (fun e => e), by rw [hwr, hN]; exact new_rec8 _ _ _ _ _ _ _ _ _ _, OwnD.nil _ _ _ _, OwnD.nil _ _ _ _, OwnD.nil _ _ _ _, fun g hg => (by cases hg), fun g hg => (by cases hg), fun g hg => (by cases hg)⟩)
  have HXN := Lib.hid (show w.heap.size < X ∧ w.heap.size < N by omega)
  have HXS := Lib.hid (show X ≤ w.heap.size + 1 by have := HXE.out; omega)
  have HN := Lib.hid hN
  have HWR := Lib.hid hwr
  clear hwr hk3 hN hX hxw
  go_wp2_with fail
  rw [← HWR.out]
  rw [← HXE.out, ← HN.out]
  clear HWR
  go_loopg [] (T.length - i) (fun g wr => ∃ (I M : Nat) (wa : Option Addr) (wm wc : Nat) (ws : List Dt) (ga : Option Addr) (gm gc : Nat) (gs : List Dt) (ra : Option Addr) (rm rc : Nat) (rd : List Dt), g = T.length - I ∧ i ≤ I ∧ wm ≤ I ∧ gm ≤ I ∧ rm ≤ I ∧ T.length - I + 1 ≤ M ∧ Hid (SI w wr B cs tv n T d X N I wa wm wc ws ga gm gc gs ra rm rc rd) ∧ Hid (res = simpleF (scrF (commandF K)) M ws gs rd (T.drop I)))
  case atStart => exact ⟨i, _, none, 0, 0, [], none, 0, 0, [], none, 0, 0, [], rfl, Nat.le_refl _, Nat.zero_le _, Nat.zero_le _, Nat.zero_le _, Nat.le_refl _, HG0, HRES⟩
  case round =>
    obtain ⟨I, M, wa, wm, wc, ws, ga, gm, gc, gs, ra, rm, rc, rd, hgk, hiI, hmW, hmG, hmR, hM, HG, HRL⟩ := hrel
    have HGK := Lib.hid hgk
    have hIT := HG.out.rs.i
    have hT2 := HG.out.rs.sm.1
    obtain ⟨M, rfl⟩ : ∃ M', M = M' + 1 := ⟨M - 1, by omega⟩
    clear hgk HG0 HRES
    have hat := at_tok wr B cs n I d tv T HG.out.rs
    have hf0 := field_kind
    have hrd2 : redirB (T.drop I) = true → (atF (T.drop I)).kind = 2 := fun h => by unfold redirB at h; rw [Bool.and_eq_true, beq_iff_eq] at h; exact h.1
    obtain ⟨tk, htk⟩ : ∃ tk, tk = atF (T.drop I) := ⟨_, rfl⟩
    rw [← htk] at hat hrd2
    have HAT := Lib.hid hat
    have hlp := simple_succ (scrF (commandF K)) M ws gs rd (T.drop I)
    rw [← htk] at hlp
    clear hat htk
    cases hq : redirB (T.drop I) with
    | true =>
      have hk2 := hrd2 hq
      have t0 : ((tk.kind : Int) == 1) = false := by rw [beq_eq_false_iff_ne]; omega
      have HPOS := Lib.hid (redir_pos hq)
      have HRL1 := Lib.hid (show res = match redirF (scrF (commandF K)) (T.drop I) with
        | .error e => .error e
        | .ok (d, r) => simpleF (scrF (commandF K)) M ws gs (rd ++ d) r by rw [HRL.out, hlp, hq, if_pos rfl])
      have HQ := Lib.hid hq
      clear hlp hk2 HRL hrd2 hq
      go_wp2_with fail
      refine HAT.out.mono ?_
      rintro e wx ⟨a, c, rfl, hp, hk⟩
      have HGX := Lib.hid (HG.out.keep0 hk)
      clear hp hk HG HAT
      go_wp2_with fail
      refine (redirects_any wx B cs n I d tv T true HGX.out.rs HQ.out).mono ?_
      rintro e wy ⟨rfl, hk⟩
      have HGY := Lib.hid (HGX.out.keep0 hk)
      clear hk HGX
      go_wp2_with fail
      refine (redirects_any wy B cs n I d tv T true HGY.out.rs HQ.out).mono ?_
      rintro e wb ⟨rfl, hk⟩
      have HGB := Lib.hid (HGY.out.keep0 hk)
      clear hk HGY
      go_wp2_with fail
      have hXw := HXN.out.1
      have HXW := Lib.hid (show X ≤ wb.heap.size by have h1 := HGB.out.zr.lt; have h2 := HXS.out; omega)
      obtain ⟨⟨x0, x1, x2, x3, x4, x5, x6, x7⟩, ⟨xf0, xf1, xf2, xf3, xf4, xf5, xf6, xf7⟩⟩ := (show RecAt wb N [.int .i64 1, .bool false, .string ⟨#[]⟩, .slice wa wm wc, .slice ga gm gc, .slice ra rm rc, .slice none 0 0, .slice none 0 0] from HGB.out.ro).eight
      have hNl := HGB.out.ro.lt
      cases hcm : redirF (scrF (commandF K)) (T.drop I) with
      | error y =>
        have HRX := Lib.hid (show res = .error y by rw [HRL1.out, hcm])
        have HCM := Lib.hid hcm
        clear hcm
        go_wp2_with fail
        refine wp_region_held_drew (S := (fun w' => RecAt w' N [.int .i64 1, .bool false, .string ⟨#[]⟩, .slice wa wm wc, .slice ga gm gc, .slice ra rm rc, .slice none 0 0, .slice none 0 0])) (by kernel_rfl) (HGB.out.ro.keep (S := fun _ => False) (Keeps.refl _ _).drew (fun h => h)) (fun hHeld => ?_)
        refine wpAnyH_take (i := 0) (v := .pointer (some ⟨N, 5, none⟩)) rfl (by kernel_rfl) (by kernel_rfl) (by kernel_rfl) (fun _ _ _ h => h) (Or.inl ⟨by rfl, ?_⟩) hHeld ?_
        · (intro ww hSw; have ⟨⟨g0, g1, g2, g3, g4, g5, g6, g7⟩, _⟩ := RecAt.eight hSw; go_simp; all_goals (first | done | with_reducible rfl))
        refine wpAnyH_take (i := 1) (v := .slice ra rm rc) rfl (by kernel_rfl) (by kernel_rfl) (by kernel_rfl) (fun _ _ _ h => h) (Or.inl ⟨by rfl, ?_⟩) hHeld ?_
        · (intro ww hSw; have ⟨⟨g0, g1, g2, g3, g4, g5, g6, g7⟩, _⟩ := RecAt.eight hSw; go_simp; all_goals (first | done | with_reducible rfl))
        refine wpAnyH_take (i := 2) (v := .pointer (some ⟨cs, 0, none⟩)) rfl (by kernel_rfl) (by kernel_rfl) (by kernel_rfl) (fun _ _ _ h => h) (Or.inl ⟨by rfl, ?_⟩) hHeld ?_
        · (intro ww hSw; have ⟨⟨g0, g1, g2, g3, g4, g5, g6, g7⟩, _⟩ := RecAt.eight hSw; go_simp; all_goals (first | done | with_reducible rfl))
        refine wpAnyH_ready (rs := [3]) (by kernel_rfl) (by simp) ?_
        refine AllReadyH.cons rfl (fun KK hK => ?_) AllReadyH.nil
        go_simp
        go_at_call 90
        refine (redir_any K HSC.out _ B cs n I d tv T (HGB.out.rs.keep0 (Keeps.refl _ _).drew) HD.out HPOS.out).mono ?_
        rw [HCM.out]
        rintro e w4 ⟨rfl, hk4⟩
        have HK4 := Lib.hid ((HGB.out.kp.drew).trans hk4 (fun _ _ h => h))
        clear hk4
        go_wp2_with fail
        refine ⟨rfl, ?_⟩
        rw [HRX.out]
        exact ⟨rfl, HK4.out⟩
      | ok dr =>
        obtain ⟨d2, r2⟩ := dr
        have HRX := Lib.hid (show res = simpleF (scrF (commandF K)) M ws gs (rd ++ d2) r2 by rw [HRL1.out, hcm])
        have HCM := Lib.hid hcm
        clear hcm
        have HCALL := Lib.hid (show ∀ e w4, RecPost wb.drew B cs tv n T I d RdrS (.ok (d2, r2)) e w4 → ∃ (j4 : Nat) (sv : ByteArray) (a5 : Option Addr) (m5 c5 : Nat) (xs : List Value), e = .returned (.agg #[.string sv, .slice a5 m5 c5]) ∧ (I ≤ j4 ∧ j4 ≤ T.length ∧ T.drop j4 = r2 ∧ True) ∧ w4.ownsRow 0 47 2 (.slice ra rm rc) rm xs ∧ RecAt w4 N [.int .i64 1, .bool false, .string ⟨#[]⟩, .slice wa wm wc, .slice ga gm gc, .slice ra rm rc, .slice none 0 0, .slice none 0 0] ∧
            (∀ (gg cap : Nat) (w5 : World) (o : Obj), w5.ownsRow 0 47 2 (.slice (some ⟨gg, 0, none⟩) (rm + 1) cap) (rm + 1) (xs ++ [.string sv, .slice a5 m5 c5]) → (w4.alloc o).grownBy w5 (Value.slice ra rm rc).ownBlock → ((Value.slice ra rm rc).ownBlock = some gg ∨ gg = w4.heap.size + 1) →
              RecAt w5 N [.int .i64 1, .bool false, .string ⟨#[]⟩, .slice wa wm wc, .slice ga gm gc, .slice ra rm rc, .slice none 0 0, .slice none 0 0] ∧ SI w (w5.setCell ⟨N, 5, none⟩ (.slice (some ⟨gg, 0, none⟩) (rm + 1) cap)) B cs tv n T d X N j4 wa wm wc ws ga gm gc gs (some ⟨gg, 0, none⟩) (rm + 1) cap (rd ++ d2)) from fun e w4 hp => by
          obtain ⟨vs, ⟨he, j4, hj4, ht4, hrs4, hk4⟩, ⟨sv, a5, m5, c5, rfl⟩, hrd4⟩ := hp
          obtain ⟨xs, ho, hrec, hF⟩ := HGB.out.moreR HCS.out HXN.out.1 HXN.out.2 HXW.out ((Keeps.refl (fun b => b = cs) wb).drew.trans hk4 (fun _ _ h => h)) hrs4 hrd4
          exact ⟨j4, sv, a5, m5, c5, xs, he, ⟨hj4, hrs4.i, ht4, trivial⟩, ho, hrec, hF⟩)
        go_wp2_with fail
        go_region_law (first
          | (refine step_append_lies _ (by rfl) _ _ _ (by rfl) 0 47 i0 _ 2 40 Tryd.underlying37 hi0 hz0 hz1 hz2 rfl (by omega) (.slice ra rm rc) rm xs (by rfl) (hown4.alloc _)
              ⟨w4.heap.size, 0, none⟩ 1 1 [.string sv, .slice a5 m5 c5] (by rfl) (by rfl) (World.news_of_block (cs := #[.string sv, .slice a5 m5 c5]) (t := 47) (fr := (0, 0)) (heap_alloc_new w4 _)) (by simp [Value.oneCell'])
              (by omega) (by unfold maxLen; omega) (by omega) (by simp) (w4.heap.size + 1) (by simp) ?_; intro gg cap w5 hown2 hgrow hat hlt5
             obtain ⟨hrec5, hG5⟩ := HF.out gg cap w5 _ hown2 hgrow hat
             obtain ⟨⟨z0, z1, z2, z3, z4, z5, z6, z7⟩, ⟨zf0, zf1, zf2, zf3, zf4, zf5, zf6, zf7⟩⟩ := RecAt.eight hrec5
             have hN5 := hrec5.lt
             have HG5 := Lib.hid hG5
             clear hrec5 hG5 hown2 hgrow hat)
          | (go_simp; go_at_call 90; refine (redir_any K HSC.out _ B cs n I d tv T (HGB.out.rs.keep0 (Keeps.refl _ _).drew) HD.out HPOS.out).mono ?_; rw [HCM.out]; intro e w4 hp; obtain ⟨j4, sv, a5, m5, c5, xs, he, hJ4, hown4, hrec4, hF⟩ := HCALL.out e w4 hp; subst he; obtain ⟨⟨y0, y1, y2, y3, y4, y5, y6, y7⟩, ⟨yf0, yf1, yf2, yf3, yf4, yf5, yf6, yf7⟩⟩ := RecAt.eight hrec4; have hN4 := hrec4.lt; have HF := Lib.hid hF; have HJ4 := Lib.hid hJ4; clear hp hF hJ4 hrec4))
        all_goals
          obtain ⟨w3, hw3⟩ : ∃ w3, w3 = w5.setCell ⟨N, 5, none⟩ (.slice (some ⟨gg, 0, none⟩) (rm + 1) cap) := ⟨_, rfl⟩
          rw [← hw3] at HG5
          rw [← hw3]
          have HRN := Lib.hid (show res = simpleF (scrF (commandF K)) M ws gs (rd ++ d2) (T.drop j4) by rw [HRX.out, HJ4.out.2.2.1])
          have hj4b : I + 1 ≤ j4 := by
            have h1 := redirF_len HCM.out
            have h2 := congrArg List.length HJ4.out.2.2.1
            rw [List.length_drop] at h1 h2
            have h3 := HJ4.out.2.1
            omega
          have hj4T := HJ4.out.2.1
          clear hw3 HJ4 HCM
          go_wp2_with fail
          go_roundg (T.length - j4)
          case measure => have := HGK.out; omega
          case rel => exact ⟨j4, M, wa, wm, wc, ws, ga, gm, gc, gs, _, (rm + 1), cap, (rd ++ d2), rfl, by omega, by omega, by omega, by omega, by omega, HG5, HRN⟩
    | false =>
    cases hkk : tk.kind == 1 with
    | false =>
      have t0 : ((tk.kind : Int) == 1) = false := by rw [beq_eq_false_iff_ne] at hkk ⊢; omega
      have HRX := Lib.hid (show res = .ok (ndR 1 false [] ws gs rd [] [], T.drop I) by rw [HRL.out, hlp, hq, hkk]; rfl)
      have HQ := Lib.hid hq
      clear hlp hkk HRL hrd2 hq
      go_wp2_with fail
      refine HAT.out.mono ?_
      rintro e wx ⟨a, c, rfl, hp, hk⟩
      have HGX := Lib.hid (HG.out.keep0 hk)
      clear hp hk HG HAT
      go_wp2_with fail
      refine (redirects_any wx B cs n I d tv T false HGX.out.rs HQ.out).mono ?_
      rintro e wy ⟨rfl, hk⟩
      have HGY := Lib.hid (HGX.out.keep0 hk)
      clear hk HGX
      have hrec := (show RecAt wy N [.int .i64 1, .bool false, .string ⟨#[]⟩, .slice wa wm wc, .slice ga gm gc, .slice ra rm rc, .slice none 0 0, .slice none 0 0] from HGY.out.ro)
      obtain ⟨⟨v0, v1, v2, v3, v4, v5, v6, v7⟩, _⟩ := hrec.eight
      have hnl := hrec.lt
      have HR3 := Lib.hid HGY.out.zr
      have HK3 := Lib.hid HGY.out.kp
      have HS3 := Lib.hid HGY.out.rs
      have HRD3 := Lib.hid HGY.out.all
      have HX3 := Lib.hid HXN.out.1
      have HND := Lib.hid (show NdD (ndR 1 false [] ws gs rd [] []) from ⟨_, _, _, _, _, _, _, _, rfl⟩)
      clear hrec
      obtain ⟨⟨z0, z1, z2, z3, z4, z5, z6, z7⟩, y0, y1, y2, y3, y4, y5, y6, y7⟩ := HR3.out.eight
      have hzl := HR3.out.lt
      go_wp2_with fail
      refine bodyPost_ret (v := .agg #[.int .i64 1, .bool false, .string ⟨#[]⟩, .slice wa wm wc, .slice ga gm gc, .slice ra rm rc, .slice none 0 0, .slice none 0 0]) (by simp [results, Tryd.results76, go_sem, z0, z1, z2, z3, z4, z5, z6, z7]) rfl ?_
      obtain ⟨f1, f2, f3⟩ := nd_fin HK3.out HS3.out HX3.out HCS.out HRD3.out (set8_keeps wy w.heap.size (.int .i64 1) (.bool false) (.string ⟨#[]⟩) (.slice wa wm wc) (.slice ga gm gc) (.slice ra rm rc) (.slice none 0 0) (.slice none 0 0))
      rw [HRX.out]
      exact ⟨[.int .i64 1, .bool false, .string ⟨#[]⟩, .slice wa wm wc, .slice ga gm gc, .slice ra rm rc, .slice none 0 0, .slice none 0 0], ⟨rfl, _, hiI, rfl, f1, f2⟩, trivial, HND.out, f3⟩
    | true =>
      have t0 : ((tk.kind : Int) == 1) = true := by rw [beq_iff_eq] at hkk ⊢; omega
      have HRL1 := Lib.hid (show res = match wordF (scrF (commandF K)) (T.drop I) with
        | .error e => .error e
        | .ok (w, r) => simpleW (scrF (commandF K)) M ws gs rd w r by rw [HRL.out, hlp, hq, hkk]; rfl)
      have HQ := Lib.hid hq
      clear hlp hkk HRL hrd2 hq
      go_wp2_with fail
      refine HAT.out.mono ?_
      rintro e wx ⟨a, c, rfl, hp, hk⟩
      have HGX := Lib.hid (HG.out.keep0 hk)
      clear hp hk HG HAT
      go_wp2_with fail
      refine (redirects_any wx B cs n I d tv T false HGX.out.rs HQ.out).mono ?_
      rintro e wb ⟨rfl, hk⟩
      have HGB := Lib.hid (HGX.out.keep0 hk)
      have HXW := Lib.hid (show X ≤ wb.heap.size by have h1 := HGB.out.zr.lt; have h2 := HXS.out; omega)
      clear hk HGX
      go_wp2_with fail
      refine (word_tok K HSC.out wb B cs n I d tv T HGB.out.rs HD.out).mono ?_
      intro e w4 hp
      cases hcm : wordF (scrF (commandF K)) (T.drop I) with
      | error y =>
        rw [hcm] at hp
        obtain ⟨rfl, hk4⟩ := hp
        have HRX := Lib.hid (show res = .error y by rw [HRL1.out, hcm])
        have HK3 := Lib.hid (HGB.out.kp.trans hk4 (fun _ _ h => h))
        clear hcm hk4
        go_wp2_with fail
        refine ⟨rfl, ?_⟩
        rw [HRX.out]
        exact ⟨rfl, HK3.out⟩
      | ok xr =>
        obtain ⟨x, r2⟩ := xr
        rw [hcm] at hp
        obtain ⟨xa, xc, mm, ⟨rfl, j4, hj4, ht4, hrs4, hk4⟩, hp4, hsm4⟩ := hp
        have HG4 := Lib.hid (HGB.out.move HCS.out HXN.out.1 HXN.out.2 hk4 hrs4)
        have HRL2 := Lib.hid (show res = simpleW (scrF (commandF K)) M ws gs rd x (T.drop j4) by rw [HRL1.out, hcm, ht4])
        have hne := (word_tail hcm).2.2.2
        have hj4b : I + 1 ≤ j4 := by
          have h1 := word_len hcm
          have h2 := congrArg List.length ht4
          have h3 := hrs4.i
          rw [List.length_drop] at h1 h2
          omega
        have hj4T := hrs4.i
        have hsw := hk4.size
        have hasg := assign_any w4 B mm (fun b => wb.heap.size ≤ b) x xa xc hrs4.ev hp4 hsm4 hne
        have hwl : ws.length = wm := by have := HG4.out.o1.len; omega
        have HAS := Lib.hid hasg
        obtain ⟨xl, hxl⟩ : ∃ xl, xl = x.length := ⟨_, rfl⟩
        rw [← hxl] at HAS hp4
        rw [← hxl]
        have HP4 := Lib.hid hp4
        have HSW := Lib.hid hsw
        have HK4 := Lib.hid hk4
        have HXL := Lib.hid hxl
        clear hcm ht4 hrs4 hk4 hp4 hsm4 hne hasg HRL1 hsw hxl
        go_wp2_with fail
        refine HAS.out.mono ?_
        intro e wk hp
        cases has : assignF x with
        | none =>
          rw [has] at hp
          obtain ⟨rfl, hk5⟩ := hp
          obtain ⟨we, hwe⟩ : ∃ we, we = wk.alloc (.cells #[.string ⟨#[]⟩, .slice none 0 0] 45) := ⟨_, rfl⟩
          have hke : Keeps (fun _ => False) wk we := by rw [hwe]; exact (Keeps.refl _ _).alloc _
          have hkx := hk5.trans hke (fun _ _ h => h)
          have HGE := Lib.hid (HG4.out.keep0 hkx)
          have HRN := Lib.hid (show res = simpleF (scrF (commandF K)) M (ws ++ [wordR x]) gs rd (T.drop j4) by rw [HRL2.out]; unfold simpleW; rw [has, ite_self])
          have HKB := Lib.hid (HK4.out.trans hkx (fun _ _ h => h.elim))
          have HWD := Lib.hid (show RdL we (fun b => wb.heap.size ≤ b) [wordR x] [.slice xa xl xc] from by have h9 := HP4.out.keep hkx (fun _ _ _ h => h); rw [HXL.out] at h9 ⊢; exact ⟨rd_pts h9, trivial⟩)
          have HWE := Lib.hid hwe
          clear hk5 hwe hke hkx has HG4 HAS HP4 HRL2
          obtain ⟨xs, hown4, hrec4, hF⟩ := HGB.out.moreW HCS.out HXN.out.1 HXN.out.2 HXW.out HKB.out HGE.out.rs HWD.out
          have hrec4' := (show RecAt we N [.int .i64 1, .bool false, .string ⟨#[]⟩, .slice wa wm wc, .slice ga gm gc, .slice ra rm rc, .slice none 0 0, .slice none 0 0] from hrec4)
          obtain ⟨⟨x0, x1, x2, x3, x4, x5, x6, x7⟩, xf0, xf1, xf2, xf3, xf4, xf5, xf6, xf7⟩ := hrec4'.eight
          have hNl := hrec4.lt
          have HF := Lib.hid (show ∀ (gg cap : Nat) (w5 : World) (o : Obj), w5.ownsRow 0 32 1 (.slice (some ⟨gg, 0, none⟩) (wm + 1) cap) (wm + 1) (xs ++ [.slice xa xl xc]) → (we.alloc o).grownBy w5 (Value.slice wa wm wc).ownBlock → ((Value.slice wa wm wc).ownBlock = some gg ∨ gg = we.heap.size + 1) →
            RecAt w5 N [.int .i64 1, .bool false, .string ⟨#[]⟩, .slice wa wm wc, .slice ga gm gc, .slice ra rm rc, .slice none 0 0, .slice none 0 0] ∧ SI w (w5.setCell ⟨N, 3, none⟩ (.slice (some ⟨gg, 0, none⟩) (wm + 1) cap)) B cs tv n T d X N j4 (some ⟨gg, 0, none⟩) (wm + 1) cap (ws ++ [wordR x]) ga gm gc gs ra rm rc rd from fun gg cap w5 o => hF gg cap w5 o)
          clear hF hrec4 hrec4'
          go_upto_region 7 with fail
          rw [← HWE.out]
          go_upto_region 9 with fail
          go_wp2_with (at_builtin; refine wpList_append_lies _ rfl (.tmp 46) (.tmp 48) _ rfl 0 32 i2 _ 1 24 Tryd.underlying35 hi2 hx0 hx1 hx2 rfl (by omega) (.slice wa wm wc) wm xs rfl (hown4.alloc _) ⟨we.heap.size, 0, none⟩ 1 1 [.slice xa xl xc] rfl rfl (World.news_of_block (cs := #[.slice xa xl xc]) (t := 32) (fr := (0, 0)) (heap_alloc_new we _)) (by simp [Value.oneCell']) (by omega) (by unfold maxLen; omega) (by omega) (by simp) (we.heap.size + 1) (by simp) ?_; intro gg cap w5 hown2 hgrow hat hlt5; obtain ⟨hrec5, hG5⟩ := HF.out gg cap w5 _ hown2 hgrow hat; obtain ⟨⟨z0, z1, z2, z3, z4, z5, z6, z7⟩, zf0, zf1, zf2, zf3, zf4, zf5, zf6, zf7⟩ := RecAt.eight hrec5; have hN5 := hrec5.lt; have HG5 := Lib.hid hG5; clear hrec5 hG5 hown2 hgrow hat)
          obtain ⟨w6, hw6⟩ : ∃ w6, w6 = w5.setCell ⟨N, 3, none⟩ (.slice (some ⟨gg, 0, none⟩) (wm + 1) cap) := ⟨_, rfl⟩
          rw [← hw6] at HG5
          rw [← hw6]
          clear hw6
          go_wp2_with fail
          go_roundg (T.length - j4)
          case measure => have := HGK.out; omega
          case rel => exact ⟨j4, M, _, (wm + 1), cap, (ws ++ [wordR x]), ga, gm, gc, gs, ra, rm, rc, rd, rfl, by omega, by omega, by omega, by omega, by omega, HG5, HRN⟩
        | some nv =>
          obtain ⟨nm, v⟩ := nv
          rw [has] at hp
          obtain ⟨va, vc, vm, rfl, hpv, hk5⟩ := hp
          obtain ⟨vl, hvl⟩ : ∃ vl, vl = v.length := ⟨_, rfl⟩
          rw [← hvl] at hpv
          rw [← hvl]
          obtain ⟨we, hwe⟩ : ∃ we, we = wk.alloc (.cells #[.string ⟨nm.toArray⟩, .slice va vl vc] 45) := ⟨_, rfl⟩
          have hke : Keeps (fun _ => False) wk we := by rw [hwe]; exact (Keeps.refl _ _).alloc _
          have hAr := Lib.hid (show RecAt we wk.heap.size [.string ⟨nm.toArray⟩, .slice va vl vc] by rw [hwe]; exact new_rec2 _ _ _ _)
          have hkx := hk5.trans hke (fun _ _ h => h)
          have hsw4 := HSW.out
          have hswk := hk5.size
          have HGE := Lib.hid (HG4.out.keep0 hkx)
          have HKB := Lib.hid (HK4.out.trans hkx (fun _ _ h => h.elim))
          have HWE := Lib.hid hwe
          by_cases hz : wm = 0
          · have t1 : ((wm : Int) == 0) = true := by rw [beq_iff_eq]; omega
            have hws : ws.isEmpty = true := by rw [List.isEmpty_iff]; exact List.eq_nil_of_length_eq_zero (by omega)
            have HRN := Lib.hid (show res = simpleF (scrF (commandF K)) M ws (gs ++ [.str nm, wordR v]) rd (T.drop j4) by rw [HRL2.out]; unfold simpleW; rw [has, hws, if_pos rfl])
            have hwd : RdL we (fun b => wb.heap.size ≤ b) [.str nm, wordR v] [.string ⟨nm.toArray⟩, .slice va vl vc] := by
              have h9 := (hpv.keep hke (fun _ _ _ h => h)).mono (fun b _ hb => show wb.heap.size ≤ b by rcases hb with hb | hb; exact hb; omega)
              rw [hvl] at h9 ⊢
              exact ⟨.str _, rd_pts h9, trivial⟩
            obtain ⟨xs, hown4, hrec4, hF⟩ := HGB.out.moreA HCS.out HXN.out.1 HXN.out.2 HXW.out HKB.out HGE.out.rs hwd
            have hrec4' := (show RecAt we N [.int .i64 1, .bool false, .string ⟨#[]⟩, .slice wa wm wc, .slice ga gm gc, .slice ra rm rc, .slice none 0 0, .slice none 0 0] from hrec4)
            obtain ⟨⟨x0, x1, x2, x3, x4, x5, x6, x7⟩, xf0, xf1, xf2, xf3, xf4, xf5, xf6, xf7⟩ := hrec4'.eight
            have hNl := hrec4.lt
            have HF := Lib.hid (show ∀ (gg cap : Nat) (w5 : World) (o : Obj), w5.ownsRow 0 45 2 (.slice (some ⟨gg, 0, none⟩) (gm + 1) cap) (gm + 1) (xs ++ [.string ⟨nm.toArray⟩, .slice va vl vc]) → (we.alloc o).grownBy w5 (Value.slice ga gm gc).ownBlock → ((Value.slice ga gm gc).ownBlock = some gg ∨ gg = we.heap.size + 1) →
              RecAt w5 N [.int .i64 1, .bool false, .string ⟨#[]⟩, .slice wa wm wc, .slice ga gm gc, .slice ra rm rc, .slice none 0 0, .slice none 0 0] ∧ SI w (w5.setCell ⟨N, 4, none⟩ (.slice (some ⟨gg, 0, none⟩) (gm + 1) cap)) B cs tv n T d X N j4 wa wm wc ws (some ⟨gg, 0, none⟩) (gm + 1) cap (gs ++ [.str nm, wordR v]) ra rm rc rd from fun gg cap w5 o => hF gg cap w5 o)
            obtain ⟨⟨r0, r1⟩, _⟩ := hAr.out.two
            have hAl := hAr.out.lt
            clear hF hrec4 hrec4' hpv hk5 hwe hke hkx has HG4 HAS HP4 HRL2 hsw4 hswk hvl hws hwd
            go_upto_region 7 with fail
            rw [← HWE.out]
            go_upto_region 8 with fail
            go_wp2_with (at_builtin; refine wpList_append_lies _ rfl (.tmp 40) (.tmp 42) _ rfl 0 45 i1 _ 2 40 Tryd.underlying36 hi1 hy0 hy1 hy2 rfl (by omega) (.slice ga gm gc) gm xs rfl (hown4.alloc _) ⟨we.heap.size, 0, none⟩ 1 1 [.string ⟨nm.toArray⟩, .slice va vl vc] rfl rfl (World.news_of_block (cs := #[.string ⟨nm.toArray⟩, .slice va vl vc]) (t := 45) (fr := (0, 0)) (heap_alloc_new we _)) (by simp [Value.oneCell']) (by omega) (by unfold maxLen; omega) (by omega) (by simp) (we.heap.size + 1) (by simp) ?_; intro gg cap w5 hown2 hgrow hat hlt5; obtain ⟨hrec5, hG5⟩ := HF.out gg cap w5 _ hown2 hgrow hat; obtain ⟨⟨z0, z1, z2, z3, z4, z5, z6, z7⟩, zf0, zf1, zf2, zf3, zf4, zf5, zf6, zf7⟩ := RecAt.eight hrec5; have hN5 := hrec5.lt; have HG5 := Lib.hid hG5; clear hrec5 hG5 hown2 hgrow hat)
            obtain ⟨w6, hw6⟩ : ∃ w6, w6 = w5.setCell ⟨N, 4, none⟩ (.slice (some ⟨gg, 0, none⟩) (gm + 1) cap) := ⟨_, rfl⟩
            rw [← hw6] at HG5
            rw [← hw6]
            clear hw6
            go_wp2_with fail
            go_roundg (T.length - j4)
            case measure => have := HGK.out; omega
            case rel => exact ⟨j4, M, wa, wm, wc, ws, _, (gm + 1), cap, (gs ++ [.str nm, wordR v]), ra, rm, rc, rd, rfl, by omega, by omega, by omega, by omega, by omega, HG5, HRN⟩
          · have t1 : ((wm : Int) == 0) = false := by rw [beq_eq_false_iff_ne]; omega
            have hws : ws.isEmpty = false := by cases ws with
              | nil => exact absurd hwl.symm hz
              | cons _ _ => rfl
            have HRN := Lib.hid (show res = simpleF (scrF (commandF K)) M (ws ++ [wordR x]) gs rd (T.drop j4) by rw [HRL2.out]; unfold simpleW; rw [hws]; rfl)
            have HWD := Lib.hid (show RdL we (fun b => wb.heap.size ≤ b) [wordR x] [.slice xa xl xc] from by have h9 := HP4.out.keep hkx (fun _ _ _ h => h); rw [HXL.out] at h9 ⊢; exact ⟨rd_pts h9, trivial⟩)
            obtain ⟨⟨r0, r1⟩, _⟩ := hAr.out.two
            clear hpv hk5 hwe hke hkx has HG4 HAS HP4 HRL2 hsw4 hswk hvl hws
            obtain ⟨xs, hown4, hrec4, hF⟩ := HGB.out.moreW HCS.out HXN.out.1 HXN.out.2 HXW.out HKB.out HGE.out.rs HWD.out
            have hrec4' := (show RecAt we N [.int .i64 1, .bool false, .string ⟨#[]⟩, .slice wa wm wc, .slice ga gm gc, .slice ra rm rc, .slice none 0 0, .slice none 0 0] from hrec4)
            obtain ⟨⟨x0, x1, x2, x3, x4, x5, x6, x7⟩, xf0, xf1, xf2, xf3, xf4, xf5, xf6, xf7⟩ := hrec4'.eight
            have hNl := hrec4.lt
            have HF := Lib.hid (show ∀ (gg cap : Nat) (w5 : World) (o : Obj), w5.ownsRow 0 32 1 (.slice (some ⟨gg, 0, none⟩) (wm + 1) cap) (wm + 1) (xs ++ [.slice xa xl xc]) → (we.alloc o).grownBy w5 (Value.slice wa wm wc).ownBlock → ((Value.slice wa wm wc).ownBlock = some gg ∨ gg = we.heap.size + 1) →
              RecAt w5 N [.int .i64 1, .bool false, .string ⟨#[]⟩, .slice wa wm wc, .slice ga gm gc, .slice ra rm rc, .slice none 0 0, .slice none 0 0] ∧ SI w (w5.setCell ⟨N, 3, none⟩ (.slice (some ⟨gg, 0, none⟩) (wm + 1) cap)) B cs tv n T d X N j4 (some ⟨gg, 0, none⟩) (wm + 1) cap (ws ++ [wordR x]) ga gm gc gs ra rm rc rd from fun gg cap w5 o => hF gg cap w5 o)
            clear hF hrec4 hrec4'
            go_upto_region 7 with fail
            rw [← HWE.out]
            go_upto_region 9 with fail
            go_wp2_with (at_builtin; refine wpList_append_lies _ rfl (.tmp 46) (.tmp 48) _ rfl 0 32 i2 _ 1 24 Tryd.underlying35 hi2 hx0 hx1 hx2 rfl (by omega) (.slice wa wm wc) wm xs rfl (hown4.alloc _) ⟨we.heap.size, 0, none⟩ 1 1 [.slice xa xl xc] rfl rfl (World.news_of_block (cs := #[.slice xa xl xc]) (t := 32) (fr := (0, 0)) (heap_alloc_new we _)) (by simp [Value.oneCell']) (by omega) (by unfold maxLen; omega) (by omega) (by simp) (we.heap.size + 1) (by simp) ?_; intro gg cap w5 hown2 hgrow hat hlt5; obtain ⟨hrec5, hG5⟩ := HF.out gg cap w5 _ hown2 hgrow hat; obtain ⟨⟨z0, z1, z2, z3, z4, z5, z6, z7⟩, zf0, zf1, zf2, zf3, zf4, zf5, zf6, zf7⟩ := RecAt.eight hrec5; have hN5 := hrec5.lt; have HG5 := Lib.hid hG5; clear hrec5 hG5 hown2 hgrow hat)
            obtain ⟨w6, hw6⟩ : ∃ w6, w6 = w5.setCell ⟨N, 3, none⟩ (.slice (some ⟨gg, 0, none⟩) (wm + 1) cap) := ⟨_, rfl⟩
            rw [← hw6] at HG5
            rw [← hw6]
            clear hw6
            go_wp2_with fail
            go_roundg (T.length - j4)
            case measure => have := HGK.out; omega
            case rel => exact ⟨j4, M, _, (wm + 1), cap, (ws ++ [wordR x]), ga, gm, gc, gs, ra, rm, rc, rd, rfl, by omega, by omega, by omega, by omega, by omega, HG5, HRN⟩
end Go.Proofs.YtcahifkiiabioaaDoor
namespace Go.Proofs.YtcahifkiiabioaaDoor
open Go.RowKit
set_option linter.unusedVariables false

theorem RS.two {w : World} {B cs : Nat} {tv : Value} {n : Nat} {T : List Tk} {i d : Nat} (h : RS w B cs tv n T i d) (hj : 2 ≤ (T.drop i).length) :
    RS (w.setCell ⟨cs, 1, none⟩ (.int .i64 ((i : Int) + 2))) B cs tv n T (i + 2) d ∧ Keeps (fun b => b = cs) w (w.setCell ⟨cs, 1, none⟩ (.int .i64 ((i : Int) + 2))) := by
  rw [List.length_drop] at hj
  have := h.set1 (j := i + 2) (by omega)
  rw [show (((i + 2 : Nat) : Int)) = (i : Int) + 2 by omega] at this
  exact this
/-- A record is written into the result; then a row of one command is made. -/
theorem fin_lit {w w9 wz wF : World} {B cs : Nat} {tv : Value} {n : Nat} {T : List Tk} {d J : Nat} {ds : List Dt} {vs : List Value} (hk : Keeps (fun b => b = cs) w w9) (hrs : RS w9 B cs tv n T J d) (hc : cs < w.heap.size)
    (hr : RdL w9 (fun b => w.heap.size < b) ds vs) (hl : ds.length = 8) (hz : Keeps (fun b => b = w.heap.size) w9 wz) (hs : wz.heap.size = w9.heap.size) (hF : wF = wz.alloc (.cells vs.toArray 40)) :
    RS wF B cs tv n T J d ∧ Keeps (fun b => b = cs) w wF ∧ Rd wF (fun b => w.heap.size ≤ b) (.sl 8 ds) (.slice (some ⟨w9.heap.size, 0, none⟩) 1 1) := by
  have hB := hrs.cs
  have hs9 := hk.size
  have hkF : Keeps (fun _ => False) wz wF := by rw [hF]; exact (Keeps.refl _ _).alloc _
  refine ⟨(hrs.keep hz (fun b hb e => by omega) (fun e => by omega)).keep0 hkF, (hk.fresh hz (fun b e => by omega)).trans hkF (fun _ _ h => h.elim), ?_⟩
  rw [← hs]
  exact rd_lit (k := 8) (m := 1) (Ty := 40) (D := fun b => w.heap.size ≤ b) ((hr.keep hz (fun b _ hb e => by omega)).mono (fun b _ hb => Nat.le_of_lt hb)) hl (by decide) hF (by omega)
theorem function_eq (cmd : List Tk → PR (List Dt)) (nm : Bs) (ts : List Tk) : functionF cmd nm ts = if isOpF [41] ts.tail.tail then
    (if beginsF (linesF ts.tail.tail.tail) && (isOpF [40] (linesF ts.tail.tail.tail) || reservedL.contains (plainT (atF (linesF ts.tail.tail.tail)))) then (match cmd (linesF ts.tail.tail.tail) with
      | .error e => .error e
      | .ok (d, r2) => .ok (ndR 11 false nm [] [] [] d [], r2))
    else .error 2) else .error 2 := by
  unfold functionF needOp
  cases isOpF [41] ts.tail.tail <;> rfl

set_option maxRecDepth 100000 in
set_option maxHeartbeats 16000000 in
theorem function_any (K : Nat) (hcmd : CmdOK K) (w : World) (B cs n i d : Nat) (tv : Value) (T : List Tk) (nm : Bs) (h : RS w B cs tv n T i d) (hd : d + K = 40) (hpos : 2 ≤ (T.drop i).length) :
    Calls Tryd.prog 89 #[.pointer (some ⟨cs, 0, none⟩), .string ⟨nm.toArray⟩] w (NodePost w B cs tv n T i d AnyS (functionF (commandF K) nm (T.drop i))) := by
  obtain ⟨res, hres⟩ : ∃ res, res = functionF (commandF K) nm (T.drop i) := ⟨_, rfl⟩
  rw [← hres]
  rw [function_eq, drop_tail, drop_tail, drop_tail] at hres
  have hc8 := cells_node
  have HRES := Lib.hid hres
  have HH := Lib.hid h
  have HC := Lib.hid hcmd
  have HD := Lib.hid hd
  have HCS := Lib.hid h.lt
  obtain ⟨c0, c1, c2, fz1, fz2⟩ := h.cells
  have hcl := h.lt
  have hI1 := h.i
  have hT1 := h.sm.1
  have p0 : (i : Int) ≤ 20000 := by omega
  have p00 : (0 : Int) ≤ (i : Int) := by omega
  have HPOS := Lib.hid hpos
  clear hpos hres h hcmd hd
  go_enter Tryd.func89, Tryd.ntmps89
  go_wp2_with fail
  obtain ⟨wq, hwq⟩ : ∃ wq, wq = w.setCell ⟨cs, 1, none⟩ (.int .i64 ((i : Int) + 2)) := ⟨_, rfl⟩
  obtain ⟨hn1, hn2⟩ := HH.out.two HPOS.out
  rw [← hwq] at hn1 hn2
  have hzq : wq.heap.size = w.heap.size := by rw [hwq]; simp
  obtain ⟨W, hW⟩ : ∃ W, W = wq.alloc (.cells #[.int .i64 0, .bool false, .string ⟨#[]⟩, .slice none 0 0, .slice none 0 0, .slice none 0 0, .slice none 0 0, .slice none 0 0] 40) := ⟨_, rfl⟩
  have hkW : Keeps (fun _ => False) wq W := by rw [hW]; exact (Keeps.refl _ _).alloc _
  have HR := Lib.hid (show RecAt W w.heap.size [.int .i64 0, .bool false, .string ⟨#[]⟩, .slice none 0 0, .slice none 0 0, .slice none 0 0, .slice none 0 0, .slice none 0 0] by rw [hW, ← hzq]; exact new_rec8 _ _ _ _ _ _ _ _ _ _)
  have HKW := Lib.hid (hn2.trans hkW (fun _ _ h => h.elim))
  have HX := Lib.hid (show w.heap.size < W.heap.size by rw [hW, ← hzq]; simp)
  have HS := Lib.hid (hn1.keep0 hkW)
  have hl2 : i + 2 ≤ T.length := by have h9 := HPOS.out; rw [List.length_drop] at h9; omega
  rw [← hwq, ← hW]
  clear hkW hW hn1 hn2 hzq hwq c0 c1 c2 fz1 fz2
  cases hq : isOpF [41] (T.drop (i + 2)) with
  | false =>
    have HRX := Lib.hid (show res = .error 2 by rw [HRES.out, hq]; rfl)
    refine (opP_any W B cs n (i + 2) d tv T [41] false HS.out hq).mono ?_
    rintro e w1 ⟨rfl, j1, hj1, ht1, hrs1, hk1⟩
    have HK3 := Lib.hid (HKW.out.trans hk1 (fun _ _ h => h))
    clear hrs1 hk1 ht1 hq
    go_wp2_with fail
    refine (need_no _).mono ?_
    rintro e w2 ⟨rfl, rfl⟩
    go_wp2_with fail
    refine ⟨rfl, ?_⟩
    rw [HRX.out]
    exact ⟨rfl, HK3.out⟩
  | true =>
    refine (opP_any W B cs n (i + 2) d tv T [41] true HS.out hq).mono ?_
    rintro e w1 ⟨rfl, j1, hj1, ht1, hrs1, hk1⟩
    have HS1 := Lib.hid hrs1
    have HK1 := Lib.hid hk1
    have ht1b : T.drop j1 = T.drop (i + 2 + 1) := by rw [← drop_tail]; exact ht1
    have HRES1 := Lib.hid (show res = if beginsF (linesF (T.drop j1)) && (isOpF [40] (linesF (T.drop j1)) || reservedL.contains (plainT (atF (linesF (T.drop j1))))) then (match commandF K (linesF (T.drop j1)) with
      | .error e => .error e
      | .ok (d, r2) => .ok (ndR 11 false nm [] [] [] d [], r2)) else .error 2 by rw [HRES.out, hq, if_pos rfl, ht1b])
    clear hrs1 hk1 ht1 ht1b hq HRES
    go_wp2_with fail
    refine (need_yes _).mono ?_
    rintro e w2 ⟨rfl, rfl⟩
    go_wp2_with fail
    refine (lines_any w1 B cs n j1 d tv T HS1.out).mono ?_
    rintro e w2 ⟨rfl, j2, hj2, ht2, hrs2, hk2⟩
    have HS2 := Lib.hid hrs2
    have HK2 := Lib.hid (HK1.out.trans hk2 (fun _ _ h => h))
    have HRES2 := Lib.hid (show res = if beginsF (T.drop j2) && (isOpF [40] (T.drop j2) || reservedL.contains (plainT (atF (T.drop j2)))) then (match commandF K (T.drop j2) with
      | .error e => .error e
      | .ok (d, r2) => .ok (ndR 11 false nm [] [] [] d [], r2)) else .error 2 by rw [HRES1.out, ht2])
    clear hrs2 hk2 ht2 HRES1
    go_wp2_with fail
    cases hb : beginsF (T.drop j2) with
    | false =>
      have HRX := Lib.hid (show res = .error 2 by rw [HRES2.out, hb]; rfl)
      refine (begins_any w2 B cs n j2 d tv T false HS2.out hb).mono ?_
      rintro e w3 ⟨rfl, hk3⟩
      have HK3 := Lib.hid ((HKW.out.trans HK2.out (fun _ _ h => h)).trans hk3 (fun _ _ h => h.elim))
      clear hk3 hb
      go_wp2_with fail
      refine (need_no _).mono ?_
      rintro e w4 ⟨rfl, rfl⟩
      go_wp2_with fail
      refine ⟨rfl, ?_⟩
      rw [HRX.out]
      exact ⟨rfl, HK3.out⟩
    | true =>
      have HRES3 := Lib.hid (show res = if isOpF [40] (T.drop j2) || reservedL.contains (plainT (atF (T.drop j2))) then (match commandF K (T.drop j2) with
        | .error e => .error e
        | .ok (d, r2) => .ok (ndR 11 false nm [] [] [] d [], r2)) else .error 2 by rw [HRES2.out, hb, Bool.true_and])
      refine (begins_any w2 B cs n j2 d tv T true HS2.out hb).mono ?_
      rintro e w3 ⟨rfl, hk3⟩
      have HS3 := Lib.hid (HS2.out.keep0 hk3)
      have HK3 := Lib.hid (HK2.out.trans hk3 (fun _ _ h => h.elim))
      clear hk3 hb HRES2
      go_wp2_with fail
      cases ho : isOpF [40] (T.drop j2) with
      | true =>
        refine (isOp_any w3 B cs n j2 d tv T [40] true HS3.out ho).mono ?_
        rintro e w4 ⟨rfl, hk4⟩
        have HS4 := Lib.hid (HS3.out.keep0 hk4)
        have HK4 := Lib.hid (HK3.out.trans hk4 (fun _ _ h => h.elim))
        have HRES4 := Lib.hid (show res = match commandF K (T.drop j2) with
          | .error e => .error e
          | .ok (d, r2) => .ok (ndR 11 false nm [] [] [] d [], r2) by rw [HRES3.out, ho]; rfl)
        clear hk4 ho
        go_wp2_with fail
        refine (need_yes _).mono ?_
        rintro e w5 ⟨rfl, rfl⟩
        go_wp2_with fail
        refine (HC.out w4 B cs n j2 d tv T HS4.out HD.out).mono ?_
        intro e w9 hp
        cases hcm : commandF K (T.drop j2) with
        | error y =>
          rw [hcm] at hp
          obtain ⟨rfl, hk9⟩ := hp
          have HRX := Lib.hid (show res = .error y by rw [HRES4.out, hcm])
          have HK9 := Lib.hid ((HKW.out.trans HK4.out (fun _ _ h => h)).trans hk9 (fun _ _ h => h))
          clear hcm hk9
          go_wp2_with fail
          refine ⟨rfl, ?_⟩
          rw [HRX.out]
          exact ⟨rfl, HK9.out⟩
        | ok dr =>
          obtain ⟨acc, r⟩ := dr
          rw [hcm] at hp
          obtain ⟨vs, ⟨rfl, j9, hj9, ht9, hrs9, hk9⟩, _, hnd, hrd⟩ := hp
          obtain ⟨k, b, s, a0, n0, c0, a1, n1, c1, a2, n2, c2, a3, n3, c3, a4, n4, c4, rfl⟩ := nd_vals hnd hrd
          have HRX := Lib.hid (show res = .ok (ndR 11 false nm [] [] [] acc [], r) by rw [HRES4.out, hcm])
          have hsz : W.heap.size ≤ w4.heap.size := HK4.out.size
          have hsz9 := hk9.size
          have hkk := (HK4.out.trans hk9 (fun _ _ h => h))
          have hxw := HX.out
          have hcw := HCS.out
          have HK9 := Lib.hid (HKW.out.trans hkk (fun _ _ h => h))
          have HS9 := Lib.hid hrs9
          have HRD9 := Lib.hid (hrd.mono (D' := fun b => w.heap.size < b) (fun b _ hb => by omega))
          have HND := Lib.hid (show NdD (ndR 11 false nm [] [] [] acc []) from ⟨_, _, _, _, _, _, _, _, rfl⟩)
          have HLN := Lib.hid hnd.len
          have HT9 := Lib.hid ht9
          have HJ9 := Lib.hid (show i ≤ j9 by omega)
          obtain ⟨⟨z0, z1, z2, z3, z4, z5, z6, z7⟩, y0, y1, y2, y3, y4, y5, y6, y7⟩ := (HR.out.keep hkk (fun e => by omega)).eight
          have hzl := (HR.out.keep hkk (fun e => by omega)).lt
          clear hcm hk9 hrs9 hrd hnd ht9 hkk hsz hsz9 hxw hcw
          go_wp2_with fail
          refine bodyPost_ret (v := .agg #[.int .i64 11, .bool false, .string ⟨nm.toArray⟩, .slice none 0 0, .slice none 0 0, .slice none 0 0, .slice (some ⟨w9.heap.size, 0, none⟩) 1 1, .slice none 0 0]) (by simp [results, Tryd.results89, go_sem, z0, z1, z2, z3, z4, z5, z6, z7, hzl]) rfl ?_
          obtain ⟨f1, f2, f3⟩ := fin_lit HK9.out HS9.out HCS.out HRD9.out HLN.out (set8_keeps w9 w.heap.size (.int .i64 11) (.bool false) (.string ⟨nm.toArray⟩) (.slice none 0 0) (.slice none 0 0) (.slice none 0 0) (.slice (some ⟨w9.heap.size, 0, none⟩) 1 1) (.slice none 0 0)) (by simp) rfl
          rw [HRX.out]
          exact ⟨[.int .i64 11, .bool false, .string ⟨nm.toArray⟩, .slice none 0 0, .slice none 0 0, .slice none 0 0, .slice (some ⟨w9.heap.size, 0, none⟩) 1 1, .slice none 0 0], ⟨rfl, _, HJ9.out, HT9.out, f1, f2⟩, trivial, HND.out, ⟨.int _, .bool _, .str _, .nil _ _ _ (Nat.zero_le _), .nil _ _ _ (Nat.zero_le _), .nil _ _ _ (Nat.zero_le _), f3, .nil _ _ _ (Nat.zero_le _), trivial⟩⟩
      | false =>
        refine (isOp_any w3 B cs n j2 d tv T [40] false HS3.out ho).mono ?_
        rintro e w4 ⟨rfl, hk4⟩
        have HS4 := Lib.hid (HS3.out.keep0 hk4)
        have HK4 := Lib.hid (HK3.out.trans hk4 (fun _ _ h => h.elim))
        have HRES4 := Lib.hid (show res = if reservedL.contains (plainT (atF (T.drop j2))) then (match commandF K (T.drop j2) with
          | .error e => .error e
          | .ok (d, r2) => .ok (ndR 11 false nm [] [] [] d [], r2)) else .error 2 by rw [HRES3.out, ho, Bool.false_or])
        clear hk4 ho
        go_wp2_with fail
        refine (at_tok w4 B cs n j2 d tv T HS4.out).mono ?_
        rintro e w5 ⟨a, c, rfl, hp, hk5⟩
        have HS5 := Lib.hid (HS4.out.keep0 hk5)
        have HK5 := Lib.hid (HK4.out.trans hk5 (fun _ _ h => h.elim))
        have HP := Lib.hid hp
        clear hp hk5
        go_wp2_with fail
        refine (plain_any _ _ _ _ _ _ HP.out).mono ?_
        rintro e w6 ⟨rfl, hk6⟩
        have HS6 := Lib.hid (HS5.out.keep0 hk6)
        have HK6 := Lib.hid (HK5.out.trans hk6 (fun _ _ h => h.elim))
        clear hk6
        go_wp2_with fail
        refine (reserved_any _ w6 B HS6.out.ev).mono ?_
        rintro e w7 ⟨rfl, hk7⟩
        have HS7 := Lib.hid (HS6.out.keep0 hk7)
        have HK7 := Lib.hid (HK6.out.trans hk7 (fun _ _ h => h.elim))
        clear hk7
        cases hr : reservedL.contains (plainT (atF (T.drop j2))) with
        | false =>
          have HRX := Lib.hid (show res = .error 2 by rw [HRES4.out, hr]; rfl)
          have HK9 := Lib.hid (HKW.out.trans HK7.out (fun _ _ h => h))
          clear hr
          go_wp2_with fail
          refine (need_no _).mono ?_
          rintro e w8 ⟨rfl, rfl⟩
          go_wp2_with fail
          refine ⟨rfl, ?_⟩
          rw [HRX.out]
          exact ⟨rfl, HK9.out⟩
        | true =>
          have HRES5 := Lib.hid (show res = match commandF K (T.drop j2) with
            | .error e => .error e
            | .ok (d, r2) => .ok (ndR 11 false nm [] [] [] d [], r2) by rw [HRES4.out, hr, if_pos rfl])
          clear hr
          go_wp2_with fail
          refine (need_yes _).mono ?_
          rintro e w8 ⟨rfl, rfl⟩
          go_wp2_with fail
          refine (HC.out w7 B cs n j2 d tv T HS7.out HD.out).mono ?_
          intro e w9 hp
          cases hcm : commandF K (T.drop j2) with
          | error y =>
            rw [hcm] at hp
            obtain ⟨rfl, hk9⟩ := hp
            have HRX := Lib.hid (show res = .error y by rw [HRES5.out, hcm])
            have HK9 := Lib.hid ((HKW.out.trans HK7.out (fun _ _ h => h)).trans hk9 (fun _ _ h => h))
            clear hcm hk9
            go_wp2_with fail
            refine ⟨rfl, ?_⟩
            rw [HRX.out]
            exact ⟨rfl, HK9.out⟩
          | ok dr =>
            obtain ⟨acc, r⟩ := dr
            rw [hcm] at hp
            obtain ⟨vs, ⟨rfl, j9, hj9, ht9, hrs9, hk9⟩, _, hnd, hrd⟩ := hp
            obtain ⟨k, b, s, a0, n0, c0, a1, n1, c1, a2, n2, c2, a3, n3, c3, a4, n4, c4, rfl⟩ := nd_vals hnd hrd
            have HRX := Lib.hid (show res = .ok (ndR 11 false nm [] [] [] acc [], r) by rw [HRES5.out, hcm])
            have hsz : W.heap.size ≤ w7.heap.size := HK7.out.size
            have hsz9 := hk9.size
            have hkk := (HK7.out.trans hk9 (fun _ _ h => h))
            have hxw := HX.out
            have hcw := HCS.out
            have HK9 := Lib.hid (HKW.out.trans hkk (fun _ _ h => h))
            have HS9 := Lib.hid hrs9
            have HRD9 := Lib.hid (hrd.mono (D' := fun b => w.heap.size < b) (fun b _ hb => by omega))
            have HND := Lib.hid (show NdD (ndR 11 false nm [] [] [] acc []) from ⟨_, _, _, _, _, _, _, _, rfl⟩)
            have HLN := Lib.hid hnd.len
            have HT9 := Lib.hid ht9
            have HJ9 := Lib.hid (show i ≤ j9 by omega)
            obtain ⟨⟨z0, z1, z2, z3, z4, z5, z6, z7⟩, y0, y1, y2, y3, y4, y5, y6, y7⟩ := (HR.out.keep hkk (fun e => by omega)).eight
            have hzl := (HR.out.keep hkk (fun e => by omega)).lt
            clear hcm hk9 hrs9 hrd hnd ht9 hkk hsz hsz9 hxw hcw
            go_wp2_with fail
            refine bodyPost_ret (v := .agg #[.int .i64 11, .bool false, .string ⟨nm.toArray⟩, .slice none 0 0, .slice none 0 0, .slice none 0 0, .slice (some ⟨w9.heap.size, 0, none⟩) 1 1, .slice none 0 0]) (by simp [results, Tryd.results89, go_sem, z0, z1, z2, z3, z4, z5, z6, z7, hzl]) rfl ?_
            obtain ⟨f1, f2, f3⟩ := fin_lit HK9.out HS9.out HCS.out HRD9.out HLN.out (set8_keeps w9 w.heap.size (.int .i64 11) (.bool false) (.string ⟨nm.toArray⟩) (.slice none 0 0) (.slice none 0 0) (.slice none 0 0) (.slice (some ⟨w9.heap.size, 0, none⟩) 1 1) (.slice none 0 0)) (by simp) rfl
            rw [HRX.out]
            exact ⟨[.int .i64 11, .bool false, .string ⟨nm.toArray⟩, .slice none 0 0, .slice none 0 0, .slice none 0 0, .slice (some ⟨w9.heap.size, 0, none⟩) 1 1, .slice none 0 0], ⟨rfl, _, HJ9.out, HT9.out, f1, f2⟩, trivial, HND.out, ⟨.int _, .bool _, .str _, .nil _ _ _ (Nat.zero_le _), .nil _ _ _ (Nat.zero_le _), .nil _ _ _ (Nat.zero_le _), f3, .nil _ _ _ (Nat.zero_le _), trivial⟩⟩
end Go.Proofs.YtcahifkiiabioaaDoor
namespace Go.Proofs.YtcahifkiiabioaaDoor
open Go.RowKit
set_option linter.unusedVariables false

def redEnd (ds : List Dt) (p : PR (List Dt)) : PR (List Dt) := match p with
  | .error e => .error e
  | .ok (rs, r2) => .ok (ds.set 5 (.sl 2 rs), r2)
theorem with_ok (scr : Bs → Except Nat Unit) (ds : List Dt) (r : List Tk) : withRedirs scr (.ok (ds, r)) = redEnd ds (redirsF scr (r.length + 1) [] r) := by
  unfold withRedirs redEnd
  dsimp only
  cases redirsF scr (r.length + 1) [] r with
  | error y => rfl
  | ok x => rfl
theorem with_error (scr : Bs → Except Nat Unit) (e : Nat) : withRedirs scr (.error e) = .error e := rfl
theorem redirs_succ (scr : Bs → Except Nat Unit) (n : Nat) (acc : List Dt) (ts : List Tk) : redirsF scr (n + 1) acc ts = if redirB ts then (match redirF scr ts with
    | .error e => .error e
    | .ok (d, r) => redirsF scr n (acc ++ d) r) else .ok (acc, ts) := rfl
theorem name_pos {ts : List Tk} (h : nameOkF (plainT (atF ts)) = true) : 1 ≤ ts.length := by
  cases ts with
  | nil => exact absurd h (by decide)
  | cons _ _ => simp
theorem opens_pos {ts : List Tk} (h : opensF ts = true) : 2 ≤ ts.length := by
  have := op_pos h
  rw [List.length_tail] at this
  omega
section
variable (cmd : List Tk → PR (List Dt)) (scr : Bs → Except Nat Unit)
def chain7 (ts : List Tk) : Option (PR (List Dt)) := if nameOkF (plainT (atF ts)) && opensF ts then some (functionF cmd (plainT (atF ts)) ts) else none
def chain6 (ts : List Tk) : Option (PR (List Dt)) := if isWF [99, 97, 115, 101] ts then some (withRedirs scr (casesF cmd scr ts.tail)) else chain7 cmd ts
def chain5 (ts : List Tk) : Option (PR (List Dt)) := if isWF [102, 111, 114] ts then some (withRedirs scr (eachF cmd scr ts.tail)) else chain6 cmd scr ts
def chain4 (ts : List Tk) : Option (PR (List Dt)) := if isWF [117, 110, 116, 105, 108] ts then some (withRedirs scr (whileF cmd 8 ts.tail)) else chain5 cmd scr ts
def chain3 (ts : List Tk) : Option (PR (List Dt)) := if isWF [119, 104, 105, 108, 101] ts then some (withRedirs scr (whileF cmd 7 ts.tail)) else chain4 cmd scr ts
def chain2 (ts : List Tk) : Option (PR (List Dt)) := if isWF [105, 102] ts then some (withRedirs scr (choiceF cmd ts.tail)) else chain3 cmd scr ts
def chain1 (ts : List Tk) : Option (PR (List Dt)) := if isWF [123] ts then some (withRedirs scr (shutF cmd 12 (needW [125]) ts.tail)) else chain2 cmd scr ts
theorem compound_eq (ts : List Tk) : compoundF cmd scr ts = if isOpF [40] ts then some (withRedirs scr (shutF cmd 13 (needOp [41]) ts.tail)) else chain1 cmd scr ts := rfl
end
def CompPost (w : World) (B cs : Nat) (tv : Value) (n : Nat) (T : List Tk) (i d : Nat) (res : Option (PR (List Dt))) (e : Ending) (w' : World) : Prop := match res with
  | none => MovePost w B cs tv n T i d (.tuple #[.agg #[.int .i64 0, .bool false, .string ⟨#[]⟩, .slice none 0 0, .slice none 0 0, .slice none 0 0, .slice none 0 0, .slice none 0 0], .bool false]) (T.drop i) e w'
  | some (.ok (ds, r)) => ∃ vs, MovePost w B cs tv n T i d (.tuple #[.agg vs.toArray, .bool true]) r e w' ∧ NdD ds ∧ RdL w' (fun b => w.heap.size ≤ b) ds vs
  | some (.error x) => e = failedP x ∧ Keeps (fun b => b = cs) w w'
section
variable {w wr : World} {B cs : Nat} {tv : Value} {n : Nat} {T : List Tk} {d J X N : Nat}
/-- The record of a command, to which redirections are added. -/
theorem core_gi {ds : List Dt} {k : Int} {b : Bool} {s : ByteArray} {a0 : Option Addr} {n0 c0 : Nat} {a1 : Option Addr} {n1 c1 : Nat} {a3 : Option Addr} {n3 c3 : Nat} {a4 : Option Addr} {n4 c4 : Nat} {Z : List Value}
    (hnd : NdD ds) (hrd : RdL wr (fun b => X ≤ b) ds [.int .i64 k, .bool b, .string s, .slice a0 n0 c0, .slice a1 n1 c1, .slice none 0 0, .slice a3 n3 c3, .slice a4 n4 c4])
    (hrs : RS wr B cs tv n T J d) (hk : Keeps (fun b => b = cs) w wr) (hz : RecAt wr w.heap.size Z) (hn : RecAt wr N [.int .i64 k, .bool b, .string s, .slice a0 n0 c0, .slice a1 n1 c1, .slice none 0 0, .slice a3 n3 c3, .slice a4 n4 c4]) (hX : N < X) :
    ∃ p0 p1 p2 p3 p4 q6 q7, (∀ x, ds.set 5 x = [p0, p1, p2, p3, p4, x, q6, q7]) ∧ (∀ rs, NdD (ds.set 5 (.sl 2 rs))) ∧ GI w wr B cs tv n T d X N Z [p0, p1, p2, p3, p4] [q6, q7] [.int .i64 k, .bool b, .string s, .slice a0 n0 c0, .slice a1 n1 c1] [.slice a3 n3 c3, .slice a4 n4 c4] 2 47 J 0 none 0 [] := by
  obtain ⟨kind, nt, nm, ws, gs, rs, ks, ar, rfl⟩ := hnd
  obtain ⟨h0, h1, h2, h3, h4, h5, h6, h7, _⟩ := hrd
  have hm : ∀ {dd : List Dt} {vv : List Value}, RdL wr (fun b => X ≤ b) dd vv → RdL wr (fun b => (X ≤ b ∧ b ≠ N) ∧ (Value.slice none 0 0).ownBlock ≠ some b) dd vv := fun hh => hh.mono fun b _ hb => ⟨⟨hb, by omega⟩, fun e => by cases e⟩
  exact ⟨_, _, _, _, _, _, _, fun _ => rfl, fun r => ⟨kind, nt, nm, ws, gs, r, ks, ar, rfl⟩, hrs, hk, hz, hn, OwnD.nil _ _ _ _, fun g hg => (by cases hg), hm ⟨h0, h1, h2, h3, h4, trivial⟩, hm ⟨h6, h7, trivial⟩⟩
theorem bare_vals {D : Nat → Prop} {ds : List Dt} {vs : List Value} (hnd : NdD ds) (hrd : RdL wr D ds vs) (hb : BareS vs) : ∃ (k : Int) (b : Bool) (s : ByteArray) (a0 : Option Addr) (n0 c0 : Nat) (a1 : Option Addr) (n1 c1 : Nat) (a3 : Option Addr) (n3 c3 : Nat) (a4 : Option Addr) (n4 c4 : Nat),
    vs = [.int .i64 k, .bool b, .string s, .slice a0 n0 c0, .slice a1 n1 c1, .slice none 0 0, .slice a3 n3 c3, .slice a4 n4 c4] := by
  obtain ⟨k, b, s, a0, n0, c0, a1, n1, c1, a2, n2, c2, a3, n3, c3, a4, n4, c4, rfl⟩ := nd_vals hnd hrd
  have h : (Value.slice a2 n2 c2) = .slice none 0 0 := Option.some.inj hb
  rw [h]
  exact ⟨k, b, s, a0, n0, c0, a1, n1, c1, a3, n3, c3, a4, n4, c4, rfl⟩
end
end Go.Proofs.YtcahifkiiabioaaDoor
