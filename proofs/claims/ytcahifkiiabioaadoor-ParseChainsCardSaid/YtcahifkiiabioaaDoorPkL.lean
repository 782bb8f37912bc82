/-
  Chains of commands that a law makes: what its loop holds.
-/
import Derived.Test.YtcahifkiiabioaaDoorPkK
namespace Go.Proofs.YtcahifkiiabioaaDoor
open Go.RowKit
set_option linter.unusedVariables false

theorem GoodB.up : ∀ (n : Nat) (ds : List Dt), GoodB n ds → GoodB (n + 1) ds
  | 0, ds, h => by
    have h : ds = [] := h
    subst h
    exact ⟨[], rfl, fun x hx => by cases hx⟩
  | n + 1, ds, ⟨xs, h1, h2⟩ => ⟨xs, h1, fun x hx => ⟨GoodB.up n x.ks (h2 x hx).1, (h2 x hx).2⟩⟩
theorem GoodB.le {n m : Nat} {ds : List Dt} (h : GoodB n ds) (hm : n ≤ m) : GoodB m ds := by
  induction m with
  | zero => obtain rfl : n = 0 := by omega
            exact h
  | succ m ih =>
    by_cases e : n = m + 1
    · subst e; exact h
    · exact GoodB.up m ds (ih (by omega))
theorem GoodB.app {n : Nat} {a b : List Dt} (ha : GoodB n a) (hb : GoodB n b) : GoodB n (a ++ b) := by
  cases n with
  | zero =>
    have ha : a = [] := ha
    have hb : b = [] := hb
    subst ha hb
    rfl
  | succ n =>
    obtain ⟨xs, rfl, hx⟩ := ha
    obtain ⟨ys, rfl, hy⟩ := hb
    exact ⟨xs ++ ys, by rw [List.flatMap_append], fun z hz => by rcases List.mem_append.1 hz with h | h; exact hx z h; exact hy z h⟩
theorem GoodB.node {n : Nat} {kd : Nat} {ks : List Dt} (h : GoodB n ks) : GoodB (n + 1) (ndR kd false [] [] [] [] ks []) :=
  ⟨[⟨kd, false, [], [], [], [], ks, []⟩], by simp [Nx.row], fun x hx => by rw [List.mem_singleton.1 hx]; exact ⟨h, rfl⟩⟩
theorem good_a : GoodB 1 aD := ⟨[⟨1, false, [], [[txtP [97]]], [], [], [], []⟩], by simp [Nx.row, aD], fun x hx => by rw [List.mem_singleton.1 hx]; exact ⟨rfl, rfl⟩⟩
theorem good_many : ∀ m, GoodB 1 (manyA m)
  | 0 => ⟨[], rfl, fun x hx => by cases hx⟩
  | m + 1 => by rw [manyA_succ]; exact good_a.app (good_many m)
theorem good_pipe (m : Nat) : GoodB 2 (pipeD m) := by
  unfold pipeD
  split
  · exact GoodB.up 1 _ good_a
  · exact (good_many (m + 1)).node
theorem good_comb {n kd m : Nat} {ah : List Dt} (h : kd ≠ 0 → GoodB n ah) (hn : 2 ≤ n) : GoodB (n + 1) (combD kd ah (pipeD m)) := by
  unfold combD
  by_cases hk : kd = 0
  · rw [if_pos hk]; exact (good_pipe m).le (by omega)
  · rw [if_neg hk]; exact ((h hk).app ((good_pipe m).le hn)).node
theorem good_chain : ∀ (ks : List Nat) (n m kd : Nat) (ah : List Dt), (kd ≠ 0 → GoodB n ah) → 2 ≤ n → ∃ n', GoodB n' (chainD ks m kd ah)
  | [], n, m, kd, ah, h, hn => ⟨n + 1, good_comb h hn⟩
  | k :: ks, n, m, kd, ah, h, hn => by
    unfold chainD
    by_cases hk : k = 0
    · rw [if_pos hk]; exact good_chain ks n (m + 1) kd ah h hn
    · rw [if_neg hk]; exact good_chain ks (n + 1) 0 (kdOf k) _ (fun _ => good_comb h hn) (by omega)
abbrev aV (ua : Option Addr) : List Value := [.int .i64 1, .bool false, .string ⟨#[]⟩, .slice ua 1 1, .slice none 0 0, .slice none 0 0, .slice none 0 0, .slice none 0 0]
/-- Where the data lies: not where the law's own variables lie. -/
def Dc (A0 B0 C0 X : Nat) (b : Nat) : Prop := X ≤ b ∧ b ≠ A0 ∧ b ≠ B0 ∧ b ≠ C0
def Eight (vs : List Value) : Prop := ∃ (k : Int) (b : Bool) (s : ByteArray) (a0 : Option Addr) (n0 c0 : Nat) (a1 : Option Addr) (n1 c1 : Nat) (a2 : Option Addr) (n2 c2 : Nat) (a3 : Option Addr) (n3 c3 : Nat) (a4 : Option Addr) (n4 c4 : Nat), vs = [.int .i64 k, .bool b, .string s, .slice a0 n0 c0, .slice a1 n1 c1, .slice a2 n2 c2, .slice a3 n3 c3, .slice a4 n4 c4]
/-- What the loop holds: the command a (A0), what is wanted (B0), what stands ahead (C0); the pipeline that is made. -/
structure ChK (w0 wr : World) (X A0 B0 C0 : Nat) (ua : Option Addr) (kd : Nat) (ah : List Dt) (vs : List Value) (pa : Option Addr) (m pc : Nat) : Prop where
  kp : Keeps (fun b => X ≤ b) w0 wr
  ra : RecAt wr A0 (aV ua)
  da : RdL wr (fun b => Dc A0 B0 C0 X b ∧ (Value.slice pa (m + 1) pc).ownBlock ≠ some b) aD (aV ua)
  rb : RecAt wr B0 (aV ua)
  rh : RecAt wr C0 vs
  e8 : Eight vs
  dc : kd ≠ 0 → RdL wr (fun b => Dc A0 B0 C0 X b ∧ (Value.slice pa (m + 1) pc).ownBlock ≠ some b) ah vs
  ow : OwnD wr (Dc A0 B0 C0 X) (.slice pa (m + 1) pc) 8 40 (m + 1) (manyA (m + 1))
  lo : ∀ g, (Value.slice pa (m + 1) pc).ownBlock = some g → Dc A0 B0 C0 X g
  xl : w0.heap.size ≤ X ∧ X ≤ A0 ∧ X ≤ B0 ∧ X ≤ C0
  ne : A0 ≠ B0 ∧ A0 ≠ C0 ∧ B0 ≠ C0
section
variable {w0 wr : World} {X A0 B0 C0 : Nat} {ua : Option Addr} {kd : Nat} {ah : List Dt} {vs : List Value} {pa : Option Addr} {m pc : Nat}
theorem ChK.sizes (h : ChK w0 wr X A0 B0 C0 ua kd ah vs pa m pc) : A0 < wr.heap.size ∧ B0 < wr.heap.size ∧ C0 < wr.heap.size ∧ X ≤ wr.heap.size ∧ ∀ g, (Value.slice pa (m + 1) pc).ownBlock = some g → g < wr.heap.size :=
  ⟨h.ra.lt, h.rb.lt, h.rh.lt, by have := h.xl; have := h.ra.lt; omega, fun g hg => h.ow.lt hg⟩
/-- The pipeline grows. -/
theorem ChK.more (h : ChK w0 wr X A0 B0 C0 ua kd ah vs pa m pc) : ∃ xs, wr.ownsRow 0 40 8 (.slice pa (m + 1) pc) (m + 1) xs ∧
    ∀ (gg cap : Nat) (w5 : World) (o : Obj), w5.ownsRow 0 40 8 (.slice (some ⟨gg, 0, none⟩) (m + 1 + 1) cap) (m + 1 + 1) (xs ++ aV ua) → (wr.alloc o).grownBy w5 (Value.slice pa (m + 1) pc).ownBlock → ((Value.slice pa (m + 1) pc).ownBlock = some gg ∨ gg = wr.heap.size + 1) →
      ChK w0 w5 X A0 B0 C0 ua kd ah vs (some ⟨gg, 0, none⟩) (m + 1) cap := by
  obtain ⟨s1, s2, s3, s4, s5⟩ := h.sizes
  obtain ⟨xs, hr, ho⟩ := h.ow
  refine ⟨xs, ho, fun gg cap w5 o hown hgrow hat => ?_⟩
  have hk5 : Keeps (fun b => (Value.slice pa (m + 1) pc).ownBlock = some b) wr w5 := ((Keeps.refl _ wr).alloc o).grown hgrow (fun k hk _ => hk)
  have hgD : Dc A0 B0 C0 X gg := by
    rcases hat with e | e
    · exact h.lo gg e
    · exact ⟨by omega, by omega, by omega, by omega⟩
  have hne : ∀ b, b < wr.heap.size → (Value.slice pa (m + 1) pc).ownBlock ≠ some b → gg ≠ b := fun b hb hv e => by
    rcases hat with h9 | h9
    · exact hv (by rw [h9, e])
    · omega
  have hdat : ∀ {ds : List Dt} {us : List Value}, RdL wr (fun b => Dc A0 B0 C0 X b ∧ (Value.slice pa (m + 1) pc).ownBlock ≠ some b) ds us → RdL w5 (fun b => Dc A0 B0 C0 X b ∧ (Value.slice (some ⟨gg, 0, none⟩) (m + 1 + 1) cap).ownBlock ≠ some b) ds us := fun hd =>
    (hd.lt.keep hk5 (fun b _ hb e => hb.1.2 e)).mono fun b _ hb => ⟨hb.1.1, fun e => hne b hb.2 hb.1.2 (Option.some.inj e)⟩
  refine ⟨h.kp.trans hk5 (fun b hb e => (h.lo b e).1), h.ra.keep hk5 (fun e => (h.lo _ e).2.1 rfl), hdat h.da, h.rb.keep hk5 (fun e => (h.lo _ e).2.2.1 rfl), h.rh.keep hk5 (fun e => (h.lo _ e).2.2.2 rfl), h.e8, fun hk => hdat (h.dc hk), ?_, fun g hg => by
    obtain rfl : gg = g := Option.some.inj hg
    exact hgD, h.xl, h.ne⟩
  refine ⟨xs ++ aV ua, ?_, ?_⟩
  · rw [manyA_snoc]
    exact hdat (hr.app h.da)
  · exact hown
/-- The pipeline so far, as what is to stand ahead. -/
theorem ChK.pipe (h : ChK w0 wr X A0 B0 C0 ua kd ah vs pa m pc) : RdL wr (fun b => Dc A0 B0 C0 X b ∧ b < wr.heap.size) (pipeD m) (if m = 0 then aV ua else [.int .i64 2, .bool false, .string ⟨#[]⟩, .slice none 0 0, .slice none 0 0, .slice none 0 0, .slice pa (m + 1) pc, .slice none 0 0]) := by
  unfold pipeD
  by_cases hm : m = 0
  · rw [if_pos hm, if_pos hm]
    exact h.da.lt.mono fun b _ hb => ⟨hb.1.1, hb.2⟩
  · rw [if_neg hm, if_neg hm]
    have hrd := h.ow.reads h.lo
    have hrd2 : Rd wr (fun b => Dc A0 B0 C0 X b ∧ b < wr.heap.size) (.sl 8 (manyA (m + 1))) (.slice pa (m + 1) pc) := hrd.mono fun b hb hd => ⟨hd, hb⟩
    exact ⟨.int _, .bool _, .str _, .nil _ _ _ (Nat.zero_le _), .nil _ _ _ (Nat.zero_le _), .nil _ _ _ (Nat.zero_le _), hrd2, .nil _ _ _ (Nat.zero_le _), trivial⟩
/-- A new pipeline, and what stands ahead is new. -/
theorem ChK.next (h : ChK w0 wr X A0 B0 C0 ua kd ah vs pa m pc) {w5 w6 : World} {ah' : List Dt} {vs' : List Value} (hk : Keeps (fun b => b = C0) wr w5) (hC : RecAt w5 C0 vs') (h8 : Eight vs') (hd : RdL w5 (fun b => Dc A0 B0 C0 X b ∧ b < w5.heap.size) ah' vs')
    (h6 : w6 = w5.alloc (.cells (aV ua).toArray 40)) (kd' : Nat) : ChK w0 w6 X A0 B0 C0 ua kd' ah' vs' (some ⟨w5.heap.size, 0, none⟩) 0 1 := by
  obtain ⟨s1, s2, s3, s4, s5⟩ := h.sizes
  have hs := hk.size
  have hx := h.xl
  have hne := h.ne
  have hk6 : Keeps (fun _ => False) w5 w6 := by rw [h6]; exact (Keeps.refl _ _).alloc _
  have hda5 : RdL w5 (fun b => Dc A0 B0 C0 X b ∧ b < w5.heap.size) aD (aV ua) := (h.da.lt.keep hk (fun b _ hb e => hb.1.1.2.2.2 e)).mono fun b _ hb => ⟨hb.1.1, by have := hb.2; omega⟩
  have hnew : ∀ {ds : List Dt} {us : List Value}, RdL w5 (fun b => Dc A0 B0 C0 X b ∧ b < w5.heap.size) ds us → RdL w6 (fun b => Dc A0 B0 C0 X b ∧ (Value.slice (some ⟨w5.heap.size, 0, none⟩) (0 + 1) 1).ownBlock ≠ some b) ds us := fun hd =>
    (hd.keep hk6 (fun _ _ _ e => e)).mono fun b _ hb => ⟨hb.1, fun e => by have h3 : w5.heap.size = b := Option.some.inj e; have := hb.2; omega⟩
  refine ⟨(h.kp.trans hk (fun b hb e => by omega)).trans hk6 (fun _ _ e => e.elim), (h.ra.keep hk (fun e => hne.2.1 e)).keep hk6 (fun e => e), hnew hda5, (h.rb.keep hk (fun e => hne.2.2 e)).keep hk6 (fun e => e), hC.keep hk6 (fun e => e), h8, fun _ => hnew hd, ?_, fun g hg => ?_, hx, hne⟩
  · refine ⟨aV ua, ?_, ?_⟩
    · show RdL w6 _ (manyA (0 + 1)) (aV ua)
      rw [manyA_succ, show manyA 0 = [] from rfl, List.append_nil]
      exact hnew hda5
    · rw [h6]
      have := World.ownsRow_lit (base := 0) (e := 40) (size := 8) w5 (aV ua).toArray 1 (Nat.zero_le _) (by decide) (by simp)
      simpa using this
  · have h3 : w5.heap.size = g := Option.some.inj hg
    exact ⟨by omega, by omega, by omega, by omega⟩
end
end Go.Proofs.YtcahifkiiabioaaDoor
