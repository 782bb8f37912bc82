/-
  What stands in braces.
  One part more in the bag, of any kind but a text or a quote.
  What stands behind a dollar.
  The functions that call each other, at each fuel.
  Which texts are no script; what stands between tokens.
  One token.
  What is thrown is caught.
  A copy of parts.
  Word.
  Word behind the deferred closure.
  Word, whole.
  A slice of tokens in memory; tokens, one behind the other.
  Tokens.
  Tokens behind the deferred closure.
-/
import Derived.Test.YtiihpbccabeoeaaDoorPkB
import Derived.Deep.CutBlock
import Derived.Defers
import Derived.Recover
import Derived.Laws.Pointers
import Derived.Lib.SliceRun
import Derived.Deep.RegionHeld3
namespace Go.Proofs.YtiihpbccabeoeaaDoor
open Go.RowKit
set_option linter.unusedVariables false

/-- A record. -/
def RecAt (w : World) (b : Nat) (l : List Value) : Prop := ∃ T, w.heap[b]? = some (.cells l.toArray T (0, 0))
theorem RecAt.lt {w : World} {b : Nat} {l : List Value} (h : RecAt w b l) : b < w.heap.size := by
  obtain ⟨T, h⟩ := h
  exact (Array.getElem?_eq_some_iff.1 h).1
theorem RecAt.six {w : World} {b : Nat} {a0 a1 a2 a3 a4 a5 : Value} (h : RecAt w b [a0, a1, a2, a3, a4, a5]) :
    (w.cell? ⟨b, 0, none⟩ = some a0 ∧ w.cell? ⟨b, 1, none⟩ = some a1 ∧ w.cell? ⟨b, 2, none⟩ = some a2 ∧ w.cell? ⟨b, 3, none⟩ = some a3 ∧ w.cell? ⟨b, 4, none⟩ = some a4 ∧ w.cell? ⟨b, 5, none⟩ = some a5) ∧
    (w.frozen? ⟨b, 0, none⟩ = false ∧ w.frozen? ⟨b, 1, none⟩ = false ∧ w.frozen? ⟨b, 2, none⟩ = false ∧ w.frozen? ⟨b, 3, none⟩ = false ∧ w.frozen? ⟨b, 4, none⟩ = false) := by
  obtain ⟨T, h⟩ := h
  refine ⟨⟨?_, ?_, ?_, ?_, ?_, ?_⟩, ?_, ?_, ?_, ?_, ?_⟩ <;> simp [World.cell?, World.frozen?, h]
theorem RecAt.set {w : World} {b : Nat} {l : List Value} (h : RecAt w b l) (k : Nat) (v : Value) : RecAt (w.setCell ⟨b, k, none⟩ v) b (l.set k v) := by
  obtain ⟨T, h⟩ := h
  exact ⟨T, by simp [World.setCell, Array.getElem?_modify, h]⟩
theorem RecAt.keep {w w' : World} {b : Nat} {l : List Value} {S : Nat → Prop} (h : RecAt w b l) (hk : Keeps S w w') (hb : ¬ S b) : RecAt w' b l := by
  have hl := h.lt
  obtain ⟨T, h⟩ := h
  exact ⟨T, (hk.block b hl hb).trans h⟩
/-- A field of the part is written. -/
theorem part_set {w : World} {cs pb : Nat} {s : ByteArray} {i d : Int} {l : List Value} (hs : ScanAt w cs s i d) (hr : RecAt w pb l) (hne : cs ≠ pb) (k : Nat) (v : Value) :
    ∃ w1, w1 = w.setCell ⟨pb, k, none⟩ v ∧ ScanAt w1 cs s i d ∧ RecAt w1 pb (l.set k v) ∧ Keeps (fun b => b = pb) w w1 := by
  have hk : Keeps (fun b => b = pb) w (w.setCell ⟨pb, k, none⟩ v) := (Keeps.refl _ _).setCell _ _ fun _ => rfl
  exact ⟨_, rfl, hs.keep hk hne, hr.set k v, hk⟩
abbrev Two (cs pb : Nat) (b : Nat) : Prop := b = cs ∨ b = pb
theorem two_c {w w1 w2 : World} {cs pb : Nat} (h : Keeps (Two cs pb) w w1) (k : Keeps (fun b => b = cs) w1 w2) : Keeps (Two cs pb) w w2 := h.trans k fun _ _ e => .inl e
theorem two_p {w w1 w2 : World} {cs pb : Nat} (h : Keeps (Two cs pb) w w1) (k : Keeps (fun b => b = pb) w1 w2) : Keeps (Two cs pb) w w2 := h.trans k fun _ _ e => .inr e

theorem opF_nil {l : List UInt8} (h : opF l = []) : headIs 35 l = false ∧ headIs 63 l = false := by
  cases l with
  | nil => exact ⟨rfl, rfl⟩
  | cons c t =>
    constructor
    · rw [Bool.eq_false_iff]
      intro e
      obtain rfl : c = 35 := beq_iff_eq.1 e
      revert h
      unfold opF findF opsL
      simp [List.find?, startsF]
      split <;> simp
    · rw [Bool.eq_false_iff]
      intro e
      obtain rfl : c = 63 := beq_iff_eq.1 e
      revert h
      unfold opF findF opsL
      simp [List.find?, startsF]
theorem long_name {r : List UInt8} {k : Nat} (h : longB r = true) (hk : k ≠ 0) : r.tail.take k ≠ [35] ∧ r.tail.take k ≠ [63] := by
  unfold longB at h
  simp only [Bool.and_eq_true] at h
  obtain ⟨⟨_, _⟩, h⟩ := h
  have h2 := opF_nil (List.isEmpty_iff.1 h)
  revert h2
  generalize r.tail = t
  intro h2
  cases t with
  | nil => simp
  | cons c t =>
    obtain ⟨k, rfl⟩ : ∃ k', k = k' + 1 := ⟨k - 1, by omega⟩
    rw [List.take_succ_cons]
    refine ⟨fun e => ?_, fun e => ?_⟩
    · have : c = 35 := (List.cons.inj e).1
      rw [this] at h2; exact absurd h2.1 (by simp [headIs])
    · have : c = 63 := (List.cons.inj e).1
      rw [this] at h2; exact absurd h2.2 (by simp [headIs])
theorem ba_not {s : ByteArray} {l : List UInt8} (h : s.data.toList ≠ l) : (s.toList == l) = false := by
  rw [Lib.toList_data]; exact beq_eq_false_iff_ne.2 h
theorem strV_of {s : ByteArray} {l : List UInt8} (h : s.data.toList = l) : strV l = .string s := by
  unfold strV; rw [← h]

/-- What stands behind a # that asks how long something is. -/
theorem long_rest (s : ByteArray) (i : Nat) : (if longB (rest s i) then (rest s i).tail else rest s i) = rest s (i + (longB (rest s i)).toNat) := by
  cases longB (rest s i)
  · rfl
  · show (rest s i).tail = _
    exact rest_drop1 s i
theorem long_le {s : ByteArray} {i : Nat} (hi : i ≤ s.size) : i + (longB (rest s i)).toNat ≤ s.size := by
  rcases Nat.lt_or_ge i s.size with h | h
  · have := Bool.toNat_le (longB (rest s i)); omega
  · have : longB (rest s i) = false := by rw [rest_nil h]; rfl
    rw [this]; exact hi
theorem rest_tail (s : ByteArray) (i : Nat) : (rest s i).tail = rest s (i + 1) := rest_drop1 s i
theorem startsF_le : ∀ {o l : List UInt8}, startsF o l = true → o.length ≤ l.length
  | [], _, _ => Nat.zero_le _
  | a :: p, [], h => by cases h
  | a :: p, b :: r, h => by
    have h2 : startsF p r = true := by
      unfold startsF at h
      simp only [Bool.and_eq_true] at h
      exact h.2
    have := startsF_le h2
    simp only [List.length_cons]; omega
theorem findF_le (L : List (List UInt8)) (l : List UInt8) : (findF L l).length ≤ l.length := by
  unfold findF
  cases h : L.find? fun o => startsF o l with
  | none => exact Nat.zero_le _
  | some o =>
    have h2 : (fun o => startsF o l) o = true := List.find?_some (p := fun o => startsF o l) h
    exact startsF_le h2
theorem opF_le (l : List UInt8) : (opF l).length ≤ l.length := findF_le _ l

end Go.Proofs.YtiihpbccabeoeaaDoor
namespace Go.Proofs.YtiihpbccabeoeaaDoor
open Go.RowKit
set_option linter.unusedVariables false

theorem grow_pts2 {w w' : World} {v v' : Value} {B wb : Nat} {raw : List Pt} {x : Pt} {vs : List Value} {n : Nat} {wv : Value} (hx : PtsAt w (fun b => (B ≤ b ∧ b ≠ wb) ∧ v.ownBlock ≠ some b) n x.word wv) (hl : vs.length = raw.length)
    (hnest : ∀ i (h : i < raw.length) (h' : i < vs.length), PtsAt w (fun b => (B ≤ b ∧ b ≠ wb) ∧ v.ownBlock ≠ some b) n raw[i].word vs[i])
    (hown : w'.ownsRow 0 85 6 v' (raw.length + 1) (cellsL raw vs ++ cellsP x wv)) (hk : Keeps (fun b => b = wb ∨ v.ownBlock = some b) w w')
    (hg : ∀ y, v'.ownBlock = some y → v.ownBlock = some y ∨ w.heap.size ≤ y) :
    OwnPts w' (fun b => B ≤ b ∧ b ≠ wb) v' (raw ++ [x]) := by
  have key : ∀ (l : List Pt) (u : Value), PtsAt w (fun b => (B ≤ b ∧ b ≠ wb) ∧ v.ownBlock ≠ some b) n l u → PtsAt w' (fun b => (B ≤ b ∧ b ≠ wb) ∧ v'.ownBlock ≠ some b) n l u := fun l u h => by
    have h2 : PtsAt w (fun b => ((B ≤ b ∧ b ≠ wb) ∧ v.ownBlock ≠ some b) ∧ b < w.heap.size) n l u := h.mono fun b hb hd => ⟨hd, hb⟩
    refine (h2.keep hk (fun b _ hd s => by rcases s with s | s; exact hd.1.1.2 s; exact hd.1.2 s)).mono fun b _ hd => ⟨hd.1.1, fun e => ?_⟩
    rcases hg b e with h3 | h3
    · exact hd.1.2 h3
    · have := hd.2; omega
  refine ⟨vs ++ [wv], n, by simp [hl], ?_, fun i h h' => ?_⟩
  · rw [cellsL_append hl]
    simpa [cellsL] using hown
  · by_cases hi : i < raw.length
    · rw [List.getElem_append_left hi, List.getElem_append_left (by omega)]
      exact key _ _ (hnest i hi (by omega))
    · have hi2 : i = raw.length := by simp at h; omega
      subst hi2
      rw [List.getElem_append_right (Nat.le_refl _), List.getElem_append_right (by omega)]
      simp only [hl, Nat.sub_self, List.getElem_cons_zero]
      exact key _ _ hx

theorem bag_more2 {w : World} {B cs wb : Nat} {v : Value} {raw : List Pt} {vs : List Value} {n m : Nat} {x : Pt} {wv : Value} {N : List Pt × Bool} {e : Ending} {w' : World} (ho : v.ownBlock ≠ some cs) (hcw : cs < B ∧ B ≤ wb) (hl : vs.length = raw.length)
    (lcs : cs < w.heap.size) (hxw : PtsAt w (fun b => (B ≤ b ∧ b ≠ wb) ∧ v.ownBlock ≠ some b) n x.word wv)
    (hnest : ∀ i (h : i < raw.length) (h' : i < vs.length), PtsAt w (fun b => (B ≤ b ∧ b ≠ wb) ∧ v.ownBlock ≠ some b) n raw[i].word vs[i])
    (hok : RawOK raw) (hN : normF raw = N) (hm : wtF raw ≤ m) (hk1 : x.kind ≠ 1) (hk2 : x.kind ≠ 2) (hp : PutCore w wb raw.length v (cellsL raw vs ++ cellsP x wv) e w') :
    PutPost w B cs wb v.ownBlock (stepN N x) (m + x.text.length + 1) e w' := by
  obtain ⟨he, g, cap, h1, h2, h3, h4, h5⟩ := hp
  refine ⟨he, some g, ⟨_, raw ++ [x], h1, grow_pts2 (v := v) hxw hl hnest h2 h5 (fun y hy => ?_), rfl, fun e => h4 (Option.some.inj e), ?_, hcw, ?_, hok.append (fun p hp hk => ?_), ?_⟩, ?_, h5⟩
  · obtain rfl : g = y := Option.some.inj hy
    exact h3
  · intro e
    obtain rfl : g = cs := Option.some.inj e
    rcases h3 with h3 | h3
    · exact ho h3
    · omega
  · rw [normF_append, hN]; rfl
  · obtain rfl := List.mem_singleton.1 hp
    rcases hk with hk | hk
    · exact absurd hk hk1
    · exact absurd hk hk2
  · rw [wtF_append]
    simp only [wtF]
    omega
  · rcases h3 with h3 | h3
    · exact .inl h3.symm
    · exact .inr ⟨g, rfl, h3⟩

/-- A bag, and a part that is made: what goes behind. -/
def Made (w : World) (B cs wb pb : Nat) (s : ByteArray) (d : Nat) (g : Option Nat) (N : List Pt × Bool) (m : Nat) (res : Res) : Prop :=
  ∃ (i' k : Nat) (x : Pt) (v : Value), res = .ok ([x], rest s i') ∧ i' ≤ s.size ∧ m + x.text.length + 1 ≤ 2 * i' ∧ x.kind ≠ 1 ∧ x.kind ≠ 2 ∧ ScanAt w cs s i' d ∧ Bag w B cs wb g N m ∧
    RecAt w pb (cellsP x v) ∧ PtsAt w (fun b => (B ≤ b ∧ b ≠ wb) ∧ g ≠ some b) k x.word v
end Go.Proofs.YtiihpbccabeoeaaDoor
namespace Go.Proofs.YtiihpbccabeoeaaDoor
open Go.RowKit
set_option linter.unusedVariables false

theorem after_append {W1 w1 : World} {o : Obj} {wb pb : Nat} {u v : Value} {l : List Value} (hg : (W1.alloc o).grownBy w1 v.ownBlock) (hw : WordAt W1 wb u) (hr : RecAt W1 pb l) (hv : v.ownBlock ≠ some wb) (hvp : v.ownBlock ≠ some pb) : WordAt w1 wb u ∧ RecAt w1 pb l ∧ Keeps (fun b => v.ownBlock = some b) W1 w1 := by
  have k : Keeps (fun b => v.ownBlock = some b) W1 w1 := ((Keeps.refl _ W1).alloc o).grown hg fun k hk _ => hk
  exact ⟨hw.keep k hv, hr.keep k hvp, k⟩
theorem after_append_d {W1 w1 : World} {o : Obj} {wb pb : Nat} {u v : Value} {l : List Value} (hg : (W1.alloc o).drew.grownBy w1 v.ownBlock) (hw : WordAt W1 wb u) (hr : RecAt W1 pb l) (hv : v.ownBlock ≠ some wb) (hvp : v.ownBlock ≠ some pb) : WordAt w1 wb u ∧ RecAt w1 pb l ∧ Keeps (fun b => v.ownBlock = some b) W1 w1 := by
  have k : Keeps (fun b => v.ownBlock = some b) W1 w1 := ((Keeps.refl _ W1).alloc o).drew.grown hg fun k hk _ => hk
  exact ⟨hw.keep k hv, hr.keep k hvp, k⟩
theorem core_a {W1 w1 : World} {wb g cap L : Nat} {u v : Value} {xs : List Value} {z0 z1 z2 z3 z4 z5 u0 u1 u2 u3 u4 u5 : Value} (hk : Keeps (fun b => v.ownBlock = some b) W1 w1) (hw : WordAt w1 wb u)
    (hown : w1.ownsRow 0 85 6 (.slice (some ⟨g, 0, none⟩) (L + 1) cap) (L + 1) (xs ++ [z0, z1, z2, z3, z4, z5])) (hat : v.ownBlock = some g ∨ g = W1.heap.size + 1) (hgw : g ≠ wb) :
    PutCore W1 wb L v (xs ++ [u0, u1, u2, u3, u4, u5]) (.returned (.tuple #[])) (set6 (w1.setCell ⟨wb, 0, none⟩ (.slice (some ⟨g, 0, none⟩) (L + 1) cap)) g (L * 6) u0 u1 u2 u3 u4 u5) := by
  have hx : xs.length = L * 6 := by have := hown.1; simp at this; omega
  have k1 : Keeps (fun b => b = wb ∨ v.ownBlock = some b) W1 w1 := hk.mono fun _ _ h => .inr h
  have k2 : ∀ k, k < W1.heap.size → k = g → (k = wb ∨ v.ownBlock = some k) := fun k hk e => by
    rcases hat with hat | hat
    · exact .inr (by rw [hat, e])
    · omega
  refine ⟨rfl, g, cap, ?_, ?_, ?_, hgw, ?_⟩
  · exact (hw.set _).keep (set6_keeps _ _ _ _ _ _ _ _ _) (Ne.symm hgw)
  · exact six_stored hx (Go.ownsRow_setCell_other hown (by simpa [Value.ownBlock] using hgw) _) _ _ _ _ _ _
  · rcases hat with h | h; exact .inl h; exact .inr (by omega)
  · exact (k1.setCell _ _ fun _ => .inl rfl).trans (set6_keeps _ _ _ _ _ _ _ _ _) fun k hk e => k2 k hk e
theorem core_b {W1 w1 : World} {wb g cap L : Nat} {u v : Value} {ys : List Value} (hk : Keeps (fun b => v.ownBlock = some b) W1 w1) (hw : WordAt w1 wb u)
    (hown : w1.ownsRow 0 85 6 (.slice (some ⟨g, 0, none⟩) (L + 1) cap) (L + 1) ys) (hat : v.ownBlock = some g ∨ g = W1.heap.size + 1) (hgw : g ≠ wb) :
    PutCore W1 wb L v ys (.returned (.tuple #[])) (w1.setCell ⟨wb, 0, none⟩ (.slice (some ⟨g, 0, none⟩) (L + 1) cap)) := by
  refine ⟨rfl, g, cap, hw.set _, Go.ownsRow_setCell_other hown (by simpa [Value.ownBlock] using hgw) _, ?_, hgw, ?_⟩
  · rcases hat with h | h; exact .inl h; exact .inr (by omega)
  · exact (hk.mono fun _ _ h => .inr h).setCell _ _ fun _ => .inl rfl

theorem two_new {w w1 w2 : World} {cs pb : Nat} (h : Keeps (fun b => b = cs) w w1) (hpb : pb = w.heap.size) (k : Keeps (Two cs pb) w1 w2) : Keeps (fun b => b = cs) w w2 := h.trans k fun x hx e => by
  rcases e with e | e
  · exact e
  · omega
theorem one_new {w w1 w2 : World} {cs pb : Nat} (h : Keeps (fun b => b = cs) w w1) (hpb : pb = w.heap.size) (k : Keeps (fun b => b = pb) w1 w2) : Keeps (fun b => b = cs) w w2 := h.trans k fun x hx e => by omega
theorem fresh_ok {w : World} {B cs wb : Nat} {g : Option Nat} {N : List Pt × Bool} {m b : Nat} (h : Bag w B cs wb g N m) (hb : w.heap.size ≤ b) : (B ≤ b ∧ b ≠ wb) ∧ g ≠ some b := by
  have hl := h.le
  refine ⟨⟨by omega, by omega⟩, fun e => ?_⟩
  obtain ⟨v0, raw0, _, ho0, e0, _⟩ := h
  have := ho0.lt (e0.trans e)
  omega
theorem made_of {w w3 : World} {B cs wb pb I d m k : Nat} {s : ByteArray} {g : Option Nat} {N : List Pt × Bool} {x : Pt} {v : Value} {res : Res} (hb : Bag w B cs wb g N m) (hk : Keeps (fun b => b = cs) w w3) (hs : ScanAt w3 cs s I d)
    (hr : RecAt w3 pb (cellsP x v)) (hx : PtsAt w3 (fun b => w.heap.size ≤ b) k x.word v) (h1 : x.kind ≠ 1) (h2 : x.kind ≠ 2) (hI : I ≤ s.size) (hm : m + x.text.length + 1 ≤ 2 * I) (hres : res = .ok ([x], rest s I)) :
    Made w3 B cs wb pb s d g N m res ∧ Keeps (fun b => b = cs) w w3 :=
  ⟨⟨I, k, x, v, hres, hI, hm, h1, h2, hs, hb.keep hk (fun _ _ e => e), hr, hx.mono fun b _ h => fresh_ok hb h⟩, hk⟩
/-- Two fields are written. -/
theorem made_two {w w2 : World} {B cs wb pb I d m : Nat} {s : ByteArray} {g : Option Nat} {N : List Pt × Bool} {kd : Nat} {name text : List UInt8} {q : Bool} {res : Res} {j : Nat} {u : Value} (hb : Bag w B cs wb g N m) (hpb : pb = w.heap.size) (hne : cs ≠ pb) (hk : Keeps (fun b => b = cs) w w2) (hs : ScanAt w2 cs s I d)
    (hr : RecAt w2 pb [.int .i64 0, .string ⟨#[]⟩, .string ⟨#[]⟩, .string ⟨#[]⟩, .slice none 0 0, .bool q]) (hl : ([.int .i64 (kd : Nat), .string ⟨#[]⟩, .string ⟨#[]⟩, .string ⟨#[]⟩, .slice none 0 0, .bool q] : List Value).set j u = cellsP (.mk kd text name [] [] q) (.slice none 0 0))
    (h1 : kd ≠ 1) (h2 : kd ≠ 2) (hI : I ≤ s.size) (hm : m + text.length + 1 ≤ 2 * I) (hres : res = .ok ([.mk kd text name [] [] q], rest s I)) :
    Made ((w2.setCell ⟨pb, 0, none⟩ (.int .i64 (kd : Nat))).setCell ⟨pb, j, none⟩ u) B cs wb pb s d g N m res ∧ Keeps (fun b => b = cs) w ((w2.setCell ⟨pb, 0, none⟩ (.int .i64 (kd : Nat))).setCell ⟨pb, j, none⟩ u) := by
  obtain ⟨w3, hw3, hs3, hr3, hk3⟩ := part_set hs hr hne 0 (.int .i64 (kd : Nat))
  obtain ⟨w4, hw4, hs4, hr4, hk4⟩ := part_set hs3 hr3 hne j u
  subst hw3
  subst hw4
  refine made_of (x := .mk kd text name [] [] q) hb (one_new (one_new hk hpb hk3) hpb hk4) hs4 ?_ (PtsAt.nil _ _ 0) h1 h2 hI hm hres
  rw [← hl]
  exact hr4
theorem starts_two (a b : UInt8) {r : List UInt8} (h : startsF [a, b] r = true) : 2 ≤ r.length := startsF_le h
theorem calcF_len : ∀ {l : List UInt8} {o k : Nat}, calcF o l = some k → k + 2 ≤ l.length
  | [], o, k, h => by cases h
  | c :: t, o, k, h => by
    have hm : ∀ o', (calcF o' t).map (· + 1) = some k → k + 2 ≤ t.length + 1 := fun o' h => by
      cases h2 : calcF o' t with
      | none => rw [h2] at h; cases h
      | some j =>
        rw [h2] at h
        have := calcF_len h2
        have : j + 1 = k := Option.some.inj h
        omega
    unfold calcF at h
    rw [List.length_cons]
    split at h
    · exact hm _ h
    split at h
    · split at h
      · split at h
        · next hh =>
          have : 0 = k := Option.some.inj h
          cases t with
          | nil => cases hh
          | cons a b => rw [List.length_cons]; omega
        · cases h
      · exact hm _ h
    · exact hm _ h
theorem subF_len : ∀ {l : List UInt8} {md : SM} {o k : Nat}, subF md o l = some k → k + 1 ≤ l.length
  | [], md, o, k, h => by cases md <;> cases h
  | c :: t, md, o, k, h => by
    have hm : ∀ md' o', (subF md' o' t).map (· + 1) = some k → k + 1 ≤ t.length + 1 := fun md' o' h => by
      cases h2 : subF md' o' t with
      | none => rw [h2] at h; cases h
      | some j =>
        rw [h2] at h
        have := subF_len h2
        have : j + 1 = k := Option.some.inj h
        omega
    rw [List.length_cons]
    cases md with
    | n =>
      unfold subF at h
      split at h
      · exact hm _ _ h
      split at h
      · exact hm _ _ h
      split at h
      · exact hm _ _ h
      split at h
      · exact hm _ _ h
      split at h
      · split at h
        · have : 0 = k := Option.some.inj h
          omega
        · exact hm _ _ h
      · exact hm _ _ h
    | q1 => exact hm _ _ h
    | q2 => exact hm _ _ h
    | bn => exact hm _ _ h
    | bq => exact hm _ _ h
theorem calc_le {s : ByteArray} {i k : Nat} (h : calcF 0 (rest s i) = some k) (hi : i ≤ s.size) : i + (k + 2) ≤ s.size := by
  have := calcF_len h
  rw [rest_len] at this
  omega
theorem sub_le {s : ByteArray} {i k : Nat} (h : subF .n 0 (rest s i) = some k) (hi : i ≤ s.size) : i + (k + 1) ≤ s.size := by
  have := subF_len h
  rw [rest_len] at this
  omega
end Go.Proofs.YtiihpbccabeoeaaDoor
namespace Go.Proofs.YtiihpbccabeoeaaDoor
open Go.RowKit
end Go.Proofs.YtiihpbccabeoeaaDoor
namespace Go.Proofs.YtiihpbccabeoeaaDoor
open Go.RowKit
set_option linter.unusedVariables false

theorem contains_until (c : UInt8) : ∀ l : List UInt8, l.contains c = (untilF c l).isSome
  | [] => rfl
  | x :: t => by
    show (c == x || t.contains c) = _
    unfold untilF
    rw [contains_until c t]
    by_cases h : x = c
    · rw [if_pos (beq_iff_eq.2 h), h]; simp
    · rw [if_neg (fun e => h (beq_iff_eq.1 e)), show (c == x) = false from beq_eq_false_iff_ne.2 (Ne.symm h), Bool.false_or]
      cases untilF c t <;> rfl

theorem blanks_amid (c : UInt8) : amid ⟨#[32, 9]⟩ c = (c == 32 || c == 9) := by
  have h : ∀ n : Fin 256, amid ⟨#[32, 9]⟩ (UInt8.ofNat n.val) = (UInt8.ofNat n.val == 32 || UInt8.ofNat n.val == 9) := by decide +kernel
  have := h ⟨c.toNat, c.toNat_lt⟩
  simpa using this
theorem skipF_true : ∀ l : List UInt8, skipF true l = match untilF 10 l with | none => [] | some k => l.drop k
  | [] => rfl
  | c :: t => by
    unfold skipF untilF
    by_cases h : c = 10
    · rw [if_pos (beq_iff_eq.2 h), if_pos (beq_iff_eq.2 h)]; rfl
    · rw [if_neg (fun e => h (beq_iff_eq.1 e)), if_neg (fun e => h (beq_iff_eq.1 e)), skipF_true t]
      cases untilF 10 t <;> rfl
theorem skipF_cons (c : UInt8) (t : List UInt8) : skipF false (c :: t) = if c == 32 || c == 9 then skipF false t
    else if c == 35 then skipF true t
    else if c == 92 then (match t with
      | [] => c :: t
      | x :: t' => if x == 10 then skipF false t' else c :: t)
    else c :: t := by rw [skipF.eq_def]; rfl
theorem untilF_head {c : UInt8} : ∀ {l : List UInt8} {k : Nat}, untilF c l = some k → l[k]? = some c
  | [], k, h => by cases h
  | x :: t, k, h => by
    unfold untilF at h
    by_cases e : x = c
    · rw [if_pos (beq_iff_eq.2 e)] at h
      obtain rfl : 0 = k := Option.some.inj h
      rw [e]; rfl
    · rw [if_neg (fun h => e (beq_iff_eq.1 h))] at h
      cases h2 : untilF c t with
      | none => rw [h2] at h; cases h
      | some j =>
        rw [h2] at h
        obtain rfl : j + 1 = k := Option.some.inj h
        have := untilF_head h2
        simpa using this
theorem rest_get2 (s : ByteArray) (i k : Nat) : (rest s i)[k]? = s.data.toList[i + k]? := by
  unfold rest; rw [List.getElem?_drop]
theorem skip_line {s : ByteArray} {j : Nat} (h : s.data.toList[j]? = some 10) : rest s j = skipF false (rest s j) := by
  have hj : j < s.size := by rw [Lib.size_eq]; exact (List.getElem?_eq_some_iff.1 h).1
  have hb : byteAt s j = 10 := by unfold byteAt; rw [List.getD_eq_getElem?_getD, h]; rfl
  rw [rest_cons hj, hb, skipF_cons, if_neg (by decide), if_neg (by decide), if_neg (by decide)]
def SkipPost (w : World) (b : Nat) (s : ByteArray) (i : Nat) (d : Int) (e : Ending) (w' : World) : Prop :=
  e = .returned (.tuple #[]) ∧ ∃ j : Nat, i ≤ j ∧ j ≤ s.size ∧ rest s j = skipF false (rest s i) ∧ ScanAt w' b s j d ∧ Keeps (fun k => k = b) w w'

end Go.Proofs.YtiihpbccabeoeaaDoor
namespace Go.Proofs.YtiihpbccabeoeaaDoor
open Go.RowKit
set_option linter.unusedVariables false

def tokOne (r : List UInt8) : Except Nat (Tk × List UInt8) :=
  if (operF r).isEmpty then
    if headIs 38 r then .error 2 else match wordD false (r.length + 1) r with
    | .error e => .error e
    | .ok (l, r1) => .ok (⟨1, [], tidyF l⟩, r1)
  else .ok (⟨2, operF r, []⟩, r.drop (operF r).length)
theorem tokD_eq (n : Nat) (r : List UInt8) : tokD (n + 1) r = match skipF false r with
    | [] => .ok []
    | c :: t =>
      if (operF (c :: t)).isEmpty then
        if c == 38 then .error 2 else match wordD false ((c :: t).length + 1) (c :: t) with
        | .error e => .error e
        | .ok (l, r1) => consT ⟨1, [], tidyF l⟩ (tokD n r1)
      else consT ⟨2, operF (c :: t), []⟩ (tokD n ((c :: t).drop (operF (c :: t)).length)) := rfl
theorem tokD_succ (n : Nat) (r : List UInt8) : tokD (n + 1) r = match skipF false r with
    | [] => .ok []
    | c :: t => match tokOne (c :: t) with
      | .error e => .error e
      | .ok (x, r1) => consT x (tokD n r1) := by
  rw [tokD_eq]
  cases skipF false r with
  | nil => rfl
  | cons c t =>
    dsimp only
    unfold tokOne
    by_cases h : (operF (c :: t)).isEmpty = true
    · rw [if_pos h, if_pos h]
      by_cases h2 : (c == 38) = true
      · rw [if_pos h2, if_pos (show headIs 38 (c :: t) = true from h2)]
      · rw [if_neg h2, if_neg (show ¬ headIs 38 (c :: t) = true from h2)]
        cases wordD false ((c :: t).length + 1) (c :: t) with
        | error e => rfl
        | ok lr => obtain ⟨l, r1⟩ := lr; rfl
    · rw [if_neg h, if_neg h]
theorem breaks_amid (c : UInt8) : amid ⟨#[32, 9, 10, 59, 38, 124, 40, 41, 60, 62]⟩ c = breaksB c := by
  have h : ∀ n : Fin 256, amid ⟨#[32, 9, 10, 59, 38, 124, 40, 41, 60, 62]⟩ (UInt8.ofNat n.val) = breaksB (UInt8.ofNat n.val) := by decide +kernel
  have := h ⟨c.toNat, c.toNat_lt⟩
  simpa using this
theorem operF_le (l : List UInt8) : (operF l).length ≤ l.length := findF_le _ l

theorem RecAt.three {w : World} {b : Nat} {a0 a1 a2 : Value} (h : RecAt w b [a0, a1, a2]) :
    (w.cell? ⟨b, 0, none⟩ = some a0 ∧ w.cell? ⟨b, 1, none⟩ = some a1 ∧ w.cell? ⟨b, 2, none⟩ = some a2) ∧
    (w.frozen? ⟨b, 0, none⟩ = false ∧ w.frozen? ⟨b, 1, none⟩ = false ∧ w.frozen? ⟨b, 2, none⟩ = false) := by
  obtain ⟨T, h⟩ := h
  refine ⟨⟨?_, ?_, ?_⟩, ?_, ?_, ?_⟩ <;> simp [World.cell?, World.frozen?, h]
theorem set3_keeps (w : World) (b : Nat) (u0 u1 u2 : Value) : Keeps (fun x => x = b) w (((w.setCell ⟨b, 0, none⟩ u0).setCell ⟨b, 1, none⟩ u1).setCell ⟨b, 2, none⟩ u2) := by
  have h0 := (Keeps.refl (fun x => x = b) w).set1 0 u0 rfl
  have h1 := h0.set1 1 u1 rfl
  exact h1.set1 2 u2 rfl
theorem wordD_succ (wh : Bool) (n : Nat) (r : List UInt8) : wordD wh (n + 1) r = match r with
    | [] => .ok ([], [])
    | c :: _ => if !wh && breaksB c then .ok ([], r) else match lexD (2 * r.length + 2) (.one false) 0 r with
      | .error e => .error e
      | .ok (l, r1) => (wordD wh n r1).ahead l := by cases r <;> rfl
def WdAt (wh : Bool) (n : Nat) (r0 : List UInt8) (m : Nat) (l : List Pt) (r : List UInt8) : Prop := wordD wh n r0 = (wordD wh m r).ahead l

end Go.Proofs.YtiihpbccabeoeaaDoor
namespace Go.Proofs.YtiihpbccabeoeaaDoor
open Go.RowKit
set_option linter.unusedVariables false
end Go.Proofs.YtiihpbccabeoeaaDoor
namespace Go.Proofs.YtiihpbccabeoeaaDoor
open Go.RowKit
set_option linter.unusedVariables false

theorem cellsL_inv {l : List Pt} {vs : List Value} (hl : vs.length = l.length) {j : Nat} {u : Value} (h : (cellsL l vs)[j]? = some u) : ∃ (i r : Nat) (hi : i < l.length), j = i * 6 + r ∧ (cellsP l[i] (vs[i]'(by omega)))[r]? = some u := by
  have hj : j < l.length * 6 := by
    have := (List.getElem?_eq_some_iff.1 h).1
    rw [cellsL_len hl] at this
    exact this
  have hi : j / 6 < l.length := by omega
  have hr : j % 6 < (cellsP l[j / 6] (vs[j / 6]'(by omega))).length := by rw [cellsP_len]; exact Nat.mod_lt _ (by decide)
  obtain ⟨u', hu'⟩ : ∃ u', (cellsP l[j / 6] (vs[j / 6]'(by omega)))[j % 6]? = some u' := ⟨_, List.getElem?_eq_getElem hr⟩
  have h2 := cellsL_at hl hi (j % 6) u' hu'
  rw [show j / 6 * 6 + j % 6 = j by omega, h] at h2
  refine ⟨j / 6, j % 6, hi, by omega, ?_⟩
  rw [hu', Option.some.inj h2]

theorem owns_low {w : World} {B : Nat} {e : TypeId} {z n : Nat} {v : Value} {xs : List Value} (h : w.ownsRow B e z v n xs) : w.ownsRow 0 e z v n xs ∧ ∀ g, v.ownBlock = some g → B ≤ g := by
  obtain ⟨h1, h2⟩ := h
  rcases h2 with h2 | ⟨g, cap, cur, rfl, hb, hr⟩
  · refine ⟨⟨h1, .inl h2⟩, fun g hg => ?_⟩
    rw [h2.1] at hg
    cases hg
  · exact ⟨⟨h1, .inr ⟨g, cap, cur, rfl, Nat.zero_le _, hr⟩⟩, fun y hy => by have h9 : g = y := Option.some.inj hy; omega⟩

end Go.Proofs.YtiihpbccabeoeaaDoor
namespace Go.Proofs.YtiihpbccabeoeaaDoor
open Go.RowKit
set_option linter.unusedVariables false

/-- What Word hands back. -/
def WordPost (w : World) (res : Except Nat (List Pt)) (e : Ending) (w' : World) : Prop :=
  match res with
  | .ok l => ∃ (v : Value) (n : Nat), e = .returned (.tuple #[v, .int .i64 0]) ∧ PtsAt w' (fun b => w.heap.size ≤ b) n l v ∧ Keeps (fun _ => False) w w'
  | .error x => e = .returned (.tuple #[.slice none 0 0, .int .i64 x]) ∧ Keeps (fun _ => False) w w'

end Go.Proofs.YtiihpbccabeoeaaDoor
namespace Go.Proofs.YtiihpbccabeoeaaDoor
open Go.RowKit
set_option linter.unusedVariables false

def wordRes (r : Res) : Except Nat (List Pt) := match r with
  | .error e => .error e
  | .ok (l, _) => .ok (tidyF l)
/-- What stands in the world where Word's loop begins. -/
def Cells2 (w wr : World) (R : Nat) : Prop := ∃ T T', wr.heap[R]? = some (.cells #[.slice none 0 0] T (0, 0)) ∧ wr.heap[R + 1]? = some (.cells #[.int .i64 0] T' (0, 0))
theorem Cells2.keep {w wr wr' : World} {R : Nat} {S : Nat → Prop} (h : Cells2 w wr R) (hk : Keeps S wr wr') (h0 : ¬ S R) (h1 : ¬ S (R + 1)) : Cells2 w wr' R := by
  obtain ⟨T, T', a, b⟩ := h
  exact ⟨T, T', (hk.block R (Array.getElem?_eq_some_iff.1 a).1 h0).trans a, (hk.block (R + 1) (Array.getElem?_eq_some_iff.1 b).1 h1).trans b⟩
theorem Cells2.cells {w wr : World} {R : Nat} (h : Cells2 w wr R) : wr.cell? ⟨R, 0, none⟩ = some (.slice none 0 0) ∧ wr.cell? ⟨R + 1, 0, none⟩ = some (.int .i64 0) ∧ wr.frozen? ⟨R, 0, none⟩ = false ∧ wr.frozen? ⟨R + 1, 0, none⟩ = false ∧ R + 1 < wr.heap.size := by
  obtain ⟨T, T', a, b⟩ := h
  refine ⟨?_, ?_, ?_, ?_, (Array.getElem?_eq_some_iff.1 b).1⟩ <;> simp [World.cell?, World.frozen?, a, b]

theorem RecAt.one {w : World} {b : Nat} {a0 : Value} (h : RecAt w b [a0]) : w.cell? ⟨b, 0, none⟩ = some a0 ∧ w.frozen? ⟨b, 0, none⟩ = false := by
  obtain ⟨T, h⟩ := h
  refine ⟨?_, ?_⟩ <;> simp [World.cell?, World.frozen?, h]
theorem caught_cells {w w3 : World} {R x : Nat} {o : Obj} (h : Cells2 w w3 R) : ∃ W4, W4 = ((w3.setCell ⟨R, 0, none⟩ (.slice none 0 0)).setCell ⟨R + 1, 0, none⟩ (.int .i64 x)).alloc o ∧ W4.cell? ⟨R, 0, none⟩ = some (.slice none 0 0) ∧ W4.cell? ⟨R + 1, 0, none⟩ = some (.int .i64 x) ∧ Keeps (fun b => b = R ∨ b = R + 1) w3 W4 := by
  obtain ⟨T, T', a, b⟩ := h
  have hA : RecAt w3 R [.slice none 0 0] := ⟨T, a⟩
  have hB : RecAt w3 (R + 1) [.int .i64 0] := ⟨T', b⟩
  have k1 : Keeps (fun b => b = R) w3 (w3.setCell ⟨R, 0, none⟩ (.slice none 0 0)) := (Keeps.refl _ _).setCell _ _ fun _ => rfl
  have k2 : Keeps (fun b => b = R + 1) (w3.setCell ⟨R, 0, none⟩ (.slice none 0 0)) ((w3.setCell ⟨R, 0, none⟩ (.slice none 0 0)).setCell ⟨R + 1, 0, none⟩ (.int .i64 x)) := (Keeps.refl _ _).setCell _ _ fun _ => rfl
  have k3 : Keeps (fun _ => False) ((w3.setCell ⟨R, 0, none⟩ (.slice none 0 0)).setCell ⟨R + 1, 0, none⟩ (.int .i64 x)) (((w3.setCell ⟨R, 0, none⟩ (.slice none 0 0)).setCell ⟨R + 1, 0, none⟩ (.int .i64 x)).alloc o) := (Keeps.refl _ _).alloc _
  have hA2 := ((hA.set 0 (.slice none 0 0)).keep k2 (by omega)).keep k3 (fun h => h)
  have hB2 := ((hB.keep k1 (by omega)).set 0 (.int .i64 x)).keep k3 (fun h => h)
  exact ⟨_, rfl, hA2.one.1, hB2.one.1, ((k1.mono fun _ _ e => .inl e).trans k2 fun _ _ e => .inr e).trans k3 fun _ _ e => e.elim⟩

theorem done_cells {w w3 : World} {R : Nat} {u : Value} (h : Cells2 w w3 R) : ∃ W4, W4 = (w3.setCell ⟨R, 0, none⟩ u).setCell ⟨R + 1, 0, none⟩ (.int .i64 0) ∧ W4.cell? ⟨R, 0, none⟩ = some u ∧ W4.cell? ⟨R + 1, 0, none⟩ = some (.int .i64 0) ∧ Keeps (fun b => b = R ∨ b = R + 1) w3 W4 := by
  obtain ⟨T, T', a, b⟩ := h
  have hA : RecAt w3 R [.slice none 0 0] := ⟨T, a⟩
  have hB : RecAt w3 (R + 1) [.int .i64 0] := ⟨T', b⟩
  have k1 : Keeps (fun b => b = R) w3 (w3.setCell ⟨R, 0, none⟩ u) := (Keeps.refl _ _).setCell _ _ fun _ => rfl
  have k2 : Keeps (fun b => b = R + 1) (w3.setCell ⟨R, 0, none⟩ u) ((w3.setCell ⟨R, 0, none⟩ u).setCell ⟨R + 1, 0, none⟩ (.int .i64 0)) := (Keeps.refl _ _).setCell _ _ fun _ => rfl
  have hA2 := (hA.set 0 u).keep k2 (by omega)
  have hB2 := (hB.keep k1 (by omega)).set 0 (.int .i64 0)
  exact ⟨_, rfl, hA2.one.1, hB2.one.1, (k1.mono fun _ _ e => .inl e).trans k2 fun _ _ e => .inr e⟩

end Go.Proofs.YtiihpbccabeoeaaDoor
namespace Go.Proofs.YtiihpbccabeoeaaDoor
open Go.RowKit
set_option linter.unusedVariables false

theorem rest0 (s : ByteArray) : rest s 0 = s.data.toList := List.drop_zero
end Go.Proofs.YtiihpbccabeoeaaDoor
namespace Go.Proofs.YtiihpbccabeoeaaDoor
open Go.RowKit
set_option linter.unusedVariables false

/-- The three cells of a token; its word's slice is v. -/
def cellsK (t : Tk) (v : Value) : List Value := [.int .i64 t.kind, strV t.text, v]
theorem cellsK_len (t : Tk) (v : Value) : (cellsK t v).length = 3 := rfl
def TkCells (w : World) (b o : Nat) (t : Tk) (v : Value) : Prop := ∀ j u, (cellsK t v)[j]? = some u → w.cell? ⟨b, o + j, none⟩ = some u

/-- A slice that reads as these tokens, in blocks that D lets. -/
def TksAt (w : World) (D : Nat → Prop) (n : Nat) (l : List Tk) (v : Value) : Prop :=
  ∃ a c, v = .slice a l.length c ∧ l.length ≤ c ∧ c ≤ maxLen ∧
    ∀ i (h : i < l.length), ∃ b off wv, a = some ⟨b, off, none⟩ ∧ b < w.heap.size ∧ D b ∧ TkCells w b (off + i * 3) l[i] wv ∧ PtsAt w D n l[i].word wv
theorem TksAt.keep {w w' : World} {D S : Nat → Prop} (hk : Keeps S w w') (hD : ∀ b, b < w.heap.size → D b → ¬ S b) {n : Nat} {l : List Tk} {v : Value} : TksAt w D n l v → TksAt w' D n l v
  | ⟨a, c, h1, h2, h3, h⟩ => ⟨a, c, h1, h2, h3, fun i hi => by
      obtain ⟨b, off, wv, e, hb, hd, hc, hw⟩ := h i hi
      refine ⟨b, off, wv, e, Nat.lt_of_lt_of_le hb hk.size, hd, fun j u hu => ?_, PtsAt.keep hk hD hw⟩
      rw [World.cell?_of_block (hk.block b hb (hD b hb hd))]
      exact hc j u hu⟩
theorem TksAt.mono {w : World} {D D' : Nat → Prop} (hD : ∀ b, b < w.heap.size → D b → D' b) {n : Nat} {l : List Tk} {v : Value} : TksAt w D n l v → TksAt w D' n l v
  | ⟨a, c, h1, h2, h3, h⟩ => ⟨a, c, h1, h2, h3, fun i hi => by
      obtain ⟨b, off, wv, e, hb, hd, hc, hw⟩ := h i hi
      exact ⟨b, off, wv, e, hb, hD b hb hd, hc, PtsAt.mono hD hw⟩⟩
theorem TksAt.nil (w : World) (D : Nat → Prop) (n : Nat) : TksAt w D n [] (.slice none 0 0) := ⟨none, 0, rfl, Nat.le_refl _, Nat.zero_le _, fun i hi => absurd hi (Nat.not_lt_zero _)⟩
theorem TksAt.le {w : World} {D : Nat → Prop} {n m : Nat} {l : List Tk} {v : Value} (hm : n ≤ m) : TksAt w D n l v → TksAt w D m l v
  | ⟨a, c, h1, h2, h3, h⟩ => ⟨a, c, h1, h2, h3, fun i hi => by
      obtain ⟨b, off, wv, e, hb, hd, hc, hw⟩ := h i hi
      exact ⟨b, off, wv, e, hb, hd, hc, hw.le hm⟩⟩

/-- The cells of tokens, one behind the other. -/
def cellsT : List Tk → List Value → List Value
  | p :: l, v :: vs => cellsK p v ++ cellsT l vs
  | _, _ => []
theorem cellsT_append : ∀ {l m : List Tk} {vs us : List Value}, vs.length = l.length → cellsT (l ++ m) (vs ++ us) = cellsT l vs ++ cellsT m us
  | [], m, [], us, _ => rfl
  | p :: l, m, v :: vs, us, h => by
    simp only [List.cons_append, cellsT, cellsT_append (l := l) (vs := vs) (by simpa using h), List.append_assoc]
theorem cellsT_at : ∀ {l : List Tk} {vs : List Value} {i : Nat} (h : vs.length = l.length) (hi : i < l.length) (j : Nat) (u : Value), (cellsK l[i] (vs[i]'(by omega)))[j]? = some u → (cellsT l vs)[i * 3 + j]? = some u
  | p :: l, v :: vs, 0, h, hi, j, u, hu => by
    simp only [List.getElem_cons_zero] at hu
    rw [Nat.zero_mul, Nat.zero_add]
    simp only [cellsT]
    rw [List.getElem?_append_left]
    · exact hu
    · exact (List.getElem?_eq_some_iff.1 hu).1
  | p :: l, v :: vs, i + 1, h, hi, j, u, hu => by
    simp only [List.getElem_cons_succ] at hu
    simp only [cellsT]
    rw [List.getElem?_append_right (by rw [cellsK_len]; omega), cellsK_len, show (i + 1) * 3 + j - 3 = i * 3 + j by omega]
    exact cellsT_at (by simpa using h) (by simpa using hi) j u hu

/-- A slice of tokens in a row that the call owns. -/
def OwnTks (w : World) (D : Nat → Prop) (v : Value) (raw : List Tk) : Prop :=
  ∃ vs n, vs.length = raw.length ∧ w.ownsRow 0 66 3 v raw.length (cellsT raw vs) ∧
    ∀ i (h : i < raw.length) (h' : i < vs.length), PtsAt w (fun b => D b ∧ v.ownBlock ≠ some b) n raw[i].word vs[i]
theorem OwnTks.nil (w : World) (D : Nat → Prop) : OwnTks w D (.slice none 0 0) [] :=
  ⟨[], 0, rfl, World.ownsRow_nil _ _ _ _, fun i h => absurd h (Nat.not_lt_zero _)⟩
theorem OwnTks.shape {w : World} {D : Nat → Prop} {v : Value} {raw : List Tk} (h : OwnTks w D v raw) : ∃ a c, v = .slice a raw.length c ∧ raw.length ≤ c ∧ c ≤ maxLen := by
  obtain ⟨vs, n, hl, ho, _⟩ := h
  rcases ho.2 with ⟨rfl, h0⟩ | ⟨g, cap, cur, rfl, _, _, h1, h2, _⟩
  · exact ⟨none, 0, by rw [h0], by omega, Nat.zero_le _⟩
  · exact ⟨_, cap, rfl, h1, h2⟩
theorem OwnTks.lt {w : World} {D : Nat → Prop} {v : Value} {raw : List Tk} (h : OwnTks w D v raw) {g : Nat} (hg : v.ownBlock = some g) : g < w.heap.size := by
  obtain ⟨vs, n, hl, ho, _⟩ := h
  exact (ho.lt g hg).2
theorem OwnTks.keep {w w' : World} {D S : Nat → Prop} {v : Value} {raw : List Tk} (h : OwnTks w D v raw) (hk : Keeps S w w') (hD : ∀ b, b < w.heap.size → D b → ¬ S b) (hv : ∀ g, v.ownBlock = some g → ¬ S g) : OwnTks w' D v raw := by
  obtain ⟨vs, n, hl, ho, hn⟩ := h
  refine ⟨vs, n, hl, ⟨ho.1, ?_⟩, fun i h h' => (hn i h h').keep hk fun b hb hd => hD b hb hd.1⟩
  rcases ho.2 with h0 | ⟨g, cap, cur, rfl, hb, hg, rest⟩
  · exact .inl h0
  · exact .inr ⟨g, cap, cur, rfl, hb, (hk.block g (Array.getElem?_eq_some_iff.1 hg).1 (hv g rfl)).trans hg, rest⟩
theorem OwnTks.reads {w : World} {D : Nat → Prop} {v : Value} {raw : List Tk} (h : OwnTks w D v raw) (hD : ∀ g, v.ownBlock = some g → D g) : ∃ n, TksAt w D n raw v := by
  have hs := h.shape
  obtain ⟨vs, n, hl, ho, hn⟩ := h
  obtain ⟨a, c, e, h1, h2⟩ := hs
  subst e
  refine ⟨n, a, c, rfl, h1, h2, fun i hi => ?_⟩
  rcases ho.2 with ⟨_, h0⟩ | ⟨g, cap, cur, e, _, hg, _⟩
  · omega
  simp only [Value.slice.injEq] at e
  obtain ⟨rfl, _, rfl⟩ := e
  refine ⟨g, 0, vs[i]'(by omega), rfl, (Array.getElem?_eq_some_iff.1 hg).1, hD g rfl, fun j u hu => ?_, (hn i hi (by omega)).mono fun b _ hb => hb.1⟩
  have hj : j < 3 := (List.getElem?_eq_some_iff.1 hu).1
  rw [ho.cellAt _ (by omega), Nat.zero_add]
  exact cellsT_at hl hi j u hu
theorem grow_tks {w w' : World} {v v' : Value} {B : Nat} {raw : List Tk} {x : Tk} {vs : List Value} {n m : Nat} {wv : Value} (hx : PtsAt w (fun b => B ≤ b ∧ v.ownBlock ≠ some b) m x.word wv) (hl : vs.length = raw.length)
    (hnest : ∀ i (h : i < raw.length) (h' : i < vs.length), PtsAt w (fun b => B ≤ b ∧ v.ownBlock ≠ some b) n raw[i].word vs[i])
    (hown : w'.ownsRow 0 66 3 v' (raw.length + 1) (cellsT raw vs ++ cellsK x wv)) (hk : Keeps (fun b => v.ownBlock = some b) w w')
    (hg : ∀ y, v'.ownBlock = some y → v.ownBlock = some y ∨ w.heap.size ≤ y) :
    OwnTks w' (fun b => B ≤ b) v' (raw ++ [x]) := by
  have key : ∀ (k : Nat) (l : List Pt) (u : Value), PtsAt w (fun b => B ≤ b ∧ v.ownBlock ≠ some b) k l u → PtsAt w' (fun b => B ≤ b ∧ v'.ownBlock ≠ some b) k l u := fun k l u h => by
    have h2 : PtsAt w (fun b => (B ≤ b ∧ v.ownBlock ≠ some b) ∧ b < w.heap.size) k l u := h.mono fun b hb hd => ⟨hd, hb⟩
    refine (h2.keep hk (fun b _ hd s => hd.1.2 s)).mono fun b _ hd => ⟨hd.1.1, fun e => ?_⟩
    rcases hg b e with h3 | h3
    · exact hd.1.2 h3
    · have := hd.2; omega
  refine ⟨vs ++ [wv], max n m, by simp [hl], ?_, fun i h h' => ?_⟩
  · rw [cellsT_append hl]
    simpa [cellsT] using hown
  · by_cases hi : i < raw.length
    · rw [List.getElem_append_left hi, List.getElem_append_left (by omega)]
      exact (key _ _ _ (hnest i hi (by omega))).le (by omega)
    · have hi2 : i = raw.length := by simp at h; omega
      subst hi2
      rw [List.getElem_append_right (Nat.le_refl _), List.getElem_append_right (by omega)]
      simp only [hl, Nat.sub_self, List.getElem_cons_zero]
      exact (key _ _ _ hx).le (by omega)

theorem info_token : (Tryd.prog.info? 66).map (fun i => (i.zero, i.size, i.bytes)) = some (some (.agg #[.int .i64 0, .string ⟨#[]⟩, .slice none 0 0]), 3, 48) := by kernel_rfl
theorem cells_token : Tryd.prog.cellsOf 66 = 3 := by kernel_rfl

/-- Plain: tokens ahead. -/
def consL (l : List Tk) : Except Nat (List Tk) → Except Nat (List Tk)
  | .error e => .error e
  | .ok m => .ok (l ++ m)
theorem consL_nil (r : Except Nat (List Tk)) : consL [] r = r := by cases r <;> rfl
theorem consL_cons (l : List Tk) (x : Tk) (r : Except Nat (List Tk)) : consL l (consT x r) = consL (l ++ [x]) r := by
  cases r with
  | error e => rfl
  | ok m => show Except.ok (l ++ (x :: m)) = Except.ok ((l ++ [x]) ++ m); rw [List.append_assoc]; rfl
/-- The tokens of what begins with a token. -/
def tokT (m : Nat) (r : List UInt8) : Except Nat (List Tk) := match r with
  | [] => .ok []
  | c :: t => match tokOne (c :: t) with
      | .error e => .error e
      | .ok (x, r1) => consT x (tokD m r1)
theorem tokD_tokT (n : Nat) (r : List UInt8) : tokD (n + 1) r = tokT n (skipF false r) := by
  rw [tokD_succ]; unfold tokT; rfl

theorem wordD_len (wh : Bool) : ∀ (n : Nat) (r : List UInt8) (l : List Pt) (r1 : List UInt8), wordD wh n r = .ok (l, r1) → r1.length ≤ r.length
  | 0, r, l, r1, h => by cases h
  | n + 1, [], l, r1, h => by
    obtain ⟨_, rfl⟩ := Prod.mk.inj (Except.ok.inj h); exact Nat.le_refl _
  | n + 1, c :: t, l, r1, h => by
    rw [wordD_succ] at h
    dsimp only at h
    split at h
    · obtain ⟨_, rfl⟩ := Prod.mk.inj (Except.ok.inj h); exact Nat.le_refl _
    · cases h2 : lexD (2 * (c :: t).length + 2) (.one false) 0 (c :: t) with
      | error e => rw [h2] at h; cases h
      | ok x =>
        obtain ⟨l2, r2⟩ := x
        rw [h2] at h
        obtain ⟨m', h3, _⟩ := ahead_ok h
        have h4 := lexD_len _ _ _ _ _ _ h2
        have h5 := wordD_len wh n _ _ _ h3
        omega
/-- Where nothing is skipped a token takes something. -/
theorem breaks_op (c : UInt8) (t : List UInt8) (ho : operF (c :: t) = []) (h38 : c ≠ 38) (h32 : (c == 32 || c == 9) = false) : breaksB c = false := by
  cases hb : breaksB c with
  | false => rfl
  | true =>
    exfalso
    have h1 : c = 10 ∨ c = 59 ∨ c = 124 ∨ c = 40 ∨ c = 41 ∨ c = 60 ∨ c = 62 := by
      simp only [breaksB, Bool.or_eq_true, beq_iff_eq, Bool.or_eq_false_iff, beq_eq_false_iff_ne] at hb h32
      simp only [or_assoc] at hb
      rcases hb with h | h | h | h | h | h | h | h | h | h <;> simp_all
    have h2 : ∀ o ∈ operL, startsF o (c :: t) = true → o ≠ [] → operF (c :: t) ≠ [] := by
      intro o hm hs hne he
      unfold operF findF at he
      cases hf : operL.find? (fun o => startsF o (c :: t)) with
      | none => exact absurd hs (by simpa using List.find?_eq_none.1 hf o hm)
      | some p =>
        rw [hf] at he
        have hp : p ∈ operL := List.mem_of_find?_eq_some hf
        have : p = [] := he
        subst this
        exact absurd hp (by decide)
    rcases h1 with rfl | rfl | rfl | rfl | rfl | rfl | rfl
    · exact h2 [10] (by decide) rfl (by decide) ho
    · exact h2 [59] (by decide) rfl (by decide) ho
    · exact h2 [124] (by decide) rfl (by decide) ho
    · exact h2 [40] (by decide) rfl (by decide) ho
    · exact h2 [41] (by decide) rfl (by decide) ho
    · exact h2 [60] (by decide) rfl (by decide) ho
    · exact h2 [62] (by decide) rfl (by decide) ho
theorem skip_head_n : ∀ (k : Nat) (m : Bool) (r : List UInt8) (c : UInt8) (t : List UInt8), r.length ≤ k → skipF m r = c :: t → (c == 32 || c == 9) = false
  | _, m, [], c, t, _, h => by cases m <;> cases h
  | 0, m, x :: r, c, t, hk, h => by simp at hk
  | k + 1, true, x :: r, c, t, hk, h => by
    unfold skipF at h
    split at h
    · next hx =>
      obtain ⟨rfl, rfl⟩ := List.cons.inj h
      rw [beq_iff_eq.1 hx]; rfl
    · exact skip_head_n k true r c t (by simpa using hk) h
  | k + 1, false, x :: r, c, t, hk, h => by
    rw [skipF_cons] at h
    cases hx : (x == 32 || x == 9) with
    | true => rw [hx, if_pos rfl] at h; exact skip_head_n k false r c t (by simpa using hk) h
    | false =>
      rw [hx, if_neg (by simp)] at h
      split at h
      · exact skip_head_n k true r c t (by simpa using hk) h
      · split at h
        · cases r with
          | nil => obtain ⟨rfl, rfl⟩ := List.cons.inj h; exact hx
          | cons y r' =>
            dsimp only at h
            split at h
            · exact skip_head_n k false r' c t (by simp at hk; omega) h
            · obtain ⟨rfl, rfl⟩ := List.cons.inj h; exact hx
        · obtain ⟨rfl, rfl⟩ := List.cons.inj h; exact hx
theorem skip_head {r : List UInt8} {c : UInt8} {t : List UInt8} (h : skipF false r = c :: t) : (c == 32 || c == 9) = false := skip_head_n _ _ _ _ _ (Nat.le_refl _) h
theorem skip_len_n : ∀ (k : Nat) (m : Bool) (r : List UInt8), r.length ≤ k → (skipF m r).length ≤ r.length
  | _, m, [], _ => by cases m <;> exact Nat.le_refl _
  | 0, m, x :: r, hk => by simp at hk
  | k + 1, true, x :: r, hk => by
    unfold skipF
    split
    · exact Nat.le_refl _
    · have := skip_len_n k true r (by simpa using hk); simp; omega
  | k + 1, false, x :: r, hk => by
    rw [skipF_cons]
    have h1 := skip_len_n k false r (by simpa using hk)
    have h2 := skip_len_n k true r (by simpa using hk)
    split
    · simp; omega
    · split
      · simp; omega
      · split
        · cases r with
          | nil => exact Nat.le_refl _
          | cons y r' =>
            dsimp only
            split
            · have h3 := skip_len_n k false r' (by simp at hk; omega); simp; omega
            · exact Nat.le_refl _
        · exact Nat.le_refl _
theorem skip_len (m : Bool) (r : List UInt8) : (skipF m r).length ≤ r.length := skip_len_n _ m r (Nat.le_refl _)

theorem tokOne_len {c : UInt8} {t : List UInt8} {x : Tk} {r1 : List UInt8} (h32 : (c == 32 || c == 9) = false) (h : tokOne (c :: t) = .ok (x, r1)) : r1.length ≤ t.length := by
  unfold tokOne at h
  by_cases ho : operF (c :: t) = []
  · rw [ho, if_pos (by rfl)] at h
    by_cases h38 : c = 38
    · rw [if_pos (show headIs 38 (c :: t) = true by rw [h38]; rfl)] at h; cases h
    · rw [if_neg (show ¬ headIs 38 (c :: t) = true from fun h => h38 (beq_iff_eq.1 h))] at h
      have hb := breaks_op c t ho h38 h32
      rw [wordD_succ] at h
      dsimp only at h
      rw [hb, if_neg (by simp)] at h
      cases h2 : lexD (2 * (c :: t).length + 2) (.one false) 0 (c :: t) with
      | error e => rw [h2] at h; cases h
      | ok y =>
        obtain ⟨l2, r2⟩ := y
        rw [h2] at h
        dsimp only at h
        have h4 := lexD_len _ _ _ _ _ _ h2
        cases h5 : wordD false (c :: t).length r2 with
        | error e => rw [h5] at h; cases h
        | ok z =>
          obtain ⟨l3, r3⟩ := z
          rw [h5] at h
          obtain ⟨_, rfl⟩ := Prod.mk.inj (Except.ok.inj h)
          have h6 := wordD_len _ _ _ _ _ h5
          simp only [Md.least, List.length_cons] at h4
          omega
  · rw [if_neg (by simpa using ho)] at h
    obtain ⟨_, rfl⟩ := Prod.mk.inj (Except.ok.inj h)
    rw [List.length_drop, List.length_cons]
    have := List.length_pos_iff.2 ho
    omega
end Go.Proofs.YtiihpbccabeoeaaDoor
namespace Go.Proofs.YtiihpbccabeoeaaDoor
open Go.RowKit
set_option linter.unusedVariables false

/-- What Tokens hands back. -/
def TokensPost (w : World) (res : Except Nat (List Tk)) (e : Ending) (w' : World) : Prop :=
  match res with
  | .ok l => ∃ (v : Value) (n : Nat), e = .returned (.tuple #[v, .int .i64 0]) ∧ TksAt w' (fun b => w.heap.size ≤ b) n l v ∧ Keeps (fun _ => False) w w'
  | .error x => e = .returned (.tuple #[.slice none 0 0, .int .i64 x]) ∧ Keeps (fun _ => False) w w'

theorem caught_cells2 {w3 : World} {R x : Nat} {o : Obj} {u v : Value} (hA : RecAt w3 R [u]) (hB : RecAt w3 (R + 1) [v]) : ∃ W4, W4 = ((w3.setCell ⟨R, 0, none⟩ (.slice none 0 0)).setCell ⟨R + 1, 0, none⟩ (.int .i64 x)).alloc o ∧ W4.cell? ⟨R, 0, none⟩ = some (.slice none 0 0) ∧ W4.cell? ⟨R + 1, 0, none⟩ = some (.int .i64 x) ∧ Keeps (fun b => b = R ∨ b = R + 1) w3 W4 := by
  have k1 : Keeps (fun b => b = R) w3 (w3.setCell ⟨R, 0, none⟩ (.slice none 0 0)) := (Keeps.refl _ _).setCell _ _ fun _ => rfl
  have k2 : Keeps (fun b => b = R + 1) (w3.setCell ⟨R, 0, none⟩ (.slice none 0 0)) ((w3.setCell ⟨R, 0, none⟩ (.slice none 0 0)).setCell ⟨R + 1, 0, none⟩ (.int .i64 x)) := (Keeps.refl _ _).setCell _ _ fun _ => rfl
  have k3 : Keeps (fun _ => False) ((w3.setCell ⟨R, 0, none⟩ (.slice none 0 0)).setCell ⟨R + 1, 0, none⟩ (.int .i64 x)) (((w3.setCell ⟨R, 0, none⟩ (.slice none 0 0)).setCell ⟨R + 1, 0, none⟩ (.int .i64 x)).alloc o) := (Keeps.refl _ _).alloc _
  have hA2 := ((hA.set 0 (.slice none 0 0)).keep k2 (by omega)).keep k3 (fun h => h)
  have hB2 := ((hB.keep k1 (by omega)).set 0 (.int .i64 x)).keep k3 (fun h => h)
  exact ⟨_, rfl, hA2.one.1, hB2.one.1, ((k1.mono fun _ _ e => .inl e).trans k2 fun _ _ e => .inr e).trans k3 fun _ _ e => e.elim⟩
theorem done_cells2 {w3 : World} {R : Nat} {u u0 v : Value} (hA : RecAt w3 R [u0]) (hB : RecAt w3 (R + 1) [v]) : ∃ W4, W4 = (w3.setCell ⟨R, 0, none⟩ u).setCell ⟨R + 1, 0, none⟩ (.int .i64 0) ∧ W4.cell? ⟨R, 0, none⟩ = some u ∧ W4.cell? ⟨R + 1, 0, none⟩ = some (.int .i64 0) ∧ Keeps (fun b => b = R ∨ b = R + 1) w3 W4 := by
  have k1 : Keeps (fun b => b = R) w3 (w3.setCell ⟨R, 0, none⟩ u) := (Keeps.refl _ _).setCell _ _ fun _ => rfl
  have k2 : Keeps (fun b => b = R + 1) (w3.setCell ⟨R, 0, none⟩ u) ((w3.setCell ⟨R, 0, none⟩ u).setCell ⟨R + 1, 0, none⟩ (.int .i64 0)) := (Keeps.refl _ _).setCell _ _ fun _ => rfl
  have hA2 := (hA.set 0 u).keep k2 (by omega)
  have hB2 := (hB.keep k1 (by omega)).set 0 (.int .i64 0)
  exact ⟨_, rfl, hA2.one.1, hB2.one.1, (k1.mono fun _ _ e => .inl e).trans k2 fun _ _ e => .inr e⟩
/-- What holds where Tokens' loop begins a round. -/
structure TkLoop (W wr : World) (R cs : Nat) (s : ByteArray) (I : Nat) (l : List Tk) (v : Value) : Prop where
  sc : ScanAt wr cs s I ((0 : Nat) : Int)
  r0 : RecAt wr R [v]
  r1 : RecAt wr (R + 1) [.int .i64 0]
  own : OwnTks wr (fun b => W.heap.size ≤ b) v l
  low : ∀ g, v.ownBlock = some g → W.heap.size ≤ g
  kp : Keeps (fun b => b = cs ∨ b = R) W wr
  len : l.length ≤ I
theorem TkLoop.move {W wr w' : World} {R cs : Nat} {s : ByteArray} {I J : Nat} {l : List Tk} {v : Value} (h : TkLoop W wr R cs s I l v) (hk : Keeps (fun b => b = cs) wr w') (hs : ScanAt w' cs s J ((0 : Nat) : Int)) (hI : I ≤ J) (h1 : cs ≠ R) (h2 : cs ≠ R + 1) (h3 : cs < W.heap.size) : TkLoop W w' R cs s J l v :=
  ⟨hs, h.r0.keep hk (fun e => h1 e.symm), h.r1.keep hk (fun e => h2 e.symm), h.own.keep hk (fun b _ hb e => by omega) (fun g hg e => by have := h.low g hg; omega), h.low, h.kp.trans hk (fun _ _ e => .inl e), Nat.le_trans h.len hI⟩
/-- A token more. -/
theorem TkLoop.more {W wr w1 : World} {R cs : Nat} {s : ByteArray} {I J : Nat} {l : List Tk} {v : Value} (h : TkLoop W wr R cs s I l v) (hk : Keeps (fun b => b = cs) wr w1) (hs : ScanAt w1 cs s J ((0 : Nat) : Int)) (hI : I < J) (h1 : cs ≠ R) (h2 : cs ≠ R + 1) (h3 : cs < W.heap.size) (hR : R + 1 < W.heap.size)
    {x : Tk} {wv : Value} {n : Nat} (hx : PtsAt w1 (fun b => wr.heap.size ≤ b) n x.word wv) :
    ∃ xs, w1.ownsRow 0 66 3 v l.length xs ∧ v.ownBlock ≠ some R ∧ ∀ (g cap : Nat) (w2 : World) (o : Obj), w2.ownsRow 0 66 3 (.slice (some ⟨g, 0, none⟩) (l.length + 1) cap) (l.length + 1) (xs ++ cellsK x wv) → (w1.alloc o).grownBy w2 v.ownBlock → (v.ownBlock = some g ∨ g = w1.heap.size + 1) →
      w2.cell? ⟨R, 0, none⟩ = some v ∧ w2.frozen? ⟨R, 0, none⟩ = false ∧ TkLoop W (w2.setCell ⟨R, 0, none⟩ (.slice (some ⟨g, 0, none⟩) (l.length + 1) cap)) R cs s J (l ++ [x]) (.slice (some ⟨g, 0, none⟩) (l.length + 1) cap) := by
  have hm := h.move hk hs (by omega) h1 h2 h3
  have hm0 := hm.own
  obtain ⟨vs, m, hl, ho, hn⟩ := hm.own
  have hWw := hm.kp.size
  refine ⟨_, ho, fun e => by have := h.low _ e; omega, fun g cap w2 o hown hg hat => ?_⟩
  have hvR : ∀ b, v.ownBlock = some b → W.heap.size ≤ b := h.low
  have k : Keeps (fun b => v.ownBlock = some b) w1 w2 := ((Keeps.refl _ w1).alloc o).grown hg fun k hk _ => hk
  have hr0 := hm.r0.keep k (fun e => by have := hvR _ e; omega)
  have hgW : W.heap.size ≤ g := by
    rcases hat with e | e
    · exact hvR _ e
    · omega
  have hk2 : Keeps (fun b => b = R) w2 (w2.setCell ⟨R, 0, none⟩ (.slice (some ⟨g, 0, none⟩) (l.length + 1) cap)) := (Keeps.refl _ _).setCell _ _ fun _ => rfl
  have hgrow := grow_tks (B := W.heap.size) (v := v) (w := w1) (x := x) (m := n) (hx.mono fun b hb hd => ⟨by have := h.kp.size; omega, fun e => by have := h.own.lt e; omega⟩) hl hn hown k (fun y hy => by
    obtain rfl : g = y := Option.some.inj hy
    rcases hat with e | e
    · exact .inl e
    · exact .inr (by omega))
  refine ⟨hr0.one.1, hr0.one.2, (hm.sc.keep k (fun e => by have := hvR _ e; omega)).keep hk2 h1, ?_, (hm.r1.keep k (fun e => by have := hvR _ e; omega)).keep hk2 (by omega), hgrow.keep hk2 (fun b _ hb e => by omega) (fun y hy e => by obtain rfl : g = y := Option.some.inj hy; omega), fun y hy => by obtain rfl : g = y := Option.some.inj hy; exact hgW, ?_, ?_⟩
  · exact hr0.set 0 _
  · exact (hm.kp.trans k (fun b hb e => by have := hvR _ e; omega)).trans hk2 (fun _ _ e => .inr e)
  · rw [List.length_append]; have := h.len; show l.length + 1 ≤ J; omega
end Go.Proofs.YtiihpbccabeoeaaDoor
namespace Go.Proofs.YtiihpbccabeoeaaDoor
open Go.RowKit
set_option linter.unusedVariables false
end Go.Proofs.YtiihpbccabeoeaaDoor
