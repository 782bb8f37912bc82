/-
  The contract of put, in the words of a bag.
-/
import Derived.Test.YtnndnldpbdhkgaaLexR
namespace Go.Proofs.Ytnndnldpbdhkgaa
open Go.RowKit
set_option linter.unusedVariables false

theorem ba_toList (l : List UInt8) : (⟨l.toArray⟩ : ByteArray).toList = l := by
  rw [Lib.toList_data]
theorem ba_empty {s : ByteArray} (h : s.data.toList = []) : s.toList.isEmpty = true ∧ (s.toList == []) = true := by
  rw [Lib.toList_data, h]; exact ⟨rfl, rfl⟩
theorem ba_full {s : ByteArray} (h : s.data.toList ≠ []) : s.toList.isEmpty = false ∧ (s.toList == []) = false := by
  rw [Lib.toList_data]
  cases hs : s.data.toList with
  | nil => exact absurd hs h
  | cons x y => exact ⟨rfl, rfl⟩
theorem last_cases (raw : List Pt) : raw = [] ∨ ∃ l p, raw = l ++ [p] := by
  rcases List.eq_nil_or_concat raw with h | ⟨l, p, h⟩
  · exact .inl h
  · exact .inr ⟨l, p, by rw [h, List.concat_eq_append]⟩

/-- One part more, in the bag. -/
theorem bag_more {w : World} {B cs wb : Nat} {v : Value} {raw : List Pt} {vs : List Value} {n m k : Nat} {s : ByteArray} {N : List Pt × Bool} {xs : List Value} {e : Ending} {w' : World} (ho : v.ownBlock ≠ some cs) (hcw : cs < B ∧ B ≤ wb) (hl : vs.length = raw.length)
    (hxs : xs = cellsL raw vs ++ [.int .i64 (k : Nat), .string s, .string ⟨#[]⟩, .string ⟨#[]⟩, .slice none 0 0, .bool false]) (lcs : cs < w.heap.size)
    (hnest : ∀ i (h : i < raw.length) (h' : i < vs.length), PtsAt w (fun b => (B ≤ b ∧ b ≠ wb) ∧ v.ownBlock ≠ some b) n raw[i].word vs[i])
    (hok : RawOK raw) (hN : normF raw = N) (hm : wtF raw ≤ m) (hp : PutCore w wb raw.length v xs e w') :
    PutPost w B cs wb v.ownBlock (stepN N (.mk k s.data.toList [] [] [] false)) (m + s.size + 1) e w' := by
  obtain ⟨he, g, cap, h1, h2, h3, h4, h5⟩ := hp
  have hx : xs = cellsL raw vs ++ cellsP (.mk k s.data.toList [] [] [] false) (.slice none 0 0) := by
    rw [hxs]
    simp only [cellsP, strV, Pt.kind, Pt.text, Pt.name, Pt.op, Pt.quoted]
  rw [hx] at h2
  refine ⟨he, some g, ⟨_, raw ++ [.mk k s.data.toList [] [] [] false], h1, grow_pts (v := v) rfl rfl hl hnest h2 h5 (fun y hy => ?_) hnest, rfl, fun e => h4 (Option.some.inj e), ?_, hcw, ?_, hok.append (fun p hp _ => ?_), ?_⟩, ?_, h5⟩
  · obtain rfl : g = y := Option.some.inj hy
    exact h3
  · intro e
    obtain rfl : g = cs := Option.some.inj e
    rcases h3 with h3 | h3
    · exact ho h3
    · omega
  · rw [normF_append, hN]; rfl
  · obtain rfl := List.mem_singleton.1 hp
    rfl
  · rw [wtF_append]
    simp only [wtF, Pt.text]
    rw [← Lib.size_eq]; omega
  · rcases h3 with h3 | h3
    · exact .inl h3.symm
    · exact .inr ⟨g, rfl, h3⟩

theorem cells_last {l : List Pt} {p : Pt} {vs : List Value} (hl : vs.length = (l ++ [p]).length) : (cellsL (l ++ [p]) vs)[l.length * 6]? = some (.int .i64 (p.kind : Nat)) ∧ (cellsL (l ++ [p]) vs)[l.length * 6 + 1]? = some (strV p.text) := by
  have hi : l.length < (l ++ [p]).length := by simp
  have e : (l ++ [p])[l.length] = p := by simp
  refine ⟨cellsL_at hl hi 0 _ (by rw [e]; rfl), cellsL_at hl hi 1 _ (by rw [e]; rfl)⟩

theorem put1_any (B cs wb : Nat) (g : Option Nat) (N : List Pt × Bool) (m : Nat) (s : ByteArray) (w : World) (h : Bag w B cs wb g N m) (hs : s.data.toList ≠ []) (hm : m ≤ 900000) (lcs : cs < w.heap.size) :
    Calls Try.prog 52 #[.pointer (some ⟨wb, 0, none⟩), .int .i64 1, .string s] w (PutPost w B cs wb g (stepN N (txtP s.data.toList)) (m + s.size + 1)) := by
  obtain ⟨v, raw, hw, ho, rfl, h1, h2, h3, h4, h5, h6⟩ := h
  obtain ⟨a, c, rfl, h7, h8⟩ := ho.shape
  obtain ⟨vs, n, hl, hown, hnest⟩ := ho
  obtain ⟨s1, s2⟩ := ba_full hs
  rcases last_cases raw with rfl | ⟨l, p, rfl⟩
  · exact (put_nil wb a c 1 _ s w hw hown h1 (.inl ⟨rfl, s1, s2⟩)).mono fun e w' hp => bag_more (k := 1) h2 h3 hl rfl lcs hnest h5 h4 h6 hp
  · have hlen : (l ++ [p]).length = l.length + 1 := by simp
    obtain ⟨g, hg⟩ : ∃ g, a = some ⟨g, 0, none⟩ := by
      rcases hown.2 with ⟨_, h0⟩ | ⟨g, cap, cur, e, _⟩
      · rw [hlen] at h0; omega
      · simp only [Value.slice.injEq] at e; exact ⟨g, e.1⟩
    subst hg
    obtain ⟨k1, k2⟩ := cells_last hl
    have hwl := wtF_len (l ++ [p])
    rw [hlen] at hwl
    have key : ∀ (hh : HeadD 1 (p.kind : Nat) s ⟨p.text.toArray⟩), Calls Try.prog 52 #[.pointer (some ⟨wb, 0, none⟩), .int .i64 1, .string s] w (PutPost w B cs wb (Value.slice (some ⟨g, 0, none⟩) (l ++ [p]).length c).ownBlock (stepN N (txtP s.data.toList)) (m + s.size + 1)) := fun hh => by
      have hb : ∀ e w', PutCore w wb (l ++ [p]).length (Value.slice (some ⟨g, 0, none⟩) (l ++ [p]).length c) (cellsL (l ++ [p]) vs ++ [.int .i64 1, .string s, .string ⟨#[]⟩, .string ⟨#[]⟩, .slice none 0 0, .bool false]) e w' → PutPost w B cs wb (Value.slice (some ⟨g, 0, none⟩) (l ++ [p]).length c).ownBlock (stepN N (txtP s.data.toList)) (m + s.size + 1) e w' :=
        fun e w' hp => bag_more (k := 1) h2 h3 hl rfl lcs hnest h5 h4 h6 hp
      rw [hlen] at hw hown h1 h2 hb ⊢
      exact (put_some wb g l.length c 1 _ _ s _ w hw hown (fun e => h1 (by rw [e]; rfl)) (by omega) k1 k2 hh).mono fun e w' hp => hb e w' hp
    by_cases e2 : p.kind = 2
    · by_cases e3 : p.text = []
      · obtain ⟨t1, t2⟩ := ba_empty (s := ⟨p.text.toArray⟩) e3
        exact key (.inr (.inr (.inl ⟨rfl, s1, s2, by rw [e2]; rfl, t1, t2, rfl⟩)))
      · obtain ⟨t1, t2⟩ := ba_full (s := ⟨p.text.toArray⟩) e3
        exact key (.inr (.inl ⟨rfl, s1, s2, by rw [e2]; rfl, t1, t2⟩))
    · exact key (.inl ⟨rfl, s1, s2, by rw [beq_eq_false_iff_ne]; omega⟩)

theorem cellsL_set {l : List Pt} {p : Pt} {vs : List Value} {s : List UInt8} (hl : vs.length = (l ++ [p]).length) (hp : p = quoP []) : (cellsL (l ++ [p]) vs).set (l.length * 6 + 1) (strV s) = cellsL (l ++ [quoP s]) vs := by
  obtain ⟨us, u, rfl⟩ : ∃ us u, vs = us ++ [u] := by
    rcases List.eq_nil_or_concat vs with h | ⟨us, u, h⟩
    · rw [h] at hl; simp at hl
    · exact ⟨us, u, by rw [h, List.concat_eq_append]⟩
  have hu : us.length = l.length := by simpa using hl
  rw [cellsL_append hu, cellsL_append hu, set_tail (cellsL_len hu), hp]
  rfl

theorem put2_any (B cs wb : Nat) (g : Option Nat) (N : List Pt × Bool) (m : Nat) (s : ByteArray) (w : World) (h : Bag w B cs wb g N m) (hm : m ≤ 900000) (lcs : cs < w.heap.size) :
    Calls Try.prog 52 #[.pointer (some ⟨wb, 0, none⟩), .int .i64 2, .string s] w (PutPost w B cs wb g (stepN N (quoP s.data.toList)) (m + s.size + 1)) := by
  obtain ⟨v, raw, hw, ho, rfl, h1, h2, h3, h4, h5, h6⟩ := h
  have ho2 := ho
  obtain ⟨a, c, rfl, h7, h8⟩ := ho.shape
  obtain ⟨vs, n, hl, hown, hnest⟩ := ho
  rcases last_cases raw with rfl | ⟨l, p, rfl⟩
  · exact (put_nil wb a c 2 _ s w hw hown h1 (.inr rfl)).mono fun e w' hp => bag_more (k := 2) h2 h3 hl rfl lcs hnest h5 h4 h6 hp
  · have hlen : (l ++ [p]).length = l.length + 1 := by simp
    obtain ⟨g, hg⟩ : ∃ g, a = some ⟨g, 0, none⟩ := by
      rcases hown.2 with ⟨_, h0⟩ | ⟨g, cap, cur, e, _⟩
      · rw [hlen] at h0; omega
      · simp only [Value.slice.injEq] at e; exact ⟨g, e.1⟩
    subst hg
    obtain ⟨k1, k2⟩ := cells_last hl
    have hwl := wtF_len (l ++ [p])
    rw [hlen] at hwl
    have key : ∀ (hh : HeadD 2 (p.kind : Nat) s ⟨p.text.toArray⟩), Calls Try.prog 52 #[.pointer (some ⟨wb, 0, none⟩), .int .i64 2, .string s] w (PutPost w B cs wb (Value.slice (some ⟨g, 0, none⟩) (l ++ [p]).length c).ownBlock (stepN N (quoP s.data.toList)) (m + s.size + 1)) := fun hh => by
      have hb : ∀ e w', PutCore w wb (l ++ [p]).length (Value.slice (some ⟨g, 0, none⟩) (l ++ [p]).length c) (cellsL (l ++ [p]) vs ++ [.int .i64 2, .string s, .string ⟨#[]⟩, .string ⟨#[]⟩, .slice none 0 0, .bool false]) e w' → PutPost w B cs wb (Value.slice (some ⟨g, 0, none⟩) (l ++ [p]).length c).ownBlock (stepN N (quoP s.data.toList)) (m + s.size + 1) e w' :=
        fun e w' hp => bag_more (k := 2) h2 h3 hl rfl lcs hnest h5 h4 h6 hp
      rw [hlen] at hw hown h1 h2 hb ⊢
      exact (put_some wb g l.length c 2 _ _ s _ w hw hown (fun e => h1 (by rw [e]; rfl)) (by omega) k1 k2 hh).mono fun e w' hp => hb e w' hp
    by_cases e2 : p.kind = 2
    · by_cases e3 : p.text = []
      · obtain ⟨t1, t2⟩ := ba_empty (s := ⟨p.text.toArray⟩) e3
        have hp : p = quoP [] := by
          have := h5 p (by simp) (.inr e2)
          rw [e2, e3] at this
          exact this
        have hgw : g ≠ wb := fun e => h1 (by rw [e]; rfl)
        have hw' := hw
        have hown' := hown
        rw [hlen] at hw' hown'
        refine (put_set wb g l.length c ⟨p.text.toArray⟩ s _ w hw' hown' hgw (by omega) (by rw [k1, e2]; rfl) k2 t1 t2).mono fun e w' he => ?_
        obtain ⟨he, rfl⟩ := he
        have hst := (hown.stored (l.length * 6 + 1) (.string s)).1
        rw [show Value.string s = strV s.data.toList from rfl, cellsL_set hl hp] at hst
        have hkeep : Keeps (fun b => b = g) w (w.setCell ⟨g, l.length * 6 + 1, none⟩ (.string s)) := (Keeps.refl _ w).set1 _ _ rfl
        refine ⟨he, some g, ⟨.slice (some ⟨g, 0, none⟩) (l ++ [p]).length c, l ++ [quoP s.data.toList], hw.keep hkeep hgw.symm, ⟨vs, n, by simpa using hl, by simpa [strV] using hst, fun i hi hi' => ?_⟩, rfl, h1, h2, h3, ?_, fun q hq hqk => ?_, ?_⟩, .inl rfl, hkeep.mono fun x _ hx => .inr (by rw [hx]; rfl)⟩
        · have hw2 : (l ++ [quoP s.data.toList])[i].word = ((l ++ [p])[i]'(by simpa using hi)).word := by
            by_cases hil : i < l.length
            · rw [List.getElem_append_left hil, List.getElem_append_left hil]
            · have : i = l.length := by simp at hi; omega
              subst this
              simp [hp, quoP, Pt.word]
          rw [hw2]
          exact (hnest i (by simpa using hi) hi').keep hkeep (fun b _ hd e => hd.2 (by rw [e]; rfl))
        · rw [← normF_last, ← hp, normF_append, h4]; rfl
        · rcases List.mem_append.1 hq with hq | hq
          · exact h5 q (by simp [hq]) hqk
          · obtain rfl := List.mem_singleton.1 hq
            rfl
        · rw [wtF_append] at h6 ⊢
          simp only [wtF, quoP, Pt.text]
          rw [← Lib.size_eq]; omega
      · obtain ⟨t1, t2⟩ := ba_full (s := ⟨p.text.toArray⟩) e3
        exact key (.inr (.inr (.inr (.inr ⟨rfl, by rw [e2]; rfl, t1, t2⟩))))
    · exact key (.inr (.inr (.inr (.inl ⟨rfl, by rw [beq_eq_false_iff_ne]; omega⟩))))
end Go.Proofs.Ytnndnldpbdhkgaa
