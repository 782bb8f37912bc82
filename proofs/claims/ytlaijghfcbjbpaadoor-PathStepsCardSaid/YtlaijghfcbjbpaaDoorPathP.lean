/-
  Plain functions of paths, on lists of bytes; no program in sight.
-/
import Derived.Lib.Strings
import Derived.Lib.Split
import Derived.Lib.SplitLaws
import Derived.Lib.Join
import Derived.Lib.IndexLaws
import Derived.Lib.IndexBytes
import Derived.Laws.AppendOwn
namespace Go.Proofs.YtlaijghfcbjbpaaDoor

abbrev Bytes := List UInt8

/-- What stands between the slashes. -/
def splitL : Bytes → List Bytes
  | [] => [[]]
  | c :: r => if c = 47 then [] :: splitL r else match splitL r with
    | [] => [[c]]
    | h :: t => (c :: h) :: t

theorem splitL_ne (l : Bytes) : splitL l ≠ [] := by
  cases l with
  | nil => simp [splitL]
  | cons c r =>
    unfold splitL
    split
    · simp
    · split <;> simp

theorem splitL_plain (a : Bytes) (h : (47 : UInt8) ∉ a) : splitL a = [a] := by
  induction a with
  | nil => rfl
  | cons c r ih =>
    have h1 : c ≠ 47 := fun e => h (by simp [e])
    have h2 := ih (fun e => h (by simp [e]))
    unfold splitL
    rw [if_neg h1, h2]

theorem splitL_slash (a b : Bytes) (h : (47 : UInt8) ∉ a) : splitL (a ++ 47 :: b) = a :: splitL b := by
  induction a with
  | nil => simp [splitL]
  | cons c r ih =>
    have h1 : c ≠ 47 := fun e => h (by simp [e])
    have h2 := ih (fun e => h (by simp [e]))
    rw [List.cons_append]
    rw [splitL, if_neg h1, h2]

theorem splitL_append (a b : Bytes) : splitL (a ++ 47 :: b) = splitL a ++ splitL b := by
  induction a with
  | nil => simp [splitL]
  | cons c r ih =>
    rw [List.cons_append]
    by_cases h : c = 47
    · rw [splitL, if_pos h, ih, splitL, if_pos h]; rfl
    · rw [splitL, if_neg h, ih, splitL, if_neg h]
      cases hs : splitL r with
      | nil => exact absurd hs (splitL_ne r)
      | cons x y => rfl

theorem splitL_noslash (l : Bytes) : ∀ s ∈ splitL l, (47 : UInt8) ∉ s := by
  induction l with
  | nil => intro s hs; simp [splitL] at hs; rw [hs]; simp
  | cons c r ih =>
    intro s hs
    unfold splitL at hs
    split at hs
    · rcases List.mem_cons.1 hs with rfl | h
      · simp
      · exact ih s h
    · rename_i hc
      cases h2 : splitL r with
      | nil => exact absurd h2 (splitL_ne r)
      | cons x y =>
        rw [h2] at hs ih
        rcases List.mem_cons.1 hs with rfl | h
        · intro e
          rcases List.mem_cons.1 e with e | e
          · exact hc e.symm
          · exact ih x (by simp) e
        · exact ih s (by simp [h])

theorem splitL_sub (l : Bytes) : ∀ s ∈ splitL l, ∀ c ∈ s, c ∈ l := by
  induction l with
  | nil => intro s hs c hc; simp [splitL] at hs; rw [hs] at hc; exact hc
  | cons d r ih =>
    intro s hs c hc
    unfold splitL at hs
    split at hs
    · rcases List.mem_cons.1 hs with rfl | h
      · cases hc
      · exact List.mem_cons_of_mem _ (ih s h c hc)
    · cases h2 : splitL r with
      | nil => exact absurd h2 (splitL_ne r)
      | cons x y =>
        rw [h2] at hs ih
        rcases List.mem_cons.1 hs with rfl | h
        · rcases List.mem_cons.1 hc with e | e
          · rw [e]; simp
          · exact List.mem_cons_of_mem _ (ih x (by simp) c e)
        · exact List.mem_cons_of_mem _ (ih s (by simp [h]) c hc)

theorem splitL_length (l : Bytes) : (splitL l).length ≤ l.length + 1 := by
  induction l with
  | nil => simp [splitL]
  | cons c r ih =>
    unfold splitL
    split
    · simp only [List.length_cons]; omega
    · cases h2 : splitL r with
      | nil => exact absurd h2 (splitL_ne r)
      | cons x y => rw [h2] at ih; simp only [List.length_cons] at ih ⊢; omega

/-- The pieces together are no longer than the text. -/
theorem splitL_lens (l : Bytes) : ((splitL l).map List.length).sum ≤ l.length := by
  induction l with
  | nil => simp [splitL]
  | cons c r ih =>
    unfold splitL
    split
    · simp only [List.map_cons, List.sum_cons, List.length_nil, List.length_cons]; omega
    · cases h2 : splitL r with
      | nil => exact absurd h2 (splitL_ne r)
      | cons x y => rw [h2] at ih; simp only [List.map_cons, List.sum_cons, List.length_cons] at ih ⊢; omega

/-- One name more. -/
def seg (l : List Bytes) (s : Bytes) : List Bytes := if s = [] ∨ s = [46] then l else if s = [46, 46] then l.dropLast else l ++ [s]

/-- The names of a path, behind others. -/
def namesL (l : List Bytes) (p : Bytes) : List Bytes := (splitL p).foldl seg l

/-- The names of a path, from a directory. -/
def partsL (cwd p : Bytes) : List Bytes := if Lib.hasPrefix p [47] = true then namesL [] p else namesL (namesL [] cwd) p

/-- A name as it stands in a path that is whole. -/
def Plain (s : Bytes) : Prop := s ≠ [] ∧ s ≠ [46] ∧ s ≠ [46, 46] ∧ (47 : UInt8) ∉ s

theorem seg_plain {l : List Bytes} {s : Bytes} (h : Plain s) : seg l s = l ++ [s] := by
  unfold seg
  rw [if_neg (by rintro (e | e); exact h.1 e; exact h.2.1 e), if_neg h.2.2.1]

theorem seg_length (l : List Bytes) (s : Bytes) : (seg l s).length ≤ l.length + 1 := by
  unfold seg
  split
  · omega
  · split
    · rw [List.length_dropLast]; omega
    · simp

theorem seg_all {P : Bytes → Prop} {l : List Bytes} {s : Bytes} (hl : ∀ x ∈ l, P x) (hs : Plain s → P s) (hn : (47 : UInt8) ∉ s) : ∀ x ∈ seg l s, P x := by
  intro x hx
  unfold seg at hx
  split at hx
  · exact hl x hx
  · rename_i h1
    split at hx
    · exact hl x (by rw [List.dropLast_eq_take] at hx; exact List.mem_of_mem_take hx)
    · rename_i h2
      rcases List.mem_append.1 hx with hx | hx
      · exact hl x hx
      · rw [List.mem_singleton.1 hx]
        exact hs ⟨fun e => h1 (Or.inl e), fun e => h1 (Or.inr e), h2, hn⟩

theorem fold_all {P : Bytes → Prop} {L : List Bytes} : ∀ {l : List Bytes}, (∀ x ∈ l, P x) → (∀ s ∈ L, Plain s → P s) → (∀ s ∈ L, (47 : UInt8) ∉ s) → ∀ x ∈ L.foldl seg l, P x := by
  induction L with
  | nil => intro l hl _ _; exact hl
  | cons s r ih =>
    intro l hl hs hn
    rw [List.foldl_cons]
    exact ih (seg_all hl (hs s (by simp)) (hn s (by simp))) (fun t ht => hs t (by simp [ht])) (fun t ht => hn t (by simp [ht]))

theorem namesL_plain {l : List Bytes} (h : ∀ x ∈ l, Plain x) (p : Bytes) : ∀ x ∈ namesL l p, Plain x :=
  fold_all h (fun _ _ h => h) (splitL_noslash p)

theorem partsL_plain (cwd p : Bytes) : ∀ x ∈ partsL cwd p, Plain x := by
  unfold partsL
  split
  · exact namesL_plain (by simp) p
  · exact namesL_plain (namesL_plain (by simp) cwd) p

theorem fold_length {L : List Bytes} : ∀ {l : List Bytes}, (L.foldl seg l).length ≤ l.length + L.length := by
  induction L with
  | nil => intro l; simp
  | cons s r ih =>
    intro l
    rw [List.foldl_cons]
    have := @ih (seg l s)
    have := seg_length l s
    simp only [List.length_cons]
    omega

theorem namesL_length (l : List Bytes) (p : Bytes) : (namesL l p).length ≤ l.length + p.length + 1 := by
  have := @fold_length (splitL p) l
  have := splitL_length p
  unfold namesL
  omega

theorem partsL_length (cwd p : Bytes) : (partsL cwd p).length ≤ cwd.length + p.length + 2 := by
  unfold partsL
  split
  · have := namesL_length [] p; simp at this; omega
  · have := namesL_length (namesL [] cwd) p
    have := namesL_length [] cwd
    simp at this; omega

def lens (l : List Bytes) : Nat := (l.map List.length).sum

theorem lens_append (a b : List Bytes) : lens (a ++ b) = lens a + lens b := by simp [lens]
theorem lens_dropLast (a : List Bytes) : lens a.dropLast ≤ lens a := by
  induction a with
  | nil => simp [lens]
  | cons x r ih =>
    cases r with
    | nil => simp [lens]
    | cons y t => simp only [List.dropLast, lens, List.map_cons, List.sum_cons] at ih ⊢; omega

theorem seg_lens (l : List Bytes) (s : Bytes) : lens (seg l s) ≤ lens l + s.length := by
  unfold seg
  split
  · omega
  · split
    · have := lens_dropLast l; omega
    · rw [lens_append]; simp [lens]

theorem fold_lens {L : List Bytes} : ∀ {l : List Bytes}, lens (L.foldl seg l) ≤ lens l + lens L := by
  induction L with
  | nil => intro l; simp [lens]
  | cons s r ih =>
    intro l
    rw [List.foldl_cons]
    have := @ih (seg l s)
    have := seg_lens l s
    have e : lens (s :: r) = s.length + lens r := by simp [lens]
    omega

theorem partsL_lens (cwd p : Bytes) : lens (partsL cwd p) ≤ cwd.length + p.length := by
  have h1 : lens (splitL p) ≤ p.length := splitL_lens p
  have h2 : lens (splitL cwd) ≤ cwd.length := splitL_lens cwd
  have h0 : lens [] = 0 := rfl
  unfold partsL
  split
  · have := @fold_lens (splitL p) []
    unfold namesL; omega
  · have := @fold_lens (splitL p) (namesL [] cwd)
    have := @fold_lens (splitL cwd) []
    unfold namesL at *; omega

/-- Names as a path. -/
def flat (l : List Bytes) : Bytes := (l.map ([47] ++ ·)).flatten
def writeL (l : List Bytes) : Bytes := if l = [] then [47] else flat l

theorem flat_ne {l : List Bytes} (h : l ≠ []) : flat l ≠ [] := by
  cases l with
  | nil => exact absurd rfl h
  | cons x r => simp [flat]

theorem flat_length (l : List Bytes) : (flat l).length = l.length + lens l := by
  induction l with
  | nil => simp [flat, lens]
  | cons x r ih =>
    unfold flat lens at *
    simp only [List.map_cons, List.flatten_cons, List.length_append, List.length_cons, List.length_nil, List.sum_cons]
    omega

theorem writeL_length (l : List Bytes) : (writeL l).length ≤ l.length + lens l + 1 := by
  unfold writeL
  split
  · simp
  · rw [flat_length]; omega

theorem join_writeL (l : List Bytes) : 47 :: Lib.join l [47] = writeL l := by
  cases l with
  | nil => rfl
  | cons x r =>
    rw [Lib.join_cons, writeL, if_neg (by simp)]
    simp [flat, Lib.joinTail]

theorem writeL_prefix (l : List Bytes) : Lib.hasPrefix (writeL l) [47] = true := by
  rw [← join_writeL]; simp [Lib.hasPrefix]

theorem splitL_flat {l : List Bytes} (h : ∀ x ∈ l, (47 : UInt8) ∉ x) (hl : l ≠ []) : splitL (flat l) = [] :: l := by
  induction l with
  | nil => exact absurd rfl hl
  | cons x r ih =>
    have hx : (47 : UInt8) ∉ x := h x (by simp)
    have e : flat (x :: r) = 47 :: (x ++ flat r) := by simp [flat]
    rw [e, splitL, if_pos rfl]
    cases r with
    | nil => simp only [flat, List.map_nil, List.flatten_nil, List.append_nil]; rw [splitL_plain x hx]
    | cons y t =>
      have e2 : flat (y :: t) = 47 :: (y ++ flat t) := by simp [flat]
      have ih2 := ih (fun z hz => h z (by simp [hz])) (by simp)
      rw [e2, splitL, if_pos rfl] at ih2
      rw [e2, splitL_slash x _ hx]
      simp only [List.cons.injEq, true_and] at ih2 ⊢
      exact ih2

theorem fold_plain {L : List Bytes} : ∀ {l : List Bytes}, (∀ x ∈ L, Plain x) → L.foldl seg l = l ++ L := by
  induction L with
  | nil => intro l _; simp
  | cons s r ih =>
    intro l h
    rw [List.foldl_cons, seg_plain (h s (by simp)), ih (fun x hx => h x (by simp [hx])), List.append_assoc]; rfl

theorem seg_nil (l : List Bytes) : seg l [] = l := by simp [seg]

/-- What is written of plain names has just these names. -/
theorem namesL_write {l : List Bytes} (h : ∀ x ∈ l, Plain x) (k : List Bytes) : namesL k (writeL l) = k ++ l := by
  unfold namesL writeL
  split
  · rename_i e; subst e; simp [splitL, seg_nil]
  · rename_i e
    rw [splitL_flat (fun x hx => (h x hx).2.2.2) e, List.foldl_cons, seg_nil, fold_plain h]

theorem partsL_write {l : List Bytes} (h : ∀ x ∈ l, Plain x) (cwd : Bytes) : partsL cwd (writeL l) = l := by
  unfold partsL
  rw [if_pos (writeL_prefix l), namesL_write h]; rfl

theorem namesL_slash (k : List Bytes) (p q : Bytes) : namesL k (p ++ 47 :: q) = namesL (namesL k p) q := by
  unfold namesL; rw [splitL_append, List.foldl_append]

theorem namesL_name {k : List Bytes} {s : Bytes} (h : Plain s) : namesL k s = k ++ [s] := by
  unfold namesL; rw [splitL_plain s h.2.2.2]; exact seg_plain h

theorem hasPrefix_slash_append (p q : Bytes) (h : p ≠ []) : Lib.hasPrefix (p ++ q) [47] = Lib.hasPrefix p [47] := by
  cases p with
  | nil => exact absurd rfl h
  | cons c r => simp only [Lib.hasPrefix, List.cons_append, List.isPrefixOf_cons_cons, List.isPrefixOf_nil_left]

theorem hasPrefix_slash (p : Bytes) : Lib.hasPrefix p [47] = true ↔ ∃ r, p = 47 :: r := by
  cases p with
  | nil => simp [Lib.hasPrefix]
  | cons c r =>
    simp only [Lib.hasPrefix, List.isPrefixOf_cons_cons, List.isPrefixOf_nil_left, Bool.and_true, beq_iff_eq]
    constructor
    · rintro rfl; exact ⟨r, rfl⟩
    · rintro ⟨r', h⟩; injection h with h1 _; exact h1.symm

/-- One path behind another. -/
theorem partsL_slash (cwd p q : Bytes) (h : p ≠ []) : partsL cwd (p ++ 47 :: q) = namesL (partsL cwd p) q := by
  unfold partsL
  rw [hasPrefix_slash_append p _ h]
  split <;> rw [namesL_slash]

theorem partsL_rel {p : Bytes} (cwd : Bytes) (h : Lib.hasPrefix p [47] = false) : partsL cwd p = namesL (namesL [] cwd) p := by
  unfold partsL; rw [if_neg (by rw [h]; decide)]

/-- PathSteps' law. -/
theorem steps_law (cwd p q : Bytes) (hq : Lib.hasPrefix q [47] = false) (hp : p ≠ []) : partsL (writeL (partsL cwd p)) q = partsL cwd (p ++ 47 :: q) := by
  rw [partsL_rel _ hq, namesL_write (partsL_plain cwd p), partsL_slash cwd p q hp]; rfl

/-- Is there a name of more than sixty bytes? -/
def longB (L : List Bytes) : Bool := L.any fun s => decide (60 < s.length)

/-- A path from the root on; the error. -/
def absF (cwd p : Bytes) : Bytes × Int :=
  if p = [] ∨ (0 : UInt8) ∈ p ∨ (0 : UInt8) ∈ cwd then ([], 1)
  else if longB (partsL cwd p) = true ∨ 20 < (partsL cwd p).length ∨ 200 < (writeL (partsL cwd p)).length then ([], 3)
  else (writeL (partsL cwd p), 0)

def dirF (p : Bytes) : Bytes := writeL (partsL [47] p).dropLast
def baseF (p : Bytes) : Bytes := (partsL [47] p).getLastD []
def withinF (p q : Bytes) : Bool := decide ((partsL [47] p).length ≤ (partsL [47] q).length ∧ partsL [47] p = (partsL [47] q).take (partsL [47] p).length)

theorem withinF_iff (p q : Bytes) : withinF p q = true ↔ ∃ r, partsL [47] q = partsL [47] p ++ r := by
  unfold withinF
  rw [decide_eq_true_eq]
  constructor
  · rintro ⟨_, h⟩
    exact ⟨(partsL [47] q).drop (partsL [47] p).length, (List.take_append_drop (partsL [47] p).length (partsL [47] q)).symm.trans (by rw [← h])⟩
  · rintro ⟨r, h⟩
    rw [h]
    exact ⟨by simp, by simp⟩

/-! ### The library's Split at a slash -/

theorem splitK_eq : ∀ (n : Nat) (l : Bytes), l.length ≤ n → Lib.splitK [47] 0 (Lib.count l [47]) l = splitL l := by
  intro n
  induction n with
  | zero =>
    intro l hl
    have : l = [] := List.eq_nil_of_length_eq_zero (by omega)
    subst this; rfl
  | succ n ih =>
    intro l hl
    have hge := Lib.indexByte_ge l 47
    by_cases h : Lib.indexByte l 47 = -1
    · have hno : (47 : UInt8) ∉ l := by
        intro e
        obtain ⟨k, hk⟩ := List.getElem?_of_mem e
        exact Lib.indexByte_none h k hk
      rw [splitL_plain l hno, Lib.count_one, List.count_eq_zero_of_not_mem hno]; rfl
    · obtain ⟨i, hi⟩ := Int.eq_ofNat_of_zero_le (show 0 ≤ Lib.indexByte l 47 by omega)
      obtain ⟨h1, h2⟩ := Lib.indexByte_some hi
      have hlt : i < l.length := by
        rcases Nat.lt_or_ge i l.length with x | x
        · exact x
        · rw [List.getElem?_eq_none x] at h1; cases h1
      have h3 : l[i] = 47 := by rw [List.getElem?_eq_getElem hlt] at h1; exact Option.some.inj h1
      have e : l = l.take i ++ 47 :: l.drop (i + 1) := by
        rw [← h3, List.getElem_cons_drop, List.take_append_drop]
      have hno : (47 : UInt8) ∉ l.take i := by
        intro x
        obtain ⟨k, hk⟩ := List.getElem?_of_mem x
        rw [List.getElem?_take] at hk
        split at hk
        · rename_i hki; exact h2 k hki hk
        · cases hk
      have hc : Lib.count l [47] = Lib.count (l.drop (i + 1)) [47] + 1 := by
        conv => lhs; rw [e]
        rw [Lib.count_one, Lib.count_one, List.count_append, List.count_eq_zero_of_not_mem hno]
        simp
      rw [hc, Lib.splitK, Lib.index_one, hi]
      rw [if_neg (by simp)]
      conv => rhs; rw [e]
      rw [splitL_slash _ _ hno]
      simp only [Int.toNat_natCast, Nat.add_zero, List.length_cons, List.length_nil]
      rw [ih _ (by rw [List.length_drop]; omega)]

/-- The cells of names. -/
def strs (l : List Bytes) : List Value := l.map fun x => .string ⟨x.toArray⟩

theorem splitB_L (s : ByteArray) : (Lib.splitB ⟨#[47]⟩ 0 (Lib.countB s ⟨#[47]⟩) s).map Value.string = strs (splitL s.data.toList) := by
  have h := Lib.splitB_data ⟨#[47]⟩ 0 (Lib.countB s ⟨#[47]⟩) s
  have h2 : Lib.splitK (⟨#[47]⟩ : ByteArray).data.toList 0 (Lib.countB s ⟨#[47]⟩) s.data.toList = splitL s.data.toList := splitK_eq _ s.data.toList (Nat.le_refl _)
  rw [h2] at h
  rw [strs, ← h, List.map_map]
  refine List.map_congr_left fun x _ => ?_
  show Value.string x = Value.string ⟨x.data.toList.toArray⟩
  rw [Lib.mk_data]

theorem splitB_len (s : ByteArray) : Lib.countB s ⟨#[47]⟩ + 1 = (splitL s.data.toList).length := by
  have h := congrArg List.length (splitB_L s)
  rw [List.length_map, Lib.splitB_all ⟨#[47]⟩ (by decide) 0 _ s rfl] at h
  rw [h]; simp [strs]

theorem strs_length (l : List Bytes) : (strs l).length = l.length := by simp [strs]
theorem strs_append (a b : List Bytes) : strs (a ++ b) = strs a ++ strs b := by simp [strs]
theorem strs_at {l : List Bytes} {k : Nat} (h : k < l.length) : (strs l)[k]? = some (.string ⟨(l.getD k []).toArray⟩) := by
  simp [strs, h]
theorem strs_oneCell (l : List Bytes) : ∀ u ∈ strs l, u.oneCell' = true := by
  intro u hu
  simp only [strs, List.mem_map] at hu
  obtain ⟨k, _, rfl⟩ := hu
  rfl
theorem strs_dropLast (l : List Bytes) : strs l.dropLast = (strs l).dropLast := by simp [strs]

end Go.Proofs.YtlaijghfcbjbpaaDoor
