/-
  The contract of parts: a word's parts, tidied.
  The contract of name: a parameter's name.
  The contract of calc: an expression, up to what closes it.
  The contract of pass: over what stands in quotes.
  The contract of sub: a script, up to what closes it.
  The contract of sub: a script, up to what closes it.
  What each of the functions that call each other leaves, in the words of the plain lexer.
  One thing outside quotes.
  One thing within double quotes.
  What is left is shorter; double quotes.
  A word in braces.
-/
import Derived.Test.YtcahifkiiabioaaDoorPkA
import Derived.Lib.IndexBytes
import Derived.Lib.ConvBytes
import Derived.Deep.LoopGhost
import Derived.StillTailTactics
import Derived.Laws.IdiomStrings
namespace Go.Proofs.YtcahifkiiabioaaDoor
open Go.RowKit
set_option linter.unusedVariables false

def tidyOf (N : List Pt × Bool) : List Pt := if N.1.isEmpty && N.2 then [quoP []] else N.1
theorem tidyOf_norm (l : List Pt) : tidyOf (normF l) = tidyF l := rfl

theorem addP_len (out : List Pt) (x : Pt) : (addP out x).length ≤ out.length + 1 := by
  unfold addP
  cases h : out.getLast? with
  | none => simp
  | some y =>
    dsimp only
    split
    · simp only [List.length_append, List.length_dropLast, List.length_singleton]; omega
    · simp
theorem foldN_len (l : List Pt) : ∀ N : List Pt × Bool, (l.foldl stepN N).1.length ≤ N.1.length + l.length := by
  induction l with
  | nil => intro N; exact Nat.le_refl _
  | cons x l ih =>
    intro N
    have h1 := ih (stepN N x)
    have h2 : (stepN N x).1.length ≤ N.1.length + 1 := by
      unfold stepN
      split
      · exact Nat.le_succ _
      · exact addP_len _ _
    simp only [List.foldl_cons, List.length_cons]; omega
theorem normF_len (l : List Pt) : (normF l).1.length ≤ l.length := by
  have := foldN_len l ([], false)
  simpa [normF] using this
theorem addP_yes {l : List Pt} {y p : Pt} (h : y.joins p = true) : addP (l ++ [y]) p = l ++ [y.join p] := by
  unfold addP
  rw [List.getLast?_append]
  simp [h]
theorem addP_no {l : List Pt} {y p : Pt} (h : y.joins p = false) : addP (l ++ [y]) p = l ++ [y] ++ [p] := by
  unfold addP
  rw [List.getLast?_append]
  simp [h]
theorem wtF_mem {l : List Pt} {x : Pt} (h : x ∈ l) : x.text.length ≤ wtF l := by
  induction l with
  | nil => cases h
  | cons a l ih =>
    simp only [wtF]
    rcases List.mem_cons.1 h with rfl | h
    · omega
    · have := ih h; omega
theorem foldN_wt (l : List Pt) : ∀ N : List Pt × Bool, wtF (l.foldl stepN N).1 ≤ wtF N.1 + wtF l := by
  induction l with
  | nil => intro N; exact Nat.le_refl _
  | cons x l ih =>
    intro N
    have h1 := ih (stepN N x)
    have h2 : wtF (stepN N x).1 ≤ wtF N.1 + (x.text.length + 1) := by
      unfold stepN
      split
      · exact Nat.le_add_right _ _
      · rcases last_cases N.1 with h | ⟨m, y, h⟩
        · rw [h]
          unfold addP
          simp [wtF]
        · rw [h]
          cases hj : y.joins x
          · rw [addP_no hj, wtF_append]
            exact Nat.le_refl _
          · rw [addP_yes hj, wtF_append, wtF_append]
            have e : (y.join x).text = y.text ++ x.text := rfl
            simp only [wtF, e, List.length_append]
            omega
    simp only [List.foldl_cons, wtF]; omega
theorem normF_wt (l : List Pt) : wtF (normF l).1 ≤ wtF l := by
  have := foldN_wt l ([], false)
  simpa [normF, wtF] using this
theorem wtF_take (l : List Pt) (k : Nat) : wtF (l.take k) ≤ wtF l := by
  have h := wtF_append (l.take k) (l.drop k)
  rw [List.take_append_drop] at h
  omega
theorem foldN_flag (l : List Pt) : ∀ N : List Pt × Bool, (l.foldl stepN N).2 = (N.2 || decide (0 < l.length)) := by
  induction l with
  | nil => intro N; simp
  | cons x l ih =>
    intro N
    rw [List.foldl_cons, ih]
    have : (stepN N x).2 = true := by unfold stepN; split <;> rfl
    rw [this]
    simp
theorem normF_flag (l : List Pt) : (normF l).2 = decide (0 < l.length) := by
  unfold normF
  rw [foldN_flag]
  simp
theorem ba_append (a b : ByteArray) : (a ++ b).data.toList = a.data.toList ++ b.data.toList := by
  rw [ByteArray.data_append, Array.toList_append]
theorem heap_new2 (w : World) (o o' : Obj) (n : Nat) : (((w.alloc o).drewN n).alloc o').heap[w.heap.size + 1]? = some o' := by
  have h := heap_alloc_new ((w.alloc o).drewN n) o'
  rwa [show ((w.alloc o).drewN n).heap.size = w.heap.size + 1 by simp] at h
/-- The six cells, one by one. -/
def Six (w : World) (b o : Nat) (p : Pt) (v : Value) : Prop :=
  w.cell? ⟨b, o, none⟩ = some (.int .i64 (p.kind : Nat)) ∧ w.cell? ⟨b, o + 1, none⟩ = some (strV p.text) ∧ w.cell? ⟨b, o + 2, none⟩ = some (strV p.name) ∧
  w.cell? ⟨b, o + 3, none⟩ = some (strV p.op) ∧ w.cell? ⟨b, o + 4, none⟩ = some v ∧ w.cell? ⟨b, o + 5, none⟩ = some (.bool p.quoted)
theorem six_of {w : World} {b o : Nat} {p : Pt} {v : Value} (h : PtCells w b o p v) : Six w b o p v :=
  ⟨h 0 _ rfl, h 1 _ rfl, h 2 _ rfl, h 3 _ rfl, h 4 _ rfl, h 5 _ rfl⟩
theorem six_row {w : World} {e : TypeId} {g n c : Nat} {l : List Pt} {vs : List Value} (ho : w.ownsRow 0 e 6 (.slice (some ⟨g, 0, none⟩) n c) n (cellsL l vs)) (hn : n = l.length) (hl : vs.length = l.length) {i : Nat} (hi : i < l.length) : Six w g (i * 6) l[i] (vs[i]'(by omega)) := by
  refine six_of fun j u hu => ?_
  have hj : j < 6 := (List.getElem?_eq_some_iff.1 hu).1
  rw [ho.cellAt _ (by omega)]
  exact cellsL_at hl hi j u hu

/-- What parts has gathered: the row is new. -/
def OutAt (w wr : World) (D : Nat → Prop) (n : Nat) (v : Value) (out : List Pt) : Prop :=
  (out = [] → v = .slice none 0 0) ∧ ∃ vs, vs.length = out.length ∧ wr.ownsRow 0 34 6 v out.length (cellsL out vs) ∧ (∀ y, v.ownBlock = some y → w.heap.size ≤ y) ∧
    ∀ i (h : i < out.length) (h' : i < vs.length), PtsAt w D n out[i].word vs[i]
theorem OutAt.nil (w wr : World) (D : Nat → Prop) (n : Nat) : OutAt w wr D n (.slice none 0 0) [] :=
  ⟨fun _ => rfl, [], rfl, World.ownsRow_nil _ _ _ _, fun y h => (by cases h), fun i h => absurd h (Nat.not_lt_zero _)⟩
theorem OutAt.alloc {w wr : World} {D : Nat → Prop} {n : Nat} {v : Value} {out : List Pt} (h : OutAt w wr D n v out) (o : Obj) : OutAt w (wr.alloc o) D n v out := by
  obtain ⟨hz, vs, hl, ho, hy, hn⟩ := h
  exact ⟨hz, vs, hl, ho.alloc o, hy, hn⟩
theorem OutAt.drewN {w wr : World} {D : Nat → Prop} {n : Nat} {v : Value} {out : List Pt} (h : OutAt w wr D n v out) (k : Nat) : OutAt w (wr.drewN k) D n v out := by
  obtain ⟨hz, vs, hl, ho, hy, hn⟩ := h
  refine ⟨hz, vs, hl, ?_, hy, hn⟩
  induction k with
  | zero => exact ho
  | succ k ih => exact ih.drew
theorem OutAt.shape {w wr : World} {D : Nat → Prop} {n : Nat} {v : Value} {out : List Pt} (h : OutAt w wr D n v out) : (v = .slice none 0 0 ∧ out = []) ∨ ∃ l y g c, out = l ++ [y] ∧ v = .slice (some ⟨g, 0, none⟩) (l.length + 1) c ∧ w.heap.size ≤ g ∧ g < wr.heap.size ∧ l.length + 1 ≤ c ∧ c ≤ maxLen := by
  obtain ⟨hz, vs, hl, ho, hy, hn⟩ := h
  rcases last_cases out with rfl | ⟨l, y, rfl⟩
  · exact .inl ⟨hz rfl, rfl⟩
  · have hlen : (l ++ [y]).length = l.length + 1 := by simp
    rcases ho.2 with ⟨_, h0⟩ | ⟨g, cap, cur, rfl, _, hg, h1, h2, _⟩
    · omega
    · rw [hlen] at h1
      exact .inr ⟨l, y, g, cap, rfl, by rw [hlen], hy g rfl, (Array.getElem?_eq_some_iff.1 hg).1, h1, h2⟩
/-- One part more. -/
theorem OutAt.more {w w1 : World} {D : Nat → Prop} {n : Nat} {out : List Pt} {vs : List Value} {p : Pt} {pv : Value} {g c : Nat} (hl : vs.length = out.length) (hn : ∀ i (h : i < out.length) (h' : i < vs.length), PtsAt w D n out[i].word vs[i]) (hp : PtsAt w D n p.word pv)
    (ho : w1.ownsRow 0 34 6 (.slice (some ⟨g, 0, none⟩) (out.length + 1) c) (out.length + 1) (cellsL out vs ++ cellsP p pv)) (hg : w.heap.size ≤ g) : OutAt w w1 D n (.slice (some ⟨g, 0, none⟩) (out.length + 1) c) (out ++ [p]) := by
  refine ⟨fun h => by simp at h, vs ++ [pv], by simp [hl], ?_, fun y hy => ?_, fun i h h' => ?_⟩
  · rw [cellsL_append hl]
    simpa [cellsL] using ho
  · obtain rfl : g = y := Option.some.inj hy
    exact hg
  · by_cases hi : i < out.length
    · rw [List.getElem_append_left hi, List.getElem_append_left (by omega)]
      exact hn i hi (by omega)
    · have hi2 : i = out.length := by simp at h; omega
      subst hi2
      rw [List.getElem_append_right (Nat.le_refl _), List.getElem_append_right (by omega)]
      simpa [hl] using hp
/-- The last text, longer. -/
theorem OutAt.join {w wr : World} {D : Nat → Prop} {n g c : Nat} {l : List Pt} {y p : Pt} {s : ByteArray} (h : OutAt w wr D n (.slice (some ⟨g, 0, none⟩) (l ++ [y]).length c) (l ++ [y])) (hs : s.data.toList = y.text ++ p.text) :
    OutAt w (wr.setCell ⟨g, l.length * 6 + 1, none⟩ (.string s)) D n (.slice (some ⟨g, 0, none⟩) (l ++ [y.join p]).length c) (l ++ [y.join p]) := by
  obtain ⟨_, vs, hl, ho, hy, hn⟩ := h
  obtain ⟨us, u, rfl⟩ : ∃ us u, vs = us ++ [u] := by
    rcases List.eq_nil_or_concat vs with h | ⟨us, u, h⟩
    · rw [h] at hl; simp at hl
    · exact ⟨us, u, by rw [h, List.concat_eq_append]⟩
  have hu : us.length = l.length := by simpa using hl
  have hst := (ho.stored (l.length * 6 + 1) (.string s)).1
  have hlen : (l ++ [y.join p]).length = (l ++ [y]).length := by simp
  refine ⟨fun h => by simp at h, us ++ [u], by simpa using hl, ?_, hy, fun i h h' => ?_⟩
  · rw [hlen]
    rw [cellsL_append hu] at hst ⊢
    rw [set_tail (cellsL_len hu)] at hst
    have e : (cellsL [y] [u]).set 1 (.string s) = cellsL [y.join p] [u] := by
      have e2 : Value.string s = strV (y.text ++ p.text) := by unfold strV; rw [← hs]
      rw [e2]
      rfl
    rw [e] at hst
    exact hst
  · by_cases hi : i < l.length
    · rw [List.getElem_append_left hi]
      have := hn i (by simp; omega) (by simp; omega)
      rwa [List.getElem_append_left hi] at this
    · have hi2 : i = l.length := by simp at h; omega
      subst hi2
      have := hn l.length (by simp) (by simp [hu])
      rw [List.getElem_append_right (Nat.le_refl _)] at this ⊢
      simpa [Pt.join, Pt.word] using this

/-- What parts hands back: a slice that reads as the parts, tidied; nothing old has turned. -/
def PartsPost (w : World) (B wb : Nat) (g : Option Nat) (N : List Pt × Bool) (e : Ending) (w' : World) : Prop :=
  ∃ v n, e = .returned v ∧ PtsAt w' (fun b => B ≤ b ∧ b ≠ wb ∧ g ≠ some b) n (tidyOf N) v ∧ Keeps (fun _ => False) w w'
theorem OutAt.reads {w wr : World} {D D' : Nat → Prop} {n : Nat} {v : Value} {out : List Pt} (h : OutAt w wr D n v out) (hk : Keeps (fun _ => False) w wr) (h1 : ∀ x, D x → D' x) (h2 : ∀ x, w.heap.size ≤ x → D' x) : PtsAt wr D' (n + 1) out v := by
  obtain ⟨hz, vs, hl, ho, hy, hn⟩ := h
  rcases ho.2 with ⟨rfl, h0⟩ | ⟨g, cap, cur, rfl, _, hg, hc1, hc2, _⟩
  · rw [List.eq_nil_of_length_eq_zero h0]
    exact PtsAt.nil _ _ _
  · refine ⟨_, cap, rfl, hc1, hc2, fun i hi => ⟨g, 0, vs[i]'(by omega), rfl, (Array.getElem?_eq_some_iff.1 hg).1, h2 g (hy g rfl), fun j u hu => ?_, ((hn i hi (by omega)).keep hk (fun b _ _ s => s)).mono fun b _ hb => h1 b hb⟩⟩
    have hj : j < 6 := (List.getElem?_eq_some_iff.1 hu).1
    rw [ho.cellAt _ (by omega), Nat.zero_add]
    exact cellsL_at hl hi j u hu
theorem one_quote {D : Nat → Prop} (w : World) (hD : D w.heap.size) :
    PtsAt (w.alloc (.cells #[.int .i64 2, .string ⟨#[]⟩, .string ⟨#[]⟩, .string ⟨#[]⟩, .slice none 0 0, .bool false] 34)) D 1 [quoP []] (.slice (some ⟨w.heap.size, 0, none⟩) 1 1) := by
  have hb := heap_alloc_new w (.cells #[.int .i64 2, .string ⟨#[]⟩, .string ⟨#[]⟩, .string ⟨#[]⟩, .slice none 0 0, .bool false] 34)
  refine ⟨_, 1, rfl, Nat.le_refl _, by unfold maxLen; omega, fun i hi => ?_⟩
  obtain rfl : i = 0 := by simp at hi; omega
  refine ⟨w.heap.size, 0, .slice none 0 0, rfl, by simp, hD, fun j u hu => ?_, rfl, none, 0, rfl, Nat.zero_le _⟩
  rw [show 0 + 0 * 6 + j = j by omega, cell_of_row _ _ j _ _ _ hb]
  rw [← Array.getElem?_toList]
  exact hu

set_option maxRecDepth 100000 in
set_option maxHeartbeats 4000000 in
theorem parts_any (B cs wb : Nat) (g : Option Nat) (N : List Pt × Bool) (m : Nat) (w : World) (h : Bag w B cs wb g N m) (hm : m ≤ 900000) (lcs : cs < w.heap.size) :
    Calls Tryd.prog 38 #[.pointer (some ⟨wb, 0, none⟩)] w (PartsPost w B wb g N) := by
  obtain ⟨v, raw, hw, ho, rfl, h1, h2, h3, h4, h5, h6⟩ := h
  obtain ⟨a, c, rfl, h7, h8⟩ := ho.shape
  obtain ⟨vs, n, hl, hown, hnest⟩ := ho
  have lw := hw.lt
  obtain ⟨c0, f0⟩ := hw.cell
  obtain ⟨i0, hi0, hz0, hz1, hz2⟩ := info_parts info_part
  have hc6 := cells_part
  have hwl := wtF_len raw
  have HNEST := Lib.hid hnest
  have HOWN := Lib.hid hown
  have H4 := Lib.hid h4
  clear hnest hown h4 hw f0
  obtain ⟨D, hD⟩ : ∃ D : Nat → Prop, D = fun b => B ≤ b ∧ b ≠ wb ∧ (Value.slice a raw.length c).ownBlock ≠ some b := ⟨_, rfl⟩
  have HD := Lib.hid hD
  go_enter Tryd.func38, Tryd.ntmps38
  go_wp2_with fail
  go_loopw [3, 12] (fun v' k' wr => ∃ k : Nat, k' = .int .i64 k ∧ k ≤ raw.length ∧ Hid (OutAt w wr (fun b => ((B ≤ b ∧ b ≠ wb) ∧ (Value.slice a raw.length c).ownBlock ≠ some b)) n v' (normF (raw.take k)).1) ∧ Hid (Keeps (fun _ => False) w wr)) (fun _ k' _ => raw.length - (intOf k').toNat)
  case atStart => exact ⟨0, rfl, Nat.zero_le _, Lib.hid (OutAt.nil _ _ _ _), Lib.hid (Keeps.refl _ _)⟩
  case round =>
    obtain ⟨k, rfl, hk, HO, HK⟩ := hrel
    by_cases hlt : k < raw.length
    · obtain ⟨G, hG⟩ : ∃ G, a = some ⟨G, 0, none⟩ := by
        rcases HOWN.out.2 with ⟨_, h0⟩ | ⟨G, cap, cur, e, _⟩
        · omega
        · simp only [Value.slice.injEq] at e; exact ⟨G, e.1⟩
      subst hG
      have hGl : G < w.heap.size := (HOWN.out.lt G rfl).2
      obtain ⟨q0, q1, q2, q3, q4, q5⟩ := six_row HOWN.out rfl hl hlt
      have hcell : ∀ o v, w.cell? ⟨G, o, none⟩ = some v → wr.cell? ⟨G, o, none⟩ = some v := fun o v hv => (World.cell?_of_block (a := ⟨G, o, none⟩) (HK.out.block G hGl (fun x => x))).trans hv
      replace q0 := hcell _ _ q0
      replace q1 := hcell _ _ q1
      replace q2 := hcell _ _ q2
      replace q3 := hcell _ _ q3
      replace q4 := hcell _ _ q4
      replace q5 := hcell _ _ q5
      have hnk := HNEST.out k hlt (by omega)
      have htk : normF (raw.take (k + 1)) = stepN (normF (raw.take k)) raw[k] := by
        rw [List.take_succ_eq_append_getElem hlt, normF_append]; rfl
      obtain ⟨out, hout⟩ : ∃ out, out = (normF (raw.take k)).1 := ⟨_, rfl⟩
      rw [← hout] at HO
      have HOUT := Lib.hid hout
      have HTK := Lib.hid htk
      obtain ⟨p, hp⟩ : ∃ p, p = raw[k] := ⟨_, rfl⟩
      obtain ⟨pv, hpv⟩ : ∃ pv, pv = vs[k]'(by omega) := ⟨_, rfl⟩
      rw [← hp, ← hpv] at hnk
      rw [← hp] at q0 q1 q2 q3 q5
      rw [← hpv] at q4
      obtain ⟨pa, pc, hpe, _, _⟩ := hnk.shape
      rw [hpe] at q4 hnk
      obtain ⟨pl, hpl⟩ : ∃ pl, pl = p.word.length := ⟨_, rfl⟩
      rw [← hpl] at q4 hnk
      have HP := Lib.hid hp
      have HNK := Lib.hid hnk
      clear hcell hout htk hp hpv hnk hpe hpl
      have p1 : (k : Int) < (raw.length : Int) := by omega
      obtain ⟨T, hT⟩ : ∃ T : ByteArray, T = ⟨p.text.toArray⟩ := ⟨_, rfl⟩
      have hT2 : T.data.toList = p.text := by rw [hT]
      unfold strV at q1 q2 q3
      rw [← hT] at q1
      have HT := Lib.hid hT2
      clear hT
      by_cases hE : p.isE = true
      · have e1 : p.kind = 2 ∧ p.text = [] := by
          unfold Pt.isE at hE
          simpa using hE
        have t1 : ((p.kind : Int) == 2) = true := by rw [e1.1]; rfl
        obtain ⟨t2, t3⟩ := ba_empty (s := T) (hT2.trans e1.2)
        have hst : (normF (raw.take (k + 1))).1 = out := by
          rw [HTK.out, ← HP.out, stepN, if_pos hE, HOUT.out]
        have HST := Lib.hid hst
        clear hE e1 hst hT2
        go_wp2_with fail
        go_roundw
        case rel => exact ⟨k + 1, by go_num, by omega, Lib.hid (by rw [HST.out]; exact HO.out.alloc _), Lib.hid (HK.out.alloc _)⟩
        case measure => simp [intOf]; omega
      · have e1 : ((p.kind : Int) == 2) = false ∨ ((p.kind : Int) == 2) = true ∧ T.toList.isEmpty = false ∧ (T.toList == []) = false := by
          by_cases h2 : p.kind = 2
          · by_cases h3 : p.text = []
            · exact absurd (by unfold Pt.isE; rw [h2, h3]; rfl) hE
            · obtain ⟨t1, t2⟩ := ba_full (s := T) (by rw [hT2]; exact h3)
              exact .inr ⟨by rw [h2]; rfl, t1, t2⟩
          · exact .inl (by rw [beq_eq_false_iff_ne]; omega)
        have hst : (normF (raw.take (k + 1))).1 = addP out p := by
          rw [HTK.out, ← HP.out, stepN, if_neg hE, HOUT.out]
        have HST := Lib.hid hst
        have HE := Lib.hid hE
        clear hE hst
        clear hT2
        have hgl : wr.heap.size < wr.heap.size + 1 := by omega
        rcases HO.out.shape with ⟨rfl, ho0⟩ | ⟨l, y, go, co, ho0, rfl, hgo, hgo2, hco, hco2⟩
        · obtain rfl := ho0
          rcases e1 with e1 | ⟨e1, e2, e3⟩
          all_goals
            go_wp2_with fail
            go_quiet (fail)
            obtain ⟨_, us, hus, hown2, _, hun⟩ := ((HO.out.alloc (.cells #[.int .i64 (p.kind : Nat), .string T, .string ⟨p.name.toArray⟩, .string ⟨p.op.toArray⟩, .slice pa pl pc, .bool p.quoted] 34)).drewN nq)
            have HUN := Lib.hid hun
            have HUS := Lib.hid hus
            clear hun hus
            go_wp2_with (at_builtin; refine wpList_append_lies _ rfl (.tmp 59) (.tmp 61) _ rfl 0 34 i0 _ 6 88 Tryd.underlying32 hi0 hz0 hz1 hz2 rfl (by omega) (.slice none 0 0) 0 (cellsL [] us) rfl (hown2.alloc _) ⟨wr.heap.size + 1, 0, none⟩ 1 1 [.int .i64 (p.kind : Nat), .string T, .string ⟨p.name.toArray⟩, .string ⟨p.op.toArray⟩, .slice pa pl pc, .bool p.quoted] rfl rfl (World.news_of_block (cs := #[.int .i64 (p.kind : Nat), .string T, .string ⟨p.name.toArray⟩, .string ⟨p.op.toArray⟩, .slice pa pl pc, .bool p.quoted]) (t := 34) (fr := (0, 0)) (heap_new2 _ _ _ _)) (by simp [Value.oneCell']) (by omega) (by unfold maxLen; omega) (by omega) (by simp) (wr.heap.size + 2) (by simp) ?_; intro gg cap w1 hown1 hgrow hat hlt2)
            have hgg : w.heap.size ≤ gg := by
              have hws := HK.out.size
              rcases hat with hat | hat
              · first | (cases hat; done) | (obtain rfl := Option.some.inj hat; omega)
              · omega
            have hk1 : Keeps (fun _ => False) w w1 := (((HK.out.alloc _).drewN nq).alloc _).grown hgrow (fun y hy hyl => by cases hy)
            have hmore := OutAt.more (w := w) (out := []) (p := p) HUS.out HUN.out HNK.out (by rw [cellsP, strV, ← HT.out]; exact hown1) hgg
            have HM := Lib.hid hmore
            have HK1 := Lib.hid hk1
            clear hmore hk1 hown1 hgrow hat
            go_wp2_with fail
            go_roundw
            case rel => exact ⟨k + 1, by go_num, by omega, Lib.hid (by rw [HST.out]; exact HM.out), HK1⟩
            case measure => simp [intOf]; omega
        · subst ho0
          have hlen : (l ++ [y]).length = l.length + 1 := by simp
          have HLEN := Lib.hid hlen
          have hll : l.length ≤ 900000 := by
            have h9 : (l ++ [y]).length ≤ raw.length := by rw [HOUT.out]; exact Nat.le_trans (normF_len _) (List.length_take_le' _ _)
            omega
          obtain ⟨_, us0, hus0, hown0, _, _⟩ := HO.out
          have hsix := six_row (l := l ++ [y]) (i := l.length) (by rw [hlen] at hown0; exact hown0) (by rw [hlen]) hus0 (by rw [hlen]; omega)
          have hye : (l ++ [y])[l.length]'(by rw [hlen]; omega) = y := by simp
          rw [hye] at hsix
          obtain ⟨r0, r1, _, _, _, _⟩ := hsix
          obtain ⟨TY, hTY⟩ : ∃ TY : ByteArray, TY = ⟨y.text.toArray⟩ := ⟨_, rfl⟩
          have hTY2 : TY.data.toList = y.text := by rw [hTY]
          unfold strV at r1
          rw [← hTY] at r1
          have HTY := Lib.hid hTY2
          have rf := hown0
          rw [hlen] at rf
          have rfr := rf.frozenAt (l.length * 6 + 1)
          have HUS0 := Lib.hid hus0
          clear hTY hTY2 hown0 hye rf
          have hcase : (y.joins p = false ∧ ((((p.kind : Int) == 2) = false ∧ ((y.kind : Int) == (p.kind : Int)) = false) ∨ (((p.kind : Int) == 2) = false ∧ ((y.kind : Int) == (p.kind : Int)) = true ∧ ((p.kind : Int) == 1) = false) ∨ (((p.kind : Int) == 2) = true ∧ T.toList.isEmpty = false ∧ (T.toList == []) = false ∧ ((y.kind : Int) == (p.kind : Int)) = false))) ∨
              (y.joins p = true ∧ ((((p.kind : Int) == 2) = false ∧ ((y.kind : Int) == (p.kind : Int)) = true ∧ ((p.kind : Int) == 1) = true) ∨ (((p.kind : Int) == 2) = true ∧ T.toList.isEmpty = false ∧ (T.toList == []) = false ∧ ((y.kind : Int) == (p.kind : Int)) = true ∧ ((p.kind : Int) == 1) = false))) := by
            have nk : ∀ a b : Nat, ((a : Int) == (b : Int)) = (a == b) := fun a b => by
              rw [Bool.eq_iff_iff, beq_iff_eq, beq_iff_eq]; omega
            have n1 : ((p.kind : Int) == 1) = (p.kind == 1) := nk p.kind 1
            have n2 : ((p.kind : Int) == 2) = (p.kind == 2) := nk p.kind 2
            have n3 := nk y.kind p.kind
            rw [n2] at e1
            rw [n1, n2, n3]
            unfold Pt.joins
            cases a1 : (y.kind == p.kind)
            · rcases e1 with e1 | ⟨e1, e2, e3⟩
              · exact .inl ⟨by simp, .inl ⟨e1, rfl⟩⟩
              · exact .inl ⟨by simp, .inr (.inr ⟨e1, e2, e3, rfl⟩)⟩
            · cases a2 : (p.kind == 1)
              · rcases e1 with e1 | ⟨e1, e2, e3⟩
                · exact .inl ⟨by rw [e1]; rfl, .inr (.inl ⟨e1, rfl, rfl⟩)⟩
                · exact .inr ⟨by rw [e1]; rfl, .inr ⟨e1, e2, e3, rfl, rfl⟩⟩
              · have e4 : (p.kind == 2) = false := by
                  rw [beq_iff_eq] at a2
                  rw [a2]; rfl
                exact .inr ⟨by simp, .inl ⟨e4, rfl, rfl⟩⟩
          have hsum : ¬ 9223372036854775807 < TY.size + T.size := by
            have w1 : y.text.length ≤ wtF raw := Nat.le_trans (wtF_mem (l := l ++ [y]) (by simp)) (by rw [HOUT.out]; exact Nat.le_trans (normF_wt _) (wtF_take _ _))
            have w2 : p.text.length ≤ wtF raw := wtF_mem (by rw [HP.out]; exact List.getElem_mem _)
            rw [Lib.size_eq, Lib.size_eq, HTY.out, HT.out]
            omega
          clear e1
          have p3 : 0 ≤ (l.length : Int) + 1 := by omega
          have p4 : (l.length : Int) < (l.length : Int) + 1 := by omega
          rcases hcase with ⟨hj, hcase⟩ | ⟨hj, hcase⟩
          · have hst2 : (normF (raw.take (k + 1))).1 = l ++ [y] ++ [p] := by rw [HST.out, addP_no hj]
            replace HST := Lib.hid hst2
            clear hst2 hj
            rcases hcase with ⟨e1, e2⟩ | ⟨e1, e2, e3⟩ | ⟨e1, e2, e3, e4⟩
            all_goals
              go_wp2_with fail
              go_quiet (fail)
              obtain ⟨_, us, hus, hown2, _, hun⟩ := ((HO.out.alloc (.cells #[.int .i64 (p.kind : Nat), .string T, .string ⟨p.name.toArray⟩, .string ⟨p.op.toArray⟩, .slice pa pl pc, .bool p.quoted] 34)).drewN nq)
              have HUN := Lib.hid hun
              have HUS := Lib.hid hus
              clear hun hus
              go_wp2_with (at_builtin; refine wpList_append_lies _ rfl (.tmp 59) (.tmp 61) _ rfl 0 34 i0 _ 6 88 Tryd.underlying32 hi0 hz0 hz1 hz2 rfl (by omega) (.slice (some ⟨go, 0, none⟩) (l.length + 1) co) (l.length + 1) (cellsL (l ++ [y]) us) rfl (by have := hown2.alloc (.cells #[.int .i64 (p.kind : Nat), .string T, .string ⟨p.name.toArray⟩, .string ⟨p.op.toArray⟩, .slice pa pl pc, .bool p.quoted] 34); rwa [hlen] at this) ⟨wr.heap.size + 1, 0, none⟩ 1 1 [.int .i64 (p.kind : Nat), .string T, .string ⟨p.name.toArray⟩, .string ⟨p.op.toArray⟩, .slice pa pl pc, .bool p.quoted] rfl rfl (World.news_of_block (cs := #[.int .i64 (p.kind : Nat), .string T, .string ⟨p.name.toArray⟩, .string ⟨p.op.toArray⟩, .slice pa pl pc, .bool p.quoted]) (t := 34) (fr := (0, 0)) (heap_new2 _ _ _ _)) (by simp [Value.oneCell']) (by omega) (by unfold maxLen; omega) (by omega) (by simp) (wr.heap.size + 2) (by simp) ?_; intro gg cap w1 hown1 hgrow hat hlt2)
              have hgg : w.heap.size ≤ gg := by
                have hws := HK.out.size
                rcases hat with hat | hat
                · first | (cases hat; done) | (obtain rfl := Option.some.inj hat; omega)
                · omega
              have hk1 : Keeps (fun _ => False) w w1 := (((HK.out.alloc _).drewN nq).alloc _).grown hgrow (fun yy hy hyl => by have h9 : go = yy := Option.some.inj hy; omega)
              have hmore := OutAt.more (w := w) (out := l ++ [y]) (p := p) HUS.out HUN.out HNK.out (by rw [cellsP, strV, ← HT.out, hlen]; exact hown1) hgg
              have HM := Lib.hid hmore
              have HK1 := Lib.hid hk1
              clear hmore hk1 hown1 hgrow hat
              go_wp2_with fail
              go_roundw
              case rel => exact ⟨k + 1, by go_num, by omega, Lib.hid (by rw [HST.out]; have := HM.out; rwa [HLEN.out] at this), HK1⟩
              case measure => simp [intOf]; omega

          · have hst2 : (normF (raw.take (k + 1))).1 = l ++ [y.join p] := by rw [HST.out, addP_yes hj]
            replace HST := Lib.hid hst2
            clear hst2 hj
            rcases hcase with ⟨e1, e2, e3⟩ | ⟨e1, e2, e3, e4, e5⟩
            all_goals
              go_wp2_with fail
              go_quiet (fail)
              go_wp2_with fail
              go_region
              go_wp2_with fail
              go_roundw
              case rel =>
                refine ⟨k + 1, by go_num, by omega, Lib.hid ?_, Lib.hid ?_⟩
                · rw [HST.out]
                  have hj2 := ((HO.out.alloc (.cells #[.int .i64 (p.kind : Nat), .string T, .string ⟨p.name.toArray⟩, .string ⟨p.op.toArray⟩, .slice pa pl pc, .bool p.quoted] 34)).drewN (nq + 1))
                  have hj3 := OutAt.join (p := p) (s := TY ++ T) (c := co) (g := go) (l := l) (y := y) (by rw [HLEN.out]; exact hj2) (by rw [ba_append, HTY.out, HT.out])
                  rw [show (l ++ [y.join p]).length = l.length + 1 by simp] at hj3
                  exact hj3
                · exact ((HK.out.alloc _).drewN _).setCell _ _ (fun hlt3 => by simp only at hlt3; omega)
              case measure => simp [intOf]; omega
    · obtain rfl : k = raw.length := by omega
      have hfin : normF (raw.take raw.length) = N := by rw [List.take_length]; exact H4.out
      rw [hfin] at HO
      have hflag : N.2 = decide (0 < raw.length) := by rw [← H4.out]; exact normF_flag _
      have hcw : wr.cell? ⟨wb, 0, none⟩ = some (Value.slice a raw.length c) := (World.cell?_of_block (a := ⟨wb, 0, none⟩) (HK.out.block wb lw (fun x => x))).trans c0
      rcases HO.out.shape with ⟨rfl, ho0⟩ | ⟨l, y, go, co, ho0, rfl, hgo, hgo2, hco, hco2⟩
      · rcases Nat.eq_zero_or_pos raw.length with hr0 | hr0
        · have ht : tidyOf N = [] := by unfold tidyOf; rw [ho0, hflag, hr0]; rfl
          have HT := Lib.hid ht
          have e1 : ¬ (0 : Int) < (raw.length : Int) := by omega
          have HR0 := Lib.hid hr0
          clear ht ho0 hflag hfin hr0
          go_wp2_with fail
          go_ret
          exact ⟨_, 0, rfl, by rw [HT.out]; exact PtsAt.nil _ _ _, HK.out⟩
        · have ht : tidyOf N = [quoP []] := by unfold tidyOf; rw [ho0, hflag, decide_eq_true hr0]; rfl
          have HT := Lib.hid ht
          have e1 : (0 : Int) < (raw.length : Int) := by omega
          clear ht ho0 hflag hfin
          go_wp2_with fail
          go_ret
          refine ⟨_, 1, rfl, ?_, HK.out.alloc _⟩
          rw [HT.out]
          have hws := HK.out.size
          refine one_quote wr ⟨by omega, by omega, fun e => ?_⟩
          have := HOWN.out.lt _ e
          omega
      · have ht : tidyOf N = l ++ [y] := by
          unfold tidyOf
          rw [ho0, show (l ++ [y]).isEmpty = false by cases l <;> rfl]; rfl
        have HT := Lib.hid ht
        have e1 : ((l.length : Int) + 1 == 0) = false := by rw [beq_eq_false_iff_ne]; omega
        have hO2 := HO.out
        rw [ho0] at hO2
        have HO2 := Lib.hid hO2
        clear ht hflag hfin ho0 hO2
        go_wp2_with fail
        go_ret
        refine ⟨_, n + 1, rfl, ?_, HK.out⟩
        rw [HT.out]
        refine HO2.out.reads HK.out (fun x hx => ⟨hx.1.1, hx.1.2, hx.2⟩) (fun x hx => ⟨by omega, by omega, fun e => ?_⟩)
        have := HOWN.out.lt _ e
        omega
end Go.Proofs.YtcahifkiiabioaaDoor
namespace Go.Proofs.YtcahifkiiabioaaDoor
open Go.RowKit
set_option linter.unusedVariables false

theorem tailRun_le (l : List UInt8) : tailRun l ≤ l.length := by
  induction l with
  | nil => exact Nat.le_refl _
  | cons c t ih => simp only [tailRun, List.length_cons]; split <;> omega
theorem digRun_le (l : List UInt8) : digRun l ≤ l.length := by
  induction l with
  | nil => exact Nat.le_refl _
  | cons c t ih => simp only [digRun, List.length_cons]; split <;> omega
theorem runF_le (l : List UInt8) : runF l ≤ l.length := by
  cases l with
  | nil => exact Nat.le_refl _
  | cons c t =>
    have := tailRun_le t
    simp only [runF, List.length_cons]; split <;> omega
theorem nameF_le (b : Bool) (l : List UInt8) : nameF b l ≤ l.length := by
  unfold nameF
  have := runF_le l
  split
  · exact this
  · cases l with
    | nil => exact Nat.le_refl _
    | cons c t =>
      have := digRun_le t
      simp only [List.length_cons]
      split
      · split <;> omega
      · split <;> omega

/-- How far digits have come. -/
def DigAt (l : List UInt8) (k : Nat) : Prop := 1 ≤ k ∧ k ≤ l.length ∧ digRun (l.drop 1) + 1 = k + digRun (l.drop k)
theorem DigAt.next {l : List UInt8} {k : Nat} {c : UInt8} (h : DigAt l k) (hk : l[k]? = some c) (hc : digitB c = true) : DigAt l (k + 1) := by
  have hlt := (List.getElem?_eq_some_iff.1 hk).1
  have hd := drop_at hk
  refine ⟨by omega, hlt, ?_⟩
  have := h.2.2
  rw [this, hd, digRun, if_pos hc]
  omega
theorem DigAt.stop {l : List UInt8} {k : Nat} {c : UInt8} (h : DigAt l k) (hk : l[k]? = some c) (hc : digitB c = false) : digRun (l.drop 1) + 1 = k := by
  rw [h.2.2, drop_at hk, digRun, hc]; simp
theorem DigAt.over {l : List UInt8} {k : Nat} (h : DigAt l k) (hk : k = l.length) : digRun (l.drop 1) + 1 = k := by
  rw [h.2.2, hk, List.drop_length]; rfl

theorem special_amid (c : UInt8) : amid ⟨#[63, 35, 64, 42]⟩ c = specialB c := by
  have h : ∀ n : Fin 256, amid ⟨#[63, 35, 64, 42]⟩ (UInt8.ofNat n.val) = specialB (UInt8.ofNat n.val) := by decide +kernel
  have := h ⟨c.toNat, c.toNat_lt⟩
  simpa using this

def NamePost (w : World) (b : Nat) (s : ByteArray) (i k : Nat) (d : Int) (e : Ending) (w' : World) : Prop :=
  ∃ r : ByteArray, e = .returned (.string r) ∧ r.data.toList = (rest s i).take k ∧ ScanAt w' b s ((i + k : Nat) : Int) d ∧ Keeps (fun k => k = b) w w'

theorem name_close {w : World} {b : Nat} {s R : ByteArray} {i k n : Nat} {d j : Int} (hR : R.data.toList = rest s i) (h : ScanAt w b s i d) (hj : j = ((i + k : Nat) : Int)) :
    NamePost w b s i k d (.returned (.string (R.extract 0 k))) ((w.drewN n).setCell ⟨b, 1, none⟩ (.int .i64 j)) := by
  refine ⟨_, rfl, ?_, scan_end h n hj.symm, keep_end _ _ _ _ _⟩
  rw [Lib.extract_data, hR, List.drop_zero, Nat.sub_zero]

theorem name_close0 {w : World} {b : Nat} {s : ByteArray} {i k n : Nat} {d : Int} (hk : k = 0) (h : ScanAt w b s i d) :
    NamePost w b s i k d (.returned (.string ByteArray.empty)) ((w.drewN n).setCell ⟨b, 1, none⟩ (.int .i64 (i : Int))) := by
  subst hk
  exact ⟨_, rfl, rfl, scan_end h n rfl, keep_end _ _ _ _ _⟩
theorem name_close1 {w : World} {b : Nat} {s R : ByteArray} {i k n : Nat} {d : Int} (hk : k = 1) (hR : R.data.toList = rest s i) (h : ScanAt w b s i d) :
    NamePost w b s i k d (.returned (.string (R.extract 0 1))) ((w.drewN n).setCell ⟨b, 1, none⟩ (.int .i64 ((i : Int) + 1))) := by
  subst hk
  exact name_close hR h (by omega)

theorem name_closej {w : World} {b : Nat} {s R : ByteArray} {i k j n : Nat} {d : Int} (hk : k = j) (hR : R.data.toList = rest s i) (h : ScanAt w b s i d) :
    NamePost w b s i k d (.returned (.string (R.extract 0 j))) ((w.drewN n).setCell ⟨b, 1, none⟩ (.int .i64 ((i : Int) + (j : Int)))) := by
  subst hk
  exact name_close hR h (by omega)

set_option maxHeartbeats 4000000 in
theorem name_any (b : Nat) (s : ByteArray) (i : Nat) (d : Int) (w : World) (br : Bool) (h : ScanAt w b s i d) (hs : s.size ≤ 140737488351232) (hi : i ≤ s.size) (k : Nat) (hk : nameF br (rest s i) = k) :
    Calls Tryd.prog 62 #[.pointer (some ⟨b, 0, none⟩), .bool br] w (NamePost w b s i k d) := by
  obtain ⟨c0, c1, c2, f1, f2⟩ := h.cells
  have hkl : k ≤ s.size - i := by rw [← hk, ← rest_len]; exact nameF_le _ _
  obtain ⟨R, hRe⟩ : ∃ R, R = s.extract i s.size := ⟨_, rfl⟩
  have hR : R.data.toList = rest s i := by rw [hRe, Lib.extract_to_end]; rfl
  have hRs : R.size = s.size - i := by rw [Lib.size_eq, hR, rest_len]
  have HRE := Lib.hid hRe
  have HR := Lib.hid hR
  have hle : k ≤ R.size := by omega
  have hRs2 : R.size ≤ 140737488351232 := by omega
  have HRS := Lib.hid hRs
  clear hRe hR hRs
  by_cases hrun : 0 < runF (rest s i)
  · have hkk : runF (rest s i) = k := by rw [← hk]; unfold nameF; rw [if_pos hrun]
    have HK := Lib.hid hkk
    rw [hkk] at hrun
    clear hk hkk
    go_enter Tryd.func62, Tryd.ntmps62
    go_wp2_with fail
    go_quiet (fail)
    go_wp2_with fail
    rw [← HRE.out]
    refine (run_any R _ hRs2).mono ?_
    rintro e w1 ⟨rfl, rfl⟩
    rw [HR.out, HK.out]
    go_wp2_with fail
    go_ret
    exact name_close HR.out h (by omega)
  · have h0 : runF (rest s i) = 0 := by omega
    rcases Nat.lt_or_ge i s.size with hi2 | hi2
    · obtain ⟨c, t, hrest⟩ : ∃ c t, rest s i = c :: t := by
        cases hr : rest s i with
        | nil =>
          have := rest_len s i
          rw [hr] at this
          simp at this; omega
        | cons c t => exact ⟨c, t, rfl⟩
      have hc : byteAt s i = c := by rw [byteAt_rest, hrest]; rfl
      have hR0 : R[0]'(by have := HRS.out; omega) = c := by
        have := byte_get (s := R) (k := 0) (by have := HRS.out; omega)
        rw [HR.out, hrest] at this
        simpa using this.symm
      have hpos : 0 < R.size := by have := HRS.out; omega
      have hpos2 : (0 : Int) < (R.size : Int) := by omega
      have he : decide (s.size ≤ i) = false := decide_eq_false (by omega)
      have HE := Lib.hid he; clear he
      have H0 := Lib.hid h0
      cases hdg : digitB c
      · cases hsp : specialB c
        · have hkk : k = 0 := by
            rw [← hk]; unfold nameF
            rw [h0, if_neg (by omega), hrest]
            simp [hdg, hsp]
          have HK := Lib.hid hkk
          have HD := Lib.hid hdg
          have HS := Lib.hid hsp
          have HR0 := Lib.hid hR0
          have HC := Lib.hid hc
          clear hk hkk hdg hsp hR0 hc h0 hrun hrest
          go_enter Tryd.func62, Tryd.ntmps62
          go_wp2_with fail
          go_quiet (fail)
          go_wp2_with fail
          rw [← HRE.out]
          refine (run_any R _ hRs2).mono ?_
          rintro e w1 ⟨rfl, rfl⟩
          rw [HR.out, H0.out]
          go_wp2_with fail
          refine (end_any b s i d _ (h.drewN _)).mono ?_
          rintro e w1 ⟨rfl, q, rfl⟩
          rw [HE.out]
          go_wp2_with fail
          rw [HR0.out]
          refine (digit_any c _).mono ?_
          rintro e w1 ⟨rfl, rfl⟩
          rw [HD.out]
          go_wp2_with fail
          refine (among_in b s _ i d _ ((h.drewN _)) hs hi2 false (by rw [HC.out, special_amid]; exact HS.out)).mono ?_
          rintro e w1 ⟨rfl, q2, rfl⟩
          go_wp2_with fail
          go_ret
          exact name_close0 HK.out h
        · have hkk : k = 1 := by
            rw [← hk]; unfold nameF
            rw [h0, if_neg (by omega), hrest]
            simp [hdg, hsp]
          have HK := Lib.hid hkk
          have HD := Lib.hid hdg
          have HS := Lib.hid hsp
          have HR0 := Lib.hid hR0
          have HC := Lib.hid hc
          clear hk hkk hdg hsp hR0 hc h0 hrun hrest
          go_enter Tryd.func62, Tryd.ntmps62
          go_wp2_with fail
          go_quiet (fail)
          go_wp2_with fail
          rw [← HRE.out]
          refine (run_any R _ hRs2).mono ?_
          rintro e w1 ⟨rfl, rfl⟩
          rw [HR.out, H0.out]
          go_wp2_with fail
          refine (end_any b s i d _ (h.drewN _)).mono ?_
          rintro e w1 ⟨rfl, q, rfl⟩
          rw [HE.out]
          go_wp2_with fail
          rw [HR0.out]
          refine (digit_any c _).mono ?_
          rintro e w1 ⟨rfl, rfl⟩
          rw [HD.out]
          go_wp2_with fail
          refine (among_in b s _ i d _ ((h.drewN _)) hs hi2 true (by rw [HC.out, special_amid]; exact HS.out)).mono ?_
          rintro e w1 ⟨rfl, q2, rfl⟩
          go_wp2_with fail
          go_ret
          exact name_close1 HK.out HR.out h
      · cases br
        · have hkk : k = 1 := by
            rw [← hk]; unfold nameF
            rw [h0, if_neg (by omega), hrest]
            simp [hdg]
          have HK := Lib.hid hkk
          have HD := Lib.hid hdg
          have HR0 := Lib.hid hR0
          have HC := Lib.hid hc
          clear hk hkk hdg hR0 hc h0 hrun hrest
          go_enter Tryd.func62, Tryd.ntmps62
          go_wp2_with fail
          go_quiet (fail)
          go_wp2_with fail
          rw [← HRE.out]
          refine (run_any R _ hRs2).mono ?_
          rintro e w1 ⟨rfl, rfl⟩
          rw [HR.out, H0.out]
          go_wp2_with fail
          refine (end_any b s i d _ (h.drewN _)).mono ?_
          rintro e w1 ⟨rfl, q, rfl⟩
          rw [HE.out]
          go_wp2_with fail
          rw [HR0.out]
          refine (digit_any c _).mono ?_
          rintro e w1 ⟨rfl, rfl⟩
          rw [HD.out]
          go_wp2_with fail
          go_loop [6] (fun n => n = .int .i64 1) (fun _ => 0)
          case atStart => rfl
          case round =>
            subst hrel
            go_wp2_with fail
            go_ret
            exact name_close1 HK.out HR.out h
        · have hkk : k = digRun t + 1 := by
            rw [← hk]; unfold nameF
            rw [h0, if_neg (by omega), hrest]
            simp [hdg]
          have HK := Lib.hid hkk
          have HD := Lib.hid hdg
          have HR0 := Lib.hid hR0
          have HC := Lib.hid hc
          have HT := Lib.hid hrest
          clear hk hkk hdg hR0 hc h0 hrun hrest
          go_enter Tryd.func62, Tryd.ntmps62
          go_wp2_with fail
          go_quiet (fail)
          go_wp2_with fail
          rw [← HRE.out]
          refine (run_any R _ hRs2).mono ?_
          rintro e w1 ⟨rfl, rfl⟩
          rw [HR.out, H0.out]
          go_wp2_with fail
          refine (end_any b s i d _ (h.drewN _)).mono ?_
          rintro e w1 ⟨rfl, q, rfl⟩
          rw [HE.out]
          go_wp2_with fail
          rw [HR0.out]
          refine (digit_any c _).mono ?_
          rintro e w1 ⟨rfl, rfl⟩
          rw [HD.out]
          go_wp2_with fail
          have hd1 : t.length + 1 = s.size - i := by have := rest_len s i; rw [HT.out] at this; simpa using this
          go_loop [6] (fun n => ∃ j : Nat, n = .int .i64 j ∧ Hid (DigAt (rest s i) j)) (fun n => R.size - (intOf n).toNat)
          case atStart => exact ⟨1, rfl, Lib.hid ⟨Nat.le_refl _, by rw [HT.out]; simp, by rw [HT.out]; simp; omega⟩⟩
          case round =>
            obtain ⟨j, rfl, HJ⟩ := hrel
            have hj1 := HJ.out.1
            have hj2 := HJ.out.2.1
            rw [rest_len] at hj2
            by_cases hlt : j < R.size
            · have hg := byte_get (s := R) hlt
              rw [HR.out] at hg
              have HG := Lib.hid hg; clear hg
              have p1 : (j : Int) < (R.size : Int) := by omega
              cases hdj : digitB R[j]
              · have hkj : k = j := by
                  have := HJ.out.stop HG.out hdj
                  rw [HT.out] at this
                  rw [HK.out]; simpa using this
                have HDJ := Lib.hid hdj
                have HKJ := Lib.hid hkj
                clear hdj hkj
                go_wp2_with fail
                refine (digit_any R[j] _).mono ?_
                rintro e w1 ⟨rfl, rfl⟩
                rw [HDJ.out]
                go_wp2_with fail
                go_ret
                exact name_closej HKJ.out HR.out h
              · have hn := HJ.out.next HG.out hdj
                have HN := Lib.hid hn
                have HDJ := Lib.hid hdj
                clear hdj hn
                go_wp2_with fail
                refine (digit_any R[j] _).mono ?_
                rintro e w1 ⟨rfl, rfl⟩
                rw [HDJ.out]
                go_wp2_with fail
                go_round
                case rel => exact ⟨j + 1, by go_num, HN⟩
                case measure => simp [intOf]; omega
            · have hkj : k = j := by
                have := HJ.out.over (by rw [rest_len]; have := HRS.out; omega)
                rw [HT.out] at this
                rw [HK.out]; simpa using this
              have HKJ := Lib.hid hkj
              have hj3 : j ≤ R.size := by have := HRS.out; omega
              clear hkj
              go_wp2_with fail
              go_ret
              exact name_closej HKJ.out HR.out h
    · have hrest : rest s i = [] := List.eq_nil_of_length_eq_zero (by rw [rest_len]; omega)
      have hkk : k = 0 := by
        rw [← hk]; unfold nameF
        rw [h0, if_neg (by omega), hrest]
      have he : decide (s.size ≤ i) = true := decide_eq_true (by omega)
      have HE := Lib.hid he
      have HK := Lib.hid hkk
      have H0 := Lib.hid h0
      clear hk hkk h0 hrun hrest he
      go_enter Tryd.func62, Tryd.ntmps62
      go_wp2_with fail
      go_quiet (fail)
      go_wp2_with fail
      rw [← HRE.out]
      refine (run_any R _ hRs2).mono ?_
      rintro e w1 ⟨rfl, rfl⟩
      rw [HR.out, H0.out]
      go_wp2_with fail
      refine (end_any b s i d _ (h.drewN _)).mono ?_
      rintro e w1 ⟨rfl, q, rfl⟩
      rw [HE.out]
      go_wp2_with fail
      go_ret
      exact name_close0 HK.out h
end Go.Proofs.YtcahifkiiabioaaDoor
namespace Go.Proofs.YtcahifkiiabioaaDoor
open Go.RowKit
set_option linter.unusedVariables false

/-- What a reader of a text within leaves: the text, or why not. -/
def TextPost (w : World) (b : Nat) (s : ByteArray) (i skip : Nat) (d : Int) (res : Option Nat) (e : Ending) (w' : World) : Prop :=
  match res with
  | some k => ∃ r : ByteArray, e = .returned (.string r) ∧ r.data.toList = (rest s i).take k ∧ ScanAt w' b s ((i + (k + skip) : Nat) : Int) d ∧ Keeps (fun k => k = b) w w'
  | none => FailPost w b 2 e w'

theorem starts_one (c : UInt8) (r : List UInt8) : startsF [c] r = headIs c r := by
  cases r with
  | nil => rfl
  | cons x t =>
    show (c == x && true) = (x == c)
    rw [Bool.and_true, Bool.eq_iff_iff, beq_iff_eq, beq_iff_eq]
    exact eq_comm
theorem keeps_bytes (S : Nat → Prop) (w : World) (T : TypeId) (R : ByteArray) : Keeps S w (Lib.bytesWorld w.drew T R) :=
  ⟨rfl, rfl, rfl, by rw [Lib.bytesWorld_size]; exact Nat.le_succ _, fun k hk _ => Lib.bytesWorld_at_old _ _ _ _ hk⟩

/-- How far the expression has come. -/
def CalcAt (l : List UInt8) (o k : Nat) : Prop := k ≤ l.length ∧ calcF 0 l = (calcF o (l.drop k)).map (· + k)
theorem CalcAt.start (l : List UInt8) : CalcAt l 0 0 := ⟨Nat.zero_le _, by rw [List.drop_zero]; cases calcF 0 l <;> rfl⟩
theorem CalcAt.step {l : List UInt8} {o o' k : Nat} {c : UInt8} (h : CalcAt l o k) (hk : l[k]? = some c) (hc : calcF o (c :: l.drop (k + 1)) = (calcF o' (l.drop (k + 1))).map (· + 1)) : CalcAt l o' (k + 1) := by
  have hlt := (List.getElem?_eq_some_iff.1 hk).1
  refine ⟨hlt, ?_⟩
  rw [h.2, drop_at hk, hc]
  cases calcF o' (l.drop (k + 1)) with
  | none => rfl
  | some n => simp; omega
theorem calcF_open (o : Nat) (t : List UInt8) : calcF o (40 :: t) = (calcF (o + 1) t).map (· + 1) := rfl
theorem calcF_shut (o : Nat) (t : List UInt8) (h : 0 < o) : calcF o (41 :: t) = (calcF (o - 1) t).map (· + 1) := by
  rw [calcF]
  rw [if_neg (by decide), if_pos (by decide), if_neg (by omega)]
theorem calcF_end (t : List UInt8) : calcF 0 (41 :: t) = if headIs 41 t then some 0 else none := rfl
theorem calcF_else (o : Nat) (c : UInt8) (t : List UInt8) (h1 : (c == 40) = false) (h2 : (c == 41) = false) : calcF o (c :: t) = (calcF o t).map (· + 1) := by
  simp only [calcF, h1, h2]
  rfl

set_option maxHeartbeats 2000000 in
theorem calc_any (b : Nat) (s : ByteArray) (i : Nat) (d : Int) (w : World) (h : ScanAt w b s i d) (hs : s.size ≤ 140737488351232) (hi : i ≤ s.size) (res : Option Nat) (hres : calcF 0 (rest s i) = res) :
    Calls Tryd.prog 60 #[.pointer (some ⟨b, 0, none⟩)] w (TextPost w b s i 2 d res) := by
  obtain ⟨c0, c1, c2, f1, f2⟩ := h.cells
  have lb := h.lt
  have kc := fun (w : World) (R : ByteArray) => Lib.run_convert_string_bytes (P := Tryd.prog) w 9 94 5 R Tryd.underlying9 Tryd.underlying94 Tryd.underlying5
  have HRES := Lib.hid hres
  clear hres
  go_enter Tryd.func60, Tryd.ntmps60
  go_wp2_with fail
  go_region
  clear kc
  have hw1c := fun j hj => Lib.bytesWorld_cell w.drew 5 (s.extract i s.size) j hj
  have hw1s : ScanAt (Lib.bytesWorld w.drew 5 (s.extract i s.size)) b s i d := h.keep (keeps_bytes (fun _ => False) _ _ _) (fun x => x)
  have hw1k : Keeps (fun k => k = b) w (Lib.bytesWorld w.drew 5 (s.extract i s.size)) := keeps_bytes _ _ _ _
  have hRl : (s.extract i s.size).size = s.size - i := by rw [Lib.size_eq, Lib.extract_to_end, List.length_drop, ← Lib.size_eq]
  rw [show (s.extract i s.size).data.toList = rest s i from Lib.extract_to_end _ _, hRl] at hw1c
  simp only [show w.drew.heap.size = w.heap.size from rfl] at hw1c
  obtain ⟨w1, hw1⟩ : ∃ w1, w1 = Lib.bytesWorld w.drew 5 (s.extract i s.size) := ⟨_, rfl⟩
  obtain ⟨B, hB⟩ : ∃ B, B = w.heap.size := ⟨_, rfl⟩
  obtain ⟨cp, hcp⟩ : ∃ cp, cp = grownCap w.drew (s.size - i) 0 5 := ⟨_, rfl⟩
  rw [← hw1, ← hB] at hw1c
  rw [← hw1] at hw1s hw1k
  rw [← hw1, ← hB, ← hcp]
  clear hw1 hB hcp
  obtain ⟨N, hN⟩ : ∃ N, N = s.size - i := ⟨_, rfl⟩
  rw [← hN] at hw1c ⊢
  have hN2 : N + i ≤ s.size := by omega
  have hN3 : N = (rest s i).length := by rw [rest_len, hN]
  have HN := Lib.hid hN; clear hN
  have HN3 := Lib.hid hN3; clear hN3
  have HC := Lib.hid hw1c; clear hw1c
  have HK1 := Lib.hid hw1k; clear hw1k
  have HS1 := Lib.hid hw1s
  clear h c0 c1 c2 f1 f2 hRl
  obtain ⟨c0, c1, c2, f1, f2⟩ := hw1s.cells
  clear hw1s
  go_wp2_with fail
  go_loop [3, 18] (fun o k' => ∃ n k : Nat, o = .int .i64 n ∧ k' = .int .i64 k ∧ n ≤ k ∧ k ≤ N ∧ Hid (CalcAt (rest s i) n k)) (fun _ k' => N - (intOf k').toNat)
  case atStart => exact ⟨0, 0, rfl, rfl, by omega, by omega, Lib.hid (CalcAt.start _)⟩
  case round =>
    obtain ⟨n, k, rfl, rfl, hnk, hk, HA⟩ := hrel
    by_cases hlt : k < N
    · have hcell := HC.out k hlt
      obtain ⟨c, hc⟩ : ∃ c, (rest s i)[k]? = some c := ⟨_, List.getElem?_eq_getElem (by have := HN3.out; omega)⟩
      have hgd : (rest s i).getD k 0 = c := by rw [List.getD_eq_getElem?_getD, hc]; rfl
      rw [hgd] at hcell
      have HCC := Lib.hid hc; clear hc hgd
      have p1 : (k : Int) < (N : Int) := by omega
      by_cases h40 : c = 40
      · have e1 : ((c.toNat : Int) == 40) = true := by rw [h40]; rfl
        have hn := HA.out.step (o' := n + 1) HCC.out (by rw [h40]; exact calcF_open _ _)
        have HNN := Lib.hid hn
        clear h40 hn
        go_wp2_with fail
        go_round
        case rel => exact ⟨n + 1, k + 1, by go_num, by go_num, by omega, by omega, HNN⟩
        case measure => simp [intOf]; omega
      · have e1 : ((c.toNat : Int) == 40) = false := by
          have := u8_eq (x := c) (c := 40)
          rw [beq_eq_false_iff_ne.2 h40] at this
          exact this
        by_cases h41 : c = 41
        · have e2 : ((c.toNat : Int) == 41) = true := by rw [h41]; rfl
          by_cases hn0 : 0 < n
          · have hn := HA.out.step (o' := n - 1) HCC.out (by rw [h41]; exact calcF_shut _ _ hn0)
            have HNN := Lib.hid hn
            clear h40 h41 hn
            go_wp2_with fail
            go_round
            case rel => exact ⟨n - 1, k + 1, by congr 1; omega, by go_num, by omega, by omega, HNN⟩
            case measure => simp [intOf]; omega
          · obtain rfl : n = 0 := by omega
            have w1e : IntKind.i64.wrap ((i : Int) + (k : Int)) = (i : Int) + (k : Int) := IntWalk.i64_in _ (by omega)
            have w2 : ((i : Int) + (k : Int)).toNat = i + k := by omega
            have w3 : 0 ≤ (i : Int) + (k : Int) := by omega
            have w4 : (i : Int) + (k : Int) ≤ (s.size : Int) := by omega
            have w5 : (i : Int) ≤ (i : Int) + (k : Int) := by omega
            have hd := drop_at HCC.out
            have hfin : res = if headIs 41 (rest s (i + (k + 1))) then some k else none := by
              rw [← HRES.out, HA.out.2, hd, h41, calcF_end, rest_drop]
              split <;> simp
            clear h40 h41 hd
            cases hh : headIs 41 (rest s (i + (k + 1)))
            · have hr : res = none := by rw [hfin, hh]; rfl
              have HH := Lib.hid hh
              have HR := Lib.hid hr
              clear hh hr hfin
              go_wp2_with fail
              go_quiet (fail)
              go_wp2_with fail
              have hs2 := scan_end (j' := ((i + (k + 1) : Nat) : Int)) HS1.out nq rfl
              have hk2 := keep_end w1 nq b 1 (.int .i64 ((i : Int) + ((k : Int) + 1)))
              obtain ⟨w2, hw2⟩ : ∃ w2, w2 = (w1.drewN nq).setCell ⟨b, 1, none⟩ (.int .i64 ((i : Int) + ((k : Int) + 1))) := ⟨_, rfl⟩
              rw [← hw2] at hk2
              rw [show (w1.drewN nq).setCell ⟨b, 1, none⟩ (.int .i64 (((i + (k + 1) : Nat)) : Int)) = w2 from hw2.symm] at hs2
              rw [← hw2]
              clear hw2
              have HK2 := Lib.hid hk2; clear hk2
              refine (is_no b s ⟨#[41]⟩ (i + (k + 1)) d _ hs2 (by omega) (by rw [hasPrefix_starts, starts_one]; exact HH.out)).mono ?_
              rintro e w3 ⟨rfl, q3, rfl⟩
              go_wp2_with fail
              refine (fail_any 2 _).mono ?_
              rintro e w4 ⟨rfl, rfl⟩
              go_wp2_with fail
              refine ⟨rfl, ?_⟩
              rw [HR.out]
              exact ⟨rfl, (HK1.out.trans HK2.out (fun x _ hx => hx)).drewN _⟩
            · have hr : res = some k := by rw [hfin, hh]; rfl
              have HH := Lib.hid hh
              have HR := Lib.hid hr
              clear hh hr hfin
              go_wp2_with fail
              go_quiet (fail)
              go_wp2_with fail
              have hs2 := scan_end (j' := ((i + (k + 1) : Nat) : Int)) HS1.out nq rfl
              have hk2 := keep_end w1 nq b 1 (.int .i64 ((i : Int) + ((k : Int) + 1)))
              obtain ⟨w2, hw2⟩ : ∃ w2, w2 = (w1.drewN nq).setCell ⟨b, 1, none⟩ (.int .i64 ((i : Int) + ((k : Int) + 1))) := ⟨_, rfl⟩
              rw [← hw2] at hk2
              rw [show (w1.drewN nq).setCell ⟨b, 1, none⟩ (.int .i64 (((i + (k + 1) : Nat)) : Int)) = w2 from hw2.symm] at hs2
              rw [← hw2]
              clear hw2
              have HK2 := Lib.hid hk2; clear hk2
              refine (is_yes b s ⟨#[41]⟩ (i + (k + 1)) d _ hs2 hs (by omega) (by decide) (by rw [hasPrefix_starts, starts_one]; exact HH.out)).mono ?_
              rintro e w3 ⟨rfl, hs3, hk3⟩
              have HS3 := Lib.hid hs3; have HK3 := Lib.hid hk3; clear hs3 hk3
              go_wp2_with fail
              go_ret
              show TextPost w b s i 2 d res _ _
              rw [HR.out]
              exact ⟨_, rfl, by rw [Lib.extract_data, show i + k - i = k by omega]; rfl, HS3.out, (HK1.out.trans HK2.out (fun x _ hx => hx)).trans HK3.out (fun x _ hx => hx)⟩
        · have e2 : ((c.toNat : Int) == 41) = false := by
            have := u8_eq (x := c) (c := 41)
            rw [beq_eq_false_iff_ne.2 h41] at this
            exact this
          have hn := HA.out.step (o' := n) HCC.out (calcF_else _ _ _ (beq_eq_false_iff_ne.2 h40) (beq_eq_false_iff_ne.2 h41))
          have HNN := Lib.hid hn
          clear h40 h41 hn
          go_wp2_with fail
          go_round
          case rel => exact ⟨n, k + 1, rfl, by go_num, by omega, by omega, HNN⟩
          case measure => simp [intOf]; omega
    · obtain rfl : k = N := by omega
      have hr : res = none := by
        rw [← HRES.out, HA.out.2, HN3.out, List.drop_length]; rfl
      have HR := Lib.hid hr
      clear hr
      go_wp2_with fail
      refine (fail_any 2 _).mono ?_
      rintro e w2 ⟨rfl, rfl⟩
      go_wp2_with fail
      refine ⟨rfl, ?_⟩
      rw [HR.out]
      exact ⟨rfl, HK1.out⟩
end Go.Proofs.YtcahifkiiabioaaDoor
namespace Go.Proofs.YtcahifkiiabioaaDoor
open Go.RowKit
set_option linter.unusedVariables false

/-- How many bytes are passed over, the closing quote too (true: the next byte is passed over). -/
def passQ (q : UInt8) : Bool → List UInt8 → Option Nat
  | _, [] => none
  | true, _ :: t => (passQ q false t).map (· + 1)
  | false, c :: t => if c == q then some 1 else (passQ q (c == 92 && q == 34) t).map (· + 1)

def PassPost (w : World) (b : Nat) (s : ByteArray) (i : Nat) (d : Int) (res : Option Nat) (e : Ending) (w' : World) : Prop :=
  match res with
  | some k => e = .returned (.tuple #[]) ∧ ScanAt w' b s ((i + k : Nat) : Int) d ∧ Keeps (fun k => k = b) w w'
  | none => FailPost w b 2 e w'

/-- How far the passing has come. -/
def PassAt (q : UInt8) (s : ByteArray) (i I : Nat) : Prop := i ≤ I ∧ passQ q false (rest s i) = (passQ q false (rest s I)).map (· + (I - i))
theorem PassAt.start (q : UInt8) (s : ByteArray) (i : Nat) : PassAt q s i i := ⟨Nat.le_refl _, by rw [Nat.sub_self]; cases passQ q false (rest s i) <;> rfl⟩
theorem rest_cons {s : ByteArray} {I : Nat} (h : I < s.size) : rest s I = byteAt s I :: rest s (I + 1) := by
  have hg := rest_get (s := s) (i := I) (k := 0) (by omega)
  have hd := drop_at hg
  rw [List.drop_zero] at hd
  rw [hd]
  have : byteAt s I = s[I + 0]'(by omega) := by
    rw [byteAt_rest, hd]; rfl
  rw [this, rest_drop]
theorem rest_nil {s : ByteArray} {I : Nat} (h : s.size ≤ I) : rest s I = [] := List.eq_nil_of_length_eq_zero (by rw [rest_len]; omega)
theorem PassAt.one {q : UInt8} {s : ByteArray} {i I : Nat} (h : PassAt q s i I) (hI : I < s.size) (h1 : (byteAt s I == q) = false) (h2 : (byteAt s I == 92 && q == 34) = false) : PassAt q s i (I + 1) := by
  refine ⟨by have := h.1; omega, ?_⟩
  rw [h.2, rest_cons hI, passQ, h1, h2]
  have := h.1
  cases passQ q false (rest s (I + 1)) with
  | none => rfl
  | some k => simp; omega
theorem PassAt.two {q : UInt8} {s : ByteArray} {i I : Nat} (h : PassAt q s i I) (hI : I < s.size) (h1 : (byteAt s I == q) = false) (h2 : (byteAt s I == 92 && q == 34) = true) : PassAt q s i (I + 2) := by
  refine ⟨by have := h.1; omega, ?_⟩
  rw [h.2, rest_cons hI, passQ, h1, h2]
  have := h.1
  rcases Nat.lt_or_ge (I + 1) s.size with hl | hl
  · rw [rest_cons hl, passQ]
    cases passQ q false (rest s (I + 2)) with
    | none => rfl
    | some k => simp; omega
  · rw [rest_nil hl, rest_nil (by omega : s.size ≤ I + 2)]; rfl
theorem PassAt.stop {q : UInt8} {s : ByteArray} {i I : Nat} (h : PassAt q s i I) (hI : I < s.size) (h1 : (byteAt s I == q) = true) : passQ q false (rest s i) = some (I + 1 - i) := by
  have := h.1
  rw [h.2, rest_cons hI, passQ, h1]
  simp; omega
theorem PassAt.over {q : UInt8} {s : ByteArray} {i I : Nat} (h : PassAt q s i I) (hI : s.size ≤ I) : passQ q false (rest s i) = none := by
  rw [h.2, rest_nil hI]; rfl

/-- The scanner stands at a later place, behind draws and a store. -/
theorem scan_moved {w : World} {b n : Nat} {s : ByteArray} {i d : Int} (h : ScanAt w b s i d) (j : Int) : ∃ w', w' = (w.drewN n).setCell ⟨b, 1, none⟩ (.int .i64 j) ∧ ScanAt w' b s j d ∧ Keeps (fun k => k = b) w w' :=
  ⟨_, rfl, scan_end h n rfl, keep_end _ _ _ _ _⟩

theorem scan_moved0 {w : World} {b : Nat} {s : ByteArray} {i d : Int} (h : ScanAt w b s i d) (j : Int) : ∃ w', w' = w.setCell ⟨b, 1, none⟩ (.int .i64 j) ∧ ScanAt w' b s j d ∧ Keeps (fun k => k = b) w w' :=
  ⟨_, rfl, scan_end h 0 rfl, keep_end0 _ _ _ _⟩

set_option maxHeartbeats 2000000 in
theorem pass_any (b : Nat) (s : ByteArray) (i : Nat) (d : Int) (w : World) (q : UInt8) (h : ScanAt w b s i d) (hs : s.size ≤ 140737488351000) (hi : i ≤ s.size) (res : Option Nat) (hres : passQ q false (rest s i) = res) :
    Calls Tryd.prog 72 #[.pointer (some ⟨b, 0, none⟩), .int .u8 (q.toNat : Nat)] w (PassPost w b s i d res) := by
  have HRES := Lib.hid hres
  clear hres
  go_enter Tryd.func72, Tryd.ntmps72
  go_wp2_with fail
  go_loopg [4] (s.size + 2 - i) (fun k _ wr => ∃ I : Nat, k = s.size + 2 - I ∧ I ≤ s.size + 1 ∧ ScanAt wr b s I d ∧ Keeps (fun k => k = b) w wr ∧ PassAt q s i I)
  case atStart => exact ⟨i, rfl, by omega, h, Keeps.refl _ _, PassAt.start _ _ _⟩
  case round =>
    obtain ⟨I, hgk, hI, hsc, hkp, hpa⟩ := hrel
    have HGK := Lib.hid hgk
    have HSC := Lib.hid hsc
    have HKP := Lib.hid hkp
    have HPA := Lib.hid hpa
    clear hgk hsc hkp hpa h
    by_cases hlt : I < s.size
    · have he : decide (s.size ≤ I) = false := decide_eq_false (by omega)
      have HE := Lib.hid he; clear he
      go_wp2_with fail
      refine (end_any b s I d _ HSC.out).mono ?_
      rintro e w1 ⟨rfl, q1, rfl⟩
      rw [HE.out]
      go_wp2_with fail
      refine (at0_any b s I d _ (HSC.out.drewN _) (by omega) (by omega)).mono ?_
      rintro e w1 ⟨rfl, q2, rfl⟩
      obtain ⟨c0, c1, c2, f1, f2⟩ := HSC.out.cells
      obtain ⟨c, hc⟩ : ∃ c, c = byteAt s I := ⟨_, rfl⟩
      rw [← hc]
      have HC := Lib.hid hc; clear hc
      cases t1 : (c == q)
      · have e1 : ((c.toNat : Int) == (q.toNat : Int)) = false := by rw [u8_eq]; exact t1
        cases t2 : (c == 92 && q == 34)
        · have hn := HPA.out.one hlt (by rw [← HC.out]; exact t1) (by rw [← HC.out]; exact t2)
          have HN := Lib.hid hn; clear hn
          have e2 : ((c.toNat : Int) == 92) = false ∨ ((c.toNat : Int) == 92) = true ∧ ((q.toNat : Int) == 34) = false := by
            have u1 := u8_eq (x := c) (c := 92)
            have u2 := u8_eq (x := q) (c := 34)
            cases v1 : (c == 92)
            · rw [v1] at u1; exact .inl u1
            · rw [v1] at u1 t2
              rw [Bool.true_and] at t2
              rw [t2] at u2
              exact .inr ⟨u1, u2⟩
          clear t1 t2
          rcases e2 with e2 | ⟨e2, e3⟩
          all_goals
            go_wp2_with fail
            obtain ⟨w2, hw2, hs2, hk2⟩ := scan_moved (n := q1 + q2) HSC.out ((I : Int) + 1)
            rw [← hw2]
            go_roundg (s.size + 2 - (I + 1))
            case measure => have := HGK.out; omega
            case rel => exact ⟨I + 1, rfl, by omega, hs2, HKP.out.trans hk2 (fun x _ hx => hx), HN.out⟩
        · have hn := HPA.out.two hlt (by rw [← HC.out]; exact t1) (by rw [← HC.out]; exact t2)
          have HN := Lib.hid hn; clear hn
          have e2 : ((c.toNat : Int) == 92) = true ∧ ((q.toNat : Int) == 34) = true := by
            have u1 := u8_eq (x := c) (c := 92)
            have u2 := u8_eq (x := q) (c := 34)
            cases v1 : (c == 92)
            · rw [v1] at t2; cases t2
            · rw [v1] at u1 t2
              rw [Bool.true_and] at t2
              rw [t2] at u2
              exact ⟨u1, u2⟩
          obtain ⟨e2, e3⟩ := e2
          clear t1 t2
          go_wp2_with fail
          obtain ⟨w2, hw2, hs2, hk2⟩ := scan_moved (n := q1 + q2) HSC.out ((I : Int) + 1)
          rw [← hw2]
          obtain ⟨w3, hw3, hs3, hk3⟩ := scan_moved0 hs2 ((I : Int) + 1 + 1)
          rw [← hw3]
          go_roundg (s.size + 2 - (I + 2))
          case measure => have := HGK.out; omega
          case rel => exact ⟨I + 2, rfl, by omega, hs3, (HKP.out.trans hk2 (fun x _ hx => hx)).trans hk3 (fun x _ hx => hx), HN.out⟩
      · have hr : res = some (I + 1 - i) := by rw [← HRES.out]; exact HPA.out.stop hlt (by rw [← HC.out]; exact t1)
        have HR := Lib.hid hr; clear hr
        have e1 : ((c.toNat : Int) == (q.toNat : Int)) = true := by rw [u8_eq]; exact t1
        clear t1
        go_wp2_with fail
        obtain ⟨w2, hw2, hs2, hk2⟩ := scan_moved (n := q1 + q2) HSC.out ((I : Int) + 1)
        rw [← hw2]
        refine bodyPost_ret (results_none rfl _ _ _) rfl ?_
        show PassPost w b s i d res _ _
        rw [HR.out]
        have := HPA.out.1
        refine ⟨rfl, ?_, HKP.out.trans hk2 (fun x _ hx => hx)⟩
        rw [show i + (I + 1 - i) = I + 1 by omega]
        exact hs2
    · have he : decide (s.size ≤ I) = true := decide_eq_true (by omega)
      have HE := Lib.hid he; clear he
      have hr : res = none := by rw [← HRES.out]; exact HPA.out.over (by omega)
      have HR := Lib.hid hr; clear hr
      go_wp2_with fail
      refine (end_any b s I d _ HSC.out).mono ?_
      rintro e w1 ⟨rfl, q1, rfl⟩
      rw [HE.out]
      go_wp2_with fail
      refine (fail_any 2 _).mono ?_
      rintro e w4 ⟨rfl, rfl⟩
      go_wp2_with fail
      refine ⟨rfl, ?_⟩
      rw [HR.out]
      exact ⟨rfl, HKP.out.drewN _⟩
end Go.Proofs.YtcahifkiiabioaaDoor
namespace Go.Proofs.YtcahifkiiabioaaDoor
open Go.RowKit
set_option linter.unusedVariables false

theorem sub_q1 : ∀ (o : Nat) (l : List UInt8), subF .q1 o l = (passQ 39 false l).bind fun k => (subF .n o (l.drop k)).map (· + k)
  | _, [] => rfl
  | o, c :: t => by
    rw [subF, passQ]
    by_cases h : (c == 39) = true
    · rw [h]; simp
    · have h' : (c == 39) = false := by simpa using h
      rw [h']
      have h2 : (c == 92 && (39 : UInt8) == 34) = false := by rw [show ((39 : UInt8) == 34) = false by decide]; simp
      rw [h2, if_neg (by simp), if_neg (by simp), sub_q1 o t]
      cases passQ 39 false t with
      | none => rfl
      | some k =>
        simp only [Option.bind_some, Option.map_some]
        rw [List.drop_succ_cons]
        cases subF .n o (t.drop k) with
        | none => rfl
        | some m => simp; omega
mutual
theorem sub_q2 : ∀ (o : Nat) (l : List UInt8), subF .q2 o l = (passQ 34 false l).bind fun k => (subF .n o (l.drop k)).map (· + k)
  | _, [] => rfl
  | o, c :: t => by
    rw [subF, passQ]
    by_cases h : (c == 34) = true
    · rw [h]; simp
    · have h' : (c == 34) = false := by simpa using h
      rw [h', show ((34 : UInt8) == 34) = true from rfl, Bool.and_true]
      by_cases h2 : (c == 92) = true
      · rw [h2]
        show (subF .bq o t).map _ = ((passQ 34 true t).map _).bind _
        rw [sub_bq o t]
        cases passQ 34 true t with
        | none => rfl
        | some k =>
          simp only [Option.bind_some, Option.map_some]
          rw [List.drop_succ_cons]
          cases subF .n o (t.drop k) with
          | none => rfl
          | some m => simp; omega
      · have h2' : (c == 92) = false := by simpa using h2
        rw [h2']
        show (subF .q2 o t).map _ = ((passQ 34 false t).map _).bind _
        rw [sub_q2 o t]
        cases passQ 34 false t with
        | none => rfl
        | some k =>
          simp only [Option.bind_some, Option.map_some]
          rw [List.drop_succ_cons]
          cases subF .n o (t.drop k) with
          | none => rfl
          | some m => simp; omega
theorem sub_bq : ∀ (o : Nat) (l : List UInt8), subF .bq o l = (passQ 34 true l).bind fun k => (subF .n o (l.drop k)).map (· + k)
  | _, [] => rfl
  | o, c :: t => by
    rw [subF, passQ, sub_q2 o t]
    cases passQ 34 false t with
    | none => rfl
    | some k =>
      simp only [Option.bind_some, Option.map_some]
      rw [List.drop_succ_cons]
      cases subF .n o (t.drop k) with
      | none => rfl
      | some m => simp; omega
end

/-- How far the script has come. -/
def SubAt (s : ByteArray) (i o I : Nat) : Prop := i ≤ I ∧ subF .n 0 (rest s i) = (subF .n o (rest s I)).map (· + (I - i))
theorem SubAt.start (s : ByteArray) (i : Nat) : SubAt s i 0 i := ⟨Nat.le_refl _, by rw [Nat.sub_self]; cases subF .n 0 (rest s i) <;> rfl⟩
theorem SubAt.on {s : ByteArray} {i o o' I k : Nat} (h : SubAt s i o I) (hs : subF .n o (rest s I) = (subF .n o' (rest s (I + k))).map (· + k)) : SubAt s i o' (I + k) := by
  refine ⟨by have := h.1; omega, ?_⟩
  rw [h.2, hs]
  have := h.1
  cases subF .n o' (rest s (I + k)) with
  | none => rfl
  | some m => simp; omega
theorem SubAt.over {s : ByteArray} {i o I : Nat} (h : SubAt s i o I) (hI : s.size ≤ I) : subF .n 0 (rest s i) = none := by
  rw [h.2, rest_nil hI]; rfl
theorem SubAt.stop {s : ByteArray} {i I : Nat} (h : SubAt s i 0 I) (hI : I < s.size) (hc : byteAt s I = 41) : subF .n 0 (rest s i) = some (I - i) := by
  rw [h.2, rest_cons hI, hc]
  have e : subF .n 0 (41 :: rest s (I + 1)) = some 0 := rfl
  rw [e]
  simp
theorem sub_else {o : Nat} {c : UInt8} {t : List UInt8} (h1 : (c == 39) = false) (h2 : (c == 34) = false) (h3 : (c == 92) = false) (h4 : (c == 40) = false) (h5 : (c == 41) = false) : subF .n o (c :: t) = (subF .n o t).map (· + 1) := by
  rw [subF, h1, h2, h3, h4, h5]; rfl
theorem sub_back {o : Nat} {s : ByteArray} {I : Nat} (hI : I < s.size) (hc : byteAt s I = 92) : subF .n o (rest s I) = (subF .n o (rest s (I + 2))).map (· + 2) := by
  rw [rest_cons hI, hc]
  have e : subF .n o (92 :: rest s (I + 1)) = (subF .bn o (rest s (I + 1))).map (· + 1) := rfl
  rw [e]
  rcases Nat.lt_or_ge (I + 1) s.size with hl | hl
  · rw [rest_cons hl, subF]
    cases subF .n o (rest s (I + 1 + 1)) with
    | none => rfl
    | some k => rfl
  · rw [rest_nil hl, rest_nil (by omega : s.size ≤ I + 2)]; rfl
theorem sub_quote1 {o : Nat} {s : ByteArray} {I : Nat} (hI : I < s.size) (hc : byteAt s I = 39) : subF .n o (rest s I) = (passQ 39 false (rest s (I + 1))).bind fun k => (subF .n o (rest s (I + (k + 1)))).map (· + (k + 1)) := by
  rw [rest_cons hI, hc]
  have e : subF .n o (39 :: rest s (I + 1)) = (subF .q1 o (rest s (I + 1))).map (· + 1) := rfl
  rw [e, sub_q1]
  cases passQ 39 false (rest s (I + 1)) with
  | none => rfl
  | some k =>
    simp only [Option.bind_some]
    rw [rest_drop, show I + 1 + k = I + (k + 1) by omega]
    cases subF .n o (rest s (I + (k + 1))) with
    | none => rfl
    | some m => simp; omega
theorem sub_quote2 {o : Nat} {s : ByteArray} {I : Nat} (hI : I < s.size) (hc : byteAt s I = 34) : subF .n o (rest s I) = (passQ 34 false (rest s (I + 1))).bind fun k => (subF .n o (rest s (I + (k + 1)))).map (· + (k + 1)) := by
  rw [rest_cons hI, hc]
  have e : subF .n o (34 :: rest s (I + 1)) = (subF .q2 o (rest s (I + 1))).map (· + 1) := rfl
  rw [e, sub_q2]
  cases passQ 34 false (rest s (I + 1)) with
  | none => rfl
  | some k =>
    simp only [Option.bind_some]
    rw [rest_drop, show I + 1 + k = I + (k + 1) by omega]
    cases subF .n o (rest s (I + (k + 1))) with
    | none => rfl
    | some m => simp; omega
end Go.Proofs.YtcahifkiiabioaaDoor
namespace Go.Proofs.YtcahifkiiabioaaDoor
open Go.RowKit
set_option linter.unusedVariables false

/-- A byte's tests. -/
theorem test_no {c k : UInt8} (h : c ≠ k) : ((c.toNat : Int) == (k.toNat : Int)) = false := by rw [u8_eq]; exact beq_eq_false_iff_ne.2 h
theorem test_yes {c k : UInt8} (h : c = k) : ((c.toNat : Int) == (k.toNat : Int)) = true := by rw [u8_eq]; exact beq_iff_eq.2 h

theorem passQ_le {q : UInt8} : ∀ {l : List UInt8} {e : Bool} {k : Nat}, passQ q e l = some k → 1 ≤ k ∧ k ≤ l.length
  | [], e, k, h => by cases e <;> cases h
  | c :: t, true, k, h => by
    rw [passQ] at h
    cases h2 : passQ q false t with
    | none => rw [h2] at h; cases h
    | some m =>
      rw [h2] at h
      have := passQ_le h2
      simp at h ⊢; omega
  | c :: t, false, k, h => by
    rw [passQ] at h
    split at h
    · simp at h ⊢; omega
    · cases h2 : passQ q (c == 92 && q == 34) t with
      | none => rw [h2] at h; cases h
      | some m =>
        rw [h2] at h
        have := passQ_le h2
        simp at h ⊢; omega

set_option maxHeartbeats 4000000 in
theorem sub_any (b : Nat) (s : ByteArray) (i : Nat) (d : Int) (w : World) (h : ScanAt w b s i d) (hs : s.size ≤ 140737488351000) (hi : i ≤ s.size) (res : Option Nat) (hres : subF .n 0 (rest s i) = res) :
    Calls Tryd.prog 61 #[.pointer (some ⟨b, 0, none⟩)] w (TextPost w b s i 1 d res) := by
  have HRES := Lib.hid hres
  clear hres
  obtain ⟨c0, c1, c2, f1, f2⟩ := h.cells
  go_enter Tryd.func61, Tryd.ntmps61
  go_wp2_with fail
  go_loopg [4, 5] (s.size + 2 - i) (fun k o _ wr => ∃ n I : Nat, o = .int .i64 n ∧ k = s.size + 2 - I ∧ I ≤ s.size + 1 ∧ ScanAt wr b s I d ∧ Keeps (fun k => k = b) w wr ∧ SubAt s i n I ∧ n ≤ I)
  case atStart => exact ⟨0, i, rfl, rfl, by omega, h, Keeps.refl _ _, SubAt.start _ _, by omega⟩
  case round =>
    obtain ⟨n, I, rfl, hgk, hI, hsc, hkp, hpa, hnI⟩ := hrel
    have HGK := Lib.hid hgk
    have HSC := Lib.hid hsc
    have HKP := Lib.hid hkp
    have HPA := Lib.hid hpa
    clear hgk hsc hkp hpa h c0 c1 c2 f1 f2
    have HiI := Lib.hid HPA.out.1
    by_cases hlt : I < s.size
    · have he : decide (s.size ≤ I) = false := decide_eq_false (by omega)
      have HE := Lib.hid he; clear he
      go_wp2_with fail
      refine (end_any b s I d _ HSC.out).mono ?_
      rintro e w1 ⟨rfl, q1, rfl⟩
      rw [HE.out]
      go_wp2_with fail
      refine (at0_any b s I d _ (HSC.out.drewN _) (by omega) (by omega)).mono ?_
      rintro e w1 ⟨rfl, q2, rfl⟩
      obtain ⟨c0, c1, c2, f1, f2⟩ := HSC.out.cells
      obtain ⟨c, hc⟩ : ∃ c, c = byteAt s I := ⟨_, rfl⟩
      rw [← hc]
      have HC := Lib.hid hc; clear hc
      have hcase : (c = 39 ∨ c = 34) ∨ c = 92 ∨ c = 40 ∨ (c = 41 ∧ n = 0) ∨ (c = 41 ∧ 0 < n) ∨ (c ≠ 39 ∧ c ≠ 34 ∧ c ≠ 92 ∧ c ≠ 40 ∧ c ≠ 41) := by
        by_cases t1 : c = 39; exact .inl (.inl t1)
        by_cases t2 : c = 34; exact .inl (.inr t2)
        by_cases t3 : c = 92; exact .inr (.inl t3)
        by_cases t4 : c = 40; exact .inr (.inr (.inl t4))
        by_cases t5 : c = 41
        · rcases Nat.eq_zero_or_pos n with h0 | h0
          · exact .inr (.inr (.inr (.inl ⟨t5, h0⟩)))
          · exact .inr (.inr (.inr (.inr (.inl ⟨t5, h0⟩))))
        · exact .inr (.inr (.inr (.inr (.inr ⟨t1, t2, t3, t4, t5⟩))))
      rcases hcase with hq0 | t1 | t1 | ⟨t1, h0⟩ | ⟨t1, h0⟩ | ⟨t1, t2, t3, t4, t5⟩
      · have hq : subF .n n (rest s I) = (passQ c false (rest s (I + 1))).bind fun k => (subF .n n (rest s (I + (k + 1)))).map (· + (k + 1)) := by
          rcases hq0 with t1 | t1
          · rw [t1]; exact sub_quote1 hlt (by rw [← HC.out]; exact t1)
          · rw [t1]; exact sub_quote2 hlt (by rw [← HC.out]; exact t1)
        have HQ := Lib.hid hq
        have ht : ((c.toNat : Int) == 39) = true ∨ ((c.toNat : Int) == 39) = false ∧ ((c.toNat : Int) == 34) = true := by
          rcases hq0 with t1 | t1
          · exact .inl (test_yes (c := c) (k := 39) t1)
          · exact .inr ⟨test_no (c := c) (k := 39) (by rw [t1]; decide), test_yes (c := c) (k := 34) t1⟩
        clear hq hq0
        rcases ht with e1 | ⟨e1, e2⟩
        all_goals
          go_wp2_with fail
          obtain ⟨w2, hw2, hs2, hk2⟩ := scan_moved (n := q1 + q2) HSC.out ((I : Int) + 1)
          rw [← hw2]
          have HK2 := Lib.hid hk2; clear hk2 hw2
          refine (pass_any b s (I + 1) d _ c hs2 hs (by omega) (passQ c false (rest s (I + 1))) rfl).mono ?_
          intro e w3 hp
          cases hps : passQ c false (rest s (I + 1)) with
          | none =>
            rw [hps] at hp
            obtain ⟨rfl, hk3⟩ := hp
            have hr : res = none := by
              rw [← HRES.out, HPA.out.2, HQ.out, hps]; rfl
            have HR := Lib.hid hr; have HK3 := Lib.hid hk3; clear hr hk3 hps
            go_wp2_with fail
            refine ⟨rfl, ?_⟩
            rw [HR.out]
            exact ⟨rfl, (HKP.out.trans HK2.out (fun x _ hx => hx)).trans HK3.out (fun x _ hx => hx)⟩
          | some k =>
            rw [hps] at hp
            obtain ⟨rfl, hs3, hk3⟩ := hp
            have hn := HPA.out.on (k := k + 1) (o' := n) (by rw [HQ.out, hps]; rfl)
            have hkl := passQ_le hps
            rw [rest_len] at hkl
            have HN := Lib.hid hn; have HK3 := Lib.hid hk3; have HS3 := Lib.hid hs3; clear hn hk3 hps hs3
            go_wp2_with fail
            go_roundg (s.size + 2 - (I + (k + 1)))
            case measure => have := HGK.out; omega
            case rel => exact ⟨n, I + (k + 1), rfl, rfl, by omega, by have := HS3.out; rw [show I + 1 + k = I + (k + 1) by omega] at this; exact this, (HKP.out.trans HK2.out (fun x _ hx => hx)).trans HK3.out (fun x _ hx => hx), HN.out, by omega⟩
      · have hn := HPA.out.on (k := 2) (o' := n) (sub_back hlt (by rw [← HC.out]; exact t1))
        have HN := Lib.hid hn
        have e1 : ((c.toNat : Int) == 39) = false := test_no (c := c) (k := 39) (by rw [t1]; decide)
        have e2 : ((c.toNat : Int) == 34) = false := test_no (c := c) (k := 34) (by rw [t1]; decide)
        have e3 : ((c.toNat : Int) == 92) = true := test_yes (c := c) (k := 92) t1
        clear t1 hn
        go_wp2_with fail
        obtain ⟨w2, hw2, hs2, hk2⟩ := scan_moved (n := q1 + q2) HSC.out ((I : Int) + 1)
        rw [← hw2]
        obtain ⟨w3, hw3, hs3, hk3⟩ := scan_moved0 hs2 ((I : Int) + 1 + 1)
        rw [← hw3]
        go_roundg (s.size + 2 - (I + 2))
        case measure => have := HGK.out; omega
        case rel => exact ⟨n, I + 2, rfl, rfl, by omega, hs3, (HKP.out.trans hk2 (fun x _ hx => hx)).trans hk3 (fun x _ hx => hx), HN.out, by omega⟩
      · have hn := HPA.out.on (k := 1) (o' := n + 1) (by rw [rest_cons hlt, ← HC.out, t1]; rfl)
        have HN := Lib.hid hn
        have e1 : ((c.toNat : Int) == 39) = false := test_no (c := c) (k := 39) (by rw [t1]; decide)
        have e2 : ((c.toNat : Int) == 34) = false := test_no (c := c) (k := 34) (by rw [t1]; decide)
        have e3 : ((c.toNat : Int) == 92) = false := test_no (c := c) (k := 92) (by rw [t1]; decide)
        have e4 : ((c.toNat : Int) == 40) = true := test_yes (c := c) (k := 40) t1
        clear t1 hn
        go_wp2_with fail
        obtain ⟨w2, hw2, hs2, hk2⟩ := scan_moved (n := q1 + q2) HSC.out ((I : Int) + 1)
        rw [← hw2]
        go_roundg (s.size + 2 - (I + 1))
        case measure => have := HGK.out; omega
        case rel => exact ⟨n + 1, I + 1, by go_num, rfl, by omega, hs2, HKP.out.trans hk2 (fun x _ hx => hx), HN.out, by omega⟩
      · subst h0
        have hr : res = some (I - i) := by rw [← HRES.out]; exact HPA.out.stop hlt (by rw [← HC.out]; exact t1)
        have HR := Lib.hid hr
        have e1 : ((c.toNat : Int) == 39) = false := test_no (c := c) (k := 39) (by rw [t1]; decide)
        have e2 : ((c.toNat : Int) == 34) = false := test_no (c := c) (k := 34) (by rw [t1]; decide)
        have e3 : ((c.toNat : Int) == 92) = false := test_no (c := c) (k := 92) (by rw [t1]; decide)
        have e4 : ((c.toNat : Int) == 40) = false := test_no (c := c) (k := 40) (by rw [t1]; decide)
        have e5 : ((c.toNat : Int) == 41) = true := test_yes (c := c) (k := 41) t1
        have hiI := HiI.out
        have w1e : IntKind.i64.wrap ((I : Int) + 1 - 1) = (I : Int) := by rw [show (I : Int) + 1 - 1 = (I : Int) by omega]; exact IntWalk.i64_in _ (by omega)
        have p1 : (i : Int) ≤ (I : Int) := by omega
        have p2 : (I : Int) ≤ (s.size : Int) := by omega
        clear t1 hr
        go_wp2_with fail
        go_quiet (fail)
        go_wp2_with fail
        obtain ⟨w2, hw2, hs2, hk2⟩ := scan_moved (n := q1 + q2) HSC.out ((I : Int) + 1)
        rw [← hw2]
        go_ret
        show TextPost w b s i 1 d res _ _
        rw [HR.out]
        refine ⟨_, rfl, ?_, ?_, (HKP.out.trans hk2 (fun x _ hx => hx)).drewN _⟩
        · rw [Lib.extract_data]; rfl
        · rw [show i + (I - i + 1) = I + 1 by omega]
          exact hs2.drewN _
      · have hn := HPA.out.on (k := 1) (o' := n - 1) (by
          rw [rest_cons hlt, ← HC.out, t1]
          show (if n = 0 then some 0 else (subF .n (n - 1) (rest s (I + 1))).map (· + 1)) = _
          rw [if_neg (by omega)])
        have HN := Lib.hid hn
        have e1 : ((c.toNat : Int) == 39) = false := test_no (c := c) (k := 39) (by rw [t1]; decide)
        have e2 : ((c.toNat : Int) == 34) = false := test_no (c := c) (k := 34) (by rw [t1]; decide)
        have e3 : ((c.toNat : Int) == 92) = false := test_no (c := c) (k := 92) (by rw [t1]; decide)
        have e4 : ((c.toNat : Int) == 40) = false := test_no (c := c) (k := 40) (by rw [t1]; decide)
        have e5 : ((c.toNat : Int) == 41) = true := test_yes (c := c) (k := 41) t1
        have e6 : ((n : Int) == 0) = false := by rw [beq_eq_false_iff_ne]; omega
        clear t1 hn
        go_wp2_with fail
        obtain ⟨w2, hw2, hs2, hk2⟩ := scan_moved (n := q1 + q2) HSC.out ((I : Int) + 1)
        rw [← hw2]
        go_roundg (s.size + 2 - (I + 1))
        case measure => have := HGK.out; omega
        case rel => exact ⟨n - 1, I + 1, by show Value.int .i64 ((n : Int) - 1) = _; congr 1; omega, rfl, by omega, hs2, HKP.out.trans hk2 (fun x _ hx => hx), HN.out, by omega⟩
      · have hn := HPA.out.on (k := 1) (o' := n) (by
          rw [rest_cons hlt, ← HC.out]
          exact sub_else (beq_eq_false_iff_ne.2 t1) (beq_eq_false_iff_ne.2 t2) (beq_eq_false_iff_ne.2 t3) (beq_eq_false_iff_ne.2 t4) (beq_eq_false_iff_ne.2 t5))
        have HN := Lib.hid hn
        have e1 : ((c.toNat : Int) == 39) = false := test_no (c := c) (k := 39) t1
        have e2 : ((c.toNat : Int) == 34) = false := test_no (c := c) (k := 34) t2
        have e3 : ((c.toNat : Int) == 92) = false := test_no (c := c) (k := 92) t3
        have e4 : ((c.toNat : Int) == 40) = false := test_no (c := c) (k := 40) t4
        have e5 : ((c.toNat : Int) == 41) = false := test_no (c := c) (k := 41) t5
        clear t1 t2 t3 t4 t5 hn
        go_wp2_with fail
        obtain ⟨w2, hw2, hs2, hk2⟩ := scan_moved (n := q1 + q2) HSC.out ((I : Int) + 1)
        rw [← hw2]
        go_roundg (s.size + 2 - (I + 1))
        case measure => have := HGK.out; omega
        case rel => exact ⟨n, I + 1, rfl, rfl, by omega, hs2, HKP.out.trans hk2 (fun x _ hx => hx), HN.out, by omega⟩
    · have he : decide (s.size ≤ I) = true := decide_eq_true (by omega)
      have HE := Lib.hid he; clear he
      have hr : res = none := by rw [← HRES.out]; exact HPA.out.over (by omega)
      have HR := Lib.hid hr; clear hr
      go_wp2_with fail
      refine (end_any b s I d _ HSC.out).mono ?_
      rintro e w1 ⟨rfl, q1, rfl⟩
      rw [HE.out]
      go_wp2_with fail
      refine (fail_any 2 _).mono ?_
      rintro e w4 ⟨rfl, rfl⟩
      go_wp2_with fail
      refine ⟨rfl, ?_⟩
      rw [HR.out]
      exact ⟨rfl, HKP.out.drewN _⟩
end Go.Proofs.YtcahifkiiabioaaDoor
namespace Go.Proofs.YtcahifkiiabioaaDoor
open Go.RowKit
set_option linter.unusedVariables false

/-- What a reader of parts leaves: its parts in the bag, or why not. -/
def ThingPost (w : World) (B cs wb : Nat) (s : ByteArray) (d : Nat) (g : Option Nat) (N : List Pt × Bool) (res : Res) (e : Ending) (w' : World) : Prop :=
  match res with
  | .ok (l, r) => e = .returned (.tuple #[]) ∧ ∃ (i' : Nat) (g' : Option Nat), i' ≤ s.size ∧ rest s i' = r ∧ ScanAt w' cs s i' d ∧ Bag w' B cs wb g' (l.foldl stepN N) (2 * i') ∧ Newer w g g' ∧ Keeps (Fp cs wb g) w w'
  | .error x => e = failed x ∧ Keeps (Fp cs wb g) w w'

/-- The record of a part that is made. -/
def PartAt (w : World) (b : Nat) (p : Pt) (v : Value) : Prop := ∃ T, w.heap[b]? = some (.cells (cellsP p v).toArray T (0, 0))
/-- What braces leaves: the part, or why not. -/
def BracePost (w : World) (cs pb : Nat) (s : ByteArray) (d : Nat) (res : Res) (e : Ending) (w' : World) : Prop :=
  match res with
  | .ok (l, r) => e = .returned (.tuple #[]) ∧ ∃ (i' n : Nat) (x : Pt) (v : Value), i' ≤ s.size ∧ rest s i' = r ∧ l = [x] ∧ x.kind = 3 ∧ x.text = [] ∧ ScanAt w' cs s i' d ∧ PartAt w' pb x v ∧ PtsAt w' (fun b => w.heap.size ≤ b) n x.word v ∧ Keeps (fun b => b = cs ∨ b = pb) w w'
  | .error x => e = failed x ∧ Keeps (fun b => b = cs ∨ b = pb) w w'
/-- What inner leaves: a word, or why not. -/
def InnerPost (w : World) (cs : Nat) (s : ByteArray) (d : Nat) (res : Res) (e : Ending) (w' : World) : Prop :=
  match res with
  | .ok (l, r) => ∃ (i' n : Nat) (v : Value), e = .returned v ∧ i' ≤ s.size ∧ rest s i' = r ∧ ScanAt w' cs s i' d ∧ PtsAt w' (fun b => w.heap.size ≤ b) n (tidyF l) v ∧ Keeps (fun b => b = cs) w w'
  | .error x => e = failed x ∧ Keeps (fun b => b = cs) w w'

/-- What holds at each fuel. -/
structure Does (n : Nat) : Prop where
  out : ∀ (B cs wb : Nat) (s : ByteArray) (i d : Nat) (g : Option Nat) (N : List Pt × Bool) (w : World), ScanAt w cs s i d → i < s.size → d ≤ 40 → s.size ≤ 20000 → Bag w B cs wb g N (2 * i) → 2 * (s.size - i) ≤ n →
    Calls Tryd.prog 37 #[.pointer (some ⟨cs, 0, none⟩), .pointer (some ⟨wb, 0, none⟩)] w (ThingPost w B cs wb s d g N (lexD n (.one false) d (rest s i)))
  inn : ∀ (B cs wb : Nat) (s : ByteArray) (i d : Nat) (g : Option Nat) (N : List Pt × Bool) (w : World), ScanAt w cs s i d → i < s.size → byteAt s i ≠ 34 → d ≤ 40 → s.size ≤ 20000 → Bag w B cs wb g N (2 * i) → 2 * (s.size - i) ≤ n →
    Calls Tryd.prog 58 #[.pointer (some ⟨cs, 0, none⟩), .pointer (some ⟨wb, 0, none⟩)] w (ThingPost w B cs wb s d g N (lexD n (.one true) d (rest s i)))
  dq : ∀ (B cs wb : Nat) (s : ByteArray) (i d m : Nat) (g : Option Nat) (N : List Pt × Bool) (w : World), ScanAt w cs s i d → i ≤ s.size → d ≤ 40 → s.size ≤ 20000 → Bag w B cs wb g N m → m + 1 ≤ 2 * i → 2 * (s.size - i) + 1 ≤ n →
    Calls Tryd.prog 49 #[.pointer (some ⟨cs, 0, none⟩), .pointer (some ⟨wb, 0, none⟩)] w (ThingPost w B cs wb s d g N ((lexD n .dq d (rest s i)).ahead [quoP []]))
  dol : ∀ (q : Bool) (B cs wb : Nat) (s : ByteArray) (i d m : Nat) (g : Option Nat) (N : List Pt × Bool) (w : World), ScanAt w cs s i d → i ≤ s.size → d ≤ 40 → s.size ≤ 20000 → Bag w B cs wb g N m → m + 2 ≤ 2 * i → 2 * (s.size - i) + 1 ≤ n →
    Calls Tryd.prog 50 #[.pointer (some ⟨cs, 0, none⟩), .pointer (some ⟨wb, 0, none⟩), .bool q] w (ThingPost w B cs wb s d g N (lexD n (.dol q) d (rest s i)))
  brace : ∀ (q : Bool) (cs pb : Nat) (s : ByteArray) (i d : Nat) (w : World), ScanAt w cs s i d → i ≤ s.size → d ≤ 40 → s.size ≤ 20000 → cs ≠ pb → PartAt w pb (.mk 0 [] [] [] [] q) (.slice none 0 0) → 2 * (s.size - i) + 1 ≤ n →
    Calls Tryd.prog 59 #[.pointer (some ⟨cs, 0, none⟩), .pointer (some ⟨pb, 0, none⟩)] w (BracePost w cs pb s d (lexD n (.brace q) d (rest s i)))
  br : ∀ (q : Bool) (cs : Nat) (s : ByteArray) (i d : Nat) (w : World), ScanAt w cs s i d → i ≤ s.size → d ≤ 40 → s.size ≤ 20000 → 2 * (s.size - i) + 1 ≤ n →
    Calls Tryd.prog 71 #[.pointer (some ⟨cs, 0, none⟩), .bool q] w (InnerPost w cs s d (lexD n (.br q) d (rest s i)))

theorem Bag.le {w : World} {B cs wb : Nat} {g : Option Nat} {N : List Pt × Bool} {m : Nat} (h : Bag w B cs wb g N m) : cs < B ∧ B ≤ wb ∧ wb < w.heap.size := by
  have hl := h.wlt
  obtain ⟨v, raw, _, _, _, _, _, h3, _⟩ := h
  exact ⟨h3.1, h3.2, hl⟩

theorem FailPost.thing {w w1 : World} {B cs wb : Nat} {s : ByteArray} {d : Nat} {g : Option Nat} {N : List Pt × Bool} {x : Nat} {e : Ending} {w' : World} (he : e = failed x) (h1 : Keeps (fun b => b = cs) w w1) (h2 : Keeps (fun b => b = cs) w1 w') : ThingPost w B cs wb s d g N (.error x) e w' :=
  ⟨he, (h1.trans h2 (fun _ _ h => h)).mono fun _ _ h => .inl h⟩

/-- A put behind a move of the scanner. -/
theorem PutPost.thing {w w1 : World} {B cs wb i : Nat} {s : ByteArray} {d : Nat} {g : Option Nat} {N N' : List Pt × Bool} {m : Nat} {l : List Pt} {r : List UInt8} {e : Ending} {w' : World} (h : PutPost w1 B cs wb g N' m e w') (hs : ScanAt w1 cs s i d) (hcs : cs ≠ wb) (hg : g ≠ some cs) (h1 : Keeps (fun b => b = cs) w w1)
    (hi : i ≤ s.size) (hr : rest s i = r) (hN : l.foldl stepN N = N') (hm : m ≤ 2 * i) : True := trivial
end Go.Proofs.YtcahifkiiabioaaDoor
namespace Go.Proofs.YtcahifkiiabioaaDoor
open Go.RowKit
set_option linter.unusedVariables false

theorem lexD_out (m d : Nat) (c : UInt8) (t : List UInt8) : lexD (m + 1) (.one false) d (c :: t) =
    if c == 39 then (match untilF 39 t with
      | none => .error 2
      | some k => .ok ([quoP (t.take k)], t.drop (k + 1)))
    else if c == 34 then (lexD m .dq d t).ahead [quoP []]
    else if c == 92 then (match t with
      | [] => .ok ([quoP [92]], [])
      | x :: t' => if x == 10 then .ok ([], t') else .ok ([quoP [x]], t'))
    else if c == 96 then .error 2
    else if c == 36 then lexD m (.dol false) d t
    else .ok ([txtP [c]], t) := rfl
theorem lexD_inn (m d : Nat) (c : UInt8) (t : List UInt8) : lexD (m + 1) (.one true) d (c :: t) =
    if c == 34 || c == 96 then .error 2
    else if c == 92 && headIs 10 t then .ok ([], t.tail)
    else if c == 92 && escB (t.headD 0) then .ok ([quoP [t.headD 0]], t.tail)
    else if c == 36 then lexD m (.dol true) d t
    else .ok ([quoP [c]], t) := rfl

theorem conv_one (W : World) (H : Nat) (x : UInt8) (hH : W.heap.size = H) : (convert 94 9 (.slice (some ⟨H, 0, none⟩) 1 1)).run Tryd.prog (W.alloc (.cells #[.int .u8 (x.toNat : Nat)] 5)) = .ok (.string ⟨#[x]⟩) (W.alloc (.cells #[.int .u8 (x.toNat : Nat)] 5)) := by
  subst hH
  refine run_convert_bytes_back _ _ _ 5 _ 1 [x] Tryd.underlying94 Tryd.underlying5 Tryd.underlying9 (fun j hj => ?_)
  obtain rfl : j = 0 := by simp at hj; omega
  have hb := heap_alloc_new W (.cells #[.int .u8 (x.toNat : Nat)] 5)
  have : (⟨W.heap.size, 0, none⟩ : Addr).add 0 = ⟨W.heap.size, 0, none⟩ := rfl
  rw [this, cell_of_row _ _ 0 _ _ _ hb]
  rfl
/-- Behind one byte: the world, the scanner, the bag. -/
theorem step_one {w : World} {B cs wb i : Nat} {s : ByteArray} {d : Int} {g : Option Nat} {N : List Pt × Bool} {m n : Nat} (h : ScanAt w cs s i d) (hb : Bag w B cs wb g N m) (j : Int) : ∃ w1, w1 = (w.drewN n).setCell ⟨cs, 1, none⟩ (.int .i64 j) ∧ ScanAt w1 cs s j d ∧ Bag w1 B cs wb g N m ∧ Keeps (fun b => b = cs) w w1 := by
  obtain ⟨w1, hw, hs, hk⟩ := scan_moved (n := n) h j
  exact ⟨w1, hw, hs, hb.keep hk (fun _ _ e => e), hk⟩
/-- A put behind a move of the scanner: what stands then. -/
theorem put_then {w w1 w2 : World} {B cs wb : Nat} {s : ByteArray} {i : Nat} {d : Nat} {g : Option Nat} {N N' : List Pt × Bool} {m m' : Nat} {e : Ending} (h : PutPost w1 B cs wb g N' m e w2) (hs : ScanAt w1 cs s i d) (hb : Bag w1 B cs wb g N m') (h1 : Keeps (fun b => b = cs) w w1) :
    e = .returned (.tuple #[]) ∧ ∃ g', ScanAt w2 cs s i d ∧ Bag w2 B cs wb g' N' m ∧ Newer w g g' ∧ Keeps (Fp cs wb g) w w2 := by
  obtain ⟨he, g', hb2, hn, hk⟩ := h
  have hl := hb.le
  obtain ⟨_, _, _, _, _, _, hgc, _⟩ := hb
  have hsz := h1.size
  refine ⟨he, g', hs.keep hk (fun s => by rcases s with s | s; omega; exact hgc s), hb2, ?_, ?_⟩
  · rcases hn with rfl | ⟨x, e1, hx⟩
    · exact .inl rfl
    · exact .inr ⟨x, e1, by omega⟩
  · exact (h1.mono (T := Fp cs wb g) fun _ _ e => .inl e).trans hk fun x _ e => .inr e

/-- .. and the thing is done. -/
theorem thing_put {w w1 w2 : World} {B cs wb : Nat} {s : ByteArray} {i : Nat} {d : Nat} {g : Option Nat} {N N' : List Pt × Bool} {m : Nat} {e : Ending} {l : List Pt} {r : List UInt8} (h : PutPost w1 B cs wb g N' m e w2) (hs : ScanAt w1 cs s i d) {m' : Nat} (hb : Bag w1 B cs wb g N m') (h1 : Keeps (fun b => b = cs) w w1)
    (hi : i ≤ s.size) (hr : rest s i = r) (hN : l.foldl stepN N = N') (hm : m ≤ 2 * i) : ThingPost w B cs wb s d g N (.ok (l, r)) e w2 := by
  obtain ⟨he, g', h2, h3, h4, h5⟩ := put_then h hs hb h1
  exact ⟨he, i, g', hi, hr, h2, by rw [hN]; exact h3.mono hm, h4, h5⟩
/-- What stands behind a move of the scanner stands from before it. -/
theorem thing_from {w w1 w2 : World} {B cs wb : Nat} {s : ByteArray} {d : Nat} {g : Option Nat} {N : List Pt × Bool} {res : Res} {e : Ending} (h : ThingPost w1 B cs wb s d g N res e w2) (h1 : Keeps (fun b => b = cs) w w1) : ThingPost w B cs wb s d g N res e w2 := by
  cases res with
  | error x => exact ⟨h.1, (h1.mono (T := Fp cs wb g) fun _ _ e => .inl e).trans h.2 fun _ _ e => e⟩
  | ok lr =>
    obtain ⟨he, i', g', a1, a2, a3, a4, a5, a6⟩ := h
    have hsz := h1.size
    refine ⟨he, i', g', a1, a2, a3, a4, ?_, (h1.mono (T := Fp cs wb g) fun _ _ e => .inl e).trans a6 fun _ _ e => e⟩
    rcases a5 with rfl | ⟨x, e1, hx⟩
    · exact .inl rfl
    · exact .inr ⟨x, e1, by omega⟩
/-- Nothing is put. -/
theorem thing_none {w w1 : World} {B cs wb : Nat} {s : ByteArray} {i : Nat} {d : Nat} {g : Option Nat} {N : List Pt × Bool} {m : Nat} {r : List UInt8} (hs : ScanAt w1 cs s i d) (hb : Bag w1 B cs wb g N m) (h1 : Keeps (fun b => b = cs) w w1)
    (hi : i ≤ s.size) (hr : rest s i = r) (hm : m ≤ 2 * i) : ThingPost w B cs wb s d g N (.ok ([], r)) (.returned (.tuple #[])) w1 :=
  ⟨rfl, i, g, hi, hr, hs, hb.mono hm, .inl rfl, h1.mono fun _ _ e => .inl e⟩
/-- A move behind a put. -/
theorem thing_move {w w2 w3 : World} {B cs wb : Nat} {s : ByteArray} {j : Nat} {d : Nat} {g g' : Option Nat} {N N' : List Pt × Bool} {m : Nat} {l : List Pt} {r : List UInt8} (hb : Bag w2 B cs wb g' N' m) (hn : Newer w g g') (hk : Keeps (Fp cs wb g) w w2) (hs3 : ScanAt w3 cs s j d) (hk3 : Keeps (fun b => b = cs) w2 w3)
    (hi : j ≤ s.size) (hr : rest s j = r) (hN : l.foldl stepN N = N') (hm : m ≤ 2 * j) : ThingPost w B cs wb s d g N (.ok (l, r)) (.returned (.tuple #[])) w3 :=
  ⟨rfl, j, g', hi, hr, hs3, by rw [hN]; exact (hb.keep hk3 (fun _ _ e => e)).mono hm, hn, hk.trans hk3 fun _ _ e => .inl e⟩

set_option maxRecDepth 100000 in
set_option maxHeartbeats 4000000 in
theorem out_step (n : Nat) (IH : ∀ m, m < n → Does m) (B cs wb : Nat) (s : ByteArray) (i d : Nat) (g : Option Nat) (N : List Pt × Bool) (w : World) (hsc : ScanAt w cs s i d) (hi : i < s.size) (hd : d ≤ 40) (hs : s.size ≤ 20000) (hb : Bag w B cs wb g N (2 * i)) (hn : 2 * (s.size - i) ≤ n) :
    Calls Tryd.prog 37 #[.pointer (some ⟨cs, 0, none⟩), .pointer (some ⟨wb, 0, none⟩)] w (ThingPost w B cs wb s d g N (lexD n (.one false) d (rest s i))) := by
  obtain ⟨m, rfl⟩ : ∃ m, n = m + 1 := ⟨n - 1, by omega⟩
  have hD := IH m (by omega)
  clear IH
  rw [rest_cons hi]
  obtain ⟨c, hc⟩ : ∃ c, c = byteAt s i := ⟨_, rfl⟩
  rw [← hc]
  obtain ⟨res, hres⟩ : ∃ res, res = lexD (m + 1) (.one false) d (c :: rest s (i + 1)) := ⟨_, rfl⟩
  rw [← hres]
  rw [lexD_out] at hres
  have HC := Lib.hid hc
  have HD := Lib.hid hD
  have HB := Lib.hid hb
  obtain ⟨c0, c1, c2, f1, f2⟩ := hsc.cells
  have HSC := Lib.hid hsc
  clear hc hD hb hsc
  have hi1 : i + 1 ≤ s.size := hi
  by_cases t : c = 39
  · have e1 : ((c.toNat : Int) == 39) = true := test_yes (c := c) (k := 39) t
    rw [if_pos (beq_iff_eq.2 t)] at hres
    clear t
    cases hu : untilF 39 (rest s (i + 1)) with
    | none =>
      rw [hu] at hres
      dsimp only at hres
      have HRES := Lib.hid hres; clear hres
      have HU := Lib.hid hu; clear hu
      go_enter Tryd.func37, Tryd.ntmps37
      go_wp2_with fail
      refine (at0_any cs s i d _ HSC.out (by omega) (by omega)).mono ?_
      rintro e w1 ⟨rfl, q, rfl⟩
      rw [← HC.out]
      go_wp2_with fail
      obtain ⟨w1, hw1, hs1, hb1, hk1⟩ := step_one (n := q) HSC.out HB.out ((i : Int) + 1)
      rw [← hw1]
      have HK1 := Lib.hid hk1
      have HB1 := Lib.hid hb1
      have HS1 := Lib.hid hs1
      clear hk1 hw1 hb1 hs1
      refine (single_no cs s (i + 1) d _ HS1.out (by omega) hi1 HU.out).mono ?_
      rintro e w2 ⟨rfl, hk2⟩
      have HK2 := Lib.hid hk2
      clear hk2
      go_wp2_with fail
      refine ⟨rfl, ?_⟩
      rw [HRES.out]
      exact ⟨rfl, (HK1.out.trans HK2.out (fun _ _ h => h)).mono fun _ _ h => .inl h⟩
    | some k =>
      have hk := (untilF_some hu).2
      rw [rest_len] at hk
      rw [hu] at hres
      dsimp only at hres
      rw [rest_drop] at hres
      have HRES := Lib.hid hres; clear hres
      have HU := Lib.hid hu; clear hu
      go_enter Tryd.func37, Tryd.ntmps37
      go_wp2_with fail
      refine (at0_any cs s i d _ HSC.out (by omega) (by omega)).mono ?_
      rintro e w1 ⟨rfl, q, rfl⟩
      rw [← HC.out]
      go_wp2_with fail
      obtain ⟨w1, hw1, hs1, hb1, hk1⟩ := step_one (n := q) HSC.out HB.out ((i : Int) + 1)
      rw [← hw1]
      have HK1 := Lib.hid hk1
      have HB1 := Lib.hid hb1
      have HS1 := Lib.hid hs1
      clear hk1 hw1 hb1 hs1
      refine (single_yes cs s (i + 1) k d _ HS1.out (by omega) hi1 HU.out).mono ?_
      rintro e w2 ⟨r, rfl, hr, hs2, hk2⟩
      have HR := Lib.hid hr
      have HS2 := Lib.hid hs2
      have HB2 := Lib.hid (HB1.out.keep hk2 (fun _ _ e => e))
      have HK2 := Lib.hid (HK1.out.trans hk2 (fun _ _ h => h))
      have hrs : r.size = k := by rw [Lib.size_eq, hr, List.length_take, rest_len]; omega
      have HRS := Lib.hid hrs
      clear hr hs2 hk2 hrs
      go_wp2_with fail
      refine (put2_any B cs wb g N (2 * i) r _ HB2.out (by omega) (HS2.out.lt)).mono ?_
      intro e w3 hp
      have hfin := thing_put (d := d) (r := rest s (i + 1 + (k + 1))) (l := [quoP ((rest s (i + 1)).take k)]) hp HS2.out HB2.out HK2.out (by omega) (by rfl) (by rw [HR.out]; rfl) (by have := HRS.out; omega)
      have he := hp.1
      subst he
      have HF := Lib.hid hfin
      clear hp hfin
      go_wp2_with fail
      go_end0
      rw [HRES.out]
      exact HF.out
  · have e1 : ((c.toNat : Int) == 39) = false := test_no (c := c) (k := 39) t
    rw [if_neg (fun h => t (beq_iff_eq.1 h))] at hres
    clear t
    by_cases t : c = 34
    · have e2 : ((c.toNat : Int) == 34) = true := test_yes (c := c) (k := 34) t
      rw [if_pos (beq_iff_eq.2 t)] at hres
      clear t
      have HRES := Lib.hid hres; clear hres
      go_enter Tryd.func37, Tryd.ntmps37
      go_wp2_with fail
      refine (at0_any cs s i d _ HSC.out (by omega) (by omega)).mono ?_
      rintro e w1 ⟨rfl, q, rfl⟩
      rw [← HC.out]
      go_wp2_with fail
      obtain ⟨w1, hw1, hs1, hb1, hk1⟩ := step_one (n := q) HSC.out HB.out ((i : Int) + 1)
      rw [← hw1]
      have HK1 := Lib.hid hk1
      have HB1 := Lib.hid hb1
      have HS1 := Lib.hid hs1
      clear hk1 hw1 hb1 hs1
      refine (HD.out.dq B cs wb s (i + 1) d (2 * i) g N w1 HS1.out hi1 hd hs HB1.out (by omega) (by omega)).mono ?_
      intro e w2 hp
      have hfin := thing_from hp HK1.out
      cases hres2 : (lexD m .dq d (rest s (i + 1))).ahead [quoP []] with
      | error x =>
        rw [hres2] at hp hfin
        have hr2 := HRES.out.trans hres2
        have HR2 := Lib.hid hr2
        have he := hp.1
        subst he
        have HF := Lib.hid hfin
        clear hp hfin hres2 hr2
        go_wp2_with fail
        refine ⟨rfl, ?_⟩
        rw [HR2.out]
        exact HF.out
      | ok lr =>
        obtain ⟨l, r⟩ := lr
        rw [hres2] at hp hfin
        have hr2 := HRES.out.trans hres2
        have HR2 := Lib.hid hr2
        have he := hp.1
        subst he
        have HF := Lib.hid hfin
        clear hp hfin hres2 hr2
        go_wp2_with fail
        go_end0
        rw [HR2.out]
        exact HF.out
    · have e2 : ((c.toNat : Int) == 34) = false := test_no (c := c) (k := 34) t
      rw [if_neg (fun h => t (beq_iff_eq.1 h))] at hres
      clear t
      by_cases t : c = 92
      · have e3 : ((c.toNat : Int) == 92) = true := test_yes (c := c) (k := 92) t
        rw [if_pos (beq_iff_eq.2 t)] at hres
        clear t
        rcases Nat.lt_or_ge (i + 1) s.size with hlt | hge
        · rw [rest_cons hlt] at hres
          dsimp only at hres
          obtain ⟨x, hx⟩ : ∃ x, x = byteAt s (i + 1) := ⟨_, rfl⟩
          rw [← hx] at hres
          by_cases t10 : x = 10
          · rw [if_pos (beq_iff_eq.2 t10)] at hres
            have hh : headIs 10 (rest s (i + 1)) = true := by rw [rest_cons hlt, ← hx, t10]; rfl
            have HH := Lib.hid hh
            clear t10 hh hx
            have HRES := Lib.hid hres; clear hres
            go_enter Tryd.func37, Tryd.ntmps37
            go_wp2_with fail
            refine (at0_any cs s i d _ HSC.out (by omega) (by omega)).mono ?_
            rintro e w1 ⟨rfl, q, rfl⟩
            rw [← HC.out]
            go_wp2_with fail
            obtain ⟨w1, hw1, hs1, hb1, hk1⟩ := step_one (n := q) HSC.out HB.out ((i : Int) + 1)
            rw [← hw1]
            have HK1 := Lib.hid hk1
            have HB1 := Lib.hid hb1
            have HS1 := Lib.hid hs1
            clear hk1 hw1 hb1 hs1
            refine (is_yes cs s ⟨#[10]⟩ (i + 1) d _ HS1.out (by omega) hi1 (by decide) (by rw [hasPrefix_starts, starts_one]; exact HH.out)).mono ?_
            rintro e w2 ⟨rfl, hs2, hk2⟩
            have HS2 := Lib.hid hs2
            have HB2 := Lib.hid (HB1.out.keep hk2 (fun _ _ e => e))
            have HK2 := Lib.hid (HK1.out.trans hk2 (fun _ _ h => h))
            clear hs2 hk2
            go_wp2_with fail
            go_end0
            rw [HRES.out]
            exact thing_none (i := i + 1 + 1) HS2.out HB2.out HK2.out (by omega) rfl (by omega)
          · rw [if_neg (fun h => t10 (beq_iff_eq.1 h))] at hres
            have hh : headIs 10 (rest s (i + 1)) = false := by
              rw [rest_cons hlt, ← hx]
              exact beq_eq_false_iff_ne.2 t10
            have he : decide (s.size ≤ i + 1) = false := decide_eq_false (by omega)
            have HE := Lib.hid he
            have HH := Lib.hid hh
            have HX := Lib.hid hx
            clear t10 hh hx he
            have HRES := Lib.hid hres; clear hres
            go_enter Tryd.func37, Tryd.ntmps37
            go_wp2_with fail
            refine (at0_any cs s i d _ HSC.out (by omega) (by omega)).mono ?_
            rintro e w1 ⟨rfl, q, rfl⟩
            rw [← HC.out]
            go_wp2_with fail
            obtain ⟨w1, hw1, hs1, hb1, hk1⟩ := step_one (n := q) HSC.out HB.out ((i : Int) + 1)
            rw [← hw1]
            have HK1 := Lib.hid hk1
            have HB1 := Lib.hid hb1
            have HS1 := Lib.hid hs1
            clear hk1 hw1 hb1 hs1
            refine (is_no cs s ⟨#[10]⟩ (i + 1) d _ HS1.out hi1 (by rw [hasPrefix_starts, starts_one]; exact HH.out)).mono ?_
            rintro e w2 ⟨rfl, q2, rfl⟩
            go_wp2_with fail
            refine (end_any cs s (i + 1) d _ (HS1.out.drewN _)).mono ?_
            rintro e w2 ⟨rfl, q3, rfl⟩
            rw [HE.out]
            have w1e : IntKind.i64.wrap ((i : Int) + 1 + 1) = (i : Int) + 1 + 1 := IntWalk.i64_in _ (by omega)
            have p1 : 0 ≤ (i : Int) + 1 := by omega
            have p2 : (i : Int) + 1 ≤ (i : Int) + 1 + 1 := by omega
            have p3 : (i : Int) + 1 + 1 ≤ (s.size : Int) := by omega
            have p4 : ((i : Int) + 1).toNat = i + 1 := by omega
            have p5 : ((i : Int) + 1 + 1).toNat = i + 1 + 1 := by omega
            clear c0 c1 c2 f1 f2
            go_wp2_with fail
            have hs2 : ScanAt (w1.drewN (q2 + q3)) cs s ((i : Int) + 1) d := HS1.out.drewN _
            have hkk : Keeps (fun b => b = cs) w1 (w1.drewN (q2 + q3)) := (Keeps.refl _ _).drewN _
            have hb2 := HB1.out.keep hkk (fun _ _ e => e)
            have hk2 := HK1.out.trans hkk (fun _ _ h => h)
            obtain ⟨W, hW⟩ : ∃ W, W = w1.drewN (q2 + q3) := ⟨_, rfl⟩
            rw [← hW] at hs2 hb2 hk2
            rw [← hW]
            have HB2 := Lib.hid hb2; have HK2 := Lib.hid hk2
            clear hW hkk hb2 hk2
            have HS2 := Lib.hid hs2
            obtain ⟨d0, d1, d2, df1, df2⟩ := hs2.cells
            clear hs2
            refine wp_region_still_tail 15 (by kernel_rfl) (by kernel_rfl) ?_
            simp only [List.take_succ_cons, List.take_zero, List.drop_succ_cons, List.drop_zero]
            change wpStill _ _ W.drew _ _ _
            repeat still_step
            refine wpStill_nil ?_
            change wpList _ _ _ _ _ W.drew
            go_wp2_with fail
            obtain ⟨R, hR⟩ : ∃ R, R = s.extract (i + 1) (i + 1 + 1) := ⟨_, rfl⟩
            rw [← hR]
            have hRd : R.data.toList = [x] := by
              rw [hR, Lib.extract_data, show i + 1 + 1 - (i + 1) = 1 by omega]
              show (rest s (i + 1)).take 1 = _
              rw [rest_cons hlt, ← HX.out]; rfl
            have hRs : R.size = 1 := by rw [Lib.size_eq, hRd]; rfl
            have HR := Lib.hid hRd
            clear hR hRd
            have hb3 := HB2.out.keep ((Keeps.refl (fun b => b = cs) W).drewN 1) (fun _ _ e => e)
            have hs3 := HS2.out.drewN 1
            have hk3 := HK2.out.drewN 1
            refine (put2_any B cs wb g N (2 * i) R _ hb3 (by omega) hs3.lt).mono ?_
            intro e w3 hp
            obtain ⟨he, g', hs4, hb4, hn4, hk4⟩ := put_then (d := d) (i := i + 1) hp hs3 hb3 hk3
            subst he
            have HB4 := Lib.hid hb4; have HN4 := Lib.hid hn4; have HK4 := Lib.hid hk4; have HS4 := Lib.hid hs4
            obtain ⟨c0, c1, c2, f1, f2⟩ := hs4.cells
            have HRS := Lib.hid hRs
            clear hp hb3 hs3 hk3 hb4 hn4 hk4 hs4 hRs
            go_wp2_with fail
            go_end0
            rw [HRES.out]
            refine thing_move (j := i + 1 + 1) HB4.out HN4.out HK4.out (scan_end HS4.out 0 (by omega)) (keep_end0 _ _ _ _) (by omega) rfl (by rw [HR.out]; rfl) (by have := HRS.out; omega)
        · rw [rest_nil hge] at hres
          dsimp only at hres
          have hh : headIs 10 (rest s (i + 1)) = false := by rw [rest_nil hge]; rfl
          have he : decide (s.size ≤ i + 1) = true := decide_eq_true hge
          have HE := Lib.hid he
          have HH := Lib.hid hh
          clear hh he
          have HRES := Lib.hid hres; clear hres
          go_enter Tryd.func37, Tryd.ntmps37
          go_wp2_with fail
          refine (at0_any cs s i d _ HSC.out (by omega) (by omega)).mono ?_
          rintro e w1 ⟨rfl, q, rfl⟩
          rw [← HC.out]
          go_wp2_with fail
          obtain ⟨w1, hw1, hs1, hb1, hk1⟩ := step_one (n := q) HSC.out HB.out ((i : Int) + 1)
          rw [← hw1]
          have HK1 := Lib.hid hk1
          have HB1 := Lib.hid hb1
          have HS1 := Lib.hid hs1
          clear hk1 hw1 hb1 hs1
          refine (is_no cs s ⟨#[10]⟩ (i + 1) d _ HS1.out hi1 (by rw [hasPrefix_starts, starts_one]; exact HH.out)).mono ?_
          rintro e w2 ⟨rfl, q2, rfl⟩
          go_wp2_with fail
          refine (end_any cs s (i + 1) d _ (HS1.out.drewN _)).mono ?_
          rintro e w2 ⟨rfl, q3, rfl⟩
          rw [HE.out]
          have HS2 := Lib.hid (HS1.out.drewN (q2 + q3))
          have hkk : Keeps (fun b => b = cs) w1 (w1.drewN (q2 + q3)) := (Keeps.refl _ _).drewN _
          have HB2 := Lib.hid (HB1.out.keep hkk (fun _ _ e => e))
          have HK2 := Lib.hid (HK1.out.trans hkk (fun _ _ h => h))
          clear hkk
          go_wp2_with fail
          refine (put2_any B cs wb g N (2 * i) ⟨#[92]⟩ _ HB2.out (by omega) (HS2.out.lt)).mono ?_
          intro e w3 hp
          have hfin := thing_put (d := d) (i := i + 1) (r := []) (l := [quoP [92]]) hp HS2.out HB2.out HK2.out hi1 (rest_nil hge) rfl (by show 2 * i + 1 + 1 ≤ _; omega)
          have he := hp.1
          subst he
          have HF := Lib.hid hfin
          clear hp hfin
          go_wp2_with fail
          go_end0
          rw [HRES.out]
          exact HF.out
      · have e3 : ((c.toNat : Int) == 92) = false := test_no (c := c) (k := 92) t
        rw [if_neg (fun h => t (beq_iff_eq.1 h))] at hres
        clear t
        by_cases t : c = 96
        · have e4 : ((c.toNat : Int) == 96) = true := test_yes (c := c) (k := 96) t
          rw [if_pos (beq_iff_eq.2 t)] at hres
          clear t
          have HRES := Lib.hid hres; clear hres
          go_enter Tryd.func37, Tryd.ntmps37
          go_wp2_with fail
          refine (at0_any cs s i d _ HSC.out (by omega) (by omega)).mono ?_
          rintro e w1 ⟨rfl, q, rfl⟩
          rw [← HC.out]
          go_wp2_with fail
          obtain ⟨w1, hw1, hs1, hb1, hk1⟩ := step_one (n := q) HSC.out HB.out ((i : Int) + 1)
          rw [← hw1]
          have HK1 := Lib.hid hk1
          have HB1 := Lib.hid hb1
          have HS1 := Lib.hid hs1
          clear hk1 hw1 hb1 hs1
          refine (fail_any 2 _).mono ?_
          rintro e w2 ⟨rfl, rfl⟩
          go_wp2_with fail
          refine ⟨rfl, ?_⟩
          rw [HRES.out]
          exact ⟨rfl, HK1.out.mono fun _ _ h => .inl h⟩
        · have e4 : ((c.toNat : Int) == 96) = false := test_no (c := c) (k := 96) t
          rw [if_neg (fun h => t (beq_iff_eq.1 h))] at hres
          clear t
          by_cases t : c = 36
          · have e5 : ((c.toNat : Int) == 36) = true := test_yes (c := c) (k := 36) t
            rw [if_pos (beq_iff_eq.2 t)] at hres
            clear t
            have HRES := Lib.hid hres; clear hres
            go_enter Tryd.func37, Tryd.ntmps37
            go_wp2_with fail
            refine (at0_any cs s i d _ HSC.out (by omega) (by omega)).mono ?_
            rintro e w1 ⟨rfl, q, rfl⟩
            rw [← HC.out]
            go_wp2_with fail
            obtain ⟨w1, hw1, hs1, hb1, hk1⟩ := step_one (n := q) HSC.out HB.out ((i : Int) + 1)
            rw [← hw1]
            have HK1 := Lib.hid hk1
            have HB1 := Lib.hid hb1
            have HS1 := Lib.hid hs1
            clear hk1 hw1 hb1 hs1
            refine (HD.out.dol false B cs wb s (i + 1) d (2 * i) g N w1 HS1.out hi1 hd hs HB1.out (by omega) (by omega)).mono ?_
            intro e w2 hp
            have hfin := thing_from hp HK1.out
            cases hres2 : lexD m (.dol false) d (rest s (i + 1)) with
            | error x =>
              rw [hres2] at hp hfin
              have hr2 := HRES.out.trans hres2
              have HR2 := Lib.hid hr2
              have he := hp.1
              subst he
              have HF := Lib.hid hfin
              clear hp hfin hres2 hr2
              go_wp2_with fail
              refine ⟨rfl, ?_⟩
              rw [HR2.out]
              exact HF.out
            | ok lr =>
              obtain ⟨l, r⟩ := lr
              rw [hres2] at hp hfin
              have hr2 := HRES.out.trans hres2
              have HR2 := Lib.hid hr2
              have he := hp.1
              subst he
              have HF := Lib.hid hfin
              clear hp hfin hres2 hr2
              go_wp2_with fail
              go_end0
              rw [HR2.out]
              exact HF.out
          · have e5 : ((c.toNat : Int) == 36) = false := test_no (c := c) (k := 36) t
            rw [if_neg (fun h => t (beq_iff_eq.1 h))] at hres
            clear t
            have HRES := Lib.hid hres; clear hres
            have kb := conv_one
            go_enter Tryd.func37, Tryd.ntmps37
            go_wp2_with fail
            refine (at0_any cs s i d _ HSC.out (by omega) (by omega)).mono ?_
            rintro e w1 ⟨rfl, q, rfl⟩
            rw [← HC.out]
            go_wp2_with fail
            obtain ⟨w1, hw1, hs1, hb1, hk1⟩ := step_one (n := q) HSC.out HB.out ((i : Int) + 1)
            rw [← hw1]
            have HK1 := Lib.hid hk1
            have HB1 := Lib.hid hb1
            have HS1 := Lib.hid hs1
            clear hk1 hw1 hb1 hs1
            clear kb
            have HS2 := Lib.hid (HS1.out.alloc (.cells #[.int .u8 (c.toNat : Nat)] 5))
            have hkk : Keeps (fun b => b = cs) w1 (w1.alloc (.cells #[.int .u8 (c.toNat : Nat)] 5)) := (Keeps.refl _ _).alloc _
            have HB2 := Lib.hid (HB1.out.keep hkk (fun _ _ e => e))
            have HK2 := Lib.hid (HK1.out.trans hkk (fun _ _ h => h))
            clear hkk
            refine (put1_any B cs wb g N (2 * i) ⟨#[c]⟩ _ HB2.out (by simp) (by omega) (HS2.out.lt)).mono ?_
            intro e w3 hp
            have hfin := thing_put (d := d) (i := i + 1) (r := rest s (i + 1)) (l := [txtP [c]]) hp HS2.out HB2.out HK2.out hi1 rfl rfl (by show 2 * i + 1 + 1 ≤ _; omega)
            have he := hp.1
            subst he
            have HF := Lib.hid hfin
            clear hp hfin
            go_wp2_with fail
            go_end0
            rw [HRES.out]
            exact HF.out
end Go.Proofs.YtcahifkiiabioaaDoor
namespace Go.Proofs.YtcahifkiiabioaaDoor
open Go.RowKit
set_option linter.unusedVariables false

theorem esc_amid (c : UInt8) : amid ⟨#[36, 34, 92, 96]⟩ c = escB c := by
  have h : ∀ n : Fin 256, amid ⟨#[36, 34, 92, 96]⟩ (UInt8.ofNat n.val) = escB (UInt8.ofNat n.val) := by decide +kernel
  have := h ⟨c.toNat, c.toNat_lt⟩
  simpa using this
theorem rest_drop1 (s : ByteArray) (i : Nat) : (rest s i).tail = rest s (i + 1) := by rw [← rest_drop, List.drop_one]

set_option maxRecDepth 100000 in
set_option maxHeartbeats 4000000 in
theorem inn_step (n : Nat) (IH : ∀ m, m < n → Does m) (B cs wb : Nat) (s : ByteArray) (i d : Nat) (g : Option Nat) (N : List Pt × Bool) (w : World) (hsc : ScanAt w cs s i d) (hi : i < s.size) (h34 : byteAt s i ≠ 34) (hd : d ≤ 40) (hs : s.size ≤ 20000) (hb : Bag w B cs wb g N (2 * i)) (hn : 2 * (s.size - i) ≤ n) :
    Calls Tryd.prog 58 #[.pointer (some ⟨cs, 0, none⟩), .pointer (some ⟨wb, 0, none⟩)] w (ThingPost w B cs wb s d g N (lexD n (.one true) d (rest s i))) := by
  obtain ⟨m, rfl⟩ : ∃ m, n = m + 1 := ⟨n - 1, by omega⟩
  have hD := IH m (by omega)
  clear IH
  rw [rest_cons hi]
  obtain ⟨c, hc⟩ : ∃ c, c = byteAt s i := ⟨_, rfl⟩
  rw [← hc]
  obtain ⟨res, hres⟩ : ∃ res, res = lexD (m + 1) (.one true) d (c :: rest s (i + 1)) := ⟨_, rfl⟩
  rw [← hres]
  rw [lexD_inn] at hres
  have HC := Lib.hid hc
  have HD := Lib.hid hD
  have HB := Lib.hid hb
  obtain ⟨c0, c1, c2, f1, f2⟩ := hsc.cells
  have HSC := Lib.hid hsc
  clear hc hD hb hsc
  have hi1 : i + 1 ≤ s.size := hi
  have h34' : (c == 34) = false := beq_eq_false_iff_ne.2 (by rw [HC.out]; exact h34)
  rw [h34', Bool.false_or] at hres
  clear h34' h34
  by_cases t : c = 92
  · have e3 : ((c.toNat : Int) == 92) = true := test_yes (c := c) (k := 92) t
    have t96 : (c == 96) = false := by rw [t]; decide
    have t92 : (c == 92) = true := beq_iff_eq.2 t
    have e4 : ((c.toNat : Int) == 96) = false := test_no (c := c) (k := 96) (by rw [t]; decide)
    have e5 : ((c.toNat : Int) == 36) = false := test_no (c := c) (k := 36) (by rw [t]; decide)
    have t36 : (c == 36) = false := by rw [t]; decide
    rw [t96, t92, t36, if_neg (by simp)] at hres
    clear t96 t92 t36
    clear t
    rw [Bool.true_and, Bool.true_and] at hres
    cases hh : headIs 10 (rest s (i + 1))
    · rw [hh, if_neg (by simp)] at hres
      cases he : escB ((rest s (i + 1)).headD 0)
      · rw [he, if_neg (by simp), if_neg (by simp)] at hres
        rcases Nat.lt_or_ge (i + 1) s.size with hlt | hge
        · obtain ⟨x, hx⟩ : ∃ x, x = byteAt s (i + 1) := ⟨_, rfl⟩
          have hhd : (rest s (i + 1)).headD 0 = x := by rw [rest_cons hlt, hx]; rfl
          rw [hhd] at he
          have HH := Lib.hid hh
          have HX := Lib.hid hx
          have HEE := Lib.hid he
          clear hh hx hhd he
          have HRES := Lib.hid hres; clear hres
          have kb := conv_one
          go_enter Tryd.func58, Tryd.ntmps58
          go_wp2_with fail
          refine (at0_any cs s i d _ HSC.out (by omega) (by omega)).mono ?_
          rintro e w1 ⟨rfl, q, rfl⟩
          rw [← HC.out]
          go_wp2_with fail
          obtain ⟨w1, hw1, hs1, hb1, hk1⟩ := step_one (n := q) HSC.out HB.out ((i : Int) + 1)
          rw [← hw1]
          have HK1 := Lib.hid hk1
          have HB1 := Lib.hid hb1
          have HS1 := Lib.hid hs1
          clear hk1 hw1 hb1 hs1
          refine (is_no cs s ⟨#[10]⟩ (i + 1) d _ HS1.out hi1 (by rw [hasPrefix_starts, starts_one]; exact HH.out)).mono ?_
          rintro e w2 ⟨rfl, q2, rfl⟩
          go_wp2_with fail
          refine (among_in cs s _ (i + 1) d _ (HS1.out.drewN _) (by omega) hlt false (by rw [esc_amid, ← HX.out]; exact HEE.out)).mono ?_
          rintro e w2 ⟨rfl, q3, rfl⟩
          clear kb
          have kb := conv_one (w1.drewN (q2 + q3)) w1.heap.size c rfl
          go_wp2_with fail
          clear kb
          have HS2 := Lib.hid ((HS1.out.drewN (q2 + q3)).alloc (.cells #[.int .u8 (c.toNat : Nat)] 5))
          have hkk : Keeps (fun b => b = cs) w1 ((w1.drewN (q2 + q3)).alloc (.cells #[.int .u8 (c.toNat : Nat)] 5)) := ((Keeps.refl _ _).drewN _).alloc _
          have HB2 := Lib.hid (HB1.out.keep hkk (fun _ _ e => e))
          have HK2 := Lib.hid (HK1.out.trans hkk (fun _ _ h => h))
          clear hkk
          refine (put2_any B cs wb g N (2 * i) ⟨#[c]⟩ _ HB2.out (by omega) (HS2.out.lt)).mono ?_
          intro e w3 hp
          have hfin := thing_put (d := d) (i := i + 1) (r := rest s (i + 1)) (l := [quoP [c]]) hp HS2.out HB2.out HK2.out hi1 rfl rfl (by show 2 * i + 1 + 1 ≤ _; omega)
          have he := hp.1
          subst he
          have HF := Lib.hid hfin
          clear hp hfin
          go_wp2_with fail
          go_end0
          rw [HRES.out]
          exact HF.out
        · have HH := Lib.hid hh
          clear hh he
          have HRES := Lib.hid hres; clear hres
          have kb := conv_one
          go_enter Tryd.func58, Tryd.ntmps58
          go_wp2_with fail
          refine (at0_any cs s i d _ HSC.out (by omega) (by omega)).mono ?_
          rintro e w1 ⟨rfl, q, rfl⟩
          rw [← HC.out]
          go_wp2_with fail
          obtain ⟨w1, hw1, hs1, hb1, hk1⟩ := step_one (n := q) HSC.out HB.out ((i : Int) + 1)
          rw [← hw1]
          have HK1 := Lib.hid hk1
          have HB1 := Lib.hid hb1
          have HS1 := Lib.hid hs1
          clear hk1 hw1 hb1 hs1
          refine (is_no cs s ⟨#[10]⟩ (i + 1) d _ HS1.out hi1 (by rw [hasPrefix_starts, starts_one]; exact HH.out)).mono ?_
          rintro e w2 ⟨rfl, q2, rfl⟩
          go_wp2_with fail
          refine (among_end cs s _ (i + 1) d _ (HS1.out.drewN _) hge).mono ?_
          rintro e w2 ⟨rfl, q3, rfl⟩
          clear kb
          have kb := conv_one (w1.drewN (q2 + q3)) w1.heap.size c rfl
          go_wp2_with fail
          clear kb
          have HS2 := Lib.hid ((HS1.out.drewN (q2 + q3)).alloc (.cells #[.int .u8 (c.toNat : Nat)] 5))
          have hkk : Keeps (fun b => b = cs) w1 ((w1.drewN (q2 + q3)).alloc (.cells #[.int .u8 (c.toNat : Nat)] 5)) := ((Keeps.refl _ _).drewN _).alloc _
          have HB2 := Lib.hid (HB1.out.keep hkk (fun _ _ e => e))
          have HK2 := Lib.hid (HK1.out.trans hkk (fun _ _ h => h))
          clear hkk
          refine (put2_any B cs wb g N (2 * i) ⟨#[c]⟩ _ HB2.out (by omega) (HS2.out.lt)).mono ?_
          intro e w3 hp
          have hfin := thing_put (d := d) (i := i + 1) (r := rest s (i + 1)) (l := [quoP [c]]) hp HS2.out HB2.out HK2.out hi1 rfl rfl (by show 2 * i + 1 + 1 ≤ _; omega)
          have he := hp.1
          subst he
          have HF := Lib.hid hfin
          clear hp hfin
          go_wp2_with fail
          go_end0
          rw [HRES.out]
          exact HF.out
      · rw [he, if_pos rfl] at hres
        have hlt : i + 1 < s.size := by
          rcases Nat.lt_or_ge (i + 1) s.size with x | x
          · exact x
          · rw [rest_nil x] at he; cases he
        obtain ⟨x, hx⟩ : ∃ x, x = byteAt s (i + 1) := ⟨_, rfl⟩
        have hhd : (rest s (i + 1)).headD 0 = x := by rw [rest_cons hlt, hx]; rfl
        rw [rest_drop1, hhd] at hres
        rw [hhd] at he
        have HRES := Lib.hid hres; clear hres
        have HH := Lib.hid hh
        have HX := Lib.hid hx
        have HEE := Lib.hid he
        clear hh hx hhd he
        go_enter Tryd.func58, Tryd.ntmps58
        go_wp2_with fail
        refine (at0_any cs s i d _ HSC.out (by omega) (by omega)).mono ?_
        rintro e w1 ⟨rfl, q, rfl⟩
        rw [← HC.out]
        go_wp2_with fail
        obtain ⟨w1, hw1, hs1, hb1, hk1⟩ := step_one (n := q) HSC.out HB.out ((i : Int) + 1)
        rw [← hw1]
        have HK1 := Lib.hid hk1
        have HB1 := Lib.hid hb1
        have HS1 := Lib.hid hs1
        clear hk1 hw1 hb1 hs1
        refine (is_no cs s ⟨#[10]⟩ (i + 1) d _ HS1.out hi1 (by rw [hasPrefix_starts, starts_one]; exact HH.out)).mono ?_
        rintro e w2 ⟨rfl, q2, rfl⟩
        go_wp2_with fail
        refine (among_in cs s _ (i + 1) d _ (HS1.out.drewN _) (by omega) hlt true (by rw [esc_amid, ← HX.out]; exact HEE.out)).mono ?_
        rintro e w2 ⟨rfl, q3, rfl⟩
        have w1e : IntKind.i64.wrap ((i : Int) + 1 + 1) = (i : Int) + 1 + 1 := IntWalk.i64_in _ (by omega)
        have p1 : 0 ≤ (i : Int) + 1 := by omega
        have p2 : (i : Int) + 1 ≤ (i : Int) + 1 + 1 := by omega
        have p3 : (i : Int) + 1 + 1 ≤ (s.size : Int) := by omega
        have p4 : ((i : Int) + 1).toNat = i + 1 := by omega
        have p5 : ((i : Int) + 1 + 1).toNat = i + 1 + 1 := by omega
        clear c0 c1 c2 f1 f2
        go_wp2_with fail
        have hs2 : ScanAt (w1.drewN (q2 + q3)) cs s ((i : Int) + 1) d := HS1.out.drewN _
        have hkk : Keeps (fun b => b = cs) w1 (w1.drewN (q2 + q3)) := (Keeps.refl _ _).drewN _
        have hb2 := HB1.out.keep hkk (fun _ _ e => e)
        have hk2 := HK1.out.trans hkk (fun _ _ h => h)
        obtain ⟨W, hW⟩ : ∃ W, W = w1.drewN (q2 + q3) := ⟨_, rfl⟩
        rw [← hW] at hs2 hb2 hk2
        rw [← hW]
        have HB2 := Lib.hid hb2; have HK2 := Lib.hid hk2
        clear hW hkk hb2 hk2
        have HS2 := Lib.hid hs2
        obtain ⟨d0, d1, d2, df1, df2⟩ := hs2.cells
        clear hs2
        refine wp_region_still_tail 15 (by kernel_rfl) (by kernel_rfl) ?_
        simp only [List.take_succ_cons, List.take_zero, List.drop_succ_cons, List.drop_zero]
        change wpStill _ _ W.drew _ _ _
        repeat still_step
        refine wpStill_nil ?_
        change wpList _ _ _ _ _ W.drew
        go_wp2_with fail
        obtain ⟨R, hR⟩ : ∃ R, R = s.extract (i + 1) (i + 1 + 1) := ⟨_, rfl⟩
        rw [← hR]
        have hRd : R.data.toList = [x] := by
          rw [hR, Lib.extract_data, show i + 1 + 1 - (i + 1) = 1 by omega]
          show (rest s (i + 1)).take 1 = _
          rw [rest_cons hlt, ← HX.out]; rfl
        have hRs : R.size = 1 := by rw [Lib.size_eq, hRd]; rfl
        have HR := Lib.hid hRd
        clear hR hRd
        have hb3 := HB2.out.keep ((Keeps.refl (fun b => b = cs) W).drewN 1) (fun _ _ e => e)
        have hs3 := HS2.out.drewN 1
        have hk3 := HK2.out.drewN 1
        refine (put2_any B cs wb g N (2 * i) R _ hb3 (by omega) hs3.lt).mono ?_
        intro e w3 hp
        obtain ⟨he, g', hs4, hb4, hn4, hk4⟩ := put_then (d := d) (i := i + 1) hp hs3 hb3 hk3
        subst he
        have HB4 := Lib.hid hb4; have HN4 := Lib.hid hn4; have HK4 := Lib.hid hk4; have HS4 := Lib.hid hs4
        obtain ⟨c0, c1, c2, f1, f2⟩ := hs4.cells
        have HRS := Lib.hid hRs
        clear hp hb3 hs3 hk3 hb4 hn4 hk4 hs4 hRs
        go_wp2_with fail
        go_end0
        rw [HRES.out]
        refine thing_move (j := i + 1 + 1) HB4.out HN4.out HK4.out (scan_end HS4.out 0 (by omega)) (keep_end0 _ _ _ _) (by omega) rfl (by rw [HR.out]; rfl) (by have := HRS.out; omega)
    · rw [hh, if_pos rfl] at hres
      have hlt : i + 1 < s.size := by
        rcases Nat.lt_or_ge (i + 1) s.size with x | x
        · exact x
        · rw [rest_nil x] at hh; cases hh
      rw [rest_drop1] at hres
      have HRES := Lib.hid hres; clear hres
      have HH := Lib.hid hh
      clear hh
      go_enter Tryd.func58, Tryd.ntmps58
      go_wp2_with fail
      refine (at0_any cs s i d _ HSC.out (by omega) (by omega)).mono ?_
      rintro e w1 ⟨rfl, q, rfl⟩
      rw [← HC.out]
      go_wp2_with fail
      obtain ⟨w1, hw1, hs1, hb1, hk1⟩ := step_one (n := q) HSC.out HB.out ((i : Int) + 1)
      rw [← hw1]
      have HK1 := Lib.hid hk1
      have HB1 := Lib.hid hb1
      have HS1 := Lib.hid hs1
      clear hk1 hw1 hb1 hs1
      refine (is_yes cs s ⟨#[10]⟩ (i + 1) d _ HS1.out (by omega) hi1 (by decide) (by rw [hasPrefix_starts, starts_one]; exact HH.out)).mono ?_
      rintro e w2 ⟨rfl, hs2, hk2⟩
      have HS2 := Lib.hid hs2
      have HB2 := Lib.hid (HB1.out.keep hk2 (fun _ _ e => e))
      have HK2 := Lib.hid (HK1.out.trans hk2 (fun _ _ h => h))
      clear hs2 hk2
      go_wp2_with fail
      go_end0
      rw [HRES.out]
      exact thing_none (i := i + 1 + 1) HS2.out HB2.out HK2.out (by omega) rfl (by omega)
  · have e3 : ((c.toNat : Int) == 92) = false := test_no (c := c) (k := 92) t
    have t92 : (c == 92) = false := beq_eq_false_iff_ne.2 t
    rw [t92, Bool.false_and, Bool.false_and] at hres
    clear t t92
    by_cases t : c = 96
    · have e4 : ((c.toNat : Int) == 96) = true := test_yes (c := c) (k := 96) t
      rw [if_pos (beq_iff_eq.2 t)] at hres
      clear t
      have HRES := Lib.hid hres; clear hres
      go_enter Tryd.func58, Tryd.ntmps58
      go_wp2_with fail
      refine (at0_any cs s i d _ HSC.out (by omega) (by omega)).mono ?_
      rintro e w1 ⟨rfl, q, rfl⟩
      rw [← HC.out]
      go_wp2_with fail
      obtain ⟨w1, hw1, hs1, hb1, hk1⟩ := step_one (n := q) HSC.out HB.out ((i : Int) + 1)
      rw [← hw1]
      have HK1 := Lib.hid hk1
      have HB1 := Lib.hid hb1
      have HS1 := Lib.hid hs1
      clear hk1 hw1 hb1 hs1
      refine (fail_any 2 _).mono ?_
      rintro e w2 ⟨rfl, rfl⟩
      go_wp2_with fail
      refine ⟨rfl, ?_⟩
      rw [HRES.out]
      exact ⟨rfl, HK1.out.mono fun _ _ h => .inl h⟩
    · have e4 : ((c.toNat : Int) == 96) = false := test_no (c := c) (k := 96) t
      rw [if_neg (fun h => t (beq_iff_eq.1 h)), if_neg (by simp), if_neg (by simp)] at hres
      clear t
      by_cases t : c = 36
      · have e5 : ((c.toNat : Int) == 36) = true := test_yes (c := c) (k := 36) t
        rw [if_pos (beq_iff_eq.2 t)] at hres
        clear t
        have HRES := Lib.hid hres; clear hres
        go_enter Tryd.func58, Tryd.ntmps58
        go_wp2_with fail
        refine (at0_any cs s i d _ HSC.out (by omega) (by omega)).mono ?_
        rintro e w1 ⟨rfl, q, rfl⟩
        rw [← HC.out]
        go_wp2_with fail
        obtain ⟨w1, hw1, hs1, hb1, hk1⟩ := step_one (n := q) HSC.out HB.out ((i : Int) + 1)
        rw [← hw1]
        have HK1 := Lib.hid hk1
        have HB1 := Lib.hid hb1
        have HS1 := Lib.hid hs1
        clear hk1 hw1 hb1 hs1
        refine (HD.out.dol true B cs wb s (i + 1) d (2 * i) g N w1 HS1.out hi1 hd hs HB1.out (by omega) (by omega)).mono ?_
        intro e w2 hp
        have hfin := thing_from hp HK1.out
        cases hres2 : lexD m (.dol true) d (rest s (i + 1)) with
        | error x =>
          rw [hres2] at hp hfin
          have hr2 := HRES.out.trans hres2
          have HR2 := Lib.hid hr2
          have he := hp.1
          subst he
          have HF := Lib.hid hfin
          clear hp hfin hres2 hr2
          go_wp2_with fail
          refine ⟨rfl, ?_⟩
          rw [HR2.out]
          exact HF.out
        | ok lr =>
          obtain ⟨l, r⟩ := lr
          rw [hres2] at hp hfin
          have hr2 := HRES.out.trans hres2
          have HR2 := Lib.hid hr2
          have he := hp.1
          subst he
          have HF := Lib.hid hfin
          clear hp hfin hres2 hr2
          go_wp2_with fail
          go_end0
          rw [HR2.out]
          exact HF.out
      · have e5 : ((c.toNat : Int) == 36) = false := test_no (c := c) (k := 36) t
        rw [if_neg (fun h => t (beq_iff_eq.1 h))] at hres
        clear t
        have HRES := Lib.hid hres; clear hres
        have kb := conv_one
        go_enter Tryd.func58, Tryd.ntmps58
        go_wp2_with fail
        refine (at0_any cs s i d _ HSC.out (by omega) (by omega)).mono ?_
        rintro e w1 ⟨rfl, q, rfl⟩
        rw [← HC.out]
        go_wp2_with fail
        obtain ⟨w1, hw1, hs1, hb1, hk1⟩ := step_one (n := q) HSC.out HB.out ((i : Int) + 1)
        rw [← hw1]
        have HK1 := Lib.hid hk1
        have HB1 := Lib.hid hb1
        have HS1 := Lib.hid hs1
        clear hk1 hw1 hb1 hs1
        clear kb
        have HS2 := Lib.hid (HS1.out.alloc (.cells #[.int .u8 (c.toNat : Nat)] 5))
        have hkk : Keeps (fun b => b = cs) w1 (w1.alloc (.cells #[.int .u8 (c.toNat : Nat)] 5)) := (Keeps.refl _ _).alloc _
        have HB2 := Lib.hid (HB1.out.keep hkk (fun _ _ e => e))
        have HK2 := Lib.hid (HK1.out.trans hkk (fun _ _ h => h))
        clear hkk
        refine (put2_any B cs wb g N (2 * i) ⟨#[c]⟩ _ HB2.out (by omega) (HS2.out.lt)).mono ?_
        intro e w3 hp
        have hfin := thing_put (d := d) (i := i + 1) (r := rest s (i + 1)) (l := [quoP [c]]) hp HS2.out HB2.out HK2.out hi1 rfl rfl (by show 2 * i + 1 + 1 ≤ _; omega)
        have he := hp.1
        subst he
        have HF := Lib.hid hfin
        clear hp hfin
        go_wp2_with fail
        go_end0
        rw [HRES.out]
        exact HF.out
end Go.Proofs.YtcahifkiiabioaaDoor
namespace Go.Proofs.YtcahifkiiabioaaDoor
open Go.RowKit
set_option linter.unusedVariables false

/-- How many bytes one thing takes at least. -/
def Md.least : Md → Nat | .one _ => 1 | _ => 0
theorem lexD_dq (n d : Nat) (r : List UInt8) : lexD (n + 1) .dq d r = match r with
    | [] => .error 2
    | c :: t => if c == 34 then .ok ([], t) else match lexD n (.one true) d r with
      | .error e => .error e
      | .ok (l, r1) => (lexD n .dq d r1).ahead l := by cases r <;> rfl
theorem lexD_br (n d : Nat) (q : Bool) (r : List UInt8) : lexD (n + 1) (.br q) d r = match r with
    | [] => .error 2
    | c :: t => if c == 125 then .ok ([], t) else match lexD n (.one q) d r with
      | .error e => .error e
      | .ok (l, r1) => (lexD n (.br q) d r1).ahead l := by cases r <;> rfl
theorem lexD_dol (n d : Nat) (q : Bool) (r : List UInt8) : lexD (n + 1) (.dol q) d r =
    if headIs 123 r then lexD n (.brace q) d r.tail
    else if startsF [40, 40] r then (match calcF 0 (r.drop 2) with
      | none => .error 2
      | some k => .ok ([.mk 4 ((r.drop 2).take k) [] [] [] q], (r.drop 2).drop (k + 2)))
    else if headIs 40 r then (match subF .n 0 r.tail with
      | none => .error 2
      | some k => .ok ([.mk 5 (r.tail.take k) [] [] [] q], r.tail.drop (k + 1)))
    else if nameF false r = 0 then .ok ([if q then quoP [36] else txtP [36]], r)
    else .ok ([.mk 3 [] (r.take (nameF false r)) [] [] q], r.drop (nameF false r)) := rfl
theorem lexD_brace (n d : Nat) (q : Bool) (r : List UInt8) : lexD (n + 1) (.brace q) d r =
    if nameF true (if longB r then r.tail else r) = 0 then .error 2
    else if headIs 125 ((if longB r then r.tail else r).drop (nameF true (if longB r then r.tail else r))) then .ok ([.mk 3 [] ((if longB r then r.tail else r).take (nameF true (if longB r then r.tail else r))) (if longB r then [76] else []) [] q], ((if longB r then r.tail else r).drop (nameF true (if longB r then r.tail else r))).tail)
    else if (opF ((if longB r then r.tail else r).drop (nameF true (if longB r then r.tail else r)))).isEmpty || longB r then .error 2
    else if d = 40 then .error 3
    else match lexD n (.br q) (d + 1) (((if longB r then r.tail else r).drop (nameF true (if longB r then r.tail else r))).drop (opF ((if longB r then r.tail else r).drop (nameF true (if longB r then r.tail else r)))).length) with
      | .error e => .error e
      | .ok (l, r3) => .ok ([.mk 3 [] ((if longB r then r.tail else r).take (nameF true (if longB r then r.tail else r))) (opF ((if longB r then r.tail else r).drop (nameF true (if longB r then r.tail else r)))) (tidyF l) q], r3) := rfl

theorem ahead_ok {l m : List Pt} {r : List UInt8} {R : Res} (h : R.ahead l = .ok (m, r)) : ∃ m', R = .ok (m', r) ∧ m = l ++ m' := by
  cases R with
  | error e => cases h
  | ok x =>
    obtain ⟨a, b⟩ := x
    simp only [Res.ahead, Except.ok.injEq, Prod.mk.injEq] at h
    exact ⟨a, by rw [h.2], h.1.symm⟩

theorem lexD_len : ∀ (n : Nat) (md : Md) (d : Nat) (r : List UInt8) (l : List Pt) (r1 : List UInt8), lexD n md d r = .ok (l, r1) → r1.length ≤ r.length - md.least := by
  intro n
  induction n with
  | zero => intro md d r l r1 h; cases md <;> cases h
  | succ n ih =>
    intro md d r l r1 h
    cases md with
    | one q =>
      cases r with
      | nil => cases q <;> (cases h; exact Nat.zero_le _)
      | cons c t =>
        show r1.length ≤ t.length + 1 - 1
        have htl : t.tail.length ≤ t.length := by rw [List.length_tail]; omega
        cases q with
        | false =>
          rw [lexD_out] at h
          split at h
          · split at h
            · cases h
            · cases h; rw [List.length_drop]; omega
          split at h
          · obtain ⟨m', h', _⟩ := ahead_ok h
            exact ih _ _ _ _ _ h'
          split at h
          · split at h
            · cases h; exact Nat.zero_le _
            · split at h <;> (cases h; simp only [List.length_cons]; omega)
          split at h
          · cases h
          split at h
          · exact ih _ _ _ _ _ h
          · cases h; omega
        | true =>
          rw [lexD_inn] at h
          split at h
          · cases h
          split at h
          · cases h; omega
          split at h
          · cases h; omega
          split at h
          · exact ih _ _ _ _ _ h
          · cases h; omega
    | dq =>
      rw [lexD_dq] at h
      cases r with
      | nil => cases h
      | cons c t =>
        simp only at h
        split at h
        · cases h; exact Nat.le_succ _
        split at h
        · cases h
        · next l' r' h1 =>
          obtain ⟨m', h', _⟩ := ahead_ok h
          have e1 := ih _ _ _ _ _ h1
          have e2 := ih _ _ _ _ _ h'
          simp only [Md.least] at e1 e2 ⊢
          omega
    | br q =>
      rw [lexD_br] at h
      cases r with
      | nil => cases h
      | cons c t =>
        simp only at h
        split at h
        · cases h; exact Nat.le_succ _
        split at h
        · cases h
        · next l' r' h1 =>
          obtain ⟨m', h', _⟩ := ahead_ok h
          have e1 := ih _ _ _ _ _ h1
          have e2 := ih _ _ _ _ _ h'
          simp only [Md.least] at e1 e2 ⊢
          omega
    | dol q =>
      rw [lexD_dol] at h
      show r1.length ≤ r.length
      have htl : r.tail.length ≤ r.length := by rw [List.length_tail]; omega
      split at h
      · have := ih _ _ _ _ _ h
        simp only [Md.least] at this
        omega
      split at h
      · split at h
        · cases h
        · cases h; simp only [List.length_drop]; omega
      split at h
      · split at h
        · cases h
        · cases h; simp only [List.length_drop]; omega
      split at h
      · cases h; omega
      · cases h; simp only [List.length_drop]; omega
    | brace q =>
      rw [lexD_brace] at h
      show r1.length ≤ r.length
      have h0 : (if longB r then r.tail else r).length ≤ r.length := by
        split
        · rw [List.length_tail]; omega
        · exact Nat.le_refl _
      revert h h0
      generalize (if longB r then r.tail else r) = r'
      intro h h0
      split at h
      · cases h
      split at h
      · cases h; simp only [List.length_tail, List.length_drop]; omega
      split at h
      · cases h
      split at h
      · cases h
      split at h
      · cases h
      · next l' r3 h1 =>
        cases h
        have := ih _ _ _ _ _ h1
        simp only [Md.least, List.length_drop] at this
        omega

/-- What the words within double quotes are, as far as they are read. -/
def DqAt (n d : Nat) (r0 : List UInt8) (m : Nat) (l : List Pt) (r : List UInt8) : Prop := lexD n .dq d r0 = (lexD m .dq d r).ahead l
theorem ahead_ahead (a b : List Pt) (R : Res) : (R.ahead b).ahead a = R.ahead (a ++ b) := by
  cases R with
  | error e => rfl
  | ok x => obtain ⟨m, r⟩ := x; show Except.ok _ = Except.ok _; rw [List.append_assoc]
theorem ahead_nil (R : Res) : R.ahead [] = R := by
  cases R with
  | error e => rfl
  | ok x => rfl

/-- Things behind things. -/
theorem thing_more {w w1 w2 : World} {B cs wb : Nat} {s : ByteArray} {d : Nat} {g g1 : Option Nat} {N N1 : List Pt × Bool} {res : Res} {e : Ending} {l : List Pt} (h : ThingPost w1 B cs wb s d g1 N1 res e w2) (hN : l.foldl stepN N = N1) (hn : Newer w g g1) (hk : Keeps (Fp cs wb g) w w1) : ThingPost w B cs wb s d g N (res.ahead l) e w2 := by
  cases res with
  | error x => exact ⟨h.1, hk.next hn h.2⟩
  | ok lr =>
    obtain ⟨m, r⟩ := lr
    obtain ⟨he, i', g', a1, a2, a3, a4, a5, a6⟩ := h
    refine ⟨he, i', g', a1, a2, a3, ?_, hn.trans hk.size a5, hk.next hn a6⟩
    rw [List.foldl_append, hN]
    exact a4

set_option maxRecDepth 100000 in
set_option maxHeartbeats 4000000 in
theorem dq_step (n : Nat) (IH : ∀ m, m < n → Does m) (B cs wb : Nat) (s : ByteArray) (i d m : Nat) (g : Option Nat) (N : List Pt × Bool) (w : World) (hsc : ScanAt w cs s i d) (hi : i ≤ s.size) (hd : d ≤ 40) (hs : s.size ≤ 20000) (hb : Bag w B cs wb g N m) (hm : m + 1 ≤ 2 * i) (hn : 2 * (s.size - i) + 1 ≤ n) :
    Calls Tryd.prog 49 #[.pointer (some ⟨cs, 0, none⟩), .pointer (some ⟨wb, 0, none⟩)] w (ThingPost w B cs wb s d g N ((lexD n .dq d (rest s i)).ahead [quoP []])) := by
  have HD := Lib.hid IH
  have HB := Lib.hid hb
  have HSC := Lib.hid hsc
  have hle := hb.le
  obtain ⟨res, hres⟩ : ∃ res, res = (lexD n .dq d (rest s i)).ahead [quoP []] := ⟨_, rfl⟩
  rw [← hres]
  have HRES := Lib.hid hres
  clear hsc hb IH hres
  go_enter Tryd.func49, Tryd.ntmps49
  go_wp2_with fail
  refine (put2_any B cs wb g N m ⟨#[]⟩ _ HB.out (by omega) (HSC.out.lt)).mono ?_
  intro e w1 hp
  obtain ⟨he, g1, hs1, hb1, hn1, hk1⟩ := put_then (d := d) (i := i) hp HSC.out HB.out (Keeps.refl _ _)
  subst he
  have HS1 := Lib.hid hs1
  have HB1 := Lib.hid hb1
  have HN1 := Lib.hid hn1
  have HK1 := Lib.hid hk1
  clear hs1 hb1 hn1 hk1 hp
  go_wp2_with fail
  go_loopg [] (s.size + 2 - i) (fun k wr => ∃ (I M : Nat) (l : List Pt) (g' : Option Nat), k = s.size + 2 - I ∧ I ≤ s.size ∧ ScanAt wr cs s I d ∧ Bag wr B cs wb g' ((quoP [] :: l).foldl stepN N) (2 * I) ∧ Newer w g g' ∧ Keeps (Fp cs wb g) w wr ∧ M ≤ n ∧ 2 * (s.size - I) + 1 ≤ M ∧ DqAt n d (rest s i) M l (rest s I))
  case atStart => exact ⟨i, n, [], g1, rfl, hi, HS1.out, HB1.out.mono (by show m + 0 + 1 ≤ _; omega), HN1.out, HK1.out, Nat.le_refl _, hn, (ahead_nil _).symm⟩
  case round =>
    obtain ⟨I, M, l, g', hgk, hI, hsc, hbg, hnw, hkp, hM, hMn, hat⟩ := hrel
    have HGK := Lib.hid hgk
    have HSI := Lib.hid hsc
    have HBI := Lib.hid hbg
    have HNI := Lib.hid hnw
    have HKI := Lib.hid hkp
    obtain ⟨M, rfl⟩ : ∃ M', M = M' + 1 := ⟨M - 1, by omega⟩
    have hr : res = (lexD (M + 1) .dq d (rest s I)).ahead (quoP [] :: l) := by
      rw [HRES.out, show lexD n .dq d (rest s i) = _ from hat, ahead_ahead]; rfl
    have HAT := Lib.hid (show lexD n .dq d (rest s i) = _ from hat)
    clear hgk hsc hbg hnw hkp hat HS1 HB1 HN1 HK1
    rcases Nat.lt_or_ge I s.size with hlt | hge
    · obtain ⟨c, hc⟩ : ∃ c, c = byteAt s I := ⟨_, rfl⟩
      rw [lexD_dq, rest_cons hlt, ← hc] at hr
      dsimp only at hr
      by_cases t : c = 34
      · rw [if_pos (beq_iff_eq.2 t)] at hr
        have hh : headIs 34 (rest s I) = true := by rw [rest_cons hlt, ← hc, t]; rfl
        have HH := Lib.hid hh
        have HR := Lib.hid hr
        clear hr hh t hc
        go_wp2_with fail
        refine (is_yes cs s ⟨#[34]⟩ I d _ HSI.out (by omega) hI (by decide) (by rw [hasPrefix_starts, starts_one]; exact HH.out)).mono ?_
        rintro e w2 ⟨rfl, hs2, hk2⟩
        have HS2 := Lib.hid hs2
        have HB2 := Lib.hid (HBI.out.keep hk2 (fun _ _ e => e))
        have HK2 := Lib.hid hk2
        clear hs2 hk2
        go_wp2_with fail
        go_end0
        rw [HR.out]
        exact thing_more (thing_none (i := I + 1) HS2.out HB2.out HK2.out hlt rfl (by omega)) rfl HNI.out HKI.out
      · rw [if_neg (fun h => t (beq_iff_eq.1 h)), hc, ← rest_cons hlt] at hr
        have hh : headIs 34 (rest s I) = false := by
          rw [rest_cons hlt, ← hc]
          exact beq_eq_false_iff_ne.2 t
        have h34 : byteAt s I ≠ 34 := by rw [← hc]; exact t
        have he : decide (s.size ≤ I) = false := decide_eq_false (by omega)
        have HE := Lib.hid he
        have HH := Lib.hid hh
        have HR := Lib.hid hr
        have H34 := Lib.hid h34
        clear hr hh t hc he h34
        go_wp2_with fail
        refine (is_no cs s ⟨#[34]⟩ I d _ HSI.out hI (by rw [hasPrefix_starts, starts_one]; exact HH.out)).mono ?_
        rintro e w2 ⟨rfl, q2, rfl⟩
        go_wp2_with fail
        refine (end_any cs s I d _ (HSI.out.drewN _)).mono ?_
        rintro e w2 ⟨rfl, q3, rfl⟩
        rw [HE.out]
        go_wp2_with fail
        have hkk : Keeps (fun b => b = cs) wr (wr.drewN (q2 + q3)) := (Keeps.refl _ _).drewN _
        refine ((HD.out M (by omega)).inn B cs wb s I d g' _ _ (HSI.out.drewN (q2 + q3)) hlt H34.out hd hs (HBI.out.keep hkk (fun _ _ e => e)) (by omega)).mono ?_
        intro e w3 hp
        have hfin := thing_from hp hkk
        cases hres2 : lexD M (.one true) d (rest s I) with
        | error x =>
          rw [hres2] at hp hfin
          have hr2 := HR.out
          rw [hres2] at hr2
          have HR2 := Lib.hid hr2
          have he := hp.1
          subst he
          have HF := Lib.hid hfin
          clear hp hfin hres2 hr2 hkk
          go_wp2_with fail
          refine ⟨rfl, ?_⟩
          rw [HR2.out]
          exact thing_more HF.out rfl HNI.out HKI.out
        | ok lr =>
          obtain ⟨l2, r2⟩ := lr
          rw [hres2] at hp hfin
          have hr2 := HR.out
          rw [hres2] at hr2
          dsimp only at hr2
          have hlen := lexD_len _ _ _ _ _ _ hres2
          have hat2 := HAT.out
          rw [lexD_dq, rest_cons hlt] at hat2
          dsimp only at hat2
          rw [if_neg (fun h => H34.out (beq_iff_eq.1 h)), ← rest_cons hlt, hres2] at hat2
          dsimp only at hat2
          rw [ahead_ahead] at hat2
          have he := hp.1
          subst he
          obtain ⟨_, I2, g2, a1, a2, a3, a4, a5, a6⟩ := hfin
          rw [← a2, rest_len, rest_len] at hlen
          rw [← a2] at hat2
          have HAT2 := Lib.hid hat2
          rw [ahead_ahead, ← a2] at hr2
          have HS3 := Lib.hid a3
          have HB3 := Lib.hid a4
          have HN3 := Lib.hid a5
          have HK3 := Lib.hid a6
          have HR3 := Lib.hid hr2
          have hlen2 : I + 1 ≤ I2 := by simp only [Md.least] at hlen; omega
          clear hp hres2 hr2 hkk hat2 a2 a3 a4 a5 a6 hlen
          go_wp2_with fail
          go_roundg (s.size + 2 - I2)
          case measure => have := HGK.out; omega
          case rel => exact ⟨I2, M, l ++ l2, g2, rfl, a1, HS3.out, by rw [← List.cons_append, List.foldl_append]; exact HB3.out, HNI.out.trans HKI.out.size HN3.out, HKI.out.next HNI.out HK3.out, by omega, by omega, HAT2.out⟩
    · rw [lexD_dq, rest_nil hge] at hr
      dsimp only at hr
      have hh : headIs 34 (rest s I) = false := by rw [rest_nil hge]; rfl
      have he : decide (s.size ≤ I) = true := decide_eq_true hge
      have HE := Lib.hid he
      have HH := Lib.hid hh
      have HR := Lib.hid hr
      clear hh he hr
      go_wp2_with fail
      refine (is_no cs s ⟨#[34]⟩ I d _ HSI.out hI (by rw [hasPrefix_starts, starts_one]; exact HH.out)).mono ?_
      rintro e w2 ⟨rfl, q2, rfl⟩
      go_wp2_with fail
      refine (end_any cs s I d _ (HSI.out.drewN _)).mono ?_
      rintro e w2 ⟨rfl, q3, rfl⟩
      rw [HE.out]
      go_wp2_with fail
      refine (fail_any 2 _).mono ?_
      rintro e w2 ⟨rfl, rfl⟩
      go_wp2_with fail
      refine ⟨rfl, ?_⟩
      rw [HR.out]
      exact ⟨rfl, HKI.out.drewN _⟩
end Go.Proofs.YtcahifkiiabioaaDoor
namespace Go.Proofs.YtcahifkiiabioaaDoor
open Go.RowKit
set_option linter.unusedVariables false

/-- A word that is new. -/
theorem Bag.new {w : World} {cs : Nat} (T : TypeId) (hcs : cs < w.heap.size) : Bag (w.alloc (.cells #[.slice none 0 0] T)) w.heap.size cs w.heap.size none ([], false) 0 :=
  ⟨.slice none 0 0, [], ⟨T, heap_alloc_new w _⟩, OwnPts.nil _ _, rfl, by simp, by simp, ⟨hcs, Nat.le_refl _⟩, rfl, (fun p hp => by cases hp), Nat.le_refl _⟩
theorem fp_new {w w1 : World} {cs : Nat} {o : Obj} (hk : Keeps (Fp cs w.heap.size none) (w.alloc o) w1) : Keeps (fun b => b = cs) w w1 :=
  (((Keeps.refl _ _).alloc o : Keeps (fun b => b = cs) w (w.alloc o))).trans hk fun x hx h => by
    rcases h with h | h | h
    · exact h
    · omega
    · cases h
def BrAt (n d : Nat) (q : Bool) (r0 : List UInt8) (m : Nat) (l : List Pt) (r : List UInt8) : Prop := lexD n (.br q) d r0 = (lexD m (.br q) d r).ahead l
/-- .. and its parts are told. -/
theorem inner_end {w w1 w2 w3 : World} {cs I n : Nat} {s : ByteArray} {d : Nat} {l : List Pt} {v : Value} {W : Nat → Prop} (hk : Keeps (fun b => b = cs) w w1) (hk2 : Keeps (fun b => b = cs) w1 w2) (hs : ScanAt w2 cs s I d) (hI : I ≤ s.size)
    (hp : PtsAt w3 W n (tidyOf (l.foldl stepN ([], false))) v) (hW : ∀ b, W b → w.heap.size ≤ b) (hk3 : Keeps (fun _ => False) w2 w3) : InnerPost w cs s d (.ok (l, rest s I)) (.returned v) w3 :=
  ⟨I, n, v, rfl, hI, rfl, hs.keep hk3 (fun h => h), hp.mono (fun b _ h => hW b h), (hk.trans hk2 fun _ _ h => h).trans hk3 fun _ _ h => h.elim⟩

set_option maxRecDepth 100000 in
set_option maxHeartbeats 4000000 in
theorem br_step (n : Nat) (IH : ∀ m, m < n → Does m) (q : Bool) (cs : Nat) (s : ByteArray) (i d : Nat) (w : World) (hsc : ScanAt w cs s i d) (hi : i ≤ s.size) (hd : d ≤ 40) (hs : s.size ≤ 20000) (hn : 2 * (s.size - i) + 1 ≤ n) :
    Calls Tryd.prog 71 #[.pointer (some ⟨cs, 0, none⟩), .bool q] w (InnerPost w cs s d (lexD n (.br q) d (rest s i))) := by
  have HD := Lib.hid IH
  have HSC := Lib.hid hsc
  have hlt0 := hsc.lt
  obtain ⟨res, hres⟩ : ∃ res, res = lexD n (.br q) d (rest s i) := ⟨_, rfl⟩
  rw [← hres]
  have HRES := Lib.hid hres
  clear hsc IH hres
  go_enter Tryd.func71, Tryd.ntmps71
  go_wp2_with fail
  obtain ⟨H, hH⟩ : ∃ H, H = w.heap.size := ⟨_, rfl⟩
  have HH0 := Lib.hid hH
  go_loopg [] (s.size + 2 - i) (fun k wr => ∃ (I M : Nat) (l : List Pt) (g' : Option Nat), k = s.size + 2 - I ∧ I ≤ s.size ∧ ScanAt wr cs s I d ∧ Bag wr w.heap.size cs w.heap.size g' (l.foldl stepN ([], false)) (2 * I) ∧ Newer (w.alloc (.cells #[.slice none 0 0] 86)) none g' ∧ Keeps (Fp cs w.heap.size none) (w.alloc (.cells #[.slice none 0 0] 86)) wr ∧ M ≤ n ∧ 2 * (s.size - I) + 1 ≤ M ∧ BrAt n d q (rest s i) M l (rest s I))
  case atStart => exact ⟨i, n, [], none, rfl, hi, HSC.out.alloc _, (Bag.new _ hlt0).mono (Nat.zero_le _), Newer.refl _ _, Keeps.refl _ _, Nat.le_refl _, hn, (ahead_nil _).symm⟩
  case round =>
    obtain ⟨I, M, l, g', hgk, hI, hsc, hbg, hnw, hkp, hM, hMn, hat⟩ := hrel
    have HGK := Lib.hid hgk
    have HSI := Lib.hid hsc
    have HBI := Lib.hid hbg
    have HNI := Lib.hid hnw
    have HKI := Lib.hid hkp
    obtain ⟨M, rfl⟩ : ∃ M', M = M' + 1 := ⟨M - 1, by omega⟩
    have hat' : lexD n (.br q) d (rest s i) = (lexD (M + 1) (.br q) d (rest s I)).ahead l := hat
    have hr : res = (lexD (M + 1) (.br q) d (rest s I)).ahead l := by rw [HRES.out, hat']
    have HAT := Lib.hid hat'
    clear hgk hsc hbg hnw hkp hat hat'
    rcases Nat.lt_or_ge I s.size with hlt | hge
    · obtain ⟨c, hc⟩ : ∃ c, c = byteAt s I := ⟨_, rfl⟩
      rw [lexD_br, rest_cons hlt, ← hc] at hr
      dsimp only at hr
      by_cases t : c = 125
      · rw [if_pos (beq_iff_eq.2 t)] at hr
        have hh : headIs 125 (rest s I) = true := by rw [rest_cons hlt, ← hc, t]; rfl
        have HH := Lib.hid hh
        have HR := Lib.hid hr
        clear hr hh t hc
        go_wp2_with fail
        refine (is_yes cs s ⟨#[125]⟩ I d _ HSI.out (by omega) hI (by decide) (by rw [hasPrefix_starts, starts_one]; exact HH.out)).mono ?_
        rintro e w2 ⟨rfl, hs2, hk2⟩
        have HS2 := Lib.hid hs2
        have HB2 := Lib.hid (HBI.out.keep hk2 (fun _ _ e => e))
        have HK2 := Lib.hid hk2
        clear hs2 hk2
        go_wp2_with fail
        refine (parts_any w.heap.size cs w.heap.size g' _ _ _ HB2.out (by omega) HS2.out.lt).mono ?_
        rintro e w3 ⟨v, k, rfl, hp, hk3⟩
        have HP := Lib.hid hp
        have HK3 := Lib.hid hk3
        clear hp hk3
        go_wp2_with fail
        go_ret
        show InnerPost w cs s d res _ _
        rw [HR.out]
        show InnerPost w cs s d (.ok (l ++ [], rest s (I + 1))) _ _
        rw [List.append_nil]
        exact inner_end (fp_new HKI.out) HK2.out HS2.out (by omega) HP.out (fun b h => h.1) HK3.out
      · rw [if_neg (fun h => t (beq_iff_eq.1 h)), hc, ← rest_cons hlt] at hr
        have hh : headIs 125 (rest s I) = false := by
          rw [rest_cons hlt, ← hc]
          exact beq_eq_false_iff_ne.2 t
        have h125 : byteAt s I ≠ 125 := by rw [← hc]; exact t
        have he : decide (s.size ≤ I) = false := decide_eq_false (by omega)
        have HE := Lib.hid he
        have HH := Lib.hid hh
        have HR := Lib.hid hr
        have H125 := Lib.hid h125
        have HC := Lib.hid hc
        clear hr hh t he h125 hc
        go_wp2_with fail
        refine (is_no cs s ⟨#[125]⟩ I d _ HSI.out hI (by rw [hasPrefix_starts, starts_one]; exact HH.out)).mono ?_
        rintro e w2 ⟨rfl, q2, rfl⟩
        go_wp2_with fail
        refine (end_any cs s I d _ (HSI.out.drewN _)).mono ?_
        rintro e w2 ⟨rfl, q3, rfl⟩
        rw [HE.out]
        cases q with
        | false =>
          go_wp2_with fail
          have hkk : Keeps (fun b => b = cs) wr (wr.drewN (q2 + q3)) := (Keeps.refl _ _).drewN _
          refine ((HD.out M (by omega)).out w.heap.size cs w.heap.size s I d g' _ _ (HSI.out.drewN (q2 + q3)) hlt hd hs (HBI.out.keep hkk (fun _ _ e => e)) (by omega)).mono ?_
          intro e w3 hp
          have hfin := thing_from hp hkk
          clear hkk hp
          cases hres2 : lexD M (.one false) d (rest s I) with
          | error x =>
            rw [hres2] at hfin
            have hr2 := HR.out
            rw [hres2] at hr2
            have HR2 := Lib.hid hr2
            obtain ⟨he, hk5⟩ := hfin
            subst he
            have HK5 := Lib.hid (HKI.out.next HNI.out hk5)
            clear hres2 hr2 hk5
            go_wp2_with fail
            refine ⟨rfl, ?_⟩
            rw [HR2.out]
            exact ⟨rfl, fp_new HK5.out⟩
          | ok lr =>
            obtain ⟨l2, r2⟩ := lr
            rw [hres2] at hfin
            have hlen := lexD_len _ _ _ _ _ _ hres2
            have hat2 := HAT.out
            rw [lexD_br, rest_cons hlt] at hat2
            dsimp only at hat2
            rw [if_neg (fun h => H125.out (beq_iff_eq.1 h)), ← rest_cons hlt, hres2] at hat2
            dsimp only at hat2
            rw [ahead_ahead] at hat2
            obtain ⟨he, I2, g2, a1, a2, a3, a4, a5, a6⟩ := hfin
            subst he
            rw [← a2, rest_len, rest_len] at hlen
            rw [← a2] at hat2
            have HAT2 := Lib.hid hat2
            have HS3 := Lib.hid a3
            have HB3 := Lib.hid a4
            have HN3 := Lib.hid a5
            have HK3 := Lib.hid a6
            have hlen2 : I + 1 ≤ I2 := by simp only [Md.least] at hlen; omega
            clear hres2 hat2 a2 a3 a4 a5 a6 hlen
            go_wp2_with fail
            go_roundg (s.size + 2 - I2)
            case measure => have := HGK.out; omega
            case rel => exact ⟨I2, M, l ++ l2, g2, rfl, a1, HS3.out, by rw [List.foldl_append]; exact HB3.out, HNI.out.trans HKI.out.size HN3.out, HKI.out.next HNI.out HK3.out, by omega, by omega, HAT2.out⟩
        | true =>
          by_cases t : c = 34
          · have e1 : ((c.toNat : Int) == 34) = true := test_yes (c := c) (k := 34) t
            have hr2 := HR.out
            have h1 : lexD M (.one true) d (rest s I) = .error 2 := by
              obtain ⟨M, rfl⟩ : ∃ M', M = M' + 1 := ⟨M - 1, by omega⟩
              rw [rest_cons hlt, ← HC.out, lexD_inn, t]; rfl
            rw [h1] at hr2
            have HR2 := Lib.hid hr2
            clear t h1 hr2
            go_wp2_with fail
            refine (at0_any cs s I d _ (HSI.out.drewN _) (by omega) (by omega)).mono ?_
            rintro e w1 ⟨rfl, q4, rfl⟩
            rw [← HC.out]
            go_wp2_with fail
            refine (fail_any 2 _).mono ?_
            rintro e w2 ⟨rfl, rfl⟩
            go_wp2_with fail
            refine ⟨rfl, ?_⟩
            rw [HR2.out]
            exact ⟨rfl, fp_new (HKI.out.drewN _)⟩
          · have e1 : ((c.toNat : Int) == 34) = false := test_no (c := c) (k := 34) t
            have h34 : byteAt s I ≠ 34 := by rw [← HC.out]; exact t
            have H34 := Lib.hid h34
            clear t h34
            go_wp2_with fail
            refine (at0_any cs s I d _ (HSI.out.drewN _) (by omega) (by omega)).mono ?_
            rintro e w1 ⟨rfl, q4, rfl⟩
            rw [← HC.out]
            go_wp2_with fail
            have hkk : Keeps (fun b => b = cs) wr (wr.drewN (q2 + q3 + q4)) := (Keeps.refl _ _).drewN _
            refine ((HD.out M (by omega)).inn w.heap.size cs w.heap.size s I d g' _ _ (HSI.out.drewN (q2 + q3 + q4)) hlt H34.out hd hs (HBI.out.keep hkk (fun _ _ e => e)) (by omega)).mono ?_
            intro e w3 hp
            have hfin := thing_from hp hkk
            clear hkk hp
            cases hres2 : lexD M (.one true) d (rest s I) with
            | error x =>
              rw [hres2] at hfin
              have hr2 := HR.out
              rw [hres2] at hr2
              have HR2 := Lib.hid hr2
              obtain ⟨he, hk5⟩ := hfin
              subst he
              have HK5 := Lib.hid (HKI.out.next HNI.out hk5)
              clear hres2 hr2 hk5
              go_wp2_with fail
              refine ⟨rfl, ?_⟩
              rw [HR2.out]
              exact ⟨rfl, fp_new HK5.out⟩
            | ok lr =>
              obtain ⟨l2, r2⟩ := lr
              rw [hres2] at hfin
              have hlen := lexD_len _ _ _ _ _ _ hres2
              have hat2 := HAT.out
              rw [lexD_br, rest_cons hlt] at hat2
              dsimp only at hat2
              rw [if_neg (fun h => H125.out (beq_iff_eq.1 h)), ← rest_cons hlt, hres2] at hat2
              dsimp only at hat2
              rw [ahead_ahead] at hat2
              obtain ⟨he, I2, g2, a1, a2, a3, a4, a5, a6⟩ := hfin
              subst he
              rw [← a2, rest_len, rest_len] at hlen
              rw [← a2] at hat2
              have HAT2 := Lib.hid hat2
              have HS3 := Lib.hid a3
              have HB3 := Lib.hid a4
              have HN3 := Lib.hid a5
              have HK3 := Lib.hid a6
              have hlen2 : I + 1 ≤ I2 := by simp only [Md.least] at hlen; omega
              clear hres2 hat2 a2 a3 a4 a5 a6 hlen
              go_wp2_with fail
              go_roundg (s.size + 2 - I2)
              case measure => have := HGK.out; omega
              case rel => exact ⟨I2, M, l ++ l2, g2, rfl, a1, HS3.out, by rw [List.foldl_append]; exact HB3.out, HNI.out.trans HKI.out.size HN3.out, HKI.out.next HNI.out HK3.out, by omega, by omega, HAT2.out⟩
    · rw [lexD_br, rest_nil hge] at hr
      dsimp only at hr
      have hh : headIs 125 (rest s I) = false := by rw [rest_nil hge]; rfl
      have he : decide (s.size ≤ I) = true := decide_eq_true hge
      have HE := Lib.hid he
      have HH := Lib.hid hh
      have HR := Lib.hid hr
      clear hh he hr
      go_wp2_with fail
      refine (is_no cs s ⟨#[125]⟩ I d _ HSI.out hI (by rw [hasPrefix_starts, starts_one]; exact HH.out)).mono ?_
      rintro e w2 ⟨rfl, q2, rfl⟩
      go_wp2_with fail
      refine (end_any cs s I d _ (HSI.out.drewN _)).mono ?_
      rintro e w2 ⟨rfl, q3, rfl⟩
      rw [HE.out]
      go_wp2_with fail
      refine (fail_any 2 _).mono ?_
      rintro e w2 ⟨rfl, rfl⟩
      go_wp2_with fail
      refine ⟨rfl, ?_⟩
      rw [HR.out]
      exact ⟨rfl, fp_new (HKI.out.drewN _)⟩
end Go.Proofs.YtcahifkiiabioaaDoor
