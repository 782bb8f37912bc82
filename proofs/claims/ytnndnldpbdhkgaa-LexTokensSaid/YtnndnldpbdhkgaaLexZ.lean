/-
  The contract of parts: a word's parts, tidied.
-/
import Derived.Test.YtnndnldpbdhkgaaLexS
namespace Go.Proofs.Ytnndnldpbdhkgaa
open Go.RowKit
set_option linter.unusedVariables false

def tidyOf (N : List Pt × Bool) : List Pt := if N.1.isEmpty && N.2 then [quoP []] else N.1
theorem tidyOf_norm (l : List Pt) : tidyOf (normF l) = tidyF l := rfl

theorem addP_len (out : List Pt) (x : Pt) : (addP out x).length ≤ out.length + 1 := by
  unfold addP
  cases h : out.getLast? with
  | none => simp
  | some y =>
    dsimp only
    split
    · simp only [List.length_append, List.length_dropLast, List.length_singleton]; omega
    · simp
theorem foldN_len (l : List Pt) : ∀ N : List Pt × Bool, (l.foldl stepN N).1.length ≤ N.1.length + l.length := by
  induction l with
  | nil => intro N; exact Nat.le_refl _
  | cons x l ih =>
    intro N
    have h1 := ih (stepN N x)
    have h2 : (stepN N x).1.length ≤ N.1.length + 1 := by
      unfold stepN
      split
      · exact Nat.le_succ _
      · exact addP_len _ _
    simp only [List.foldl_cons, List.length_cons]; omega
theorem normF_len (l : List Pt) : (normF l).1.length ≤ l.length := by
  have := foldN_len l ([], false)
  simpa [normF] using this
theorem addP_yes {l : List Pt} {y p : Pt} (h : y.joins p = true) : addP (l ++ [y]) p = l ++ [y.join p] := by
  unfold addP
  rw [List.getLast?_append]
  simp [h]
theorem addP_no {l : List Pt} {y p : Pt} (h : y.joins p = false) : addP (l ++ [y]) p = l ++ [y] ++ [p] := by
  unfold addP
  rw [List.getLast?_append]
  simp [h]
theorem wtF_mem {l : List Pt} {x : Pt} (h : x ∈ l) : x.text.length ≤ wtF l := by
  induction l with
  | nil => cases h
  | cons a l ih =>
    simp only [wtF]
    rcases List.mem_cons.1 h with rfl | h
    · omega
    · have := ih h; omega
theorem foldN_wt (l : List Pt) : ∀ N : List Pt × Bool, wtF (l.foldl stepN N).1 ≤ wtF N.1 + wtF l := by
  induction l with
  | nil => intro N; exact Nat.le_refl _
  | cons x l ih =>
    intro N
    have h1 := ih (stepN N x)
    have h2 : wtF (stepN N x).1 ≤ wtF N.1 + (x.text.length + 1) := by
      unfold stepN
      split
      · exact Nat.le_add_right _ _
      · rcases last_cases N.1 with h | ⟨m, y, h⟩
        · rw [h]
          unfold addP
          simp [wtF]
        · rw [h]
          cases hj : y.joins x
          · rw [addP_no hj, wtF_append]
            exact Nat.le_refl _
          · rw [addP_yes hj, wtF_append, wtF_append]
            have e : (y.join x).text = y.text ++ x.text := rfl
            simp only [wtF, e, List.length_append]
            omega
    simp only [List.foldl_cons, wtF]; omega
theorem normF_wt (l : List Pt) : wtF (normF l).1 ≤ wtF l := by
  have := foldN_wt l ([], false)
  simpa [normF, wtF] using this
theorem wtF_take (l : List Pt) (k : Nat) : wtF (l.take k) ≤ wtF l := by
  have h := wtF_append (l.take k) (l.drop k)
  rw [List.take_append_drop] at h
  omega
theorem foldN_flag (l : List Pt) : ∀ N : List Pt × Bool, (l.foldl stepN N).2 = (N.2 || decide (0 < l.length)) := by
  induction l with
  | nil => intro N; simp
  | cons x l ih =>
    intro N
    rw [List.foldl_cons, ih]
    have : (stepN N x).2 = true := by unfold stepN; split <;> rfl
    rw [this]
    simp
theorem normF_flag (l : List Pt) : (normF l).2 = decide (0 < l.length) := by
  unfold normF
  rw [foldN_flag]
  simp
theorem ba_append (a b : ByteArray) : (a ++ b).data.toList = a.data.toList ++ b.data.toList := by
  rw [ByteArray.data_append, Array.toList_append]
theorem heap_new2 (w : World) (o o' : Obj) (n : Nat) : (((w.alloc o).drewN n).alloc o').heap[w.heap.size + 1]? = some o' := by
  have h := heap_alloc_new ((w.alloc o).drewN n) o'
  rwa [show ((w.alloc o).drewN n).heap.size = w.heap.size + 1 by simp] at h
/-- The six cells, one by one. -/
def Six (w : World) (b o : Nat) (p : Pt) (v : Value) : Prop :=
  w.cell? ⟨b, o, none⟩ = some (.int .i64 (p.kind : Nat)) ∧ w.cell? ⟨b, o + 1, none⟩ = some (strV p.text) ∧ w.cell? ⟨b, o + 2, none⟩ = some (strV p.name) ∧
  w.cell? ⟨b, o + 3, none⟩ = some (strV p.op) ∧ w.cell? ⟨b, o + 4, none⟩ = some v ∧ w.cell? ⟨b, o + 5, none⟩ = some (.bool p.quoted)
theorem six_of {w : World} {b o : Nat} {p : Pt} {v : Value} (h : PtCells w b o p v) : Six w b o p v :=
  ⟨h 0 _ rfl, h 1 _ rfl, h 2 _ rfl, h 3 _ rfl, h 4 _ rfl, h 5 _ rfl⟩
theorem six_row {w : World} {e : TypeId} {g n c : Nat} {l : List Pt} {vs : List Value} (ho : w.ownsRow 0 e 6 (.slice (some ⟨g, 0, none⟩) n c) n (cellsL l vs)) (hn : n = l.length) (hl : vs.length = l.length) {i : Nat} (hi : i < l.length) : Six w g (i * 6) l[i] (vs[i]'(by omega)) := by
  refine six_of fun j u hu => ?_
  have hj : j < 6 := (List.getElem?_eq_some_iff.1 hu).1
  rw [ho.cellAt _ (by omega)]
  exact cellsL_at hl hi j u hu

/-- What parts has gathered: the row is new. -/
def OutAt (w wr : World) (D : Nat → Prop) (n : Nat) (v : Value) (out : List Pt) : Prop :=
  (out = [] → v = .slice none 0 0) ∧ ∃ vs, vs.length = out.length ∧ wr.ownsRow 0 39 6 v out.length (cellsL out vs) ∧ (∀ y, v.ownBlock = some y → w.heap.size ≤ y) ∧
    ∀ i (h : i < out.length) (h' : i < vs.length), PtsAt w D n out[i].word vs[i]
theorem OutAt.nil (w wr : World) (D : Nat → Prop) (n : Nat) : OutAt w wr D n (.slice none 0 0) [] :=
  ⟨fun _ => rfl, [], rfl, World.ownsRow_nil _ _ _ _, fun y h => (by cases h), fun i h => absurd h (Nat.not_lt_zero _)⟩
theorem OutAt.alloc {w wr : World} {D : Nat → Prop} {n : Nat} {v : Value} {out : List Pt} (h : OutAt w wr D n v out) (o : Obj) : OutAt w (wr.alloc o) D n v out := by
  obtain ⟨hz, vs, hl, ho, hy, hn⟩ := h
  exact ⟨hz, vs, hl, ho.alloc o, hy, hn⟩
theorem OutAt.drewN {w wr : World} {D : Nat → Prop} {n : Nat} {v : Value} {out : List Pt} (h : OutAt w wr D n v out) (k : Nat) : OutAt w (wr.drewN k) D n v out := by
  obtain ⟨hz, vs, hl, ho, hy, hn⟩ := h
  refine ⟨hz, vs, hl, ?_, hy, hn⟩
  induction k with
  | zero => exact ho
  | succ k ih => exact ih.drew
theorem OutAt.shape {w wr : World} {D : Nat → Prop} {n : Nat} {v : Value} {out : List Pt} (h : OutAt w wr D n v out) : (v = .slice none 0 0 ∧ out = []) ∨ ∃ l y g c, out = l ++ [y] ∧ v = .slice (some ⟨g, 0, none⟩) (l.length + 1) c ∧ w.heap.size ≤ g ∧ g < wr.heap.size ∧ l.length + 1 ≤ c ∧ c ≤ maxLen := by
  obtain ⟨hz, vs, hl, ho, hy, hn⟩ := h
  rcases last_cases out with rfl | ⟨l, y, rfl⟩
  · exact .inl ⟨hz rfl, rfl⟩
  · have hlen : (l ++ [y]).length = l.length + 1 := by simp
    rcases ho.2 with ⟨_, h0⟩ | ⟨g, cap, cur, rfl, _, hg, h1, h2, _⟩
    · omega
    · rw [hlen] at h1
      exact .inr ⟨l, y, g, cap, rfl, by rw [hlen], hy g rfl, (Array.getElem?_eq_some_iff.1 hg).1, h1, h2⟩
/-- One part more. -/
theorem OutAt.more {w w1 : World} {D : Nat → Prop} {n : Nat} {out : List Pt} {vs : List Value} {p : Pt} {pv : Value} {g c : Nat} (hl : vs.length = out.length) (hn : ∀ i (h : i < out.length) (h' : i < vs.length), PtsAt w D n out[i].word vs[i]) (hp : PtsAt w D n p.word pv)
    (ho : w1.ownsRow 0 39 6 (.slice (some ⟨g, 0, none⟩) (out.length + 1) c) (out.length + 1) (cellsL out vs ++ cellsP p pv)) (hg : w.heap.size ≤ g) : OutAt w w1 D n (.slice (some ⟨g, 0, none⟩) (out.length + 1) c) (out ++ [p]) := by
  refine ⟨fun h => by simp at h, vs ++ [pv], by simp [hl], ?_, fun y hy => ?_, fun i h h' => ?_⟩
  · rw [cellsL_append hl]
    simpa [cellsL] using ho
  · obtain rfl : g = y := Option.some.inj hy
    exact hg
  · by_cases hi : i < out.length
    · rw [List.getElem_append_left hi, List.getElem_append_left (by omega)]
      exact hn i hi (by omega)
    · have hi2 : i = out.length := by simp at h; omega
      subst hi2
      rw [List.getElem_append_right (Nat.le_refl _), List.getElem_append_right (by omega)]
      simpa [hl] using hp
/-- The last text, longer. -/
theorem OutAt.join {w wr : World} {D : Nat → Prop} {n g c : Nat} {l : List Pt} {y p : Pt} {s : ByteArray} (h : OutAt w wr D n (.slice (some ⟨g, 0, none⟩) (l ++ [y]).length c) (l ++ [y])) (hs : s.data.toList = y.text ++ p.text) :
    OutAt w (wr.setCell ⟨g, l.length * 6 + 1, none⟩ (.string s)) D n (.slice (some ⟨g, 0, none⟩) (l ++ [y.join p]).length c) (l ++ [y.join p]) := by
  obtain ⟨_, vs, hl, ho, hy, hn⟩ := h
  obtain ⟨us, u, rfl⟩ : ∃ us u, vs = us ++ [u] := by
    rcases List.eq_nil_or_concat vs with h | ⟨us, u, h⟩
    · rw [h] at hl; simp at hl
    · exact ⟨us, u, by rw [h, List.concat_eq_append]⟩
  have hu : us.length = l.length := by simpa using hl
  have hst := (ho.stored (l.length * 6 + 1) (.string s)).1
  have hlen : (l ++ [y.join p]).length = (l ++ [y]).length := by simp
  refine ⟨fun h => by simp at h, us ++ [u], by simpa using hl, ?_, hy, fun i h h' => ?_⟩
  · rw [hlen]
    rw [cellsL_append hu] at hst ⊢
    rw [set_tail (cellsL_len hu)] at hst
    have e : (cellsL [y] [u]).set 1 (.string s) = cellsL [y.join p] [u] := by
      have e2 : Value.string s = strV (y.text ++ p.text) := by unfold strV; rw [← hs]
      rw [e2]
      rfl
    rw [e] at hst
    exact hst
  · by_cases hi : i < l.length
    · rw [List.getElem_append_left hi]
      have := hn i (by simp; omega) (by simp; omega)
      rwa [List.getElem_append_left hi] at this
    · have hi2 : i = l.length := by simp at h; omega
      subst hi2
      have := hn l.length (by simp) (by simp [hu])
      rw [List.getElem_append_right (Nat.le_refl _)] at this ⊢
      simpa [Pt.join, Pt.word] using this

/-- What parts hands back: a slice that reads as the parts, tidied; nothing old has turned. -/
def PartsPost (w : World) (B wb : Nat) (g : Option Nat) (N : List Pt × Bool) (e : Ending) (w' : World) : Prop :=
  ∃ v n, e = .returned v ∧ PtsAt w' (fun b => B ≤ b ∧ b ≠ wb ∧ g ≠ some b) n (tidyOf N) v ∧ Keeps (fun _ => False) w w'
theorem OutAt.reads {w wr : World} {D D' : Nat → Prop} {n : Nat} {v : Value} {out : List Pt} (h : OutAt w wr D n v out) (hk : Keeps (fun _ => False) w wr) (h1 : ∀ x, D x → D' x) (h2 : ∀ x, w.heap.size ≤ x → D' x) : PtsAt wr D' (n + 1) out v := by
  obtain ⟨hz, vs, hl, ho, hy, hn⟩ := h
  rcases ho.2 with ⟨rfl, h0⟩ | ⟨g, cap, cur, rfl, _, hg, hc1, hc2, _⟩
  · rw [List.eq_nil_of_length_eq_zero h0]
    exact PtsAt.nil _ _ _
  · refine ⟨_, cap, rfl, hc1, hc2, fun i hi => ⟨g, 0, vs[i]'(by omega), rfl, (Array.getElem?_eq_some_iff.1 hg).1, h2 g (hy g rfl), fun j u hu => ?_, ((hn i hi (by omega)).keep hk (fun b _ _ s => s)).mono fun b _ hb => h1 b hb⟩⟩
    have hj : j < 6 := (List.getElem?_eq_some_iff.1 hu).1
    rw [ho.cellAt _ (by omega), Nat.zero_add]
    exact cellsL_at hl hi j u hu
theorem one_quote {D : Nat → Prop} (w : World) (hD : D w.heap.size) :
    PtsAt (w.alloc (.cells #[.int .i64 2, .string ⟨#[]⟩, .string ⟨#[]⟩, .string ⟨#[]⟩, .slice none 0 0, .bool false] 39)) D 1 [quoP []] (.slice (some ⟨w.heap.size, 0, none⟩) 1 1) := by
  have hb := heap_alloc_new w (.cells #[.int .i64 2, .string ⟨#[]⟩, .string ⟨#[]⟩, .string ⟨#[]⟩, .slice none 0 0, .bool false] 39)
  refine ⟨_, 1, rfl, Nat.le_refl _, by unfold maxLen; omega, fun i hi => ?_⟩
  obtain rfl : i = 0 := by simp at hi; omega
  refine ⟨w.heap.size, 0, .slice none 0 0, rfl, by simp, hD, fun j u hu => ?_, rfl, none, 0, rfl, Nat.zero_le _⟩
  rw [show 0 + 0 * 6 + j = j by omega, cell_of_row _ _ j _ _ _ hb]
  rw [← Array.getElem?_toList]
  exact hu

set_option maxRecDepth 100000 in
set_option maxHeartbeats 4000000 in
theorem parts_any (B cs wb : Nat) (g : Option Nat) (N : List Pt × Bool) (m : Nat) (w : World) (h : Bag w B cs wb g N m) (hm : m ≤ 900000) (lcs : cs < w.heap.size) :
    Calls Try.prog 38 #[.pointer (some ⟨wb, 0, none⟩)] w (PartsPost w B wb g N) := by
  obtain ⟨v, raw, hw, ho, rfl, h1, h2, h3, h4, h5, h6⟩ := h
  obtain ⟨a, c, rfl, h7, h8⟩ := ho.shape
  obtain ⟨vs, n, hl, hown, hnest⟩ := ho
  have lw := hw.lt
  obtain ⟨c0, f0⟩ := hw.cell
  obtain ⟨i0, hi0, hz0, hz1, hz2⟩ := info_parts info_part
  have hc6 := cells_part
  have hwl := wtF_len raw
  have HNEST := Lib.hid hnest
  have HOWN := Lib.hid hown
  have H4 := Lib.hid h4
  clear hnest hown h4 hw f0
  obtain ⟨D, hD⟩ : ∃ D : Nat → Prop, D = fun b => B ≤ b ∧ b ≠ wb ∧ (Value.slice a raw.length c).ownBlock ≠ some b := ⟨_, rfl⟩
  have HD := Lib.hid hD
  go_enter Try.func38, Try.ntmps38
  go_wp2_with fail
  go_loopw [3, 12] (fun v' k' wr => ∃ k : Nat, k' = .int .i64 k ∧ k ≤ raw.length ∧ Hid (OutAt w wr (fun b => ((B ≤ b ∧ b ≠ wb) ∧ (Value.slice a raw.length c).ownBlock ≠ some b)) n v' (normF (raw.take k)).1) ∧ Hid (Keeps (fun _ => False) w wr)) (fun _ k' _ => raw.length - (intOf k').toNat)
  case atStart => exact ⟨0, rfl, Nat.zero_le _, Lib.hid (OutAt.nil _ _ _ _), Lib.hid (Keeps.refl _ _)⟩
  case round =>
    obtain ⟨k, rfl, hk, HO, HK⟩ := hrel
    by_cases hlt : k < raw.length
    · obtain ⟨G, hG⟩ : ∃ G, a = some ⟨G, 0, none⟩ := by
        rcases HOWN.out.2 with ⟨_, h0⟩ | ⟨G, cap, cur, e, _⟩
        · omega
        · simp only [Value.slice.injEq] at e; exact ⟨G, e.1⟩
      subst hG
      have hGl : G < w.heap.size := (HOWN.out.lt G rfl).2
      obtain ⟨q0, q1, q2, q3, q4, q5⟩ := six_row HOWN.out rfl hl hlt
      have hcell : ∀ o v, w.cell? ⟨G, o, none⟩ = some v → wr.cell? ⟨G, o, none⟩ = some v := fun o v hv => (World.cell?_of_block (a := ⟨G, o, none⟩) (HK.out.block G hGl (fun x => x))).trans hv
      replace q0 := hcell _ _ q0
      replace q1 := hcell _ _ q1
      replace q2 := hcell _ _ q2
      replace q3 := hcell _ _ q3
      replace q4 := hcell _ _ q4
      replace q5 := hcell _ _ q5
      have hnk := HNEST.out k hlt (by omega)
      have htk : normF (raw.take (k + 1)) = stepN (normF (raw.take k)) raw[k] := by
        rw [List.take_succ_eq_append_getElem hlt, normF_append]; rfl
      obtain ⟨out, hout⟩ : ∃ out, out = (normF (raw.take k)).1 := ⟨_, rfl⟩
      rw [← hout] at HO
      have HOUT := Lib.hid hout
      have HTK := Lib.hid htk
      obtain ⟨p, hp⟩ : ∃ p, p = raw[k] := ⟨_, rfl⟩
      obtain ⟨pv, hpv⟩ : ∃ pv, pv = vs[k]'(by omega) := ⟨_, rfl⟩
      rw [← hp, ← hpv] at hnk
      rw [← hp] at q0 q1 q2 q3 q5
      rw [← hpv] at q4
      obtain ⟨pa, pc, hpe, _, _⟩ := hnk.shape
      rw [hpe] at q4 hnk
      obtain ⟨pl, hpl⟩ : ∃ pl, pl = p.word.length := ⟨_, rfl⟩
      rw [← hpl] at q4 hnk
      have HP := Lib.hid hp
      have HNK := Lib.hid hnk
      clear hcell hout htk hp hpv hnk hpe hpl
      have p1 : (k : Int) < (raw.length : Int) := by omega
      obtain ⟨T, hT⟩ : ∃ T : ByteArray, T = ⟨p.text.toArray⟩ := ⟨_, rfl⟩
      have hT2 : T.data.toList = p.text := by rw [hT]
      unfold strV at q1 q2 q3
      rw [← hT] at q1
      have HT := Lib.hid hT2
      clear hT
      by_cases hE : p.isE = true
      · have e1 : p.kind = 2 ∧ p.text = [] := by
          unfold Pt.isE at hE
          simpa using hE
        have t1 : ((p.kind : Int) == 2) = true := by rw [e1.1]; rfl
        obtain ⟨t2, t3⟩ := ba_empty (s := T) (hT2.trans e1.2)
        have hst : (normF (raw.take (k + 1))).1 = out := by
          rw [HTK.out, ← HP.out, stepN, if_pos hE, HOUT.out]
        have HST := Lib.hid hst
        clear hE e1 hst hT2
        go_wp2_with fail
        go_roundw
        case rel => exact ⟨k + 1, by go_num, by omega, Lib.hid (by rw [HST.out]; exact HO.out.alloc _), Lib.hid (HK.out.alloc _)⟩
        case measure => simp [intOf]; omega
      · have e1 : ((p.kind : Int) == 2) = false ∨ ((p.kind : Int) == 2) = true ∧ T.toList.isEmpty = false ∧ (T.toList == []) = false := by
          by_cases h2 : p.kind = 2
          · by_cases h3 : p.text = []
            · exact absurd (by unfold Pt.isE; rw [h2, h3]; rfl) hE
            · obtain ⟨t1, t2⟩ := ba_full (s := T) (by rw [hT2]; exact h3)
              exact .inr ⟨by rw [h2]; rfl, t1, t2⟩
          · exact .inl (by rw [beq_eq_false_iff_ne]; omega)
        have hst : (normF (raw.take (k + 1))).1 = addP out p := by
          rw [HTK.out, ← HP.out, stepN, if_neg hE, HOUT.out]
        have HST := Lib.hid hst
        have HE := Lib.hid hE
        clear hE hst
        clear hT2
        have hgl : wr.heap.size < wr.heap.size + 1 := by omega
        rcases HO.out.shape with ⟨rfl, ho0⟩ | ⟨l, y, go, co, ho0, rfl, hgo, hgo2, hco, hco2⟩
        · obtain rfl := ho0
          rcases e1 with e1 | ⟨e1, e2, e3⟩
          all_goals
            go_wp2_with fail
            go_quiet (fail)
            obtain ⟨_, us, hus, hown2, _, hun⟩ := ((HO.out.alloc (.cells #[.int .i64 (p.kind : Nat), .string T, .string ⟨p.name.toArray⟩, .string ⟨p.op.toArray⟩, .slice pa pl pc, .bool p.quoted] 39)).drewN nq)
            have HUN := Lib.hid hun
            have HUS := Lib.hid hus
            clear hun hus
            go_wp2_with (at_builtin; refine wpList_append_lies _ rfl (.tmp 59) (.tmp 61) _ rfl 0 39 i0 _ 6 88 Try.underlying32 hi0 hz0 hz1 hz2 rfl (by omega) (.slice none 0 0) 0 (cellsL [] us) rfl (hown2.alloc _) ⟨wr.heap.size + 1, 0, none⟩ 1 1 [.int .i64 (p.kind : Nat), .string T, .string ⟨p.name.toArray⟩, .string ⟨p.op.toArray⟩, .slice pa pl pc, .bool p.quoted] rfl rfl (World.news_of_block (cs := #[.int .i64 (p.kind : Nat), .string T, .string ⟨p.name.toArray⟩, .string ⟨p.op.toArray⟩, .slice pa pl pc, .bool p.quoted]) (t := 39) (fr := (0, 0)) (heap_new2 _ _ _ _)) (by simp [Value.oneCell']) (by omega) (by unfold maxLen; omega) (by omega) (by simp) (wr.heap.size + 2) (by simp) ?_; intro gg cap w1 hown1 hgrow hat hlt2)
            have hgg : w.heap.size ≤ gg := by
              have hws := HK.out.size
              rcases hat with hat | hat
              · first | (cases hat; done) | (obtain rfl := Option.some.inj hat; omega)
              · omega
            have hk1 : Keeps (fun _ => False) w w1 := (((HK.out.alloc _).drewN nq).alloc _).grown hgrow (fun y hy hyl => by cases hy)
            have hmore := OutAt.more (w := w) (out := []) (p := p) HUS.out HUN.out HNK.out (by rw [cellsP, strV, ← HT.out]; exact hown1) hgg
            have HM := Lib.hid hmore
            have HK1 := Lib.hid hk1
            clear hmore hk1 hown1 hgrow hat
            go_wp2_with fail
            go_roundw
            case rel => exact ⟨k + 1, by go_num, by omega, Lib.hid (by rw [HST.out]; exact HM.out), HK1⟩
            case measure => simp [intOf]; omega
        · subst ho0
          have hlen : (l ++ [y]).length = l.length + 1 := by simp
          have HLEN := Lib.hid hlen
          have hll : l.length ≤ 900000 := by
            have h9 : (l ++ [y]).length ≤ raw.length := by rw [HOUT.out]; exact Nat.le_trans (normF_len _) (List.length_take_le' _ _)
            omega
          obtain ⟨_, us0, hus0, hown0, _, _⟩ := HO.out
          have hsix := six_row (l := l ++ [y]) (i := l.length) (by rw [hlen] at hown0; exact hown0) (by rw [hlen]) hus0 (by rw [hlen]; omega)
          have hye : (l ++ [y])[l.length]'(by rw [hlen]; omega) = y := by simp
          rw [hye] at hsix
          obtain ⟨r0, r1, _, _, _, _⟩ := hsix
          obtain ⟨TY, hTY⟩ : ∃ TY : ByteArray, TY = ⟨y.text.toArray⟩ := ⟨_, rfl⟩
          have hTY2 : TY.data.toList = y.text := by rw [hTY]
          unfold strV at r1
          rw [← hTY] at r1
          have HTY := Lib.hid hTY2
          have rf := hown0
          rw [hlen] at rf
          have rfr := rf.frozenAt (l.length * 6 + 1)
          have HUS0 := Lib.hid hus0
          clear hTY hTY2 hown0 hye rf
          have hcase : (y.joins p = false ∧ ((((p.kind : Int) == 2) = false ∧ ((y.kind : Int) == (p.kind : Int)) = false) ∨ (((p.kind : Int) == 2) = false ∧ ((y.kind : Int) == (p.kind : Int)) = true ∧ ((p.kind : Int) == 1) = false) ∨ (((p.kind : Int) == 2) = true ∧ T.toList.isEmpty = false ∧ (T.toList == []) = false ∧ ((y.kind : Int) == (p.kind : Int)) = false))) ∨
              (y.joins p = true ∧ ((((p.kind : Int) == 2) = false ∧ ((y.kind : Int) == (p.kind : Int)) = true ∧ ((p.kind : Int) == 1) = true) ∨ (((p.kind : Int) == 2) = true ∧ T.toList.isEmpty = false ∧ (T.toList == []) = false ∧ ((y.kind : Int) == (p.kind : Int)) = true ∧ ((p.kind : Int) == 1) = false))) := by
            have nk : ∀ a b : Nat, ((a : Int) == (b : Int)) = (a == b) := fun a b => by
              rw [Bool.eq_iff_iff, beq_iff_eq, beq_iff_eq]; omega
            have n1 : ((p.kind : Int) == 1) = (p.kind == 1) := nk p.kind 1
            have n2 : ((p.kind : Int) == 2) = (p.kind == 2) := nk p.kind 2
            have n3 := nk y.kind p.kind
            rw [n2] at e1
            rw [n1, n2, n3]
            unfold Pt.joins
            cases a1 : (y.kind == p.kind)
            · rcases e1 with e1 | ⟨e1, e2, e3⟩
              · exact .inl ⟨by simp, .inl ⟨e1, rfl⟩⟩
              · exact .inl ⟨by simp, .inr (.inr ⟨e1, e2, e3, rfl⟩)⟩
            · cases a2 : (p.kind == 1)
              · rcases e1 with e1 | ⟨e1, e2, e3⟩
                · exact .inl ⟨by rw [e1]; rfl, .inr (.inl ⟨e1, rfl, rfl⟩)⟩
                · exact .inr ⟨by rw [e1]; rfl, .inr ⟨e1, e2, e3, rfl, rfl⟩⟩
              · have e4 : (p.kind == 2) = false := by
                  rw [beq_iff_eq] at a2
                  rw [a2]; rfl
                exact .inr ⟨by simp, .inl ⟨e4, rfl, rfl⟩⟩
          have hsum : ¬ 9223372036854775807 < TY.size + T.size := by
            have w1 : y.text.length ≤ wtF raw := Nat.le_trans (wtF_mem (l := l ++ [y]) (by simp)) (by rw [HOUT.out]; exact Nat.le_trans (normF_wt _) (wtF_take _ _))
            have w2 : p.text.length ≤ wtF raw := wtF_mem (by rw [HP.out]; exact List.getElem_mem _)
            rw [Lib.size_eq, Lib.size_eq, HTY.out, HT.out]
            omega
          clear e1
          have p3 : 0 ≤ (l.length : Int) + 1 := by omega
          have p4 : (l.length : Int) < (l.length : Int) + 1 := by omega
          rcases hcase with ⟨hj, hcase⟩ | ⟨hj, hcase⟩
          · have hst2 : (normF (raw.take (k + 1))).1 = l ++ [y] ++ [p] := by rw [HST.out, addP_no hj]
            replace HST := Lib.hid hst2
            clear hst2 hj
            rcases hcase with ⟨e1, e2⟩ | ⟨e1, e2, e3⟩ | ⟨e1, e2, e3, e4⟩
            all_goals
              go_wp2_with fail
              go_quiet (fail)
              obtain ⟨_, us, hus, hown2, _, hun⟩ := ((HO.out.alloc (.cells #[.int .i64 (p.kind : Nat), .string T, .string ⟨p.name.toArray⟩, .string ⟨p.op.toArray⟩, .slice pa pl pc, .bool p.quoted] 39)).drewN nq)
              have HUN := Lib.hid hun
              have HUS := Lib.hid hus
              clear hun hus
              go_wp2_with (at_builtin; refine wpList_append_lies _ rfl (.tmp 59) (.tmp 61) _ rfl 0 39 i0 _ 6 88 Try.underlying32 hi0 hz0 hz1 hz2 rfl (by omega) (.slice (some ⟨go, 0, none⟩) (l.length + 1) co) (l.length + 1) (cellsL (l ++ [y]) us) rfl (by have := hown2.alloc (.cells #[.int .i64 (p.kind : Nat), .string T, .string ⟨p.name.toArray⟩, .string ⟨p.op.toArray⟩, .slice pa pl pc, .bool p.quoted] 39); rwa [hlen] at this) ⟨wr.heap.size + 1, 0, none⟩ 1 1 [.int .i64 (p.kind : Nat), .string T, .string ⟨p.name.toArray⟩, .string ⟨p.op.toArray⟩, .slice pa pl pc, .bool p.quoted] rfl rfl (World.news_of_block (cs := #[.int .i64 (p.kind : Nat), .string T, .string ⟨p.name.toArray⟩, .string ⟨p.op.toArray⟩, .slice pa pl pc, .bool p.quoted]) (t := 39) (fr := (0, 0)) (heap_new2 _ _ _ _)) (by simp [Value.oneCell']) (by omega) (by unfold maxLen; omega) (by omega) (by simp) (wr.heap.size + 2) (by simp) ?_; intro gg cap w1 hown1 hgrow hat hlt2)
              have hgg : w.heap.size ≤ gg := by
                have hws := HK.out.size
                rcases hat with hat | hat
                · first | (cases hat; done) | (obtain rfl := Option.some.inj hat; omega)
                · omega
              have hk1 : Keeps (fun _ => False) w w1 := (((HK.out.alloc _).drewN nq).alloc _).grown hgrow (fun yy hy hyl => by have h9 : go = yy := Option.some.inj hy; omega)
              have hmore := OutAt.more (w := w) (out := l ++ [y]) (p := p) HUS.out HUN.out HNK.out (by rw [cellsP, strV, ← HT.out, hlen]; exact hown1) hgg
              have HM := Lib.hid hmore
              have HK1 := Lib.hid hk1
              clear hmore hk1 hown1 hgrow hat
              go_wp2_with fail
              go_roundw
              case rel => exact ⟨k + 1, by go_num, by omega, Lib.hid (by rw [HST.out]; have := HM.out; rwa [HLEN.out] at this), HK1⟩
              case measure => simp [intOf]; omega

          · have hst2 : (normF (raw.take (k + 1))).1 = l ++ [y.join p] := by rw [HST.out, addP_yes hj]
            replace HST := Lib.hid hst2
            clear hst2 hj
            rcases hcase with ⟨e1, e2, e3⟩ | ⟨e1, e2, e3, e4, e5⟩
            all_goals
              go_wp2_with fail
              go_quiet (fail)
              go_wp2_with fail
              go_region
              go_wp2_with fail
              go_roundw
              case rel =>
                refine ⟨k + 1, by go_num, by omega, Lib.hid ?_, Lib.hid ?_⟩
                · rw [HST.out]
                  have hj2 := ((HO.out.alloc (.cells #[.int .i64 (p.kind : Nat), .string T, .string ⟨p.name.toArray⟩, .string ⟨p.op.toArray⟩, .slice pa pl pc, .bool p.quoted] 39)).drewN (nq + 1))
                  have hj3 := OutAt.join (p := p) (s := TY ++ T) (c := co) (g := go) (l := l) (y := y) (by rw [HLEN.out]; exact hj2) (by rw [ba_append, HTY.out, HT.out])
                  rw [show (l ++ [y.join p]).length = l.length + 1 by simp] at hj3
                  exact hj3
                · exact ((HK.out.alloc _).drewN _).setCell _ _ (fun hlt3 => by simp only at hlt3; omega)
              case measure => simp [intOf]; omega
    · obtain rfl : k = raw.length := by omega
      have hfin : normF (raw.take raw.length) = N := by rw [List.take_length]; exact H4.out
      rw [hfin] at HO
      have hflag : N.2 = decide (0 < raw.length) := by rw [← H4.out]; exact normF_flag _
      have hcw : wr.cell? ⟨wb, 0, none⟩ = some (Value.slice a raw.length c) := (World.cell?_of_block (a := ⟨wb, 0, none⟩) (HK.out.block wb lw (fun x => x))).trans c0
      rcases HO.out.shape with ⟨rfl, ho0⟩ | ⟨l, y, go, co, ho0, rfl, hgo, hgo2, hco, hco2⟩
      · rcases Nat.eq_zero_or_pos raw.length with hr0 | hr0
        · have ht : tidyOf N = [] := by unfold tidyOf; rw [ho0, hflag, hr0]; rfl
          have HT := Lib.hid ht
          have e1 : ¬ (0 : Int) < (raw.length : Int) := by omega
          have HR0 := Lib.hid hr0
          clear ht ho0 hflag hfin hr0
          go_wp2_with fail
          go_ret
          exact ⟨_, 0, rfl, by rw [HT.out]; exact PtsAt.nil _ _ _, HK.out⟩
        · have ht : tidyOf N = [quoP []] := by unfold tidyOf; rw [ho0, hflag, decide_eq_true hr0]; rfl
          have HT := Lib.hid ht
          have e1 : (0 : Int) < (raw.length : Int) := by omega
          clear ht ho0 hflag hfin
          go_wp2_with fail
          go_ret
          refine ⟨_, 1, rfl, ?_, HK.out.alloc _⟩
          rw [HT.out]
          have hws := HK.out.size
          refine one_quote wr ⟨by omega, by omega, fun e => ?_⟩
          have := HOWN.out.lt _ e
          omega
      · have ht : tidyOf N = l ++ [y] := by
          unfold tidyOf
          rw [ho0, show (l ++ [y]).isEmpty = false by cases l <;> rfl]; rfl
        have HT := Lib.hid ht
        have e1 : ((l.length : Int) + 1 == 0) = false := by rw [beq_eq_false_iff_ne]; omega
        have hO2 := HO.out
        rw [ho0] at hO2
        have HO2 := Lib.hid hO2
        clear ht hflag hfin ho0 hO2
        go_wp2_with fail
        go_ret
        refine ⟨_, n + 1, rfl, ?_, HK.out⟩
        rw [HT.out]
        refine HO2.out.reads HK.out (fun x hx => ⟨hx.1.1, hx.1.2, hx.2⟩) (fun x hx => ⟨by omega, by omega, fun e => ?_⟩)
        have := HOWN.out.lt _ e
        omega
end Go.Proofs.Ytnndnldpbdhkgaa
