/-
  Tokens laid behind tokens: append(x, y...).
  Plain: what is read ahead of a blank, or of a line end, is read as it is alone.
-/
import Derived.Test.YtnndnldpbdhkgaaLexAK
import Derived.Deep.Upon
import Derived.Test.YtnndnldpbdhkgaaLexPB
namespace Go.Proofs.Ytnndnldpbdhkgaa
open Go.RowKit
set_option linter.unusedVariables false

theorem cellsT_mem : ∀ {m : List Tk} {us : List Value} {x : Value}, x ∈ cellsT m us → ∃ p ∈ m, ∃ v ∈ us, x ∈ cellsK p v
  | [], us, x, h => by cases us <;> cases h
  | p :: l, [], x, h => by cases h
  | p :: l, v :: vs, x, h => by
    simp only [cellsT, List.mem_append] at h
    rcases h with h | h
    · exact ⟨p, List.mem_cons_self .., v, List.mem_cons_self .., h⟩
    · obtain ⟨q, hq, u, hu, hx⟩ := cellsT_mem h
      exact ⟨q, List.mem_cons_of_mem _ hq, u, List.mem_cons_of_mem _ hu, hx⟩
theorem OwnTks.news {w : World} {E : Nat → Prop} {u : Value} {m : List Tk} (h : OwnTks w E u m) (hm : 0 < m.length) :
    ∃ ad c us k, u = .slice (some ad) m.length c ∧ us.length = m.length ∧ (cellsT m us).length = m.length * 3 ∧ (∀ j x, (cellsT m us)[j]? = some x → w.cell? (ad.add j) = some x) ∧ (∀ x ∈ cellsT m us, x.oneCell' = true) ∧ ∀ i (h : i < m.length) (h' : i < us.length), PtsAt w E k m[i].word us[i] := by
  obtain ⟨vs, n, hl, ho, hn⟩ := h
  obtain ⟨g, cap, rfl, _, _⟩ := ho.form hm
  refine ⟨⟨g, 0, none⟩, cap, vs, n, rfl, hl, ho.1, fun j x hx => ?_, fun x hx => ?_, fun i h h' => (hn i h h').mono fun b _ hb => hb.1⟩
  · have hj : j < m.length * 3 := by rw [← ho.1]; exact (List.getElem?_eq_some_iff.1 hx).1
    have := ho.cellAt j hj
    rw [hx] at this
    rw [← this]
    exact congrArg w.cell? (by unfold Addr.add; split <;> simp [*])
  · obtain ⟨p, hp, v, hv, hx⟩ := cellsT_mem hx
    obtain ⟨i, hi, rfl⟩ := List.mem_iff_getElem.1 hv
    obtain ⟨a, c, e, _⟩ := (hn i (by omega) hi).shape
    rw [e] at hx
    simp only [cellsK, List.mem_cons, List.not_mem_nil, or_false] at hx
    rcases hx with rfl | rfl | rfl
    · rfl
    · rfl
    · rfl
theorem OwnTks.bound {w : World} {D : Nat → Prop} {v : Value} {l : List Tk} (h : OwnTks w D v l) : OwnTks w (fun b => D b ∧ b < w.heap.size) v l := by
  obtain ⟨vs, n, hl, ho, hn⟩ := h
  exact ⟨vs, n, hl, ho, fun i h h' => (hn i h h').mono fun b hb hd => ⟨⟨hd.1, hb⟩, hd.2⟩⟩
theorem OwnTks.mono' {w : World} {D D' : Nat → Prop} {v : Value} {l : List Tk} (h : OwnTks w D v l) (hD : ∀ b, D b → D' b) : OwnTks w D' v l := by
  obtain ⟨vs, n, hl, ho, hn⟩ := h
  exact ⟨vs, n, hl, ho, fun i h h' => (hn i h h').mono fun b hb hd => ⟨hD b hd.1, hd.2⟩⟩
/-- Many more. -/
theorem grow_all {w w' : World} {v v' : Value} {E : Nat → Prop} {raw more : List Tk} {vs us : List Value} {n m : Nat} (hl : vs.length = raw.length) (hl2 : us.length = more.length)
    (hnest : ∀ i (h : i < raw.length) (h' : i < vs.length), PtsAt w (fun b => v.ownBlock ≠ some b) n raw[i].word vs[i])
    (hmore : ∀ i (h : i < more.length) (h' : i < us.length), PtsAt w E m more[i].word us[i]) (hE : ∀ b, E b → v.ownBlock ≠ some b)
    (hown : w'.ownsRow 0 34 3 v' (raw.length + more.length) (cellsT raw vs ++ cellsT more us)) (hk : Keeps (fun b => v.ownBlock = some b) w w')
    (hg : ∀ y, v'.ownBlock = some y → v.ownBlock = some y ∨ w.heap.size ≤ y) :
    OwnTks w' (fun _ => True) v' (raw ++ more) := by
  have key : ∀ (k : Nat) (l : List Pt) (u : Value), PtsAt w (fun b => v.ownBlock ≠ some b) k l u → PtsAt w' (fun b => True ∧ v'.ownBlock ≠ some b) k l u := fun k l u h => by
    have h2 : PtsAt w (fun b => v.ownBlock ≠ some b ∧ b < w.heap.size) k l u := h.mono fun b hb hd => ⟨hd, hb⟩
    refine (h2.keep hk (fun b _ hd s => hd.1 s)).mono fun b _ hd => ⟨trivial, fun e => ?_⟩
    rcases hg b e with h3 | h3
    · exact hd.1 h3
    · have := hd.2; omega
  refine ⟨vs ++ us, max n m, by simp [hl, hl2], ?_, fun i h h' => ?_⟩
  · rw [cellsT_append hl, List.length_append]
    exact hown
  · by_cases hi : i < raw.length
    · rw [List.getElem_append_left hi, List.getElem_append_left (by omega)]
      exact (key _ _ _ (hnest i hi (by omega))).le (by omega)
    · rw [List.length_append] at h
      rw [List.getElem_append_right (by omega), List.getElem_append_right (by omega)]
      simp only [hl]
      exact (key _ _ _ ((hmore (i - raw.length) (by omega) (by omega)).mono fun b _ hb => hE b hb)).le (by omega)
/-- append(x, y...): what it asks and what it gives; y has tokens. -/
theorem OwnTks.join {w : World} {D E : Nat → Prop} {v : Value} {l m : List Tk} {ua : Option Addr} {un uc : Nat} (h : OwnTks w D v l) (hu : OwnTks w E (.slice ua un uc) m) (hm : 0 < m.length) (hE : ∀ b, E b → v.ownBlock ≠ some b) :
    un = m.length ∧ ∃ ad xs news, ua = some ad ∧ w.ownsRow 0 34 3 v l.length xs ∧ news.length = m.length * 3 ∧ (∀ j x, news[j]? = some x → w.cell? (ad.add j) = some x) ∧ (∀ x ∈ news, x.oneCell' = true) ∧
      ∀ g cap (w' : World), w'.ownsRow 0 34 3 (.slice (some ⟨g, 0, none⟩) (l.length + m.length) cap) (l.length + m.length) (xs ++ news) → w.grownBy w' v.ownBlock → (v.ownBlock = some g ∨ g = w.heap.size) →
        (∃ n, TksAt w' (fun _ => True) n (l ++ m) (.slice (some ⟨g, 0, none⟩) (l.length + m.length) cap)) ∧ Keeps (fun b => v.ownBlock = some b) w w' := by
  obtain ⟨ad, c, us, k, e, h1, h2, h3, h4, h5⟩ := hu.news hm
  injection e with e1 e2 e3
  refine ⟨e2, ad, ?_⟩
  obtain ⟨vs, n, hl, ho, hn⟩ := h
  refine ⟨cellsT l vs, cellsT m us, e1, ho, h2, h3, h4, fun g cap w' hown hg hat => ?_⟩
  have hk : Keeps (fun b => v.ownBlock = some b) w w' := (Keeps.refl _ w).grown hg fun k hk _ => hk
  refine ⟨?_, hk⟩
  have ho := grow_all (v := v) (v' := .slice (some ⟨g, 0, none⟩) (l.length + m.length) cap) hl h1 (fun i h h' => (hn i h h').mono fun b _ hb => hb.2) h5 hE hown hk (fun y hy => by
    obtain rfl : g = y := Option.some.inj hy
    rcases hat with e | e
    · exact .inl e
    · exact .inr (by omega))
  exact ho.reads (fun _ _ => trivial)
/-- append(x, line end). -/
theorem OwnTks.line {w : World} {B : Nat} {v : Value} {l : List Tk} {o : Obj} (T : ByteArray) (h : OwnTks w (fun b => B ≤ b) v l) (hlow : ∀ g, v.ownBlock = some g → B ≤ g) (hB : B ≤ w.heap.size) :
    ∃ xs, (w.alloc o).ownsRow 0 34 3 v l.length xs ∧ ∀ g cap (w' : World), w'.ownsRow 0 34 3 (.slice (some ⟨g, 0, none⟩) (l.length + 1) cap) (l.length + 1) (xs ++ [.int .i64 2, .string T, .slice none 0 0]) → (w.alloc o).grownBy w' v.ownBlock → (v.ownBlock = some g ∨ g = w.heap.size + 1) →
      OwnTks w' (fun b => B ≤ b) (.slice (some ⟨g, 0, none⟩) (l.length + 1) cap) (l ++ [⟨2, T.data.toList, []⟩]) ∧ B ≤ g ∧ (v.ownBlock = some g ∨ w.heap.size ≤ g) ∧ Keeps (fun b => v.ownBlock = some b) w w' := by
  obtain ⟨vs, m, hl, ho, hn⟩ := h
  refine ⟨_, ho.alloc o, fun g cap w' hown hg hat => ?_⟩
  have k : Keeps (fun b => v.ownBlock = some b) w w' := ((Keeps.refl _ w).alloc o).grown hg fun k hk _ => hk
  have hgo : v.ownBlock = some g ∨ w.heap.size ≤ g := by
    rcases hat with e | e
    · exact .inl e
    · exact .inr (by omega)
  have hgB : B ≤ g := by
    rcases hgo with e | e
    · exact hlow _ e
    · omega
  refine ⟨grow_tks (B := B) (v := v) (w := w) (x := ⟨2, T.data.toList, []⟩) (m := 0) (PtsAt.nil w _ 0) hl hn (by unfold cellsK; dsimp only; rw [show strV T.data.toList = .string T from strV_of rfl]; exact hown) k (fun y hy => ?_), hgB, hgo, k⟩
  obtain rfl : g = y := Option.some.inj hy
  exact hgo
/-- append(x, nothing...), behind a guard that lets it. -/
theorem wpList_append_none {P : Program} {w : World} {ops : Array Oper} {rest : List Oper} {o : Oper} {a : Act} {Q : Exit → Act → World → Prop} (hgd : Region.wanted o (yielded ops a.tmps) = true) (s x : Operand) (t : TypeId)
    (ho : o.op = .call { callee := .builtin .append, args := #[s, x], argTypes := #[t, t] }) (e : TypeId) (i : TypeInfo) (ht : P.underlying t = some (.slice e)) (hi : P.info? e = some i)
    (sa : Option Addr) (n c : Nat) (hs : a.eval s = .slice sa n c) (hle : n ≤ c) (xa : Option Addr) (xc : Nat) (hx : a.eval x = .slice xa 0 xc)
    (h : wpList P ops Q rest (a.put o.dst (.slice sa n c)) w) : wpList P ops Q (o :: rest) a w :=
  wpList_step fun K hK => by
    rw [if_pos hgd]
    have hsrc : Src P i.size t (.slice xa 0 xc) 0 [] w := by
      cases xa with
      | none => exact Src.ofNil w ht xc
      | some ad => exact Src.ofSlice w ht ad 0 xc [] (by simp) (fun j u hu => by simp at hu) (fun u hu => by cases hu)
    have hr := run_append_nothing (P := P) w t t o.type e i ht hi sa n c hle (.slice xa 0 xc) hsrc
    unfold Oper.wp execOp
    simp only [ho, resolve, invoke, builtin, Sem.run_bind, Sem.run_pure, Result.andThen_ok, List.map_toArray, List.map_cons, List.map_nil, hs, hx, hr]
    exact hK _ _ h
theorem wpList_append_g {P : Program} {w : World} {ops : Array Oper} {rest : List Oper} {o : Oper} {a : Act} {Q : Exit → Act → World → Prop} (hgd : Region.wanted o (yielded ops a.tmps) = true) (s x : Operand) (t : TypeId)
    (ho : o.op = .call { callee := .builtin .append, args := #[s, x], argTypes := #[t, t] })
    (base : Nat) (e : TypeId) (i : TypeInfo) (z : Value) (size bytes : Nat) (ht : P.underlying t = some (.slice e)) (hi : P.info? e = some i) (hz : i.zero = some z)
    (hsize : i.size = size) (hby : i.bytes = bytes) (hzs : z.cells.size = size) (hsz : 0 < size)
    (v : Value) (n : Nat) (xs : List Value) (hs : a.eval s = v) (hown : w.ownsRow base e size v n xs)
    (ad : Addr) (m c : Nat) (news : List Value) (hx : a.eval x = .slice (some ad) m c) (hl : news.length = m * size) (hnews : ∀ j u, news[j]? = some u → w.cell? (ad.add j) = some u) (h1 : ∀ u ∈ news, u.oneCell' = true)
    (hm : 0 < m) (h63 : n + m ≤ maxLen) (hbytes : (n + m) * bytes ≤ 140737488355328) (hbase : base ≤ w.heap.size) (H : Nat) (hH : w.heap.size = H)
    (h : ∀ g cap w', w'.ownsRow base e size (.slice (some ⟨g, 0, none⟩) (n + m) cap) (n + m) (xs ++ news) → w.grownBy w' v.ownBlock → (v.ownBlock = some g ∨ g = H) → g < w'.heap.size → wpList P ops Q rest (a.put o.dst (.slice (some ⟨g, 0, none⟩) (n + m) cap)) w') : wpList P ops Q (o :: rest) a w :=
  wpList_step fun K hK => by
    rw [if_pos hgd]
    exact wp_append_lies w s x t ho base e i z size bytes ht hi hz hsize hby hzs hsz v n xs hs hown ad m c news hx hl hnews h1 hm h63 hbytes hbase H hH fun g cap w' h2 h3 h4 h5 => hK _ _ (h g cap w' h2 h3 h4 h5)
end Go.Proofs.Ytnndnldpbdhkgaa
namespace Go.Proofs.Ytnndnldpbdhkgaa
set_option linter.unusedVariables false

/-- A blank or a line end. -/
def SepB (x : UInt8) : Prop := x = 32 ∨ x = 10
/-- No comment, no backslash. -/
def FreeL (r : List UInt8) : Prop := ∀ c ∈ r, (c == 35) = false ∧ (c == 92) = false
theorem FreeL.tail {c : UInt8} {t : List UInt8} (h : FreeL (c :: t)) : FreeL t := fun x hx => h x (List.mem_cons_of_mem _ hx)
theorem FreeL.drop {r : List UInt8} (h : FreeL r) (k : Nat) : FreeL (r.drop k) := fun x hx => h x (List.mem_of_mem_drop hx)
theorem FreeL.tl {r : List UInt8} (h : FreeL r) : FreeL r.tail := fun x hx => h x (List.mem_of_mem_tail hx)

theorem untilF_ext (c : UInt8) : ∀ (r e : List UInt8) (k : Nat), untilF c r = some k → untilF c (r ++ e) = some k ∧ k < r.length
  | [], _, _, h => by cases h
  | x :: t, e, k, h => by
    unfold untilF at h
    rw [List.cons_append]
    unfold untilF
    split at h
    · next hx => obtain rfl := Option.some.inj h; rw [if_pos hx]; exact ⟨rfl, Nat.succ_pos _⟩
    · next hx =>
      cases h2 : untilF c t with
      | none => rw [h2] at h; cases h
      | some j =>
        rw [h2] at h
        obtain rfl := Option.some.inj h
        obtain ⟨i1, i2⟩ := untilF_ext c t e j h2
        rw [if_neg hx, i1]
        exact ⟨rfl, by simp only [List.length_cons]; omega⟩
theorem calcF_ext : ∀ (r e : List UInt8) (o k : Nat), calcF o r = some k → calcF o (r ++ e) = some k ∧ k + 2 ≤ r.length
  | [], _, _, _, h => by cases h
  | c :: t, e, o, k, h => by
    unfold calcF at h
    rw [List.cons_append]
    unfold calcF
    by_cases h1 : (c == 40) = true
    · rw [if_pos h1] at h ⊢
      cases h2 : calcF (o + 1) t with
      | none => rw [h2] at h; cases h
      | some j =>
        rw [h2] at h
        obtain rfl := Option.some.inj h
        obtain ⟨i1, i2⟩ := calcF_ext t e _ j h2
        rw [i1]
        exact ⟨rfl, by simp only [List.length_cons]; omega⟩
    rw [if_neg h1] at h ⊢
    by_cases h3 : (c == 41) = true
    · rw [if_pos h3] at h ⊢
      by_cases h0 : o = 0
      · rw [if_pos h0] at h ⊢
        cases t with
        | nil => cases h
        | cons x t' =>
          have hh : headIs 41 (x :: t' ++ e) = headIs 41 (x :: t') := rfl
          rw [hh]
          split at h
          · next hx => obtain rfl := Option.some.inj h; rw [if_pos hx]; exact ⟨rfl, by simp only [List.length_cons]; omega⟩
          · cases h
      · rw [if_neg h0] at h ⊢
        cases h2 : calcF (o - 1) t with
        | none => rw [h2] at h; cases h
        | some j =>
          rw [h2] at h
          obtain rfl := Option.some.inj h
          obtain ⟨i1, i2⟩ := calcF_ext t e _ j h2
          rw [i1]
          exact ⟨rfl, by simp only [List.length_cons]; omega⟩
    rw [if_neg h3] at h ⊢
    cases h2 : calcF o t with
    | none => rw [h2] at h; cases h
    | some j =>
      rw [h2] at h
      obtain rfl := Option.some.inj h
      obtain ⟨i1, i2⟩ := calcF_ext t e _ j h2
      rw [i1]
      exact ⟨rfl, by simp only [List.length_cons]; omega⟩
theorem map_some {o : Option Nat} {k : Nat} (h : o.map (· + 1) = some k) : ∃ j, o = some j ∧ k = j + 1 := by
  cases o with
  | none => cases h
  | some j => exact ⟨j, rfl, (Option.some.inj h).symm⟩
theorem subF_ext : ∀ (r e : List UInt8) (m : SM) (o k : Nat), subF m o r = some k → subF m o (r ++ e) = some k ∧ k < r.length
  | [], _, m, _, _, h => by cases m <;> cases h
  | c :: t, e, m, o, k, h => by
    have key : ∀ (m' : SM) (o' : Nat), (subF m' o' t).map (· + 1) = some k → (subF m' o' (t ++ e)).map (· + 1) = some k ∧ k < (c :: t).length := fun m' o' h' => by
      obtain ⟨j, hj, rfl⟩ := map_some h'
      obtain ⟨i1, i2⟩ := subF_ext t e m' o' j hj
      rw [i1]
      exact ⟨rfl, by simp only [List.length_cons]; omega⟩
    rw [List.cons_append]
    cases m with
    | n =>
      unfold subF at h ⊢
      by_cases h1 : (c == 39) = true
      · rw [if_pos h1] at h ⊢; exact key _ _ h
      rw [if_neg h1] at h ⊢
      by_cases h2 : (c == 34) = true
      · rw [if_pos h2] at h ⊢; exact key _ _ h
      rw [if_neg h2] at h ⊢
      by_cases h3 : (c == 92) = true
      · rw [if_pos h3] at h ⊢; exact key _ _ h
      rw [if_neg h3] at h ⊢
      by_cases h4 : (c == 40) = true
      · rw [if_pos h4] at h ⊢; exact key _ _ h
      rw [if_neg h4] at h ⊢
      by_cases h5 : (c == 41) = true
      · rw [if_pos h5] at h ⊢
        by_cases h0 : o = 0
        · rw [if_pos h0] at h ⊢; obtain rfl := Option.some.inj h; exact ⟨rfl, Nat.succ_pos _⟩
        · rw [if_neg h0] at h ⊢; exact key _ _ h
      · rw [if_neg h5] at h ⊢; exact key _ _ h
    | q1 => unfold subF at h ⊢; exact key _ _ h
    | q2 => unfold subF at h ⊢; exact key _ _ h
    | bn => unfold subF at h ⊢; exact key _ _ h
    | bq => unfold subF at h ⊢; exact key _ _ h

theorem sep_letter {x : UInt8} (hx : SepB x) : letterB x = false ∧ digitB x = false ∧ specialB x = false := by
  rcases hx with rfl | rfl <;> decide
theorem tailRun_ext {x : UInt8} (hx : SepB x) (b : List UInt8) : ∀ r, tailRun (r ++ x :: b) = tailRun r
  | [] => by
    obtain ⟨h1, h2, _⟩ := sep_letter hx
    show (if letterB x || digitB x then _ else 0) = 0
    rw [h1, h2, if_neg (by simp)]
  | c :: t => by
    show (if letterB c || digitB c then tailRun (t ++ x :: b) + 1 else 0) = (if letterB c || digitB c then tailRun t + 1 else 0)
    rw [tailRun_ext hx b t]
theorem digRun_ext {x : UInt8} (hx : SepB x) (b : List UInt8) : ∀ r, digRun (r ++ x :: b) = digRun r
  | [] => by
    obtain ⟨h1, h2, _⟩ := sep_letter hx
    show (if digitB x then _ else 0) = 0
    rw [h2, if_neg (by simp)]
  | c :: t => by
    show (if digitB c then digRun (t ++ x :: b) + 1 else 0) = (if digitB c then digRun t + 1 else 0)
    rw [digRun_ext hx b t]
theorem runF_ext {x : UInt8} (hx : SepB x) (b : List UInt8) (r : List UInt8) : runF (r ++ x :: b) = runF r := by
  cases r with
  | nil =>
    obtain ⟨h1, h2, _⟩ := sep_letter hx
    show (if letterB x then _ else 0) = 0
    rw [h1, if_neg (by simp)]
  | cons c t =>
    show (if letterB c then tailRun (t ++ x :: b) + 1 else 0) = (if letterB c then tailRun t + 1 else 0)
    rw [tailRun_ext hx b t]
theorem nameF_ext {x : UInt8} (hx : SepB x) (b : List UInt8) (q : Bool) (r : List UInt8) : nameF q (r ++ x :: b) = nameF q r := by
  unfold nameF
  rw [runF_ext hx]
  cases r with
  | nil =>
    obtain ⟨h1, h2, h3⟩ := sep_letter hx
    show (if runF [] > 0 then _ else if digitB x then _ else if specialB x then 1 else 0) = _
    rw [h2, h3]
    rfl
  | cons c t =>
    rw [List.cons_append]
    dsimp only
    rw [digRun_ext hx]
theorem starts_sep {x : UInt8} (b : List UInt8) : ∀ (o : List UInt8), x ∉ o → ∀ r, startsF o (r ++ x :: b) = startsF o r
  | [], _, r => by rw [show ∀ z, startsF [] z = true from fun z => rfl, show ∀ z, startsF [] z = true from fun z => rfl]
  | a :: p, h, [] => by
    show (a == x && startsF p b) = false
    rw [show (a == x) = false from beq_eq_false_iff_ne.2 (fun e => h (e ▸ List.mem_cons_self ..)), Bool.false_and]
  | a :: p, h, c :: t => by
    show (a == c && startsF p (t ++ x :: b)) = (a == c && startsF p t)
    rw [starts_sep b p (fun hm => h (List.mem_cons_of_mem _ hm)) t]
theorem starts_sep1 {x : UInt8} (b : List UInt8) (o : List UInt8) (h : x ∉ o.tail) (c : UInt8) (t : List UInt8) : startsF o (c :: t ++ x :: b) = startsF o (c :: t) := by
  cases o with
  | nil => rfl
  | cons a p =>
    show (a == c && startsF p (t ++ x :: b)) = (a == c && startsF p t)
    rw [starts_sep b p h t]
theorem find_congr {α} {p q : α → Bool} : ∀ (l : List α), (∀ a ∈ l, p a = q a) → l.find? p = l.find? q
  | [], _ => rfl
  | a :: l, h => by
    rw [List.find?_cons, List.find?_cons, h a (List.mem_cons_self ..), find_congr l fun y hy => h y (List.mem_cons_of_mem _ hy)]
theorem opF_ext {x : UInt8} (hx : SepB x) (b r : List UInt8) : opF (r ++ x :: b) = opF r := by
  unfold opF findF
  rw [find_congr (q := fun o => startsF o r) opsL fun o ho => starts_sep b o (by
    have h32 : ∀ o ∈ opsL, (32 : UInt8) ∉ o ∧ (10 : UInt8) ∉ o := by decide
    rcases hx with rfl | rfl
    · exact (h32 o ho).1
    · exact (h32 o ho).2) r]
theorem operF_ext {x : UInt8} (hx : SepB x) (b : List UInt8) (c : UInt8) (t : List UInt8) : operF (c :: t ++ x :: b) = operF (c :: t) := by
  unfold operF findF
  rw [find_congr (q := fun o => startsF o (c :: t)) operL fun o ho => starts_sep1 b o (by
    have h32 : ∀ o ∈ operL, (32 : UInt8) ∉ o.tail ∧ (10 : UInt8) ∉ o.tail := by decide
    rcases hx with rfl | rfl
    · exact (h32 o ho).1
    · exact (h32 o ho).2) c t]
theorem headIs_ext {y x : UInt8} (h : y ≠ x) (b r : List UInt8) : headIs y (r ++ x :: b) = headIs y r := by
  cases r with
  | nil => show (x == y) = false; exact beq_eq_false_iff_ne.2 (Ne.symm h)
  | cons c t => rfl
theorem sep_ne {x y : UInt8} (hx : SepB x) (h : y ≠ 32 ∧ y ≠ 10) : y ≠ x := by
  rcases hx with rfl | rfl
  · exact h.1
  · exact h.2
theorem longB_free {r : List UInt8} (h : FreeL r) : longB r = false := by
  unfold longB
  cases r with
  | nil => rfl
  | cons c t => show ((c == 35) && _ && _) = false; rw [(h c (List.mem_cons_self ..)).1]; rfl
theorem longB_ext {x : UInt8} (hx : SepB x) (b : List UInt8) {r : List UInt8} (h : FreeL r) : longB (r ++ x :: b) = false := by
  unfold longB
  rw [headIs_ext (sep_ne hx (by decide)) b r]
  cases r with
  | nil => rfl
  | cons c t => show ((c == 35) && _ && _) = false; rw [(h c (List.mem_cons_self ..)).1]; rfl
theorem drop_ext {r e : List UInt8} {k : Nat} (h : k ≤ r.length) : (r ++ e).drop k = r.drop k ++ e := List.drop_append_of_le_length h
theorem take_ext {r e : List UInt8} {k : Nat} (h : k ≤ r.length) : (r ++ e).take k = r.take k := List.take_append_of_le_length h
theorem lexD_ext {x : UInt8} (hx : SepB x) (b : List UInt8) : ∀ (n : Nat) (md : Md) (d : Nat) (r : List UInt8) (l : List Pt) (r1 : List UInt8), FreeL r → ((∀ q, md = .one q → r ≠ []) : Prop) → lexD n md d r = .ok (l, r1) →
    lexC md d (r ++ x :: b) = .ok (l, r1 ++ x :: b) ∧ FreeL r1 := by
  intro n
  induction n with
  | zero => intro md d r l r1 _ _ h; cases md <;> cases h
  | succ n ih =>
    intro md d r l r1 hf hne h
    cases md with
    | one q =>
      cases r with
      | nil => exact absurd rfl (hne q rfl)
      | cons c t =>
        have hft := hf.tail
        have h92 := (hf c (List.mem_cons_self ..)).2
        rw [List.cons_append]
        cases q with
        | false =>
          rw [lexD_out] at h
          rw [lexC_out]
          by_cases h39 : (c == 39) = true
          · rw [if_pos h39] at h ⊢
            cases hu : untilF 39 t with
            | none => rw [hu] at h; cases h
            | some k =>
              rw [hu] at h
              obtain ⟨rfl, rfl⟩ := Prod.mk.inj (Except.ok.inj h)
              obtain ⟨i1, i2⟩ := untilF_ext 39 t (x :: b) k hu
              rw [i1]
              dsimp only
              rw [take_ext (by omega), drop_ext (by omega)]
              exact ⟨rfl, hft.drop _⟩
          rw [if_neg h39] at h ⊢
          by_cases h34 : (c == 34) = true
          · rw [if_pos h34] at h ⊢
            obtain ⟨m, hm, rfl⟩ := ahead_ok h
            obtain ⟨i1, i2⟩ := ih .dq d t m r1 hft (by intro q e; cases e) hm
            rw [i1]
            exact ⟨rfl, i2⟩
          rw [if_neg h34] at h ⊢
          rw [if_neg (by rw [h92]; simp)] at h ⊢
          by_cases h96 : (c == 96) = true
          · rw [if_pos h96] at h; cases h
          rw [if_neg h96] at h ⊢
          by_cases h36 : (c == 36) = true
          · rw [if_pos h36] at h ⊢
            exact ih (.dol false) d t l r1 hft (by intro q e; cases e) h
          rw [if_neg h36] at h ⊢
          obtain ⟨rfl, rfl⟩ := Prod.mk.inj (Except.ok.inj h)
          exact ⟨rfl, hft⟩
        | true =>
          rw [lexD_inn] at h
          rw [lexC_inn]
          by_cases h34 : (c == 34 || c == 96) = true
          · rw [if_pos h34] at h; cases h
          rw [if_neg h34] at h ⊢
          rw [if_neg (by rw [h92]; simp), if_neg (by rw [h92]; simp)] at h ⊢
          by_cases h36 : (c == 36) = true
          · rw [if_pos h36] at h ⊢
            exact ih (.dol true) d t l r1 hft (by intro q e; cases e) h
          rw [if_neg h36] at h ⊢
          obtain ⟨rfl, rfl⟩ := Prod.mk.inj (Except.ok.inj h)
          exact ⟨rfl, hft⟩
    | dq =>
      rw [lexD_dq] at h
      rw [lexC_dq]
      cases r with
      | nil => cases h
      | cons c t =>
        rw [List.cons_append]
        dsimp only at h ⊢
        by_cases h34 : (c == 34) = true
        · rw [if_pos h34] at h ⊢
          obtain ⟨rfl, rfl⟩ := Prod.mk.inj (Except.ok.inj h)
          exact ⟨rfl, hf.tail⟩
        · rw [if_neg h34] at h ⊢
          cases h2 : lexD n (.one true) d (c :: t) with
          | error e => rw [h2] at h; cases h
          | ok z =>
            obtain ⟨l2, r2⟩ := z
            rw [h2] at h
            obtain ⟨m, hm, rfl⟩ := ahead_ok h
            obtain ⟨i1, i2⟩ := ih (.one true) d (c :: t) l2 r2 hf (fun _ _ e => by cases e) h2
            obtain ⟨j1, j2⟩ := ih .dq d r2 m r1 i2 (by intro q e; cases e) hm
            rw [List.cons_append] at i1
            rw [i1]
            dsimp only
            rw [j1]
            exact ⟨rfl, j2⟩
    | br q =>
      rw [lexD_br] at h
      rw [lexC_br]
      cases r with
      | nil => cases h
      | cons c t =>
        rw [List.cons_append]
        dsimp only at h ⊢
        by_cases h34 : (c == 125) = true
        · rw [if_pos h34] at h ⊢
          obtain ⟨rfl, rfl⟩ := Prod.mk.inj (Except.ok.inj h)
          exact ⟨rfl, hf.tail⟩
        · rw [if_neg h34] at h ⊢
          cases h2 : lexD n (.one q) d (c :: t) with
          | error e => rw [h2] at h; cases h
          | ok z =>
            obtain ⟨l2, r2⟩ := z
            rw [h2] at h
            obtain ⟨m, hm, rfl⟩ := ahead_ok h
            obtain ⟨i1, i2⟩ := ih (.one q) d (c :: t) l2 r2 hf (fun _ _ e => by cases e) h2
            obtain ⟨j1, j2⟩ := ih (.br q) d r2 m r1 i2 (by intro q e; cases e) hm
            rw [List.cons_append] at i1
            rw [i1]
            dsimp only
            rw [j1]
            exact ⟨rfl, j2⟩
    | dol q =>
      rw [lexD_dol] at h
      rw [lexC_dol]
      rw [headIs_ext (sep_ne hx (by decide)) b r]
      by_cases h1 : headIs 123 r = true
      · rw [if_pos h1] at h ⊢
        obtain ⟨t, rfl⟩ := headIs_cons h1
        exact ih (.brace q) d t l r1 hf.tail (by intro q e; cases e) h
      rw [if_neg h1] at h ⊢
      rw [starts_sep b [40, 40] (by intro hm; simp at hm; exact sep_ne hx (y := 40) (by decide) hm.symm) r]
      by_cases h2 : startsF [40, 40] r = true
      · rw [if_pos h2] at h ⊢
        have hl : 2 ≤ r.length := by
          match r, h2 with
          | [], h => cases h
          | [a], h => simp [startsF] at h
          | a :: c :: t, _ => simp
        rw [drop_ext hl]
        cases hu : calcF 0 (r.drop 2) with
        | none => rw [hu] at h; cases h
        | some k =>
          rw [hu] at h
          obtain ⟨rfl, rfl⟩ := Prod.mk.inj (Except.ok.inj h)
          obtain ⟨i1, i2⟩ := calcF_ext _ (x :: b) _ k hu
          rw [i1]
          dsimp only
          rw [take_ext (by omega), drop_ext (by omega)]
          exact ⟨rfl, (hf.drop _).drop _⟩
      rw [if_neg h2] at h ⊢
      rw [headIs_ext (sep_ne hx (by decide)) b r]
      by_cases h3 : headIs 40 r = true
      · rw [if_pos h3] at h ⊢
        obtain ⟨t, rfl⟩ := headIs_cons h3
        rw [List.cons_append, List.tail_cons]
        rw [List.tail_cons] at h
        cases hu : subF .n 0 t with
        | none => rw [hu] at h; cases h
        | some k =>
          rw [hu] at h
          obtain ⟨rfl, rfl⟩ := Prod.mk.inj (Except.ok.inj h)
          obtain ⟨i1, i2⟩ := subF_ext t (x :: b) _ _ k hu
          rw [i1]
          dsimp only
          rw [take_ext (by omega), drop_ext (by omega)]
          exact ⟨rfl, hf.tail.drop _⟩
      rw [if_neg h3] at h ⊢
      rw [nameF_ext hx]
      by_cases h4 : nameF false r = 0
      · rw [if_pos h4] at h ⊢
        obtain ⟨rfl, rfl⟩ := Prod.mk.inj (Except.ok.inj h)
        exact ⟨rfl, hf⟩
      · rw [if_neg h4] at h ⊢
        obtain ⟨rfl, rfl⟩ := Prod.mk.inj (Except.ok.inj h)
        have hk := nameF_le false r
        rw [take_ext (by omega), drop_ext (by omega)]
        exact ⟨rfl, hf.drop _⟩
    | brace q =>
      rw [lexD_brace] at h
      rw [lexC_brace]
      rw [longB_free hf] at h
      rw [longB_ext hx b hf]
      simp only [Bool.false_eq_true, if_false, Bool.or_false] at h ⊢
      rw [nameF_ext hx]
      by_cases h0 : nameF true r = 0
      · rw [if_pos h0] at h; cases h
      rw [if_neg h0] at h ⊢
      have hk := nameF_le true r
      rw [drop_ext hk, take_ext hk, headIs_ext (sep_ne hx (by decide)) b]
      have hfk := hf.drop (nameF true r)
      obtain ⟨r2, hr2⟩ : ∃ r2, r2 = r.drop (nameF true r) := ⟨_, rfl⟩
      rw [← hr2] at h hfk ⊢
      by_cases h1 : headIs 125 r2 = true
      · rw [if_pos h1] at h ⊢
        obtain ⟨rfl, rfl⟩ := Prod.mk.inj (Except.ok.inj h)
        obtain ⟨t, ht⟩ := headIs_cons h1
        rw [ht, List.cons_append, List.tail_cons, List.tail_cons]
        rw [ht] at hfk
        exact ⟨rfl, hfk.tail⟩
      rw [if_neg h1] at h ⊢
      rw [opF_ext hx]
      by_cases h2 : (opF r2).isEmpty = true
      · rw [if_pos h2] at h; cases h
      rw [if_neg h2] at h ⊢
      by_cases h3 : d = 40
      · rw [if_pos h3] at h; cases h
      rw [if_neg h3] at h ⊢
      have hop := opF_le r2
      rw [drop_ext hop]
      cases h4 : lexD n (.br q) (d + 1) (r2.drop (opF r2).length) with
      | error e => rw [h4] at h; cases h
      | ok z =>
        obtain ⟨l2, r3⟩ := z
        rw [h4] at h
        obtain ⟨rfl, rfl⟩ := Prod.mk.inj (Except.ok.inj h)
        obtain ⟨i1, i2⟩ := ih (.br q) (d + 1) _ l2 r3 (hfk.drop _) (by intro q e; cases e) h4
        rw [i1]
        exact ⟨rfl, i2⟩

theorem wordC_ext {x : UInt8} (hx : SepB x) (b : List UInt8) : ∀ (n : Nat) (r : List UInt8) (l : List Pt) (r1 : List UInt8), r.length ≤ n → FreeL r → wordC false r = .ok (l, r1) → wordC false (r ++ x :: b) = .ok (l, r1 ++ x :: b) ∧ FreeL r1 ∧ r1.length ≤ r.length := by
  have hb : breaksB x = true := by rcases hx with rfl | rfl <;> rfl
  intro n
  induction n with
  | zero =>
    intro r l r1 hn hf h
    obtain rfl : r = [] := List.eq_nil_of_length_eq_zero (by omega)
    rw [wordC_nil] at h
    obtain ⟨rfl, rfl⟩ := Prod.mk.inj (Except.ok.inj h)
    rw [List.nil_append, wordC_cons, if_pos (by rw [hb]; rfl)]
    exact ⟨rfl, hf, Nat.le_refl _⟩
  | succ n ih =>
    intro r l r1 hn hf h
    cases r with
    | nil =>
      rw [wordC_nil] at h
      obtain ⟨rfl, rfl⟩ := Prod.mk.inj (Except.ok.inj h)
      rw [List.nil_append, wordC_cons, if_pos (by rw [hb]; rfl)]
      exact ⟨rfl, hf, Nat.le_refl _⟩
    | cons c t =>
      rw [wordC_cons] at h
      rw [List.cons_append, wordC_cons]
      by_cases h1 : (!false && breaksB c) = true
      · rw [if_pos h1] at h ⊢
        obtain ⟨rfl, rfl⟩ := Prod.mk.inj (Except.ok.inj h)
        exact ⟨rfl, hf, Nat.le_refl _⟩
      rw [if_neg h1] at h ⊢
      cases h2 : lexC (.one false) 0 (c :: t) with
      | error e => rw [h2] at h; cases h
      | ok z =>
        obtain ⟨l2, r2⟩ := z
        rw [h2] at h
        obtain ⟨m, hm, rfl⟩ := ahead_ok h
        obtain ⟨i1, i2⟩ := lexD_ext hx b _ (.one false) 0 (c :: t) l2 r2 hf (fun _ _ e => by cases e) h2
        have hl := lexD_len _ _ _ _ _ _ h2
        simp only [Md.least, List.length_cons] at hl hn
        obtain ⟨j1, j2, j3⟩ := ih r2 m r1 (by omega) i2 hm
        rw [List.cons_append] at i1
        rw [i1]
        dsimp only
        rw [j1]
        exact ⟨rfl, j2, by simp only [List.length_cons]; omega⟩

theorem skipF_ext (e : List UInt8) : ∀ (r : List UInt8), FreeL r → FreeL (skipF false r) ∧ (skipF false r).length ≤ r.length ∧ skipF false (r ++ e) = (if skipF false r = [] then skipF false e else skipF false r ++ e)
  | [], h => ⟨h, Nat.le_refl _, rfl⟩
  | c :: t, h => by
    obtain ⟨h35, h92⟩ := h c (List.mem_cons_self ..)
    obtain ⟨i1, i2, i3⟩ := skipF_ext e t h.tail
    rw [List.cons_append, skipF_cons, skipF_cons]
    by_cases h1 : (c == 32 || c == 9) = true
    · rw [if_pos h1, if_pos h1]
      exact ⟨i1, by simp only [List.length_cons]; omega, i3⟩
    · rw [if_neg h1, if_neg h1]
      simp only [h35, h92, Bool.false_eq_true, if_false]
      exact ⟨h, Nat.le_refl _, by rw [if_neg (by simp)]; rfl⟩

theorem tokC_ext {x : UInt8} (hx : SepB x) (b : List UInt8) : ∀ (n : Nat) (r : List UInt8) (l : List Tk), r.length ≤ n → FreeL r → tokC r = .ok l → tokC (r ++ x :: b) = consL l (tokC (x :: b)) := by
  intro n
  induction n with
  | zero =>
    intro r l hn hf h
    obtain rfl : r = [] := List.eq_nil_of_length_eq_zero (by omega)
    have : ([] : List Tk) = l := Except.ok.inj h
    rw [← this, consL_nil]; rfl
  | succ n ih =>
    intro r l hn hf h
    obtain ⟨s1, s2, s3⟩ := skipF_ext (x :: b) r hf
    rw [tokC_eq] at h
    rw [tokC_eq (r ++ x :: b), s3]
    cases hs : skipF false r with
    | nil =>
      rw [hs] at h
      have : ([] : List Tk) = l := Except.ok.inj h
      rw [← this, consL_nil, if_pos rfl, ← tokC_eq]
    | cons c t =>
      rw [hs] at h s1 s2
      rw [if_neg (by simp)]
      dsimp only at h
      have key : ∃ y r1, tokOne (c :: t) = .ok (y, r1) ∧ tokOne (c :: t ++ x :: b) = .ok (y, r1 ++ x :: b) ∧ FreeL r1 := by
        cases h2 : tokOne (c :: t) with
        | error e => rw [h2] at h; cases h
        | ok z =>
          obtain ⟨y, r1⟩ := z
          refine ⟨y, r1, rfl, ?_⟩
          by_cases hop : operF (c :: t) = []
          · by_cases h38 : headIs 38 (c :: t) = true
            · unfold tokOne at h2
              rw [if_pos (by rw [hop]; rfl), if_pos h38] at h2
              cases h2
            · rw [tokOne_word hop (by simpa using h38)] at h2
              rw [tokOne_word (by rw [operF_ext hx, hop]) (by rw [headIs_ext (sep_ne hx (by decide))]; simpa using h38)]
              cases h3 : wordC false (c :: t) with
              | error e => rw [h3] at h2; cases h2
              | ok z2 =>
                obtain ⟨l2, r2⟩ := z2
                rw [h3] at h2
                obtain ⟨rfl, rfl⟩ := Prod.mk.inj (Except.ok.inj h2)
                obtain ⟨i1, i2, _⟩ := wordC_ext hx b _ _ _ _ (Nat.le_refl _) s1 h3
                rw [i1]
                exact ⟨rfl, i2⟩
          · rw [tokOne_op hop] at h2
            obtain ⟨rfl, rfl⟩ := Prod.mk.inj (Except.ok.inj h2)
            have hle := operF_le (c :: t)
            rw [tokOne_op (by rw [operF_ext hx]; exact hop), operF_ext hx, drop_ext hle]
            exact ⟨rfl, s1.drop _⟩
      obtain ⟨y, r1, h2, h3, h4⟩ := key
      have hl := tokOne_len (skip_head hs) h2
      rw [h2] at h
      dsimp only at h
      rw [List.cons_append]
      dsimp only
      rw [← List.cons_append, h3]
      dsimp only
      cases h5 : tokC r1 with
      | error e => rw [h5] at h; cases h
      | ok l2 =>
        rw [h5] at h
        have hl2 : (y :: l2) = l := Except.ok.inj h
        simp only [List.length_cons] at hl s2
        rw [ih r1 l2 (by omega) h4 h5, ← hl2]
        cases tokC (x :: b) with
        | error e => rfl
        | ok m => rfl
theorem tokC_sep {b : List UInt8} : tokC (10 :: b) = consT ⟨2, [10], []⟩ (tokC b) := by
  rw [tokC_eq, show skipF false (10 :: b) = 10 :: b by rw [skipF_cons]; rfl]
  dsimp only
  have h : operF (10 :: b) = [10] := by rfl
  rw [tokOne_op (by rw [h]; simp), h]
  rfl
theorem mayF_app {a b c : List UInt8} (ha : mayF a = 0) (hb : mayF b = 0) (hc : c.contains 0 = false) (hl : a.length + c.length + b.length ≤ 16384) : mayF (a ++ c ++ b) = 0 := by
  have key : ∀ s : List UInt8, mayF s = 0 → s.contains 0 = false := fun s h => by
    unfold mayF at h
    split at h
    · cases h
    · split at h
      · cases h
      · next h2 => simpa using h2
  unfold mayF
  rw [if_neg (by simp only [List.length_append]; omega), if_neg]
  have h1 := key a ha
  have h2 := key b hb
  simp only [List.contains_eq_mem, decide_eq_false_iff_not] at h1 h2 hc
  simp only [List.contains_eq_mem, decide_eq_true_eq, List.mem_append]
  rintro ((h | h) | h)
  · exact h1 h
  · exact hc h
  · exact h2 h
theorem may_ok {s : List UInt8} {l : List Tk} (h : tokensF s = .ok l) : mayF s = 0 ∧ tokC s = .ok l := by
  by_cases hm : mayF s = 0
  · exact ⟨hm, by rw [← tokensF_C s hm]; exact h⟩
  · unfold tokensF at h
    rw [if_neg hm] at h
    cases h
/-- Parted by a blank. -/
theorem split_blank {a b : List UInt8} {x y : List Tk} (ha : tokensF a = .ok x) (hb : tokensF b = .ok y) (hf : FreeL a) (hl : a.length + 1 + b.length ≤ 16384) : tokensF (a ++ [32] ++ b) = .ok (x ++ y) := by
  obtain ⟨a1, a2⟩ := may_ok ha
  obtain ⟨b1, b2⟩ := may_ok hb
  rw [tokensF_C _ (mayF_app (c := [32]) a1 b1 (by decide) hl), List.append_assoc, List.singleton_append, tokC_ext (.inl rfl) b _ a x (Nat.le_refl _) hf a2]
  rw [show tokC (32 :: b) = tokC b by rw [tokC_eq (32 :: b), tokC_eq b, skipF_cons]; rfl, b2]
  rfl
theorem split_line {a b : List UInt8} {x y : List Tk} (ha : tokensF a = .ok x) (hb : tokensF b = .ok y) (hf : FreeL a) (hl : a.length + 1 + b.length ≤ 16384) : tokensF (a ++ [10] ++ b) = .ok (x ++ [⟨2, [10], []⟩] ++ y) := by
  obtain ⟨a1, a2⟩ := may_ok ha
  obtain ⟨b1, b2⟩ := may_ok hb
  rw [tokensF_C _ (mayF_app (c := [10]) a1 b1 (by decide) hl), List.append_assoc, List.singleton_append, tokC_ext (.inr rfl) b _ a x (Nat.le_refl _) hf a2]
  rw [tokC_sep, b2]
  show Except.ok _ = Except.ok _
  rw [List.append_assoc]; rfl
/-- In a comment. -/
theorem skip_comm : ∀ (a r : List UInt8), (∀ c ∈ a, (c == 10) = false) → (headIs 10 r = true ∨ r = []) → skipF true (a ++ r) = r
  | [], r, _, h => by
    rcases h with h | h
    · obtain ⟨t, rfl⟩ := headIs_cons h; rfl
    · rw [h]; rfl
  | c :: a, r, hc, h => by
    show (if c == 10 then _ else skipF true (a ++ r)) = r
    rw [hc c (List.mem_cons_self ..), if_neg (by simp)]
    exact skip_comm a r (fun x hx => hc x (List.mem_cons_of_mem _ hx)) h
theorem comm_line {a b : List UInt8} {y : List Tk} (hb : tokensF b = .ok y) (ha : ∀ c ∈ a, (c == 10) = false) (h0 : a.contains 0 = false) (hl : a.length + 2 + b.length ≤ 16384) : tokensF ([35] ++ a ++ [10] ++ b) = .ok (⟨2, [10], []⟩ :: y) := by
  obtain ⟨b1, b2⟩ := may_ok hb
  have hm : mayF ([35] ++ a ++ [10] ++ b) = 0 := by
    have h1 : mayF ([] ++ ([35] ++ a ++ [10]) ++ b) = 0 := mayF_app (by decide) b1 (by
      simp only [List.contains_eq_mem, decide_eq_false_iff_not] at h0 ⊢
      simp only [List.mem_append, List.mem_singleton]
      rintro ((h | h) | h)
      · cases h
      · exact h0 h
      · cases h) (by simp only [List.length_append, List.length_nil, List.length_singleton]; omega)
    rw [List.nil_append] at h1
    exact h1
  rw [tokensF_C _ hm, List.append_assoc, List.append_assoc, List.singleton_append, List.singleton_append]
  have h1 : skipF false (35 :: (a ++ 10 :: b)) = 10 :: b := by
    rw [skipF_cons]
    exact skip_comm a (10 :: b) ha (.inl rfl)
  have h2 : skipF false (10 :: b) = 10 :: b := by rw [skipF_cons]; rfl
  rw [show tokC (35 :: (a ++ 10 :: b)) = tokC (10 :: b) by rw [tokC_eq (35 :: (a ++ 10 :: b)), tokC_eq (10 :: b), h1, h2], tokC_sep, b2]
  rfl
theorem comm_word {a : List UInt8} (ha : ∀ c ∈ a, (c == 10) = false) (h0 : a.contains 0 = false) (hl : a.length + 3 ≤ 16384) : tokensF ([120, 32, 35] ++ a) = .ok [⟨1, [], [txtP [120]]⟩] := by
  have hm : mayF ([120, 32, 35] ++ a) = 0 := by
    unfold mayF
    rw [if_neg (by simp only [List.length_append, List.length_cons, List.length_nil]; omega), if_neg]
    simp only [List.contains_eq_mem, decide_eq_false_iff_not] at h0
    simp only [List.contains_eq_mem, decide_eq_true_eq, List.mem_append]
    rintro (h | h)
    · revert h; decide
    · exact h0 h
  rw [tokensF_C _ hm]
  show tokC (120 :: 32 :: 35 :: a) = _
  have hop : operF (120 :: 32 :: 35 :: a) = [] := by rfl
  have hw : wordC false (120 :: 32 :: 35 :: a) = .ok ([txtP [120]], 32 :: 35 :: a) := by
    rw [wordC_cons, if_neg (by decide), lexC_plain (by decide)]
    dsimp only
    rw [wordC_cons, if_pos (by rfl)]
    rfl
  have hs : skipF true a = [] := by
    have := skip_comm a [] ha (.inr rfl)
    rw [List.append_nil] at this
    exact this
  rw [tokC_eq, show skipF false (120 :: 32 :: 35 :: a) = 120 :: 32 :: 35 :: a by rw [skipF_cons]; rfl]
  dsimp only
  rw [tokOne_word hop (by rfl), hw]
  dsimp only
  rw [tokC_eq (32 :: 35 :: a), show skipF false (32 :: 35 :: a) = skipF true a by rw [skipF_cons, if_pos (by rfl), skipF_cons]; rfl, hs]
  rfl
theorem comm_in : tokensF [120, 35, 121] = .ok [⟨1, [], [txtP [120, 35, 121]]⟩] := by rfl
theorem tokC_count : ∀ (r : List UInt8) (l : List Tk), tokC r = .ok l → l.length ≤ r.length := by
  have key : ∀ (n : Nat) (r : List UInt8) (l : List Tk), r.length ≤ n → tokC r = .ok l → l.length ≤ r.length := by
    intro n
    induction n with
    | zero =>
      intro r l hn h
      obtain rfl : r = [] := List.eq_nil_of_length_eq_zero (by omega)
      have : ([] : List Tk) = l := Except.ok.inj h
      rw [← this]; exact Nat.le_refl _
    | succ n ih =>
      intro r l hn h
      rw [tokC_eq] at h
      have hsl := skip_len false r
      cases hs : skipF false r with
      | nil =>
        rw [hs] at h
        have : ([] : List Tk) = l := Except.ok.inj h
        rw [← this]; exact Nat.zero_le _
      | cons c t =>
        rw [hs] at h hsl
        dsimp only at h
        cases h2 : tokOne (c :: t) with
        | error e => rw [h2] at h; cases h
        | ok z =>
          obtain ⟨y, r1⟩ := z
          have hl := tokOne_len (skip_head hs) h2
          rw [h2] at h
          dsimp only at h
          cases h5 : tokC r1 with
          | error e => rw [h5] at h; cases h
          | ok l2 =>
            rw [h5] at h
            have hl2 : (y :: l2) = l := Except.ok.inj h
            simp only [List.length_cons] at hsl
            have := ih r1 l2 (by omega) h5
            rw [← hl2]
            simp only [List.length_cons]
            omega
  exact fun r l h => key _ r l (Nat.le_refl _) h
theorem ba_size (a b : ByteArray) : (a ++ b).size = a.size + b.size := ByteArray.size_append
end Go.Proofs.Ytnndnldpbdhkgaa
