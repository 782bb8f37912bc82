/-
  The document's own parser: a command.
-/
import Derived.Test.YtiihpbccabeoeaaGreatDoorZPxAD
namespace Go.Proofs.YtiihpbccabeoeaaGreatDoor
open Go.RowKit
set_option linter.unusedVariables false
def qfuncG (name : Bs) (p : PR (List Dt)) : PR (List Dt) := match p with
  | .error e => .error e
  | .ok (d, r2) => .ok (ndR 11 false name [] [] [] d [], r2)
theorem comp_begins (x : List Tk) : (beginsF x && (isOpF [40] x || reservedL.contains (plainT (atF x)))) = compB x := by
  unfold beginsF compB
  cases hk : ((atF x).kind == 1) with
  | true =>
    have ho : isOpF [40] x = false := by unfold isOpF; rw [beq_iff_eq.1 hk]; rfl
    rw [ho, if_pos rfl]
    generalize plainT (atF x) = s
    cases hr : reservedL.contains s with
    | true => simp
    | false =>
      have hs : startsL.contains s = false := by
        rw [← Bool.not_eq_true]
        intro hh
        have : reservedL.contains s = true := by
          rw [List.contains_iff_mem] at hh ⊢
          simp only [startsL, List.mem_cons, List.not_mem_nil, or_false] at hh
          rcases hh with h | h | h | h | h | h <;> rw [h] <;> decide
        rw [this] at hr
        cases hr
      rw [hs]
      simp
  | false =>
    rw [if_neg (by simp), plain_kind hk, show startsL.contains ([] : Bs) = false from by decide, show reservedL.contains ([] : Bs) = false from by decide]
    cases isOpF [40] x <;> simp
theorem comp_no {cmd : List Tk → PR (List Dt)} {scr : Bs → Except Nat Unit} {ts : List Tk} (h : compB ts = false) : compoundF cmd scr ts = if nameOkF (plainT (atF ts)) && opensF ts then some (functionF cmd (plainT (atF ts)) ts) else none := by
  unfold compB at h
  rw [Bool.or_eq_false_iff] at h
  have hw : ∀ s, s ∈ startsL → isWF s ts = false := fun s hs => by
    cases hh : isWF s ts with
    | false => rfl
    | true =>
      have h1 := h.1
      rw [beq_iff_eq.1 hh, List.contains_iff_mem.2 hs] at h1
      cases h1
  unfold compoundF
  rw [h.2, hw [123] (by decide), hw [105, 102] (by decide), hw [119, 104, 105, 108, 101] (by decide), hw [117, 110, 116, 105, 108] (by decide), hw [102, 111, 114] (by decide), hw [99, 97, 115, 101] (by decide)]
  rfl
theorem command_none {K : Nat} {ts : List Tk} (h : beginsF ts = false) : commandF (K + 1) ts = .error 2 := by
  show (if beginsF ts = true then _ else _) = _
  rw [h]
  rfl
theorem command_comp {K : Nat} {ts : List Tk} (hb : beginsF ts = true) (h : compB ts = true) : commandF (K + 1) ts = withRedirs (scrF (commandF K)) (greatF K ts) := by
  show (if beginsF ts = true then innerF (commandF K) (scrF (commandF K)) ts else _) = _
  rw [hb, if_pos rfl]
  unfold innerF
  rw [comp_great h]
theorem function_eq {K : Nat} {name : Bs} {ts : List Tk} : functionF (commandF K) name ts = if isOpF [41] ts.tail.tail then (if compB (linesF ts.tail.tail.tail) then qfuncG name (commandF K (linesF ts.tail.tail.tail)) else .error 2) else .error 2 := by
  unfold functionF
  cases ho : isOpF [41] ts.tail.tail with
  | false => rw [needOp_no ho]; rfl
  | true =>
    rw [needOp_yes ho, if_pos rfl]
    dsimp only
    rw [comp_begins]
    cases compB (linesF ts.tail.tail.tail) with
    | false => rfl
    | true =>
      rw [if_pos rfl, if_pos rfl]
      unfold qfuncG
      cases commandF K (linesF ts.tail.tail.tail) <;> rfl
theorem command_func {K : Nat} {ts : List Tk} (hb : beginsF ts = true) (h : compB ts = false) (hn : nameOkF (plainT (atF ts)) = true) (ho : isOpF [40] ts.tail = true) : commandF (K + 1) ts = functionF (commandF K) (plainT (atF ts)) ts := by
  show (if beginsF ts = true then innerF (commandF K) (scrF (commandF K)) ts else _) = _
  rw [hb, if_pos rfl]
  unfold innerF
  rw [comp_no h, hn]
  unfold opensF
  rw [ho]
  rfl
theorem command_simple {K : Nat} {ts : List Tk} (hb : beginsF ts = true) (h : compB ts = false) (hn : (nameOkF (plainT (atF ts)) && isOpF [40] ts.tail) = false) : commandF (K + 1) ts = simpleF (scrF (commandF K)) (ts.length + 1) [] [] [] ts := by
  show (if beginsF ts = true then innerF (commandF K) (scrF (commandF K)) ts else _) = _
  rw [hb, if_pos rfl]
  unfold innerF
  rw [comp_no h]
  unfold opensF
  rw [hn]
  rfl
theorem name_word {T : List Tk} {i : Nat} (hs : SmT T) (hn : nameOkF (plainT (atF (T.drop i))) = true) (scr : Bs → Except Nat Unit) : hasW (T.drop i) = true ∧ subsF scr (atF (T.drop i)).word = .ok () ∧ assignF (atF (T.drop i)).word = none := by
  have hi : i < T.length := by
    rcases Nat.lt_or_ge i T.length with h | h
    · exact h
    · rw [atF_end h] at hn; cases hn
  rw [atF_in hi] at hn
  unfold hasW
  rw [atF_in hi]
  have h1 := (hs.2 _ (List.getElem_mem hi)).2
  generalize T[i] = t at h1 hn
  have hne := qname_pos hn
  unfold plainT at hne hn
  by_cases hk : (t.kind == 1) = true
  · rw [if_pos hk] at hne hn
    match hw : t.word, hne, hn with
    | [], hne, _ => exact absurd rfl hne
    | a :: b :: l, hne, _ => exact absurd rfl hne
    | [p], hne, hn =>
      dsimp only at hne hn
      by_cases hp : (p.kind == 1) = true
      · rw [if_pos hp] at hne hn
        have hp1 := beq_iff_eq.1 hp
        have hpw := smL_text h1.2 (p := p) (by rw [hw]; exact List.mem_cons_self ..) hp1
        refine ⟨by rw [hk]; rfl, ?_, ?_⟩
        · rw [qsubs_cons, hp1, hpw, qsubs_nil]
          rfl
        · refine assignR_no (fun h => ?_)
          unfold nameOkF at hn
          simp only [Bool.and_eq_true, beq_iff_eq] at hn
          have h3 := h.2.2
          rw [hn.2, List.getElem?_eq_none (Nat.le_refl _)] at h3
          cases h3
      · rw [if_neg hp] at hne; exact absurd rfl hne
  · rw [if_neg hk] at hne
    exact absurd rfl hne
theorem redir_fin {K : Nat} {w6 w8 w9 : World} {D6 D8 D : Nat → Prop} {T : List Tk} {res gr : PR (List Dt)} {v : NV} {j bd j2 y m c : Nat} {a : Option Addr} (hq : QF false w6 D6 T gr v.vals j bd) (hres : res = withRedirs (scrF (commandF K)) gr) (hm : ∀ ds, RdL w6 D6 ds v.vals → RdL w9 D ds v.vals) (hmr : ∀ ds, Rd w8 D8 (.sl 2 ds) (.slice a m c) → Rd w9 D (.sl 2 ds) (.slice a m c))
    (hr : (bd = 0 ∧ ∃ (gd : Prop) (ds : List Dt), (gd → Rd w8 D8 (.sl 2 ds) (.slice a m c)) ∧ ((gd ∧ y = 0 ∧ j2 ≤ T.length ∧ redirsF (scrF (commandF K)) ((T.drop j).length + 1) [] (T.drop j) = .ok (ds, T.drop j2)) ∨ (y ≠ 0 ∧ redirsF (scrF (commandF K)) ((T.drop j).length + 1) [] (T.drop j) = .error y))) ∨ (bd ≠ 0 ∧ y = bd)) :
    QF false w9 D T res [.int .i64 v.k, .bool v.nt, .string v.nm, .slice v.a0 v.n0 v.c0, .slice v.a1 v.n1 v.c1, .slice a m c, .slice v.a3 v.n3 v.c3, .slice v.a4 v.n4 v.c4] j2 y := by
  rcases hr with ⟨hb, gd, ds, hd, hr⟩ | ⟨hb, rfl⟩
  · rcases hq.split (withRedirs (scrF (commandF K))) (fun e => rfl) (fun h => by cases h) with ⟨d, r, hg, _, hn, hrd, hj, _⟩ | ⟨h9, _⟩ | ⟨_, ho, hg⟩
    · have hw : res = match redirsF (scrF (commandF K)) ((T.drop j).length + 1) [] (T.drop j) with
          | .error e => .error e
          | .ok (rs, r2) => .ok (d.set 5 (.sl 2 rs), r2) := by rw [hres, hg, hj]; rfl
      rcases hr with ⟨g, hy, hj2, hr⟩ | ⟨hy, hr⟩
      · rw [hr] at hw
        obtain ⟨kind, nt, nm, ws, gs, rs, ks, ar, rfl⟩ := hn
        obtain ⟨h0, h1, h2, h3, h4, h5, h6, h7, _⟩ := hm _ hrd
        exact QF.good hw hy ⟨kind, nt, nm, ws, gs, ds, ks, ar, rfl⟩ ⟨h0, h1, h2, h3, h4, hmr ds (hd g), h6, h7, trivial⟩ rfl hj2
      · rw [hr] at hw
        exact QF.err hy hw
    · exact absurd hb h9
    · have hrb : redirB (T.drop j) = false := by
        unfold isOpF at ho
        rw [Bool.and_eq_true] at ho
        unfold redirB
        rw [ho.1, beq_iff_eq.1 ho.2]
        decide
      have h9 : redirsF (scrF (commandF K)) ((T.drop j).length + 1) [] (T.drop j) = .ok ([], T.drop j) := by rw [qredirs_succ, hrb]; rfl
      rcases hr with ⟨g, hy, hj2, hr⟩ | ⟨hy, hr⟩
      · rw [h9] at hr
        injection hr with hr
        injection hr with _ hr
        exact QF.stk (by rw [← hr]; exact ho) hy (by rw [hres, hg])
      · rw [h9] at hr
        cases hr
  · rcases hq.split (withRedirs (scrF (commandF K))) (fun e => rfl) (fun h => by cases h) with ⟨d, r, hg, h0, _⟩ | ⟨_, hg⟩ | ⟨h0, _⟩
    · exact absurd h0 hb
    · exact QF.err hb (by rw [hres, hg])
    · exact absurd h0 hb
theorem qredirs_uni (K : Nat) (hscr : QScrOK K) (w : World) (Lo B ps n i x deep : Nat) (tv : Value) (T : List Tk) (hd : deep + 1 + K = 41) (h : QS w Lo B ps tv n T i x) (hi : x = 0 → i ≤ T.length) :
    Calls Tryz.prog 164 #[.pointer (some ⟨ps, 0, none⟩), .int .i64 (deep : Nat)] w fun e w' => ∃ (a : Option Addr) (m c j y : Nat), e = .returned (.slice a m c) ∧ i ≤ j ∧ (j ≤ T.length ∨ j = i) ∧ QS w' Lo B ps tv n T j y ∧ Keeps (fun b => b = ps) w w' ∧
      ((x = 0 ∧ ∃ (gd : Prop) (ds : List Dt), (gd → Rd w' (Qd Lo B w.heap.size) (.sl 2 ds) (.slice a m c)) ∧ ((gd ∧ y = 0 ∧ j ≤ T.length ∧ redirsF (scrF (commandF K)) ((T.drop i).length + 1) [] (T.drop i) = .ok (ds, T.drop j)) ∨ (y ≠ 0 ∧ redirsF (scrF (commandF K)) ((T.drop i).length + 1) [] (T.drop i) = .error y))) ∨ (x ≠ 0 ∧ y = x)) := by
  by_cases hx : x = 0
  · subst hx
    refine (qredirs_any K hscr w Lo B ps n i deep tv T hd h (hi rfl)).mono ?_
    rintro e w' ⟨gd, a, m, c, j, y, ds, he, h1, h2, _, _, hQ, _, hor⟩
    refine ⟨a, m, c, j, y, he, h1, .inl h2, hQ.rs, hQ.kp, .inl ⟨rfl, gd, ds, fun g => hQ.reads g, ?_⟩⟩
    rcases hor with ⟨g, h0, hr⟩ | h
    · exact .inl ⟨g, h0, h2, hr⟩
    · exact .inr h
  · refine (qredirs_bad w Lo B ps n i x deep tv T h hx).mono ?_
    rintro e w' ⟨he, rfl⟩
    exact ⟨none, 0, 0, i, x, he, Nat.le_refl _, .inr rfl, h, Keeps.refl _ _, .inr ⟨hx, rfl⟩⟩
end Go.Proofs.YtiihpbccabeoeaaGreatDoor
