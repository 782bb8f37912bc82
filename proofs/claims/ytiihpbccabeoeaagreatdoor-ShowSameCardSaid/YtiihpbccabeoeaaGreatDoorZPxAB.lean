/-
  The document's own parser: case (plain parts).
-/
import Derived.Test.YtiihpbccabeoeaaGreatDoorZPxAA
namespace Go.Proofs.YtiihpbccabeoeaaGreatDoor
open Go.RowKit
set_option linter.unusedVariables false
def qcaseEnd (wd : List Pt) (p : PR (List Dt)) : PR (List Dt) := match p with
  | .error e => .error e
  | .ok (l, r2) => .ok (ndR 10 false [] [wordR wd] [] [] [] l, r2)
def qarmK (K M : Nat) (acc : List Dt) (p : PR (List Dt)) : PR (List Dt) := match p with
  | .error e => .error e
  | .ok (a, r) => if isOpF [59, 59] r then armsLoop (commandF K) (scrF (commandF K)) M (acc ++ a) (linesF r.tail) else match needW [101, 115, 97, 99] r with
      | .error e => .error e
      | .ok (_, r2) => .ok (acc ++ a, r2)
def qarmB (K : Nat) (ps : List Dt) (ts : List Tk) : PR (List Dt) := if moreF ts then (match listF (commandF K) ts with
          | .error e => .error e
          | .ok (b, r3) => .ok ([.sl 1 ps, .sl 8 b], r3))
        else .ok ([.sl 1 ps, .sl 8 []], ts)
def qarmP (K : Nat) (p : PR (List Dt)) : PR (List Dt) := match p with
  | .error e => .error e
  | .ok (ps, r1) => match needOp [41] r1 with
    | .error e => .error e
    | .ok (_, r2) => qarmB K ps (linesF r2)
theorem qarm_eq (K : Nat) (ts : List Tk) : armF (commandF K) (scrF (commandF K)) ts = match wordF (scrF (commandF K)) (if isOpF [40] ts then ts.tail else ts) with
    | .error e => .error e
    | .ok (w, r) => qarmP K (patsLoop (scrF (commandF K)) (r.length + 1) [wordR w] r) := by
  unfold armF
  cases wordF (scrF (commandF K)) (if isOpF [40] ts then ts.tail else ts) with
  | error e => rfl
  | ok p =>
    obtain ⟨w, r⟩ := p
    dsimp only
    unfold qarmP
    cases patsLoop (scrF (commandF K)) (r.length + 1) [wordR w] r with
    | error e => rfl
    | ok p =>
      obtain ⟨ps, r1⟩ := p
      dsimp only
      cases needOp [41] r1 with
      | error e => rfl
      | ok q =>
        obtain ⟨_, r2⟩ := q
        dsimp only
        unfold qarmB
        by_cases hm : moreF (linesF r2) = true
        · rw [if_pos hm, if_pos hm]
          cases listF (commandF K) (linesF r2) <;> rfl
        · rw [if_neg hm, if_neg hm]
theorem qarms_succ (K M : Nat) (acc : List Dt) (ts : List Tk) : armsLoop (commandF K) (scrF (commandF K)) (M + 1) acc ts = if isWF [101, 115, 97, 99] ts then .ok (acc, ts.tail) else qarmK K M acc (armF (commandF K) (scrF (commandF K)) ts) := by
  conv => lhs; unfold armsLoop
  unfold qarmK
  by_cases h : isWF [101, 115, 97, 99] ts = true
  · rw [if_pos h, if_pos h]
  · rw [if_neg h, if_neg h]
    cases armF (commandF K) (scrF (commandF K)) ts <;> rfl
theorem qcases_eq (K : Nat) (ts : List Tk) : casesF (commandF K) (scrF (commandF K)) ts = match wordF (scrF (commandF K)) ts with
    | .error e => .error e
    | .ok (w, r) => if isWF [105, 110] (linesF r) then qcaseEnd w (armsLoop (commandF K) (scrF (commandF K)) ((linesF (linesF r).tail).length + 1) [] (linesF (linesF r).tail)) else .error 2 := by
  unfold casesF
  cases wordF (scrF (commandF K)) ts with
  | error e => rfl
  | ok p =>
    obtain ⟨w, r⟩ := p
    dsimp only
    cases h : isWF [105, 110] (linesF r) with
    | false => rw [needW_no h]; rfl
    | true =>
      rw [needW_yes h, if_pos rfl]
      dsimp only
      unfold qcaseEnd
      cases armsLoop (commandF K) (scrF (commandF K)) ((linesF (linesF r).tail).length + 1) [] (linesF (linesF r).tail) <;> rfl
theorem qpats_succ (scr : Bs → Except Nat Unit) (n : Nat) (acc : List Dt) (ts : List Tk) : patsLoop scr (n + 1) acc ts = if isOpF [124] ts then (match wordF scr ts.tail with
    | .error e => .error e
    | .ok (w, r) => patsLoop scr n (acc ++ [wordR w]) r) else .ok (acc, ts) := rfl
def qK (K M : Nat) (wd : List Pt) (acc : List Dt) (p : PR (List Dt)) : PR (List Dt) := qcaseEnd wd (qarmK K M acc p)
theorem qK_no {K M : Nat} {wd : List Pt} {acc a : List Dt} {r : List Tk} (h1 : isOpF [59, 59] r = false) (h2 : isWF [101, 115, 97, 99] r = false) : qK K M wd acc (.ok (a, r)) = .error 2 := by
  unfold qK qarmK
  dsimp only
  rw [h1, if_neg (by simp), needW_no h2]
  rfl
theorem qK_esac {K M : Nat} {wd : List Pt} {acc a : List Dt} {r : List Tk} (h1 : isOpF [59, 59] r = false) (h2 : isWF [101, 115, 97, 99] r = true) : qK K M wd acc (.ok (a, r)) = .ok (ndR 10 false [] [wordR wd] [] [] [] (acc ++ a), r.tail) := by
  unfold qK qarmK
  dsimp only
  rw [h1, if_neg (by simp), needW_yes h2]
  rfl
theorem qK_more {K M : Nat} {wd : List Pt} {acc a : List Dt} {r : List Tk} (h1 : isOpF [59, 59] r = true) : qK K M wd acc (.ok (a, r)) = qcaseEnd wd (armsLoop (commandF K) (scrF (commandF K)) M (acc ++ a) (linesF r.tail)) := by
  unfold qK qarmK
  dsimp only
  rw [h1, if_pos rfl]
theorem qarmP_no {K : Nat} {ps : List Dt} {r : List Tk} (h : isOpF [41] r = false) : qarmP K (.ok (ps, r)) = .error 2 := by
  unfold qarmP
  dsimp only
  rw [needOp_no h]
theorem qarmP_yes {K : Nat} {ps : List Dt} {r : List Tk} (h : isOpF [41] r = true) : qarmP K (.ok (ps, r)) = qarmB K ps (linesF r.tail) := by
  unfold qarmP
  dsimp only
  rw [needOp_yes h]
theorem arm_none {K M : Nat} {wd : List Pt} {acc ps : List Dt} {T : List Tk} {j x : Nat} {gd : Prop} {res : PR (List Dt)} (h : EXs gd (res = qK K M wd acc (qarmB K ps (T.drop j))) x res) (hj : x = 0 → j ≤ T.length) (hc : isOpF [59, 59] (T.drop j) = true ∨ isWF [101, 115, 97, 99] (T.drop j) = true) :
    QSt gd (res = qK K M wd acc (.ok ([.sl 1 ps, .sl 8 []], T.drop j))) T j x res := by
  have hcl : closesF (T.drop j) = true := by
    rcases hc with hc | hc
    · unfold closesF; rw [hc, Bool.or_true, Bool.true_or]
    · exact wfP1 (s := [101, 115, 97, 99]) (by decide) _ hc
  rcases h with ⟨g, hx, hr⟩ | h
  · refine .inl ⟨g, hx, hj hx, ?_⟩
    rw [hr]
    unfold qarmB
    rw [closes_more hcl, if_neg (by simp)]
  · exact .inr (.inl h)
theorem arm_list {K M : Nat} {wd : List Pt} {acc ps : List Dt} {T : List Tk} {j x jb xb : Nat} {gd : Prop} {res : PR (List Dt)} {w : World} {D : Nat → Prop} {us : List Value} (h : EXs gd (res = qK K M wd acc (qarmB K ps (T.drop j))) x res) (hl : linesF (T.drop j) = T.drop j) (h1 : isOpF [59, 59] (T.drop j) = false) (h2 : isWF [101, 115, 97, 99] (T.drop j) = false)
    (hf : (x = 0 ∧ QF true w D T (listF (commandF K) (T.drop j)) us jb xb) ∨ (x ≠ 0 ∧ xb = x)) :
    ∃ (gb : Prop) (db : List Dt), (gb → gd ∧ NdD db ∧ RdL w D db us) ∧ QSt gb (res = qK K M wd acc (.ok ([.sl 1 ps, .sl 8 db], T.drop jb))) T jb xb res := by
  rcases h with ⟨g, hx, hr⟩ | ⟨hx, hr⟩
  · rcases hf with ⟨_, hq⟩ | ⟨h9, _⟩
    · unfold qarmB at hr
      by_cases hm : moreF (T.drop j) = true
      · rw [if_pos hm] at hr
        obtain ⟨gb, db, hg, hst⟩ := hq.state (fun p => qK K M wd acc (match p with
          | .error e => .error e
          | .ok (b, r3) => .ok ([.sl 1 ps, .sl 8 b], r3))) (fun e => rfl) (fun _ ds r hc => by
            dsimp only
            refine qK_no ?_ (cls_no (by decide) hc)
            unfold closesF at hc
            simp only [Bool.or_eq_false_iff] at hc
            exact hc.1.2) hr
        exact ⟨gb, db, fun g' => ⟨g, hg g'⟩, hst⟩
      · rw [if_neg hm] at hr
        rw [list_none K (by rw [hl]; simpa using hm)] at hq
        rw [qK_no h1 h2] at hr
        refine ⟨False, [], fun h => h.elim, ?_⟩
        rcases hq with ⟨a, b⟩ | ⟨_, a, b⟩
        · exact .inr (.inl ⟨by omega, by rw [hr, a]⟩)
        · exact .inr (.inr ⟨a, b, hr⟩)
    · exact absurd hx h9
  · rcases hf with ⟨h9, _⟩ | ⟨_, rfl⟩
    · exact absurd h9 hx
    · exact ⟨False, [], fun h => h.elim, .inr (.inl ⟨hx, hr⟩)⟩
theorem case_fin {gd A : Prop} {T : List Tk} {j x xe : Nat} {res : PR (List Dt)} {ds : List Dt} (h : QSt gd A T j x res) (hxe : xe = if x = 0 then (if isWF [101, 115, 97, 99] (T.drop j) then 0 else 2) else x)
    (hA : A → (isWF [101, 115, 97, 99] (T.drop j) = true → res = .ok (ds, (T.drop j).tail)) ∧ (isWF [101, 115, 97, 99] (T.drop j) = false → res = .error 2)) :
    (gd ∧ xe = 0 ∧ j + 1 ≤ T.length ∧ res = .ok (ds, T.drop (j + 1))) ∨ (xe ≠ 0 ∧ res = .error xe) := by
  rcases h with ⟨g, hx, hj, ha⟩ | ⟨hx, hr⟩ | ⟨hx, ho, hr⟩
  · rw [if_pos hx] at hxe
    cases hw : isWF [101, 115, 97, 99] (T.drop j) with
    | true =>
      rw [hw, if_pos rfl] at hxe
      have := toks_in (isW_pos (by decide) hw)
      exact .inl ⟨g, hxe, by omega, by rw [(hA ha).1 hw, drop_tail]⟩
    | false =>
      rw [hw, if_neg (by simp)] at hxe
      exact .inr ⟨by omega, by rw [hxe]; exact (hA ha).2 hw⟩
  · rw [if_neg hx] at hxe
    subst hxe
    exact .inr ⟨hx, hr⟩
  · rw [if_pos hx, wfP2 (by decide) _ ho, if_neg (by simp)] at hxe
    exact .inr ⟨by omega, by rw [hxe]; exact hr⟩
end Go.Proofs.YtiihpbccabeoeaaGreatDoor
