/-
  The document's own parser: compound commands.
-/
import Derived.Test.YtiihpbccabeoeaaGreatDoorZPxAC
namespace Go.Proofs.YtiihpbccabeoeaaGreatDoor
open Go.RowKit
set_option linter.unusedVariables false
def greatF (K : Nat) (ts : List Tk) : PR (List Dt) :=
  if isOpF [40] ts then shutF (commandF K) 13 (needOp [41]) ts.tail
  else if isWF [123] ts then shutF (commandF K) 12 (needW [125]) ts.tail
  else if isWF [105, 102] ts then choiceF (commandF K) ts.tail
  else if isWF [119, 104, 105, 108, 101] ts then whileF (commandF K) 7 ts.tail
  else if isWF [117, 110, 116, 105, 108] ts then whileF (commandF K) 8 ts.tail
  else if isWF [102, 111, 114] ts then eachF (commandF K) (scrF (commandF K)) ts.tail
  else casesF (commandF K) (scrF (commandF K)) ts.tail
theorem comp_cases {ts : List Tk} (h : compB ts = true) : isOpF [40] ts = true ∨ isWF [105, 102] ts = true ∨ isWF [119, 104, 105, 108, 101] ts = true ∨ isWF [117, 110, 116, 105, 108] ts = true ∨ isWF [102, 111, 114] ts = true ∨ isWF [99, 97, 115, 101] ts = true ∨ isWF [123] ts = true := by
  unfold compB at h
  unfold isWF
  rw [Bool.or_eq_true] at h
  rcases h with h | h
  · rw [List.contains_iff_mem] at h
    simp only [startsL, List.mem_cons, List.not_mem_nil, or_false] at h
    rcases h with h | h | h | h | h | h <;> rw [h] <;> simp
  · exact .inl h
theorem great_brace {K : Nat} {ts : List Tk} (h : isWF [123] ts = true) : greatF K ts = shutF (commandF K) 12 (needW [125]) ts.tail ∧ compoundF (commandF K) (scrF (commandF K)) ts = some (withRedirs (scrF (commandF K)) (greatF K ts)) := by
  have hp : plainT (atF ts) = [123] := beq_iff_eq.1 h
  have ho := word_op h (by decide)
  have e : greatF K ts = shutF (commandF K) 12 (needW [125]) ts.tail := by
    unfold greatF
    rw [ho]
    unfold isWF
    rw [hp]
    rfl
  refine ⟨e, ?_⟩
  rw [e]
  unfold compoundF
  rw [ho]
  unfold isWF
  rw [hp]
  rfl
theorem great_if {K : Nat} {ts : List Tk} (h : isWF [105, 102] ts = true) : greatF K ts = choiceF (commandF K) ts.tail ∧ compoundF (commandF K) (scrF (commandF K)) ts = some (withRedirs (scrF (commandF K)) (greatF K ts)) := by
  have hp : plainT (atF ts) = [105, 102] := beq_iff_eq.1 h
  have ho := word_op h (by decide)
  have e : greatF K ts = choiceF (commandF K) ts.tail := by
    unfold greatF
    rw [ho]
    unfold isWF
    rw [hp]
    rfl
  refine ⟨e, ?_⟩
  rw [e]
  unfold compoundF
  rw [ho]
  unfold isWF
  rw [hp]
  rfl
theorem great_while {K : Nat} {ts : List Tk} (h : isWF [119, 104, 105, 108, 101] ts = true) : greatF K ts = whileF (commandF K) 7 ts.tail ∧ compoundF (commandF K) (scrF (commandF K)) ts = some (withRedirs (scrF (commandF K)) (greatF K ts)) := by
  have hp : plainT (atF ts) = [119, 104, 105, 108, 101] := beq_iff_eq.1 h
  have ho := word_op h (by decide)
  have e : greatF K ts = whileF (commandF K) 7 ts.tail := by
    unfold greatF
    rw [ho]
    unfold isWF
    rw [hp]
    rfl
  refine ⟨e, ?_⟩
  rw [e]
  unfold compoundF
  rw [ho]
  unfold isWF
  rw [hp]
  rfl
theorem great_until {K : Nat} {ts : List Tk} (h : isWF [117, 110, 116, 105, 108] ts = true) : greatF K ts = whileF (commandF K) 8 ts.tail ∧ compoundF (commandF K) (scrF (commandF K)) ts = some (withRedirs (scrF (commandF K)) (greatF K ts)) := by
  have hp : plainT (atF ts) = [117, 110, 116, 105, 108] := beq_iff_eq.1 h
  have ho := word_op h (by decide)
  have e : greatF K ts = whileF (commandF K) 8 ts.tail := by
    unfold greatF
    rw [ho]
    unfold isWF
    rw [hp]
    rfl
  refine ⟨e, ?_⟩
  rw [e]
  unfold compoundF
  rw [ho]
  unfold isWF
  rw [hp]
  rfl
theorem great_for {K : Nat} {ts : List Tk} (h : isWF [102, 111, 114] ts = true) : greatF K ts = eachF (commandF K) (scrF (commandF K)) ts.tail ∧ compoundF (commandF K) (scrF (commandF K)) ts = some (withRedirs (scrF (commandF K)) (greatF K ts)) := by
  have hp : plainT (atF ts) = [102, 111, 114] := beq_iff_eq.1 h
  have ho := word_op h (by decide)
  have e : greatF K ts = eachF (commandF K) (scrF (commandF K)) ts.tail := by
    unfold greatF
    rw [ho]
    unfold isWF
    rw [hp]
    rfl
  refine ⟨e, ?_⟩
  rw [e]
  unfold compoundF
  rw [ho]
  unfold isWF
  rw [hp]
  rfl
theorem great_case {K : Nat} {ts : List Tk} (h : isWF [99, 97, 115, 101] ts = true) : greatF K ts = casesF (commandF K) (scrF (commandF K)) ts.tail ∧ compoundF (commandF K) (scrF (commandF K)) ts = some (withRedirs (scrF (commandF K)) (greatF K ts)) := by
  have hp : plainT (atF ts) = [99, 97, 115, 101] := beq_iff_eq.1 h
  have ho := word_op h (by decide)
  have e : greatF K ts = casesF (commandF K) (scrF (commandF K)) ts.tail := by
    unfold greatF
    rw [ho]
    unfold isWF
    rw [hp]
    rfl
  refine ⟨e, ?_⟩
  rw [e]
  unfold compoundF
  rw [ho]
  unfold isWF
  rw [hp]
  rfl
theorem comp_great {K : Nat} {ts : List Tk} (h : compB ts = true) : compoundF (commandF K) (scrF (commandF K)) ts = some (withRedirs (scrF (commandF K)) (greatF K ts)) := by
  rcases comp_cases h with h | h | h | h | h | h | h
  · unfold compoundF greatF
    rw [if_pos h, if_pos h]
  · exact (great_if h).2
  · exact (great_while h).2
  · exact (great_until h).2
  · exact (great_for h).2
  · exact (great_case h).2
  · exact (great_brace h).2
set_option maxRecDepth 100000 in
set_option maxHeartbeats 2000000 in
theorem qif_any (K : Nat) (hcmd : QCmdOK K) (w : World) (Lo B ps n i deep : Nat) (tv : Value) (T : List Tk) (h : QS w Lo B ps tv n T i 0) (hi : i ≤ T.length) (hd : deep + 1 + K = 41) (ho : isWF [105, 102] (T.drop i) = true) (hscr : QScrOK K) :
    Calls Tryz.prog 163 #[.pointer (some ⟨ps, 0, none⟩), .int .i64 (deep : Nat)] w (QNode w Lo B ps tv n T i (2 * K + 2) false (choiceF (commandF K) (T.drop i).tail)) := by
  obtain ⟨res, hres⟩ : ∃ res, res = choiceF (commandF K) (T.drop i).tail := ⟨_, rfl⟩
  rw [← hres]
  rw [ drop_tail] at hres
  have HPS := Lib.hid h.lt
  have HS := Lib.hid h
  have HC := Lib.hid hcmd
  have HD := Lib.hid hd
  have HRES := Lib.hid hres
  have hmT : T.length ≤ 20000 := h.sm.1
  have hdw : IntKind.i64.wrap ((deep : Int) + 1) = (deep : Int) + 1 := IntWalk.i64_in _ (by omega)
  have hsum : IntKind.i64.wrap ((i : Int) + 1) = (i : Int) + 1 := IntWalk.i64_in _ (by omega)
  have hc8 := cells_node
  have HO := Lib.hid (beq_iff_eq.1 ho)
  have HOP := Lib.hid (word_op ho (by decide))
  have hpos := toks_in (isW_pos (by decide) ho)
  have HSC := Lib.hid hscr
  clear h hcmd hd hres ho hscr
  go_enter Tryz.func163, Tryz.ntmps163
  go_wp2_with fail
  obtain ⟨W, hW⟩ : ∃ W, W = w.alloc (.cells #[.int .i64 0, .bool false, .string ⟨#[]⟩, .slice none 0 0, .slice none 0 0, .slice none 0 0, .slice none 0 0, .slice none 0 0] 44) := ⟨_, rfl⟩
  have hk0 : Keeps (fun _ => False) w W := by rw [hW]; exact (Keeps.refl _ _).alloc _
  have HZ := Lib.hid (show RecAt W w.heap.size [.int .i64 0, .bool false, .string ⟨#[]⟩, .slice none 0 0, .slice none 0 0, .slice none 0 0, .slice none 0 0, .slice none 0 0] by rw [hW]; exact new_rec8 w _ _ _ _ _ _ _ _ _)
  rw [← hW]
  have HK := Lib.hid (hk0.mono (T := fun b => b = ps) (fun _ _ h => h.elim))
  replace HS := Lib.hid (HS.out.keep0 hk0)
  clear hk0 hW
  have HQ := Lib.hid (qop_at HS.out [40] false HOP.out 0)
  refine HQ.out.mono ?_
  rintro e wq ⟨rfl, dq, rfl⟩
  obtain ⟨Wa, hw2⟩ : ∃ Wa, Wa = W.drewN dq := ⟨_, rfl⟩
  rw [← hw2]
  have hkw : Keeps (fun _ => False) W Wa := by rw [hw2]; exact (Keeps.refl _ _).drewN _
  replace HS := Lib.hid (HS.out.keep0 hkw)
  replace HZ := Lib.hid (HZ.out.keep hkw (fun h => h))
  replace HK := Lib.hid (HK.out.trans hkw (fun _ _ h => h.elim))
  clear hw2 hkw
  have HQ2 := Lib.hid (qplain_at HS.out [105, 102] HO.out 0)
  go_wp2_with fail
  refine HQ2.out.mono ?_
  rintro e wq ⟨rfl, dq, rfl⟩
  obtain ⟨W1, hw2⟩ : ∃ W1, W1 = Wa.drewN dq := ⟨_, rfl⟩
  rw [← hw2]
  have hkw : Keeps (fun _ => False) Wa W1 := by rw [hw2]; exact (Keeps.refl _ _).drewN _
  replace HS := Lib.hid (HS.out.keep0 hkw)
  replace HZ := Lib.hid (HZ.out.keep hkw (fun h => h))
  replace HK := Lib.hid (HK.out.trans hkw (fun _ _ h => h.elim))
  clear hw2 hkw
  obtain ⟨c0, c1, c2, f1, f2⟩ := HS.out.cells
  have hlt := HS.out.lt
  go_wp2_with fail
  obtain ⟨W2, hw2⟩ : ∃ W2, W2 = W1.setCell ⟨ps, 1, none⟩ (.int .i64 ((i : Int) + 1)) := ⟨_, rfl⟩
  rw [← hw2]
  obtain ⟨hi1, hi2⟩ := inc_qs HS.out (by omega)
  rw [← hw2] at hi1 hi2
  replace HS := Lib.hid hi1
  replace HZ := Lib.hid (HZ.out.keep hi2 (fun e => by have := HPS.out; omega))
  replace HK := Lib.hid (HK.out.trans hi2 (fun _ _ h => h))
  clear hw2 hi1 hi2
  clear c0 c1 c2 f1 f2 hlt HO HOP
  refine (qbranch_any K HC.out W2 Lo B ps n (i + 1) deep tv T HS.out (by omega) HD.out).mono ?_
  rintro e w3 ⟨v, j, bd, rfl, hij, hjb, hs3, hk3, hf3⟩
  have HSZ := Lib.hid HZ.out.lt
  replace HZ := Lib.hid (HZ.out.keep hk3 (fun e => by have := HPS.out; omega))
  have HS3 := Lib.hid hs3
  have HK3 := Lib.hid hk3
  have HF3 := Lib.hid hf3
  have HIB := Lib.hid (show i ≤ j ∧ j ≤ T.length + (2 * K + 2) by omega)
  rw [← HRES.out] at HF3
  clear hs3 hk3 hf3 hij hjb
  obtain ⟨⟨z0, z1, z2, z3, z4, z5, z6, z7⟩, ⟨zf0, zf1, zf2, zf3, zf4, zf5, zf6, zf7⟩⟩ := HZ.out.eight
  have hzl := HZ.out.lt
  go_wp2_with fail
  refine bodyPost_ret (v := .agg #[.int .i64 v.k, .bool v.nt, .string v.nm, .slice v.a0 v.n0 v.c0, .slice v.a1 v.n1 v.c1, .slice v.a2 v.n2 v.c2, .slice v.a3 v.n3 v.c3, .slice v.a4 v.n4 v.c4]) (by simp [results, Tryz.results163, go_sem, z0, z1, z2, z3, z4, z5, z6, z7]) rfl ?_
  obtain ⟨f1, f2, f3⟩ := pass_on HK.out HSZ.out HK3.out HS3.out HPS.out HF3.out (set8_keeps w3 w.heap.size (.int .i64 v.k) (.bool v.nt) (.string v.nm) (.slice v.a0 v.n0 v.c0) (.slice v.a1 v.n1 v.c1) (.slice v.a2 v.n2 v.c2) (.slice v.a3 v.n3 v.c3) (.slice v.a4 v.n4 v.c4))
  exact ⟨v, j, bd, rfl, HIB.out.1, HIB.out.2, f1, f2, f3⟩
set_option maxRecDepth 100000 in
set_option maxHeartbeats 2000000 in
theorem qfor_any (K : Nat) (hcmd : QCmdOK K) (w : World) (Lo B ps n i deep : Nat) (tv : Value) (T : List Tk) (h : QS w Lo B ps tv n T i 0) (hi : i ≤ T.length) (hd : deep + 1 + K = 41) (ho : isWF [102, 111, 114] (T.drop i) = true) (hscr : QScrOK K) :
    Calls Tryz.prog 163 #[.pointer (some ⟨ps, 0, none⟩), .int .i64 (deep : Nat)] w (QNode w Lo B ps tv n T i (2 * K + 2) false (eachF (commandF K) (scrF (commandF K)) (T.drop i).tail)) := by
  obtain ⟨res, hres⟩ : ∃ res, res = eachF (commandF K) (scrF (commandF K)) (T.drop i).tail := ⟨_, rfl⟩
  rw [← hres]
  rw [ drop_tail] at hres
  have HPS := Lib.hid h.lt
  have HS := Lib.hid h
  have HC := Lib.hid hcmd
  have HD := Lib.hid hd
  have HRES := Lib.hid hres
  have hmT : T.length ≤ 20000 := h.sm.1
  have hdw : IntKind.i64.wrap ((deep : Int) + 1) = (deep : Int) + 1 := IntWalk.i64_in _ (by omega)
  have hsum : IntKind.i64.wrap ((i : Int) + 1) = (i : Int) + 1 := IntWalk.i64_in _ (by omega)
  have hc8 := cells_node
  have HO := Lib.hid (beq_iff_eq.1 ho)
  have HOP := Lib.hid (word_op ho (by decide))
  have hpos := toks_in (isW_pos (by decide) ho)
  have HSC := Lib.hid hscr
  clear h hcmd hd hres ho hscr
  go_enter Tryz.func163, Tryz.ntmps163
  go_wp2_with fail
  obtain ⟨W, hW⟩ : ∃ W, W = w.alloc (.cells #[.int .i64 0, .bool false, .string ⟨#[]⟩, .slice none 0 0, .slice none 0 0, .slice none 0 0, .slice none 0 0, .slice none 0 0] 44) := ⟨_, rfl⟩
  have hk0 : Keeps (fun _ => False) w W := by rw [hW]; exact (Keeps.refl _ _).alloc _
  have HZ := Lib.hid (show RecAt W w.heap.size [.int .i64 0, .bool false, .string ⟨#[]⟩, .slice none 0 0, .slice none 0 0, .slice none 0 0, .slice none 0 0, .slice none 0 0] by rw [hW]; exact new_rec8 w _ _ _ _ _ _ _ _ _)
  rw [← hW]
  have HK := Lib.hid (hk0.mono (T := fun b => b = ps) (fun _ _ h => h.elim))
  replace HS := Lib.hid (HS.out.keep0 hk0)
  clear hk0 hW
  have HQ := Lib.hid (qop_at HS.out [40] false HOP.out 0)
  refine HQ.out.mono ?_
  rintro e wq ⟨rfl, dq, rfl⟩
  obtain ⟨Wa, hw2⟩ : ∃ Wa, Wa = W.drewN dq := ⟨_, rfl⟩
  rw [← hw2]
  have hkw : Keeps (fun _ => False) W Wa := by rw [hw2]; exact (Keeps.refl _ _).drewN _
  replace HS := Lib.hid (HS.out.keep0 hkw)
  replace HZ := Lib.hid (HZ.out.keep hkw (fun h => h))
  replace HK := Lib.hid (HK.out.trans hkw (fun _ _ h => h.elim))
  clear hw2 hkw
  have HQ2 := Lib.hid (qplain_at HS.out [102, 111, 114] HO.out 0)
  go_wp2_with fail
  refine HQ2.out.mono ?_
  rintro e wq ⟨rfl, dq, rfl⟩
  obtain ⟨W1, hw2⟩ : ∃ W1, W1 = Wa.drewN dq := ⟨_, rfl⟩
  rw [← hw2]
  have hkw : Keeps (fun _ => False) Wa W1 := by rw [hw2]; exact (Keeps.refl _ _).drewN _
  replace HS := Lib.hid (HS.out.keep0 hkw)
  replace HZ := Lib.hid (HZ.out.keep hkw (fun h => h))
  replace HK := Lib.hid (HK.out.trans hkw (fun _ _ h => h.elim))
  clear hw2 hkw
  obtain ⟨c0, c1, c2, f1, f2⟩ := HS.out.cells
  have hlt := HS.out.lt
  go_wp2_with fail
  obtain ⟨W2, hw2⟩ : ∃ W2, W2 = W1.setCell ⟨ps, 1, none⟩ (.int .i64 ((i : Int) + 1)) := ⟨_, rfl⟩
  rw [← hw2]
  obtain ⟨hi1, hi2⟩ := inc_qs HS.out (by omega)
  rw [← hw2] at hi1 hi2
  replace HS := Lib.hid hi1
  replace HZ := Lib.hid (HZ.out.keep hi2 (fun e => by have := HPS.out; omega))
  replace HK := Lib.hid (HK.out.trans hi2 (fun _ _ h => h))
  clear hw2 hi1 hi2
  clear c0 c1 c2 f1 f2 hlt HO HOP
  refine (qeach_any K HC.out HSC.out W2 Lo B ps n (i + 1) deep tv T HS.out (by omega) HD.out).mono ?_
  rintro e w3 ⟨v, j, bd, rfl, hij, hjb, hs3, hk3, hf3⟩
  have HSZ := Lib.hid HZ.out.lt
  replace HZ := Lib.hid (HZ.out.keep hk3 (fun e => by have := HPS.out; omega))
  have HS3 := Lib.hid hs3
  have HK3 := Lib.hid hk3
  have HF3 := Lib.hid hf3
  have HIB := Lib.hid (show i ≤ j ∧ j ≤ T.length + (2 * K + 2) by omega)
  rw [← HRES.out] at HF3
  clear hs3 hk3 hf3 hij hjb
  obtain ⟨⟨z0, z1, z2, z3, z4, z5, z6, z7⟩, ⟨zf0, zf1, zf2, zf3, zf4, zf5, zf6, zf7⟩⟩ := HZ.out.eight
  have hzl := HZ.out.lt
  go_wp2_with fail
  refine bodyPost_ret (v := .agg #[.int .i64 v.k, .bool v.nt, .string v.nm, .slice v.a0 v.n0 v.c0, .slice v.a1 v.n1 v.c1, .slice v.a2 v.n2 v.c2, .slice v.a3 v.n3 v.c3, .slice v.a4 v.n4 v.c4]) (by simp [results, Tryz.results163, go_sem, z0, z1, z2, z3, z4, z5, z6, z7]) rfl ?_
  obtain ⟨f1, f2, f3⟩ := pass_on HK.out HSZ.out HK3.out HS3.out HPS.out HF3.out (set8_keeps w3 w.heap.size (.int .i64 v.k) (.bool v.nt) (.string v.nm) (.slice v.a0 v.n0 v.c0) (.slice v.a1 v.n1 v.c1) (.slice v.a2 v.n2 v.c2) (.slice v.a3 v.n3 v.c3) (.slice v.a4 v.n4 v.c4))
  exact ⟨v, j, bd, rfl, HIB.out.1, HIB.out.2, f1, f2, f3⟩
set_option maxRecDepth 100000 in
set_option maxHeartbeats 2000000 in
theorem qcase_any (K : Nat) (hcmd : QCmdOK K) (w : World) (Lo B ps n i deep : Nat) (tv : Value) (T : List Tk) (h : QS w Lo B ps tv n T i 0) (hi : i ≤ T.length) (hd : deep + 1 + K = 41) (ho : isWF [99, 97, 115, 101] (T.drop i) = true) (hscr : QScrOK K) :
    Calls Tryz.prog 163 #[.pointer (some ⟨ps, 0, none⟩), .int .i64 (deep : Nat)] w (QNode w Lo B ps tv n T i (2 * K + 2) false (casesF (commandF K) (scrF (commandF K)) (T.drop i).tail)) := by
  obtain ⟨res, hres⟩ : ∃ res, res = casesF (commandF K) (scrF (commandF K)) (T.drop i).tail := ⟨_, rfl⟩
  rw [← hres]
  rw [ drop_tail] at hres
  have HPS := Lib.hid h.lt
  have HS := Lib.hid h
  have HC := Lib.hid hcmd
  have HD := Lib.hid hd
  have HRES := Lib.hid hres
  have hmT : T.length ≤ 20000 := h.sm.1
  have hdw : IntKind.i64.wrap ((deep : Int) + 1) = (deep : Int) + 1 := IntWalk.i64_in _ (by omega)
  have hsum : IntKind.i64.wrap ((i : Int) + 1) = (i : Int) + 1 := IntWalk.i64_in _ (by omega)
  have hc8 := cells_node
  have HO := Lib.hid (beq_iff_eq.1 ho)
  have HOP := Lib.hid (word_op ho (by decide))
  have hpos := toks_in (isW_pos (by decide) ho)
  have HSC := Lib.hid hscr
  clear h hcmd hd hres ho hscr
  go_enter Tryz.func163, Tryz.ntmps163
  go_wp2_with fail
  obtain ⟨W, hW⟩ : ∃ W, W = w.alloc (.cells #[.int .i64 0, .bool false, .string ⟨#[]⟩, .slice none 0 0, .slice none 0 0, .slice none 0 0, .slice none 0 0, .slice none 0 0] 44) := ⟨_, rfl⟩
  have hk0 : Keeps (fun _ => False) w W := by rw [hW]; exact (Keeps.refl _ _).alloc _
  have HZ := Lib.hid (show RecAt W w.heap.size [.int .i64 0, .bool false, .string ⟨#[]⟩, .slice none 0 0, .slice none 0 0, .slice none 0 0, .slice none 0 0, .slice none 0 0] by rw [hW]; exact new_rec8 w _ _ _ _ _ _ _ _ _)
  rw [← hW]
  have HK := Lib.hid (hk0.mono (T := fun b => b = ps) (fun _ _ h => h.elim))
  replace HS := Lib.hid (HS.out.keep0 hk0)
  clear hk0 hW
  have HQ := Lib.hid (qop_at HS.out [40] false HOP.out 0)
  refine HQ.out.mono ?_
  rintro e wq ⟨rfl, dq, rfl⟩
  obtain ⟨Wa, hw2⟩ : ∃ Wa, Wa = W.drewN dq := ⟨_, rfl⟩
  rw [← hw2]
  have hkw : Keeps (fun _ => False) W Wa := by rw [hw2]; exact (Keeps.refl _ _).drewN _
  replace HS := Lib.hid (HS.out.keep0 hkw)
  replace HZ := Lib.hid (HZ.out.keep hkw (fun h => h))
  replace HK := Lib.hid (HK.out.trans hkw (fun _ _ h => h.elim))
  clear hw2 hkw
  have HQ2 := Lib.hid (qplain_at HS.out [99, 97, 115, 101] HO.out 0)
  go_wp2_with fail
  refine HQ2.out.mono ?_
  rintro e wq ⟨rfl, dq, rfl⟩
  obtain ⟨W1, hw2⟩ : ∃ W1, W1 = Wa.drewN dq := ⟨_, rfl⟩
  rw [← hw2]
  have hkw : Keeps (fun _ => False) Wa W1 := by rw [hw2]; exact (Keeps.refl _ _).drewN _
  replace HS := Lib.hid (HS.out.keep0 hkw)
  replace HZ := Lib.hid (HZ.out.keep hkw (fun h => h))
  replace HK := Lib.hid (HK.out.trans hkw (fun _ _ h => h.elim))
  clear hw2 hkw
  obtain ⟨c0, c1, c2, f1, f2⟩ := HS.out.cells
  have hlt := HS.out.lt
  go_wp2_with fail
  obtain ⟨W2, hw2⟩ : ∃ W2, W2 = W1.setCell ⟨ps, 1, none⟩ (.int .i64 ((i : Int) + 1)) := ⟨_, rfl⟩
  rw [← hw2]
  obtain ⟨hi1, hi2⟩ := inc_qs HS.out (by omega)
  rw [← hw2] at hi1 hi2
  replace HS := Lib.hid hi1
  replace HZ := Lib.hid (HZ.out.keep hi2 (fun e => by have := HPS.out; omega))
  replace HK := Lib.hid (HK.out.trans hi2 (fun _ _ h => h))
  clear hw2 hi1 hi2
  clear c0 c1 c2 f1 f2 hlt HO HOP
  refine (qchoose_any K HC.out HSC.out W2 Lo B ps n (i + 1) deep tv T HS.out (by omega) HD.out).mono ?_
  rintro e w3 ⟨v, j, bd, rfl, hij, hjb, hs3, hk3, hf3⟩
  have HSZ := Lib.hid HZ.out.lt
  replace HZ := Lib.hid (HZ.out.keep hk3 (fun e => by have := HPS.out; omega))
  have HS3 := Lib.hid hs3
  have HK3 := Lib.hid hk3
  have HF3 := Lib.hid hf3
  have HIB := Lib.hid (show i ≤ j ∧ j ≤ T.length + (2 * K + 2) by omega)
  rw [← HRES.out] at HF3
  clear hs3 hk3 hf3 hij hjb
  obtain ⟨⟨z0, z1, z2, z3, z4, z5, z6, z7⟩, ⟨zf0, zf1, zf2, zf3, zf4, zf5, zf6, zf7⟩⟩ := HZ.out.eight
  have hzl := HZ.out.lt
  go_wp2_with fail
  refine bodyPost_ret (v := .agg #[.int .i64 v.k, .bool v.nt, .string v.nm, .slice v.a0 v.n0 v.c0, .slice v.a1 v.n1 v.c1, .slice v.a2 v.n2 v.c2, .slice v.a3 v.n3 v.c3, .slice v.a4 v.n4 v.c4]) (by simp [results, Tryz.results163, go_sem, z0, z1, z2, z3, z4, z5, z6, z7]) rfl ?_
  obtain ⟨f1, f2, f3⟩ := pass_on HK.out HSZ.out HK3.out HS3.out HPS.out HF3.out (set8_keeps w3 w.heap.size (.int .i64 v.k) (.bool v.nt) (.string v.nm) (.slice v.a0 v.n0 v.c0) (.slice v.a1 v.n1 v.c1) (.slice v.a2 v.n2 v.c2) (.slice v.a3 v.n3 v.c3) (.slice v.a4 v.n4 v.c4))
  exact ⟨v, j, bd, rfl, HIB.out.1, HIB.out.2, f1, f2, f3⟩
theorem QNode.wide {w : World} {Lo B ps : Nat} {tv : Value} {n : Nat} {T : List Tk} {i b b2 : Nat} {cl : Bool} {res : PR (List Dt)} {e : Ending} {w' : World} (h : QNode w Lo B ps tv n T i b cl res e w') (hb : b ≤ b2) : QNode w Lo B ps tv n T i b2 cl res e w' := by
  obtain ⟨v, j, x, h1, h2, h3, h4⟩ := h
  exact ⟨v, j, x, h1, h2, by omega, h4⟩
theorem qgreat_any (K : Nat) (hcmd : QCmdOK K) (hscr : QScrOK K) (w : World) (Lo B ps n i deep : Nat) (tv : Value) (T : List Tk) (h : QS w Lo B ps tv n T i 0) (hi : i ≤ T.length) (hd : deep + 1 + K = 41) (hc : compB (T.drop i) = true) :
    Calls Tryz.prog 163 #[.pointer (some ⟨ps, 0, none⟩), .int .i64 (deep : Nat)] w (QNode w Lo B ps tv n T i (2 * K + 2) false (greatF K (T.drop i))) := by
  rcases comp_cases hc with h1 | h1 | h1 | h1 | h1 | h1 | h1
  · rw [show greatF K (T.drop i) = shutF (commandF K) 13 (needOp [41]) (T.drop i).tail by unfold greatF; rw [if_pos h1]]
    exact (qparen_any K hcmd w Lo B ps n i deep tv T h hi hd h1).mono fun e w' hq => hq.wide (by omega)
  · rw [(great_if h1).1]; exact qif_any K hcmd w Lo B ps n i deep tv T h hi hd h1 hscr
  · rw [(great_while h1).1]; exact (qwhile_any K hcmd w Lo B ps n i deep tv T h hi hd h1).mono fun e w' hq => hq.wide (by omega)
  · rw [(great_until h1).1]; exact (quntil_any K hcmd w Lo B ps n i deep tv T h hi hd h1).mono fun e w' hq => hq.wide (by omega)
  · rw [(great_for h1).1]; exact qfor_any K hcmd w Lo B ps n i deep tv T h hi hd h1 hscr
  · rw [(great_case h1).1]; exact qcase_any K hcmd w Lo B ps n i deep tv T h hi hd h1 hscr
  · rw [(great_brace h1).1]; exact (qbrace_any K hcmd w Lo B ps n i deep tv T h hi hd h1).mono fun e w' hq => hq.wide (by omega)
end Go.Proofs.YtiihpbccabeoeaaGreatDoor
