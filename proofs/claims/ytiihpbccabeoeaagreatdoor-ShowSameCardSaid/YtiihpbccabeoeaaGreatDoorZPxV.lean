/-
  The document's own parser: choices (plain parts; a record at the end).
-/
import Derived.Test.YtiihpbccabeoeaaGreatDoorZPxU
namespace Go.Proofs.YtiihpbccabeoeaaGreatDoor
open Go.RowKit
set_option linter.unusedVariables false
theorem qr_fin {E : Nat → Prop} {gd : Prop} {w wr : World} {Lo B ps : Nat} {tv : Value} {n : Nat} {T : List Tk} {X N : Nat} {Z : List Value} {pre post : List Dt} {vpre vpost : List Value} {k : Nat} {Ty : TypeId} {I x m : Nat} {la : Option Addr} {lc : Nat} {ds : List Dt} {res : PR (List Dt)}
    (h : QR E gd w wr Lo B ps tv n T X N Z pre post vpre vpost k Ty I x m la lc ds) (hX : w.heap.size < X) (hps : ps < w.heap.size)
    (hq : (gd ∧ x = 0 ∧ I ≤ T.length ∧ NdD (pre ++ .sl k ds :: post) ∧ res = .ok (pre ++ .sl k ds :: post, T.drop I)) ∨ (∀ w D us, QF false w D T res us I x)) :
    QF false wr (fun b => Qd Lo B w.heap.size b ∧ b ≠ w.heap.size) T res (vpre ++ .slice la m lc :: vpost) I x := by
  rcases hq with ⟨g, hx, hI, hn, hr⟩ | hq
  · have hB := h.rs.ps
    exact QF.good hr hx hn ((h.all g).mono (fun b _ hb => by rcases hb with h | h; exact ⟨.inl h, by omega⟩; exact ⟨.inr (by omega), by omega⟩)) rfl hI
  · exact hq _ _ _
theorem qlist_uni (K : Nat) (hcmd : QCmdOK K) (w : World) (Lo B ps n i x deep : Nat) (tv : Value) (T : List Tk) (h : QS w Lo B ps tv n T i x) (hi : x = 0 → i ≤ T.length) (hd : deep + K = 41) :
    Calls Tryz.prog 63 #[.pointer (some ⟨ps, 0, none⟩), .int .i64 (deep : Nat)] w fun e w' => ∃ (v : NV) (j y : Nat), e = .returned (.agg #[.int .i64 v.k, .bool v.nt, .string v.nm, .slice v.a0 v.n0 v.c0, .slice v.a1 v.n1 v.c1, .slice v.a2 v.n2 v.c2, .slice v.a3 v.n3 v.c3, .slice v.a4 v.n4 v.c4]) ∧ i ≤ j ∧ (j ≤ T.length + 2 * K ∨ j = i) ∧ QS w' Lo B ps tv n T j y ∧ Keeps (fun b => b = ps) w w' ∧ ((x = 0 ∧ QF true w' (Qd Lo B w.heap.size) T (listF (commandF K) (T.drop i)) v.vals j y) ∨ (x ≠ 0 ∧ y = x)) := by
  by_cases hx : x = 0
  · subst hx
    refine (qlist_any K hcmd w Lo B ps n i deep tv T h (hi rfl) hd).mono ?_
    rintro e w' ⟨v, j, y, he, h1, h2, h3, h4, h5⟩
    exact ⟨v, j, y, he, h1, .inl h2, h3, h4, .inl ⟨rfl, h5⟩⟩
  · refine (qlist_bad w Lo B ps n i x deep tv T h hx).mono ?_
    rintro e w' ⟨j, he, h1, h2, h3, h4, h5⟩
    refine ⟨⟨5, false, ⟨#[]⟩, none, 0, 0, none, 0, 0, none, 0, 0, none, 0, 0, none, 0, 0⟩, j, x, he, h1, ?_, h4, h5, .inr ⟨hx, rfl⟩⟩
    rcases Nat.le_total i T.length with h9 | h9
    · exact .inl (by have := h2 h9; omega)
    · exact .inr (h3 h9)
def choiceEnd (p : PR (List Dt)) : PR (List Dt) := match p with
  | .error e => .error e
  | .ok (l, r) => match needW [102, 105] r with
    | .error e => .error e
    | .ok (_, r2) => .ok (ndR 6 false [] [] [] [] l [], r2)
def choiceB (K M : Nat) (acc : List Dt) (p : PR (List Dt)) : PR (List Dt) := match p with
  | .error e => .error e
  | .ok (b, r2) => choiceEnd (if isWF [101, 108, 105, 102] r2 then choiceLoop (commandF K) M (acc ++ b) r2.tail
      else if isWF [101, 108, 115, 101] r2 then (match listF (commandF K) r2.tail with
        | .error e => .error e
        | .ok (x, r3) => .ok (acc ++ b ++ x, r3))
      else .ok (acc ++ b, r2))
def choiceA (K M : Nat) (acc : List Dt) (p : PR (List Dt)) : PR (List Dt) := match p with
  | .error e => .error e
  | .ok (c, r) => match needW [116, 104, 101, 110] r with
    | .error e => .error e
    | .ok (_, r1) => choiceB K M (acc ++ c) (listF (commandF K) r1)
def choiceC (acc : List Dt) (p : PR (List Dt)) : PR (List Dt) := match p with
  | .error e => .error e
  | .ok (x, r3) => choiceEnd (.ok (acc ++ x, r3))
theorem choice_eq (K : Nat) (ts : List Tk) : choiceF (commandF K) ts = choiceEnd (choiceLoop (commandF K) (ts.length + 1) [] ts) := by
  unfold choiceF choiceEnd
  cases choiceLoop (commandF K) (ts.length + 1) [] ts with
  | error e => rfl
  | ok p => rfl
theorem choice_iter (K M : Nat) (acc : List Dt) (ts : List Tk) : choiceEnd (choiceLoop (commandF K) (M + 1) acc ts) = choiceA K M acc (listF (commandF K) ts) := by
  unfold choiceA
  conv => lhs; unfold choiceLoop
  cases listF (commandF K) ts with
  | error e => rfl
  | ok p =>
    obtain ⟨c, r⟩ := p
    dsimp only
    cases needW [116, 104, 101, 110] r with
    | error e => rfl
    | ok q =>
      obtain ⟨_, r1⟩ := q
      dsimp only
      unfold choiceB
      cases listF (commandF K) r1 with
      | error e => rfl
      | ok p => rfl
theorem cls_no {s : Bs} (hs : closerL.contains s = true) {r : List Tk} (h : closesF r = false) : isWF s r = false := by
  cases hw : isWF s r with
  | false => rfl
  | true => rw [wfP1 hs r hw] at h; cases h
theorem choiceEnd_no {l : List Dt} {r : List Tk} (h : isWF [102, 105] r = false) : choiceEnd (.ok (l, r)) = .error 2 := by
  unfold choiceEnd
  dsimp only
  rw [needW_no h]
theorem choiceEnd_yes {l : List Dt} {r : List Tk} (h : isWF [102, 105] r = true) : choiceEnd (.ok (l, r)) = .ok (ndR 6 false [] [] [] [] l [], r.tail) := by
  unfold choiceEnd
  dsimp only
  rw [needW_yes h]
theorem choiceA_no {K M : Nat} {acc c : List Dt} {r : List Tk} (h : isWF [116, 104, 101, 110] r = false) : choiceA K M acc (.ok (c, r)) = .error 2 := by
  unfold choiceA
  dsimp only
  rw [needW_no h]
theorem choiceA_yes {K M : Nat} {acc c : List Dt} {r : List Tk} (h : isWF [116, 104, 101, 110] r = true) : choiceA K M acc (.ok (c, r)) = choiceB K M (acc ++ c) (listF (commandF K) r.tail) := by
  unfold choiceA
  dsimp only
  rw [needW_yes h]
theorem choiceB_rest {K M : Nat} {acc b : List Dt} {r : List Tk} (h1 : isWF [101, 108, 105, 102] r = false) (h2 : isWF [101, 108, 115, 101] r = false) : choiceB K M acc (.ok (b, r)) = choiceEnd (.ok (acc ++ b, r)) := by
  unfold choiceB
  dsimp only
  rw [h1, h2]
  rfl
theorem choiceB_elif {K M : Nat} {acc b : List Dt} {r : List Tk} (h1 : isWF [101, 108, 105, 102] r = true) : choiceB K M acc (.ok (b, r)) = choiceEnd (choiceLoop (commandF K) M (acc ++ b) r.tail) := by
  unfold choiceB
  dsimp only
  rw [h1]
  rfl
theorem choiceB_else {K M : Nat} {acc b : List Dt} {r : List Tk} (h1 : isWF [101, 108, 105, 102] r = false) (h2 : isWF [101, 108, 115, 101] r = true) : choiceB K M acc (.ok (b, r)) = choiceC (acc ++ b) (listF (commandF K) r.tail) := by
  unfold choiceB
  dsimp only
  rw [h1, h2, if_neg (by simp), if_pos rfl]
  unfold choiceC
  cases listF (commandF K) r.tail with
  | error e => rfl
  | ok p => rfl
theorem choiceB_no {K M : Nat} {acc b : List Dt} {r : List Tk} (h : closesF r = false) : choiceB K M acc (.ok (b, r)) = .error 2 := by
  rw [choiceB_rest (cls_no (by decide) h) (cls_no (by decide) h), choiceEnd_no (cls_no (by decide) h)]
def CH (gd : Prop) (K : Nat) (acc : List Dt) (T : List Tk) (I x : Nat) (res : PR (List Dt)) : Prop := (gd ∧ x = 0 ∧ I ≤ T.length ∧ ∃ M, T.length - I + 1 ≤ M ∧ res = choiceEnd (choiceLoop (commandF K) M acc (T.drop I))) ∨ (x ≠ 0 ∧ res = .error x)
theorem choiceC_no {acc x : List Dt} {r : List Tk} (h : isWF [102, 105] r = false) : choiceC acc (.ok (x, r)) = .error 2 := choiceEnd_no h
theorem choice_else_fin {K M : Nat} {acc db : List Dt} {T : List Tk} {jb xb jc xc xe : Nat} {res : PR (List Dt)} {gb : Prop} {w : World} {D : Nat → Prop} {us : List Value} (hst : QSt gb (res = choiceB K M acc (.ok (db, T.drop jb))) T jb xb res) (hel : isWF [101, 108, 115, 101] (T.drop jb) = true)
    (hfc : (xb = 0 ∧ QF true w D T (listF (commandF K) (T.drop (jb + 1))) us jc xc) ∨ (xb ≠ 0 ∧ xc = xb)) (hxe : xe = if xc = 0 then (if isWF [102, 105] (T.drop jc) then 0 else 2) else xc) :
    ∃ (gc : Prop) (dc : List Dt), (gc → gb ∧ NdD dc ∧ RdL w D dc us) ∧ ((gc ∧ xe = 0 ∧ jc + 1 ≤ T.length ∧ res = .ok (ndR 6 false [] [] [] [] (acc ++ db ++ dc) [], T.drop (jc + 1))) ∨ (xe ≠ 0 ∧ res = .error xe)) := by
  have hel2 : isWF [101, 108, 105, 102] (T.drop jb) = false := by
    unfold isWF at hel ⊢
    rw [beq_iff_eq.1 hel]
    rfl
  rcases hst with ⟨g, hx, hj, hr⟩ | ⟨hx, hr⟩ | ⟨_, ho, _⟩
  · rw [choiceB_else hel2 hel, drop_tail] at hr
    rcases hfc with ⟨_, hq⟩ | ⟨h9, _⟩
    · rcases close_any (P := isWF [102, 105]) (wfP1 (by decide)) (wfP2 (by decide)) hq hxe with ⟨dc, _, hw, h0, hn, hd, hjc, hl⟩ | ⟨h0, hf⟩
      · have := toks_in (isW_pos (by decide) hw)
        refine ⟨True, dc, fun _ => ⟨g, hn, hd⟩, .inl ⟨trivial, h0, by omega, ?_⟩⟩
        rw [hr, hl]
        unfold choiceC
        dsimp only
        rw [choiceEnd_yes hw, drop_tail]
      · exact ⟨False, [], fun h => h.elim, .inr ⟨h0, by rw [hr, hf (choiceC (acc ++ db)) (fun e => rfl) (fun ds r h => choiceC_no h)]⟩⟩
    · exact absurd hx h9
  · rcases hfc with ⟨h9, _⟩ | ⟨_, rfl⟩
    · exact absurd h9 hx
    · rw [if_neg hx] at hxe
      subst hxe
      exact ⟨False, [], fun h => h.elim, .inr ⟨hx, hr⟩⟩
  · rw [wfP2 (by decide) _ ho] at hel; cases hel
theorem isWF_plain {s : Bs} {ts : List Tk} (h : plainT (atF ts) = s) (t : Bs) : isWF t ts = (s == t) := by
  unfold isWF
  rw [h]
end Go.Proofs.YtiihpbccabeoeaaGreatDoor
