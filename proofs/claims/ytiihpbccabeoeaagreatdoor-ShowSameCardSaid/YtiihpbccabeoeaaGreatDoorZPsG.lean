/-
  Plain: what the parser makes are commands.
-/
import Derived.Test.YtiihpbccabeoeaaGreatDoorZPsC
namespace Go.Proofs.YtiihpbccabeoeaaGreatDoor
set_option linter.unusedVariables false
theorem PartsD.succ : ∀ {n : Nat} {ds : List Dt}, PartsD n ds → PartsD (n + 1) ds
  | 0, ds, h => ⟨[], h, fun x hx => by cases hx⟩
  | n + 1, ds, ⟨xs, h1, h2⟩ => ⟨xs, h1, fun x hx => (h2 x hx).succ⟩
theorem PartsD.le {n m : Nat} {ds : List Dt} (h : PartsD n ds) (hm : n ≤ m) : PartsD m ds := by
  induction hm with
  | refl => exact h
  | step _ ih => exact ih.succ
theorem NodesD.succ : ∀ {n : Nat} {ds : List Dt}, NodesD n ds → NodesD (n + 1) ds
  | 0, ds, h => ⟨[], h, fun x hx => by cases hx⟩
  | n + 1, ds, ⟨xs, h1, h2⟩ => ⟨xs, h1, fun x hx => by
    obtain ⟨a, b, c, d, e⟩ := h2 x hx
    exact ⟨fun v hv => (a v hv).succ, fun g hg => (b g hg).succ, fun g hg => (c g hg).succ, d.succ, fun y hy => ⟨fun v hv => ((e y hy).1 v hv).succ, (e y hy).2.succ⟩⟩⟩
theorem NodesD.le {n m : Nat} {ds : List Dt} (h : NodesD n ds) (hm : n ≤ m) : NodesD m ds := by
  induction hm with
  | refl => exact h
  | step _ ih => exact ih.succ
theorem NyOK.le {n m : Nat} {x : Ny} (h : NyOK n x) (hm : n ≤ m) : NyOK m x := by
  obtain ⟨a, b, c, d, e⟩ := h
  exact ⟨fun v hv => (a v hv).le hm, fun g hg => (b g hg).le hm, fun g hg => (c g hg).le hm, d.le hm, fun y hy => ⟨fun v hv => ((e y hy).1 v hv).le hm, (e y hy).2.le hm⟩⟩
def pxOf (p : Pt) : Px := ⟨(p.kind : Nat), p.text, p.name, p.op, partsR p.word, p.quoted⟩
theorem partsR_px : ∀ l : List Pt, partsR l = (l.map pxOf).flatMap Px.row
  | [] => by simp [partsR_nil]
  | p :: l => by rw [partsR_cons, partR_eq, partsR_px l]; rfl
theorem wordSize {l : List Pt} {p : Pt} (h : p ∈ l) : SizeOf.sizeOf p.word < SizeOf.sizeOf l := by
  have h1 := List.sizeOf_lt_of_mem h
  cases p with
  | mk k t n o w q =>
    simp only [Pt.mk.sizeOf_spec] at h1
    show SizeOf.sizeOf w < _
    omega
theorem partsOf : ∀ (N : Nat) (l : List Pt), SizeOf.sizeOf l ≤ N → PartsD N (partsR l)
  | 0, l, h => by
    cases l with
    | nil => rfl
    | cons a t => simp at h
  | N + 1, l, h => by
    refine ⟨l.map pxOf, partsR_px l, fun x hx => ?_⟩
    obtain ⟨p, hp, rfl⟩ := List.mem_map.1 hx
    have := wordSize hp
    exact partsOf N p.word (by omega)
theorem map_word : ∀ ws : List (List Pt), ws.map wordR = (ws.map partsR).flatMap wdD
  | [] => rfl
  | w :: t => by rw [List.map_cons, List.map_cons, List.flatMap_cons, map_word t]; rfl
def pairQ (g : Bs × List Pt) : List Dt := [.str g.1, wordR g.2]
def armQ (a : List (List Pt) × List Dt) : List Dt := [.sl 1 (a.1.map wordR), .sl 8 a.2]
theorem flat_pair : ∀ gs : List (Bs × List Pt), gs.flatMap pairQ = (gs.map fun g => (g.1, partsR g.2)).flatMap prD
  | [] => rfl
  | g :: t => by rw [List.flatMap_cons, List.map_cons, List.flatMap_cons, flat_pair t]; rfl
theorem flat_arm : ∀ ar : List (List (List Pt) × List Dt), ar.flatMap armQ = (ar.map fun a => (a.1.map partsR, a.2)).flatMap arD
  | [] => rfl
  | a :: t => by
    rw [List.flatMap_cons, List.map_cons, List.flatMap_cons, flat_arm t]
    unfold armQ arD
    rw [map_word]
def GoodT (ds : List Dt) : Prop := ∃ n, NodesD n ds
theorem GoodT.nil : GoodT [] := ⟨0, rfl⟩
theorem GoodT.app {a b : List Dt} : GoodT a → GoodT b → GoodT (a ++ b)
  | ⟨n, h⟩, ⟨m, k⟩ => by
    obtain ⟨xs, h1, h2⟩ := (h.le (Nat.le_max_left n m)).succ
    obtain ⟨ys, k1, k2⟩ := (k.le (Nat.le_max_right n m)).succ
    refine ⟨max n m + 1, xs ++ ys, by rw [h1, k1, List.flatMap_append], fun x hx => ?_⟩
    rcases List.mem_append.1 hx with hx | hx
    · exact h2 x hx
    · exact k2 x hx
def IsN (d : List Dt) : Prop := ∃ x : Ny, d = x.row ∧ ∃ n, NyOK n x
theorem all_le {α : Type} {P : Nat → α → Prop} (hP : ∀ n m a, P n a → n ≤ m → P m a) : ∀ l : List α, (∀ a ∈ l, ∃ n, P n a) → ∃ n, ∀ a ∈ l, P n a
  | [], _ => ⟨0, fun a ha => by cases ha⟩
  | a :: t, h => by
    obtain ⟨n, hn⟩ := h a (List.mem_cons_self ..)
    obtain ⟨m, hm⟩ := all_le hP t (fun b hb => h b (List.mem_cons_of_mem _ hb))
    refine ⟨max n m, fun b hb => ?_⟩
    rcases List.mem_cons.1 hb with rfl | hb
    · exact hP _ _ _ hn (Nat.le_max_left ..)
    · exact hP _ _ _ (hm b hb) (Nat.le_max_right ..)
theorem IsN.good {d : List Dt} : IsN d → GoodT d
  | ⟨x, h, ⟨n, hn⟩⟩ => ⟨n + 1, [x], by simp [h], fun y hy => by rw [List.mem_singleton.1 hy]; exact hn⟩
theorem pairs_n (gs : List (Bs × List Pt)) : ∃ n, ∀ g ∈ (gs.map fun g => (g.1, partsR g.2)), PartsD n g.2 :=
  all_le (P := fun n (g : Bs × List Dt) => PartsD n g.2) (fun n m a h hm => h.le hm) _ fun a ha => by
    obtain ⟨g, _, rfl⟩ := List.mem_map.1 ha
    exact ⟨_, partsOf _ g.2 (Nat.le_refl _)⟩
theorem words_n (ws : List (List Pt)) : ∃ n, ∀ v ∈ ws.map partsR, PartsD n v :=
  all_le (P := fun n (v : List Dt) => PartsD n v) (fun n m a h hm => h.le hm) _ fun a ha => by
    obtain ⟨g, _, rfl⟩ := List.mem_map.1 ha
    exact ⟨_, partsOf _ g (Nat.le_refl _)⟩
theorem isN_mk (kind : Nat) (nt : Bool) (nm : List UInt8) (ws : List (List Pt)) (gs rs : List (List UInt8 × List Pt)) {ks : List Dt} (ar : List (List (List Pt) × List Dt)) (hk : GoodT ks) (ha : ∀ a ∈ ar, GoodT a.2) : IsN (ndR kind nt nm (ws.map wordR) (gs.flatMap pairQ) (rs.flatMap pairQ) ks (ar.flatMap armQ)) := by
  obtain ⟨n1, h1⟩ := words_n ws
  obtain ⟨n2, h2⟩ := pairs_n gs
  obtain ⟨n3, h3⟩ := pairs_n rs
  obtain ⟨n4, h4⟩ := hk
  obtain ⟨n5, h5⟩ := all_le (P := fun n (a : List (List Dt) × List Dt) => (∀ v ∈ a.1, PartsD n v) ∧ NodesD n a.2) (fun n m a h hm => ⟨fun v hv => (h.1 v hv).le hm, h.2.le hm⟩) (ar.map fun a => (a.1.map partsR, a.2)) fun a hm => by
    obtain ⟨b, hb, rfl⟩ := List.mem_map.1 hm
    obtain ⟨p, hp⟩ := words_n b.1
    obtain ⟨q, hq⟩ := ha b hb
    exact ⟨max p q, fun v hv => (hp v hv).le (Nat.le_max_left ..), hq.le (Nat.le_max_right ..)⟩
  refine ⟨⟨(kind : Nat), nt, nm, ws.map partsR, gs.map fun g => (g.1, partsR g.2), rs.map fun g => (g.1, partsR g.2), ks, ar.map fun a => (a.1.map partsR, a.2)⟩, ?_, n1 + n2 + n3 + n4 + n5, ?_⟩
  · unfold ndR Ny.row
    rw [map_word, flat_pair, flat_pair, flat_arm]
  · exact ⟨fun v hv => (h1 v hv).le (by omega), fun g hg => (h2 g hg).le (by omega), fun g hg => (h3 g hg).le (by omega), h4.le (by omega), fun a h => ⟨fun v hv => ((h5 a h).1 v hv).le (by omega), (h5 a h).2.le (by omega)⟩⟩
theorem isN_kids (kind : Nat) (nt : Bool) (nm : List UInt8) {ks : List Dt} (hk : GoodT ks) : IsN (ndR kind nt nm [] [] [] ks []) := isN_mk kind nt nm [] [] [] [] hk (fun a ha => by cases ha)
theorem seqF_good {l : List Dt} (h : GoodT l) : GoodT (seqF l) := by
  unfold seqF
  split
  · exact h
  · exact (isN_kids 5 false [] h).good
section
variable {cmd : List Tk → PR (List Dt)} {scr : Bs → Except Nat Unit}
def CmdG (cmd : List Tk → PR (List Dt)) : Prop := ∀ ts d r, cmd ts = .ok (d, r) → IsN d
theorem pipeLoop_good (hc : CmdG cmd) : ∀ (n : Nat) (acc : List Dt) (ts : List Tk) (d : List Dt) (r : List Tk), GoodT acc → pipeLoop cmd n acc ts = .ok (d, r) → GoodT d
  | 0, acc, ts, d, r, ha, h => by cases h
  | n + 1, acc, ts, d, r, ha, h => by
    unfold pipeLoop at h
    split at h
    · split at h
      · cases h
      · next d1 r1 h1 => exact pipeLoop_good hc n _ _ _ _ (ha.app (hc _ _ _ h1).good) h
    · injection h with h; injection h with h1 h2; rw [← h1]; exact ha
theorem pipeline_good (hc : CmdG cmd) {ts : List Tk} {d : List Dt} {r : List Tk} (h : pipelineF cmd ts = .ok (d, r)) : GoodT d := by
  unfold pipelineF at h
  split at h
  · cases h
  · next d1 r1 h1 =>
    split at h
    · cases h
    · next l r2 h2 =>
      have hl := pipeLoop_good hc _ _ _ _ _ (hc _ _ _ h1).good h2
      split at h
      · injection h with h; injection h with h1 h2; rw [← h1]; exact hl
      · injection h with h; injection h with h1 h2; rw [← h1]; exact (isN_kids 2 _ [] hl).good
theorem andLoop_good (hc : CmdG cmd) : ∀ (n : Nat) (acc : List Dt) (ts : List Tk) (d : List Dt) (r : List Tk), GoodT acc → andLoop cmd n acc ts = .ok (d, r) → GoodT d
  | 0, acc, ts, d, r, ha, h => by cases h
  | n + 1, acc, ts, d, r, ha, h => by
    unfold andLoop at h
    split at h
    · split at h
      · cases h
      · next d1 r1 h1 => exact andLoop_good hc n _ _ _ _ (isN_kids 3 false [] (ha.app (pipeline_good hc h1))).good h
    · split at h
      · split at h
        · cases h
        · next d1 r1 h1 => exact andLoop_good hc n _ _ _ _ (isN_kids 4 false [] (ha.app (pipeline_good hc h1))).good h
      · injection h with h; injection h with h1 h2; rw [← h1]; exact ha
theorem andOr_good (hc : CmdG cmd) {ts : List Tk} {d : List Dt} {r : List Tk} (h : andOrF cmd ts = .ok (d, r)) : GoodT d := by
  unfold andOrF at h
  split at h
  · cases h
  · next d1 r1 h1 => exact andLoop_good hc _ _ _ _ _ (pipeline_good hc h1) h
theorem allLoop_good (hc : CmdG cmd) : ∀ (n : Nat) (acc : List Dt) (ts : List Tk) (d : List Dt) (r : List Tk), GoodT acc → allLoop cmd n acc ts = .ok (d, r) → GoodT d
  | 0, acc, ts, d, r, ha, h => by cases h
  | n + 1, acc, ts, d, r, ha, h => by
    unfold allLoop at h
    split at h
    · split at h
      · cases h
      · next d1 r1 h1 => exact allLoop_good hc n _ _ _ _ (ha.app (andOr_good hc h1)) h
    · injection h with h; injection h with h1 h2; rw [← h1]; exact ha
theorem all_good (hc : CmdG cmd) {ts : List Tk} {d : List Dt} {r : List Tk} (h : allF cmd ts = .ok (d, r)) : GoodT d := by
  unfold allF at h
  split at h
  · cases h
  · next d1 r1 h1 => exact allLoop_good hc _ _ _ _ _ (andOr_good hc h1) h
theorem list_good (hc : CmdG cmd) {ts : List Tk} {d : List Dt} {r : List Tk} (h : listF cmd ts = .ok (d, r)) : GoodT d := by
  unfold listF at h
  split at h
  · cases h
  · next d1 r1 h1 => injection h with h; injection h with h2 h3; rw [← h2]; exact seqF_good (all_good hc h1)
theorem redirs_good : ∀ (n : Nat) (rs : List (List UInt8 × List Pt)) (ts : List Tk) (d : List Dt) (r : List Tk), redirsF scr n (rs.flatMap pairQ) ts = .ok (d, r) → ∃ rs2 : List (List UInt8 × List Pt), d = rs2.flatMap pairQ
  | 0, rs, ts, d, r, h => by cases h
  | n + 1, rs, ts, d, r, h => by
    unfold redirsF at h
    split at h
    · split at h
      · cases h
      · next d1 r1 h1 =>
        unfold redirF at h1
        split at h1
        · cases h1
        · next w r2 hw =>
          injection h1 with h1; injection h1 with h2 h3
          rw [← h2] at h
          exact redirs_good n (rs ++ [((atF ts).text, w)]) _ _ _ (by rw [List.flatMap_append]; simpa [pairQ] using h)
    · injection h with h; injection h with h1 h2; exact ⟨rs, h1.symm⟩
theorem simple_good : ∀ (n : Nat) (ws : List (List Pt)) (gs rs : List (List UInt8 × List Pt)) (ts : List Tk) (d : List Dt) (r : List Tk), simpleF scr n (ws.map wordR) (gs.flatMap pairQ) (rs.flatMap pairQ) ts = .ok (d, r) → IsN d
  | 0, ws, gs, rs, ts, d, r, h => by cases h
  | n + 1, ws, gs, rs, ts, d, r, h => by
    unfold simpleF at h
    split at h
    · split at h
      · cases h
      · next d1 r1 h1 =>
        unfold redirF at h1
        split at h1
        · cases h1
        · next w r2 hw =>
          injection h1 with h1; injection h1 with h2 h3
          rw [← h2] at h
          exact simple_good n ws gs (rs ++ [((atF ts).text, w)]) _ _ _ (by rw [List.flatMap_append]; simpa [pairQ] using h)
    · split at h
      · split at h
        · cases h
        · next w r1 h1 =>
          split at h
          · next nm v h2 => exact simple_good n ws (gs ++ [(nm, v)]) rs _ _ _ (by rw [List.flatMap_append]; simpa [pairQ] using h)
          · next h2 => exact simple_good n (ws ++ [w]) gs rs _ _ _ (by rw [List.map_append]; exact h)
      · injection h with h; injection h with h1 h2; rw [← h1]; exact isN_mk 1 false [] ws gs rs [] GoodT.nil (fun a ha => by cases ha)
theorem body_good (hc : CmdG cmd) {ts : List Tk} {d : List Dt} {r : List Tk} (h : bodyF cmd ts = .ok (d, r)) : GoodT d := by
  unfold bodyF at h
  split at h
  · cases h
  · split at h
    · cases h
    · next d1 r1 h1 =>
      split at h
      · cases h
      · injection h with h; injection h with h2 h3; rw [← h2]; exact list_good hc h1
theorem while_good (hc : CmdG cmd) {kind : Nat} {ts : List Tk} {d : List Dt} {r : List Tk} (h : whileF cmd kind ts = .ok (d, r)) : IsN d := by
  unfold whileF at h
  split at h
  · cases h
  · next d1 r1 h1 =>
    split at h
    · cases h
    · next b r2 h2 => injection h with h; injection h with h3 h4; rw [← h3]; exact isN_kids _ _ _ ((list_good hc h1).app (body_good hc h2))
theorem choiceLoop_good (hc : CmdG cmd) : ∀ (n : Nat) (acc : List Dt) (ts : List Tk) (d : List Dt) (r : List Tk), GoodT acc → choiceLoop cmd n acc ts = .ok (d, r) → GoodT d
  | 0, acc, ts, d, r, ha, h => by cases h
  | n + 1, acc, ts, d, r, ha, h => by
    unfold choiceLoop at h
    split at h
    · cases h
    · next c r1 h1 =>
      split at h
      · cases h
      · split at h
        · cases h
        · next b r2 h2 =>
          have hg := (ha.app (list_good hc h1)).app (list_good hc h2)
          split at h
          · exact choiceLoop_good hc n _ _ _ _ hg h
          · split at h
            · split at h
              · cases h
              · next x r3 h3 => injection h with h; injection h with h4 h5; rw [← h4]; exact hg.app (list_good hc h3)
            · injection h with h; injection h with h4 h5; rw [← h4]; exact hg
theorem choice_good (hc : CmdG cmd) {ts : List Tk} {d : List Dt} {r : List Tk} (h : choiceF cmd ts = .ok (d, r)) : IsN d := by
  unfold choiceF at h
  split at h
  · cases h
  · next l r1 h1 =>
    split at h
    · cases h
    · injection h with h; injection h with h3 h4; rw [← h3]; exact isN_kids _ _ _ (choiceLoop_good hc _ _ _ _ _ GoodT.nil h1)
theorem words_good : ∀ (n : Nat) (ws : List (List Pt)) (ts : List Tk) (d : List Dt) (r : List Tk), wordsLoop scr n (ws.map wordR) ts = .ok (d, r) → ∃ ws2 : List (List Pt), d = ws2.map wordR
  | 0, ws, ts, d, r, h => by cases h
  | n + 1, ws, ts, d, r, h => by
    unfold wordsLoop at h
    split at h
    · split at h
      · cases h
      · next w r1 h1 => exact words_good n (ws ++ [w]) _ _ _ (by rw [List.map_append]; exact h)
    · injection h with h; injection h with h1 h2; exact ⟨ws, h1.symm⟩
theorem each_good (hc : CmdG cmd) {ts : List Tk} {d : List Dt} {r : List Tk} (h : eachF cmd scr ts = .ok (d, r)) : IsN d := by
  unfold eachF at h
  split at h
  · split at h
    · split at h
      · cases h
      · next ws r1 h1 =>
        obtain ⟨ws2, rfl⟩ := words_good (scr := scr) _ [] _ _ _ h1
        split at h
        · split at h
          · cases h
          · next b r2 h2 => injection h with h; injection h with h3 h4; rw [← h3]; exact isN_mk 9 false _ ws2 [] [] [] (body_good hc h2) (fun a ha => by cases ha)
        · cases h
    · split at h
      · cases h
      · next b r2 h2 => injection h with h; injection h with h3 h4; rw [← h3]; exact isN_mk 9 false _ [[.mk 3 [] [64] [] [] true]] [] [] [] (body_good hc h2) (fun a ha => by cases ha)
  · cases h
theorem pats_good : ∀ (n : Nat) (ws : List (List Pt)) (ts : List Tk) (d : List Dt) (r : List Tk), patsLoop scr n (ws.map wordR) ts = .ok (d, r) → ∃ ws2 : List (List Pt), d = ws2.map wordR
  | 0, ws, ts, d, r, h => by cases h
  | n + 1, ws, ts, d, r, h => by
    unfold patsLoop at h
    split at h
    · split at h
      · cases h
      · next w r1 h1 => exact pats_good n (ws ++ [w]) _ _ _ (by rw [List.map_append]; exact h)
    · injection h with h; injection h with h1 h2; exact ⟨ws, h1.symm⟩
theorem arm_good (hc : CmdG cmd) {ts : List Tk} {d : List Dt} {r : List Tk} (h : armF cmd scr ts = .ok (d, r)) : ∃ a : List (List Pt) × List Dt, d = armQ a ∧ GoodT a.2 := by
  unfold armF at h
  split at h
  · cases h
  · next w r1 h1 =>
    split at h
    · cases h
    · next ps r2 h2 =>
      obtain ⟨ws2, rfl⟩ := pats_good (scr := scr) _ [w] _ _ _ h2
      split at h
      · cases h
      · split at h
        · split at h
          · cases h
          · next b r3 h3 => injection h with h; injection h with h4 h5; exact ⟨(ws2, b), h4.symm, list_good hc h3⟩
        · injection h with h; injection h with h4 h5; exact ⟨(ws2, []), h4.symm, GoodT.nil⟩
theorem arms_snoc {ar : List (List (List Pt) × List Dt)} {a : List (List Pt) × List Dt} (h : ∀ a ∈ ar, GoodT a.2) (ha : GoodT a.2) : ∀ b ∈ ar ++ [a], GoodT b.2 := fun b hb => by
  rcases List.mem_append.1 hb with hb | hb
  · exact h b hb
  · rw [List.mem_singleton.1 hb]; exact ha
theorem arms_good (hc : CmdG cmd) : ∀ (n : Nat) (ar : List (List (List Pt) × List Dt)) (ts : List Tk) (d : List Dt) (r : List Tk), (∀ a ∈ ar, GoodT a.2) → armsLoop cmd scr n (ar.flatMap armQ) ts = .ok (d, r) → ∃ ar2 : List (List (List Pt) × List Dt), d = ar2.flatMap armQ ∧ ∀ a ∈ ar2, GoodT a.2
  | 0, ar, ts, d, r, ha, h => by cases h
  | n + 1, ar, ts, d, r, ha, h => by
    unfold armsLoop at h
    split at h
    · injection h with h; injection h with h1 h2; exact ⟨ar, h1.symm, ha⟩
    · split at h
      · cases h
      · next d1 r1 h1 =>
        obtain ⟨a, rfl, hg⟩ := arm_good hc h1
        have e : ar.flatMap armQ ++ armQ a = (ar ++ [a]).flatMap armQ := by rw [List.flatMap_append]; simp
        rw [e] at h
        split at h
        · exact arms_good hc n (ar ++ [a]) _ _ _ (arms_snoc ha hg) h
        · split at h
          · cases h
          · injection h with h; injection h with h2 h3; exact ⟨ar ++ [a], h2.symm, arms_snoc ha hg⟩
theorem cases_good (hc : CmdG cmd) {ts : List Tk} {d : List Dt} {r : List Tk} (h : casesF cmd scr ts = .ok (d, r)) : IsN d := by
  unfold casesF at h
  split at h
  · cases h
  · next w r1 h1 =>
    split at h
    · cases h
    · split at h
      · cases h
      · next l r2 h2 =>
        obtain ⟨ar, rfl, ha⟩ := arms_good hc _ [] _ _ _ (fun a ha => by cases ha) h2
        injection h with h; injection h with h3 h4
        rw [← h3]
        exact isN_mk 10 false [] [w] [] [] ar GoodT.nil ha
theorem function_good (hc : CmdG cmd) {name : Bs} {ts : List Tk} {d : List Dt} {r : List Tk} (h : functionF cmd name ts = .ok (d, r)) : IsN d := by
  unfold functionF at h
  split at h
  · cases h
  · split at h
    · split at h
      · cases h
      · next d1 r1 h1 => injection h with h; injection h with h3 h4; rw [← h3]; exact isN_kids _ _ _ (hc _ _ _ h1).good
    · cases h
theorem shut_good (hc : CmdG cmd) {kind : Nat} {close : List Tk → PR Unit} {ts : List Tk} {d : List Dt} {r : List Tk} (h : shutF cmd kind close ts = .ok (d, r)) : IsN d := by
  unfold shutF at h
  split at h
  · cases h
  · next d1 r1 h1 =>
    split at h
    · cases h
    · injection h with h; injection h with h3 h4; rw [← h3]; exact isN_kids _ _ _ (list_good hc h1)
theorem with_good {q : PR (List Dt)} (hq : ∀ d r, q = .ok (d, r) → IsN d) {d : List Dt} {r : List Tk} (h : withRedirs scr q = .ok (d, r)) : IsN d := by
  unfold withRedirs at h
  split at h
  · cases h
  · next d1 r1 =>
    split at h
    · cases h
    · next rs r2 h2 =>
      obtain ⟨rs2, rfl⟩ := redirs_good (scr := scr) _ [] _ _ _ h2
      obtain ⟨x, rfl, n, hn⟩ := hq _ _ rfl
      injection h with h; injection h with h3 h4
      rw [← h3]
      obtain ⟨m, hm⟩ := pairs_n rs2
      have h9 := hn.le (Nat.le_max_left n m)
      refine ⟨{ x with rs := rs2.map fun g => (g.1, partsR g.2) }, ?_, max n m, h9.1, h9.2.1, fun g hg => (hm g hg).le (Nat.le_max_right ..), h9.2.2.2⟩
      show x.row.set 5 _ = _
      unfold Ny.row
      rw [flat_pair]
      rfl
theorem compound_good (hc : CmdG cmd) {ts : List Tk} {q : PR (List Dt)} (h : compoundF cmd scr ts = some q) {d : List Dt} {r : List Tk} (hq : q = .ok (d, r)) : IsN d := by
  subst hq
  unfold compoundF at h
  split at h
  · exact with_good (fun d r h => shut_good hc h) (Option.some.inj h)
  split at h
  · exact with_good (fun d r h => shut_good hc h) (Option.some.inj h)
  split at h
  · exact with_good (fun d r h => choice_good hc h) (Option.some.inj h)
  split at h
  · exact with_good (fun d r h => while_good hc h) (Option.some.inj h)
  split at h
  · exact with_good (fun d r h => while_good hc h) (Option.some.inj h)
  split at h
  · exact with_good (fun d r h => each_good hc h) (Option.some.inj h)
  split at h
  · exact with_good (fun d r h => cases_good hc h) (Option.some.inj h)
  split at h
  · exact function_good hc (Option.some.inj h)
  · cases h
end
theorem command_good : ∀ K, CmdG (commandF K)
  | 0 => fun ts d r h => by
    unfold commandF at h
    split at h <;> cases h
  | K + 1 => fun ts d r h => by
    unfold commandF at h
    split at h
    · unfold innerF at h
      split at h
      · next q hq => exact compound_good (command_good K) hq h
      · exact simple_good _ [] [] [] _ _ _ h
    · cases h
theorem tree_good {K : Nat} {ts : List Tk} {ds : List Dt} (h : treeF (commandF K) ts = .ok ds) : GoodT ds := by
  unfold treeF at h
  split at h
  · injection h with h; rw [← h]; exact GoodT.nil
  · split at h
    · cases h
    · next l r h1 =>
      split at h
      · injection h with h; rw [← h]; exact seqF_good (all_good (command_good K) h1)
      · cases h
theorem parse_good {s : Bs} {ds : List Dt} (h : parseF s = .ok ds) : GoodT ds := by
  unfold parseF scriptF at h
  split at h
  · cases h
  · exact tree_good h
end Go.Proofs.YtiihpbccabeoeaaGreatDoor
