/-
  Plain: what gen.Script makes is a script.
-/
import Derived.Test.YtiihpbccabeoeaaDoorPgD
import Derived.Test.YtiihpbccabeoeaaDoorPkX
import Derived.Test.YtiihpbccabeoeaaDoorPkD
namespace Go.Proofs.YtiihpbccabeoeaaDoor
set_option linter.unusedVariables false

def dg (a : Nat) : UInt8 := UInt8.ofNat (48 + a)
def varP (s : List UInt8) : Pt := .mk 3 [] s [] [] false
def vT (s : List UInt8) : Tk := ⟨1, [], [varP s]⟩
def lineT (k a : Nat) : List Tk := match k with
  | 0 => [wT [101, 99, 104, 111], wT [dg a]]
  | 1 => [wT [120, 61, dg a]]
  | 2 => [wT [101, 99, 104, 111], vT [120], oT [62], wT [102, dg a]]
  | 3 => [wT [99, 97, 116], wT [102, dg a]]
  | 4 => [wT [116, 101, 115, 116], wT [45, 101], wT [102, dg a], oT [38, 38], wT [101, 99, 104, 111], wT [121]]
  | _ => [wT [102, 111, 114], wT [105], wT [105, 110], wT [49], wT [50], oT [59], wT [100, 111], wT [101, 99, 104, 111], vT [105], oT [59], wT [100, 111, 110, 101]]
def smp (ws : List (List Pt)) (gs rs : List Dt) : List Dt := ndR 1 false [] (ws.map wordR) gs rs [] []
def lineD (k a : Nat) : List Dt := match k with
  | 0 => smp [[txtP [101, 99, 104, 111]], [txtP [dg a]]] [] []
  | 1 => smp [] [.str [120], wordR [txtP [dg a]]] []
  | 2 => smp [[txtP [101, 99, 104, 111]], [varP [120]]] [] [.str [62], wordR [txtP [102, dg a]]]
  | 3 => smp [[txtP [99, 97, 116]], [txtP [102, dg a]]] [] []
  | 4 => ndR 3 false [] [] [] [] (smp [[txtP [116, 101, 115, 116]], [txtP [45, 101]], [txtP [102, dg a]]] [] [] ++ smp [[txtP [101, 99, 104, 111]], [txtP [121]]] [] []) []
  | _ => ndR 9 false [105] [wordR [txtP [49]], wordR [txtP [50]]] [] [] (smp [[txtP [101, 99, 104, 111]], [varP [105]]] [] []) []

theorem line_toks : ∀ (k a : Nat), a < 4 → tokensF (lineS k [dg a]) = .ok (lineT k a)
  | 0, 0, _ => by rfl
  | 0, 1, _ => by rfl
  | 0, 2, _ => by rfl
  | 0, 3, _ => by rfl
  | 1, 0, _ => by rfl
  | 1, 1, _ => by rfl
  | 1, 2, _ => by rfl
  | 1, 3, _ => by rfl
  | 2, 0, _ => by rfl
  | 2, 1, _ => by rfl
  | 2, 2, _ => by rfl
  | 2, 3, _ => by rfl
  | 3, 0, _ => by rfl
  | 3, 1, _ => by rfl
  | 3, 2, _ => by rfl
  | 3, 3, _ => by rfl
  | 4, 0, _ => by rfl
  | 4, 1, _ => by rfl
  | 4, 2, _ => by rfl
  | 4, 3, _ => by rfl
  | k + 5, a, _ => by
    show tokensF (lineS 5 [dg a]) = .ok (lineT 5 a)
    rfl
  | _, a + 4, h => by omega
theorem line_and : ∀ (k a : Nat) (X : List Tk), a < 4 → andOrF (commandF 40) (lineT k a ++ nlT :: X) = .ok (lineD k a, nlT :: X)
  | 0, 0, X, _ => by kernel_rfl
  | 0, 1, X, _ => by kernel_rfl
  | 0, 2, X, _ => by kernel_rfl
  | 0, 3, X, _ => by kernel_rfl
  | 1, 0, X, _ => by kernel_rfl
  | 1, 1, X, _ => by kernel_rfl
  | 1, 2, X, _ => by kernel_rfl
  | 1, 3, X, _ => by kernel_rfl
  | 2, 0, X, _ => by kernel_rfl
  | 2, 1, X, _ => by kernel_rfl
  | 2, 2, X, _ => by kernel_rfl
  | 2, 3, X, _ => by kernel_rfl
  | 3, 0, X, _ => by kernel_rfl
  | 3, 1, X, _ => by kernel_rfl
  | 3, 2, X, _ => by kernel_rfl
  | 3, 3, X, _ => by kernel_rfl
  | 4, 0, X, _ => by kernel_rfl
  | 4, 1, X, _ => by kernel_rfl
  | 4, 2, X, _ => by kernel_rfl
  | 4, 3, X, _ => by kernel_rfl
  | k + 5, a, X, _ => by
    show andOrF (commandF 40) (lineT 5 0 ++ nlT :: X) = .ok (lineD 5 0, nlT :: X)
    kernel_rfl
  | _, a + 4, X, h => by omega
theorem line_free : ∀ (k a : Nat), a < 4 → FreeL (lineS k [dg a])
  | 0, 0, _ => by unfold FreeL; decide
  | 0, 1, _ => by unfold FreeL; decide
  | 0, 2, _ => by unfold FreeL; decide
  | 0, 3, _ => by unfold FreeL; decide
  | 1, 0, _ => by unfold FreeL; decide
  | 1, 1, _ => by unfold FreeL; decide
  | 1, 2, _ => by unfold FreeL; decide
  | 1, 3, _ => by unfold FreeL; decide
  | 2, 0, _ => by unfold FreeL; decide
  | 2, 1, _ => by unfold FreeL; decide
  | 2, 2, _ => by unfold FreeL; decide
  | 2, 3, _ => by unfold FreeL; decide
  | 3, 0, _ => by unfold FreeL; decide
  | 3, 1, _ => by unfold FreeL; decide
  | 3, 2, _ => by unfold FreeL; decide
  | 3, 3, _ => by unfold FreeL; decide
  | 4, 0, _ => by unfold FreeL; decide
  | 4, 1, _ => by unfold FreeL; decide
  | 4, 2, _ => by unfold FreeL; decide
  | 4, 3, _ => by unfold FreeL; decide
  | k + 5, a, _ => by
    show FreeL (lineS 5 [dg 0])
    unfold FreeL
    decide
  | _, a + 4, h => by omega
theorem line_head : ∀ (k a : Nat) (X : List Tk), endsF (nlT :: (lineT k a ++ X)) = (true, lineT k a ++ X) ∧ linesF (lineT k a ++ X) = lineT k a ++ X ∧ (lineT k a ++ X).isEmpty = false
  | 0, a, X => ⟨rfl, rfl, rfl⟩
  | 1, a, X => ⟨rfl, rfl, rfl⟩
  | 2, a, X => ⟨rfl, rfl, rfl⟩
  | 3, a, X => ⟨rfl, rfl, rfl⟩
  | 4, a, X => ⟨rfl, rfl, rfl⟩
  | k + 5, a, X => ⟨rfl, rfl, rfl⟩
theorem line_more : ∀ (k a : Nat) (X : List Tk), a < 4 → moreF (lineT k a ++ X) = true
  | 0, 0, X, _ => by rfl
  | 0, 1, X, _ => by rfl
  | 0, 2, X, _ => by rfl
  | 0, 3, X, _ => by rfl
  | 1, 0, X, _ => by rfl
  | 1, 1, X, _ => by rfl
  | 1, 2, X, _ => by rfl
  | 1, 3, X, _ => by rfl
  | 2, 0, X, _ => by rfl
  | 2, 1, X, _ => by rfl
  | 2, 2, X, _ => by rfl
  | 2, 3, X, _ => by rfl
  | 3, 0, X, _ => by rfl
  | 3, 1, X, _ => by rfl
  | 3, 2, X, _ => by rfl
  | 3, 3, X, _ => by rfl
  | 4, 0, X, _ => by rfl
  | 4, 1, X, _ => by rfl
  | 4, 2, X, _ => by rfl
  | 4, 3, X, _ => by rfl
  | k + 5, a, X, _ => by rfl
  | _, a + 4, X, h => by omega
theorem lineT_len (k a : Nat) : 1 ≤ (lineT k a).length := by
  unfold lineT
  split <;> simp
def scrS (l : List (Nat × Nat)) : List UInt8 := l.flatMap fun p => lineS p.1 [dg p.2] ++ [10]
def scrT (l : List (Nat × Nat)) : List Tk := l.flatMap fun p => lineT p.1 p.2 ++ [nlT]
theorem scrS_cons (p : Nat × Nat) (l : List (Nat × Nat)) : scrS (p :: l) = lineS p.1 [dg p.2] ++ [10] ++ scrS l := by simp [scrS]
theorem scrT_cons (p : Nat × Nat) (l : List (Nat × Nat)) : scrT (p :: l) = lineT p.1 p.2 ++ nlT :: scrT l := by simp [scrT]
theorem scrS_len : ∀ l : List (Nat × Nat), (scrS l).length ≤ 31 * l.length
  | [] => by simp [scrS]
  | p :: l => by
    have h1 := lineS_len p.1 [dg p.2] (by simp)
    have h2 := scrS_len l
    rw [scrS_cons]
    simp only [List.length_append, List.length_cons, List.length_nil]
    omega
theorem scr_toks : ∀ l : List (Nat × Nat), l.length ≤ 100 → (∀ p ∈ l, p.2 < 4) → tokensF (scrS l) = .ok (scrT l)
  | [], _, _ => by rfl
  | p :: l, hl, h => by
    have h1 := lineS_len p.1 [dg p.2] (by simp)
    have h2 := scrS_len l
    have hl2 : l.length ≤ 99 := by simpa using hl
    rw [scrS_cons, scrT_cons, split_line (line_toks p.1 p.2 (h p (List.mem_cons_self ..))) (scr_toks l (by omega) (fun q hq => h q (List.mem_cons_of_mem _ hq))) (line_free p.1 p.2 (h p (List.mem_cons_self ..))) (by omega), List.append_assoc]
    rfl
theorem all_lines : ∀ (l : List (Nat × Nat)) (n : Nat) (acc : List Dt), (∀ p ∈ l, p.2 < 4) → (scrT l).length < n → ∃ d, allLoop (commandF 40) n acc (nlT :: scrT l) = .ok (d, [])
  | _, 0, _, _, hn => by omega
  | [], n + 1, acc, _, _ => ⟨acc, by rw [allLoop_s]; rfl⟩
  | p :: l, n + 1, acc, h, hn => by
    have h4 := h p (List.mem_cons_self ..)
    have hl := lineT_len p.1 p.2
    rw [scrT_cons] at hn ⊢
    rw [List.length_append, List.length_cons] at hn
    obtain ⟨d, hd⟩ := all_lines l n (acc ++ lineD p.1 p.2) (fun q hq => h q (List.mem_cons_of_mem _ hq)) (by omega)
    refine ⟨d, ?_⟩
    rw [allLoop_s, (line_head p.1 p.2 _).1]
    dsimp only
    rw [line_more p.1 p.2 _ h4, Bool.and_self, if_pos rfl, line_and p.1 p.2 _ h4]
    exact hd
theorem scr_parse (l : List (Nat × Nat)) (hl : l.length ≤ 100) (h : ∀ p ∈ l, p.2 < 4) : ∃ ds, parseF (scrS l) = .ok ds := by
  unfold parseF scriptF
  rw [scr_toks l hl h]
  dsimp only
  unfold treeF
  cases l with
  | nil => exact ⟨_, rfl⟩
  | cons p l =>
    have h4 := h p (List.mem_cons_self ..)
    obtain ⟨_, e1, e2⟩ := line_head p.1 p.2 (nlT :: scrT l)
    rw [scrT_cons, e1, e2]
    unfold allF
    rw [line_and p.1 p.2 _ h4]
    dsimp only
    obtain ⟨d, hd⟩ := all_lines l ((nlT :: scrT l).length + 1) (lineD p.1 p.2) (fun q hq => h q (List.mem_cons_of_mem _ hq)) (by simp only [List.length_cons]; omega)
    rw [hd]
    exact ⟨_, rfl⟩
theorem line_is (s : Int) : ∃ k a : Nat, a < 4 ∧ (lineF s).1 = lineS k [dg a] := by
  obtain ⟨u, hu, hu4⟩ := nextV4 (nextS s)
  unfold lineF
  split
  · exact ⟨5, 0, by decide, rfl⟩
  · refine ⟨(nextV s 6).toNat, u, hu4, ?_⟩
    rw [hu, show ((u : Int)).toNat = u from rfl, Lib.decDigits, dif_pos (by omega)]
    rfl
theorem scrG_is (s : Int) : ∀ n : Nat, ∃ l : List (Nat × Nat), l.length = n ∧ (∀ p ∈ l, p.2 < 4) ∧ (scrG n s).1 = scrS l
  | 0 => ⟨[], rfl, (fun _ h => by cases h), rfl⟩
  | n + 1 => by
    obtain ⟨l, h1, h2, h3⟩ := scrG_is s n
    obtain ⟨k, a, ha, hk⟩ := line_is (scrG n s).2
    refine ⟨l ++ [(k, a)], by simp [h1], fun p hp => ?_, ?_⟩
    · rcases List.mem_append.1 hp with hp | hp
      · exact h2 p hp
      · rw [List.mem_singleton.1 hp]; exact ha
    · simp only [scrG]
      rw [h3, hk]
      simp [scrS]
theorem gen_parse (n : Nat) (s : Int) (hn : n ≤ 100) : ∃ ds, parseF (scrG n s).1 = .ok ds := by
  obtain ⟨l, h1, h2, h3⟩ := scrG_is s n
  rw [h3]
  exact scr_parse l (by omega) h2
end Go.Proofs.YtiihpbccabeoeaaDoor
