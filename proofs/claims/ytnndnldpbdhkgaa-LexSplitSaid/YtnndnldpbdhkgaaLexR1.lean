/-
  The document's own reader: small contracts.
  The document's own reader: texts ahead; which bytes no script has.
-/
import Derived.Test.YtnndnldpbdhkgaaLexBB
import Derived.Test.YtnndnldpbdhkgaaLexPB
namespace Go.Proofs.Ytnndnldpbdhkgaa
open Go.RowKit
set_option linter.unusedVariables false

theorem see_any (b : Nat) (s : ByteArray) (i k : Nat) (d : Int) (w : World) (h : ScanAt w b s i d) (hs : s.size ≤ 140737488351232) (hi : i ≤ 140737488351232) (hk : k ≤ 140737488351232) :
    Calls Try.prog 31 #[.pointer (some ⟨b, 0, none⟩), .int .i64 k] w fun e w' => e = .returned (.int .u8 (byteAt s (i + k)).toNat) ∧ Drawn w w' := by
  obtain ⟨c0, c1, _, _, _⟩ := h.cells
  by_cases hlt : i + k < s.size
  · have e := byteAt_in hlt
    generalize byteAt s (i + k) = x at e
    have E := Lib.hid e
    clear e
    have ew : IntKind.i64.wrap ((i : Int) + (k : Int)) = (i : Int) + (k : Int) := IntWalk.i64_in _ (by omega)
    have e0 : 0 ≤ (i : Int) + (k : Int) := by omega
    have e1 : (i : Int) + (k : Int) < (s.size : Int) := by omega
    have e2 : ((i : Int) + (k : Int)).toNat = i + k := by omega
    go_enter Try.func31, Try.ntmps31
    go_wp2_with fail
    go_quiet (fail)
    go_wp2_with fail
    go_quiet (fail)
    go_wp2_with fail
    go_ret
    exact ⟨by rw [← E.out]; rfl, drawn2 _ _ _⟩
  · have e : byteAt s (i + k) = 0 := by
      unfold byteAt
      rw [List.getD_eq_getElem?_getD, List.getElem?_eq_none (by rw [← Lib.size_eq]; omega)]; rfl
    rw [e]
    clear e
    have ew : IntKind.i64.wrap ((i : Int) + (k : Int)) = (i : Int) + (k : Int) := IntWalk.i64_in _ (by omega)
    have e1 : ¬ (i : Int) + (k : Int) < (s.size : Int) := by omega
    go_enter Try.func31, Try.ntmps31
    go_wp2_with fail
    go_quiet (fail)
    go_wp2_with fail
    go_ret
    exact ⟨rfl, _, rfl⟩
theorem see0_any (b : Nat) (s : ByteArray) (i : Nat) (d : Int) (w : World) (h : ScanAt w b s i d) (hs : s.size ≤ 140737488351232) (hi : i ≤ 140737488351232) :
    Calls Try.prog 31 #[.pointer (some ⟨b, 0, none⟩), .int .i64 0] w fun e w' => e = .returned (.int .u8 (byteAt s i).toNat) ∧ Drawn w w' := see_any b s i 0 d w h hs hi (by omega)
theorem see1_any (b : Nat) (s : ByteArray) (i : Nat) (d : Int) (w : World) (h : ScanAt w b s i d) (hs : s.size ≤ 140737488351232) (hi : i ≤ 140737488351232) :
    Calls Try.prog 31 #[.pointer (some ⟨b, 0, none⟩), .int .i64 1] w fun e w' => e = .returned (.int .u8 (byteAt s (i + 1)).toNat) ∧ Drawn w w' := see_any b s i 1 d w h hs hi (by omega)
theorem over_any (b : Nat) (s : ByteArray) (i : Nat) (d : Int) (w : World) (h : ScanAt w b s i d) :
    Calls Try.prog 30 #[.pointer (some ⟨b, 0, none⟩)] w fun e w' => e = .returned (.bool (decide (s.size ≤ i))) ∧ Drawn w w' := by
  obtain ⟨c0, c1, _, _, _⟩ := h.cells
  go_enter Try.func30, Try.ntmps30
  go_wp2_with fail
  go_quiet (fail)
  go_wp2_with fail
  go_ret
  exact ⟨by simp, _, rfl⟩
/-- The first error stays. -/
theorem rfail_any (b : Nat) (s : ByteArray) (i : Nat) (d x : Nat) (w : World) (h : ScanAt w b s i (d : Int)) :
    Calls Try.prog 49 #[.pointer (some ⟨b, 0, none⟩), .int .i64 x] w fun e w' => e = .returned (.tuple #[]) ∧ ScanAt w' b s i ((if d = 0 then x else d : Nat) : Int) ∧ Keeps (fun k => k = b) w w' := by
  obtain ⟨c0, c1, c2, f1, f2⟩ := h.cells
  by_cases hd : d = 0
  · subst hd
    rw [if_pos rfl]
    go_enter Try.func49, Try.ntmps49
    go_wp2_with fail
    go_end0
    exact ⟨rfl, h.set2 _, (Keeps.refl _ _).setCell _ _ fun _ => rfl⟩
  · rw [if_neg hd]
    have t : ((d : Int) == 0) = false := by rw [beq_eq_false_iff_ne]; omega
    clear hd
    go_enter Try.func49, Try.ntmps49
    go_wp2_with fail
    go_end0
    exact ⟨rfl, h, Keeps.refl _ _⟩
set_option maxHeartbeats 1000000 in
theorem breaks_any (c : UInt8) (w : World) :
    Calls Try.prog 47 #[.int .u8 (c.toNat : Nat)] w fun e w' => e = .returned (.bool (breaksB c)) ∧ w = w' := by
  obtain ⟨r, hr⟩ : ∃ r, r = breaksB c := ⟨_, rfl⟩
  rw [← hr]
  have HR := Lib.hid hr
  clear hr
  by_cases t32 : c = 32
  · have f32 : ((c.toNat : Int) == 32) = true := test_yes (c := c) (k := 32) t32
    have HT := Lib.hid (show breaksB c = true by rw [t32]; decide)
    clear t32
    go_enter Try.func47, Try.ntmps47
    go_wp2_with fail
    go_ret
    exact ⟨ret_bool (by rw [HR.out, HT.out]), rfl⟩
  have f32 : ((c.toNat : Int) == 32) = false := test_no (c := c) (k := 32) t32
  have G32 := Lib.hid (show (c == 32) = false from beq_eq_false_iff_ne.2 t32)
  clear t32
  by_cases t9 : c = 9
  · have f9 : ((c.toNat : Int) == 9) = true := test_yes (c := c) (k := 9) t9
    have HT := Lib.hid (show breaksB c = true by rw [t9]; decide)
    clear t9
    go_enter Try.func47, Try.ntmps47
    go_wp2_with fail
    go_ret
    exact ⟨ret_bool (by rw [HR.out, HT.out]), rfl⟩
  have f9 : ((c.toNat : Int) == 9) = false := test_no (c := c) (k := 9) t9
  have G9 := Lib.hid (show (c == 9) = false from beq_eq_false_iff_ne.2 t9)
  clear t9
  by_cases t10 : c = 10
  · have f10 : ((c.toNat : Int) == 10) = true := test_yes (c := c) (k := 10) t10
    have HT := Lib.hid (show breaksB c = true by rw [t10]; decide)
    clear t10
    go_enter Try.func47, Try.ntmps47
    go_wp2_with fail
    go_ret
    exact ⟨ret_bool (by rw [HR.out, HT.out]), rfl⟩
  have f10 : ((c.toNat : Int) == 10) = false := test_no (c := c) (k := 10) t10
  have G10 := Lib.hid (show (c == 10) = false from beq_eq_false_iff_ne.2 t10)
  clear t10
  by_cases t59 : c = 59
  · have f59 : ((c.toNat : Int) == 59) = true := test_yes (c := c) (k := 59) t59
    have HT := Lib.hid (show breaksB c = true by rw [t59]; decide)
    clear t59
    go_enter Try.func47, Try.ntmps47
    go_wp2_with fail
    go_ret
    exact ⟨ret_bool (by rw [HR.out, HT.out]), rfl⟩
  have f59 : ((c.toNat : Int) == 59) = false := test_no (c := c) (k := 59) t59
  have G59 := Lib.hid (show (c == 59) = false from beq_eq_false_iff_ne.2 t59)
  clear t59
  by_cases t38 : c = 38
  · have f38 : ((c.toNat : Int) == 38) = true := test_yes (c := c) (k := 38) t38
    have HT := Lib.hid (show breaksB c = true by rw [t38]; decide)
    clear t38
    go_enter Try.func47, Try.ntmps47
    go_wp2_with fail
    go_ret
    exact ⟨ret_bool (by rw [HR.out, HT.out]), rfl⟩
  have f38 : ((c.toNat : Int) == 38) = false := test_no (c := c) (k := 38) t38
  have G38 := Lib.hid (show (c == 38) = false from beq_eq_false_iff_ne.2 t38)
  clear t38
  by_cases t124 : c = 124
  · have f124 : ((c.toNat : Int) == 124) = true := test_yes (c := c) (k := 124) t124
    have HT := Lib.hid (show breaksB c = true by rw [t124]; decide)
    clear t124
    go_enter Try.func47, Try.ntmps47
    go_wp2_with fail
    go_ret
    exact ⟨ret_bool (by rw [HR.out, HT.out]), rfl⟩
  have f124 : ((c.toNat : Int) == 124) = false := test_no (c := c) (k := 124) t124
  have G124 := Lib.hid (show (c == 124) = false from beq_eq_false_iff_ne.2 t124)
  clear t124
  by_cases t40 : c = 40
  · have f40 : ((c.toNat : Int) == 40) = true := test_yes (c := c) (k := 40) t40
    have HT := Lib.hid (show breaksB c = true by rw [t40]; decide)
    clear t40
    go_enter Try.func47, Try.ntmps47
    go_wp2_with fail
    go_ret
    exact ⟨ret_bool (by rw [HR.out, HT.out]), rfl⟩
  have f40 : ((c.toNat : Int) == 40) = false := test_no (c := c) (k := 40) t40
  have G40 := Lib.hid (show (c == 40) = false from beq_eq_false_iff_ne.2 t40)
  clear t40
  by_cases t41 : c = 41
  · have f41 : ((c.toNat : Int) == 41) = true := test_yes (c := c) (k := 41) t41
    have HT := Lib.hid (show breaksB c = true by rw [t41]; decide)
    clear t41
    go_enter Try.func47, Try.ntmps47
    go_wp2_with fail
    go_ret
    exact ⟨ret_bool (by rw [HR.out, HT.out]), rfl⟩
  have f41 : ((c.toNat : Int) == 41) = false := test_no (c := c) (k := 41) t41
  have G41 := Lib.hid (show (c == 41) = false from beq_eq_false_iff_ne.2 t41)
  clear t41
  by_cases t60 : c = 60
  · have f60 : ((c.toNat : Int) == 60) = true := test_yes (c := c) (k := 60) t60
    have HT := Lib.hid (show breaksB c = true by rw [t60]; decide)
    clear t60
    go_enter Try.func47, Try.ntmps47
    go_wp2_with fail
    go_ret
    exact ⟨ret_bool (by rw [HR.out, HT.out]), rfl⟩
  have f60 : ((c.toNat : Int) == 60) = false := test_no (c := c) (k := 60) t60
  have G60 := Lib.hid (show (c == 60) = false from beq_eq_false_iff_ne.2 t60)
  clear t60
  by_cases t62 : c = 62
  · have f62 : ((c.toNat : Int) == 62) = true := test_yes (c := c) (k := 62) t62
    have HT := Lib.hid (show breaksB c = true by rw [t62]; decide)
    clear t62
    go_enter Try.func47, Try.ntmps47
    go_wp2_with fail
    go_ret
    exact ⟨ret_bool (by rw [HR.out, HT.out]), rfl⟩
  have f62 : ((c.toNat : Int) == 62) = false := test_no (c := c) (k := 62) t62
  have G62 := Lib.hid (show (c == 62) = false from beq_eq_false_iff_ne.2 t62)
  clear t62
  have HT := Lib.hid (show breaksB c = false by unfold breaksB; rw [G32.out, G9.out, G10.out, G59.out, G38.out, G124.out, G40.out, G41.out, G60.out, G62.out]; rfl)
  go_enter Try.func47, Try.ntmps47
  go_wp2_with fail
  go_ret
  exact ⟨ret_bool (by rw [HR.out, HT.out]), rfl⟩
theorem rdigit_any' (c : UInt8) (w : World) : Calls Try.prog 60 #[.int .u8 (c.toNat : Nat)] w fun e w' => e = .returned (.bool (digitB c)) ∧ w' = w := (rdigit_any c w).mono fun e w' h => ⟨h.1, h.2.symm⟩

/-- A slice of parts, and its row, above a bound. -/
def Row (w : World) (B : Nat) (v : Value) (raw : List Pt) : Prop := OwnPts w (fun b => B ≤ b) v raw ∧ ∀ g, v.ownBlock = some g → B ≤ g
theorem Row.nil (w : World) (B : Nat) : Row w B (.slice none 0 0) [] := ⟨OwnPts.nil _ _, fun g hg => by cases hg⟩
theorem Row.keep {w w' : World} {B : Nat} {v : Value} {raw : List Pt} {S : Nat → Prop} (h : Row w B v raw) (hk : Keeps S w w') (hS : ∀ b, b < w.heap.size → S b → b < B) : Row w' B v raw :=
  ⟨h.1.keep hk (fun b hb hB s => by have := hS b hb s; omega) (fun g hg s => by have := hS g (h.1.lt hg) s; have := h.2 g hg; omega), h.2⟩
theorem Row.shape {w : World} {B : Nat} {v : Value} {raw : List Pt} (h : Row w B v raw) : ∃ a c, v = .slice a raw.length c ∧ raw.length ≤ c ∧ c ≤ maxLen := h.1.shape
/-- A part more. -/
theorem Row.more {w w1 : World} {B n : Nat} {v : Value} {raw : List Pt} {x : Pt} {wv : Value} (h : Row w B v raw) (hB : B ≤ w.heap.size) (hk : Keeps (fun _ => False) w w1) (hx : PtsAt w1 (fun b => B ≤ b ∧ v.ownBlock ≠ some b) n x.word wv) :
    ∃ xs, w1.ownsRow 0 39 6 v raw.length xs ∧ ∀ (g cap : Nat) (w2 : World) (o : Obj), w2.ownsRow 0 39 6 (.slice (some ⟨g, 0, none⟩) (raw.length + 1) cap) (raw.length + 1) (xs ++ cellsP x wv) → (w1.alloc o).grownBy w2 v.ownBlock → (v.ownBlock = some g ∨ g = w1.heap.size + 1) →
      Row w2 B (.slice (some ⟨g, 0, none⟩) (raw.length + 1) cap) (raw ++ [x]) ∧ Keeps (fun b => B ≤ b) w w2 := by
  have hm := h.keep hk (fun _ _ s => s.elim)
  obtain ⟨⟨vs, m, hl, ho, hn⟩, hv⟩ := hm
  refine ⟨_, ho, fun g cap w2 o hown hg hat => ?_⟩
  have k : Keeps (fun b => v.ownBlock = some b) w1 w2 := ((Keeps.refl _ w1).alloc o).grown hg fun k hk _ => hk
  have hgB : B ≤ g := by
    have := hk.size
    rcases hat with e | e
    · exact hv _ e
    · omega
  refine ⟨⟨⟨vs ++ [wv], max n m, by simp [hl], ?_, fun i hi hi' => ?_⟩, fun y hy => (by obtain rfl : g = y := Option.some.inj hy; exact hgB)⟩, (hk.mono fun _ _ s => s.elim).trans k fun b hb e => hv _ e⟩
  · rw [cellsL_append hl]
    simpa [cellsL] using hown
  · have key : ∀ (k : Nat) (l : List Pt) (u : Value), PtsAt w1 (fun b => B ≤ b ∧ v.ownBlock ≠ some b) k l u → PtsAt w2 (fun b => B ≤ b ∧ (Value.slice (some ⟨g, 0, none⟩) (raw.length + 1) cap).ownBlock ≠ some b) k l u := fun kk l u hh => by
      have h2 : PtsAt w1 (fun b => (B ≤ b ∧ v.ownBlock ≠ some b) ∧ b < w1.heap.size) kk l u := hh.mono fun b hb hd => ⟨hd, hb⟩
      refine (h2.keep k (fun b _ hd s => hd.1.2 s)).mono fun b _ hd => ⟨hd.1.1, fun e => ?_⟩
      obtain rfl : g = b := Option.some.inj e
      rcases hat with h3 | h3
      · exact hd.1.2 h3
      · have := hd.2; omega
    by_cases hi2 : i < raw.length
    · rw [List.getElem_append_left hi2, List.getElem_append_left (by omega)]
      exact (key _ _ _ (hn i hi2 (by omega))).le (by omega)
    · have hi3 : i = raw.length := by simp at hi; omega
      subst hi3
      rw [List.getElem_append_right (Nat.le_refl _), List.getElem_append_right (by omega)]
      simp only [hl, Nat.sub_self, List.getElem_cons_zero]
      exact (key _ _ _ hx).le (by omega)
/-- A part without a word more. -/
theorem Row.more0 {w : World} {B : Nat} {v : Value} {raw : List Pt} {x : Pt} (h : Row w B v raw) (hB : B ≤ w.heap.size) {w1 : World} (hk : Keeps (fun _ => False) w w1) (hx : x.word = []) :
    ∃ xs, w1.ownsRow 0 39 6 v raw.length xs ∧ ∀ (g cap : Nat) (w2 : World) (o : Obj), w2.ownsRow 0 39 6 (.slice (some ⟨g, 0, none⟩) (raw.length + 1) cap) (raw.length + 1) (xs ++ cellsP x (.slice none 0 0)) → (w1.alloc o).grownBy w2 v.ownBlock → (v.ownBlock = some g ∨ g = w1.heap.size + 1) →
      Row w2 B (.slice (some ⟨g, 0, none⟩) (raw.length + 1) cap) (raw ++ [x]) ∧ Keeps (fun b => B ≤ b) w w2 :=
  h.more hB hk (n := 0) (by rw [hx]; exact PtsAt.nil _ _ 0)

/-- What put hands back: a part more. -/
def RPut (w : World) (B : Nat) (raw : List Pt) (x : Pt) (e : Ending) (w' : World) : Prop :=
  ∃ v, e = .returned v ∧ Row w' B v (raw ++ [x]) ∧ Keeps (fun b => B ≤ b) w w'
set_option maxRecDepth 100000 in
set_option maxHeartbeats 1000000 in
theorem rput_any (B kd : Nat) (T : ByteArray) (v : Value) (raw : List Pt) (w : World) (h : Row w B v raw) (hB : B ≤ w.heap.size) (hl : raw.length ≤ 1000000) (hk : kd = 2 ∨ kd = 1 ∧ T.data.toList ≠ []) :
    Calls Try.prog 50 #[v, .agg #[.int .i64 kd, .string T, .string ⟨#[]⟩, .string ⟨#[]⟩, .slice none 0 0, .bool false]] w (RPut w B raw (.mk kd T.data.toList [] [] [] false)) := by
  obtain ⟨va, vc, rfl, _, _⟩ := h.shape
  obtain ⟨i0, hi0, hz0, hz1, hz2⟩ := info_parts info_part
  have hc6 := cells_part
  obtain ⟨xs, hown, hF⟩ := h.more0 hB (w1 := w.alloc (.cells #[.int .i64 kd, .string T, .string ⟨#[]⟩, .string ⟨#[]⟩, .slice none 0 0, .bool false] 39)) ((Keeps.refl _ _).alloc _) (x := .mk kd T.data.toList [] [] [] false) rfl
  have e : strV T.data.toList = .string T := strV_of rfl
  simp only [cellsP, Pt.kind, Pt.text, Pt.name, Pt.op, Pt.quoted, e] at hF
  have HF := Lib.hid hF
  have t1 : ((kd : Int) == 1) = false ∨ ((kd : Int) == 1) = true ∧ T.toList.isEmpty = false ∧ (T.toList == []) = false := by
    rcases hk with rfl | ⟨rfl, h⟩
    · exact .inl rfl
    · obtain ⟨a, b⟩ := ba_full h
      exact .inr ⟨rfl, a, b⟩
  obtain ⟨L, hL⟩ : ∃ L, L = raw.length := ⟨_, rfl⟩
  rw [← hL] at HF hown hl ⊢
  clear hF hk h e hL
  rcases t1 with t1 | ⟨t1, t2, t3⟩
  all_goals
    go_enter Try.func50, Try.ntmps50
    go_wp2_with (at_builtin; refine wpList_append_lies _ rfl (.tmp 14) (.tmp 16) _ rfl 0 39 i0 _ 6 88 Try.underlying32 hi0 hz0 hz1 hz2 rfl (by omega) (.slice va L vc) L xs rfl (hown.alloc _) ⟨w.heap.size + 1, 0, none⟩ 1 1 [.int .i64 kd, .string T, .string ⟨#[]⟩, .string ⟨#[]⟩, .slice none 0 0, .bool false] rfl rfl (World.news_of_block (cs := #[.int .i64 kd, .string T, .string ⟨#[]⟩, .string ⟨#[]⟩, .slice none 0 0, .bool false]) (t := 39) (fr := (0, 0)) (by have h := heap_alloc_new (w.alloc (.cells #[.int .i64 kd, .string T, .string ⟨#[]⟩, .string ⟨#[]⟩, .slice none 0 0, .bool false] 39)) (.cells #[.int .i64 kd, .string T, .string ⟨#[]⟩, .string ⟨#[]⟩, .slice none 0 0, .bool false] 39); simpa using h)) (by simp [Value.oneCell']) (by omega) (by unfold maxLen; omega) (by omega) (by simp) (w.heap.size + 1 + 1) (by simp) ?_; intro gg cap w5 hown2 hgrow hat hlt2)
    go_ret
    obtain ⟨a, b⟩ := HF.out gg cap w5 _ hown2 hgrow (by simpa using hat)
    exact ⟨_, rfl, a, b⟩
end Go.Proofs.Ytnndnldpbdhkgaa
namespace Go.Proofs.Ytnndnldpbdhkgaa
open Go.RowKit
set_option linter.unusedVariables false

theorem starts_take : ∀ (p r : List UInt8), startsF p r = (decide (p.length ≤ r.length) && r.take p.length == p)
  | [], r => by simp [startsF]
  | a :: p, [] => by simp [startsF]
  | a :: p, b :: r => by
    unfold startsF
    rw [starts_take p r]
    simp only [List.length_cons, List.take_succ_cons]
    rw [Bool.eq_iff_iff]
    simp only [Bool.and_eq_true, beq_iff_eq, decide_eq_true_eq, List.cons.injEq, Nat.add_le_add_iff_right]
    constructor
    · rintro ⟨rfl, h1, h2⟩; exact ⟨h1, rfl, h2⟩
    · rintro ⟨h1, rfl, h2⟩; exact ⟨rfl, h1, h2⟩
set_option maxHeartbeats 1000000 in
theorem begins_any (s p : ByteArray) (w : World) (hs : s.size ≤ 140737488351232) :
    Calls Try.prog 32 #[.string s, .string p] w fun e w' => e = .returned (.bool (startsF p.data.toList s.data.toList)) ∧ w' = w := by
  obtain ⟨r, hr⟩ : ∃ r, r = startsF p.data.toList s.data.toList := ⟨_, rfl⟩
  rw [← hr]
  rw [starts_take, ← Lib.size_eq, ← Lib.size_eq] at hr
  have HR := Lib.hid hr
  clear hr
  by_cases hl : p.size ≤ s.size
  · have e1 : (p.size : Int) ≤ (s.size : Int) := by omega
    go_enter Try.func32, Try.ntmps32
    go_wp2_with fail
    go_ret
    refine ⟨ret_bool ?_, rfl⟩
    rw [HR.out, decide_eq_true hl, Bool.true_and, Lib.toList_data, Lib.toList_data, Lib.extract_data]
    simp
  · have e1 : ¬ (p.size : Int) ≤ (s.size : Int) := by omega
    go_enter Try.func32, Try.ntmps32
    go_wp2_with fail
    go_ret
    refine ⟨ret_bool ?_, rfl⟩
    rw [HR.out, decide_eq_false hl]
    rfl
def RAt (l : List UInt8) (c : UInt8) (e : Ending) : Prop := ∃ r : Int, e = .returned (.int .i64 r) ∧ decide (0 ≤ r) = l.contains c
set_option maxHeartbeats 1000000 in
theorem rat_any (s : ByteArray) (c : UInt8) (w : World) (hs : s.size ≤ 140737488351232) :
    Calls Try.prog 45 #[.string s, .int .u8 (c.toNat : Nat)] w fun e w' => RAt s.data.toList c e ∧ w' = w := by
  go_enter Try.func45, Try.ntmps45
  go_wp2_with fail
  go_loopw [5] (fun k' wr => ∃ k : Nat, k' = .int .i64 k ∧ k ≤ s.size ∧ Hid (∀ j, j < k → byteAt s j ≠ c) ∧ wr = w) (fun k' _ => s.size - (intOf k').toNat)
  case atStart => exact ⟨0, rfl, Nat.zero_le _, Lib.hid (fun j hj => absurd hj (Nat.not_lt_zero _)), rfl⟩
  case round =>
    obtain ⟨k, rfl, hk, HL, rfl⟩ := hrel
    rcases Nat.lt_or_ge k s.size with hlt | hge
    · have p1 : (k : Int) < (s.size : Int) := by omega
      have hb := byteAt_in hlt
      obtain ⟨x, hx⟩ : ∃ x, x = byteAt s k := ⟨_, rfl⟩
      rw [← hx] at hb
      have HX := Lib.hid hx
      clear hx
      by_cases t : x = c
      · have f : ((x.toNat : Int) == (c.toNat : Int)) = true := test_yes t
        have HT := Lib.hid t
        clear t
        go_wp2_with fail
        go_ret
        refine ⟨⟨_, rfl, ?_⟩, rfl⟩
        have hm : s.data.toList.contains c = true := by
          rw [List.contains_iff_mem]
          have h := byte_get hlt
          have h2 : s[k] = c := by rw [byteAt_in hlt, ← HX.out, HT.out]
          rw [h2] at h
          exact List.mem_of_getElem? h
        rw [hm]
        exact decide_eq_true (by omega)
      · have f : ((x.toNat : Int) == (c.toNat : Int)) = false := test_no t
        have HT := Lib.hid t
        clear t
        go_wp2_with fail
        go_roundw
        case rel => exact ⟨k + 1, by go_num, by omega, Lib.hid (fun j hj => by
          rcases Nat.lt_or_ge j k with h | h
          · exact HL.out j h
          · obtain rfl : j = k := by omega
            rw [← HX.out]; exact HT.out), trivial⟩
        case measure => simp [intOf]; omega
    · obtain rfl : k = s.size := by omega
      have p1 : ¬ (s.size : Int) < (s.size : Int) := by omega
      go_wp2_with fail
      go_ret
      refine ⟨⟨_, rfl, ?_⟩, rfl⟩
      have hm : s.data.toList.contains c = false := by
        rw [Bool.eq_false_iff]
        intro h
        rw [List.contains_iff_mem] at h
        obtain ⟨j, hj⟩ := List.mem_iff_getElem?.1 h
        have h2 := HL.out j (by rw [Lib.size_eq]; exact (List.getElem?_eq_some_iff.1 hj).1)
        apply h2
        unfold byteAt
        rw [List.getD_eq_getElem?_getD, hj]
        rfl
      rw [hm]
      rfl
theorem rmay_any (s : ByteArray) (w : World) (hs : s.size ≤ 140737488351232) :
    Calls Try.prog 29 #[.string s] w fun e w' => e = .returned (.int .i64 (mayF s.data.toList : Nat)) ∧ w' = w := by
  obtain ⟨r, hr⟩ : ∃ r, r = mayF s.data.toList := ⟨_, rfl⟩
  rw [← hr]
  unfold mayF at hr
  rw [← Lib.size_eq] at hr
  by_cases h1 : 16384 < s.size
  · rw [if_pos h1] at hr
    have h1' : (16384 : Int) < (s.size : Int) := by omega
    clear h1
    subst hr
    go_enter Try.func29, Try.ntmps29
    go_wp2_with fail
    go_ret
    exact ⟨rfl, rfl⟩
  · rw [if_neg h1] at hr
    have h1' : ¬ (16384 : Int) < (s.size : Int) := by omega
    have HR := Lib.hid hr
    clear h1 hr
    go_enter Try.func29, Try.ntmps29
    go_wp2_with fail
    refine (rat_any s 0 w hs).mono ?_
    rintro e w1 ⟨⟨x, rfl, hx⟩, rfl⟩
    cases hc : s.data.toList.contains 0 with
    | true =>
      rw [hc] at hx
      have h2 : 0 ≤ x := of_decide_eq_true hx
      have hrr : r = 2 := by rw [HR.out, hc]; rfl
      clear hx hc
      subst hrr
      go_wp2_with fail
      go_ret
      exact ⟨rfl, rfl⟩
    | false =>
      rw [hc] at hx
      have h2 : ¬ 0 ≤ x := of_decide_eq_false hx
      have hrr : r = 0 := by rw [HR.out, hc]; rfl
      clear hx hc
      subst hrr
      go_wp2_with fail
      go_ret
      exact ⟨rfl, rfl⟩

def ROpPost (w : World) (b : Nat) (s : ByteArray) (i : Nat) (d : Int) (o : List UInt8) (e : Ending) (w' : World) : Prop :=
  ∃ r : ByteArray, e = .returned (.string r) ∧ r.data.toList = o ∧ ScanAt w' b s i d ∧ Keeps (fun _ => False) w w'
set_option maxHeartbeats 1000000 in
theorem rop_any (b : Nat) (s : ByteArray) (i : Nat) (d : Int) (w : World) (h : ScanAt w b s i d) (hs : s.size ≤ 140737488351232) :
    Calls Try.prog 72 #[.pointer (some ⟨b, 0, none⟩)] w (ROpPost w b s i d (opF (rest s i))) := by
  have lb := h.lt
  go_enter Try.func72, Try.ntmps72
  go_wp2_with fail
  obtain ⟨w1, hw1⟩ : ∃ w1, w1 = w.alloc (.cells #[.string ⟨#[58, 45]⟩, .string ⟨#[58, 61]⟩, .string ⟨#[58, 63]⟩, .string ⟨#[58, 43]⟩, .string ⟨#[37, 37]⟩, .string ⟨#[35, 35]⟩, .string ⟨#[45]⟩, .string ⟨#[61]⟩, .string ⟨#[63]⟩, .string ⟨#[43]⟩, .string ⟨#[37]⟩, .string ⟨#[35]⟩] 9) := ⟨_, rfl⟩
  rw [← hw1]
  have hsc : ScanAt w1 b s i d := by rw [hw1]; exact h.alloc _
  have hkp : Keeps (fun _ => False) w w1 := by rw [hw1]; exact (Keeps.refl _ _).alloc _
  have hblk : w1.heap[w.heap.size]? = some (.cells opC 9 (0, 0)) := by rw [hw1]; exact heap_alloc_new w _
  obtain ⟨B, hB⟩ : ∃ B, B = w.heap.size := ⟨_, rfl⟩
  rw [← hB] at hblk
  rw [← hB]
  have HB := Lib.hid hblk
  have HKP := Lib.hid hkp
  clear hw1 hblk hkp hB lb h
  go_loopw [4] (fun k' wr => ∃ k : Nat, k' = .int .i64 k ∧ k ≤ 12 ∧ Hid (ScanAt wr b s i d ∧ wr.heap[B]? = some (.cells opC 9 (0, 0)) ∧ Keeps (fun _ => False) w wr) ∧ Hid (∀ j, j < k → startsF (opsL.getD j []) (rest s i) = false)) (fun k' _ => 12 - (intOf k').toNat)
  case atStart => exact ⟨0, rfl, by omega, Lib.hid ⟨hsc, HB.out, HKP.out⟩, Lib.hid (fun j hj => absurd hj (Nat.not_lt_zero _))⟩
  case round =>
    obtain ⟨k, rfl, hk, HW, HN⟩ := hrel
    obtain ⟨hsw, hbw, hkw⟩ := HW.out
    have hblt := (Array.getElem?_eq_some_iff.1 hbw).1
    have HDR := Lib.hid (show ∀ n, ScanAt (wr.drewN n) b s i d ∧ (wr.drewN n).heap[B]? = some (.cells opC 9 (0, 0)) ∧ Keeps (fun _ => False) w (wr.drewN n) from fun n => ⟨hsw.drewN n, (((Keeps.refl (fun _ => False) wr).drewN n).block B hblt (fun h => h)).trans hbw, hkw.drewN n⟩)
    clear hbw hkw
    by_cases hlt : k < 12
    · have hc : wr.cell? ⟨B, k, none⟩ = some (strV (opsL.getD k [])) := by
        rw [cell_of_row wr B k _ _ _ HW.out.2.1]
        exact opC_at k hlt
      have hlen := opL_len k hlt
      have p1 : (k : Int) < 12 := by omega
      unfold strV at hc
      obtain ⟨c0, c1, _, _, _⟩ := hsw.cells
      rcases Nat.lt_or_ge i s.size with hi | hi
      · have he : decide (s.size ≤ i) = false := decide_eq_false (by omega)
        have HE := Lib.hid he
        have p3 : (i : Int) ≤ (s.size : Int) := by omega
        have hRz0 : (s.extract i s.size).size ≤ s.size := by rw [ByteArray.size_extract]; omega
        obtain ⟨R, hR⟩ : ∃ R, R = s.extract i s.size := ⟨_, rfl⟩
        have hRl : R.data.toList = rest s i := by rw [hR, Lib.extract_to_end]; rfl
        have hRz : R.size ≤ s.size := by rw [Lib.size_eq, hRl, rest_len]; omega
        have HRE := Lib.hid hR
        have HRL := Lib.hid hRl
        clear he hR hRl
        cases hst : startsF (opsL.getD k []) (rest s i)
        · have HS := Lib.hid hst; clear hst
          have hn2 := hid_step HN.out HS.out
          have HN2 := Lib.hid hn2; clear hn2
          generalize opsL.getD k [] = t at hc HS hlen
          obtain ⟨T, hT⟩ : ∃ T : ByteArray, T = ⟨t.toArray⟩ := ⟨_, rfl⟩
          have HB2 := Lib.hid (show startsF T.data.toList (s.extract i s.size).data.toList = false by rw [← HRE.out, HRL.out, hT]; exact HS.out)
          rw [← hT] at hc
          clear hT
          go_wp2_with fail
          go_quiet ((first | (go_at_call 30; exact Calls.quiet_of ((over_any b s i d _ (hsw.drewN _)).mono (fun e w' hh => by rw [HE.out] at hh; exact hh))) | (go_at_call 32; exact Calls.quiet_of_same ((begins_any _ _ _ (by omega)).mono (fun e w' hh => by rw [HB2.out] at hh; exact hh)))))
          go_wp2_with fail
          go_roundw
          case rel => exact ⟨k + 1, by go_num, by omega, Lib.hid (HDR.out _), HN2⟩
          case measure => simp [intOf]; omega
        · have hf := findF_at HN.out (show k < opsL.length from hlt) hst
          have HF := Lib.hid hf; clear hf
          have HS := Lib.hid hst; clear hst
          generalize opsL.getD k [] = t at hc HS hlen HF
          obtain ⟨T, hT⟩ : ∃ T : ByteArray, T = ⟨t.toArray⟩ := ⟨_, rfl⟩
          have HB2 := Lib.hid (show startsF T.data.toList (s.extract i s.size).data.toList = true by rw [← HRE.out, HRL.out, hT]; exact HS.out)
          have HTT := Lib.hid (show T.data.toList = t by rw [hT])
          rw [← hT] at hc
          clear hT
          go_wp2_with fail
          go_quiet ((first | (go_at_call 30; exact Calls.quiet_of ((over_any b s i d _ (hsw.drewN _)).mono (fun e w' hh => by rw [HE.out] at hh; exact hh))) | (go_at_call 32; exact Calls.quiet_of_same ((begins_any _ _ _ (by omega)).mono (fun e w' hh => by rw [HB2.out] at hh; exact hh)))))
          go_wp2_with fail
          go_ret
          refine ⟨T, rfl, ?_, ?_, ?_⟩
          · rw [show opF (rest s i) = findF opsL (rest s i) from rfl, HF.out, HTT.out]
          · exact (HDR.out _).1
          · exact (HDR.out _).2.2
      · have he : decide (s.size ≤ i) = true := decide_eq_true (by omega)
        have HE := Lib.hid he
        have hst : startsF (opsL.getD k []) (rest s i) = false := by
          rw [rest_nil hi]
          have : ∀ k : Fin 12, startsF (opsL.getD k.val []) [] = false := by decide +kernel
          exact this ⟨k, hlt⟩
        have hn2 := hid_step HN.out hst
        have HN2 := Lib.hid hn2
        clear hn2 hst he
        go_wp2_with fail
        go_quiet ((go_at_call 30; exact Calls.quiet_of ((over_any b s i d _ (hsw.drewN _)).mono (fun e w' hh => by rw [HE.out] at hh; exact hh))))
        go_wp2_with fail
        go_roundw
        case rel => exact ⟨k + 1, by go_num, by omega, Lib.hid (HDR.out _), HN2⟩
        case measure => simp [intOf]; omega
    · obtain rfl : k = 12 := by omega
      have hf := findF_none (l := opsL) HN.out
      have HF := Lib.hid hf; clear hf
      go_wp2_with fail
      go_ret
      refine ⟨ByteArray.empty, rfl, ?_, ?_, ?_⟩
      · rw [show opF (rest s i) = findF opsL (rest s i) from rfl, HF.out]
        rfl
      · exact HW.out.1
      · exact HW.out.2.2
end Go.Proofs.Ytnndnldpbdhkgaa
