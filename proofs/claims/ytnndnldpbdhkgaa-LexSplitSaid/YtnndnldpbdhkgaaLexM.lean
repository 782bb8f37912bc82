/-
  What stands behind a dollar.
-/
import Derived.Test.YtnndnldpbdhkgaaLexL
import Derived.Deep.CutBlock
namespace Go.Proofs.Ytnndnldpbdhkgaa
open Go.RowKit
set_option linter.unusedVariables false

theorem after_append {W1 w1 : World} {o : Obj} {wb pb : Nat} {u v : Value} {l : List Value} (hg : (W1.alloc o).grownBy w1 v.ownBlock) (hw : WordAt W1 wb u) (hr : RecAt W1 pb l) (hv : v.ownBlock ≠ some wb) (hvp : v.ownBlock ≠ some pb) : WordAt w1 wb u ∧ RecAt w1 pb l ∧ Keeps (fun b => v.ownBlock = some b) W1 w1 := by
  have k : Keeps (fun b => v.ownBlock = some b) W1 w1 := ((Keeps.refl _ W1).alloc o).grown hg fun k hk _ => hk
  exact ⟨hw.keep k hv, hr.keep k hvp, k⟩
theorem after_append_d {W1 w1 : World} {o : Obj} {wb pb : Nat} {u v : Value} {l : List Value} (hg : (W1.alloc o).drew.grownBy w1 v.ownBlock) (hw : WordAt W1 wb u) (hr : RecAt W1 pb l) (hv : v.ownBlock ≠ some wb) (hvp : v.ownBlock ≠ some pb) : WordAt w1 wb u ∧ RecAt w1 pb l ∧ Keeps (fun b => v.ownBlock = some b) W1 w1 := by
  have k : Keeps (fun b => v.ownBlock = some b) W1 w1 := ((Keeps.refl _ W1).alloc o).drew.grown hg fun k hk _ => hk
  exact ⟨hw.keep k hv, hr.keep k hvp, k⟩
theorem core_a {W1 w1 : World} {wb g cap L : Nat} {u v : Value} {xs : List Value} {z0 z1 z2 z3 z4 z5 u0 u1 u2 u3 u4 u5 : Value} (hk : Keeps (fun b => v.ownBlock = some b) W1 w1) (hw : WordAt w1 wb u)
    (hown : w1.ownsRow 0 39 6 (.slice (some ⟨g, 0, none⟩) (L + 1) cap) (L + 1) (xs ++ [z0, z1, z2, z3, z4, z5])) (hat : v.ownBlock = some g ∨ g = W1.heap.size + 1) (hgw : g ≠ wb) :
    PutCore W1 wb L v (xs ++ [u0, u1, u2, u3, u4, u5]) (.returned (.tuple #[])) (set6 (w1.setCell ⟨wb, 0, none⟩ (.slice (some ⟨g, 0, none⟩) (L + 1) cap)) g (L * 6) u0 u1 u2 u3 u4 u5) := by
  have hx : xs.length = L * 6 := by have := hown.1; simp at this; omega
  have k1 : Keeps (fun b => b = wb ∨ v.ownBlock = some b) W1 w1 := hk.mono fun _ _ h => .inr h
  have k2 : ∀ k, k < W1.heap.size → k = g → (k = wb ∨ v.ownBlock = some k) := fun k hk e => by
    rcases hat with hat | hat
    · exact .inr (by rw [hat, e])
    · omega
  refine ⟨rfl, g, cap, ?_, ?_, ?_, hgw, ?_⟩
  · exact (hw.set _).keep (set6_keeps _ _ _ _ _ _ _ _ _) (Ne.symm hgw)
  · exact six_stored hx (Go.ownsRow_setCell_other hown (by simpa [Value.ownBlock] using hgw) _) _ _ _ _ _ _
  · rcases hat with h | h; exact .inl h; exact .inr (by omega)
  · exact (k1.setCell _ _ fun _ => .inl rfl).trans (set6_keeps _ _ _ _ _ _ _ _ _) fun k hk e => k2 k hk e
theorem core_b {W1 w1 : World} {wb g cap L : Nat} {u v : Value} {ys : List Value} (hk : Keeps (fun b => v.ownBlock = some b) W1 w1) (hw : WordAt w1 wb u)
    (hown : w1.ownsRow 0 39 6 (.slice (some ⟨g, 0, none⟩) (L + 1) cap) (L + 1) ys) (hat : v.ownBlock = some g ∨ g = W1.heap.size + 1) (hgw : g ≠ wb) :
    PutCore W1 wb L v ys (.returned (.tuple #[])) (w1.setCell ⟨wb, 0, none⟩ (.slice (some ⟨g, 0, none⟩) (L + 1) cap)) := by
  refine ⟨rfl, g, cap, hw.set _, Go.ownsRow_setCell_other hown (by simpa [Value.ownBlock] using hgw) _, ?_, hgw, ?_⟩
  · rcases hat with h | h; exact .inl h; exact .inr (by omega)
  · exact (hk.mono fun _ _ h => .inr h).setCell _ _ fun _ => .inl rfl

--LEM--
theorem two_new {w w1 w2 : World} {cs pb : Nat} (h : Keeps (fun b => b = cs) w w1) (hpb : pb = w.heap.size) (k : Keeps (Two cs pb) w1 w2) : Keeps (fun b => b = cs) w w2 := h.trans k fun x hx e => by
  rcases e with e | e
  · exact e
  · omega
theorem one_new {w w1 w2 : World} {cs pb : Nat} (h : Keeps (fun b => b = cs) w w1) (hpb : pb = w.heap.size) (k : Keeps (fun b => b = pb) w1 w2) : Keeps (fun b => b = cs) w w2 := h.trans k fun x hx e => by omega
theorem fresh_ok {w : World} {B cs wb : Nat} {g : Option Nat} {N : List Pt × Bool} {m b : Nat} (h : Bag w B cs wb g N m) (hb : w.heap.size ≤ b) : (B ≤ b ∧ b ≠ wb) ∧ g ≠ some b := by
  have hl := h.le
  refine ⟨⟨by omega, by omega⟩, fun e => ?_⟩
  obtain ⟨v0, raw0, _, ho0, e0, _⟩ := h
  have := ho0.lt (e0.trans e)
  omega
theorem made_of {w w3 : World} {B cs wb pb I d m k : Nat} {s : ByteArray} {g : Option Nat} {N : List Pt × Bool} {x : Pt} {v : Value} {res : Res} (hb : Bag w B cs wb g N m) (hk : Keeps (fun b => b = cs) w w3) (hs : ScanAt w3 cs s I d)
    (hr : RecAt w3 pb (cellsP x v)) (hx : PtsAt w3 (fun b => w.heap.size ≤ b) k x.word v) (h1 : x.kind ≠ 1) (h2 : x.kind ≠ 2) (hI : I ≤ s.size) (hm : m + x.text.length + 1 ≤ 2 * I) (hres : res = .ok ([x], rest s I)) :
    Made w3 B cs wb pb s d g N m res ∧ Keeps (fun b => b = cs) w w3 :=
  ⟨⟨I, k, x, v, hres, hI, hm, h1, h2, hs, hb.keep hk (fun _ _ e => e), hr, hx.mono fun b _ h => fresh_ok hb h⟩, hk⟩
/-- Two fields are written. -/
theorem made_two {w w2 : World} {B cs wb pb I d m : Nat} {s : ByteArray} {g : Option Nat} {N : List Pt × Bool} {kd : Nat} {name text : List UInt8} {q : Bool} {res : Res} {j : Nat} {u : Value} (hb : Bag w B cs wb g N m) (hpb : pb = w.heap.size) (hne : cs ≠ pb) (hk : Keeps (fun b => b = cs) w w2) (hs : ScanAt w2 cs s I d)
    (hr : RecAt w2 pb [.int .i64 0, .string ⟨#[]⟩, .string ⟨#[]⟩, .string ⟨#[]⟩, .slice none 0 0, .bool q]) (hl : ([.int .i64 (kd : Nat), .string ⟨#[]⟩, .string ⟨#[]⟩, .string ⟨#[]⟩, .slice none 0 0, .bool q] : List Value).set j u = cellsP (.mk kd text name [] [] q) (.slice none 0 0))
    (h1 : kd ≠ 1) (h2 : kd ≠ 2) (hI : I ≤ s.size) (hm : m + text.length + 1 ≤ 2 * I) (hres : res = .ok ([.mk kd text name [] [] q], rest s I)) :
    Made ((w2.setCell ⟨pb, 0, none⟩ (.int .i64 (kd : Nat))).setCell ⟨pb, j, none⟩ u) B cs wb pb s d g N m res ∧ Keeps (fun b => b = cs) w ((w2.setCell ⟨pb, 0, none⟩ (.int .i64 (kd : Nat))).setCell ⟨pb, j, none⟩ u) := by
  obtain ⟨w3, hw3, hs3, hr3, hk3⟩ := part_set hs hr hne 0 (.int .i64 (kd : Nat))
  obtain ⟨w4, hw4, hs4, hr4, hk4⟩ := part_set hs3 hr3 hne j u
  subst hw3
  subst hw4
  refine made_of (x := .mk kd text name [] [] q) hb (one_new (one_new hk hpb hk3) hpb hk4) hs4 ?_ (PtsAt.nil _ _ 0) h1 h2 hI hm hres
  rw [← hl]
  exact hr4
theorem starts_two (a b : UInt8) {r : List UInt8} (h : startsF [a, b] r = true) : 2 ≤ r.length := startsF_le h
theorem calcF_len : ∀ {l : List UInt8} {o k : Nat}, calcF o l = some k → k + 2 ≤ l.length
  | [], o, k, h => by cases h
  | c :: t, o, k, h => by
    have hm : ∀ o', (calcF o' t).map (· + 1) = some k → k + 2 ≤ t.length + 1 := fun o' h => by
      cases h2 : calcF o' t with
      | none => rw [h2] at h; cases h
      | some j =>
        rw [h2] at h
        have := calcF_len h2
        have : j + 1 = k := Option.some.inj h
        omega
    unfold calcF at h
    rw [List.length_cons]
    split at h
    · exact hm _ h
    split at h
    · split at h
      · split at h
        · next hh =>
          have : 0 = k := Option.some.inj h
          cases t with
          | nil => cases hh
          | cons a b => rw [List.length_cons]; omega
        · cases h
      · exact hm _ h
    · exact hm _ h
theorem subF_len : ∀ {l : List UInt8} {md : SM} {o k : Nat}, subF md o l = some k → k + 1 ≤ l.length
  | [], md, o, k, h => by cases md <;> cases h
  | c :: t, md, o, k, h => by
    have hm : ∀ md' o', (subF md' o' t).map (· + 1) = some k → k + 1 ≤ t.length + 1 := fun md' o' h => by
      cases h2 : subF md' o' t with
      | none => rw [h2] at h; cases h
      | some j =>
        rw [h2] at h
        have := subF_len h2
        have : j + 1 = k := Option.some.inj h
        omega
    rw [List.length_cons]
    cases md with
    | n =>
      unfold subF at h
      split at h
      · exact hm _ _ h
      split at h
      · exact hm _ _ h
      split at h
      · exact hm _ _ h
      split at h
      · exact hm _ _ h
      split at h
      · split at h
        · have : 0 = k := Option.some.inj h
          omega
        · exact hm _ _ h
      · exact hm _ _ h
    | q1 => exact hm _ _ h
    | q2 => exact hm _ _ h
    | bn => exact hm _ _ h
    | bq => exact hm _ _ h
theorem calc_le {s : ByteArray} {i k : Nat} (h : calcF 0 (rest s i) = some k) (hi : i ≤ s.size) : i + (k + 2) ≤ s.size := by
  have := calcF_len h
  rw [rest_len] at this
  omega
theorem sub_le {s : ByteArray} {i k : Nat} (h : subF .n 0 (rest s i) = some k) (hi : i ≤ s.size) : i + (k + 1) ≤ s.size := by
  have := subF_len h
  rw [rest_len] at this
  omega
--END--
set_option maxRecDepth 100000 in
set_option maxHeartbeats 8000000 in
theorem dol_step (n : Nat) (IH : ∀ m, m < n → Does m) (q : Bool) (B cs wb : Nat) (s : ByteArray) (i d m : Nat) (g : Option Nat) (N : List Pt × Bool) (w : World) (hsc : ScanAt w cs s i d) (hi : i ≤ s.size) (hd : d ≤ 40) (hs : s.size ≤ 20000) (hb : Bag w B cs wb g N m) (hm : m + 2 ≤ 2 * i) (hn : 2 * (s.size - i) + 1 ≤ n) :
    Calls Try.prog 55 #[.pointer (some ⟨cs, 0, none⟩), .pointer (some ⟨wb, 0, none⟩), .bool q] w (ThingPost w B cs wb s d g N (lexD n (.dol q) d (rest s i))) := by
  have HD := Lib.hid IH
  have HSC := Lib.hid hsc
  have HB := Lib.hid hb
  obtain ⟨res, hres⟩ : ∃ res, res = lexD n (.dol q) d (rest s i) := ⟨_, rfl⟩
  rw [← hres]
  have HRES := Lib.hid hres
  have hle := hb.le
  clear IH hsc hb hres
  go_enter Try.func55, Try.ntmps55
  go_upto_block 0 with fail
  go_cut [] from 9 to 44 (fun wx => Made wx B cs wb w.heap.size s d g N m res ∧ Keeps (fun b => b = cs) w wx)
  case first =>
--FIRST--
    obtain ⟨pb, hpb⟩ : ∃ pb, pb = w.heap.size := ⟨_, rfl⟩
    obtain ⟨w0, hw0⟩ : ∃ w0, w0 = w.alloc (.cells #[.int .i64 0, .string ⟨#[]⟩, .string ⟨#[]⟩, .string ⟨#[]⟩, .slice none 0 0, .bool q] 39) := ⟨_, rfl⟩
    have hr0 : RecAt w0 pb [.int .i64 0, .string ⟨#[]⟩, .string ⟨#[]⟩, .string ⟨#[]⟩, .slice none 0 0, .bool q] := by rw [hw0, hpb]; exact ⟨_, heap_alloc_new w _⟩
    have hk0 : Keeps (fun b => b = cs) w w0 := by rw [hw0]; exact (Keeps.refl _ _).alloc _
    rw [← hw0, ← hpb]
    have HS0 := Lib.hid (HSC.out.keep (show Keeps (fun _ => False) w w0 by rw [hw0]; exact (Keeps.refl _ _).alloc _) (fun h => h))
    have hne : cs ≠ pb := by omega
    have HPB := Lib.hid hpb
    have HR0 := Lib.hid hr0
    have HK0 := Lib.hid hk0
    clear hw0 hr0 hk0 hpb
    obtain ⟨M, rfl⟩ : ∃ M, n = M + 1 := ⟨n - 1, by omega⟩
    have hr := HRES.out
    rw [lexD_dol] at hr
    by_cases hh : headIs 123 (rest s i) = true
    · rw [if_pos hh, rest_tail] at hr
      have hlt : i < s.size := by
        rcases Nat.lt_or_ge i s.size with x | x
        · exact x
        · rw [rest_nil x] at hh; cases hh
      have HH := Lib.hid hh
      have HR := Lib.hid hr
      clear hr hh
      go_wp2_with fail
      refine (is_yes cs s ⟨#[123]⟩ i d _ HS0.out (by omega) hi (by decide) (by rw [hasPrefix_starts, starts_one]; exact HH.out)).mono ?_
      rintro e w1 ⟨rfl, hs1, hk1⟩
      have HS1 := Lib.hid hs1
      have HR1 := Lib.hid (HR0.out.keep hk1 (fun h => hne h.symm))
      have HK1 := Lib.hid (HK0.out.trans hk1 (fun _ _ e => e))
      clear hs1 hk1
      go_wp2_with fail
      refine ((HD.out M (by omega)).brace q cs pb s (i + 1) d _ HS1.out hlt hd hs hne HR1.out (by omega)).mono ?_
      intro e w2 hp
      cases hres2 : lexD M (.brace q) d (rest s (i + 1)) with
      | error x =>
        rw [hres2] at hp
        have hr2 := HR.out
        rw [hres2] at hr2
        obtain ⟨he, hk2⟩ := hp
        subst he
        have HR2 := Lib.hid hr2
        have HK2 := Lib.hid (two_new HK1.out HPB.out hk2)
        clear hr2 hres2 hk2
        go_wp2_with fail
        refine ⟨rfl, ?_⟩
        rw [HR2.out]
        exact ⟨rfl, HK2.out.mono fun _ _ e => .inl e⟩
      | ok lr =>
        obtain ⟨l, r⟩ := lr
        rw [hres2] at hp
        have hr2 := HR.out
        rw [hres2] at hr2
        have hlen := lexD_len _ _ _ _ _ _ hres2
        obtain ⟨he, I, k, x, v, a1, a2, a3, a4, a5, a6, a7, a8, a9⟩ := hp
        subst he
        rw [← a2, rest_len, rest_len] at hlen
        rw [a3, ← a2] at hr2
        have hlen2 : i + 1 ≤ I := by simp only [Md.least] at hlen; omega
        have hkw := two_new HK1.out HPB.out a9
        have HF := Lib.hid (made_of (m := m) HB.out hkw a6 a7 (a8.mono fun b _ h => by have := HK1.out.size; omega) (by rw [a4]; decide) (by rw [a4]; decide) a1 (by rw [a5]; show m + 0 + 1 ≤ _; omega) hr2)
        clear hr2 hres2 a2 a3 a4 a5 a6 a7 a8 a9 hkw hlen
        go_wp2_with fail
        have hpb := HPB.out
        subst hpb
        go_meet
        case rel => exact HF.out
    · rw [if_neg hh] at hr
      have hh' : headIs 123 (rest s i) = false := by simpa using hh
      have HH := Lib.hid hh'
      clear hh hh'
      by_cases h2 : startsF [40, 40] (rest s i) = true
      · rw [if_pos h2, rest_drop] at hr
        have hlt : i + 2 ≤ s.size := by
          have := starts_two 40 40 h2
          rw [rest_len] at this; omega
        have H2 := Lib.hid h2
        have HR := Lib.hid hr
        clear hr h2
        go_wp2_with fail
        refine (is_no cs s ⟨#[123]⟩ i d _ HS0.out hi (by rw [hasPrefix_starts, starts_one]; exact HH.out)).mono ?_
        rintro e w1 ⟨rfl, q1, rfl⟩
        go_wp2_with fail
        refine (is_yes cs s ⟨#[40, 40]⟩ i d _ (HS0.out.drewN q1) (by omega) hi (by decide) (by rw [hasPrefix_starts]; exact H2.out)).mono ?_
        rintro e w1 ⟨rfl, hs1, hk1⟩
        have hkd : Keeps (fun b => b = cs) w0 (w0.drewN q1) := (Keeps.refl _ _).drewN _
        have HS1 := Lib.hid hs1
        have HR1 := Lib.hid ((HR0.out.keep hkd (fun h => hne h.symm)).keep hk1 (fun h => hne h.symm))
        have HK1 := Lib.hid ((HK0.out.trans hkd (fun _ _ e => e)).trans hk1 (fun _ _ e => e))
        clear hs1 hk1 hkd
        go_wp2_with fail
        refine (calc_any cs s (i + 2) d _ HS1.out (by omega) hlt (calcF 0 (rest s (i + 2))) rfl).mono ?_
        intro e w2 hp
        cases hres2 : calcF 0 (rest s (i + 2)) with
        | none =>
          rw [hres2] at hp
          have hr2 := HR.out
          rw [hres2] at hr2
          dsimp only at hr2
          obtain ⟨he, hk2⟩ := hp
          subst he
          have HR2 := Lib.hid hr2
          have HK2 := Lib.hid (HK1.out.trans hk2 (fun _ _ e => e))
          clear hr2 hres2 hk2
          go_wp2_with fail
          refine ⟨rfl, ?_⟩
          rw [HR2.out]
          exact ⟨rfl, HK2.out.mono fun _ _ e => .inl e⟩
        | some k =>
          rw [hres2] at hp
          have hr2 := HR.out
          rw [hres2] at hr2
          dsimp only at hr2
          obtain ⟨R, he, hR, hs2, hk2⟩ := hp
          subst he
          have hrq := HR1.out.keep hk2 (fun h => hne h.symm)
          have hkw := HK1.out.trans hk2 (fun _ _ e => e)
          obtain ⟨⟨_, _, _, _, _, _⟩, f0, f1, _, _, _⟩ := hrq.six
          have hlt2 : i + 2 + (k + 2) ≤ s.size := calc_le hres2 hlt
          have htl : R.data.toList.length ≤ k := by rw [hR, List.length_take]; omega
          have HF := Lib.hid (made_two (m := m) (res := res) (kd := 4) (j := 1) (u := .string R) (text := R.data.toList) (name := []) HB.out HPB.out hne hkw hs2 hrq rfl (by decide) (by decide) hlt2 (by omega) (by rw [hr2, hR, rest_drop]))
          clear hr2 hres2 hR hs2 hk2 hrq hkw
          go_wp2_with fail
          have hpb := HPB.out
          subst hpb
          go_meet
          case rel => exact HF.out
      · rw [if_neg h2] at hr
        have h2' : startsF [40, 40] (rest s i) = false := by simpa using h2
        have H2 := Lib.hid h2'
        clear h2 h2'
        by_cases h3 : headIs 40 (rest s i) = true
        · rw [if_pos h3, rest_tail] at hr
          have hlt : i + 1 ≤ s.size := by
            rcases Nat.lt_or_ge i s.size with x | x
            · exact x
            · rw [rest_nil x] at h3; cases h3
          have H3 := Lib.hid h3
          have HR := Lib.hid hr
          clear hr h3
          go_wp2_with fail
          refine (is_no cs s ⟨#[123]⟩ i d _ HS0.out hi (by rw [hasPrefix_starts, starts_one]; exact HH.out)).mono ?_
          rintro e w1 ⟨rfl, q1, rfl⟩
          go_wp2_with fail
          refine (is_no cs s ⟨#[40, 40]⟩ i d _ (HS0.out.drewN q1) hi (by rw [hasPrefix_starts]; exact H2.out)).mono ?_
          rintro e w1 ⟨rfl, q2, rfl⟩
          go_wp2_with fail
          refine (is_yes cs s ⟨#[40]⟩ i d _ (HS0.out.drewN (q1 + q2)) (by omega) hi (by decide) (by rw [hasPrefix_starts, starts_one]; exact H3.out)).mono ?_
          rintro e w1 ⟨rfl, hs1, hk1⟩
          have hkd : Keeps (fun b => b = cs) w0 (w0.drewN (q1 + q2)) := (Keeps.refl _ _).drewN _
          have HS1 := Lib.hid hs1
          have HR1 := Lib.hid ((HR0.out.keep hkd (fun h => hne h.symm)).keep hk1 (fun h => hne h.symm))
          have HK1 := Lib.hid ((HK0.out.trans hkd (fun _ _ e => e)).trans hk1 (fun _ _ e => e))
          clear hs1 hk1 hkd
          go_wp2_with fail
          refine (sub_any cs s (i + 1) d _ HS1.out (by omega) hlt (subF .n 0 (rest s (i + 1))) rfl).mono ?_
          intro e w2 hp
          cases hres2 : subF .n 0 (rest s (i + 1)) with
          | none =>
            rw [hres2] at hp
            have hr2 := HR.out
            rw [hres2] at hr2
            dsimp only at hr2
            obtain ⟨he, hk2⟩ := hp
            subst he
            have HR2 := Lib.hid hr2
            have HK2 := Lib.hid (HK1.out.trans hk2 (fun _ _ e => e))
            clear hr2 hres2 hk2
            go_wp2_with fail
            refine ⟨rfl, ?_⟩
            rw [HR2.out]
            exact ⟨rfl, HK2.out.mono fun _ _ e => .inl e⟩
          | some k =>
            rw [hres2] at hp
            have hr2 := HR.out
            rw [hres2] at hr2
            dsimp only at hr2
            obtain ⟨R, he, hR, hs2, hk2⟩ := hp
            subst he
            have hrq := HR1.out.keep hk2 (fun h => hne h.symm)
            have hkw := HK1.out.trans hk2 (fun _ _ e => e)
            obtain ⟨⟨_, _, _, _, _, _⟩, f0, f1, _, _, _⟩ := hrq.six
            have hlt2 : i + 1 + (k + 1) ≤ s.size := sub_le hres2 hlt
            have htl : R.data.toList.length ≤ k := by rw [hR, List.length_take]; omega
            have HF := Lib.hid (made_two (m := m) (res := res) (kd := 5) (j := 1) (u := .string R) (text := R.data.toList) (name := []) HB.out HPB.out hne hkw hs2 hrq rfl (by decide) (by decide) hlt2 (by omega) (by rw [hr2, hR, rest_drop]))
            clear hr2 hres2 hR hs2 hk2 hrq hkw
            go_wp2_with fail
            have hpb := HPB.out
            subst hpb
            go_meet
            case rel => exact HF.out
        · rw [if_neg h3] at hr
          have h3' : headIs 40 (rest s i) = false := by simpa using h3
          have H3 := Lib.hid h3'
          clear h3 h3'
          obtain ⟨k, hk⟩ : ∃ k, k = nameF false (rest s i) := ⟨_, rfl⟩
          rw [← hk] at hr
          have hkl : k ≤ s.size - i := by rw [hk, ← rest_len]; exact nameF_le _ _
          have HR := Lib.hid hr
          have HKN := Lib.hid hk
          clear hr hk
          go_wp2_with fail
          refine (is_no cs s ⟨#[123]⟩ i d _ HS0.out hi (by rw [hasPrefix_starts, starts_one]; exact HH.out)).mono ?_
          rintro e w1 ⟨rfl, q1, rfl⟩
          go_wp2_with fail
          refine (is_no cs s ⟨#[40, 40]⟩ i d _ (HS0.out.drewN q1) hi (by rw [hasPrefix_starts]; exact H2.out)).mono ?_
          rintro e w1 ⟨rfl, q2, rfl⟩
          go_wp2_with fail
          refine (is_no cs s ⟨#[40]⟩ i d _ (HS0.out.drewN (q1 + q2)) hi (by rw [hasPrefix_starts, starts_one]; exact H3.out)).mono ?_
          rintro e w1 ⟨rfl, q3, rfl⟩
          go_wp2_with fail
          refine (name_any cs s i d _ false (HS0.out.drewN (q1 + q2 + q3)) (by omega) hi k HKN.out.symm).mono ?_
          rintro e w2 ⟨R, rfl, hR, hs2, hk2⟩
          have hkd : Keeps (fun b => b = cs) w0 (w0.drewN (q1 + q2 + q3)) := (Keeps.refl _ _).drewN _
          have hrq := (HR0.out.keep hkd (fun h => hne h.symm)).keep hk2 (fun h => hne h.symm)
          have HR2 := Lib.hid hrq
          have HS2 := Lib.hid hs2
          have HK2 := Lib.hid ((HK0.out.trans hkd (fun _ _ e => e)).trans hk2 (fun _ _ e => e))
          have HT := Lib.hid hR
          obtain ⟨⟨_, _, _, _, _, _⟩, f0, _, f2, _, _⟩ := hrq.six
          clear hR hs2 hk2 hkd hrq
          by_cases hk0 : k = 0
          · obtain ⟨t1, t2⟩ := ba_empty (s := R) (by rw [HT.out, hk0, List.take_zero])
            have hr := HR.out
            rw [if_pos hk0] at hr
            have hs3 := HS2.out
            rw [hk0] at hs3
            obtain ⟨w3, hw3, hs4, hr4, hk4⟩ := part_set hs3 HR2.out hne 0 (.int .i64 3)
            obtain ⟨w4, hw4, hs5, hr5, hk5⟩ := part_set hs4 hr4 hne 2 (.string R)
            have HK5 := Lib.hid (one_new (one_new HK2.out HPB.out hk4) HPB.out hk5)
            have HS5 := Lib.hid hs5
            have HB5 := Lib.hid (HB.out.keep HK5.out (fun _ _ e => e))
            have HW := Lib.hid (show w4 = (w2.setCell ⟨pb, 0, none⟩ (.int .i64 3)).setCell ⟨pb, 2, none⟩ (.string R) by rw [hw4, hw3])
            clear hk0 hs3 hw3 hs4 hr4 hk4 hw4 hs5 hr5 hk5
            cases q with
            | true =>
              have HRR := Lib.hid hr
              clear hr
              go_wp2_with fail
              rw [← HW.out]
              refine (put2_any B cs wb g N m ⟨#[36]⟩ _ HB5.out (by omega) (HS5.out.lt)).mono ?_
              intro e w5 hp
              have hfin := thing_put (d := d) (i := i) (r := rest s i) (l := [quoP [36]]) hp HS5.out HB5.out HK5.out hi rfl rfl (by show m + 1 + 1 ≤ _; omega)
              have he := hp.1
              subst he
              have HF := Lib.hid hfin
              clear hp hfin
              go_wp2_with fail
              go_end0
              rw [HRR.out]
              exact HF.out
            | false =>
              have HRR := Lib.hid hr
              clear hr
              go_wp2_with fail
              rw [← HW.out]
              refine (put1_any B cs wb g N m ⟨#[36]⟩ _ HB5.out (by simp) (by omega) (HS5.out.lt)).mono ?_
              intro e w5 hp
              have hfin := thing_put (d := d) (i := i) (r := rest s i) (l := [txtP [36]]) hp HS5.out HB5.out HK5.out hi rfl rfl (by show m + 1 + 1 ≤ _; omega)
              have he := hp.1
              subst he
              have HF := Lib.hid hfin
              clear hp hfin
              go_wp2_with fail
              go_end0
              rw [HRR.out]
              exact HF.out
          · have hne0 : R.data.toList ≠ [] := by
              intro h
              have h2 := congrArg List.length (HT.out.symm.trans h)
              rw [List.length_take, rest_len] at h2
              simp only [List.length_nil] at h2
              omega
            obtain ⟨t1, t2⟩ := ba_full (s := R) hne0
            have hr := HR.out
            rw [if_neg hk0, rest_drop] at hr
            have HF := Lib.hid (made_two (m := m) (res := res) (kd := 3) (j := 2) (u := .string R) (text := []) (name := R.data.toList) HB.out HPB.out hne HK2.out HS2.out HR2.out rfl (by decide) (by decide) (by omega) (by show m + 0 + 1 ≤ _; omega) (by rw [hr, HT.out]))
            clear hne0 hk0 hr
            go_wp2_with fail
            have hpb := HPB.out
            subst hpb
            go_meet
            case rel => exact HF.out
--LAST--
  case rest =>
    obtain ⟨hmade, hkx⟩ := hcut
    obtain ⟨pb, hpb⟩ : ∃ pb, pb = w.heap.size := ⟨_, rfl⟩
    rw [← hpb] at hmade ⊢
    have HPB := Lib.hid hpb
    have hwp : wb ≠ pb := by omega
    clear hpb
    obtain ⟨I, k, x, xv, hr, hI, hmI, hx1, hx2, hs1, hb1, hr1, hp1⟩ := hmade
    obtain ⟨ax, cx, rfl, _, _⟩ := hp1.shape
    obtain ⟨xl, hxl⟩ : ∃ xl, xl = x.word.length := ⟨_, rfl⟩
    rw [← hxl] at hr1 hp1
    have hcells : RecAt wc pb [.int .i64 (x.kind : Nat), .string ⟨x.text.toArray⟩, .string ⟨x.name.toArray⟩, .string ⟨x.op.toArray⟩, .slice ax xl cx, .bool x.quoted] := hr1
    have hbx := hb1
    obtain ⟨vb, raw, hw, ho, hvb, h1, h2, h3, h4, h5, h6⟩ := hb1
    obtain ⟨a, c, rfl, h7, h8⟩ := ho.shape
    obtain ⟨vs, nn, hl, hown, hnest⟩ := ho
    have hwl := wtF_len raw
    have hgw : (Value.slice a raw.length c).ownBlock ≠ some wb := by rw [hvb]; exact h1
    have hgc : (Value.slice a raw.length c).ownBlock ≠ some cs := by rw [hvb]; exact h2
    have hgp : (Value.slice a raw.length c).ownBlock ≠ some pb := by
      rw [hvb]
      intro e
      obtain ⟨v0, raw0, _, ho0, e0, _⟩ := HB.out
      have := ho0.lt (e0.trans e)
      have := HPB.out
      omega
    have hfin : ∀ W1, Keeps (fun _ => False) wc W1 → ∀ e w2, PutCore W1 wb raw.length (.slice a raw.length c) (cellsL raw vs ++ cellsP x (.slice ax xl cx)) e w2 → ThingPost w B cs wb s d g N res e w2 := fun W1 hk1 e w2 hp => by
      have hp2 : PtsAt wc (fun b => (B ≤ b ∧ b ≠ wb) ∧ (Value.slice a raw.length c).ownBlock ≠ some b) k x.word (.slice ax xl cx) := hp1.mono fun b _ h => by rw [hvb]; exact h
      have hput := bag_more2 (n := k + nn) (m := m) (N := N) (B := B) (cs := cs) hgc h3 hl (by have := hs1.lt; have := hk1.size; omega) ((hp2.keep hk1 (fun _ _ _ h => h)).le (by omega)) (fun i h h' => ((hnest i h h').keep hk1 (fun _ _ _ h => h)).le (by omega)) h5 h4 h6 hx1 hx2 hp
      rw [hvb] at hput
      rw [hr]
      exact thing_put hput (hs1.keep hk1 (fun h => h)) (hbx.keep hk1 (fun _ _ h => h.elim)) (hkx.trans hk1 fun _ _ h => h.elim) hI rfl rfl (by omega)
    obtain ⟨L, hL⟩ : ∃ L, L = raw.length := ⟨_, rfl⟩
    obtain ⟨xs, hxs⟩ : ∃ xs, xs = cellsL raw vs := ⟨_, rfl⟩
    have hLle : L ≤ 1000000 := by omega
    rw [← hxs] at hown hfin
    rw [← hL] at hown hfin hw hgw hgc hgp
    have HFIN := Lib.hid hfin
    have HC := Lib.hid hcells
    have HW := Lib.hid hw
    have HOWN := Lib.hid hown
    have lwc := hw.lt
    obtain ⟨i0, hi0, hz0, hz1, hz2⟩ := info_parts info_part
    have hc6 := cells_part
    clear hkx hr hs1 hp1 hr1 hcells hbx hw hvb h1 h2 h4 h5 h6 h7 h8 hown hnest hl hfin hwl hxl hL hxs
    go_wp2_with fail
    go_region
    · obtain ⟨W1, hW1⟩ : ∃ W1, W1 = (wc.alloc (.cells #[.bool false] 4)).drew := ⟨_, rfl⟩
      have hk1 : Keeps (fun _ => False) wc W1 := by rw [hW1]; exact ((Keeps.refl _ _).alloc _).drew
      have hown1 : W1.ownsRow 0 39 6 (.slice a L c) L xs := by rw [hW1]; exact (HOWN.out.alloc _).drew
      rw [← hW1]
      have hcells := HC.out.keep hk1 (fun h => h)
      have hword := HW.out.keep hk1 (fun h => h)
      obtain ⟨⟨c0, c1, c2, c3, c4, c5⟩, _⟩ := hcells.six
      obtain ⟨wc0, wf0⟩ := hword.cell
      have lw := hword.lt
      have HFI := Lib.hid (HFIN.out W1 hk1)
      have HC1 := Lib.hid hcells
      have HW1 := Lib.hid hword
      clear hW1 hk1 hcells hword HFIN
      go_wp2_with fail
      go_region_law
        ((refine step_append_lies _ (by rfl) _ _ _ (by rfl) 0 39 i0 _ 6 88 Try.underlying32 hi0 hz0 hz1 hz2 rfl (by omega) (.slice a L c) L xs (by rfl) ((hown1.alloc _).drew)
            ⟨W1.heap.size, 0, none⟩ 1 1 [.int .i64 (x.kind : Nat), .string ⟨x.text.toArray⟩, .string ⟨x.name.toArray⟩, .string ⟨x.op.toArray⟩, .slice ax xl cx, .bool x.quoted] (by rfl) (by rfl) (World.news_of_block (cs := #[.int .i64 (x.kind : Nat), .string ⟨x.text.toArray⟩, .string ⟨x.name.toArray⟩, .string ⟨x.op.toArray⟩, .slice ax xl cx, .bool x.quoted]) (t := 39) (fr := (0, 0)) (heap_alloc_new W1 _)) (by simp [Value.oneCell'])
            (by omega) (by unfold maxLen; omega) (by omega) (by simp) (W1.heap.size + 1) (by simp) ?_; intro gg cap w1 hown2 hgrow hat hlt
          obtain ⟨hwa, hra, hka⟩ := after_append_d hgrow HW1.out HC1.out hgw hgp
          have hgw2 := row_apart hgw hat lw
          obtain ⟨y0, y1⟩ := hwa.cell))
      all_goals (go_end0; exact HFI.out _ _ (core_b hka hwa hown2 hat hgw2))
    · obtain ⟨W1, hW1⟩ : ∃ W1, W1 = (wc.alloc (.cells #[.bool true] 4)).drew := ⟨_, rfl⟩
      have hk1 : Keeps (fun _ => False) wc W1 := by rw [hW1]; exact ((Keeps.refl _ _).alloc _).drew
      have hown1 : W1.ownsRow 0 39 6 (.slice a L c) L xs := by rw [hW1]; exact (HOWN.out.alloc _).drew
      rw [← hW1]
      have hcells := HC.out.keep hk1 (fun h => h)
      have hword := HW.out.keep hk1 (fun h => h)
      obtain ⟨wc0, wf0⟩ := hword.cell
      have lw := hword.lt
      have HFI := Lib.hid (HFIN.out W1 hk1)
      have HC1 := Lib.hid hcells
      have HW1 := Lib.hid hword
      clear hW1 hk1 hcells hword HFIN
      go_wp2_with (at_builtin; refine wpList_append_lies _ rfl (.tmp 50) (.tmp 52) _ rfl 0 39 i0 _ 6 88 Try.underlying32 hi0 hz0 hz1 hz2 rfl (by omega) (.slice a L c) L xs rfl (hown1.alloc _) ⟨W1.heap.size, 0, none⟩ 1 1 [.int .i64 0, .string ⟨#[]⟩, .string ⟨#[]⟩, .string ⟨#[]⟩, .slice none 0 0, .bool false] rfl rfl (World.news_of_block (cs := #[.int .i64 0, .string ⟨#[]⟩, .string ⟨#[]⟩, .string ⟨#[]⟩, .slice none 0 0, .bool false]) (t := 39) (fr := (0, 0)) (heap_alloc_new W1 _)) (by simp [Value.oneCell']) (by omega) (by unfold maxLen; omega) (by omega) (by simp) (W1.heap.size + 1) (by simp) ?_; intro gg cap w1 hown2 hgrow hat hlt; obtain ⟨hwa, hra, hka⟩ := after_append hgrow HW1.out HC1.out hgw hgp; have hgw2 := row_apart hgw hat lw; obtain ⟨y0, y1⟩ := hwa.cell; obtain ⟨⟨c0, c1, c2, c3, c4, c5⟩, _⟩ := hra.six; obtain ⟨t0, t1, t2, t3, t4, t5, z0, z1, z2, z3, z4, z5⟩ := zero_facts hown2)
      go_end0
      exact HFI.out _ _ (core_a hka hwa hown2 hat hgw2)
end Go.Proofs.Ytnndnldpbdhkgaa
