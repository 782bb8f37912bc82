/-
  The document's own reader: parts, tidied.
  The document's own reader: a word, as a function of what is left; what each function promises.
-/
import Derived.Test.YtnndnldpbdhkgaaLexR3
namespace Go.Proofs.Ytnndnldpbdhkgaa
open Go.RowKit
set_option linter.unusedVariables false

def RTidy (w : World) (B : Nat) (raw : List Pt) (e : Ending) (w' : World) : Prop :=
  ∃ (v : Value) (n : Nat), e = .returned v ∧ PtsAt w' (fun b => B ≤ b) n (tidyF raw) v ∧ Keeps (fun _ => False) w w'
set_option maxRecDepth 100000 in
set_option maxHeartbeats 4000000 in
theorem rtidy_any (B : Nat) (v : Value) (raw : List Pt) (w : World) (h : Row w B v raw) (hB : B ≤ w.heap.size) (hm : wtF raw ≤ 1000000) :
    Calls Try.prog 46 #[v] w (RTidy w B raw) := by
  obtain ⟨ho, hlow⟩ := h
  obtain ⟨a, c, rfl, h7, h8⟩ := ho.shape
  obtain ⟨vs, n, hl, hown, hnest⟩ := ho
  obtain ⟨i0, hi0, hz0, hz1, hz2⟩ := info_parts info_part
  have hc6 := cells_part
  have hwl := wtF_len raw
  have HNEST := Lib.hid hnest
  have HOWN := Lib.hid hown
  have HLOW := Lib.hid hlow
  clear hnest hown hlow
  go_enter Try.func46, Try.ntmps46
  go_wp2_with fail
  go_loopw [3, 4, 5] (fun v' m' k' wr => ∃ (k : Nat) (em : Bool), k' = .int .i64 k ∧ m' = .bool em ∧ k ≤ raw.length ∧ Hid (OutAt w wr (fun b => (B ≤ b ∧ (Value.slice a raw.length c).ownBlock ≠ some b)) n v' (normF (raw.take k)).1) ∧ Hid (Keeps (fun _ => False) w wr) ∧ Hid ((normF (raw.take k)).1 = [] → em = decide (0 < k))) (fun _ _ k' _ => raw.length - (intOf k').toNat)
  case atStart => exact ⟨0, false, rfl, rfl, Nat.zero_le _, Lib.hid (OutAt.nil _ _ _ _), Lib.hid (Keeps.refl _ _), Lib.hid (fun _ => rfl)⟩
  case round =>
    obtain ⟨k, em, rfl, rfl, hk, HO, HK, HEM⟩ := hrel
    by_cases hlt : k < raw.length
    · obtain ⟨G, hG⟩ : ∃ G, a = some ⟨G, 0, none⟩ := by
        rcases HOWN.out.2 with ⟨_, h0⟩ | ⟨G, cap, cur, e, _⟩
        · omega
        · simp only [Value.slice.injEq] at e; exact ⟨G, e.1⟩
      subst hG
      have hGl : G < w.heap.size := (HOWN.out.lt G rfl).2
      obtain ⟨q0, q1, q2, q3, q4, q5⟩ := six_row HOWN.out rfl hl hlt
      have hcell : ∀ o v, w.cell? ⟨G, o, none⟩ = some v → wr.cell? ⟨G, o, none⟩ = some v := fun o v hv => (World.cell?_of_block (a := ⟨G, o, none⟩) (HK.out.block G hGl (fun x => x))).trans hv
      replace q0 := hcell _ _ q0
      replace q1 := hcell _ _ q1
      replace q2 := hcell _ _ q2
      replace q3 := hcell _ _ q3
      replace q4 := hcell _ _ q4
      replace q5 := hcell _ _ q5
      have hnk := HNEST.out k hlt (by omega)
      have htk : normF (raw.take (k + 1)) = stepN (normF (raw.take k)) raw[k] := by
        rw [List.take_succ_eq_append_getElem hlt, normF_append]; rfl
      obtain ⟨out, hout⟩ : ∃ out, out = (normF (raw.take k)).1 := ⟨_, rfl⟩
      rw [← hout] at HO
      have HOUT := Lib.hid hout
      have HTK := Lib.hid htk
      obtain ⟨p, hp⟩ : ∃ p, p = raw[k] := ⟨_, rfl⟩
      obtain ⟨pv, hpv⟩ : ∃ pv, pv = vs[k]'(by omega) := ⟨_, rfl⟩
      rw [← hp, ← hpv] at hnk
      rw [← hp] at q0 q1 q2 q3 q5
      rw [← hpv] at q4
      obtain ⟨pa, pc, hpe, _, _⟩ := hnk.shape
      rw [hpe] at q4 hnk
      obtain ⟨pl, hpl⟩ : ∃ pl, pl = p.word.length := ⟨_, rfl⟩
      rw [← hpl] at q4 hnk
      have HP := Lib.hid hp
      have HNK := Lib.hid hnk
      clear hcell hout htk hp hpv hnk hpe hpl
      have p1 : (k : Int) < (raw.length : Int) := by omega
      obtain ⟨T, hT⟩ : ∃ T : ByteArray, T = ⟨p.text.toArray⟩ := ⟨_, rfl⟩
      have hT2 : T.data.toList = p.text := by rw [hT]
      unfold strV at q1 q2 q3
      rw [← hT] at q1
      have HT := Lib.hid hT2
      clear hT
      by_cases hE : p.isE = true
      · have e1 : p.kind = 2 ∧ p.text = [] := by
          unfold Pt.isE at hE
          simpa using hE
        have t1 : ((p.kind : Int) == 2) = true := by rw [e1.1]; rfl
        obtain ⟨t2, t3⟩ := ba_empty (s := T) (hT2.trans e1.2)
        have hst : (normF (raw.take (k + 1))).1 = out := by
          rw [HTK.out, ← HP.out, stepN, if_pos hE, HOUT.out]
        have HST := Lib.hid hst
        clear hE e1 hst hT2
        go_wp2_with fail
        go_roundw
        case rel => exact ⟨k + 1, true, by go_num, rfl, by omega, Lib.hid (by rw [HST.out]; exact HO.out.alloc _), Lib.hid (HK.out.alloc _), Lib.hid (fun _ => (decide_eq_true (Nat.succ_pos k)).symm)⟩
        case measure => simp [intOf]; omega
      · have e1 : ((p.kind : Int) == 2) = false ∨ ((p.kind : Int) == 2) = true ∧ T.toList.isEmpty = false ∧ (T.toList == []) = false := by
          by_cases h2 : p.kind = 2
          · by_cases h3 : p.text = []
            · exact absurd (by unfold Pt.isE; rw [h2, h3]; rfl) hE
            · obtain ⟨t1, t2⟩ := ba_full (s := T) (by rw [hT2]; exact h3)
              exact .inr ⟨by rw [h2]; rfl, t1, t2⟩
          · exact .inl (by rw [beq_eq_false_iff_ne]; omega)
        have hst : (normF (raw.take (k + 1))).1 = addP out p := by
          rw [HTK.out, ← HP.out, stepN, if_neg hE, HOUT.out]
        have HST := Lib.hid hst
        have HE := Lib.hid hE
        clear hE hst
        clear hT2
        have hgl : wr.heap.size < wr.heap.size + 1 := by omega
        rcases HO.out.shape with ⟨rfl, ho0⟩ | ⟨l, y, go, co, ho0, rfl, hgo, hgo2, hco, hco2⟩
        · obtain rfl := ho0
          rcases e1 with e1 | ⟨e1, e2, e3⟩
          all_goals
            go_wp2_with fail
            go_quiet (fail)
            obtain ⟨_, us, hus, hown2, _, hun⟩ := ((HO.out.alloc (.cells #[.int .i64 (p.kind : Nat), .string T, .string ⟨p.name.toArray⟩, .string ⟨p.op.toArray⟩, .slice pa pl pc, .bool p.quoted] 39)).drewN nq)
            have HUN := Lib.hid hun
            have HUS := Lib.hid hus
            clear hun hus
            go_wp2_with (at_builtin; refine wpList_append_lies _ rfl (.tmp 63) (.tmp 65) _ rfl 0 39 i0 _ 6 88 Try.underlying32 hi0 hz0 hz1 hz2 rfl (by omega) (.slice none 0 0) 0 (cellsL [] us) rfl (hown2.alloc _) ⟨wr.heap.size + 1, 0, none⟩ 1 1 [.int .i64 (p.kind : Nat), .string T, .string ⟨p.name.toArray⟩, .string ⟨p.op.toArray⟩, .slice pa pl pc, .bool p.quoted] rfl rfl (World.news_of_block (cs := #[.int .i64 (p.kind : Nat), .string T, .string ⟨p.name.toArray⟩, .string ⟨p.op.toArray⟩, .slice pa pl pc, .bool p.quoted]) (t := 39) (fr := (0, 0)) (heap_new2 _ _ _ _)) (by simp [Value.oneCell']) (by omega) (by unfold maxLen; omega) (by omega) (by simp) (wr.heap.size + 2) (by simp) ?_; intro gg cap w1 hown1 hgrow hat hlt2)
            have hgg : w.heap.size ≤ gg := by
              have hws := HK.out.size
              rcases hat with hat | hat
              · first | (cases hat; done) | (obtain rfl := Option.some.inj hat; omega)
              · omega
            have hk1 : Keeps (fun _ => False) w w1 := (((HK.out.alloc _).drewN nq).alloc _).grown hgrow (fun y hy hyl => by cases hy)
            have hmore := OutAt.more (w := w) (out := []) (p := p) HUS.out HUN.out HNK.out (by rw [cellsP, strV, ← HT.out]; exact hown1) hgg
            have HM := Lib.hid hmore
            have HK1 := Lib.hid hk1
            clear hmore hk1 hown1 hgrow hat
            go_wp2_with fail
            go_roundw
            case rel => exact ⟨k + 1, em, by go_num, rfl, by omega, Lib.hid (by rw [HST.out]; exact HM.out), HK1, Lib.hid (fun e => by rw [HST.out] at e; simp [addP] at e)⟩
            case measure => simp [intOf]; omega
        · subst ho0
          have hlen : (l ++ [y]).length = l.length + 1 := by simp
          have HLEN := Lib.hid hlen
          have hll : l.length ≤ 1000000 := by
            have h9 : (l ++ [y]).length ≤ raw.length := by rw [HOUT.out]; exact Nat.le_trans (normF_len _) (List.length_take_le' _ _)
            omega
          obtain ⟨_, us0, hus0, hown0, _, _⟩ := HO.out
          have hsix := six_row (l := l ++ [y]) (i := l.length) (by rw [hlen] at hown0; exact hown0) (by rw [hlen]) hus0 (by rw [hlen]; omega)
          have hye : (l ++ [y])[l.length]'(by rw [hlen]; omega) = y := by simp
          rw [hye] at hsix
          obtain ⟨r0, r1, _, _, _, _⟩ := hsix
          obtain ⟨TY, hTY⟩ : ∃ TY : ByteArray, TY = ⟨y.text.toArray⟩ := ⟨_, rfl⟩
          have hTY2 : TY.data.toList = y.text := by rw [hTY]
          unfold strV at r1
          rw [← hTY] at r1
          have HTY := Lib.hid hTY2
          have rf := hown0
          rw [hlen] at rf
          have rfr := rf.frozenAt (l.length * 6 + 1)
          have HUS0 := Lib.hid hus0
          clear hTY hTY2 hown0 hye rf
          have hcase : (y.joins p = false ∧ ((((p.kind : Int) == 2) = false ∧ ((y.kind : Int) == (p.kind : Int)) = false) ∨ (((p.kind : Int) == 2) = false ∧ ((y.kind : Int) == (p.kind : Int)) = true ∧ ((p.kind : Int) == 1) = false) ∨ (((p.kind : Int) == 2) = true ∧ T.toList.isEmpty = false ∧ (T.toList == []) = false ∧ ((y.kind : Int) == (p.kind : Int)) = false))) ∨
              (y.joins p = true ∧ ((((p.kind : Int) == 2) = false ∧ ((y.kind : Int) == (p.kind : Int)) = true ∧ ((p.kind : Int) == 1) = true) ∨ (((p.kind : Int) == 2) = true ∧ T.toList.isEmpty = false ∧ (T.toList == []) = false ∧ ((y.kind : Int) == (p.kind : Int)) = true ∧ ((p.kind : Int) == 1) = false))) := by
            have nk : ∀ a b : Nat, ((a : Int) == (b : Int)) = (a == b) := fun a b => by
              rw [Bool.eq_iff_iff, beq_iff_eq, beq_iff_eq]; omega
            have n1 : ((p.kind : Int) == 1) = (p.kind == 1) := nk p.kind 1
            have n2 : ((p.kind : Int) == 2) = (p.kind == 2) := nk p.kind 2
            have n3 := nk y.kind p.kind
            rw [n2] at e1
            rw [n1, n2, n3]
            unfold Pt.joins
            cases a1 : (y.kind == p.kind)
            · rcases e1 with e1 | ⟨e1, e2, e3⟩
              · exact .inl ⟨by simp, .inl ⟨e1, rfl⟩⟩
              · exact .inl ⟨by simp, .inr (.inr ⟨e1, e2, e3, rfl⟩)⟩
            · cases a2 : (p.kind == 1)
              · rcases e1 with e1 | ⟨e1, e2, e3⟩
                · exact .inl ⟨by rw [e1]; rfl, .inr (.inl ⟨e1, rfl, rfl⟩)⟩
                · exact .inr ⟨by rw [e1]; rfl, .inr ⟨e1, e2, e3, rfl, rfl⟩⟩
              · have e4 : (p.kind == 2) = false := by
                  rw [beq_iff_eq] at a2
                  rw [a2]; rfl
                exact .inr ⟨by simp, .inl ⟨e4, rfl, rfl⟩⟩
          have hsum : ¬ 9223372036854775807 < TY.size + T.size := by
            have w1 : y.text.length ≤ wtF raw := Nat.le_trans (wtF_mem (l := l ++ [y]) (by simp)) (by rw [HOUT.out]; exact Nat.le_trans (normF_wt _) (wtF_take _ _))
            have w2 : p.text.length ≤ wtF raw := wtF_mem (by rw [HP.out]; exact List.getElem_mem _)
            rw [Lib.size_eq, Lib.size_eq, HTY.out, HT.out]
            omega
          clear e1
          have p3 : 0 ≤ (l.length : Int) + 1 := by omega
          have p4 : (l.length : Int) < (l.length : Int) + 1 := by omega
          rcases hcase with ⟨hj, hcase⟩ | ⟨hj, hcase⟩
          · have hst2 : (normF (raw.take (k + 1))).1 = l ++ [y] ++ [p] := by rw [HST.out, addP_no hj]
            replace HST := Lib.hid hst2
            clear hst2 hj
            rcases hcase with ⟨e1, e2⟩ | ⟨e1, e2, e3⟩ | ⟨e1, e2, e3, e4⟩
            all_goals
              go_wp2_with fail
              go_quiet (fail)
              obtain ⟨_, us, hus, hown2, _, hun⟩ := ((HO.out.alloc (.cells #[.int .i64 (p.kind : Nat), .string T, .string ⟨p.name.toArray⟩, .string ⟨p.op.toArray⟩, .slice pa pl pc, .bool p.quoted] 39)).drewN nq)
              have HUN := Lib.hid hun
              have HUS := Lib.hid hus
              clear hun hus
              go_wp2_with (at_builtin; refine wpList_append_lies _ rfl (.tmp 63) (.tmp 65) _ rfl 0 39 i0 _ 6 88 Try.underlying32 hi0 hz0 hz1 hz2 rfl (by omega) (.slice (some ⟨go, 0, none⟩) (l.length + 1) co) (l.length + 1) (cellsL (l ++ [y]) us) rfl (by have := hown2.alloc (.cells #[.int .i64 (p.kind : Nat), .string T, .string ⟨p.name.toArray⟩, .string ⟨p.op.toArray⟩, .slice pa pl pc, .bool p.quoted] 39); rwa [hlen] at this) ⟨wr.heap.size + 1, 0, none⟩ 1 1 [.int .i64 (p.kind : Nat), .string T, .string ⟨p.name.toArray⟩, .string ⟨p.op.toArray⟩, .slice pa pl pc, .bool p.quoted] rfl rfl (World.news_of_block (cs := #[.int .i64 (p.kind : Nat), .string T, .string ⟨p.name.toArray⟩, .string ⟨p.op.toArray⟩, .slice pa pl pc, .bool p.quoted]) (t := 39) (fr := (0, 0)) (heap_new2 _ _ _ _)) (by simp [Value.oneCell']) (by omega) (by unfold maxLen; omega) (by omega) (by simp) (wr.heap.size + 2) (by simp) ?_; intro gg cap w1 hown1 hgrow hat hlt2)
              have hgg : w.heap.size ≤ gg := by
                have hws := HK.out.size
                rcases hat with hat | hat
                · first | (cases hat; done) | (obtain rfl := Option.some.inj hat; omega)
                · omega
              have hk1 : Keeps (fun _ => False) w w1 := (((HK.out.alloc _).drewN nq).alloc _).grown hgrow (fun yy hy hyl => by have h9 : go = yy := Option.some.inj hy; omega)
              have hmore := OutAt.more (w := w) (out := l ++ [y]) (p := p) HUS.out HUN.out HNK.out (by rw [cellsP, strV, ← HT.out, hlen]; exact hown1) hgg
              have HM := Lib.hid hmore
              have HK1 := Lib.hid hk1
              clear hmore hk1 hown1 hgrow hat
              go_wp2_with fail
              go_roundw
              case rel => exact ⟨k + 1, em, by go_num, rfl, by omega, Lib.hid (by rw [HST.out]; have := HM.out; rwa [HLEN.out] at this), HK1, Lib.hid (fun e => by rw [HST.out] at e; simp at e)⟩
              case measure => simp [intOf]; omega

          · have hst2 : (normF (raw.take (k + 1))).1 = l ++ [y.join p] := by rw [HST.out, addP_yes hj]
            replace HST := Lib.hid hst2
            clear hst2 hj
            rcases hcase with ⟨e1, e2, e3⟩ | ⟨e1, e2, e3, e4, e5⟩
            all_goals
              go_wp2_with fail
              go_quiet (fail)
              go_wp2_with fail
              go_region
              go_wp2_with fail
              go_roundw
              case rel =>
                refine ⟨k + 1, em, by go_num, rfl, by omega, Lib.hid ?_, Lib.hid ?_, Lib.hid (fun e => by rw [HST.out] at e; simp at e)⟩
                · rw [HST.out]
                  have hj2 := ((HO.out.alloc (.cells #[.int .i64 (p.kind : Nat), .string T, .string ⟨p.name.toArray⟩, .string ⟨p.op.toArray⟩, .slice pa pl pc, .bool p.quoted] 39)).drewN (nq + 1))
                  have hj3 := OutAt.join (p := p) (s := TY ++ T) (c := co) (g := go) (l := l) (y := y) (by rw [HLEN.out]; exact hj2) (by rw [ba_append, HTY.out, HT.out])
                  rw [show (l ++ [y.join p]).length = l.length + 1 by simp] at hj3
                  exact hj3
                · exact ((HK.out.alloc _).drewN _).setCell _ _ (fun hlt3 => by simp only at hlt3; omega)
              case measure => simp [intOf]; omega
    · obtain rfl : k = raw.length := by omega
      have hfin : normF (raw.take raw.length) = normF raw := by rw [List.take_length]
      rw [hfin] at HO HEM
      have hflag : (normF raw).2 = decide (0 < raw.length) := normF_flag _
      have hnl : ¬ (raw.length : Int) < (raw.length : Int) := by omega
      rcases HO.out.shape with ⟨rfl, ho0⟩ | ⟨l, y, go, co, ho0, rfl, hgo, hgo2, hco, hco2⟩
      · have hem := HEM.out ho0
        rcases Nat.eq_zero_or_pos raw.length with hr0 | hr0
        · have ht : tidyF raw = [] := by unfold tidyF; rw [ho0, hflag, hr0]; rfl
          have HT := Lib.hid ht
          rw [hr0] at hem
          have hem2 : em = false := hem
          subst hem2
          clear ht ho0 hflag hfin hr0 hem HEM
          go_wp2_with fail
          go_ret
          exact ⟨_, 0, rfl, by rw [HT.out]; exact PtsAt.nil _ _ _, HK.out⟩
        · have ht : tidyF raw = [quoP []] := by unfold tidyF; rw [ho0, hflag, decide_eq_true hr0]; rfl
          have HT := Lib.hid ht
          rw [decide_eq_true hr0] at hem
          subst hem
          clear ht ho0 hflag hfin HEM
          have hnil := World.ownsRow_nil wr 0 39 6
          go_wp2_with (at_builtin; refine wpList_append_lies _ rfl (.tmp 73) (.tmp 75) _ rfl 0 39 i0 _ 6 88 Try.underlying32 hi0 hz0 hz1 hz2 rfl (by omega) (.slice none 0 0) 0 [] rfl (hnil.alloc _) ⟨wr.heap.size, 0, none⟩ 1 1 [.int .i64 2, .string ⟨#[]⟩, .string ⟨#[]⟩, .string ⟨#[]⟩, .slice none 0 0, .bool false] rfl rfl (World.news_of_block (cs := #[.int .i64 2, .string ⟨#[]⟩, .string ⟨#[]⟩, .string ⟨#[]⟩, .slice none 0 0, .bool false]) (t := 39) (fr := (0, 0)) (heap_alloc_new wr _)) (by simp [Value.oneCell']) (by omega) (by unfold maxLen; omega) (by omega) (by simp) (wr.heap.size + 1) (by simp) ?_; intro gg cap w1 hown1 hgrow hat hlt2)
          go_ret
          have hgg : w.heap.size ≤ gg := by
            have hws := HK.out.size
            rcases hat with hat | hat
            · cases hat
            · omega
          obtain ⟨n2, hn2⟩ := flat_reads (D := fun b => B ≤ b) (raw := [quoP []]) hown1 (fun i h => by match i, h with | 0, _ => rfl) (fun g hg => by obtain rfl : gg = g := Option.some.inj hg; omega)
          refine ⟨_, n2, rfl, by rw [HT.out]; exact hn2, (HK.out.alloc _).grown hgrow (fun y hy hyl => by cases hy)⟩
      · have ht : tidyF raw = l ++ [y] := by
          unfold tidyF
          rw [ho0, show (l ++ [y]).isEmpty = false by cases l <;> rfl]; rfl
        have HT := Lib.hid ht
        have e1 : ((l.length : Int) + 1 == 0) = false := by rw [beq_eq_false_iff_ne]; omega
        have hO2 := HO.out
        rw [ho0] at hO2
        have HO2 := Lib.hid hO2
        clear ht hflag hfin ho0 hO2 HEM
        go_wp2_with fail
        go_ret
        refine ⟨_, n + 1, rfl, ?_, HK.out⟩
        rw [HT.out]
        exact HO2.out.reads HK.out (fun x hx => hx.1) (fun x hx => by omega)
end Go.Proofs.Ytnndnldpbdhkgaa
namespace Go.Proofs.Ytnndnldpbdhkgaa
open Go.RowKit
set_option linter.unusedVariables false

/-- A word's parts: up to what ends it. -/
def wordX (wh : Bool) (d : Nat) (q : Bool) : Nat → List UInt8 → Res
  | 0, _ => .error 0
  | n + 1, r => match r with
    | [] => .ok ([], [])
    | c :: _ => if decide (0 < d) && c == 125 || !wh && decide (d = 0) && breaksB c then .ok ([], r) else match lexC (.one q) d r with
      | .error e => .error e
      | .ok (l, r1) => (wordX wh d q n r1).ahead l
theorem wordX_fuel (wh : Bool) (d : Nat) (q : Bool) : ∀ (n m : Nat) (r : List UInt8), r.length < n → r.length < m → wordX wh d q n r = wordX wh d q m r := by
  intro n
  induction n with
  | zero => intro m r hn; omega
  | succ n ih =>
    intro m r hn hm
    cases m with
    | zero => omega
    | succ m =>
      unfold wordX
      cases r with
      | nil => rfl
      | cons c t =>
        dsimp only
        split
        · rfl
        · cases h : lexC (.one q) d (c :: t) with
          | error e => rfl
          | ok x =>
            obtain ⟨l, r1⟩ := x
            have hl := lexD_len _ _ _ _ _ _ h
            simp only [Md.least, List.length_cons] at hl hn hm
            dsimp only
            rw [ih m r1 (by omega) (by omega)]
def wordXC (wh : Bool) (d : Nat) (q : Bool) (r : List UInt8) : Res := wordX wh d q (r.length + 1) r
theorem wordXC_nil (wh : Bool) (d : Nat) (q : Bool) : wordXC wh d q [] = .ok ([], []) := rfl
theorem wordXC_cons (wh : Bool) (d : Nat) (q : Bool) (c : UInt8) (t : List UInt8) : wordXC wh d q (c :: t) = if decide (0 < d) && c == 125 || !wh && decide (d = 0) && breaksB c then .ok ([], c :: t) else match lexC (.one q) d (c :: t) with
      | .error e => .error e
      | .ok (l, r1) => (wordXC wh d q r1).ahead l := by
  unfold wordXC
  rw [wordX]
  split
  · rfl
  · cases h : lexC (.one q) d (c :: t) with
    | error e => rfl
    | ok x =>
      obtain ⟨l, r1⟩ := x
      have hl := lexD_len _ _ _ _ _ _ h
      simp only [Md.least, List.length_cons] at hl
      dsimp only
      rw [wordX_fuel wh d q (c :: t).length (r1.length + 1) r1 (by simp only [List.length_cons]; omega) (by omega)]
theorem wordX_whole (wh : Bool) : ∀ (k : Nat) (r : List UInt8), r.length ≤ k → wordXC wh 0 false r = wordC wh r
  | _, [], _ => rfl
  | 0, c :: t, h => by simp at h
  | k + 1, c :: t, h => by
    rw [wordXC_cons, wordC_cons]
    have e : (decide (0 < 0) && c == 125 || !wh && decide (0 = 0) && breaksB c) = (!wh && breaksB c) := by simp
    rw [e]
    split
    · rfl
    · cases h2 : lexC (.one false) 0 (c :: t) with
      | error e => rfl
      | ok x =>
        obtain ⟨l, r1⟩ := x
        have hl := lexD_len _ _ _ _ _ _ h2
        simp only [Md.least, List.length_cons] at hl h
        dsimp only
        rw [wordX_whole wh k r1 (by omega)]
theorem br_word (d : Nat) (q : Bool) (hd : 0 < d) : ∀ (k : Nat) (r : List UInt8), r.length ≤ k → (lexC (.br q) d r = match wordXC true d q r with
      | .error e => .error e
      | .ok (l, r1) => (match r1 with | [] => .error 2 | _ :: t => .ok (l, t))) ∧ ∀ l c t, wordXC true d q r = .ok (l, c :: t) → c = 125
  | _, [], _ => ⟨by rw [lexC_br, wordXC_nil], fun l c t h => by rw [wordXC_nil] at h; cases h⟩
  | 0, c :: t, h => by simp at h
  | k + 1, c :: t, h => by
    rw [lexC_br, wordXC_cons]
    have e : (decide (0 < d) && c == 125 || !true && decide (d = 0) && breaksB c) = (c == 125) := by rw [decide_eq_true hd]; simp
    rw [e]
    dsimp only
    by_cases hc : (c == 125) = true
    · rw [if_pos hc, if_pos hc]
      exact ⟨rfl, fun l c' t' h => by
        obtain ⟨_, h2⟩ := Prod.mk.inj (Except.ok.inj h)
        obtain ⟨rfl, _⟩ := List.cons.inj h2
        exact beq_iff_eq.1 hc⟩
    · rw [if_neg hc, if_neg hc]
      cases h2 : lexC (.one q) d (c :: t) with
      | error e => exact ⟨rfl, fun l c' t' h => by cases h⟩
      | ok x =>
        obtain ⟨l, r1⟩ := x
        have hl := lexD_len _ _ _ _ _ _ h2
        simp only [Md.least, List.length_cons] at hl h
        obtain ⟨i1, i2⟩ := br_word d q hd k r1 (by omega)
        dsimp only
        rw [i1]
        refine ⟨?_, fun l' c' t' h3 => ?_⟩
        · cases h4 : wordXC true d q r1 with
          | error e => rfl
          | ok y =>
            obtain ⟨l4, r4⟩ := y
            dsimp only
            cases r4 with
            | nil => rfl
            | cons c4 t4 => rfl
        · obtain ⟨m', h5, _⟩ := ahead_ok h3
          exact i2 _ _ _ h5

/-- What word promises. -/
def RWord (w : World) (cs : Nat) (s : ByteArray) (d : Nat) (res : Res) (e : Ending) (w' : World) : Prop :=
  match res with
  | .ok (l, r) => ∃ (v : Value) (n i : Nat), e = .returned v ∧ i ≤ s.size ∧ rest s i = r ∧ ScanAt w' cs s i ((0 : Nat) : Int) ∧ PtsAt w' (fun b => w.heap.size ≤ b) n (tidyF l) v ∧ Keeps (fun b => b = cs) w w'
  | .error x => x ≠ 0 ∧ ∃ (v : Value) (n i : Nat) (l : List Pt), e = .returned v ∧ i ≤ s.size + (101 - d) ∧ ScanAt w' cs s i (x : Int) ∧ PtsAt w' (fun b => w.heap.size ≤ b) n l v ∧ Keeps (fun b => b = cs) w w'
def WordOK (N : Nat) : Prop := ∀ (cs : Nat) (s : ByteArray) (I d : Nat) (wh q : Bool) (w : World), ScanAt w cs s I ((0 : Nat) : Int) → I ≤ s.size → s.size ≤ 20000 → d ≤ 40 → cs < w.heap.size → s.size - I < N →
  Calls Try.prog 33 #[.pointer (some ⟨cs, 0, none⟩), .bool wh, .int .i64 d, .bool q] w (RWord w cs s d (wordXC wh d q (rest s I)))
def BraceOK (N : Nat) : Prop := ∀ (B cs : Nat) (s : ByteArray) (I d : Nat) (q : Bool) (v : Value) (raw : List Pt) (w : World), ScanAt w cs s I ((0 : Nat) : Int) → I ≤ s.size → s.size ≤ 20000 → d ≤ 40 → Row w B v raw → cs < B → B ≤ w.heap.size → wtF raw + 2 ≤ 2 * I → s.size - I < N →
  Calls Try.prog 61 #[.pointer (some ⟨cs, 0, none⟩), v, .int .i64 d, .bool q] w (RPost w B cs s (100 - d) raw (lexC (.brace q) d (rest s I)))
def DolOK (N : Nat) : Prop := ∀ (B cs : Nat) (s : ByteArray) (I d : Nat) (q : Bool) (v : Value) (raw : List Pt) (w : World), ScanAt w cs s I ((0 : Nat) : Int) → I < s.size → s.size ≤ 20000 → d ≤ 40 → Row w B v raw → cs < B → B ≤ w.heap.size → wtF raw ≤ 2 * I → s.size - I ≤ N →
  Calls Try.prog 51 #[.pointer (some ⟨cs, 0, none⟩), v, .int .i64 d, .bool q] w (RPost w B cs s (100 - d) raw (lexC (.dol q) d (rest s (I + 1))))
def InnOK (N : Nat) : Prop := ∀ (B cs : Nat) (s : ByteArray) (I d : Nat) (v : Value) (raw : List Pt) (w : World), ScanAt w cs s I ((0 : Nat) : Int) → I < s.size → s.size ≤ 20000 → d ≤ 40 → Row w B v raw → cs < B → B ≤ w.heap.size → wtF raw ≤ 2 * I → s.size - I ≤ N →
  Calls Try.prog 48 #[.pointer (some ⟨cs, 0, none⟩), v, .int .i64 d] w (RPost w B cs s (100 - d) raw (lexC (.one true) d (rest s I)))
end Go.Proofs.Ytnndnldpbdhkgaa
