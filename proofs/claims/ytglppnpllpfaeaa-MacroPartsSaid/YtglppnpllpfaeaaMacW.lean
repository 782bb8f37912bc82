/-
  The document's expander in memory; the value of a name.
-/
import Derived.Test.YtglppnpllpfaeaaMacU
import Derived.Test.YtglppnpllpfaeaaMacV
import Derived.Test.YtglppnpllpfaeaaMacSwaps
namespace Go.Proofs.Ytglppnpllpfaeaa
open Go.RowKit
set_option linter.unusedVariables false

/-- The document's expander: macros, macros for this once, how many references. -/
structure YAt (w : World) (xb : Nat) (lv av : Value) (l auto : List (Bs × Bs)) (n : Nat) : Prop where
  rc : RecAt w xb [lv, av, .int .i64 n]
  hl : PairsAt w (fun b => b ≠ xb) lv l
  ha : PairsAt w (fun b => b ≠ xb) av auto
  le : n ≤ 10000
theorem RecAt.three {w : World} {b : Nat} {a0 a1 a2 : Value} (h : RecAt w b [a0, a1, a2]) :
    (w.cell? ⟨b, 0, none⟩ = some a0 ∧ w.cell? ⟨b, 1, none⟩ = some a1 ∧ w.cell? ⟨b, 2, none⟩ = some a2) ∧ w.frozen? ⟨b, 2, none⟩ = false := by
  obtain ⟨T, h⟩ := h
  refine ⟨⟨?_, ?_, ?_⟩, ?_⟩ <;> simp [World.cell?, World.frozen?, h]
theorem YAt.keep {w w' : World} {S : Nat → Prop} {xb : Nat} {lv av : Value} {l auto : List (Bs × Bs)} {n : Nat} (h : YAt w xb lv av l auto n) (hk : Keeps S w w') (hS : ∀ b, b < w.heap.size → ¬ S b) : YAt w' xb lv av l auto n :=
  ⟨h.rc.keep hk (hS xb h.rc.lt), h.hl.keep hk fun b hb _ => hS b hb, h.ha.keep hk fun b hb _ => hS b hb, h.le⟩
theorem YAt.set {w : World} {xb : Nat} {lv av : Value} {l auto : List (Bs × Bs)} {n m : Nat} (h : YAt w xb lv av l auto n) (hm : m ≤ 10000) : YAt (w.setCell ⟨xb, 2, none⟩ (.int .i64 m)) xb lv av l auto m := by
  have hk : Keeps (fun b => b = xb) w (w.setCell ⟨xb, 2, none⟩ (.int .i64 m)) := (Keeps.refl _ _).setCell _ _ fun _ => rfl
  exact ⟨h.rc.set 2 _, h.hl.keep hk fun b _ hb e => hb e, h.ha.keep hk fun b _ hb e => hb e, hm⟩
/-- The open names. -/
def OpAt (w : World) (xb : Nat) (ov : Value) (op : List Bs) : Prop := ∃ a c, ov = .slice a op.length c ∧ ∀ i (h : i < op.length), ∃ b off, a = some ⟨b, off, none⟩ ∧ b < w.heap.size ∧ b ≠ xb ∧ w.cell? ⟨b, off + i, none⟩ = some (strV op[i])
theorem OpAt.keep {w w' : World} {S : Nat → Prop} {xb : Nat} {ov : Value} {op : List Bs} (h : OpAt w xb ov op) (hk : Keeps S w w') (hS : ∀ b, b < w.heap.size → b ≠ xb → ¬ S b) : OpAt w' xb ov op := by
  obtain ⟨a, c, e, H⟩ := h
  refine ⟨a, c, e, fun i hi => ?_⟩
  obtain ⟨b, off, ea, hb, hx, hc⟩ := H i hi
  exact ⟨b, off, ea, Nat.lt_of_lt_of_le hb hk.size, hx, by rw [World.cell?_of_block (hk.block b hb (hS b hb hx))]; exact hc⟩
theorem OpAt.nil (w : World) (xb : Nat) : OpAt w xb (.slice none 0 0) [] := ⟨none, 0, rfl, fun i hi => absurd hi (Nat.not_lt_zero _)⟩
theorem OpAt.own {w : World} {B xb g cap n : Nat} {op : List Bs} (h : w.ownsRow B 9 1 (.slice (some ⟨g, 0, none⟩) n cap) n (op.map strV)) (hn : n = op.length) (hg : g ≠ xb) : OpAt w xb (.slice (some ⟨g, 0, none⟩) n cap) op := by
  subst hn
  refine ⟨_, _, rfl, fun i hi => ⟨g, 0, rfl, (h.lt g rfl).2, hg, ?_⟩⟩
  have hc := h.cellAt i (by omega)
  rw [Nat.zero_add, hc, List.getElem?_map, List.getElem?_eq_getElem hi]
  rfl
/-- What a call on the document's expander hands back. -/
def YPost (w : World) (xb : Nat) (lv av : Value) (l auto : List (Bs × Bs)) (res : MR) (e : Ending) (w' : World) : Prop := match res with
  | .ok (y, r) => e = .returned (.tuple #[strV y, .int .i64 0]) ∧ YAt w' xb lv av l auto r ∧ Keeps (fun b => b = xb) w w'
  | .error x => e = .returned (.tuple #[.string ⟨#[]⟩, .int .i64 x]) ∧ 0 < x ∧ Keeps (fun b => b = xb) w w'
theorem YPost.from {w w1 w' : World} {xb : Nat} {lv av : Value} {l auto : List (Bs × Bs)} {res : MR} {e : Ending} (h : YPost w1 xb lv av l auto res e w') (hk : Keeps (fun b => b = xb) w w1) : YPost w xb lv av l auto res e w' := by
  cases res with
  | error x => exact ⟨h.1, h.2.1, hk.trans h.2.2 fun _ _ e => e⟩
  | ok z => exact ⟨h.1, h.2.1, hk.trans h.2.2 fun _ _ e => e⟩
/-- What the document's expand does, so deep. -/
def RTextOK (l auto : List (Bs × Bs)) (k : Nat) : Prop := ∀ (w : World) (xb : Nat) (lv av ov : Value) (op : List Bs) (deep n : Nat) (s : ByteArray), YAt w xb lv av l auto n → OpAt w xb ov op → op.length ≤ deep → deep + k = 40 → s.size ≤ 140737488351232 →
  Calls Try.prog 23 #[.pointer (some ⟨xb, 0, none⟩), .string s, ov, .int .i64 deep] w (YPost w xb lv av l auto (textF (refF l auto k op) n s.data.toList))
set_option maxRecDepth 100000 in
set_option maxHeartbeats 8000000 in
theorem refValue_any (l auto : List (Bs × Bs)) (k : Nat) (HT : RTextOK l auto k) (hsm : Small l) (w : World) (xb : Nat) (lv av ov : Value) (op : List Bs) (deep n : Nat) (name : ByteArray) (h : YAt w xb lv av l auto n) (ho : OpAt w xb ov op) (hop : op.length ≤ deep) (hk : deep + (k + 1) = 40) :
    Calls Try.prog 34 #[.pointer (some ⟨xb, 0, none⟩), .string name, ov, .int .i64 deep] w (YPost w xb lv av l auto (valueF l auto op (fun o => textF (refF l auto k o)) n name.data.toList)) := by
  obtain ⟨i0, hi0, hz0, hz1, hz2⟩ := info_parts info_string
  obtain ⟨N, hN⟩ : ∃ N, N = name.data.toList := ⟨_, rfl⟩
  rw [← hN]
  have HNB := Lib.hid (show name.toList = N by rw [Lib.toList_data, hN])
  have HX := Lib.hid h
  have HN := Lib.hid hN
  have HTT := Lib.hid HT
  have HSM := Lib.hid hsm
  obtain ⟨⟨c0, c1, c2⟩, f2⟩ := h.rc.three
  obtain ⟨la, ln, lc, rfl⟩ : ∃ (a : Option Addr) (n c : Nat), lv = .slice a n c := by obtain ⟨a, c, e, _⟩ := h.hl; exact ⟨_, _, _, e⟩
  obtain ⟨ua, un, uc, rfl⟩ : ∃ (a : Option Addr) (n c : Nat), av = .slice a n c := by obtain ⟨a, c, e, _⟩ := h.ha; exact ⟨_, _, _, e⟩
  obtain ⟨oa, oc, rfl, HOC⟩ := ho
  have HOC := Lib.hid HOC
  obtain ⟨m, hm⟩ : ∃ m, m = op.length := ⟨_, rfl⟩
  rw [← hm] at hop ⊢
  have HM := Lib.hid hm
  have ewd : IntKind.i64.wrap ((deep : Int) + 1) = (deep : Int) + 1 := IntWalk.i64_in _ (by omega)
  clear h hN HT hsm hm
  cases hva : lastF auto N with
  | some v =>
    have HA := Lib.hid hva
    rw [show valueF l auto op (fun o => textF (refF l auto k o)) n N = .ok (v, n) by unfold valueF; rw [hva]]
    clear hva
    go_enter Try.func34, Try.ntmps34
    go_wp2_with fail
    refine (refGet_any auto (.slice ua un uc) _ name _ HX.out.ha).mono ?_
    rintro e w1 ⟨rfl, hw1⟩
    rw [hw1, ← HN.out, HA.out, show lastV (some v) = .tuple #[.string ⟨v.toArray⟩, .bool true] from rfl]
    clear hw1
    go_wp2_with fail
    go_ret2
    exact ⟨rfl, HX.out, Keeps.refl _ _⟩
  | none =>
    have HA := Lib.hid hva
    cases hvl : lastF l N with
    | none =>
      have HL := Lib.hid hvl
      rw [show valueF l auto op (fun o => textF (refF l auto k o)) n N = .ok ([], n) by unfold valueF; rw [hva, hvl]]
      clear hva hvl
      go_enter Try.func34, Try.ntmps34
      go_wp2_with fail
      refine (refGet_any auto (.slice ua un uc) _ name _ HX.out.ha).mono ?_
      rintro e w1 ⟨rfl, hw1⟩
      rw [hw1, ← HN.out, HA.out, show lastV none = .tuple #[.string ⟨#[]⟩, .bool false] from rfl]
      clear hw1
      go_wp2_with fail
      refine (refGet_any l (.slice la ln lc) _ name _ HX.out.hl).mono ?_
      rintro e w1 ⟨rfl, hw1⟩
      rw [hw1, ← HN.out, HL.out, show lastV none = .tuple #[.string ⟨#[]⟩, .bool false] from rfl]
      clear hw1
      go_wp2_with fail
      go_ret2
      exact ⟨rfl, HX.out, Keeps.refl _ _⟩
    | some v =>
      have HL := Lib.hid hvl
      have HV := Lib.hid (HSM.out.last hvl)
      obtain ⟨res, hres⟩ : ∃ res, res = valueF l auto op (fun o => textF (refF l auto k o)) n N := ⟨_, rfl⟩
      rw [← hres]
      have HCY := Lib.hid (show ∀ j (h : j < op.length), op[j] = N → res = .error 18 from fun j h e => by
        rw [hres]
        unfold valueF
        rw [hva, hvl]
        dsimp only
        rw [if_pos]
        rw [List.contains_iff_mem, ← e]
        exact List.getElem_mem h)
      have HRE := Lib.hid (show (∀ j (h : j < op.length), op[j] ≠ N) → res = textF (refF l auto k (op ++ [N])) n v from fun h => by
        rw [hres]
        unfold valueF
        rw [hva, hvl]
        dsimp only
        rw [if_neg]
        rw [List.contains_iff_mem]
        intro hm
        obtain ⟨j, hj, e⟩ := List.mem_iff_getElem.1 hm
        exact h j hj e)
      have HNA := Lib.hid (show strV N = .string name by rw [HN.out]; exact strV_of rfl)
      clear hva hvl hres
      go_enter Try.func34, Try.ntmps34
      go_wp2_with fail
      refine (refGet_any auto (.slice ua un uc) _ name _ HX.out.ha).mono ?_
      rintro e w1 ⟨rfl, hw1⟩
      rw [hw1, ← HN.out, HA.out, show lastV none = .tuple #[.string ⟨#[]⟩, .bool false] from rfl]
      clear hw1
      go_wp2_with fail
      refine (refGet_any l (.slice la ln lc) _ name _ HX.out.hl).mono ?_
      rintro e w1 ⟨rfl, hw1⟩
      rw [hw1, ← HN.out, HL.out, show lastV (some v) = .tuple #[.string ⟨v.toArray⟩, .bool true] from rfl]
      clear hw1
      go_wp2_with fail
      go_loopw [12] (fun i' wr => ∃ i : Nat, i' = .int .i64 i ∧ i ≤ m ∧ Hid (∀ j (h : j < op.length), j < i → op[j] ≠ N) ∧ w = wr) (fun i' _ => m - (intOf i').toNat)
      case atStart => exact ⟨0, rfl, Nat.zero_le _, Lib.hid (fun j h1 h2 => absurd h2 (Nat.not_lt_zero _)), rfl⟩
      case round =>
        obtain ⟨i, rfl, hi, HNO, hw⟩ := hrel
        subst hw
        rcases Nat.lt_or_ge i m with hlt | hge
        · have p1 : (i : Int) < (m : Int) := by omega
          have hio : i < op.length := by rw [← HM.out]; exact hlt
          obtain ⟨b, off, rfl, hb, _, hc0⟩ := HOC.out i hio
          obtain ⟨x, hx⟩ : ∃ x : ByteArray, x = ⟨op[i].toArray⟩ := ⟨_, rfl⟩
          have HXO := Lib.hid (show x.data.toList = op[i] by rw [hx])
          have hc : w.cell? ⟨b, off + i, none⟩ = some (.string x) := by rw [hc0, hx]; rfl
          clear hc0 hx
          cases hxe : (x.toList == N) with
          | true =>
            have hxn : (x.toList == name.toList) = true := by rw [HNB.out]; exact hxe
            have HR18 := Lib.hid (HCY.out i hio (by rw [← HXO.out, ← Lib.toList_data]; exact beq_iff_eq.1 hxe))
            clear hxe
            go_wp2_with fail
            go_ret2
            rw [HR18.out]
            exact ⟨rfl, by omega, Keeps.refl _ _⟩
          | false =>
            have hxn : (x.toList == name.toList) = false := by rw [HNB.out]; exact hxe
            have HNE := Lib.hid (show op[i] ≠ N from fun e => ne_of_beq_false hxe (by rw [Lib.toList_data, HXO.out]; exact e))
            clear hxe
            go_wp2_with fail
            go_roundw
            case rel => exact ⟨i + 1, by go_num, by omega, Lib.hid (fun j h1 h2 => by
              rcases Nat.lt_or_ge j i with h3 | h3
              · exact HNO.out j h1 h3
              · obtain rfl : j = i := by omega
                exact HNE.out), by first | rfl | trivial⟩
            case measure => simp [intOf]; omega
        · obtain rfl : i = m := by omega
          have p1 : ¬ (i : Int) < (i : Int) := by omega
          have HRES := Lib.hid (HRE.out fun j h => HNO.out j h (by rw [HM.out]; exact h))
          clear hge
          rcases Nat.eq_zero_or_pos i with hz | hpos
          · subst hz
            go_wp2_with (first | (at_builtin; refine wpList_append_none rfl (.const (.slice none 0 0)) (.tmp 49) _ rfl 9 i0 Try.underlying37 hi0 none 0 0 rfl (Nat.le_refl _) oa oc rfl ?_) | (at_builtin; refine wpList_append_lies _ rfl (.tmp 50) (.tmp 52) _ rfl 0 9 i0 _ 1 16 Try.underlying37 hi0 hz0 hz1 hz2 rfl (by omega) (.slice none 0 0) 0 [] rfl (World.ownsRow_nil _ _ _ _) ⟨w.heap.size, 0, none⟩ 1 1 [.string name] rfl rfl (World.news_of_block (cs := #[.string name]) (t := 9) (fr := (0, 0)) (heap_alloc_new w _)) (by simp [Value.oneCell']) (by omega) (by unfold maxLen; omega) (by omega) (by simp) (w.heap.size + 1) (by simp) ?_; intro g cap w3 hown3 hgrow3 hat3 hlt3; simp only [Nat.zero_add, List.nil_append] at hown3 ⊢))
            have HK3 := Lib.hid (show Keeps (fun _ => False) w w3 from ((Keeps.refl (fun _ => False) w).alloc _).grown hgrow3 (fun k hk _ => (by cases hk)))
            have HOP3 := Lib.hid (show OpAt w3 xb (.slice (some ⟨g, 0, none⟩) 1 cap) (op ++ [N]) from by
              obtain rfl : op = [] := List.eq_nil_of_length_eq_zero HM.out.symm
              exact OpAt.own (op := [] ++ [N]) (B := 0) (by rw [List.nil_append, List.map_singleton, HNA.out]; exact hown3) rfl (by
                rcases hat3 with e | e
                · cases e
                · have := HX.out.rc.lt; omega))
            clear hown3 hgrow3 hat3
            have hcall := HTT.out w3 xb (.slice la ln lc) (.slice ua un uc) _ (op ++ [N]) (deep + 1) n ⟨v.toArray⟩ (HX.out.keep HK3.out (fun _ _ h => h)) HOP3.out (by rw [List.length_append, ← HM.out, List.length_singleton]; omega) (by omega) (by
              have := HV.out
              show v.toArray.size ≤ _
              rw [List.size_toArray]; omega)
            rw [show (⟨v.toArray⟩ : ByteArray).data.toList = v from rfl, ← HRES.out, show ((deep + 1 : Nat) : Int) = (deep : Int) + 1 by omega] at hcall
            refine hcall.mono ?_
            intro e w4 hp
            have HP := Lib.hid (hp.from (HK3.out.mono fun _ _ h => h.elim))
            clear hp hcall
            cases res with
            | error x =>
              obtain ⟨he, hx, hk⟩ := HP.out
              subst he
              have HKX := Lib.hid hk
              clear hk
              go_wp2_with fail
              go_ret2
              exact ⟨rfl, hx, HKX.out⟩
            | ok z =>
              obtain ⟨y, r⟩ := z
              obtain ⟨he, hx, hk⟩ := HP.out
              subst he
              have HXX := Lib.hid hx
              have HKX := Lib.hid hk
              clear hx hk
              rw [show strV y = .string ⟨y.toArray⟩ from rfl]
              go_wp2_with fail
              go_ret2
              exact ⟨rfl, HXX.out, HKX.out⟩
          · obtain ⟨ab, ao, rfl⟩ : ∃ b off, oa = some ⟨b, off, none⟩ := by
              obtain ⟨b, off, e, _⟩ := HOC.out 0 (by rw [← HM.out]; exact hpos)
              exact ⟨b, off, e⟩
            have HNC := Lib.hid (show ∀ j u, (op.map strV)[j]? = some u → w.cell? ((⟨ab, ao, none⟩ : Addr).add j) = some u from fun j u hu => by
              have hj := (List.getElem?_eq_some_iff.1 hu).1
              rw [List.length_map] at hj
              obtain ⟨b, off, e, hb, _, hc⟩ := HOC.out j hj
              obtain ⟨rfl, rfl⟩ : ab = b ∧ ao = off := by injection e with e; injection e with e1 e2; exact ⟨e1, e2⟩
              rw [Go.WideShapes.add_plain, hc]
              rw [List.getElem?_map, List.getElem?_eq_getElem hj] at hu
              exact hu)
            have HL1 := Lib.hid (show (op.map strV).length = i * 1 by rw [List.length_map, ← HM.out, Nat.mul_one])
            have HL2 := Lib.hid (show ∀ u ∈ op.map strV, u.oneCell' = true from fun u hu => by obtain ⟨y, _, rfl⟩ := List.mem_map.1 hu; rfl)
            go_wp2_with (first | (at_builtin; refine wpList_append_lies _ rfl (.const (.slice none 0 0)) (.tmp 49) _ rfl 0 9 i0 _ 1 16 Try.underlying37 hi0 hz0 hz1 hz2 rfl (by omega) (.slice none 0 0) 0 [] rfl (World.ownsRow_nil _ _ _ _) ⟨ab, ao, none⟩ i oc (op.map strV) rfl HL1.out HNC.out HL2.out hpos (by unfold maxLen; omega) (by omega) (by simp) w.heap.size rfl ?_; intro g1 cap1 w2 hown2 hgrow2 hat2 hlt2; simp only [Nat.zero_add, List.nil_append] at hown2 ⊢) | (at_builtin; refine wpList_append_lies _ rfl (.tmp 50) (.tmp 52) _ rfl 0 9 i0 _ 1 16 Try.underlying37 hi0 hz0 hz1 hz2 rfl (by omega) (.slice (some ⟨g1, 0, none⟩) i cap1) i (op.map strV) rfl (hown2.alloc _) ⟨w2.heap.size, 0, none⟩ 1 1 [.string name] rfl rfl (World.news_of_block (cs := #[.string name]) (t := 9) (fr := (0, 0)) (heap_alloc_new w2 _)) (by simp [Value.oneCell']) (by omega) (by unfold maxLen; omega) (by omega) (by simp) (w2.heap.size + 1) (by simp) ?_; intro g cap w3 hown3 hgrow3 hat3 hlt3))
            have hg1 : w.heap.size ≤ g1 := by
              rcases hat2 with e | e
              · cases e
              · omega
            have hk2 : Keeps (fun _ => False) w w2 := (Keeps.refl (fun _ => False) w).grown hgrow2 (fun k hk _ => (by cases hk))
            have HK3 := Lib.hid (show Keeps (fun _ => False) w w3 from hk2.trans (((Keeps.refl (fun b => g1 = b) w2).alloc _).grown hgrow3 (fun k hk _ => Option.some.inj hk)) (fun b hb e => by omega))
            have HOP3 := Lib.hid (show OpAt w3 xb (.slice (some ⟨g, 0, none⟩) (i + 1) cap) (op ++ [N]) from OpAt.own (B := 0) (by rw [List.map_append, List.map_singleton, HNA.out]; exact hown3) (by rw [List.length_append, ← HM.out]; rfl) (by
                have h1 := HX.out.rc.lt
                have h2 := hk2.size
                rcases hat3 with e | e
                · have : g1 = g := Option.some.inj e
                  omega
                · omega))
            clear hown3 hgrow3 hat3 hown2 hgrow2 hat2 hk2
            have hcall := HTT.out w3 xb (.slice la ln lc) (.slice ua un uc) _ (op ++ [N]) (deep + 1) n ⟨v.toArray⟩ (HX.out.keep HK3.out (fun _ _ h => h)) HOP3.out (by rw [List.length_append, ← HM.out, List.length_singleton]; omega) (by omega) (by
              have := HV.out
              show v.toArray.size ≤ _
              rw [List.size_toArray]; omega)
            rw [show (⟨v.toArray⟩ : ByteArray).data.toList = v from rfl, ← HRES.out, show ((deep + 1 : Nat) : Int) = (deep : Int) + 1 by omega] at hcall
            refine hcall.mono ?_
            intro e w4 hp
            have HP := Lib.hid (hp.from (HK3.out.mono fun _ _ h => h.elim))
            clear hp hcall
            cases res with
            | error x =>
              obtain ⟨he, hx, hk⟩ := HP.out
              subst he
              have HKX := Lib.hid hk
              clear hk
              go_wp2_with fail
              go_ret2
              exact ⟨rfl, hx, HKX.out⟩
            | ok z =>
              obtain ⟨y, r⟩ := z
              obtain ⟨he, hx, hk⟩ := HP.out
              subst he
              have HXX := Lib.hid hx
              have HKX := Lib.hid hk
              clear hx hk
              rw [show strV y = .string ⟨y.toArray⟩ from rfl]
              go_wp2_with fail
              go_ret2
              exact ⟨rfl, HXX.out, HKX.out⟩
end Go.Proofs.Ytglppnpllpfaeaa
