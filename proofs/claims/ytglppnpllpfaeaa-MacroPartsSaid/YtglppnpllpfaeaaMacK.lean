/-
  A value's words with other ends.
-/
import Derived.Test.YtglppnpllpfaeaaMacI
import Derived.Test.YtglppnpllpfaeaaMacJ
import Derived.Test.YtglppnpllpfaeaaStemA
import Derived.Test.YtglppnpllpfaeaaSwapM
namespace Go.Proofs.Ytglppnpllpfaeaa
open Go.RowKit
set_option linter.unusedVariables false

/-- The k-th of some texts. -/
def nth (l : List Bs) (k : Nat) : ByteArray := ⟨(l.getD k []).toArray⟩
theorem strCells_nth (l : List Bs) : strCells l.length (nth l) = l.map strV := by
  apply List.ext_getElem?
  intro j
  by_cases hj : j < l.length
  · rw [strCells_at hj, List.getElem?_map, List.getElem?_eq_getElem hj]
    unfold nth
    rw [List.getD_eq_getElem?_getD, List.getElem?_eq_getElem hj]
    rfl
  · rw [List.getElem?_eq_none (by rw [strCells_length]; omega), List.getElem?_eq_none (by rw [List.length_map]; omega)]
theorem blank_fn (W : World) (x : Nat) (hx : x ≤ 1114111) : Calls Try.prog 67 #[.int .i32 x] W fun e w' => e = .returned (.bool (blankR x)) ∧ ∃ q, w' = W.drewN q := by
  have h : ∀ k : Nat, ((x : Int) == (k : Int)) = (x == k) := fun k => by
    by_cases e : x = k
    · subst e; simp
    · rw [beq_eq_false_iff_ne.2 e, beq_eq_false_iff_ne]; omega
  unfold blankR
  cases h1 : (x == 32) with
  | true =>
    have f1 : ((x : Int) == 32) = true := by rw [← h1]; exact h 32
    clear h1
    go_enter Try.func67, Try.ntmps67
    go_wp2_with fail
    go_ret
    exact ⟨rfl, 0, rfl⟩
  | false =>
    have f1 : ((x : Int) == 32) = false := by rw [← h1]; exact h 32
    cases h2 : (x == 9) with
    | true =>
      have f2 : ((x : Int) == 9) = true := by rw [← h2]; exact h 9
      clear h1 h2
      go_enter Try.func67, Try.ntmps67
      go_wp2_with fail
      go_ret
      exact ⟨rfl, 0, rfl⟩
    | false =>
      have f2 : ((x : Int) == 9) = false := by rw [← h2]; exact h 9
      have f3 : ((x : Int) == 10) = (x == 10) := h 10
      clear h1 h2 h
      generalize hb : (x == 10) = b at f3
      clear hb
      go_enter Try.func67, Try.ntmps67
      go_wp2_with fail
      go_ret
      exact ⟨rfl, 0, rfl⟩
theorem enters67 : ∀ args w, (callFunc 67 args).run Try.prog w = .ok (.enter 67 args) w := enters_of Try.func67 (by kernel_rfl) rfl
theorem words_any (v : ByteArray) (w : World) (hs : v.size ≤ 1000000000) :
    Calls Try.prog 57 #[.string v] w fun e w' => ∃ A, e = .returned (.slice (some ⟨A, 0, none⟩) (wordsF v.data.toList).length (wordsF v.data.toList).length) ∧ w.heap.size ≤ A ∧
      w'.ownsRow w.heap.size 9 1 (.slice (some ⟨A, 0, none⟩) (wordsF v.data.toList).length (wordsF v.data.toList).length) (wordsF v.data.toList).length ((wordsF v.data.toList).map strV) ∧ Below w.heap.size w w' := by
  have hff := fun W => Try.strings_FieldsFunc_runes 67 #[] enters67 blankR v W (by omega) (fun W' x hx _ => blank_fn W' x hx)
  have hl : (Lib.goFieldsP blankR v).length = (wordsF v.data.toList).length := by rw [← words_go, List.length_map]
  have hm : (Lib.goFieldsP blankR v).map Value.string = (wordsF v.data.toList).map strV := by
    rw [← words_go, List.map_map]
    exact List.map_congr_left fun x _ => by show _ = strV x.data.toList; rw [strV_of rfl]
  rw [hl, hm] at hff
  have HFF := Lib.hid hff
  obtain ⟨N, hN⟩ : ∃ N, N = (wordsF v.data.toList).length := ⟨_, rfl⟩
  rw [← hN] at HFF ⊢
  clear hff hl hm hN
  go_enter Try.func57, Try.ntmps57
  go_wp2_with fail
  refine (HFF.out _).mono ?_
  rintro e w1 ⟨A, rfl, h1, h2, h3⟩
  have HH := Lib.hid (And.intro h1 (And.intro h2 h3))
  clear h1 h2 h3
  go_wp2_with fail
  go_ret
  exact ⟨A, rfl, HH.out.1, HH.out.2.1, HH.out.2.2⟩
/-- Texts of a row that the call owns, joined. -/
theorem join_any (v : Value) (l : List Bs) (B : Nat) (w : World) (h : w.ownsRow B 9 1 v l.length (l.map strV)) (hn : l.length ≤ 1000000000) (hlen : (joinF l).length ≤ 140737488355328) :
    Calls Try.prog 59 #[v, .string ⟨#[32]⟩] w fun e w' => e = .returned (strV (joinF l)) ∧ Below w.heap.size w w' := by
  have h2 := h.2
  rcases h2 with ⟨rfl, h0⟩ | ⟨g, cap, cur, rfl, _, hg, hle, hm, _, _⟩
  · obtain rfl : l = [] := List.eq_nil_of_length_eq_zero h0
    refine (Try.strings_Join_none none 0 ⟨#[32]⟩ w).mono ?_
    rintro e w' ⟨rfl, hw⟩
    rw [hw]
    exact ⟨rfl, Below.refl _ _⟩
  · have hj : Lib.join ((l.map fun x => (⟨x.toArray⟩ : ByteArray)).map (·.data.toList)) (⟨#[32]⟩ : ByteArray).data.toList = joinF l := by
      rw [List.map_map, ← join_go]
      show Lib.join (l.map fun x => x.toArray.toList) [32] = _
      rw [show (fun x : Bs => x.toArray.toList) = id from rfl, List.map_id]
    have hc := Try.strings_Join g 0 cap (l.map fun x => (⟨x.toArray⟩ : ByteArray)) ⟨#[32]⟩ w (fun j x hx => by
      rw [List.getElem?_map] at hx
      cases hlj : l[j]? with
      | none => rw [hlj] at hx; cases hx
      | some y =>
        rw [hlj] at hx
        have hjl := (List.getElem?_eq_some_iff.1 hlj).1
        have hc := h.cellAt j (by omega)
        rw [List.getElem?_map, hlj] at hc
        rw [Nat.zero_add, hc]
        obtain rfl := Option.some.inj hx
        rfl) (Array.getElem?_eq_some_iff.1 hg).1 (by rw [List.length_map]; omega) (by rw [List.length_map]; exact hle) (by rw [hj]; exact hlen)
    rw [List.length_map, hj] at hc
    exact hc
theorem swapB_one (f t x : ByteArray) : (swapB f t x).data.toList = swapOne f.data.toList t.data.toList x.data.toList := by
  unfold swapB swapOne
  split
  · rw [ByteArray.data_append, Array.toList_append, Lib.extract_data, ← Lib.size_eq, ← Lib.size_eq]
    simp
  · rfl
theorem bl_drewN {B : Nat} {a w : World} (h : Below B a w) (n : Nat) : Below B a (w.drewN n) := h.trans ⟨rfl, rfl, rfl, Nat.le_refl _, fun _ _ => rfl⟩
theorem below_cell0 {B : Nat} {w w' : World} {v : Value} (h : Below B w w') (hv : w.cell? ⟨0, 0, none⟩ = some v) (hB : 0 < B) : w'.cell? ⟨0, 0, none⟩ = some v := by
  rw [World.cell?_of_block (h.block 0 hB)]; exact hv
theorem strCells_map (l : List Bs) (f : ByteArray → ByteArray) (F : Bs → Bs) (hF : ∀ x, (f x).data.toList = F x.data.toList) : strCells l.length (fun k => f (nth l k)) = (l.map F).map strV := by
  apply List.ext_getElem?
  intro j
  by_cases hj : j < l.length
  · rw [strCells_at hj, List.map_map, List.getElem?_map, List.getElem?_eq_getElem hj]
    unfold nth
    rw [List.getD_eq_getElem?_getD, List.getElem?_eq_getElem hj]
    have h := strV_of (hF ⟨l[j].toArray⟩)
    show some (Value.string (f ⟨l[j].toArray⟩)) = some (strV (F l[j]))
    rw [← h]
  · rw [List.getElem?_eq_none (by rw [strCells_length]; omega), List.getElem?_eq_none (by rw [List.length_map, List.length_map]; omega)]
theorem take_step {W : List Bs} {g : Bs → Bs} {k : Nat} (hk : k < W.length) : ((W.map g).take k ++ W.drop k).set k (g W[k]) = (W.map g).take (k + 1) ++ W.drop (k + 1) := by
  rw [List.set_append_right _ _ (by rw [List.length_take, List.length_map]; omega), List.length_take, List.length_map, Nat.min_eq_left (by omega), Nat.sub_self, List.drop_eq_getElem_cons hk, List.set_cons_zero,
    List.take_succ_eq_append_getElem (by rw [List.length_map]; exact hk), List.getElem_map, List.append_assoc]
  rfl
theorem take_same' {W : List Bs} {g : Bs → Bs} {k : Nat} (hk : k < W.length) (h : g W[k] = W[k]) : (W.map g).take k ++ W.drop k = (W.map g).take (k + 1) ++ W.drop (k + 1) := by
  rw [List.drop_eq_getElem_cons hk, List.take_succ_eq_append_getElem (by rw [List.length_map]; exact hk), List.getElem_map, List.append_assoc, h]
  rfl
/-- Where the words are changed one by one. -/
structure SwAt (w wr : World) (A n : Nat) (W : List Bs) (F T : Bs) (k : Nat) : Prop where
  own : wr.ownsRow w.heap.size 9 1 (.slice (some ⟨A, 0, none⟩) n n) n (((W.map (swapW F T)).take k ++ W.drop k).map strV)
  bl : Below w.heap.size w wr
  gl : ∃ m : Int, wr.cell? ⟨0, 0, none⟩ = some (.int .i64 m)
set_option maxRecDepth 100000 in
set_option maxHeartbeats 8000000 in
theorem swapped_any (v f t : ByteArray) (w : World) (hv : v.size ≤ 100000) (hf : f.size ≤ 16384) (ht : t.size ≤ 16384) (hm : ∃ m : Int, w.cell? ⟨0, 0, none⟩ = some (.int .i64 m)) :
    Calls Try.prog 48 #[.string v, .string f, .string t] w fun e w' => e = .returned (strV (swappedF v.data.toList f.data.toList t.data.toList)) ∧ Below w.heap.size w w' := by
  obtain ⟨m, hm⟩ := hm
  have h0 : 0 < w.heap.size := cellx_lt hm
  have HM := Lib.hid hm
  obtain ⟨W, hW⟩ : ∃ W, W = wordsF v.data.toList := ⟨_, rfl⟩
  have hwl := wordsG_len v.data.toList []
  rw [show wordsG [] v.data.toList = W from hW.symm, ← Lib.size_eq] at hwl
  have HWL := Lib.hid hwl
  obtain ⟨n, hn⟩ : ∃ n, n = W.length := ⟨_, rfl⟩
  have hnb : n ≤ 100001 := by rw [hn]; have := hwl.1; omega
  have HN := Lib.hid hn
  have HWO := Lib.hid (show ∀ w : World, Calls Try.prog 57 #[.string v] w fun e w' => ∃ A, e = .returned (.slice (some ⟨A, 0, none⟩) n n) ∧ w.heap.size ≤ A ∧
      w'.ownsRow w.heap.size 9 1 (.slice (some ⟨A, 0, none⟩) n n) n (W.map strV) ∧ Below w.heap.size w w' from fun w => by
    have h := words_any v w (by omega)
    rw [← hW, ← hn] at h
    exact h)
  obtain ⟨res, hres⟩ : ∃ res, res = W.map (swapW f.data.toList t.data.toList) := ⟨_, rfl⟩
  have hsw : swappedF v.data.toList f.data.toList t.data.toList = joinF res := by unfold swappedF; rw [← hW, ← hres]
  have hjl : (joinF res).length ≤ 140737488355328 := by
    have h1 := swappedF_len v.data.toList f.data.toList t.data.toList
    rw [hsw, ← Lib.size_eq, ← Lib.size_eq] at h1
    have h2 : (v.size + 1) * (t.size + v.size + 1) ≤ 100001 * 116385 := Nat.mul_le_mul (by omega) (by omega)
    omega
  rw [hsw]
  have HRES := Lib.hid hres
  have HJL := Lib.hid hjl
  have hrl : res.length = n := by rw [hres, List.length_map, hn]
  have HRL := Lib.hid hrl
  clear hW hwl hn hres hsw hjl hrl hm
  by_cases hp : 0 ≤ pct f.data.toList
  · have HP := Lib.hid (show decide (0 ≤ pct f.data.toList) = true from decide_eq_true hp)
    have HPP := Lib.hid hp
    clear hp
    go_enter Try.func48, Try.ntmps48
    go_wp2_with fail
    refine (HWO.out _).mono ?_
    rintro e w1 ⟨A, rfl, hA, hown, hbl⟩
    have HS0 := Lib.hid (show SwAt w w1 A n W f.data.toList t.data.toList 0 from ⟨by rw [List.take_zero, List.nil_append, List.drop_zero]; exact hown, hbl, m, below_cell0 hbl HM.out h0⟩)
    clear hown hbl
    go_wp2_with fail
    refine (is_any f m _ (by omega) (below_cell0 HS0.out.bl HM.out h0)).mono ?_
    rintro e w2 ⟨rfl, hw2⟩
    rw [HP.out, ← hw2]
    clear hw2
    go_wp2_with fail
    go_loopw [24] (fun i' wr => ∃ k : Nat, i' = .int .i64 k ∧ k ≤ n ∧ Hid (SwAt w wr A n W f.data.toList t.data.toList k)) (fun i' _ => n - (intOf i').toNat)
    case atStart => exact ⟨0, rfl, Nat.zero_le _, HS0⟩
    case round =>
      obtain ⟨k, rfl, hk, HS⟩ := hrel
      rcases Nat.lt_or_ge k n with hlt | hge
      · have hkW : k < W.length := by rw [← HN.out]; exact hlt
        have hown := HS.out.own
        have hfz := hown.frozenAt k
        have hc0 := hown.cellAt k (by omega)
        obtain ⟨x, hx⟩ : ∃ x : ByteArray, x = ⟨W[k].toArray⟩ := ⟨_, rfl⟩
        have hxd : x.data.toList = W[k] := by rw [hx]
        rw [List.getElem?_map, List.getElem?_append_right (by rw [List.length_take, List.length_map]; omega), List.length_take, List.length_map, Nat.min_eq_left (by omega), Nat.sub_self, List.getElem?_drop, Nat.add_zero, List.getElem?_eq_getElem hkW] at hc0
        have hc : wr.cell? ⟨A, k, none⟩ = some (.string x) := by rw [hc0, hx]; rfl
        have hxs : x.size ≤ 100000 := by
          rw [Lib.size_eq, hxd]
          have := HWL.out.2 W[k] (List.getElem_mem _)
          simp at this
          omega
        obtain ⟨m', hm'⟩ := HS.out.gl
        have HM2 := Lib.hid hm'
        have HXD := Lib.hid hxd
        have HOWN := Lib.hid hown
        have hlt' : (k : Int) < (n : Int) := by omega
        clear hc0 hx hxd hown hm'
        obtain ⟨y, ok, hmt⟩ : ∃ (y : ByteArray) (ok : Bool), stemF f.data.toList x.data.toList = (y.data.toList, ok) := ⟨⟨(stemF f.data.toList x.data.toList).1.toArray⟩, (stemF f.data.toList x.data.toList).2, rfl⟩
        have HMT := Lib.hid hmt
        have hyl : y.size ≤ 100000 := by
          have := stemF_len f.data.toList x.data.toList
          rw [hmt, ← Lib.size_eq, ← Lib.size_eq] at this
          exact Nat.le_trans this hxs
        clear hmt
        go_wp2_with fail
        refine (match_any f x m' _ (by omega) (by omega) HM2.out).mono ?_
        rintro e w3 ⟨rfl, q, hw3⟩
        rw [HMT.out]
        dsimp only
        rw [show (⟨y.data.toList.toArray⟩ : ByteArray) = y from Lib.mk_data y]
        have HS3 := Lib.hid (show SwAt w w3 A n W f.data.toList t.data.toList k from by
          rw [hw3]
          exact ⟨ownsRow_keep (S := fun _ => False) HS.out.own ((Keeps.refl _ _).drewN q) (fun _ _ x => x), bl_drewN HS.out.bl q, HS.out.gl⟩)
        clear hw3 hc hfz
        cases ok with
        | false =>
          have HSN := Lib.hid (show SwAt w w3 A n W f.data.toList t.data.toList (k + 1) from by
            refine ⟨?_, HS3.out.bl, HS3.out.gl⟩
            rw [← take_same' hkW (by unfold swapW; rw [if_pos HPP.out, ← HXD.out, HMT.out]; rfl)]
            exact HS3.out.own)
          go_wp2_with fail
          go_roundw
          case rel => exact ⟨k + 1, by go_num, by omega, HSN⟩
          case measure => simp [intOf]; omega
        | true =>
          obtain ⟨u, hu⟩ : ∃ u : ByteArray, u = ⟨(fillF t.data.toList y.data.toList).toArray⟩ := ⟨_, rfl⟩
          have HU := Lib.hid hu
          obtain ⟨m3, hm3⟩ := HS3.out.gl
          have HM3 := Lib.hid hm3
          clear hu hm3
          go_wp2_with fail
          refine (fill_any t y m3 _ (by omega) (by omega) HM3.out).mono ?_
          rintro e w4 ⟨rfl, q4, hw4⟩
          rw [← HU.out]
          have HS4 := Lib.hid (show SwAt w w4 A n W f.data.toList t.data.toList k from by
            rw [hw4]
            exact ⟨ownsRow_keep (S := fun _ => False) HS3.out.own ((Keeps.refl _ _).drewN q4) (fun _ _ x => x), bl_drewN HS3.out.bl q4, HS3.out.gl⟩)
          clear hw4
          have hown4 := HS4.out.own
          have hfz4 := hown4.frozenAt k
          have hc4 := hown4.cellAt k (by omega)
          rw [List.getElem?_map, List.getElem?_append_right (by rw [List.length_take, List.length_map]; omega), List.length_take, List.length_map, Nat.min_eq_left (by omega), Nat.sub_self, List.getElem?_drop, Nat.add_zero, List.getElem?_eq_getElem hkW] at hc4
          have hc4' : w4.cell? ⟨A, k, none⟩ = some (.string x) := by rw [hc4, Option.map_some, strV_of HXD.out]
          have HSN := Lib.hid (show SwAt w (w4.setCell ⟨A, k, none⟩ (.string u)) A n W f.data.toList t.data.toList (k + 1) from by
            refine ⟨?_, HS4.out.bl.setCell (p := ⟨A, k, none⟩) hA _, ?_⟩
            · have h := (hown4.stored k (.string u)).1
              rw [show ((((W.map (swapW f.data.toList t.data.toList)).take k ++ W.drop k).map strV).set k (.string u)) = ((W.map (swapW f.data.toList t.data.toList)).take (k + 1) ++ W.drop (k + 1)).map strV by
                rw [← take_step hkW, List.map_set]
                congr 1
                have hg : swapW f.data.toList t.data.toList W[k] = fillF t.data.toList y.data.toList := by
                  unfold swapW; rw [if_pos HPP.out, ← HXD.out, HMT.out]; rfl
                rw [hg, HU.out]
                rfl] at h
              exact h
            · obtain ⟨m5, hm5⟩ := HS4.out.gl
              exact ⟨m5, by
                rw [World.cell?_setCell_other]
                · exact hm5
                · intro e
                  have := congrArg Addr.block e
                  dsimp only at this
                  omega⟩)
          clear hc4 hown4
          go_wp2_with fail
          go_roundw
          case rel => exact ⟨k + 1, by go_num, by omega, HSN⟩
          case measure => simp [intOf]; omega
      · obtain rfl : k = n := by omega
        have hlt' : ¬ (k : Int) < (k : Int) := by omega
        have HJ := Lib.hid (show wr.ownsRow w.heap.size 9 1 (.slice (some ⟨A, 0, none⟩) k k) res.length (res.map strV) from by
          have h := HS.out.own
          rw [List.take_of_length_le (by rw [List.length_map, HN.out]; exact Nat.le_refl _), List.drop_eq_nil_of_le (by rw [HN.out]; exact Nat.le_refl _), List.append_nil, ← HRES.out] at h
          rw [HRL.out]
          exact h)
        clear hge hk
        go_wp2_with fail
        refine (join_any _ res w.heap.size _ HJ.out (by rw [HRL.out]; omega) HJL.out).mono ?_
        rintro e w4 ⟨rfl, hb4⟩
        have HB := Lib.hid (HS.out.bl.trans (hb4.mono HS.out.bl.size))
        clear hb4
        go_wp2_with fail
        go_ret
        exact ⟨rfl, HB.out⟩
  · have HP := Lib.hid (show decide (0 ≤ pct f.data.toList) = false from decide_eq_false hp)
    have HPP := Lib.hid hp
    clear hp
    go_enter Try.func48, Try.ntmps48
    go_wp2_with fail
    refine (HWO.out _).mono ?_
    rintro e w1 ⟨A, rfl, hA, hown, hbl⟩
    have HO := Lib.hid hown
    have HB1 := Lib.hid hbl
    clear hown hbl
    go_wp2_with fail
    refine (is_any f m _ (by omega) (below_cell0 HB1.out HM.out h0)).mono ?_
    rintro e w2 ⟨rfl, hw2⟩
    rw [HP.out, ← hw2]
    clear hw2
    have HRD := Lib.hid (show Reads w1 (some ⟨A, 0, none⟩) n (fun k => .string (nth W k)) from by
      refine reads_own (B := w.heap.size) (g := A) (cap := n) ?_
      rw [HN.out, strCells_nth, ← HN.out]
      exact HO.out)
    have HNZ := Lib.hid (show ∀ k, (nth W k).size ≤ 1000000000000000 from fun k => by
      unfold nth
      rw [Lib.size_eq]
      show (W.getD k []).length ≤ _
      rw [List.getD_eq_getElem?_getD]
      cases hk : W[k]? with
      | none => exact Nat.zero_le _
      | some y =>
        have := HWL.out.2 y (List.mem_of_getElem? hk)
        simp at this
        show y.length ≤ _
        omega)
    go_wp2_with fail
    refine (swapOwn_any (some ⟨A, 0, none⟩) n n (nth W) f t _ (by omega) HNZ.out (by omega) (by omega) HRD.out).mono ?_
    rintro e w3 ⟨u, rfl, hown3, hb3⟩
    have HJ := Lib.hid (show w3.ownsRow w1.heap.size 9 1 u res.length (res.map strV) from by
      rw [HN.out, strCells_map W (swapB f t) (swapOne f.data.toList t.data.toList) (fun x => swapB_one f t x)] at hown3
      have e : res = W.map (swapOne f.data.toList t.data.toList) := by
        rw [HRES.out]
        exact List.map_congr_left fun x _ => by unfold swapW; rw [if_neg (Int.not_le.2 HPP.out)]
      rw [e, List.length_map]
      exact hown3)
    have HB3 := Lib.hid (HB1.out.trans (hb3.mono HB1.out.size))
    have hfo := row_forms hown3
    obtain ⟨ua, un, uc, rfl⟩ : ∃ (a : Option Addr) (n c : Nat), u = .slice a n c := by
      rcases hfo with ⟨h, _⟩ | ⟨g, cap, h⟩
      · exact ⟨_, _, _, h⟩
      · exact ⟨_, _, _, h⟩
    clear hown3 hb3 hfo
    go_wp2_with fail
    refine (join_any _ res _ _ HJ.out (by rw [HRL.out]; omega) HJL.out).mono ?_
    rintro e w4 ⟨rfl, hb4⟩
    have HB := Lib.hid (HB3.out.trans (hb4.mono HB3.out.size))
    clear hb4
    go_wp2_with fail
    go_ret
    exact ⟨rfl, HB.out⟩
end Go.Proofs.Ytglppnpllpfaeaa
