/-
  MacroSwaps' walk.
-/
import Derived.Test.YtglppnpllpfaeaaMacPC
import Derived.Test.YtglppnpllpfaeaaSwapD
import Derived.Deep.Upon
namespace Go.Proofs.Ytglppnpllpfaeaa
open Go.RowKit
set_option linter.unusedVariables false

theorem take_step2 {A B : List Bs} {k : Nat} (hl : A.length = B.length) (hk : k < A.length) : (A.take k ++ B.drop k).set k A[k] = A.take (k + 1) ++ B.drop (k + 1) := by
  rw [List.set_append_right _ _ (by rw [List.length_take]; omega), List.length_take, Nat.min_eq_left (by omega), Nat.sub_self, List.drop_eq_getElem_cons (by omega), List.set_cons_zero, List.take_succ_eq_append_getElem hk, List.append_assoc]
  rfl
theorem take_same2 {A B : List Bs} {k : Nat} (hl : A.length = B.length) (hk : k < A.length) (h : A[k] = B[k]) : A.take k ++ B.drop k = A.take (k + 1) ++ B.drop (k + 1) := by
  rw [List.drop_eq_getElem_cons (by omega), List.take_succ_eq_append_getElem hk, List.append_assoc, h]
  rfl
theorem reads_keep {w w' : World} {a : Option Addr} {n : Nat} {z : Nat → Value} (h : Reads w a n z) (hk : Keeps (fun k => w.heap.size ≤ k) w w') : Reads w' a n z := fun k hkn => by
  obtain ⟨b, off, e, hb, hc⟩ := h k hkn
  exact ⟨b, off, e, Nat.lt_of_lt_of_le hb hk.size, by rw [World.cell?_of_block (hk.block b hb (by omega))]; exact hc⟩
theorem gl_keep {w w' : World} (h : Gl w) (hk : Keeps (fun k => w.heap.size ≤ k) w w') : Gl w' := by
  obtain ⟨m, hm⟩ := h
  exact ⟨m, by rw [World.cell?_of_block (hk.block 0 (cellx_lt hm) (by have := cellx_lt hm; omega))]; exact hm⟩
theorem wpList_append_none {P : Program} {w : World} {ops : Array Oper} {rest : List Oper} {o : Oper} {a : Act} {Q : Exit → Act → World → Prop} (hgd : o.guard = none) (s x : Operand) (t : TypeId)
    (ho : o.op = .call { callee := .builtin .append, args := #[s, x], argTypes := #[t, t] }) (e : TypeId) (i : TypeInfo) (ht : P.underlying t = some (.slice e)) (hi : P.info? e = some i)
    (sa : Option Addr) (n c : Nat) (hs : a.eval s = .slice sa n c) (hle : n ≤ c) (xa : Option Addr) (xc : Nat) (hx : a.eval x = .slice xa 0 xc)
    (h : wpList P ops Q rest (a.put o.dst (.slice sa n c)) w) : wpList P ops Q (o :: rest) a w :=
  wpList_plain hgd fun K hK => by
    have hsrc : Src P i.size t (.slice xa 0 xc) 0 [] w := by
      cases xa with
      | none => exact Src.ofNil w ht xc
      | some ad => exact Src.ofSlice w ht ad 0 xc [] (by simp) (fun j u hu => by simp at hu) (fun u hu => by cases hu)
    have hr := run_append_nothing (P := P) w t t o.type e i ht hi sa n c hle (.slice xa 0 xc) hsrc
    unfold Oper.wp execOp
    simp only [ho, resolve, invoke, builtin, Sem.run_bind, Sem.run_pure, Result.andThen_ok, List.map_toArray, List.map_cons, List.map_nil, hs, hx, hr]
    exact hK _ _ h
set_option maxRecDepth 100000 in
set_option maxHeartbeats 4000000 in
theorem list_any (a : Option Addr) (n c : Nat) (L : List Bs) (w : World) (h : Reads w a n (fun k => .string (nth L k))) (hn : n = L.length) (hM : ∀ x ∈ L, x.length ≤ 1000) (hn2 : n ≤ 1000) :
    Calls Try.prog 18 #[.slice a n c] w fun e w' => e = .returned (strV (joinF L)) ∧ w' = w := by
  have HR := Lib.hid h
  have HN := Lib.hid hn
  have HM := Lib.hid hM
  clear h hn hM
  go_enter Try.func18, Try.ntmps18
  go_wp2_with fail
  go_loopw [3, 4] (fun s' i' wr => ∃ (i : Nat) (S : ByteArray), s' = .string S ∧ i' = .int .i64 i ∧ i ≤ n ∧ Hid (S.data.toList = joinF (L.take i)) ∧ w = wr) (fun _ i' _ => n - (intOf i').toNat)
  case atStart => exact ⟨0, ⟨#[]⟩, rfl, rfl, Nat.zero_le _, Lib.hid rfl, rfl⟩
  case round =>
    obtain ⟨i, S, rfl, rfl, hi, HS, hw⟩ := hrel
    subst hw
    have hSs : S.size ≤ 1000 * 1001 := by
      rw [Lib.size_eq, HS.out]
      refine Nat.le_trans (joinF_len 1000 _ fun x hx => HM.out x (List.mem_of_mem_take hx)) (Nat.mul_le_mul_right _ ?_)
      rw [List.length_take]; omega
    rcases Nat.lt_or_ge i n with hlt | hge
    · have p1 : (i : Int) < (n : Int) := by omega
      have hiL : i < L.length := by rw [← HN.out]; exact hlt
      obtain ⟨b, off, rfl, hb, hc0⟩ := HR.out i hlt
      obtain ⟨x, hx⟩ : ∃ x, x = nth L i := ⟨_, rfl⟩
      have hc : w.cell? ⟨b, off + i, none⟩ = some (.string x) := by rw [hx]; exact hc0
      clear hc0
      have hxd : x.data.toList = L[i] := by rw [hx]; unfold nth; rw [List.getD_eq_getElem?_getD, List.getElem?_eq_getElem hiL]; rfl
      have hxs : x.size ≤ 1000 := by rw [Lib.size_eq, hxd]; exact HM.out _ (List.getElem_mem _)
      have HT := Lib.hid (show joinF (L.take (i + 1)) = if i = 0 then x.data.toList else joinF (L.take i) ++ [32] ++ x.data.toList from by
        rw [List.take_succ_eq_append_getElem hiL, joinF_snoc, hxd]
        by_cases h0 : i = 0
        · rw [if_pos h0, if_pos (by rw [h0]; rfl)]
        · rw [if_neg h0, if_neg (by intro e; have := congrArg List.length e; rw [List.length_take, Nat.min_eq_left (by omega)] at this; exact h0 this)])
      clear hx hxd
      by_cases h0 : i = 0
      · have q1 : ¬ (0 : Int) < (i : Int) := by omega
        have HZ := Lib.hid (show S.data.toList = [] by rw [HS.out, h0]; rfl)
        have H0 := Lib.hid h0
        clear h0
        go_wp2_with fail
        go_roundw
        case rel => exact ⟨i + 1, _, rfl, by go_num, by omega, Lib.hid (by rw [ba_append, HZ.out, HT.out, if_pos H0.out]; rfl), by first | rfl | trivial⟩
        case measure => simp [intOf]; omega
      · have q1 : (0 : Int) < (i : Int) := by omega
        have H0 := Lib.hid h0
        clear h0
        go_wp2_with fail
        go_roundw
        case rel => exact ⟨i + 1, _, rfl, by go_num, by omega, Lib.hid (by rw [ba_append, ba_append, HS.out, HT.out, if_neg H0.out]), by first | rfl | trivial⟩
        case measure => simp [intOf]; omega
    · obtain rfl : i = n := by omega
      have p1 : ¬ (i : Int) < (i : Int) := by omega
      have HF := Lib.hid (show strV (joinF L) = .string S by
        refine strV_of ?_
        rw [HS.out, List.take_of_length_le (by rw [← HN.out]; exact Nat.le_refl _)])
      clear hge
      go_wp2_with fail
      go_ret
      exact ⟨by rw [HF.out]; rfl, rfl⟩
theorem list_own (v : Value) (L : List Bs) (B : Nat) (w : World) (h : w.ownsRow B 9 1 v L.length (L.map strV)) (hM : ∀ x ∈ L, x.length ≤ 1000) (hn2 : L.length ≤ 1000) :
    Calls Try.prog 18 #[v] w fun e w' => e = .returned (strV (joinF L)) ∧ w' = w := by
  rcases row_forms h with ⟨rfl, h0⟩ | ⟨g, cap, rfl⟩
  · obtain rfl : L = [] := List.eq_nil_of_length_eq_zero h0
    exact list_any none 0 0 [] w (fun k hk => absurd hk (Nat.not_lt_zero _)) rfl hM hn2
  · refine list_any _ _ cap L w (reads_own (B := B) (g := g) (cap := cap) ?_) rfl hM hn2
    rw [strCells_nth]
    exact h
set_option maxRecDepth 100000 in
set_option maxHeartbeats 32000000 in
theorem macroSwaps_walk (a0 : Option Addr) (n0 c0 : Nat) (z0 : List ByteArray) (a1 a2 : ByteArray) (a3 : Bool) (w : World) (h0 : IsStrs w a0 n0 c0 z0) (h1 : a1.size ≤ 140737488351232) (h2 : a2.size ≤ 140737488351232) (hsh : w.ShapedOpen Try.prog) :
    Calls Try.prog 6 #[.slice a0 n0 c0, .string a1, .string a2, .bool a3] w fun e w' => e = .returned (.bool true) ∧ Below w.heap.size w w' := by
  have gl := gl_of hsh
  obtain ⟨i0, hi0, hz0, hz1, hz2⟩ := info_parts info_string
  have hc2 : Try.prog.cellsOf 35 = 2 := by kernel_rfl
  obtain ⟨L, hL⟩ : ∃ L : List Bs, L = (List.range n0).map fun k => (z0.getD k ByteArray.empty).data.toList := ⟨_, rfl⟩
  have HLN := Lib.hid (show L.length = n0 by rw [hL]; simp)
  have HRL := Lib.hid (show Reads w a0 n0 (fun k => .string (nth L k)) from fun k hk => by
    obtain ⟨b, off, e, hb, hc⟩ := isStrs_reads h0 k hk
    have hnth : nth L k = z0.getD k ByteArray.empty := by
      unfold nth
      rw [hL, List.getD_eq_getElem?_getD, List.getElem?_map, List.getElem?_range hk]
      exact Lib.mk_data _
    refine ⟨b, off, e, hb, hc.trans ?_⟩
    show some (Value.string _) = some (Value.string (nth L k))
    rw [hnth])
  obtain ⟨_, hcap, _⟩ := isStrs_cap h0
  clear h0 hL
  rcases Nat.lt_or_ge 20 n0 with hl | hl
  · have q0 : (20 : Int) < (n0 : Int) := by omega
    clear hl
    go_enter Try.func6, Try.ntmps6
    go_wp2_with fail
    refine (alive_any w gl).mono ?_
    rintro e w1 ⟨rfl, hk⟩
    have HK1 := Lib.hid hk
    clear hk
    go_wp2_with fail
    go_ret
    exact ⟨rfl, HK1.out.below0 (fun _ h => h.elim)⟩
  have q0 : ¬ (20 : Int) < (n0 : Int) := by omega
  rcases Nat.lt_or_ge 20 a1.size with hl1 | hl1
  · have qa : (20 : Int) < (a1.size : Int) := by omega
    clear hl1
    go_enter Try.func6, Try.ntmps6
    go_wp2_with fail
    refine (alive_any w gl).mono ?_
    rintro e w1 ⟨rfl, hk⟩
    have HK1 := Lib.hid hk
    clear hk
    go_wp2_with fail
    go_ret
    exact ⟨rfl, HK1.out.below0 (fun _ h => h.elim)⟩
  have qa : ¬ (20 : Int) < (a1.size : Int) := by omega
  rcases Nat.lt_or_ge 20 a2.size with hl2 | hl2
  · have qb : (20 : Int) < (a2.size : Int) := by omega
    clear hl2
    go_enter Try.func6, Try.ntmps6
    go_wp2_with fail
    refine (alive_any w gl).mono ?_
    rintro e w1 ⟨rfl, hk⟩
    have HK1 := Lib.hid hk
    clear hk
    go_wp2_with fail
    go_ret
    exact ⟨rfl, HK1.out.below0 (fun _ h => h.elim)⟩
  have qb : ¬ (20 : Int) < (a2.size : Int) := by omega
  cases he1 : a1.data.toList with
  | nil =>
    obtain ⟨u1, u2⟩ := ba_empty he1
    clear he1
    go_enter Try.func6, Try.ntmps6
    go_wp2_with fail
    refine (alive_any w gl).mono ?_
    rintro e w1 ⟨rfl, hk⟩
    have HK1 := Lib.hid hk
    clear hk
    go_wp2_with fail
    go_ret
    exact ⟨rfl, HK1.out.below0 (fun _ h => h.elim)⟩
  | cons x1 y1 =>
  obtain ⟨u1, u2⟩ := ba_full (s := a1) (by rw [he1]; simp)
  clear he1
  cases he2 : a2.data.toList with
  | nil =>
    obtain ⟨u3, u4⟩ := ba_empty he2
    clear he2
    go_enter Try.func6, Try.ntmps6
    go_wp2_with fail
    refine (alive_any w gl).mono ?_
    rintro e w1 ⟨rfl, hk⟩
    have HK1 := Lib.hid hk
    clear hk
    go_wp2_with fail
    go_ret
    exact ⟨rfl, HK1.out.below0 (fun _ h => h.elim)⟩
  | cons x2 y2 =>
  obtain ⟨u3, u4⟩ := ba_full (s := a2) (by rw [he2]; simp)
  clear he2
  obtain ⟨ALL, hA⟩ : ∃ ALL, ALL = L ++ [a1.data.toList, a2.data.toList] := ⟨_, rfl⟩
  have HA := Lib.hid hA
  clear hA
  rcases Nat.eq_zero_or_pos n0 with hz | hz
  · subst hz
    have HAL := Lib.hid (show 2 = ALL.length by rw [HA.out, List.length_append, HLN.out]; rfl)
    go_enter Try.func6, Try.ntmps6
    go_wp2_with fail
    refine (alive_any w gl).mono ?_
    rintro e w1 ⟨rfl, hk⟩
    have HK1 := Lib.hid hk
    clear hk
    go_wp2_with (first | (at_builtin; refine wpList_append_none rfl (.const (.slice none 0 0)) (.tmp 47) _ rfl 9 i0 Try.underlying37 hi0 none 0 0 rfl (Nat.le_refl _) a0 c0 rfl ?_) | (at_builtin; refine wpList_append_lies _ rfl (.tmp 48) (.tmp 51) _ rfl 0 9 i0 _ 1 16 Try.underlying37 hi0 hz0 hz1 hz2 rfl (by omega) (.slice none 0 0) 0 [] rfl (World.ownsRow_nil _ _ _ _) ⟨w1.heap.size, 0, none⟩ 2 2 [.string a1, .string a2] rfl rfl (World.news_of_block (cs := #[.string a1, .string a2]) (t := 9) (fr := (0, 0)) (heap_alloc_new w1 _)) (by simp [Value.oneCell']) (by omega) (by unfold maxLen; omega) (by omega) (by simp) (w1.heap.size + 1) (by simp) ?_; intro g cap w3 hown3 hgrow3 hat3 hlt3; simp only [Nat.zero_add, List.nil_append] at hown3 ⊢))
    have HCE := Lib.hid (show ∀ i, i < 2 → w3.cell? ⟨g, i, none⟩ = some (.string (nth ALL i)) from fun i hi => by
      have hc := hown3.cellAt i (by omega)
      rw [hc]
      have hL0 : L = [] := List.eq_nil_of_length_eq_zero HLN.out
      unfold nth
      rw [HA.out, hL0]
      obtain rfl | rfl : i = 0 ∨ i = 1 := by omega
      · rfl
      · rfl)
    have HK3 := Lib.hid (show Keeps (fun k => w.heap.size ≤ k) w w3 from (HK1.out.mono fun _ _ h => h.elim).trans (((Keeps.refl (fun _ => False) w1).alloc _).grown hgrow3 (fun k hk _ => (by cases hk))) (fun _ _ h => h.elim))
    clear hown3 hgrow3 hat3
    go_loopw [11] (fun i' wr => ∃ i : Nat, i' = .int .i64 i ∧ i ≤ 2 ∧ Hid (∀ j, j < i → okW (ALL.getD j [])) ∧ w3 = wr) (fun i' _ => 2 - (intOf i').toNat)
    case atStart => exact ⟨0, rfl, Nat.zero_le _, Lib.hid (fun j hj => absurd hj (Nat.not_lt_zero _)), rfl⟩
    case round =>
      obtain ⟨i, rfl, hi, HI, hw⟩ := hrel
      subst hw
      rcases Nat.lt_or_ge i (2) with hlt | hge
      · have p1 : (i : Int) < ((2 : Nat) : Int) := by omega
        obtain ⟨s, hs⟩ : ∃ s, s = nth ALL i := ⟨_, rfl⟩
        have hcs := HCE.out i hlt
        rw [← hs] at hcs
        have HSD := Lib.hid (show s.data.toList = ALL.getD i [] by rw [hs]; rfl)
        clear hs
        cases hsl : s.data.toList with
        | nil =>
          obtain ⟨u1, u2⟩ := ba_empty hsl
          clear hsl
          go_wp2_with fail
          go_ret
          exact ⟨rfl, HK3.out.below0 (fun _ h => h)⟩
        | cons ch ct =>
          obtain ⟨u1, u2⟩ := ba_full (s := s) (by rw [hsl]; simp)
          have HNE := Lib.hid (show s.data.toList ≠ [] by rw [hsl]; simp)
          clear hsl
          rcases Nat.lt_or_ge 40 s.size with h40 | h40
          · have q1 : (40 : Int) < (s.size : Int) := by omega
            go_wp2_with fail
            go_ret
            exact ⟨rfl, HK3.out.below0 (fun _ h => h)⟩
          have q1 : ¬ (40 : Int) < (s.size : Int) := by omega
          go_wp2_with fail
          go_loopw [12] (fun k' wr => ∃ k : Nat, k' = .int .i64 k ∧ k ≤ s.size ∧ Hid (∀ j, j < k → swC (byteAt s j) = true) ∧ w3 = wr) (fun k' _ => s.size - (intOf k').toNat)
          case atStart => exact ⟨0, rfl, Nat.zero_le _, Lib.hid (fun j hj => absurd hj (Nat.not_lt_zero _)), rfl⟩
          case round =>
            obtain ⟨k, rfl, hk, HKC, hw⟩ := hrel
            subst hw
            rcases Nat.lt_or_ge k s.size with hkl | hkg
            · have p2 : (k : Int) < (s.size : Int) := by omega
              have hb := byteAt_in hkl
              obtain ⟨c, hc⟩ : ∃ c, c = byteAt s k := ⟨_, rfl⟩
              rw [← hc] at hb
              have HX := Lib.hid hc
              clear hc
              have hcl : (97 ≤ c.toNat ∧ c.toNat ≤ 122) ∨ c.toNat = 46 ∨ (c.toNat < 97 ∧ c.toNat ≠ 46) ∨ 122 < c.toNat := by omega
              rcases hcl with hcl | hcl | hcl | hcl
              · have r0 : (97 : Int) ≤ (c.toNat : Int) := by omega
                have r1 : (c.toNat : Int) ≤ 122 := by omega
                have r2 : ((c.toNat : Int) != 46) = true := by rw [bne_iff_ne]; omega
                have HC := Lib.hid (show swC c = true by unfold swC; simp only [Bool.or_eq_true, Bool.and_eq_true, decide_eq_true_eq, beq_iff_eq]; omega)
                clear hcl
                go_wp2_with fail
                go_roundw
                case rel => exact ⟨k + 1, by go_num, by omega, Lib.hid (fun j hj => by
                  rcases Nat.lt_or_ge j k with h | h
                  · exact HKC.out j h
                  · obtain rfl : j = k := by omega
                    rw [← HX.out]; exact HC.out), by first | rfl | trivial⟩
                case measure => simp [intOf]; omega
              · have r0 : ¬ (97 : Int) ≤ (c.toNat : Int) := by omega
                have r1 : (c.toNat : Int) ≤ 122 := by omega
                have r2 : ((c.toNat : Int) != 46) = false := by rw [bne_eq_false_iff_eq]; omega
                have HC := Lib.hid (show swC c = true by unfold swC; simp only [Bool.or_eq_true, Bool.and_eq_true, decide_eq_true_eq, beq_iff_eq]; omega)
                clear hcl
                go_wp2_with fail
                go_roundw
                case rel => exact ⟨k + 1, by go_num, by omega, Lib.hid (fun j hj => by
                  rcases Nat.lt_or_ge j k with h | h
                  · exact HKC.out j h
                  · obtain rfl : j = k := by omega
                    rw [← HX.out]; exact HC.out), by first | rfl | trivial⟩
                case measure => simp [intOf]; omega
              · have r0 : ¬ (97 : Int) ≤ (c.toNat : Int) := by omega
                have r1 : (c.toNat : Int) ≤ 122 := by omega
                have r2 : ((c.toNat : Int) != 46) = true := by rw [bne_iff_ne]; omega
                clear hcl
                go_wp2_with fail
                go_ret
                exact ⟨rfl, HK3.out.below0 (fun _ h => h)⟩
              · have r0 : (97 : Int) ≤ (c.toNat : Int) := by omega
                have r1 : ¬ (c.toNat : Int) ≤ 122 := by omega
                have r2 : ((c.toNat : Int) != 46) = true := by rw [bne_iff_ne]; omega
                clear hcl
                go_wp2_with fail
                go_ret
                exact ⟨rfl, HK3.out.below0 (fun _ h => h)⟩
            · obtain rfl : k = s.size := by omega
              have p2 : ¬ (s.size : Int) < (s.size : Int) := by omega
              have HW := Lib.hid (show okW (ALL.getD i []) from by
                rw [← HSD.out]
                refine ⟨HNE.out, by rw [← Lib.size_eq]; exact h40, fun c hc => ?_⟩
                obtain ⟨j, hj⟩ := List.mem_iff_getElem?.1 hc
                have h2 := HKC.out j (by rw [Lib.size_eq]; exact (List.getElem?_eq_some_iff.1 hj).1)
                unfold byteAt at h2
                rw [List.getD_eq_getElem?_getD, hj] at h2
                exact h2)
              clear hkg
              go_wp2_with fail
              go_roundw
              case rel => exact ⟨i + 1, by go_num, by omega, Lib.hid (fun j hj => by
                rcases Nat.lt_or_ge j i with h | h
                · exact HI.out j h
                · obtain rfl : j = i := by omega
                  exact HW.out), by first | rfl | trivial⟩
              case measure => simp [intOf]; omega
      · obtain rfl : i = 2 := by omega
        have p1 : ¬ (((2 : Nat)) : Int) < ((2 : Nat) : Int) := by omega
        have HOK := Lib.hid (show (∀ x ∈ L, okW x) ∧ okW a1.data.toList ∧ okW a2.data.toList from by
          have hall : ∀ x ∈ ALL, okW x := fun x hx => by
            obtain ⟨j, hj⟩ := List.mem_iff_getElem?.1 hx
            have h2 := HI.out j (by rw [HAL.out]; exact (List.getElem?_eq_some_iff.1 hj).1)
            rw [List.getD_eq_getElem?_getD, hj] at h2
            exact h2
          rw [HA.out] at hall
          exact ⟨fun x hx => hall x (List.mem_append_left _ hx), hall _ (List.mem_append_right _ (List.mem_cons_self ..)), hall _ (List.mem_append_right _ (List.mem_cons_of_mem _ (List.mem_cons_self ..)))⟩)
        clear hge HI
        have HRL3 := Lib.hid (show Reads w3 a0 0 (fun k => .string (nth L k)) from reads_keep HRL.out HK3.out)
        have HNZ := Lib.hid (show ∀ k, (nth L k).size ≤ 1000000000000000 from fun k => by
          unfold nth
          rw [Lib.size_eq]
          show (L.getD k []).length ≤ _
          rw [List.getD_eq_getElem?_getD]
          cases hk : L[k]? with
          | none => exact Nat.zero_le _
          | some y =>
            have := (HOK.out.1 y (List.mem_of_getElem? hk)).2.1
            show y.length ≤ _
            omega)
        cases a3 with
        | false =>
          go_wp2_with fail
          refine (refSwapOwn_any a0 0 c0 (nth L) a1 a2 _ (by omega) HNZ.out (by omega) (by omega) HRL3.out).mono ?_
          rintro e w4 ⟨u, rfl, hown4, hb4⟩
          have HW0 := Lib.hid (show w4.ownsRow w3.heap.size 9 1 u 0 ((L.map (swapOne a1.data.toList a2.data.toList)).map strV) from by
            have h := hown4
            rw [← HLN.out, strCells_map L (swapB a1 a2) (swapOne a1.data.toList a2.data.toList) (fun x => swapB_one a1 a2 x), HLN.out] at h
            exact h)
          have HB4 := Lib.hid hb4
          obtain ⟨ua, un, uc, rfl⟩ : ∃ (a : Option Addr) (n c : Nat), u = .slice a n c := by
            rcases row_forms HW0.out with ⟨h, _⟩ | ⟨g, cap, h⟩
            · exact ⟨_, _, _, h⟩
            · exact ⟨_, _, _, h⟩
          clear hown4 hb4
          have HKW := Lib.hid (show Keeps (fun k => w.heap.size ≤ k) w w4 from HK3.out.trans (Keeps.of_below HB4.out (fun k => w3.heap.size ≤ k)) (fun b hb e => by have := HK3.out.size; omega))
          have HRL4 := Lib.hid (show Reads w4 a0 0 (fun k => .string (nth L k)) from reads_keep HRL.out HKW.out)
          have HWR := Lib.hid (show w4.ownsRow w3.heap.size 9 1 (.slice ua un uc) (L.map (wantW false a1.data.toList a2.data.toList)).length ((L.map (wantW false a1.data.toList a2.data.toList)).map strV) from by
              rw [List.length_map, HLN.out]
              exact HW0.out)
          obtain ⟨V, hV⟩ : ∃ V : ByteArray, V = ⟨(joinF L).toArray⟩ := ⟨_, rfl⟩
          have HV := Lib.hid (show strV (joinF L) = .string V by rw [hV]; rfl)
          have HVD := Lib.hid (show V.data.toList = joinF L by rw [hV])
          have hVs : V.size ≤ 20 * 41 := by
            rw [Lib.size_eq, HVD.out]
            exact Nat.le_trans (joinF_len 40 L fun x hx => (HOK.out.1 x hx).2.1) (Nat.mul_le_mul_right _ (by rw [HLN.out]; omega))
          obtain ⟨Y, hY⟩ : ∃ Y : ByteArray, Y = ⟨(joinF (L.map (wantW false a1.data.toList a2.data.toList))).toArray⟩ := ⟨_, rfl⟩
          have HY := Lib.hid (show strV (joinF (L.map (wantW false a1.data.toList a2.data.toList))) = .string Y by rw [hY]; rfl)
          obtain ⟨S, hS⟩ : ∃ S, S = (⟨#[36, 40, 120, 58]⟩ : ByteArray) ++ (a1) ++ ⟨#[61]⟩ ++ (a2) ++ ⟨#[41]⟩ := ⟨_, rfl⟩
          obtain ⟨Q, hQ⟩ : ∃ Q, Q = (⟨#[32]⟩ : ByteArray) ++ V ++ ⟨#[32]⟩ := ⟨_, rfl⟩
          have HS := Lib.hid hS
          have HQ := Lib.hid hQ
          have HQD := Lib.hid (show Q.data.toList = [32] ++ joinF L ++ [32] by rw [hQ, ba_append, ba_append, HVD.out])
          have hSs : S.size ≤ 100 := by rw [hS]; simp only [ba_size]; show 4 + a1.size + 1 + a2.size + 1 ≤ _; omega
          have HX0 := Lib.hid (show ∀ (W : World) (b : Nat) (T : TypeId), Gl W → W.heap[b]? = some (.cells #[.string ⟨#[120]⟩, .string Q] T (0, 0)) → Calls Try.prog 13 #[.string S, .slice (some ⟨b, 0, none⟩) 1 1, .slice none 0 0] W (ExpPost W (.ok (joinF (L.map (wantW false a1.data.toList a2.data.toList))))) from fun W b T hg hb => by
            have hp : PairsAt W (fun _ => True) (.slice (some ⟨b, 0, none⟩) 1 1) [([120], [32] ++ joinF L ++ [32])] := pairs_block hb (pairs_lit (by
              show [_, _] = [strV _, strV _]
              rw [strV_of HQD.out]; rfl)) rfl (by simp)
            have hx := expand_any S (.slice (some ⟨b, 0, none⟩) 1 1) (.slice none 0 0) [([120], [32] ++ joinF L ++ [32])] [] W (by omega) hp (PairsAt.nil _ _) ⟨small_of fun q hq => by
              obtain rfl := List.mem_singleton.1 hq
              show ([32] ++ joinF L ++ [32]).length ≤ 3000
              rw [← HVD.out]
              simp only [List.length_append, List.length_singleton, ← Lib.size_eq]
              omega, small_nil⟩ hg
            rw [show expandF [([120], [32] ++ joinF L ++ [32])] [] S.data.toList = .ok (joinF (L.map (wantW false a1.data.toList a2.data.toList))) by
              rw [HS.out]
              simp only [ba_append]
              exact swaps_text false HOK.out.1 HOK.out.2.1 HOK.out.2.2 (by rw [HLN.out]; omega)] at hx
            exact hx)
          have hbq : (Y.toList == Y.toList) = true := beq_self_eq_true _
          clear hV hY hS hQ
          go_wp2_with fail
          refine (list_any a0 0 c0 L _ HRL4.out HLN.out.symm (fun x hx => by have := (HOK.out.1 x hx).2.1; omega) (by omega)).mono ?_
          rintro e w5 ⟨rfl, hw5⟩
          rw [hw5, HV.out]
          clear hw5
          go_wp2_with fail
          rw [← HS.out, ← HQ.out]
          refine (HX0.out _ _ _ (gl_keep gl (HKW.out.alloc _)) (heap_alloc_new _ _)).mono ?_
          rintro e w6 ⟨rfl, hk6⟩
          have HK6 := Lib.hid (show Keeps (fun _ => False) w4 w6 from ((Keeps.refl _ _).alloc _).trans hk6 (fun _ _ h => h))
          rw [HY.out]
          clear hk6
          go_wp2_with fail
          refine (num_any 0 _).mono ?_
          rintro e w7 ⟨rfl, hwn⟩
          rw [hwn]
          clear hwn
          go_wp2_with fail
          refine (list_own (.slice ua un uc) _ w3.heap.size _ (ownsRow_keep HWR.out HK6.out (fun _ _ h => h)) (fun x hx => by
            obtain ⟨y, hy, rfl⟩ := List.mem_map.1 hx
            have h1 := (HOK.out.1 y hy).2.1
            have h2 := HOK.out.2.2.2.1
            unfold wantW swapOne
            split
            · omega
            · split
              · simp; omega
              · omega) (by rw [List.length_map, HLN.out]; omega)).mono ?_
          rintro e w8 ⟨rfl, hw8⟩
          rw [hw8, HY.out]
          clear hw8
          go_wp2_with fail
          go_ret
          exact ⟨rfl, (HKW.out.trans HK6.out (fun _ _ h => h.elim)).below0 (fun _ h => h)⟩
        | true =>
          go_wp2_with fail
          refine (refSwapOwn_any a0 0 c0 (nth L) a1 a2 _ (by omega) HNZ.out (by omega) (by omega) HRL3.out).mono ?_
          rintro e w4 ⟨u, rfl, hown4, hb4⟩
          have HW0 := Lib.hid (show w4.ownsRow w3.heap.size 9 1 u 0 ((L.map (swapOne a1.data.toList a2.data.toList)).map strV) from by
            have h := hown4
            rw [← HLN.out, strCells_map L (swapB a1 a2) (swapOne a1.data.toList a2.data.toList) (fun x => swapB_one a1 a2 x), HLN.out] at h
            exact h)
          have HB4 := Lib.hid hb4
          clear hown4 hb4
          obtain ⟨ua, un, uc, rfl⟩ : ∃ (a : Option Addr) (n c : Nat), u = .slice a n c := by
            rcases row_forms HW0.out with ⟨h, _⟩ | ⟨g, cap, h⟩
            · exact ⟨_, _, _, h⟩
            · exact ⟨_, _, _, h⟩
          have HL0 := Lib.hid (show L = [] from List.eq_nil_of_length_eq_zero HLN.out)
          go_wp2_with fail
          go_loopw [17] (fun i' wr => i' = .int .i64 0 ∧ w4 = wr) (fun _ _ => 0)
          case atStart => exact ⟨rfl, rfl⟩
          case round =>
            obtain ⟨rfl, hw⟩ := hrel
            subst hw
            have HKW := Lib.hid (show Keeps (fun k => w.heap.size ≤ k) w w4 from HK3.out.trans (Keeps.of_below HB4.out (fun k => w3.heap.size ≤ k)) (fun b hb e => by have := HK3.out.size; omega))
            have HRL4 := Lib.hid (show Reads w4 a0 0 (fun k => .string (nth L k)) from reads_keep HRL.out HKW.out)
            have HWR := Lib.hid (show w4.ownsRow w3.heap.size 9 1 (.slice ua un uc) (L.map (wantW true a1.data.toList a2.data.toList)).length ((L.map (wantW true a1.data.toList a2.data.toList)).map strV) from by
                have h := HW0.out
                rw [HL0.out] at h ⊢
                exact h)
            obtain ⟨V, hV⟩ : ∃ V : ByteArray, V = ⟨(joinF L).toArray⟩ := ⟨_, rfl⟩
            have HV := Lib.hid (show strV (joinF L) = .string V by rw [hV]; rfl)
            have HVD := Lib.hid (show V.data.toList = joinF L by rw [hV])
            have hVs : V.size ≤ 20 * 41 := by
              rw [Lib.size_eq, HVD.out]
              exact Nat.le_trans (joinF_len 40 L fun x hx => (HOK.out.1 x hx).2.1) (Nat.mul_le_mul_right _ (by rw [HLN.out]; omega))
            obtain ⟨Y, hY⟩ : ∃ Y : ByteArray, Y = ⟨(joinF (L.map (wantW true a1.data.toList a2.data.toList))).toArray⟩ := ⟨_, rfl⟩
            have HY := Lib.hid (show strV (joinF (L.map (wantW true a1.data.toList a2.data.toList))) = .string Y by rw [hY]; rfl)
            obtain ⟨S, hS⟩ : ∃ S, S = (⟨#[36, 40, 120, 58]⟩ : ByteArray) ++ ((⟨#[37]⟩ : ByteArray) ++ a1) ++ ⟨#[61]⟩ ++ ((⟨#[37]⟩ : ByteArray) ++ a2) ++ ⟨#[41]⟩ := ⟨_, rfl⟩
            obtain ⟨Q, hQ⟩ : ∃ Q, Q = (⟨#[32]⟩ : ByteArray) ++ V ++ ⟨#[32]⟩ := ⟨_, rfl⟩
            have HS := Lib.hid hS
            have HQ := Lib.hid hQ
            have HQD := Lib.hid (show Q.data.toList = [32] ++ joinF L ++ [32] by rw [hQ, ba_append, ba_append, HVD.out])
            have hSs : S.size ≤ 100 := by rw [hS]; simp only [ba_size]; show 4 + (1 + a1.size) + 1 + (1 + a2.size) + 1 ≤ _; omega
            have HX0 := Lib.hid (show ∀ (W : World) (b : Nat) (T : TypeId), Gl W → W.heap[b]? = some (.cells #[.string ⟨#[120]⟩, .string Q] T (0, 0)) → Calls Try.prog 13 #[.string S, .slice (some ⟨b, 0, none⟩) 1 1, .slice none 0 0] W (ExpPost W (.ok (joinF (L.map (wantW true a1.data.toList a2.data.toList))))) from fun W b T hg hb => by
              have hp : PairsAt W (fun _ => True) (.slice (some ⟨b, 0, none⟩) 1 1) [([120], [32] ++ joinF L ++ [32])] := pairs_block hb (pairs_lit (by
                show [_, _] = [strV _, strV _]
                rw [strV_of HQD.out]; rfl)) rfl (by simp)
              have hx := expand_any S (.slice (some ⟨b, 0, none⟩) 1 1) (.slice none 0 0) [([120], [32] ++ joinF L ++ [32])] [] W (by omega) hp (PairsAt.nil _ _) ⟨small_of fun q hq => by
                obtain rfl := List.mem_singleton.1 hq
                show ([32] ++ joinF L ++ [32]).length ≤ 3000
                rw [← HVD.out]
                simp only [List.length_append, List.length_singleton, ← Lib.size_eq]
                omega, small_nil⟩ hg
              rw [show expandF [([120], [32] ++ joinF L ++ [32])] [] S.data.toList = .ok (joinF (L.map (wantW true a1.data.toList a2.data.toList))) by
                rw [HS.out]
                simp only [ba_append]
                exact swaps_text true HOK.out.1 HOK.out.2.1 HOK.out.2.2 (by rw [HLN.out]; omega)] at hx
              exact hx)
            have hbq : (Y.toList == Y.toList) = true := beq_self_eq_true _
            clear hV hY hS hQ
            go_wp2_with fail
            refine (list_any a0 0 c0 L _ HRL4.out HLN.out.symm (fun x hx => by have := (HOK.out.1 x hx).2.1; omega) (by omega)).mono ?_
            rintro e w5 ⟨rfl, hw5⟩
            rw [hw5, HV.out]
            clear hw5
            go_wp2_with fail
            rw [← HS.out, ← HQ.out]
            refine (HX0.out _ _ _ (gl_keep gl (HKW.out.alloc _)) (heap_alloc_new _ _)).mono ?_
            rintro e w6 ⟨rfl, hk6⟩
            have HK6 := Lib.hid (show Keeps (fun _ => False) w4 w6 from ((Keeps.refl _ _).alloc _).trans hk6 (fun _ _ h => h))
            rw [HY.out]
            clear hk6
            go_wp2_with fail
            refine (num_any 0 _).mono ?_
            rintro e w7 ⟨rfl, hwn⟩
            rw [hwn]
            clear hwn
            go_wp2_with fail
            refine (list_own (.slice ua un uc) _ w3.heap.size _ (ownsRow_keep HWR.out HK6.out (fun _ _ h => h)) (fun x hx => by
              obtain ⟨y, hy, rfl⟩ := List.mem_map.1 hx
              have h1 := (HOK.out.1 y hy).2.1
              have h2 := HOK.out.2.2.2.1
              unfold wantW swapOne
              split
              · omega
              · split
                · simp; omega
                · omega) (by rw [List.length_map, HLN.out]; omega)).mono ?_
            rintro e w8 ⟨rfl, hw8⟩
            rw [hw8, HY.out]
            clear hw8
            go_wp2_with fail
            go_ret
            exact ⟨rfl, (HKW.out.trans HK6.out (fun _ _ h => h.elim)).below0 (fun _ h => h)⟩
  · have HAL := Lib.hid (show n0 + 2 = ALL.length by rw [HA.out, List.length_append, HLN.out]; rfl)
    obtain ⟨ab, ao, ha0, hab⟩ : ∃ b off, a0 = some ⟨b, off, none⟩ ∧ b < w.heap.size := by
      obtain ⟨b, off, e, hb, _⟩ := HRL.out 0 hz
      exact ⟨b, off, e, hb⟩
    subst ha0
    have HNC := Lib.hid (show ∀ (W : World), Keeps (fun k => w.heap.size ≤ k) w W → ∀ j u, (L.map strV)[j]? = some u → W.cell? ((⟨ab, ao, none⟩ : Addr).add j) = some u from fun W hW j u hu => by
      have hj : j < n0 := by rw [← HLN.out]; have := (List.getElem?_eq_some_iff.1 hu).1; simpa using this
      obtain ⟨b, off, e, hb, hc⟩ := HRL.out j hj
      obtain ⟨rfl, rfl⟩ : ab = b ∧ ao = off := by injection e with e; injection e with e1 e2; exact ⟨e1, e2⟩
      rw [Go.WideShapes.add_plain, World.cell?_of_block (hW.block ab hb (by omega)), hc]
      rw [← strCells_nth, HLN.out, strCells_at hj] at hu
      exact hu)
    go_enter Try.func6, Try.ntmps6
    go_wp2_with fail
    refine (alive_any w gl).mono ?_
    rintro e w1 ⟨rfl, hk⟩
    have HK1 := Lib.hid hk
    clear hk
    have HKK := Lib.hid (show Keeps (fun k => w.heap.size ≤ k) w w1 from HK1.out.mono fun _ _ h => h.elim)
    have hL1 : (L.map strV).length = n0 * 1 := by rw [List.length_map, HLN.out, Nat.mul_one]
    have hL2 : ∀ u ∈ L.map strV, u.oneCell' = true := fun u hu => by obtain ⟨y, _, rfl⟩ := List.mem_map.1 hu; rfl
    go_wp2_with (first | (at_builtin; refine wpList_append_lies _ rfl (.const (.slice none 0 0)) (.tmp 47) _ rfl 0 9 i0 _ 1 16 Try.underlying37 hi0 hz0 hz1 hz2 rfl (by omega) (.slice none 0 0) 0 [] rfl (World.ownsRow_nil _ _ _ _) ⟨ab, ao, none⟩ n0 c0 (L.map strV) rfl hL1 (HNC.out w1 HKK.out) hL2 hz (by unfold maxLen; omega) (by omega) (by simp) w1.heap.size rfl ?_; intro g1 cap1 w2 hown2 hgrow2 hat2 hlt2; simp only [Nat.zero_add, List.nil_append] at hown2 ⊢) | (at_builtin; refine wpList_append_lies _ rfl (.tmp 48) (.tmp 51) _ rfl 0 9 i0 _ 1 16 Try.underlying37 hi0 hz0 hz1 hz2 rfl (by omega) (.slice (some ⟨g1, 0, none⟩) n0 cap1) n0 (L.map strV) rfl (hown2.alloc _) ⟨w2.heap.size, 0, none⟩ 2 2 [.string a1, .string a2] rfl rfl (World.news_of_block (cs := #[.string a1, .string a2]) (t := 9) (fr := (0, 0)) (heap_alloc_new w2 _)) (by simp [Value.oneCell']) (by omega) (by unfold maxLen; omega) (by omega) (by simp) (w2.heap.size + 1) (by simp) ?_; intro g cap w3 hown3 hgrow3 hat3 hlt3))
    have hg1 : w1.heap.size ≤ g1 := by
      rcases hat2 with e | e
      · cases e
      · omega
    have HCE := Lib.hid (show ∀ i, i < n0 + 2 → w3.cell? ⟨g, i, none⟩ = some (.string (nth ALL i)) from fun i hi => by
      have hc := hown3.cellAt i (by omega)
      rw [hc]
      have hh : (L.map strV ++ [.string a1, .string a2]) = ALL.map strV := by
        rw [HA.out, List.map_append]
        show _ = _ ++ [strV _, strV _]
        rw [strV_of (s := a1) rfl, strV_of (s := a2) rfl]
      rw [hh, ← strCells_nth, ← HAL.out, strCells_at hi])
    have HK3 := Lib.hid (show Keeps (fun k => w.heap.size ≤ k) w w3 from (HKK.out.trans ((Keeps.refl (fun _ => False) w1).grown hgrow2 (fun k hk _ => (by cases hk))) (fun _ _ h => h.elim)).trans (((Keeps.refl (fun b => g1 = b) w2).alloc _).grown hgrow3 (fun k hk _ => Option.some.inj hk)) (fun b _ e => by have := HK1.out.size; omega))
    clear hown3 hgrow3 hat3 hown2 hgrow2 hat2 hL1 hL2
    go_loopw [11] (fun i' wr => ∃ i : Nat, i' = .int .i64 i ∧ i ≤ n0 + 2 ∧ Hid (∀ j, j < i → okW (ALL.getD j [])) ∧ w3 = wr) (fun i' _ => n0 + 2 - (intOf i').toNat)
    case atStart => exact ⟨0, rfl, Nat.zero_le _, Lib.hid (fun j hj => absurd hj (Nat.not_lt_zero _)), rfl⟩
    case round =>
      obtain ⟨i, rfl, hi, HI, hw⟩ := hrel
      subst hw
      rcases Nat.lt_or_ge i (n0 + 2) with hlt | hge
      · have p1 : (i : Int) < ((n0 + 2 : Nat) : Int) := by omega
        obtain ⟨s, hs⟩ : ∃ s, s = nth ALL i := ⟨_, rfl⟩
        have hcs := HCE.out i hlt
        rw [← hs] at hcs
        have HSD := Lib.hid (show s.data.toList = ALL.getD i [] by rw [hs]; rfl)
        clear hs
        cases hsl : s.data.toList with
        | nil =>
          obtain ⟨u1, u2⟩ := ba_empty hsl
          clear hsl
          go_wp2_with fail
          go_ret
          exact ⟨rfl, HK3.out.below0 (fun _ h => h)⟩
        | cons ch ct =>
          obtain ⟨u1, u2⟩ := ba_full (s := s) (by rw [hsl]; simp)
          have HNE := Lib.hid (show s.data.toList ≠ [] by rw [hsl]; simp)
          clear hsl
          rcases Nat.lt_or_ge 40 s.size with h40 | h40
          · have q1 : (40 : Int) < (s.size : Int) := by omega
            go_wp2_with fail
            go_ret
            exact ⟨rfl, HK3.out.below0 (fun _ h => h)⟩
          have q1 : ¬ (40 : Int) < (s.size : Int) := by omega
          go_wp2_with fail
          go_loopw [12] (fun k' wr => ∃ k : Nat, k' = .int .i64 k ∧ k ≤ s.size ∧ Hid (∀ j, j < k → swC (byteAt s j) = true) ∧ w3 = wr) (fun k' _ => s.size - (intOf k').toNat)
          case atStart => exact ⟨0, rfl, Nat.zero_le _, Lib.hid (fun j hj => absurd hj (Nat.not_lt_zero _)), rfl⟩
          case round =>
            obtain ⟨k, rfl, hk, HKC, hw⟩ := hrel
            subst hw
            rcases Nat.lt_or_ge k s.size with hkl | hkg
            · have p2 : (k : Int) < (s.size : Int) := by omega
              have hb := byteAt_in hkl
              obtain ⟨c, hc⟩ : ∃ c, c = byteAt s k := ⟨_, rfl⟩
              rw [← hc] at hb
              have HX := Lib.hid hc
              clear hc
              have hcl : (97 ≤ c.toNat ∧ c.toNat ≤ 122) ∨ c.toNat = 46 ∨ (c.toNat < 97 ∧ c.toNat ≠ 46) ∨ 122 < c.toNat := by omega
              rcases hcl with hcl | hcl | hcl | hcl
              · have r0 : (97 : Int) ≤ (c.toNat : Int) := by omega
                have r1 : (c.toNat : Int) ≤ 122 := by omega
                have r2 : ((c.toNat : Int) != 46) = true := by rw [bne_iff_ne]; omega
                have HC := Lib.hid (show swC c = true by unfold swC; simp only [Bool.or_eq_true, Bool.and_eq_true, decide_eq_true_eq, beq_iff_eq]; omega)
                clear hcl
                go_wp2_with fail
                go_roundw
                case rel => exact ⟨k + 1, by go_num, by omega, Lib.hid (fun j hj => by
                  rcases Nat.lt_or_ge j k with h | h
                  · exact HKC.out j h
                  · obtain rfl : j = k := by omega
                    rw [← HX.out]; exact HC.out), by first | rfl | trivial⟩
                case measure => simp [intOf]; omega
              · have r0 : ¬ (97 : Int) ≤ (c.toNat : Int) := by omega
                have r1 : (c.toNat : Int) ≤ 122 := by omega
                have r2 : ((c.toNat : Int) != 46) = false := by rw [bne_eq_false_iff_eq]; omega
                have HC := Lib.hid (show swC c = true by unfold swC; simp only [Bool.or_eq_true, Bool.and_eq_true, decide_eq_true_eq, beq_iff_eq]; omega)
                clear hcl
                go_wp2_with fail
                go_roundw
                case rel => exact ⟨k + 1, by go_num, by omega, Lib.hid (fun j hj => by
                  rcases Nat.lt_or_ge j k with h | h
                  · exact HKC.out j h
                  · obtain rfl : j = k := by omega
                    rw [← HX.out]; exact HC.out), by first | rfl | trivial⟩
                case measure => simp [intOf]; omega
              · have r0 : ¬ (97 : Int) ≤ (c.toNat : Int) := by omega
                have r1 : (c.toNat : Int) ≤ 122 := by omega
                have r2 : ((c.toNat : Int) != 46) = true := by rw [bne_iff_ne]; omega
                clear hcl
                go_wp2_with fail
                go_ret
                exact ⟨rfl, HK3.out.below0 (fun _ h => h)⟩
              · have r0 : (97 : Int) ≤ (c.toNat : Int) := by omega
                have r1 : ¬ (c.toNat : Int) ≤ 122 := by omega
                have r2 : ((c.toNat : Int) != 46) = true := by rw [bne_iff_ne]; omega
                clear hcl
                go_wp2_with fail
                go_ret
                exact ⟨rfl, HK3.out.below0 (fun _ h => h)⟩
            · obtain rfl : k = s.size := by omega
              have p2 : ¬ (s.size : Int) < (s.size : Int) := by omega
              have HW := Lib.hid (show okW (ALL.getD i []) from by
                rw [← HSD.out]
                refine ⟨HNE.out, by rw [← Lib.size_eq]; exact h40, fun c hc => ?_⟩
                obtain ⟨j, hj⟩ := List.mem_iff_getElem?.1 hc
                have h2 := HKC.out j (by rw [Lib.size_eq]; exact (List.getElem?_eq_some_iff.1 hj).1)
                unfold byteAt at h2
                rw [List.getD_eq_getElem?_getD, hj] at h2
                exact h2)
              clear hkg
              go_wp2_with fail
              go_roundw
              case rel => exact ⟨i + 1, by go_num, by omega, Lib.hid (fun j hj => by
                rcases Nat.lt_or_ge j i with h | h
                · exact HI.out j h
                · obtain rfl : j = i := by omega
                  exact HW.out), by first | rfl | trivial⟩
              case measure => simp [intOf]; omega
      · obtain rfl : i = n0 + 2 := by omega
        have p1 : ¬ (((n0 + 2 : Nat)) : Int) < ((n0 + 2 : Nat) : Int) := by omega
        have HOK := Lib.hid (show (∀ x ∈ L, okW x) ∧ okW a1.data.toList ∧ okW a2.data.toList from by
          have hall : ∀ x ∈ ALL, okW x := fun x hx => by
            obtain ⟨j, hj⟩ := List.mem_iff_getElem?.1 hx
            have h2 := HI.out j (by rw [HAL.out]; exact (List.getElem?_eq_some_iff.1 hj).1)
            rw [List.getD_eq_getElem?_getD, hj] at h2
            exact h2
          rw [HA.out] at hall
          exact ⟨fun x hx => hall x (List.mem_append_left _ hx), hall _ (List.mem_append_right _ (List.mem_cons_self ..)), hall _ (List.mem_append_right _ (List.mem_cons_of_mem _ (List.mem_cons_self ..)))⟩)
        clear hge HI
        have HRL3 := Lib.hid (show Reads w3 (some ⟨ab, ao, none⟩) n0 (fun k => .string (nth L k)) from reads_keep HRL.out HK3.out)
        have HNZ := Lib.hid (show ∀ k, (nth L k).size ≤ 1000000000000000 from fun k => by
          unfold nth
          rw [Lib.size_eq]
          show (L.getD k []).length ≤ _
          rw [List.getD_eq_getElem?_getD]
          cases hk : L[k]? with
          | none => exact Nat.zero_le _
          | some y =>
            have := (HOK.out.1 y (List.mem_of_getElem? hk)).2.1
            show y.length ≤ _
            omega)
        cases a3 with
        | false =>
          go_wp2_with fail
          refine (refSwapOwn_any (some ⟨ab, ao, none⟩) n0 c0 (nth L) a1 a2 _ (by omega) HNZ.out (by omega) (by omega) HRL3.out).mono ?_
          rintro e w4 ⟨u, rfl, hown4, hb4⟩
          have HW0 := Lib.hid (show w4.ownsRow w3.heap.size 9 1 u n0 ((L.map (swapOne a1.data.toList a2.data.toList)).map strV) from by
            have h := hown4
            rw [← HLN.out, strCells_map L (swapB a1 a2) (swapOne a1.data.toList a2.data.toList) (fun x => swapB_one a1 a2 x), HLN.out] at h
            exact h)
          have HB4 := Lib.hid hb4
          obtain ⟨ua, un, uc, rfl⟩ : ∃ (a : Option Addr) (n c : Nat), u = .slice a n c := by
            rcases row_forms HW0.out with ⟨h, _⟩ | ⟨g, cap, h⟩
            · exact ⟨_, _, _, h⟩
            · exact ⟨_, _, _, h⟩
          clear hown4 hb4
          have HKW := Lib.hid (show Keeps (fun k => w.heap.size ≤ k) w w4 from HK3.out.trans (Keeps.of_below HB4.out (fun k => w3.heap.size ≤ k)) (fun b hb e => by have := HK3.out.size; omega))
          have HRL4 := Lib.hid (show Reads w4 (some ⟨ab, ao, none⟩) n0 (fun k => .string (nth L k)) from reads_keep HRL.out HKW.out)
          have HWR := Lib.hid (show w4.ownsRow w3.heap.size 9 1 (.slice ua un uc) (L.map (wantW false a1.data.toList a2.data.toList)).length ((L.map (wantW false a1.data.toList a2.data.toList)).map strV) from by
              rw [List.length_map, HLN.out]
              exact HW0.out)
          obtain ⟨V, hV⟩ : ∃ V : ByteArray, V = ⟨(joinF L).toArray⟩ := ⟨_, rfl⟩
          have HV := Lib.hid (show strV (joinF L) = .string V by rw [hV]; rfl)
          have HVD := Lib.hid (show V.data.toList = joinF L by rw [hV])
          have hVs : V.size ≤ 20 * 41 := by
            rw [Lib.size_eq, HVD.out]
            exact Nat.le_trans (joinF_len 40 L fun x hx => (HOK.out.1 x hx).2.1) (Nat.mul_le_mul_right _ (by rw [HLN.out]; omega))
          obtain ⟨Y, hY⟩ : ∃ Y : ByteArray, Y = ⟨(joinF (L.map (wantW false a1.data.toList a2.data.toList))).toArray⟩ := ⟨_, rfl⟩
          have HY := Lib.hid (show strV (joinF (L.map (wantW false a1.data.toList a2.data.toList))) = .string Y by rw [hY]; rfl)
          obtain ⟨S, hS⟩ : ∃ S, S = (⟨#[36, 40, 120, 58]⟩ : ByteArray) ++ (a1) ++ ⟨#[61]⟩ ++ (a2) ++ ⟨#[41]⟩ := ⟨_, rfl⟩
          obtain ⟨Q, hQ⟩ : ∃ Q, Q = (⟨#[32]⟩ : ByteArray) ++ V ++ ⟨#[32]⟩ := ⟨_, rfl⟩
          have HS := Lib.hid hS
          have HQ := Lib.hid hQ
          have HQD := Lib.hid (show Q.data.toList = [32] ++ joinF L ++ [32] by rw [hQ, ba_append, ba_append, HVD.out])
          have hSs : S.size ≤ 100 := by rw [hS]; simp only [ba_size]; show 4 + a1.size + 1 + a2.size + 1 ≤ _; omega
          have HX0 := Lib.hid (show ∀ (W : World) (b : Nat) (T : TypeId), Gl W → W.heap[b]? = some (.cells #[.string ⟨#[120]⟩, .string Q] T (0, 0)) → Calls Try.prog 13 #[.string S, .slice (some ⟨b, 0, none⟩) 1 1, .slice none 0 0] W (ExpPost W (.ok (joinF (L.map (wantW false a1.data.toList a2.data.toList))))) from fun W b T hg hb => by
            have hp : PairsAt W (fun _ => True) (.slice (some ⟨b, 0, none⟩) 1 1) [([120], [32] ++ joinF L ++ [32])] := pairs_block hb (pairs_lit (by
              show [_, _] = [strV _, strV _]
              rw [strV_of HQD.out]; rfl)) rfl (by simp)
            have hx := expand_any S (.slice (some ⟨b, 0, none⟩) 1 1) (.slice none 0 0) [([120], [32] ++ joinF L ++ [32])] [] W (by omega) hp (PairsAt.nil _ _) ⟨small_of fun q hq => by
              obtain rfl := List.mem_singleton.1 hq
              show ([32] ++ joinF L ++ [32]).length ≤ 3000
              rw [← HVD.out]
              simp only [List.length_append, List.length_singleton, ← Lib.size_eq]
              omega, small_nil⟩ hg
            rw [show expandF [([120], [32] ++ joinF L ++ [32])] [] S.data.toList = .ok (joinF (L.map (wantW false a1.data.toList a2.data.toList))) by
              rw [HS.out]
              simp only [ba_append]
              exact swaps_text false HOK.out.1 HOK.out.2.1 HOK.out.2.2 (by rw [HLN.out]; omega)] at hx
            exact hx)
          have hbq : (Y.toList == Y.toList) = true := beq_self_eq_true _
          clear hV hY hS hQ
          go_wp2_with fail
          refine (list_any (some ⟨ab, ao, none⟩) n0 c0 L _ HRL4.out HLN.out.symm (fun x hx => by have := (HOK.out.1 x hx).2.1; omega) (by omega)).mono ?_
          rintro e w5 ⟨rfl, hw5⟩
          rw [hw5, HV.out]
          clear hw5
          go_wp2_with fail
          rw [← HS.out, ← HQ.out]
          refine (HX0.out _ _ _ (gl_keep gl (HKW.out.alloc _)) (heap_alloc_new _ _)).mono ?_
          rintro e w6 ⟨rfl, hk6⟩
          have HK6 := Lib.hid (show Keeps (fun _ => False) w4 w6 from ((Keeps.refl _ _).alloc _).trans hk6 (fun _ _ h => h))
          rw [HY.out]
          clear hk6
          go_wp2_with fail
          refine (num_any 0 _).mono ?_
          rintro e w7 ⟨rfl, hwn⟩
          rw [hwn]
          clear hwn
          go_wp2_with fail
          refine (list_own (.slice ua un uc) _ w3.heap.size _ (ownsRow_keep HWR.out HK6.out (fun _ _ h => h)) (fun x hx => by
            obtain ⟨y, hy, rfl⟩ := List.mem_map.1 hx
            have h1 := (HOK.out.1 y hy).2.1
            have h2 := HOK.out.2.2.2.1
            unfold wantW swapOne
            split
            · omega
            · split
              · simp; omega
              · omega) (by rw [List.length_map, HLN.out]; omega)).mono ?_
          rintro e w8 ⟨rfl, hw8⟩
          rw [hw8, HY.out]
          clear hw8
          go_wp2_with fail
          go_ret
          exact ⟨rfl, (HKW.out.trans HK6.out (fun _ _ h => h.elim)).below0 (fun _ h => h)⟩
        | true =>
          go_wp2_with fail
          refine (refSwapOwn_any (some ⟨ab, ao, none⟩) n0 c0 (nth L) a1 a2 _ (by omega) HNZ.out (by omega) (by omega) HRL3.out).mono ?_
          rintro e w4 ⟨u, rfl, hown4, hb4⟩
          have HW0 := Lib.hid (show w4.ownsRow w3.heap.size 9 1 u n0 ((L.map (swapOne a1.data.toList a2.data.toList)).map strV) from by
            have h := hown4
            rw [← HLN.out, strCells_map L (swapB a1 a2) (swapOne a1.data.toList a2.data.toList) (fun x => swapB_one a1 a2 x), HLN.out] at h
            exact h)
          have HB4 := Lib.hid hb4
          clear hown4 hb4
          obtain ⟨g2, cap2, rfl⟩ : ∃ g cap, u = .slice (some ⟨g, 0, none⟩) n0 cap := by
            rcases row_forms HW0.out with ⟨_, h0⟩ | h
            · omega
            · exact h
          have hg2 : w3.heap.size ≤ g2 := (HW0.out.lt g2 rfl).1
          go_wp2_with fail
          go_loopw [17] (fun i' wr => ∃ i : Nat, i' = .int .i64 i ∧ i ≤ n0 ∧ Hid (wr.ownsRow w3.heap.size 9 1 (.slice (some ⟨g2, 0, none⟩) n0 cap2) n0 (((L.map (wantW true a1.data.toList a2.data.toList)).take i ++ (L.map (swapOne a1.data.toList a2.data.toList)).drop i).map strV)) ∧ Hid (Below w3.heap.size w3 wr)) (fun i' _ => n0 - (intOf i').toNat)
          case atStart => exact ⟨0, rfl, Nat.zero_le _, Lib.hid (by rw [List.take_zero, List.nil_append, List.drop_zero]; exact HW0.out), HB4⟩
          case round =>
            obtain ⟨i, rfl, hi, HO, HB5⟩ := hrel
            rcases Nat.lt_or_ge i n0 with hlt | hge
            · have p1 : (i : Int) < (n0 : Int) := by omega
              have hiL : i < L.length := by rw [HLN.out]; exact hlt
              obtain ⟨b, off, ea, hbl, hc⟩ := HRL.out i hlt
              have hb3 : b < w3.heap.size := Nat.lt_of_lt_of_le hbl HK3.out.size
              obtain ⟨x, hx⟩ : ∃ x, x = nth L i := ⟨_, rfl⟩
              have hcx : wr.cell? ⟨b, off + i, none⟩ = some (.string x) := by
                rw [hx]
                refine Eq.trans ?_ hc
                exact (World.cell?_of_block (HB5.out.block b hb3)).trans (World.cell?_of_block (HK3.out.block b hbl (by omega)))
              have hxd : x.data.toList = L[i] := by rw [hx]; unfold nth; rw [List.getD_eq_getElem?_getD, List.getElem?_eq_getElem hiL]; rfl
              have HXD := Lib.hid hxd
              have hfz := HO.out.frozenAt i
              have hcw := HO.out.cellAt i (by omega)
              obtain ⟨old, hold⟩ : ∃ old : Value, wr.cell? ⟨g2, i, none⟩ = some old := by
                rw [hcw]
                exact ⟨_, List.getElem?_eq_getElem (by simp; omega)⟩
              have HEA := Lib.hid ea
              clear hc hx hxd hcw
              cases heq : (x.toList == a1.toList) with
              | false =>
                have HE := Lib.hid (show ¬ L[i] = a1.data.toList from fun e => by
                  rw [Lib.toList_data, Lib.toList_data, HXD.out, e] at heq
                  simp at heq)
                have HN2 := Lib.hid (show (((L.map (wantW true a1.data.toList a2.data.toList)).take i ++ (L.map (swapOne a1.data.toList a2.data.toList)).drop i)) = ((L.map (wantW true a1.data.toList a2.data.toList)).take (i + 1) ++ (L.map (swapOne a1.data.toList a2.data.toList)).drop (i + 1)) from take_same2 (by simp) (by simp; exact hiL) (by
                  rw [List.getElem_map, List.getElem_map]
                  unfold wantW
                  rw [if_neg]
                  rw [Bool.true_and, beq_iff_eq]; exact HE.out))
                obtain ⟨rfl, rfl⟩ : ab = b ∧ ao = off := by injection ea with ea; injection ea with e1 e2; exact ⟨e1, e2⟩
                go_wp2_with fail
                go_roundw
                case rel => exact ⟨i + 1, by go_num, by omega, Lib.hid (by rw [← HN2.out]; exact HO.out), HB5⟩
                case measure => simp [intOf]; omega
              | true =>
                have HE := Lib.hid (show L[i] = a1.data.toList from by
                  rw [Lib.toList_data, Lib.toList_data, HXD.out] at heq
                  exact beq_iff_eq.1 heq)
                have HN2 := Lib.hid (show (wr.setCell ⟨g2, i, none⟩ (.string x)).ownsRow w3.heap.size 9 1 (.slice (some ⟨g2, 0, none⟩) n0 cap2) n0 (((L.map (wantW true a1.data.toList a2.data.toList)).take (i + 1) ++ (L.map (swapOne a1.data.toList a2.data.toList)).drop (i + 1)).map strV) from by
                  have h := (HO.out.stored i (.string x)).1
                  rw [← take_step2 (A := L.map (wantW true a1.data.toList a2.data.toList)) (by simp) (by simp; exact hiL), List.map_set]
                  have hiM : i < (L.map (wantW true a1.data.toList a2.data.toList)).length := by simp; exact hiL
                  rw [show strV (L.map (wantW true a1.data.toList a2.data.toList))[i] = .string x by
                    rw [List.getElem_map]
                    unfold wantW
                    rw [if_pos (by rw [Bool.true_and, beq_iff_eq]; exact HE.out)]
                    exact strV_of HXD.out]
                  exact h)
                have HB6 := Lib.hid (show Below w3.heap.size w3 (wr.setCell ⟨g2, i, none⟩ (.string x)) from HB5.out.setCell (p := ⟨g2, i, none⟩) hg2 _)
                obtain ⟨rfl, rfl⟩ : ab = b ∧ ao = off := by injection ea with ea; injection ea with e1 e2; exact ⟨e1, e2⟩
                go_wp2_with fail
                go_roundw
                case rel => exact ⟨i + 1, by go_num, by omega, HN2, HB6⟩
                case measure => simp [intOf]; omega
            · obtain rfl : i = n0 := by omega
              have p1 : ¬ (i : Int) < (i : Int) := by omega
              clear hge
              have HKW := Lib.hid (show Keeps (fun k => w.heap.size ≤ k) w wr from HK3.out.trans (Keeps.of_below HB5.out (fun k => w3.heap.size ≤ k)) (fun b hb e => by have := HK3.out.size; omega))
              have HRL4 := Lib.hid (show Reads wr (some ⟨ab, ao, none⟩) i (fun k => .string (nth L k)) from reads_keep HRL.out HKW.out)
              have HWR := Lib.hid (show wr.ownsRow w3.heap.size 9 1 (.slice (some ⟨g2, 0, none⟩) i cap2) (L.map (wantW true a1.data.toList a2.data.toList)).length ((L.map (wantW true a1.data.toList a2.data.toList)).map strV) from by
                  have h := HO.out
                  rw [List.take_of_length_le (by rw [List.length_map, HLN.out]; exact Nat.le_refl _), List.drop_eq_nil_of_le (by rw [List.length_map, HLN.out]; exact Nat.le_refl _), List.append_nil] at h
                  rw [List.length_map, HLN.out]
                  exact h)
              obtain ⟨V, hV⟩ : ∃ V : ByteArray, V = ⟨(joinF L).toArray⟩ := ⟨_, rfl⟩
              have HV := Lib.hid (show strV (joinF L) = .string V by rw [hV]; rfl)
              have HVD := Lib.hid (show V.data.toList = joinF L by rw [hV])
              have hVs : V.size ≤ 20 * 41 := by
                rw [Lib.size_eq, HVD.out]
                exact Nat.le_trans (joinF_len 40 L fun x hx => (HOK.out.1 x hx).2.1) (Nat.mul_le_mul_right _ (by rw [HLN.out]; omega))
              obtain ⟨Y, hY⟩ : ∃ Y : ByteArray, Y = ⟨(joinF (L.map (wantW true a1.data.toList a2.data.toList))).toArray⟩ := ⟨_, rfl⟩
              have HY := Lib.hid (show strV (joinF (L.map (wantW true a1.data.toList a2.data.toList))) = .string Y by rw [hY]; rfl)
              obtain ⟨S, hS⟩ : ∃ S, S = (⟨#[36, 40, 120, 58]⟩ : ByteArray) ++ ((⟨#[37]⟩ : ByteArray) ++ a1) ++ ⟨#[61]⟩ ++ ((⟨#[37]⟩ : ByteArray) ++ a2) ++ ⟨#[41]⟩ := ⟨_, rfl⟩
              obtain ⟨Q, hQ⟩ : ∃ Q, Q = (⟨#[32]⟩ : ByteArray) ++ V ++ ⟨#[32]⟩ := ⟨_, rfl⟩
              have HS := Lib.hid hS
              have HQ := Lib.hid hQ
              have HQD := Lib.hid (show Q.data.toList = [32] ++ joinF L ++ [32] by rw [hQ, ba_append, ba_append, HVD.out])
              have hSs : S.size ≤ 100 := by rw [hS]; simp only [ba_size]; show 4 + (1 + a1.size) + 1 + (1 + a2.size) + 1 ≤ _; omega
              have HX0 := Lib.hid (show ∀ (W : World) (b : Nat) (T : TypeId), Gl W → W.heap[b]? = some (.cells #[.string ⟨#[120]⟩, .string Q] T (0, 0)) → Calls Try.prog 13 #[.string S, .slice (some ⟨b, 0, none⟩) 1 1, .slice none 0 0] W (ExpPost W (.ok (joinF (L.map (wantW true a1.data.toList a2.data.toList))))) from fun W b T hg hb => by
                have hp : PairsAt W (fun _ => True) (.slice (some ⟨b, 0, none⟩) 1 1) [([120], [32] ++ joinF L ++ [32])] := pairs_block hb (pairs_lit (by
                  show [_, _] = [strV _, strV _]
                  rw [strV_of HQD.out]; rfl)) rfl (by simp)
                have hx := expand_any S (.slice (some ⟨b, 0, none⟩) 1 1) (.slice none 0 0) [([120], [32] ++ joinF L ++ [32])] [] W (by omega) hp (PairsAt.nil _ _) ⟨small_of fun q hq => by
                  obtain rfl := List.mem_singleton.1 hq
                  show ([32] ++ joinF L ++ [32]).length ≤ 3000
                  rw [← HVD.out]
                  simp only [List.length_append, List.length_singleton, ← Lib.size_eq]
                  omega, small_nil⟩ hg
                rw [show expandF [([120], [32] ++ joinF L ++ [32])] [] S.data.toList = .ok (joinF (L.map (wantW true a1.data.toList a2.data.toList))) by
                  rw [HS.out]
                  simp only [ba_append]
                  exact swaps_text true HOK.out.1 HOK.out.2.1 HOK.out.2.2 (by rw [HLN.out]; omega)] at hx
                exact hx)
              have hbq : (Y.toList == Y.toList) = true := beq_self_eq_true _
              clear hV hY hS hQ
              go_wp2_with fail
              refine (list_any (some ⟨ab, ao, none⟩) i c0 L _ HRL4.out HLN.out.symm (fun x hx => by have := (HOK.out.1 x hx).2.1; omega) (by omega)).mono ?_
              rintro e w5 ⟨rfl, hw5⟩
              rw [hw5, HV.out]
              clear hw5
              go_wp2_with fail
              rw [← HS.out, ← HQ.out]
              refine (HX0.out _ _ _ (gl_keep gl (HKW.out.alloc _)) (heap_alloc_new _ _)).mono ?_
              rintro e w6 ⟨rfl, hk6⟩
              have HK6 := Lib.hid (show Keeps (fun _ => False) wr w6 from ((Keeps.refl _ _).alloc _).trans hk6 (fun _ _ h => h))
              rw [HY.out]
              clear hk6
              go_wp2_with fail
              refine (num_any 0 _).mono ?_
              rintro e w7 ⟨rfl, hwn⟩
              rw [hwn]
              clear hwn
              go_wp2_with fail
              refine (list_own (.slice (some ⟨g2, 0, none⟩) i cap2) _ w3.heap.size _ (ownsRow_keep HWR.out HK6.out (fun _ _ h => h)) (fun x hx => by
                obtain ⟨y, hy, rfl⟩ := List.mem_map.1 hx
                have h1 := (HOK.out.1 y hy).2.1
                have h2 := HOK.out.2.2.2.1
                unfold wantW swapOne
                split
                · omega
                · split
                  · simp; omega
                  · omega) (by rw [List.length_map, HLN.out]; omega)).mono ?_
              rintro e w8 ⟨rfl, hw8⟩
              rw [hw8, HY.out]
              clear hw8
              go_wp2_with fail
              go_ret
              exact ⟨rfl, (HKW.out.trans HK6.out (fun _ _ h => h.elim)).below0 (fun _ h => h)⟩
end Go.Proofs.Ytglppnpllpfaeaa
