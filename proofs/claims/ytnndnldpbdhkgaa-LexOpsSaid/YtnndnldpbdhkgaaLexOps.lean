/-
  LexOps' walk.
-/
import Derived.Test.YtnndnldpbdhkgaaLexPO
import Derived.Test.YtnndnldpbdhkgaaSlices
namespace Go.Proofs.Ytnndnldpbdhkgaa
open Go.RowKit
set_option linter.unusedVariables false

theorem OwnTks.more {w w1 : World} {v : Value} {H n : Nat} {l : List Tk} {x : Tk} {wv : Value} (h : OwnTks w (fun b => H ≤ b) v l) (hlow : ∀ g, v.ownBlock = some g → H ≤ g) (hH : H ≤ w.heap.size) (hk : Keeps (fun _ => False) w w1) (hx : PtsAt w1 (fun b => w.heap.size ≤ b) n x.word wv) :
    ∃ xs, w1.ownsRow 0 34 3 v l.length xs ∧ ∀ (g cap : Nat) (w2 : World) (o : Obj), w2.ownsRow 0 34 3 (.slice (some ⟨g, 0, none⟩) (l.length + 1) cap) (l.length + 1) (xs ++ cellsK x wv) → (w1.alloc o).grownBy w2 v.ownBlock → (v.ownBlock = some g ∨ g = w1.heap.size + 1) →
      OwnTks w2 (fun b => H ≤ b) (.slice (some ⟨g, 0, none⟩) (l.length + 1) cap) (l ++ [x]) ∧ H ≤ g ∧ Keeps (fun b => H ≤ b) w w2 := by
  have hm := h.keep hk (fun _ _ _ s => s) (fun _ _ s => s)
  obtain ⟨vs, m, hl, ho, hn⟩ := hm
  refine ⟨_, ho, fun g cap w2 o hown hg hat => ?_⟩
  have k : Keeps (fun b => v.ownBlock = some b) w1 w2 := ((Keeps.refl _ w1).alloc o).grown hg fun k hk _ => hk
  have hgH : H ≤ g := by
    have := hk.size
    rcases hat with e | e
    · exact hlow _ e
    · omega
  refine ⟨grow_tks (B := H) (v := v) (w := w1) (x := x) (m := n) (hx.mono fun b hb hd => ⟨by omega, fun e => by have := h.lt e; omega⟩) hl hn hown k (fun y hy => ?_), hgH, (hk.mono (fun _ _ s => s.elim)).trans k (fun b hb e => hlow _ e)⟩
  obtain rfl : g = y := Option.some.inj hy
  rcases hat with e | e
  · exact .inl e
  · exact .inr (by omega)
theorem one_reads' (w : World) (kd : Nat) (T : ByteArray) (q : Bool) : ∃ n, PtsAt (w.alloc (.cells #[.int .i64 kd, .string T, .string ⟨#[]⟩, .string ⟨#[]⟩, .slice none 0 0, .bool q] 39)) (fun b => w.heap.size ≤ b) n [.mk kd T.data.toList [] [] [] q] (.slice (some ⟨w.heap.size, 0, none⟩) 1 1) := by
  refine flat_reads (raw := [.mk kd T.data.toList [] [] [] q]) ?_ (fun i h => ?_) (fun g hg => by obtain rfl : w.heap.size = g := Option.some.inj hg; exact Nat.le_refl _)
  · exact one_own w kd T q
  · obtain rfl : i = 0 := by simp at h; omega
    rfl
theorem lawop_cell (w1 : World) (k : Nat) (hk : k < 11) : ∃ O : ByteArray, O.data.toList = lawOps.getD k [] ∧ (w1.alloc (.cells #[.string ⟨#[59, 59]⟩, .string ⟨#[38, 38]⟩, .string ⟨#[124, 124]⟩, .string ⟨#[62, 62]⟩, .string ⟨#[59]⟩, .string ⟨#[124]⟩, .string ⟨#[40]⟩, .string ⟨#[41]⟩, .string ⟨#[60]⟩, .string ⟨#[62]⟩, .string ⟨#[10]⟩] 9)).cell? ⟨w1.heap.size, k, none⟩ = some (.string O) := by
  have hb := heap_alloc_new w1 (.cells #[.string ⟨#[59, 59]⟩, .string ⟨#[38, 38]⟩, .string ⟨#[124, 124]⟩, .string ⟨#[62, 62]⟩, .string ⟨#[59]⟩, .string ⟨#[124]⟩, .string ⟨#[40]⟩, .string ⟨#[41]⟩, .string ⟨#[60]⟩, .string ⟨#[62]⟩, .string ⟨#[10]⟩] 9)
  have h := cell_of_row _ _ k _ _ _ hb
  have hk2 : k = 0 ∨ k = 1 ∨ k = 2 ∨ k = 3 ∨ k = 4 ∨ k = 5 ∨ k = 6 ∨ k = 7 ∨ k = 8 ∨ k = 9 ∨ k = 10 := by omega
  rcases hk2 with rfl | rfl | rfl | rfl | rfl | rfl | rfl | rfl | rfl | rfl | rfl <;> exact ⟨_, rfl, h⟩
theorem low_bits (x : Int) : ∃ m : Nat, bits .and .i64 x 1023 = (m : Int) ∧ m < 1024 := by
  refine ⟨(BitVec.ofInt 64 x &&& BitVec.ofInt 64 1023).toNat, ?_, ?_⟩
  · have h : (BitVec.ofInt 64 x &&& BitVec.ofInt 64 1023).toNat < 1024 := by
      rw [BitVec.toNat_and]
      exact Nat.lt_of_le_of_lt Nat.and_le_right (by decide)
    show IntKind.i64.wrap (((BitVec.ofInt 64 x &&& BitVec.ofInt 64 1023).toNat : Nat) : Int) = _
    exact IntWalk.i64_in _ (by omega)
  · rw [BitVec.toNat_and]
    exact Nat.lt_of_le_of_lt Nat.and_le_right (by decide)
/-- Which operator a number stands for. -/
def opOf (z : Int) : List UInt8 := lawOps.getD ((bits .and .i64 z 1023).toNat % 11) []
theorem opOf_mem (z : Int) : opOf z ∈ lawOps := by
  unfold opOf
  have h : (bits .and .i64 z 1023).toNat % 11 < lawOps.length := Nat.mod_lt _ (by decide)
  rw [List.getD_eq_getElem?_getD, List.getElem?_eq_getElem h]
  exact List.getElem_mem _
/-- The operators so far. -/
def opsAt (z : List Int) (i : Nat) : List (List UInt8) := (z.take i).map opOf
theorem opsAt_mem (z : List Int) (i : Nat) : ∀ o ∈ opsAt z i, o ∈ lawOps := fun o ho => by
  obtain ⟨x, _, rfl⟩ := List.mem_map.1 ho
  exact opOf_mem x
theorem opsAt_succ {z : List Int} {i : Nat} (h : i < z.length) : opsAt z (i + 1) = opsAt z i ++ [opOf (z.getD i 0)] := by
  unfold opsAt
  rw [List.take_succ_eq_append_getElem h, List.map_append, List.getD_eq_getElem?_getD, List.getElem?_eq_getElem h]
  rfl
theorem opsAt_len {z : List Int} {i : Nat} (h : i ≤ z.length) : (opsAt z i).length = i := by
  unfold opsAt
  rw [List.length_map, List.length_take]; omega
structure OpMid (W wr : World) (l : List Tk) (v : Value) : Prop where
  own : OwnTks wr (fun b => W.heap.size ≤ b) v l
  low : ∀ g, v.ownBlock = some g → W.heap.size ≤ g
  kp : Keeps (fun b => W.heap.size ≤ b) W wr
theorem OpMid.len {W wr : World} {l : List Tk} {va : Option Addr} {vn vc : Nat} (h : OpMid W wr l (.slice va vn vc)) : vn = l.length := by
  obtain ⟨a, c, e, _⟩ := h.own.shape
  injection e
theorem OpMid.word {W wr : World} {l : List Tk} {va : Option Addr} {vn vc : Nat} (h : OpMid W wr l (.slice va vn vc)) :
    ∃ xs, (wr.alloc (.cells #[.int .i64 1, .string ⟨#[97]⟩, .string ⟨#[]⟩, .string ⟨#[]⟩, .slice none 0 0, .bool false] 39)).ownsRow 0 34 3 (.slice va vn vc) vn xs ∧ ∀ (g cap : Nat) (w5 : World) (o : Obj), w5.ownsRow 0 34 3 (.slice (some ⟨g, 0, none⟩) (vn + 1) cap) (vn + 1) (xs ++ [.int .i64 1, .string ⟨#[]⟩, .slice (some ⟨wr.heap.size, 0, none⟩) 1 1]) → ((wr.alloc (.cells #[.int .i64 1, .string ⟨#[97]⟩, .string ⟨#[]⟩, .string ⟨#[]⟩, .slice none 0 0, .bool false] 39)).alloc o).grownBy w5 (Value.slice va vn vc).ownBlock → ((Value.slice va vn vc).ownBlock = some g ∨ g = wr.heap.size + 1 + 1) →
      OpMid W w5 (l ++ [aTk]) (.slice (some ⟨g, 0, none⟩) (vn + 1) cap) := by
  have hv := h.len
  subst hv
  have hk : Keeps (fun _ => False) wr (wr.alloc (.cells #[.int .i64 1, .string ⟨#[97]⟩, .string ⟨#[]⟩, .string ⟨#[]⟩, .slice none 0 0, .bool false] 39)) := (Keeps.refl _ _).alloc _
  obtain ⟨n, hn⟩ := one_reads' wr 1 ⟨#[97]⟩ false
  obtain ⟨xs, ho, hF⟩ := h.own.more h.low h.kp.size hk (x := aTk) hn
  refine ⟨xs, ho, fun g cap w5 o h1 h2 h3 => ?_⟩
  obtain ⟨a, b, c⟩ := hF g cap w5 o h1 h2 (by simpa using h3)
  exact ⟨a, fun y hy => (by obtain rfl : g = y := Option.some.inj hy; exact b), h.kp.trans c (fun _ _ e => e)⟩
theorem OpMid.op {W wr : World} {l : List Tk} {va : Option Addr} {vn vc : Nat} (h : OpMid W wr l (.slice va vn vc)) (O : ByteArray) :
    ∃ xs, wr.ownsRow 0 34 3 (.slice va vn vc) vn xs ∧ ∀ (g cap : Nat) (w5 : World) (o : Obj), w5.ownsRow 0 34 3 (.slice (some ⟨g, 0, none⟩) (vn + 1) cap) (vn + 1) (xs ++ [.int .i64 2, .string O, .slice none 0 0]) → (wr.alloc o).grownBy w5 (Value.slice va vn vc).ownBlock → ((Value.slice va vn vc).ownBlock = some g ∨ g = wr.heap.size + 1) →
      OpMid W w5 (l ++ [opTk O.data.toList]) (.slice (some ⟨g, 0, none⟩) (vn + 1) cap) := by
  have hv := h.len
  subst hv
  obtain ⟨xs, ho, hF⟩ := h.own.more h.low h.kp.size (Keeps.refl _ _) (x := opTk O.data.toList) (n := 0) (PtsAt.nil wr _ 0)
  refine ⟨xs, ho, fun g cap w5 o h1 h2 h3 => ?_⟩
  have e : strV O.data.toList = .string O := strV_of rfl
  obtain ⟨a, b, c⟩ := hF g cap w5 o (by unfold cellsK opTk; dsimp only; rw [e]; exact h1) h2 h3
  exact ⟨a, fun y hy => (by obtain rfl : g = y := Option.some.inj hy; exact b), h.kp.trans c (fun _ _ e => e)⟩

set_option maxRecDepth 100000 in
set_option maxHeartbeats 8000000 in
theorem lexOps_walk (a0 : Option Addr) (n0 c0 : Nat) (z0 : List Int) (a1 : Bool) (w : World) (hr : IsRow .i64 w a0 n0 c0 z0) (hsh : w.ShapedOpen Try.prog) :
    Calls Try.prog 7 #[.slice a0 n0 c0, .bool a1] w fun e w' => e = .returned (.bool true) ∧ Below w.heap.size w w' := by
  have hc3 := cells_token
  have hc6 := cells_part
  obtain ⟨i0, hi0, hz0, hz1, hz2⟩ := info_parts info_token
  have hrd := isRow_reads hr
  obtain ⟨hnz, _, _⟩ := isRow_cap hr
  have HRD := Lib.hid hrd
  clear hr hrd
  by_cases hl : 30 < n0
  · have t1 : (30 : Int) < (n0 : Int) := by omega
    go_enter Try.func7, Try.ntmps7
    go_wp2_with fail
    refine (alive_any w).mono ?_
    rintro e w1 ⟨rfl, hk⟩
    have HK := Lib.hid hk
    clear hk
    go_wp2_with fail
    go_ret
    exact ⟨rfl, (HK.out.alloc _).below0 (fun _ h => h.elim)⟩
  have t1 : ¬ (30 : Int) < (n0 : Int) := by omega
  go_enter Try.func7, Try.ntmps7
  go_wp2_with fail
  refine (alive_any w).mono ?_
  rintro e w1 ⟨rfl, hk⟩
  have HK := Lib.hid hk
  clear hk
  go_wp2_with fail
  obtain ⟨W, hW⟩ : ∃ W, W = w1.alloc (.cells #[.string ⟨#[59, 59]⟩, .string ⟨#[38, 38]⟩, .string ⟨#[124, 124]⟩, .string ⟨#[62, 62]⟩, .string ⟨#[59]⟩, .string ⟨#[124]⟩, .string ⟨#[40]⟩, .string ⟨#[41]⟩, .string ⟨#[60]⟩, .string ⟨#[62]⟩, .string ⟨#[10]⟩] 9) := ⟨_, rfl⟩
  rw [← hW]
  have HOPS := Lib.hid (show ∀ k, k < 11 → ∃ O : ByteArray, O.data.toList = lawOps.getD k [] ∧ W.cell? ⟨w1.heap.size, k, none⟩ = some (.string O) by rw [hW]; exact lawop_cell w1)
  have hBW : w1.heap.size < W.heap.size := by rw [hW]; simp
  have HKW := Lib.hid (show Keeps (fun _ => False) w W by rw [hW]; exact HK.out.alloc _)
  have hww : w.heap.size ≤ W.heap.size := HKW.out.size
  obtain ⟨B, hB⟩ : ∃ B, B = w1.heap.size := ⟨_, rfl⟩
  rw [← hB] at hBW HOPS
  rw [← hB]
  clear hW hB HK
  go_loopw [7, 8, 9] (fun s' v' i' wr => ∃ (i : Nat) (S : ByteArray) (va : Option Addr) (vn vc : Nat), s' = .string S ∧ v' = .slice va vn vc ∧ i' = .int .i64 i ∧ i ≤ n0 ∧ Hid (S.data.toList = opsX a1 true (opsAt z0 i)) ∧ Hid (OpMid W wr (opsT true (opsAt z0 i)) (.slice va vn vc))) (fun _ _ i' _ => n0 - (intOf i').toNat)
  case atStart => exact ⟨0, ⟨#[]⟩, none, 0, 0, rfl, rfl, rfl, Nat.zero_le _, Lib.hid rfl, Lib.hid ⟨OwnTks.nil _ _, fun g hg => (by cases hg), Keeps.refl _ _⟩⟩
  case round =>
    obtain ⟨i, S, va, vn, vc, rfl, rfl, rfl, hi, HS, HL⟩ := hrel
    rcases Nat.lt_or_ge i n0 with hlt | hge
    · have p1 : (i : Int) < (n0 : Int) := by omega
      obtain ⟨b, off, rfl, hb, hc⟩ := HRD.out i hlt
      obtain ⟨x, hx⟩ : ∃ x, x = z0.getD i 0 := ⟨_, rfl⟩
      have hc : w.cell? ⟨b, off + i, none⟩ = some (.int .i64 x) := by rw [hx]; exact hc
      obtain ⟨m, hm, hm2⟩ := low_bits x
      obtain ⟨r, hr⟩ : ∃ r, r = m % 11 := ⟨_, rfl⟩
      have hrm : (m : Int).tmod 11 = (r : Int) := by rw [hr]; rfl
      have hr11 : r < 11 := by rw [hr]; exact Nat.mod_lt _ (by decide)
      obtain ⟨O, hO, hcO⟩ := HOPS.out r hr11
      have hop : O.data.toList = opOf (z0.getD i 0) := by
        rw [hO, ← hx]
        unfold opOf
        rw [hm, hr]
        rfl
      have HOP := Lib.hid hop
      clear hr hO hop hx
      have hcw : ∀ wx : World, Keeps (fun b => W.heap.size ≤ b) W wx → wx.cell? ⟨b, off + i, none⟩ = some (.int .i64 x) ∧ wx.cell? ⟨B, r, none⟩ = some (.string O) ∧ b < wx.heap.size ∧ B < wx.heap.size := fun wx hk => by
        have h1 : wx.cell? ⟨b, off + i, none⟩ = w.cell? ⟨b, off + i, none⟩ := (World.cell?_of_block (a := ⟨b, off + i, none⟩) (hk.block b (by omega) (by omega))).trans (World.cell?_of_block (a := ⟨b, off + i, none⟩) (HKW.out.block b hb (fun h => h)))
        exact ⟨h1.trans hc, (World.cell?_of_block (a := ⟨B, r, none⟩) (hk.block B hBW (by omega))).trans hcO, by have := hk.size; omega, by have := hk.size; omega⟩
      obtain ⟨q0, q1, q2, q3⟩ := hcw wr HL.out.kp
      have HCW := Lib.hid hcw
      clear hcw hc hcO
      have hvn := HL.out.len
      have hvl := opsT_len (opsAt z0 i) true
      rw [opsAt_len (show i ≤ z0.length by omega), ← hvn] at hvl
      have hSz : S.size ≤ 150 := by
        rw [Lib.size_eq, HS.out]
        have h := opsX_len a1 (opsAt z0 i) true (opsAt_mem z0 i)
        rw [opsAt_len (show i ≤ z0.length by omega)] at h
        omega
      have hOz : O.size ≤ 2 := by
        rw [Lib.size_eq, HOP.out]
        have h : ∀ o ∈ lawOps, o.length ≤ 2 := by decide
        exact h _ (opOf_mem _)
      clear hvn
      rcases Nat.eq_zero_or_pos i with hz | hz
      · have HEMP := Lib.hid (show (opsAt z0 i).isEmpty = true by rw [hz]; rfl)
        have p5 : ¬ (0 : Int) < (i : Int) := by omega
        clear hz
        cases a1 with
        | true =>
          obtain ⟨xs2, hown2, hF2⟩ := HL.out.op O
          have HF2 := Lib.hid hF2
          clear hF2
          have hSn : (S ++ ⟨#[32]⟩ ++ O ++ ⟨#[9]⟩).data.toList = opsX true true (opsAt z0 (i + 1)) := by
            rw [opsAt_succ (show i < z0.length by omega), opsX_snoc]
            rw [show (if (true && (opsAt z0 i).isEmpty) = true then ([] : List UInt8) else [97]) = [] from by rw [Bool.true_and, HEMP.out]; rfl]
            simp only [ba_append]
            rw [HS.out, HOP.out]
            simp [padO]
          have hTn : opsT true (opsAt z0 (i + 1)) = opsT true (opsAt z0 i) ++ ([] ++ [opTk O.data.toList]) := by
            rw [opsAt_succ (show i < z0.length by omega), opsT_snoc, HOP.out]
            rw [show (if (true && (opsAt z0 i).isEmpty) = true then ([] : List Tk) else [aTk]) = [] from by rw [Bool.true_and, HEMP.out]; rfl]
          have HSN := Lib.hid hSn
          have HTN := Lib.hid hTn
          clear hSn hTn
          go_wp2_with (at_builtin; refine wpList_append_lies _ rfl (.tmp 70) (.tmp 73) _ rfl 0 34 i0 _ 3 48 Try.underlying23 hi0 hz0 hz1 hz2 rfl (by omega) (.slice va vn vc) (vn) xs2 rfl (hown2.alloc _) ⟨wr.heap.size, 0, none⟩ 1 1 [.int .i64 2, .string O, .slice none 0 0] rfl rfl (World.news_of_block (cs := #[.int .i64 2, .string O, .slice none 0 0]) (t := 34) (fr := (0, 0)) (heap_alloc_new wr _)) (by simp [Value.oneCell']) (by omega) (by unfold maxLen; omega) (by omega) (by simp) (wr.heap.size + 1) (by simp) ?_; intro gg cap w6 hown6 hgrow6 hat6 hlt6; have HM2 := Lib.hid (HF2.out gg cap w6 _ hown6 hgrow6 hat6))
          go_roundw
          case rel => exact ⟨i + 1, _, _, _, _, rfl, rfl, by go_num, by omega, HSN, Lib.hid (by rw [HTN.out]; have h := HM2.out; exact h)⟩
          case measure => simp [intOf]; omega
        | false =>
          obtain ⟨xs2, hown2, hF2⟩ := HL.out.op O
          have HF2 := Lib.hid hF2
          clear hF2
          have hSn : (S ++ O).data.toList = opsX false true (opsAt z0 (i + 1)) := by
            rw [opsAt_succ (show i < z0.length by omega), opsX_snoc]
            rw [show (if (true && (opsAt z0 i).isEmpty) = true then ([] : List UInt8) else [97]) = [] from by rw [Bool.true_and, HEMP.out]; rfl]
            simp only [ba_append]
            rw [HS.out, HOP.out]
            simp [padO]
          have hTn : opsT true (opsAt z0 (i + 1)) = opsT true (opsAt z0 i) ++ ([] ++ [opTk O.data.toList]) := by
            rw [opsAt_succ (show i < z0.length by omega), opsT_snoc, HOP.out]
            rw [show (if (true && (opsAt z0 i).isEmpty) = true then ([] : List Tk) else [aTk]) = [] from by rw [Bool.true_and, HEMP.out]; rfl]
          have HSN := Lib.hid hSn
          have HTN := Lib.hid hTn
          clear hSn hTn
          go_wp2_with (at_builtin; refine wpList_append_lies _ rfl (.tmp 70) (.tmp 73) _ rfl 0 34 i0 _ 3 48 Try.underlying23 hi0 hz0 hz1 hz2 rfl (by omega) (.slice va vn vc) (vn) xs2 rfl (hown2.alloc _) ⟨wr.heap.size, 0, none⟩ 1 1 [.int .i64 2, .string O, .slice none 0 0] rfl rfl (World.news_of_block (cs := #[.int .i64 2, .string O, .slice none 0 0]) (t := 34) (fr := (0, 0)) (heap_alloc_new wr _)) (by simp [Value.oneCell']) (by omega) (by unfold maxLen; omega) (by omega) (by simp) (wr.heap.size + 1) (by simp) ?_; intro gg cap w6 hown6 hgrow6 hat6 hlt6; have HM2 := Lib.hid (HF2.out gg cap w6 _ hown6 hgrow6 hat6))
          go_roundw
          case rel => exact ⟨i + 1, _, _, _, _, rfl, rfl, by go_num, by omega, HSN, Lib.hid (by rw [HTN.out]; have h := HM2.out; exact h)⟩
          case measure => simp [intOf]; omega
      · have HEMP := Lib.hid (show (opsAt z0 i).isEmpty = false by
          have h := opsAt_len (show i ≤ z0.length by omega)
          cases he : opsAt z0 i with
          | nil => rw [he] at h; simp at h; omega
          | cons x y => rfl)
        have p5 : (0 : Int) < (i : Int) := by omega
        clear hz
        cases a1 with
        | true =>
          obtain ⟨xs1, hown1, hF1⟩ := HL.out.word
          have HF1 := Lib.hid hF1
          clear hF1
          have hSn : (S ++ ⟨#[97]⟩ ++ ⟨#[32]⟩ ++ O ++ ⟨#[9]⟩).data.toList = opsX true true (opsAt z0 (i + 1)) := by
            rw [opsAt_succ (show i < z0.length by omega), opsX_snoc]
            rw [show (if (true && (opsAt z0 i).isEmpty) = true then ([] : List UInt8) else [97]) = [97] from by rw [Bool.true_and, HEMP.out]; rfl]
            simp only [ba_append]
            rw [HS.out, HOP.out]
            simp [padO]
          have hTn : opsT true (opsAt z0 (i + 1)) = opsT true (opsAt z0 i) ++ ([aTk] ++ [opTk O.data.toList]) := by
            rw [opsAt_succ (show i < z0.length by omega), opsT_snoc, HOP.out]
            rw [show (if (true && (opsAt z0 i).isEmpty) = true then ([] : List Tk) else [aTk]) = [aTk] from by rw [Bool.true_and, HEMP.out]; rfl]
          have HSN := Lib.hid hSn
          have HTN := Lib.hid hTn
          clear hSn hTn
          go_wp2_with (first | (at_builtin; refine wpList_append_lies _ rfl (.tmp 44) (.tmp 48) _ rfl 0 34 i0 _ 3 48 Try.underlying23 hi0 hz0 hz1 hz2 rfl (by omega) (.slice va vn vc) (vn) xs1 rfl (hown1.alloc _) ⟨wr.heap.size + 1, 0, none⟩ 1 1 [.int .i64 1, .string ⟨#[]⟩, .slice (some ⟨wr.heap.size, 0, none⟩) 1 1] rfl rfl (World.news_of_block (cs := #[.int .i64 1, .string ⟨#[]⟩, .slice (some ⟨wr.heap.size, 0, none⟩) 1 1]) (t := 34) (fr := (0, 0)) (by have h := heap_alloc_new (wr.alloc (.cells #[.int .i64 1, .string ⟨#[97]⟩, .string ⟨#[]⟩, .string ⟨#[]⟩, .slice none 0 0, .bool false] 39)) (.cells #[.int .i64 1, .string ⟨#[]⟩, .slice (some ⟨wr.heap.size, 0, none⟩) 1 1] 34); simpa using h)) (by simp [Value.oneCell']) (by omega) (by unfold maxLen; omega) (by omega) (by simp) (wr.heap.size + 1 + 1) (by simp) ?_; intro gg cap w5 hown5 hgrow5 hat5 hlt5; have HM := Lib.hid (HF1.out gg cap w5 _ hown5 hgrow5 hat5); obtain ⟨q4, q5, q6, q7⟩ := HCW.out w5 HM.out.kp; obtain ⟨xs2, hown2, hF2⟩ := HM.out.op O; have HF2 := Lib.hid hF2; clear hF2 hgrow5 hown5) | (at_builtin; refine wpList_append_lies _ rfl (.tmp 70) (.tmp 73) _ rfl 0 34 i0 _ 3 48 Try.underlying23 hi0 hz0 hz1 hz2 rfl (by omega) (.slice (some ⟨gg, 0, none⟩) (vn + 1) cap) ((vn + 1)) xs2 rfl (hown2.alloc _) ⟨w5.heap.size, 0, none⟩ 1 1 [.int .i64 2, .string O, .slice none 0 0] rfl rfl (World.news_of_block (cs := #[.int .i64 2, .string O, .slice none 0 0]) (t := 34) (fr := (0, 0)) (heap_alloc_new w5 _)) (by simp [Value.oneCell']) (by omega) (by unfold maxLen; omega) (by omega) (by simp) (w5.heap.size + 1) (by simp) ?_; intro gg2 cap2 w6 hown6 hgrow6 hat6 hlt6; have HM2 := Lib.hid (HF2.out gg2 cap2 w6 _ hown6 hgrow6 hat6)))
          go_roundw
          case rel => exact ⟨i + 1, _, _, _, _, rfl, rfl, by go_num, by omega, HSN, Lib.hid (by rw [HTN.out]; have h := HM2.out; simpa using h)⟩
          case measure => simp [intOf]; omega
        | false =>
          obtain ⟨xs1, hown1, hF1⟩ := HL.out.word
          have HF1 := Lib.hid hF1
          clear hF1
          have hSn : (S ++ ⟨#[97]⟩ ++ O).data.toList = opsX false true (opsAt z0 (i + 1)) := by
            rw [opsAt_succ (show i < z0.length by omega), opsX_snoc]
            rw [show (if (true && (opsAt z0 i).isEmpty) = true then ([] : List UInt8) else [97]) = [97] from by rw [Bool.true_and, HEMP.out]; rfl]
            simp only [ba_append]
            rw [HS.out, HOP.out]
            simp [padO]
          have hTn : opsT true (opsAt z0 (i + 1)) = opsT true (opsAt z0 i) ++ ([aTk] ++ [opTk O.data.toList]) := by
            rw [opsAt_succ (show i < z0.length by omega), opsT_snoc, HOP.out]
            rw [show (if (true && (opsAt z0 i).isEmpty) = true then ([] : List Tk) else [aTk]) = [aTk] from by rw [Bool.true_and, HEMP.out]; rfl]
          have HSN := Lib.hid hSn
          have HTN := Lib.hid hTn
          clear hSn hTn
          go_wp2_with (first | (at_builtin; refine wpList_append_lies _ rfl (.tmp 44) (.tmp 48) _ rfl 0 34 i0 _ 3 48 Try.underlying23 hi0 hz0 hz1 hz2 rfl (by omega) (.slice va vn vc) (vn) xs1 rfl (hown1.alloc _) ⟨wr.heap.size + 1, 0, none⟩ 1 1 [.int .i64 1, .string ⟨#[]⟩, .slice (some ⟨wr.heap.size, 0, none⟩) 1 1] rfl rfl (World.news_of_block (cs := #[.int .i64 1, .string ⟨#[]⟩, .slice (some ⟨wr.heap.size, 0, none⟩) 1 1]) (t := 34) (fr := (0, 0)) (by have h := heap_alloc_new (wr.alloc (.cells #[.int .i64 1, .string ⟨#[97]⟩, .string ⟨#[]⟩, .string ⟨#[]⟩, .slice none 0 0, .bool false] 39)) (.cells #[.int .i64 1, .string ⟨#[]⟩, .slice (some ⟨wr.heap.size, 0, none⟩) 1 1] 34); simpa using h)) (by simp [Value.oneCell']) (by omega) (by unfold maxLen; omega) (by omega) (by simp) (wr.heap.size + 1 + 1) (by simp) ?_; intro gg cap w5 hown5 hgrow5 hat5 hlt5; have HM := Lib.hid (HF1.out gg cap w5 _ hown5 hgrow5 hat5); obtain ⟨q4, q5, q6, q7⟩ := HCW.out w5 HM.out.kp; obtain ⟨xs2, hown2, hF2⟩ := HM.out.op O; have HF2 := Lib.hid hF2; clear hF2 hgrow5 hown5) | (at_builtin; refine wpList_append_lies _ rfl (.tmp 70) (.tmp 73) _ rfl 0 34 i0 _ 3 48 Try.underlying23 hi0 hz0 hz1 hz2 rfl (by omega) (.slice (some ⟨gg, 0, none⟩) (vn + 1) cap) ((vn + 1)) xs2 rfl (hown2.alloc _) ⟨w5.heap.size, 0, none⟩ 1 1 [.int .i64 2, .string O, .slice none 0 0] rfl rfl (World.news_of_block (cs := #[.int .i64 2, .string O, .slice none 0 0]) (t := 34) (fr := (0, 0)) (heap_alloc_new w5 _)) (by simp [Value.oneCell']) (by omega) (by unfold maxLen; omega) (by omega) (by simp) (w5.heap.size + 1) (by simp) ?_; intro gg2 cap2 w6 hown6 hgrow6 hat6 hlt6; have HM2 := Lib.hid (HF2.out gg2 cap2 w6 _ hown6 hgrow6 hat6)))
          go_roundw
          case rel => exact ⟨i + 1, _, _, _, _, rfl, rfl, by go_num, by omega, HSN, Lib.hid (by rw [HTN.out]; have h := HM2.out; simpa using h)⟩
          case measure => simp [intOf]; omega
    · obtain rfl : i = n0 := by omega
      have p1 : ¬ (i : Int) < (i : Int) := by omega
      have hz : S.data.toList.length ≤ 150 := by
        rw [HS.out]
        have h := opsX_len a1 (opsAt z0 i) true (opsAt_mem z0 i)
        rw [opsAt_len hnz] at h
        omega
      have hm : mayF S.data.toList = 0 := may_low (by omega) (fun c hc => by
        rw [HS.out] at hc
        exact opsX_zero a1 _ true (opsAt_mem z0 i) c hc)
      have HT := Lib.hid (show ∀ wx, Calls Try.prog 14 #[.string S] wx (TokensPost wx (.ok (opsT true (opsAt z0 i)))) from fun wx => by
        have h := tokens_any S wx (by rw [Lib.size_eq]; omega)
        rw [tokensF_C _ hm, HS.out, tokC_ops a1 _ true (opsAt_mem z0 i)] at h
        exact h)
      obtain ⟨n, hn⟩ := HL.out.own.reads HL.out.low
      have HN := Lib.hid hn
      have HKR := Lib.hid (show Keeps (fun _ => False) w wr from HKW.out.trans HL.out.kp (fun b hb e => by omega))
      clear hz hm hn hge
      go_wp2_with fail
      refine (HT.out _).mono ?_
      rintro e w2 ⟨v, n2, rfl, hv, hk2⟩
      obtain ⟨ta, tc, rfl, _, _⟩ := hv.shape
      obtain ⟨tn, htn⟩ : ∃ tn, tn = (opsT true (opsAt z0 i)).length := ⟨_, rfl⟩
      rw [← htn] at hv ⊢
      have HST := Lib.hid (sametokens_any _ _ _ _ _ _ _ _ w2 hv (HN.out.keep hk2 (fun _ _ _ h => h)))
      have HK2 := Lib.hid (HKR.out.trans hk2 (fun _ _ h => h))
      clear hv hk2 htn
      go_wp2_with fail
      refine (num_any 0 _).mono ?_
      rintro e w3 ⟨rfl, hw3⟩
      subst hw3
      go_wp2_with fail
      refine HST.out.mono ?_
      rintro e w4 ⟨r, rfl, hr, hk4⟩
      obtain rfl : r = true := hr.2 trivial
      have HK4 := Lib.hid (HK2.out.trans hk4 (fun _ _ h => h))
      clear hr hk4
      go_wp2_with fail
      go_ret
      exact ⟨rfl, HK4.out.below0 (fun _ h => h.elim)⟩
end Go.Proofs.Ytnndnldpbdhkgaa
