/-
  Commands that come in as arguments: what they read as.
-/
import Derived.Test.YtiihpbccabeoeaaGreatDoorZPsG
import Derived.ProofKit
import Derived.OpenShut
import Derived.ChangeArms
import Derived.Deep.Slices
namespace Go.Proofs.YtiihpbccabeoeaaGreatDoor
open Go.RowKit
set_option linter.unusedVariables false
section
variable {H : Type} {enc : TypeId × Value → H} {w : World} {base : Nat} {spare : Nat → Bool} {held : Bool}
noncomputable abbrev Tr (enc : TypeId × Value → H) (w : World) (base : Nat) (spare : Nat → Bool) (held : Bool) (fuel : Nat) (t : TypeId) (cs : List Value) : Option (DataW H × List MemPlace) := DataW.trod enc Tryz.prog w base spare held fuel t cs
theorem rdl_get {D : Nat → Prop} : ∀ {ds : List Dt} {vs : List Value}, RdL w D ds vs → ∀ (j : Nat) (hj : j < ds.length), ∃ v, vs[j]? = some v ∧ Rd w D ds[j] v
  | d :: ds, v :: vs, h, 0, hj => ⟨v, rfl, h.1⟩
  | d :: ds, v :: vs, h, j + 1, hj => rdl_get h.2 j (by simpa using hj)
theorem sliceRd {k : Nat} (hk : 0 < k) {t e : TypeId} (ht : Tryz.prog.underlying t = some (.slice e)) (ce : Tryz.prog.cellsOf e = k) (Q : List Dt → Prop) {fuel : Nat} {a : Option Addr} {m c : Nat} {x : DataW H × List MemPlace}
    (helem : ∀ n cs y, fuel = n + 1 → Tr enc w base spare held n e cs = some y → cs.length = k → ∃ row : List Dt, Q row ∧ row.length = k ∧ RdL w (fun _ => True) row cs)
    (h : Tr enc w base spare held fuel t [.slice a m c] = some x) : ∃ rows : List (List Dt), (∀ r ∈ rows, Q r) ∧ Rd w (fun _ => True) (.sl k rows.flatten) (.slice a m c) := by
  rcases DataW.trod_slice ht h with ⟨h0, _⟩ | ⟨ad, len, cap, elems, rest, n, hfu, hcs, _, _, hle, hmx, hel, hall, _⟩
  · injection h0 with h0
    injection h0 with h1 h2 h3
    subst h1 h2 h3
    exact ⟨[], (fun r hr => by cases hr), .nil _ _ _ (Nat.zero_le _)⟩
  · injection hcs with hcs
    injection hcs with h1 h2 h3
    subst h1 h2 h3
    rcases Nat.eq_zero_or_pos m with rfl | hm
    · exact ⟨[], (fun r hr => by cases hr), .nil _ _ _ hmx⟩
    · have each : ∀ i, i < m → ∃ p : List Dt × List Value, Q p.1 ∧ p.1.length = k ∧ RdL w (fun _ => True) p.1 p.2 ∧ ∀ j, j < k → w.cell? ((ad.add (i * k)).add j) = p.2[j]? := fun i hi => by
        have h4 := hall i hi
        rw [List.getElem?_eq_getElem (by omega)] at h4
        obtain ⟨cs', h5, h6⟩ := Option.bind_eq_some_iff.1 h4
        rw [ce] at h5
        obtain ⟨_, hl, hc⟩ := World.cells?_some h5
        obtain ⟨row, q1, q2, q3⟩ := helem n cs' _ hfu h6 hl
        exact ⟨(row, cs'), q1, q2, q3, hc⟩
      obtain ⟨V, hV⟩ := Go.Deep.choose_lt each
      obtain ⟨b, off, spot⟩ := ad
      have hspot : spot = none := by
        obtain ⟨_, q2, q3, q4⟩ := hV 0 hm
        obtain ⟨v, hv, _⟩ := rdl_get q3 0 (by omega)
        have h8 := q4 0 hk
        rw [hv] at h8
        simpa [Addr.add] using World.cell?_spot h8
      subst hspot
      have hcell : ∀ i, i < m → ∀ j, j < k → w.cell? ⟨b, off + (i * k + j), none⟩ = (V i).2[j]? := fun i hi j hj => by
        have h8 := (hV i hi).2.2.2 j hj
        rw [show ((⟨b, off, none⟩ : Addr).add (i * k)).add j = ⟨b, off + (i * k + j), none⟩ by
          rw [Go.WideShapes.add_plain, Go.WideShapes.add_plain, Nat.add_assoc]] at h8
        exact h8
      let f : Nat → List Dt := fun i => if i < m then (V i).1 else List.replicate k (.int 0)
      have hf : ∀ i, (f i).length = k := fun i => by
        show (if i < m then (V i).1 else List.replicate k (.int 0)).length = k
        split
        · next h => exact (hV i h).2.1
        · exact List.length_replicate
      have hfi : ∀ i, i < m → f i = (V i).1 := fun i hi => if_pos hi
      refine ⟨(List.range m).map f, fun r hr => ?_, ?_⟩
      · obtain ⟨i, hi, rfl⟩ := List.mem_map.1 hr
        rw [List.mem_range] at hi
        rw [hfi i hi]
        exact (hV i hi).1
      · rw [← List.flatMap_def]
        have hlen : ((List.range m).flatMap f).length = m * k := by rw [flatLen hf, List.length_range]
        have key : ∀ j (hj : j < ((List.range m).flatMap f).length), ∃ v, w.cell? ⟨b, off + j, none⟩ = some v ∧ Rd w (fun _ => True) ((List.range m).flatMap f)[j] v := fun j hj => by
          have hjm : j < m * k := by rw [← hlen]; exact hj
          have hi : j / k < m := (Nat.div_lt_iff_lt_mul hk).2 hjm
          have hr : j % k < k := Nat.mod_lt _ hk
          have hje : j / k * k + j % k = j := by rw [Nat.mul_comm]; exact Nat.div_add_mod j k
          obtain ⟨_, q2, q3, _⟩ := hV (j / k) hi
          obtain ⟨v, hv, hrd⟩ := rdl_get q3 (j % k) (by rw [q2]; exact hr)
          refine ⟨v, ?_, ?_⟩
          · have h8 := hcell (j / k) hi (j % k) hr
            rw [hje, hv] at h8
            exact h8
          · have h9 := flatAt hf (xs := List.range m) (i := j / k) (by rw [List.length_range]; exact hi) hr
            rw [hje, List.getElem?_eq_getElem hj, List.getElem_range, hfi _ hi, List.getElem?_eq_getElem (by rw [q2]; exact hr)] at h9
            rw [Option.some.inj h9]
            exact hrd
        have hvs : ∃ vs : Nat → Value, ∀ j (hj : j < ((List.range m).flatMap f).length), w.cell? ⟨b, off + j, none⟩ = some (vs j) ∧ Rd w (fun _ => True) ((List.range m).flatMap f)[j] (vs j) :=
          ⟨fun j => if hj : j < ((List.range m).flatMap f).length then Classical.choose (key j hj) else .int .i64 0, fun j hj => by
            have e : (if hj : j < ((List.range m).flatMap f).length then Classical.choose (key j hj) else Value.int .i64 0) = Classical.choose (key j hj) := dif_pos hj
            show w.cell? _ = some (if hj : j < ((List.range m).flatMap f).length then Classical.choose (key j hj) else Value.int .i64 0) ∧ Rd w (fun _ => True) _ (if hj : j < ((List.range m).flatMap f).length then Classical.choose (key j hj) else Value.int .i64 0)
            rw [e]
            exact Classical.choose_spec (key j hj)⟩
        obtain ⟨vs, hvs⟩ := hvs
        have hb : b < w.heap.size := by
          obtain ⟨v, hv, _⟩ := key 0 (by rw [hlen]; exact Nat.mul_pos hm hk)
          rcases Nat.lt_or_ge b w.heap.size with h9 | h9
          · exact h9
          · simp [World.cell?, Array.getElem?_eq_none h9] at hv
        exact .sl k _ b off m c vs hlen hle hmx hb trivial (fun j hj => (hvs j hj).1) (fun j hj => (hvs j hj).2)
theorem rows_out {α : Type} {f : α → List Dt} {Q : α → Prop} : ∀ rows : List (List Dt), (∀ r ∈ rows, ∃ x, r = f x ∧ Q x) → ∃ xs : List α, rows.flatten = xs.flatMap f ∧ ∀ x ∈ xs, Q x
  | [], _ => ⟨[], rfl, fun x hx => by cases hx⟩
  | r :: t, h => by
    obtain ⟨x, hx, hq⟩ := h r (List.mem_cons_self ..)
    obtain ⟨xs, h1, h2⟩ := rows_out t (fun s hs => h s (List.mem_cons_of_mem _ hs))
    refine ⟨x :: xs, by rw [List.flatten_cons, List.flatMap_cons, h1, hx], fun y hy => ?_⟩
    rcases List.mem_cons.1 hy with rfl | hy
    · exact hq
    · exact h2 y hy
theorem shape_slice {t e : TypeId} {fuel : Nat} {v : Value} {x : DataW H × List MemPlace} (ht : Tryz.prog.underlying t = some (.slice e)) (h : Tr enc w base spare held fuel t [v] = some x) : ∃ a m c, v = .slice a m c := by
  rcases DataW.trod_slice ht h with ⟨h0, _⟩ | ⟨ad, len, cap, elems, rest, n, _, hcs, _⟩
  · injection h0 with h0; exact ⟨_, _, _, h0⟩
  · injection hcs with hcs; exact ⟨_, _, _, hcs⟩
theorem cl0 : Tryz.prog.cellsOf 3 = 1 := by kernel_rfl
theorem cl1 : Tryz.prog.cellsOf 4 = 1 := by kernel_rfl
theorem cl2 : Tryz.prog.cellsOf 9 = 1 := by kernel_rfl
theorem cl3 : Tryz.prog.cellsOf 29 = 1 := by kernel_rfl
theorem cl4 : Tryz.prog.cellsOf 39 = 1 := by kernel_rfl
theorem cl5 : Tryz.prog.cellsOf 40 = 1 := by kernel_rfl
theorem cl6 : Tryz.prog.cellsOf 41 = 1 := by kernel_rfl
theorem cl7 : Tryz.prog.cellsOf 23 = 1 := by kernel_rfl
theorem cl8 : Tryz.prog.cellsOf 42 = 1 := by kernel_rfl
set_option maxRecDepth 100000 in
theorem partsRd : ∀ (fuel : Nat) (a : Option Addr) (m c : Nat) (x : DataW H × List MemPlace), Tr enc w base spare held fuel 29 [.slice a m c] = some x → ∃ ds, PartsD fuel ds ∧ Rd w (fun _ => True) (.sl 6 ds) (.slice a m c) := by
  intro fuel
  induction fuel using Nat.strongRecOn with
  | ind fuel ih =>
    intro a m c x h
    obtain ⟨rows, h1, h2⟩ := sliceRd (k := 6) (by decide) Tryz.underlying29 (by kernel_rfl) (fun r => ∃ y : Px, r = y.row ∧ PartsD (fuel - 1) y.word) (fun n cs y hn h hl => by
      obtain ⟨ys, n2, hn2, _, _, hlen, hf⟩ := DataW.trod_struct Tryz.underlying67 h
      match cs, hl, ys, hlen with
      | [v0, v1, v2, v3, v4, v5], _, [y0, y1, y2, y3, y4, y5], _ =>
        have g0 := hf 0 _ rfl
        simp [cl0] at g0
        have g1 := hf 1 _ rfl
        simp [cl2] at g1
        have g2 := hf 2 _ rfl
        simp [cl2] at g2
        have g3 := hf 3 _ rfl
        simp [cl2] at g3
        have g4 := hf 4 _ rfl
        simp [cl3] at g4
        have g5 := hf 5 _ rfl
        simp [cl1] at g5
        obtain ⟨q0, e0, _, _⟩ := DataW.trod_int Tryz.underlying3 g0
        obtain ⟨q1, e1, _, _⟩ := DataW.trod_string Tryz.underlying9 g1
        obtain ⟨q2, e2, _, _⟩ := DataW.trod_string Tryz.underlying9 g2
        obtain ⟨q3, e3, _, _⟩ := DataW.trod_string Tryz.underlying9 g3
        obtain ⟨a4, m4, c4, rfl⟩ := shape_slice Tryz.underlying29 g4
        obtain ⟨ds, hd, hr⟩ := ih n2 (by omega) a4 m4 c4 _ g4
        obtain ⟨q5, e5, _⟩ := DataW.trod_bool Tryz.underlying4 g5
        injection e0 with e0
        injection e1 with e1
        injection e2 with e2
        injection e3 with e3
        injection e5 with e5
        subst e0 e1 e2 e3 e5
        exact ⟨_, ⟨⟨q0, q1.data.toList, q2.data.toList, q3.data.toList, ds, q5⟩, rfl, hd.le (by omega)⟩, rfl, .int _, .str _, .str _, .str _, hr, .bool _, trivial⟩) h
    obtain ⟨xs, h3, h4⟩ := rows_out rows h1
    refine ⟨rows.flatten, ?_, h2⟩
    cases fuel with
    | zero => simp [Tr, DataW.trod] at h
    | succ n => exact ⟨xs, h3, h4⟩
theorem wordsRd (fuel : Nat) (a : Option Addr) (m c : Nat) (x : DataW H × List MemPlace) (h : Tr enc w base spare held fuel 39 [.slice a m c] = some x) : ∃ ws : List (List Dt), (∀ v ∈ ws, PartsD fuel v) ∧ Rd w (fun _ => True) (.sl 1 (ws.flatMap wdD)) (.slice a m c) := by
  obtain ⟨rows, h1, h2⟩ := sliceRd (k := 1) (by decide) Tryz.underlying39 (by kernel_rfl) (fun r => ∃ y : List Dt, r = wdD y ∧ PartsD fuel y) (fun n cs y hn h hl => by
    match cs, hl with
    | [v], _ =>
      obtain ⟨a4, m4, c4, rfl⟩ := shape_slice Tryz.underlying29 h
      obtain ⟨ds, hd, hr⟩ := partsRd n a4 m4 c4 _ h
      exact ⟨_, ⟨ds, rfl, hd.le (by omega)⟩, rfl, hr, trivial⟩) h
  obtain ⟨xs, h3, h4⟩ := rows_out rows h1
  rw [h3] at h2
  exact ⟨xs, h4, h2⟩
set_option maxRecDepth 100000 in
theorem assignsRd (fuel : Nat) (a : Option Addr) (m c : Nat) (x : DataW H × List MemPlace) (h : Tr enc w base spare held fuel 40 [.slice a m c] = some x) : ∃ gs : List (Bs × List Dt), (∀ g ∈ gs, PartsD fuel g.2) ∧ Rd w (fun _ => True) (.sl 2 (gs.flatMap prD)) (.slice a m c) := by
  obtain ⟨rows, h1, h2⟩ := sliceRd (k := 2) (by decide) Tryz.underlying40 (by kernel_rfl) (fun r => ∃ y : Bs × List Dt, r = prD y ∧ PartsD fuel y.2) (fun n cs y hn h hl => by
    obtain ⟨ys, n2, hn2, _, _, hlen, hf⟩ := DataW.trod_struct Tryz.underlying84 h
    match cs, hl, ys, hlen with
    | [v0, v1], _, [y0, y1], _ =>
      have g0 := hf 0 _ rfl
      simp [cl2] at g0
      have g1 := hf 1 _ rfl
      simp [cl3] at g1
      obtain ⟨q0, e0, _, _⟩ := DataW.trod_string Tryz.underlying9 g0
      obtain ⟨a4, m4, c4, rfl⟩ := shape_slice Tryz.underlying29 g1
      obtain ⟨ds, hd, hr⟩ := partsRd n2 a4 m4 c4 _ g1
      injection e0 with e0
      subst e0
      exact ⟨_, ⟨(q0.data.toList, ds), rfl, hd.le (by omega)⟩, rfl, .str _, hr, trivial⟩) h
  obtain ⟨xs, h3, h4⟩ := rows_out rows h1
  rw [h3] at h2
  exact ⟨xs, h4, h2⟩
set_option maxRecDepth 100000 in
theorem redirsRd (fuel : Nat) (a : Option Addr) (m c : Nat) (x : DataW H × List MemPlace) (h : Tr enc w base spare held fuel 41 [.slice a m c] = some x) : ∃ gs : List (Bs × List Dt), (∀ g ∈ gs, PartsD fuel g.2) ∧ Rd w (fun _ => True) (.sl 2 (gs.flatMap prD)) (.slice a m c) := by
  obtain ⟨rows, h1, h2⟩ := sliceRd (k := 2) (by decide) Tryz.underlying41 (by kernel_rfl) (fun r => ∃ y : Bs × List Dt, r = prD y ∧ PartsD fuel y.2) (fun n cs y hn h hl => by
    obtain ⟨ys, n2, hn2, _, _, hlen, hf⟩ := DataW.trod_struct Tryz.underlying86 h
    match cs, hl, ys, hlen with
    | [v0, v1], _, [y0, y1], _ =>
      have g0 := hf 0 _ rfl
      simp [cl2] at g0
      have g1 := hf 1 _ rfl
      simp [cl3] at g1
      obtain ⟨q0, e0, _, _⟩ := DataW.trod_string Tryz.underlying9 g0
      obtain ⟨a4, m4, c4, rfl⟩ := shape_slice Tryz.underlying29 g1
      obtain ⟨ds, hd, hr⟩ := partsRd n2 a4 m4 c4 _ g1
      injection e0 with e0
      subst e0
      exact ⟨_, ⟨(q0.data.toList, ds), rfl, hd.le (by omega)⟩, rfl, .str _, hr, trivial⟩) h
  obtain ⟨xs, h3, h4⟩ := rows_out rows h1
  rw [h3] at h2
  exact ⟨xs, h4, h2⟩
set_option maxRecDepth 100000 in
theorem nodesRd : ∀ (fuel : Nat) (a : Option Addr) (m c : Nat) (x : DataW H × List MemPlace), Tr enc w base spare held fuel 23 [.slice a m c] = some x → ∃ ds, NodesD fuel ds ∧ Rd w (fun _ => True) (.sl 8 ds) (.slice a m c) := by
  intro fuel
  induction fuel using Nat.strongRecOn with
  | ind fuel ih =>
    intro a m c x h
    have hfp : 0 < fuel := by
      cases fuel with
      | zero => simp [Tr, DataW.trod] at h
      | succ n => exact Nat.succ_pos _
    have arms : ∀ (n : Nat), n < fuel → ∀ (a : Option Addr) (m c : Nat) (x : DataW H × List MemPlace), Tr enc w base spare held n 42 [.slice a m c] = some x → ∃ ar : List (List (List Dt) × List Dt), (∀ y ∈ ar, (∀ v ∈ y.1, PartsD (fuel - 1) v) ∧ NodesD (fuel - 1) y.2) ∧ Rd w (fun _ => True) (.sl 2 (ar.flatMap arD)) (.slice a m c) := fun n hnf a m c x h => by
      obtain ⟨rows, h1, h2⟩ := sliceRd (k := 2) (by decide) Tryz.underlying42 (by kernel_rfl) (fun r => ∃ y : List (List Dt) × List Dt, r = arD y ∧ (∀ v ∈ y.1, PartsD (fuel - 1) v) ∧ NodesD (fuel - 1) y.2) (fun n1 cs y hn h hl => by
        obtain ⟨ys, n2, hn2, _, _, hlen, hf⟩ := DataW.trod_struct Tryz.underlying49 h
        match cs, hl, ys, hlen with
        | [v0, v1], _, [y0, y1], _ =>
          have g0 := hf 0 _ rfl
          simp [cl4] at g0
          have g1 := hf 1 _ rfl
          simp [cl7] at g1
          obtain ⟨a0, m0, c0, rfl⟩ := shape_slice Tryz.underlying39 g0
          obtain ⟨ws, hw, hr0⟩ := wordsRd n2 a0 m0 c0 _ g0
          obtain ⟨a4, m4, c4, rfl⟩ := shape_slice Tryz.underlying23 g1
          obtain ⟨ds, hd, hr⟩ := ih n2 (by omega) a4 m4 c4 _ g1
          exact ⟨_, ⟨(ws, ds), rfl, fun v hv => (hw v hv).le (by omega), hd.le (by omega)⟩, rfl, hr0, hr, trivial⟩) h
      obtain ⟨xs, h3, h4⟩ := rows_out rows h1
      rw [h3] at h2
      exact ⟨xs, h4, h2⟩
    obtain ⟨rows, h1, h2⟩ := sliceRd (k := 8) (by decide) Tryz.underlying23 (by kernel_rfl) (fun r => ∃ y : Ny, r = y.row ∧ NyOK (fuel - 1) y) (fun n cs y hn h hl => by
      obtain ⟨ys, n2, hn2, _, _, hlen, hf⟩ := DataW.trod_struct Tryz.underlying44 h
      match cs, hl, ys, hlen with
      | [v0, v1, v2, v3, v4, v5, v6, v7], _, [y0, y1, y2, y3, y4, y5, y6, y7], _ =>
        have g0 := hf 0 _ rfl
        simp [cl0] at g0
        have g1 := hf 1 _ rfl
        simp [cl1] at g1
        have g2 := hf 2 _ rfl
        simp [cl2] at g2
        have g3 := hf 3 _ rfl
        simp [cl4] at g3
        have g4 := hf 4 _ rfl
        simp [cl5] at g4
        have g5 := hf 5 _ rfl
        simp [cl6] at g5
        have g6 := hf 6 _ rfl
        simp [cl7] at g6
        have g7 := hf 7 _ rfl
        simp [cl8] at g7
        obtain ⟨q0, e0, _, _⟩ := DataW.trod_int Tryz.underlying3 g0
        obtain ⟨q1, e1, _⟩ := DataW.trod_bool Tryz.underlying4 g1
        obtain ⟨q2, e2, _, _⟩ := DataW.trod_string Tryz.underlying9 g2
        obtain ⟨a3, m3, c3, rfl⟩ := shape_slice Tryz.underlying39 g3
        obtain ⟨ws, hws, r3⟩ := wordsRd n2 a3 m3 c3 _ g3
        obtain ⟨a4, m4, c4, rfl⟩ := shape_slice Tryz.underlying40 g4
        obtain ⟨gs, hgs, r4⟩ := assignsRd n2 a4 m4 c4 _ g4
        obtain ⟨a5, m5, c5, rfl⟩ := shape_slice Tryz.underlying41 g5
        obtain ⟨rs, hrs, r5⟩ := redirsRd n2 a5 m5 c5 _ g5
        obtain ⟨a6, m6, c6, rfl⟩ := shape_slice Tryz.underlying23 g6
        obtain ⟨ks, hks, r6⟩ := ih n2 (by omega) a6 m6 c6 _ g6
        obtain ⟨a7, m7, c7, rfl⟩ := shape_slice Tryz.underlying42 g7
        obtain ⟨ar, har, r7⟩ := arms n2 (by omega) a7 m7 c7 _ g7
        injection e0 with e0
        injection e1 with e1
        injection e2 with e2
        subst e0 e1 e2
        exact ⟨_, ⟨⟨q0, q1, q2.data.toList, ws, gs, rs, ks, ar⟩, rfl, fun v hv => (hws v hv).le (by omega), fun g hg => (hgs g hg).le (by omega), fun g hg => (hrs g hg).le (by omega), hks.le (by omega), har⟩, rfl, .int _, .bool _, .str _, r3, r4, r5, r6, r7, trivial⟩) h
    obtain ⟨xs, h3, h4⟩ := rows_out rows h1
    refine ⟨rows.flatten, ?_, h2⟩
    cases fuel with
    | zero => omega
    | succ n => exact ⟨xs, h3, h4⟩
end
end Go.Proofs.YtiihpbccabeoeaaGreatDoor
