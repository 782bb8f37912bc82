/-
  The scripts of a word; a word is taken.
  A word is taken; a redirection; an assignment.
  A redirection; an assignment.
  An assignment.
  Commands in memory; the one command of some.
  Pipelines.
  And and or.
  Lists of commands.
  A record in memory, of which one field grows.
-/
import Derived.Test.YtcahifkiiabioaaDoorPkE
import Derived.Lib.IndexMore
namespace Go.Proofs.YtcahifkiiabioaaDoor
open Go.RowKit
set_option linter.unusedVariables false

/-- What a script comes to. -/
def ScrPost (w : World) (res : Except Nat (List Dt)) (e : Ending) (w' : World) : Prop := match res with
  | .ok ds => ∃ (a : Option Addr) (m c : Nat), e = .returned (.tuple #[.slice a m c, .int .i64 0]) ∧ Rd w' (fun b => w.heap.size ≤ b) (.sl 8 ds) (.slice a m c) ∧ Keeps (fun _ => False) w w'
  | .error x => e = .returned (.tuple #[.slice none 0 0, .int .i64 (x : Nat)]) ∧ Keeps (fun _ => False) w w'
/-- Scripts are read, so much deeper may they go. -/
def ScrOK (K : Nat) : Prop := ∀ (w : World) (B : Nat) (s : ByteArray) (d : Nat), Ev w B → s.size ≤ 140737488351232 → d + K = 40 →
  Calls Tryd.prog 14 #[.string s, .int .i64 (d : Nat)] w (ScrPost w (scriptF (commandF K) s.data.toList))
theorem scr_ok {K : Nat} {s : Bs} {w w' : World} {e : Ending} {u : Unit} (h : scrF (commandF K) s = .ok u) (hp : ScrPost w (scriptF (commandF K) s) e w') :
    ∃ (a : Option Addr) (m c : Nat), e = .returned (.tuple #[.slice a m c, .int .i64 0]) ∧ Keeps (fun _ => False) w w' := by
  unfold scrF at h
  cases hr : scriptF (commandF K) s with
  | ok ds =>
    rw [hr] at hp
    obtain ⟨a, m, c, he, _, hk⟩ := hp
    exact ⟨a, m, c, he, hk⟩
  | error x =>
    rw [hr] at hp h
    cases x with
    | zero => exact ⟨none, 0, 0, hp.1, hp.2⟩
    | succ x => cases h
theorem scr_err {K : Nat} {s : Bs} {w w' : World} {e : Ending} {y : Nat} (h : scrF (commandF K) s = .error y) (hp : ScrPost w (scriptF (commandF K) s) e w') :
    e = .returned (.tuple #[.slice none 0 0, .int .i64 (y : Nat)]) ∧ y ≠ 0 ∧ Keeps (fun _ => False) w w' := by
  unfold scrF at h
  cases hr : scriptF (commandF K) s with
  | ok ds => rw [hr] at h; cases h
  | error x =>
    rw [hr] at hp h
    cases x with
    | zero => cases h
    | succ x => cases h; exact ⟨hp.1, Nat.succ_ne_zero _, hp.2⟩
theorem subsF_nil (scr : Bs → Except Nat Unit) : subsF scr [] = .ok () := by simp [subsF]
theorem subsF_cons (scr : Bs → Except Nat Unit) (p : Pt) (l : List Pt) : subsF scr (p :: l) = match (if p.kind == 5 then scr p.text else .ok ()) with
    | .error e => .error e
    | .ok _ => match subsF scr p.word with
      | .error e => .error e
      | .ok _ => subsF scr l := by
  cases p with
  | mk k t n o w q =>
    simp only [subsF, subsP, Pt.kind, Pt.text, Pt.word]
    by_cases h : (k == 5) = true
    · simp only [h, if_true]; cases scr t <;> rfl
    · simp only [h]; rfl
def SubsPost (w : World) (res : Except Nat Unit) (e : Ending) (w' : World) : Prop := match res with
  | .ok _ => e = .returned (.tuple #[]) ∧ Keeps (fun _ => False) w w'
  | .error x => e = failedP x ∧ Keeps (fun _ => False) w w'

set_option maxRecDepth 100000 in
set_option maxHeartbeats 4000000 in
theorem subs_deep (K : Nat) (hscr : ScrOK K) (N : Nat) : ∀ (n : Nat), n < N → ∀ (w : World) (B cs : Nat) (tv : Value) (n' : Nat) (T : List Tk) (i d : Nat) (D : Nat → Prop) (l : List Pt) (v : Value), RS w B cs tv n' T i d → d + K = 40 → PtsAt w D n l v → Sm l →
    Calls Tryd.prog 96 #[.pointer (some ⟨cs, 0, none⟩), v] w (SubsPost w (subsF (scrF (commandF K)) l)) := by
  induction N with
  | zero => intro n hn; omega
  | succ N ih =>
    intro n hn w B cs tv n' T i d D l v hrs hd hp hsm
    obtain ⟨res, hres⟩ : ∃ res, res = subsF (scrF (commandF K)) l := ⟨_, rfl⟩
    rw [← hres]
    have hc6 := cells_part
    obtain ⟨va, vc, rfl, hv1, hv2⟩ := hp.shape
    have hlen := hsm.1
    have HSM := Lib.hid hsm.2
    have HRS := Lib.hid hrs
    have HP := Lib.hid hp
    have HSCR := Lib.hid hscr
    obtain ⟨L, hL⟩ : ∃ L, L = l.length := ⟨_, rfl⟩
    have HL := Lib.hid hL
    rw [← hL] at hlen hv1
    rw [← hL]
    have HRES0 := Lib.hid hres
    have HD := Lib.hid hd
    clear hrs hp hscr hsm hL hres hd
    go_enter Tryd.func96, Tryd.ntmps96
    go_wp2_with fail
    go_loopw [10] (fun k' wr => ∃ k : Nat, k' = .int .i64 k ∧ k ≤ L ∧ Hid (res = subsF (scrF (commandF K)) (l.drop k)) ∧ Hid (Keeps (fun _ => False) w wr)) (fun k' _ => L - (intOf k').toNat)
    case atStart => exact ⟨0, rfl, Nat.zero_le _, Lib.hid HRES0.out, Lib.hid (Keeps.refl _ _)⟩
    case round =>
      obtain ⟨k, rfl, hk, HT, HK⟩ := hrel
      by_cases hlt : k < L
      · have hlt2 : k < l.length := by rw [← HL.out]; exact hlt
        have hp := HP.out
        rw [← HL.out] at hp
        obtain ⟨g, o, xa, xl, xc, rfl, ⟨q0, q1, q2, q3, q4, q5⟩, hx, hn0, hg⟩ := hp.at HK.out hlt2
        have hsx := smL_mem HSM.out (List.getElem_mem hlt2)
        have hres : res = match (if l[k].kind == 5 then scrF (commandF K) l[k].text else .ok ()) with
            | .error e => .error e
            | .ok _ => match subsF (scrF (commandF K)) l[k].word with
              | .error e => .error e
              | .ok _ => subsF (scrF (commandF K)) (l.drop (k + 1)) := by
          rw [HT.out, List.drop_eq_getElem_cons hlt2, subsF_cons]
        obtain ⟨x, hxe⟩ : ∃ x, x = l[k] := ⟨_, rfl⟩
        rw [← hxe] at q0 q1 q2 q3 q5 hx hsx hres
        have hpl := hx.shape
        unfold strV at q1 q2 q3
        have p1 : (k : Int) < (L : Int) := by omega
        have HRES := Lib.hid hres
        have HSX := Lib.hid hsx
        have hcl := HRS.out.keep0 HK.out
        obtain ⟨r0, r1, r2, _, _⟩ := hcl.cells
        have hlt3 := hcl.lt
        obtain ⟨W, hW⟩ : ∃ W, W = wr.alloc (.cells #[.int .i64 (x.kind : Nat), .string ⟨x.text.toArray⟩, .string ⟨x.name.toArray⟩, .string ⟨x.op.toArray⟩, .slice xa xl xc, .bool x.quoted] 34) := ⟨_, rfl⟩
        have hkW : Keeps (fun _ => False) wr W := by rw [hW]; exact (Keeps.refl _ _).alloc _
        have hR : RecAt W wr.heap.size [.int .i64 (x.kind : Nat), .string ⟨x.text.toArray⟩, .string ⟨x.name.toArray⟩, .string ⟨x.op.toArray⟩, .slice xa xl xc, .bool x.quoted] := by rw [hW]; exact ⟨_, heap_alloc_new wr _⟩
        have HR := Lib.hid hR
        have hX2 := fun W2 (h : Keeps (fun _ => False) W W2) => ih (n - 1) (by omega) W2 B cs tv n' T i d D x.word (.slice xa xl xc) ((hcl.keep0 hkW).keep0 h) HD.out ((hx.keep hkW (fun _ _ _ h => h)).keep h (fun _ _ _ h => h)) hsx.2
        have HIH := Lib.hid (show ∀ W2, RS W2 B cs tv n' T i d → Keeps (fun _ => False) W W2 → _ from fun W2 _ h => hX2 W2 h)
        have HKW0 := Lib.hid (HK.out.trans hkW (fun _ _ h => h))
        have HRSW := Lib.hid (hcl.keep0 hkW)
        have HW := Lib.hid hW
        clear hres hx hsx hxe hpl hcl hkW hR hX2 hW hp
        by_cases k5 : x.kind = 5
        · have t0 : ((x.kind : Int) == 5) = true := by rw [beq_iff_eq]; omega
          have hres := HRES.out
          rw [k5, if_pos (by rfl)] at hres
          clear k5
          cases hsc : scrF (commandF K) x.text with
          | error y =>
            rw [hsc] at hres
            have HRX := Lib.hid hres
            have HSC := Lib.hid hsc
            clear hres hsc
            obtain ⟨⟨c0, c1, c2, c3, c4, c5⟩, _⟩ := HR.out.six
            obtain ⟨d0, d1, d2, _, _⟩ := HRSW.out.cells
            have hlt4 := HRSW.out.lt
            go_wp2_with fail
            rw [← HW.out]
            go_region_with (
              go_at_call 14
              refine (HSCR.out _ B ⟨x.text.toArray⟩ d ?_ (by rw [Lib.size_eq]; show x.text.length ≤ _; have hts := HSX.out.1; omega) HD.out).mono ?_
              exact HRSW.out.ev.keep (S := fun _ => False) (Keeps.refl _ _).drew (fun _ _ h => h)
              intro e w3 hp
              obtain ⟨he, hy, hk3⟩ := scr_err HSC.out hp
              subst he
              have t1 : ((y : Int) != 0) = true := by rw [bne_iff_ne]; omega
              have HK3 := Lib.hid (HKW0.out.trans ((Keeps.refl _ _).drew.trans hk3 (fun _ _ h => h)) (fun _ _ h => h))
              clear hp hk3 hy)
            all_goals
              go_wp2_with fail
              refine (pfail_any y _).mono ?_
              rintro e w4 ⟨rfl, rfl⟩
              go_wp2_with fail
              refine ⟨rfl, ?_⟩
              rw [HRX.out]
              exact ⟨rfl, HK3.out⟩
          | ok u =>
            rw [hsc] at hres
            replace HRES := Lib.hid hres
            have HSC := Lib.hid hsc
            clear hres hsc
            obtain ⟨⟨c0, c1, c2, c3, c4, c5⟩, _⟩ := HR.out.six
            obtain ⟨d0, d1, d2, _, _⟩ := HRSW.out.cells
            have hlt4 := HRSW.out.lt
            go_wp2_with fail
            rw [← HW.out]
            go_region_with (
              go_at_call 14
              refine (HSCR.out _ B ⟨x.text.toArray⟩ d ?_ (by rw [Lib.size_eq]; show x.text.length ≤ _; have hts := HSX.out.1; omega) HD.out).mono ?_
              exact HRSW.out.ev.keep (S := fun _ => False) (Keeps.refl _ _).drew (fun _ _ h => h)
              intro e w4 hp
              obtain ⟨a4, m4, c4', he, hk4⟩ := scr_ok HSC.out hp
              subst he
              have HKW := Lib.hid ((Keeps.refl (fun _ => False) W).drew.trans hk4 (fun _ _ h => h))
              have HKW2 := Lib.hid (HKW0.out.trans HKW.out (fun _ _ h => h))
              have HRS2 := Lib.hid (HRSW.out.keep0 HKW.out)
              obtain ⟨⟨e0, e1, e2, e3, e4, e5⟩, _⟩ := (HR.out.keep HKW.out (fun h => h)).six
              clear hp hk4)
            all_goals
              go_wp2_with fail
              refine (HIH.out _ (HRS2.out) (HKW.out)).mono ?_
              intro e w3 hp
              cases hr2 : subsF (scrF (commandF K)) x.word with
              | error y =>
                rw [hr2] at hp
                obtain ⟨he, hk3⟩ := hp
                subst he
                have HRX := Lib.hid (show res = .error y by rw [HRES.out, hr2])
                have HK3 := Lib.hid (HKW2.out.trans hk3 (fun _ _ h => h))
                clear hk3 hr2
                go_wp2_with fail
                refine ⟨rfl, ?_⟩
                rw [HRX.out]
                exact ⟨rfl, HK3.out⟩
              | ok u =>
                rw [hr2] at hp
                obtain ⟨he, hk3⟩ := hp
                subst he
                have HRX := Lib.hid (show res = subsF (scrF (commandF K)) (l.drop (k + 1)) by rw [HRES.out, hr2])
                have HK3 := Lib.hid (HKW2.out.trans hk3 (fun _ _ h => h))
                clear hk3 hr2
                go_wp2_with fail
                go_roundw
                case rel => exact ⟨k + 1, by go_num, by omega, Lib.hid HRX.out, Lib.hid HK3.out⟩
                case measure => simp [intOf]; omega
        · have t0 : ((x.kind : Int) == 5) = false := by rw [beq_eq_false_iff_ne]; omega
          have hres := HRES.out
          rw [if_neg (by simpa using k5)] at hres
          replace HRES := Lib.hid hres
          clear hres k5
          have HKW := Lib.hid (Keeps.refl (fun _ => False) W)
          have HKW2 := HKW0
          have HRS2 := HRSW
          obtain ⟨⟨e0, e1, e2, e3, e4, e5⟩, _⟩ := HR.out.six
          go_wp2_with fail
          rw [← HW.out]
          refine (HIH.out _ (HRS2.out) (HKW.out)).mono ?_
          intro e w3 hp
          cases hr2 : subsF (scrF (commandF K)) x.word with
          | error y =>
            rw [hr2] at hp
            obtain ⟨he, hk3⟩ := hp
            subst he
            have HRX := Lib.hid (show res = .error y by rw [HRES.out, hr2])
            have HK3 := Lib.hid (HKW2.out.trans hk3 (fun _ _ h => h))
            clear hk3 hr2
            go_wp2_with fail
            refine ⟨rfl, ?_⟩
            rw [HRX.out]
            exact ⟨rfl, HK3.out⟩
          | ok u =>
            rw [hr2] at hp
            obtain ⟨he, hk3⟩ := hp
            subst he
            have HRX := Lib.hid (show res = subsF (scrF (commandF K)) (l.drop (k + 1)) by rw [HRES.out, hr2])
            have HK3 := Lib.hid (HKW2.out.trans hk3 (fun _ _ h => h))
            clear hk3 hr2
            go_wp2_with fail
            go_roundw
            case rel => exact ⟨k + 1, by go_num, by omega, Lib.hid HRX.out, Lib.hid HK3.out⟩
            case measure => simp [intOf]; omega
      · obtain rfl : k = L := by omega
        have p1 : ¬ (k : Int) < (k : Int) := by omega
        have HRX := Lib.hid (show res = .ok () by rw [HT.out, List.drop_eq_nil_of_le (by rw [← HL.out]; exact Nat.le_refl _), subsF_nil])
        go_wp2_with fail
        go_end0
        rw [HRX.out]
        exact ⟨rfl, HK.out⟩
theorem subs_any (K : Nat) (hscr : ScrOK K) (w : World) (B cs : Nat) (tv : Value) (n n' : Nat) (T : List Tk) (i d : Nat) (D : Nat → Prop) (l : List Pt) (v : Value) (hrs : RS w B cs tv n' T i d) (hd : d + K = 40) (hp : PtsAt w D n l v) (hs : Sm l) :
    Calls Tryd.prog 96 #[.pointer (some ⟨cs, 0, none⟩), v] w (SubsPost w (subsF (scrF (commandF K)) l)) :=
  subs_deep K hscr (n + 1) n (Nat.lt_succ_self _) w B cs tv n' T i d D l v hrs hd hp hs
end Go.Proofs.YtcahifkiiabioaaDoor
namespace Go.Proofs.YtcahifkiiabioaaDoor
open Go.RowKit
set_option linter.unusedVariables false

/-- What word leaves. -/
def WordPost2 (w : World) (B cs : Nat) (tv : Value) (n : Nat) (T : List Tk) (i d : Nat) (res : PR (List Pt)) (e : Ending) (w' : World) : Prop := match res with
  | .ok (x, r) => ∃ (a : Option Addr) (c m : Nat), MovePost w B cs tv n T i d (.slice a x.length c) r e w' ∧ PtsAt w' (fun b => w.heap.size ≤ b) m x (.slice a x.length c) ∧ Sm x
  | .error x => e = failedP x ∧ Keeps (fun b => b = cs) w w'
theorem atF_mem {T : List Tk} {i : Nat} (h : SmT T) : Sm (atF (T.drop i)).word ∧ (atF (T.drop i)).text.length ≤ 40000 := by
  rcases Nat.lt_or_ge i T.length with hi | hi
  · rw [atF_in hi]
    have := h.2 _ (List.getElem_mem hi)
    exact ⟨this.2, this.1⟩
  · rw [atF_end hi]
    exact ⟨Sm.nil, Nat.zero_le _⟩

set_option maxRecDepth 100000 in
set_option maxHeartbeats 4000000 in
theorem word_tok (K : Nat) (hscr : ScrOK K) (w : World) (B cs n i d : Nat) (tv : Value) (T : List Tk) (h : RS w B cs tv n T i d) (hd : d + K = 40) :
    Calls Tryd.prog 91 #[.pointer (some ⟨cs, 0, none⟩)] w (WordPost2 w B cs tv n T i d (wordF (scrF (commandF K)) (T.drop i))) := by
  obtain ⟨res, hres⟩ : ∃ res, res = wordF (scrF (commandF K)) (T.drop i) := ⟨_, rfl⟩
  rw [← hres]
  unfold wordF at hres
  have hat := at_tok w B cs n i d tv T h
  have hsm := atF_mem (i := i) h.sm
  have HPOS := Lib.hid (fun k => kind_pos (ts := T.drop i) k)
  obtain ⟨tk, htk⟩ : ∃ tk, tk = atF (T.drop i) := ⟨_, rfl⟩
  rw [← htk] at hres hat hsm HPOS
  have HAT := Lib.hid hat
  have HH := Lib.hid h
  have HSM := Lib.hid hsm.1
  have HSCR := Lib.hid hscr
  have HD := Lib.hid hd
  clear hat h htk hsm hscr hd
  by_cases k : tk.kind = 1
  · have t0 : ((tk.kind : Int) == 1) = true := by rw [beq_iff_eq]; omega
    rcases Nat.eq_zero_or_pos tk.word.length with h0 | h0
    · have he : tk.word.isEmpty = true := by rw [List.eq_nil_of_length_eq_zero h0]; rfl
      rw [he, if_neg (by simp)] at hres
      have HRES := Lib.hid hres
      clear hres he k HPOS
      go_enter Tryd.func91, Tryd.ntmps91
      go_wp2_with fail
      refine HAT.out.mono ?_
      rintro e w1 ⟨a, c, rfl, hp, hk⟩
      rw [h0]
      have HK := Lib.hid hk
      clear hp hk
      go_wp2_with fail
      refine (need_no _).mono ?_
      rintro e w2 ⟨rfl, rfl⟩
      go_wp2_with fail
      refine ⟨rfl, ?_⟩
      rw [HRES.out]
      exact ⟨rfl, (HK.out.alloc _).mono (fun _ _ h => h.elim)⟩
    · have he : tk.word.isEmpty = false := by
        cases hw : tk.word with
        | nil => rw [hw] at h0; simp at h0
        | cons a b => rfl
      rw [he, k, if_pos (by rfl)] at hres
      have hpos := HPOS.out (by rw [k]; rfl)
      have HP1 := Lib.hid hpos
      obtain ⟨L, hL⟩ : ∃ L, L = tk.word.length := ⟨_, rfl⟩
      rw [← hL] at h0
      have p1 : (0 : Int) < (L : Int) := by omega
      have HL := Lib.hid hL
      have HRES0 := Lib.hid hres
      clear hres he k HPOS hL hpos
      go_enter Tryd.func91, Tryd.ntmps91
      go_wp2_with fail
      refine HAT.out.mono ?_
      rintro e w1 ⟨a, c, rfl, hp, hk⟩
      rw [← HL.out]
      rw [← HL.out] at hp
      have hks := hk.size
      obtain ⟨W, hW⟩ : ∃ W, W = w1.alloc (.cells #[.int .i64 (tk.kind : Nat), .string ⟨tk.text.toArray⟩, .slice a L c] 65) := ⟨_, rfl⟩
      have hkW : Keeps (fun _ => False) w1 W := by rw [hW]; exact (Keeps.refl _ _).alloc _
      have hR : RecAt W w1.heap.size [.int .i64 (tk.kind : Nat), .string ⟨tk.text.toArray⟩, .slice a L c] := by rw [hW]; exact new_rec3 _ _ _ _ _
      have HK := Lib.hid (hk.trans hkW (fun _ _ h => h))
      have HR := Lib.hid hR
      have HPW := Lib.hid (hp.keep hkW (fun _ _ _ h => h))
      have hrs := HH.out.keep0 HK.out
      have HRS := Lib.hid hrs
      have HW := Lib.hid hW
      have HNB := Lib.hid (show cs < w1.heap.size from Nat.lt_of_lt_of_le HH.out.lt hks)
      have HNW := Lib.hid hks
      obtain ⟨⟨c0, c1, c2⟩, hlt⟩ := hR.three'
      clear hp hk hks hkW hR hrs hW
      go_wp2_with fail
      rw [← HW.out]
      refine (need_yes _).mono ?_
      rintro e w2 ⟨rfl, rfl⟩
      obtain ⟨d0, d1, d2, f1, f2⟩ := HRS.out.cells
      have hI := HRS.out.i
      have hT := HRS.out.sm.1
      have hlt2 := HRS.out.lt
      have hne : w1.heap.size ≠ cs := by have := HNB.out; omega
      have p0 : (i : Int) ≤ 20000 := by omega
      have p00 : (0 : Int) ≤ (i : Int) := by omega
      go_wp2_with fail
      obtain ⟨h2, k2⟩ := HRS.out.next HP1.out
      obtain ⟨W2, hW2⟩ : ∃ W2, W2 = W.setCell ⟨cs, 1, none⟩ (.int .i64 ((i : Int) + 1)) := ⟨_, rfl⟩
      rw [← hW2] at h2 k2
      have hB := HH.out.cs
      have hp2 := HPW.out.keep k2 (fun b _ hb e => by omega)
      have HRS2 := Lib.hid h2
      have HK2 := Lib.hid ((HK.out.mono (fun _ _ h => h.elim)).trans k2 (fun _ _ h => h))
      have HP2 := Lib.hid hp2
      have HR2 := Lib.hid (HR.out.keep k2 (fun h => by have := HNB.out; omega))
      try rw [← hW2]
      clear h2 k2 hW2 hp2
      refine (subs_any K HSCR.out W2 B cs tv _ _ T (i + 1) d _ tk.word (.slice a L c) HRS2.out HD.out HP2.out HSM.out).mono ?_
      intro e w3 hp
      have hres := HRES0.out
      cases hs : subsF (scrF (commandF K)) tk.word with
      | error y =>
        rw [hs] at hp hres
        obtain ⟨rfl, hk3⟩ := hp
        have HRX := Lib.hid (show res = .error y from hres)
        have HK3 := Lib.hid (HK2.out.trans hk3 (fun _ _ h => h.elim))
        clear hs hres hk3
        go_wp2_with fail
        refine ⟨rfl, ?_⟩
        rw [HRX.out]
        exact ⟨rfl, HK3.out⟩
      | ok u =>
        rw [hs] at hp hres
        obtain ⟨rfl, hk3⟩ := hp
        have HRX := Lib.hid (show res = .ok (tk.word, (T.drop i).tail) from hres)
        have HK3 := Lib.hid (HK2.out.trans hk3 (fun _ _ h => h.elim))
        obtain ⟨⟨e0, e1, e2⟩, hlt3⟩ := (HR2.out.keep hk3 (fun h => h)).three'
        have HP3 := Lib.hid (HP2.out.keep hk3 (fun _ _ _ h => h))
        have HRS3 := Lib.hid (HRS2.out.keep0 hk3)
        clear hs hres hk3
        go_wp2_with fail
        refine (cloneP_any _ _ tk.word (.slice a L c) w3 HP3.out HSM.out).mono ?_
        rintro e w4 ⟨a4, c4, m4, rfl, hp4, hk4⟩
        have HK4 := Lib.hid (HK3.out.trans hk4 (fun _ _ h => h.elim))
        have HP4 := Lib.hid hp4
        have HRS4 := Lib.hid (HRS3.out.keep0 hk4)
        rw [← HL.out]
        clear hp4 hk4
        go_wp2_with fail
        go_ret
        rw [HRX.out, drop_tail]
        have hsz := HK3.out.size
        rw [HL.out]
        exact ⟨a4, c4, m4, ⟨rfl, i + 1, Nat.le_succ _, rfl, HRS4.out, HK4.out⟩, HP4.out.mono (fun b _ hb => Nat.le_trans hsz hb), HSM.out⟩
  · have t0 : ((tk.kind : Int) == 1) = false := by rw [beq_eq_false_iff_ne]; omega
    rw [beq_eq_false_iff_ne.2 k, if_neg (by simp)] at hres
    have HRES := Lib.hid hres
    clear hres k HPOS
    go_enter Tryd.func91, Tryd.ntmps91
    go_wp2_with fail
    refine HAT.out.mono ?_
    rintro e w1 ⟨a, c, rfl, hp, hk⟩
    have HK := Lib.hid hk
    clear hp hk
    go_wp2_with fail
    refine (need_no _).mono ?_
    rintro e w2 ⟨rfl, rfl⟩
    go_wp2_with fail
    refine ⟨rfl, ?_⟩
    rw [HRES.out]
    exact ⟨rfl, (HK.out.alloc _).mono (fun _ _ h => h.elim)⟩
end Go.Proofs.YtcahifkiiabioaaDoor
namespace Go.Proofs.YtcahifkiiabioaaDoor
open Go.RowKit
set_option linter.unusedVariables false

/-- What a function of the parser leaves that makes a record of so many cells. -/
def RecPost (w : World) (B cs : Nat) (tv : Value) (n : Nat) (T : List Tk) (i d : Nat) (shape : List Value → Prop) (res : PR (List Dt)) (e : Ending) (w' : World) : Prop := match res with
  | .ok (ds, r) => ∃ vs, MovePost w B cs tv n T i d (.agg vs.toArray) r e w' ∧ shape vs ∧ RdL w' (fun b => w.heap.size ≤ b) ds vs
  | .error x => e = failedP x ∧ Keeps (fun b => b = cs) w w'
theorem RecAt.two {w : World} {b : Nat} {a0 a1 : Value} (h : RecAt w b [a0, a1]) : (w.cell? ⟨b, 0, none⟩ = some a0 ∧ w.cell? ⟨b, 1, none⟩ = some a1) ∧ (w.frozen? ⟨b, 0, none⟩ = false ∧ w.frozen? ⟨b, 1, none⟩ = false) := by
  obtain ⟨T, h⟩ := h
  refine ⟨⟨?_, ?_⟩, ?_, ?_⟩ <;> simp [World.cell?, World.frozen?, h]
theorem set2_keeps (w : World) (b : Nat) (u0 u1 : Value) : Keeps (fun x => x = b) w ((w.setCell ⟨b, 0, none⟩ u0).setCell ⟨b, 1, none⟩ u1) := by
  have h0 := (Keeps.refl (fun x => x = b) w).set1 0 u0 rfl
  exact h0.set1 1 u1 rfl
def RdrS (vs : List Value) : Prop := ∃ (s : ByteArray) (a : Option Addr) (m c : Nat), vs = [.string s, .slice a m c]

set_option maxRecDepth 100000 in
set_option maxHeartbeats 4000000 in
theorem redir_any (K : Nat) (hscr : ScrOK K) (w : World) (B cs n i d : Nat) (tv : Value) (T : List Tk) (h : RS w B cs tv n T i d) (hd : d + K = 40) (hpos : 1 ≤ (T.drop i).length) :
    Calls Tryd.prog 90 #[.pointer (some ⟨cs, 0, none⟩)] w (RecPost w B cs tv n T i d RdrS (redirF (scrF (commandF K)) (T.drop i))) := by
  obtain ⟨res, hres⟩ : ∃ res, res = redirF (scrF (commandF K)) (T.drop i) := ⟨_, rfl⟩
  rw [← hres]
  unfold redirF at hres
  rw [drop_tail] at hres
  have hat := at_tok w B cs n i d tv T h
  obtain ⟨tk, htk⟩ : ∃ tk, tk = atF (T.drop i) := ⟨_, rfl⟩
  rw [← htk] at hres hat
  have hf1 := field_text
  have HAT := Lib.hid hat
  have HH := Lib.hid h
  have HSCR := Lib.hid hscr
  have HD := Lib.hid hd
  have HPOS := Lib.hid hpos
  have HRES := Lib.hid hres
  have HTK := Lib.hid htk.symm
  clear hat h htk hscr hd hpos hres
  go_enter Tryd.func90, Tryd.ntmps90
  go_wp2_with fail
  obtain ⟨W, hW⟩ : ∃ W, W = w.alloc (.cells #[.string ⟨#[]⟩, .slice none 0 0] 47) := ⟨_, rfl⟩
  have hkW : Keeps (fun _ => False) w W := by rw [hW]; exact (Keeps.refl _ _).alloc _
  have hR : RecAt W w.heap.size [.string ⟨#[]⟩, .slice none 0 0] := by rw [hW]; exact ⟨_, heap_alloc_new w _⟩
  rw [← hW]
  have HRS := Lib.hid (HH.out.keep0 hkW)
  have HR := Lib.hid hR
  have HKW := Lib.hid hkW
  clear hkW hR hW HAT
  refine (at_tok W B cs n i d tv T HRS.out).mono ?_
  rw [HTK.out]
  rintro e w1 ⟨a, c, rfl, hp, hk⟩
  have HK1 := Lib.hid (HKW.out.trans hk (fun _ _ h => h))
  have HRS1 := Lib.hid (HRS.out.keep0 hk)
  have HR1 := Lib.hid (HR.out.keep hk (fun h => h))
  clear hp hk
  obtain ⟨d0, d1, d2, f1, f2⟩ := HRS1.out.cells
  have hI := HRS1.out.i
  have hT := HRS1.out.sm.1
  have p0 : (i : Int) ≤ 20000 := by omega
  have p00 : (0 : Int) ≤ (i : Int) := by omega
  go_wp2_with fail
  obtain ⟨h2, k2⟩ := HRS1.out.next HPOS.out
  obtain ⟨W2, hW2⟩ : ∃ W2, W2 = w1.setCell ⟨cs, 1, none⟩ (.int .i64 ((i : Int) + 1)) := ⟨_, rfl⟩
  rw [← hW2] at h2 k2
  rw [← hW2]
  have HRS2 := Lib.hid h2
  have hlt := HH.out.lt
  have HR2 := Lib.hid (HR1.out.keep k2 (fun h => by omega))
  have HK2 := Lib.hid ((HK1.out.mono (fun _ _ h => h.elim)).trans k2 (fun _ _ h => h))
  clear h2 k2 hW2 d0 d1 d2 f1 f2
  refine (word_tok K HSCR.out W2 B cs n (i + 1) d tv T HRS2.out HD.out).mono ?_
  intro e w3 hp
  cases hw : wordF (scrF (commandF K)) (T.drop (i + 1)) with
  | error y =>
    rw [hw] at hp
    obtain ⟨rfl, hk3⟩ := hp
    have HRX := Lib.hid (show res = .error y by rw [HRES.out, hw])
    have HK3 := Lib.hid (HK2.out.trans hk3 (fun _ _ h => h))
    clear hw hk3
    go_wp2_with fail
    refine ⟨rfl, ?_⟩
    rw [HRX.out]
    exact ⟨rfl, HK3.out⟩
  | ok xr =>
    obtain ⟨x, r⟩ := xr
    rw [hw] at hp
    obtain ⟨a3, c3, m3, ⟨rfl, j, hj, ht, hrs, hk3⟩, hp3, hsm⟩ := hp
    have HRX := Lib.hid (show res = .ok ([.str tk.text, wordR x], r) by rw [HRES.out, hw])
    have HK3 := Lib.hid (HK2.out.trans hk3 (fun _ _ h => h))
    have HR3 := Lib.hid (HR2.out.keep hk3 (fun h => by omega))
    have HRS3 := Lib.hid hrs
    have HP3 := Lib.hid hp3
    have HT := Lib.hid ht
    have HJ := Lib.hid hj
    obtain ⟨L, hL⟩ : ∃ L, L = x.length := ⟨_, rfl⟩
    rw [← hL]
    have HL := Lib.hid hL
    obtain ⟨⟨e0, e1⟩, g0, g1⟩ := HR3.out.two
    have hlt3 := HR3.out.lt
    clear hw hk3 hrs hp3 ht hL hsm hj
    go_wp2_with fail
    refine bodyPost_ret (v := .agg #[.string ⟨tk.text.toArray⟩, .slice a3 L c3]) (by simp [results, Tryd.results90, go_sem, e0, e1]) rfl ?_
    show RecPost w B cs tv n T i d RdrS res _ _
    rw [HRX.out]
    have hk4 := set2_keeps w3 w.heap.size (.string ⟨tk.text.toArray⟩) (.slice a3 L c3)
    have hB := HH.out.cs
    have hsz := HK2.out.size
    have hBs := HH.out.ev.low.2.2
    refine ⟨[.string ⟨tk.text.toArray⟩, .slice a3 L c3], ⟨rfl, j, by have := HJ.out; omega, HT.out, HRS3.out.keep hk4 (fun b hb e => by omega) (fun e => by omega), HK3.out.fresh hk4 (fun b e => by omega)⟩, ⟨_, _, _, _, rfl⟩, .str _, ?_, trivial⟩
    rw [HL.out]
    have hp := (HP3.out.mono (D' := fun b => w.heap.size < b) (fun b _ hb => by have h1 := HR2.out.lt; omega)).keep hk4 (fun b _ hb e => by omega)
    rw [HL.out] at hp
    exact rd_pts (hp.mono (fun b _ hb => by omega))
end Go.Proofs.YtcahifkiiabioaaDoor
namespace Go.Proofs.YtcahifkiiabioaaDoor
open Go.RowKit
set_option linter.unusedVariables false

theorem index_eq : ∀ l : Bs, Lib.index l [61] = match cutEq l with | none => -1 | some p => (p.1.length : Int)
  | [] => rfl
  | c :: t => by
    unfold Lib.index cutEq
    rw [index_eq t]
    by_cases h : c = 61
    · subst h; rfl
    · have h1 : ([61] : Bs).isPrefixOf (c :: t) = false := by
        show (61 == c && true) = false
        rw [Bool.and_true, beq_eq_false_iff_ne]; exact fun e => h e.symm
      have h2 : (c == 61) = false := beq_eq_false_iff_ne.2 h
      cases hc : cutEq t with
      | none => simp [h1, h2]
      | some p =>
        have h3 : ((p.1.length : Int) == -1) = false := by rw [beq_eq_false_iff_ne]; omega
        simp only [h1, h2, h3, Bool.false_eq_true, if_false, Option.map_some, List.length_cons]
        rfl
theorem cutEq_some : ∀ {l : Bs} {p : Bs × Bs}, cutEq l = some p → l = p.1 ++ 61 :: p.2
  | c :: t, p, h => by
    unfold cutEq at h
    split at h
    · next hc => cases h; rw [beq_iff_eq.1 hc]; rfl
    · cases h2 : cutEq t with
      | none => rw [h2] at h; cases h
      | some q => rw [h2] at h; cases h; rw [cutEq_some h2]; rfl
theorem cut_none {l : Bs} (h : cutEq l = none) : Lib.cut l [61] = (l, [], false) := by
  unfold Lib.cut
  rw [index_eq, h, if_neg (by decide)]
theorem cut_some {l : Bs} {p : Bs × Bs} (h : cutEq l = some p) : Lib.cut l [61] = (p.1, p.2, true) := by
  unfold Lib.cut
  rw [index_eq, h]
  dsimp only
  rw [if_pos (Int.natCast_nonneg _), Int.toNat_natCast]
  have e := cutEq_some h
  have e1 : l.take p.1.length = p.1 := by rw [e]; simp
  have e2 : l.drop (p.1.length + ([61] : Bs).length) = p.2 := by rw [e]; simp
  rw [e1, e2]
/-- The cells of a slice of parts. -/
theorem pts_cells {w : World} {D : Nat → Prop} {n : Nat} {l : List Pt} {g o c : Nat} (h : PtsAt w D n l (.slice (some ⟨g, o, none⟩) l.length c)) : ∃ vs : List Value, vs.length = l.length ∧
    (∀ W, Keeps (fun _ => False) w W → ∀ j u, (cellsL l vs)[j]? = some u → W.cell? ((⟨g, o, none⟩ : Addr).add j) = some u) ∧ (∀ u ∈ cellsL l vs, u.oneCell' = true) ∧ ∀ i (hi : i < l.length) (hi' : i < vs.length), PtsAt w D n l[i].word vs[i] := by
  cases n with
  | zero =>
    obtain ⟨rfl, _⟩ := h
    exact ⟨[], rfl, fun W _ j u hj => (by simp [cellsL] at hj), fun u hu => (by simp [cellsL] at hu), fun i hi => absurd hi (Nat.not_lt_zero _)⟩
  | succ n =>
  obtain ⟨a, c, e, hc1, hc2, H⟩ := h
  injection e with e1 e2 e3
  have Hw : ∀ i (hi : i < l.length), ∃ wv, PtCells w g (o + i * 6) l[i] wv ∧ PtsAt w D n l[i].word wv ∧ g < w.heap.size := fun i hi => by
    obtain ⟨g', o', wv, e, hb, _, hp, hq⟩ := H i hi
    obtain ⟨rfl, rfl⟩ : g = g' ∧ o = o' := by simpa using e1.trans e
    exact ⟨wv, hp, hq, hb⟩
  obtain ⟨vs, hl, hvs⟩ : ∃ vs : List Value, vs.length = l.length ∧ ∀ i (hi : i < l.length) (hi' : i < vs.length), PtCells w g (o + i * 6) l[i] vs[i] ∧ PtsAt w D n l[i].word vs[i] ∧ g < w.heap.size :=
    ⟨List.ofFn (fun i : Fin l.length => Classical.choose (Hw i.1 i.2)), by simp, fun i hi hi' => by
      have := Classical.choose_spec (Hw i hi)
      simpa using this⟩
  refine ⟨vs, hl, fun W hk j u hj => ?_, cells_one hl fun i hi hi' => ?_, fun i hi hi' => (hvs i hi hi').2.1.succ⟩
  · obtain ⟨i, r, hi, rfl, hu⟩ := cellsL_inv hl hj
    obtain ⟨h1, _, h3⟩ := hvs i hi (by omega)
    have := h1 r u hu
    rw [show o + i * 6 + r = o + (i * 6 + r) by omega] at this
    rw [Addr.add_lit, World.cell?_of_block (hk.block g h3 (fun h => h))]; exact this
  · obtain ⟨a2, c2, e2, _, _⟩ := (hvs i hi hi').2.1.shape
    exact ⟨_, _, _, e2⟩
/-- What assign tells. -/
def AsgPost (w : World) (D : Nat → Prop) (res : Option (Bs × List Pt)) (e : Ending) (w' : World) : Prop := match res with
  | none => e = .returned (.tuple #[.agg #[.string ⟨#[]⟩, .slice none 0 0], .bool false]) ∧ Keeps (fun _ => False) w w'
  | some (nm, v) => ∃ (a : Option Addr) (c m : Nat), e = .returned (.tuple #[.agg #[.string ⟨nm.toArray⟩, .slice a v.length c], .bool true]) ∧ PtsAt w' (fun b => D b ∨ w.heap.size ≤ b) m v (.slice a v.length c) ∧ Keeps (fun _ => False) w w'
theorem PtsAt.tail {w : World} {D : Nat → Prop} {n g o c : Nat} {p : Pt} {t : List Pt} (h : PtsAt w D n (p :: t) (.slice (some ⟨g, o, none⟩) (p :: t).length c)) (a : Option Addr) (ha : a = some ⟨g, o + 6, none⟩ ∨ t = []) : PtsAt w D n t (.slice a t.length (c - 1)) := by
  cases n with
  | zero => obtain ⟨e, _⟩ := h; cases e
  | succ n =>
    obtain ⟨a', c', e, h1, h2, H⟩ := h
    injection e with e1 e2 e3
    subst e1 e3
    rw [List.length_cons] at h1
    refine ⟨a, c - 1, rfl, by omega, by omega, fun i hi => ?_⟩
    rcases ha with rfl | rfl
    · obtain ⟨b, off, wv, e, hb, hd, hc, hw⟩ := H (i + 1) (by rw [List.length_cons]; omega)
      obtain ⟨rfl, rfl⟩ : g = b ∧ o = off := by simpa using e
      refine ⟨g, o + 6, wv, rfl, hb, hd, ?_, hw⟩
      rw [show o + 6 + i * 6 = o + (i + 1) * 6 by omega]
      exact hc
    · simp at hi

theorem lit_after (w2 : World) (A : Obj) (cs : Array Value) (n : Nat) {e : TypeId} {size : Nat} (hm : n ≤ maxLen) (hs : cs.size = n * size) :
    ((w2.alloc A).alloc (.cells cs e)).ownsRow (w2.heap.size + 1) e size (.slice (some ⟨w2.heap.size + 1, 0, none⟩) n n) n cs.toList := by
  have := World.ownsRow_lit (base := w2.heap.size + 1) (e := e) (w2.alloc A) cs n (by simp) hm hs
  simpa using this
theorem asg_kept {w w2 w5 : World} {t1 t2 : TypeId} {cs : Array Value} {v : Value} {u0 u1 x y : Value} (hg : ((w2.alloc (.cells #[x, y] t1)).alloc (.cells cs t2)).grownBy w5 v.ownBlock) (hlt : w.heap.size < w2.heap.size) (hR : RecAt w2 w.heap.size [u0, u1])
    (hv : v.ownBlock = some (w2.heap.size + 1)) :
    ((w5.cell? ⟨w2.heap.size, 0, none⟩ = some x ∧ w5.cell? ⟨w2.heap.size, 1, none⟩ = some y) ∧ w5.frozen? ⟨w2.heap.size, 0, none⟩ = false ∧ w5.frozen? ⟨w2.heap.size, 1, none⟩ = false) ∧
    ((w5.cell? ⟨w.heap.size, 0, none⟩ = some u0 ∧ w5.cell? ⟨w.heap.size, 1, none⟩ = some u1) ∧ w5.frozen? ⟨w.heap.size, 0, none⟩ = false ∧ w5.frozen? ⟨w.heap.size, 1, none⟩ = false) ∧
    w2.heap.size < w5.heap.size ∧ w.heap.size < w5.heap.size ∧ Keeps (fun b => b = w2.heap.size + 1) w2 w5 := by
  have hk : Keeps (fun b => b = w2.heap.size + 1) w2 w5 := (((Keeps.refl _ w2).alloc _).alloc _).grown hg (fun k hk hlt => by rw [hv] at hk; have := Option.some.inj hk; omega)
  have hk2 : Keeps (fun b => b = w2.heap.size + 1) (w2.alloc (.cells #[x, y] t1)) w5 := ((Keeps.refl _ (w2.alloc (.cells #[x, y] t1))).alloc _).grown hg (fun k hk hlt => by rw [hv] at hk; have := Option.some.inj hk; omega)
  have h7 := (show RecAt (w2.alloc (.cells #[x, y] t1)) w2.heap.size [x, y] from ⟨_, heap_alloc_new w2 _⟩).keep hk2 (by omega)
  have h8 := hR.keep hk (by omega)
  exact ⟨h7.two, h8.two, h7.lt, h8.lt, hk⟩
theorem asg_row {w w2 w5 : World} {D S : Nat → Prop} {n g5 cap5 N : Nat} {t : List Pt} {vs xs : List Value} {rst : Bs} (hN : N = (txtP rst :: t).length)
    (hown : w5.ownsRow (w2.heap.size + 1) 34 6 (.slice (some ⟨g5, 0, none⟩) N cap5) N (#[.int .i64 1, .string ⟨rst.toArray⟩, .string ⟨#[]⟩, .string ⟨#[]⟩, .slice none 0 0, .bool false].toList ++ xs)) (hxs : xs = cellsL t vs)
    (hvl : vs.length = t.length) (hvn : ∀ i (hi : i < t.length) (hi' : i < vs.length), PtsAt w D n t[i].word vs[i]) (hk2 : Keeps (fun _ => False) w w2) (hk : Keeps S w2 w5) (hS : ∀ b, S b → w2.heap.size ≤ b) :
    ∃ m, PtsAt w5 (fun b => D b ∧ b < w.heap.size ∨ w2.heap.size + 1 ≤ b) m (txtP rst :: t) (.slice (some ⟨g5, 0, none⟩) N cap5) := by
  obtain ⟨hlow, hg⟩ := owns_low hown
  have hg5 := hg g5 rfl
  have hsz := hk2.size
  subst hN
  have hO : OwnPts w5 (fun b => D b ∧ b < w.heap.size ∨ w2.heap.size + 1 ≤ b) (.slice (some ⟨g5, 0, none⟩) (txtP rst :: t).length cap5) (txtP rst :: t) := by
    refine ⟨.slice none 0 0 :: vs, n, by simp [hvl], ?_, fun i hi hi' => ?_⟩
    · rw [hxs] at hlow
      exact hlow
    · cases i with
      | zero => exact PtsAt.nil _ _ _
      | succ i =>
        rw [List.length_cons] at hi hi'
        have h1 : PtsAt w (fun b => D b ∧ b < w.heap.size) n t[i].word vs[i] := (hvn i (by omega) (by omega)).mono fun b hb hd => ⟨hd, hb⟩
        have h2 := (h1.keep hk2 (fun _ _ _ h => h)).keep hk (fun b _ hb s => by have := hS b s; omega)
        exact h2.mono fun b _ hb => ⟨.inl ⟨hb.1, hb.2⟩, fun e => by have h3 : g5 = b := Option.some.inj e; omega⟩
  exact hO.reads (fun x hx => by have h3 : g5 = x := Option.some.inj hx; exact .inr (by omega))
set_option maxRecDepth 100000 in
set_option maxHeartbeats 4000000 in
theorem assign_any (w : World) (B n : Nat) (D : Nat → Prop) (l : List Pt) (a : Option Addr) (c : Nat) (hev : Ev w B) (hp : PtsAt w D n l (.slice a l.length c)) (hsm : Sm l) (hne : l ≠ []) :
    Calls Tryd.prog 92 #[.slice a l.length c] w (AsgPost w D (assignF l)) := by
  obtain ⟨res, hres⟩ : ∃ res, res = assignF l := ⟨_, rfl⟩
  rw [← hres]
  cases l with
  | nil => exact absurd rfl hne
  | cons p t =>
    unfold assignF at hres
    dsimp only at hres
    obtain ⟨m, hm⟩ := hev.big
    have hsl := hsm.1
    have hst := smL_mem hsm.2 (List.mem_cons_self ..)
    obtain ⟨g, o, xa, xl, xc, rfl, ⟨q0, q1, q2, q3, q4, q5⟩, hx, hn0, hg⟩ := hp.at (Keeps.refl _ _) (i := 0) (Nat.succ_pos _)
    have q0' : w.cell? ⟨g, o, none⟩ = some (.int .i64 (p.kind : Nat)) := q0
    have q1' : w.cell? ⟨g, o + 1, none⟩ = some (.string ⟨p.text.toArray⟩) := q1
    have hc6 := cells_part
    have HM := Lib.hid hm
    have hcap := hp.shape
    have hc1 : (p :: t).length ≤ c := by
      obtain ⟨a', c', e, h1, h2⟩ := hcap
      injection e with e1 e2 e3
      omega
    have hc2 : c ≤ maxLen := by
      obtain ⟨a', c', e, h1, h2⟩ := hcap
      injection e with e1 e2 e3
      omega
    have HPT := Lib.hid hp
    have hmg : 0 < w.heap.size := by have := hev.low; omega
    obtain ⟨L, hL⟩ : ∃ L, L = (p :: t).length := ⟨_, rfl⟩
    rw [← hL] at hc1 hsl
    rw [← hL]
    have p1 : 0 < L := by rw [hL]; simp
    have HL := Lib.hid hL
    have HST := Lib.hid hst.1
    clear q0 q1 q2 q3 q4 q5 hx hp hsm hne hcap hm hL hst hev
    by_cases k : p.kind = 1
    · have t0 : ((p.kind : Int) != 1) = false := by rw [bne_eq_false_iff_eq]; omega
      rw [k, if_pos (by rfl)] at hres
      clear k
      have hcutc := fun W (hW : W.cell? ⟨0, 0, none⟩ = some (.int .i64 m)) => Tryd.strings_Cut ⟨p.text.toArray⟩ ⟨#[61]⟩ m W (by rw [Lib.size_eq]; show p.text.length < _; have := HST.out; omega) hW
      cases hcut : cutEq p.text with
      | none =>
        rw [hcut] at hres
        have HRES := Lib.hid (show res = none from hres)
        have e := cut_none hcut
        have HCUT := Lib.hid hcutc
        have HE := Lib.hid (show Lib.cut (⟨p.text.toArray⟩ : ByteArray).data.toList (⟨#[61]⟩ : ByteArray).data.toList = (p.text, [], false) from e)
        clear hres hcut hcutc e
        go_enter Tryd.func92, Tryd.ntmps92
        go_wp2_with fail
        refine (HCUT.out _ (by rw [World.cell?_of_block (((Keeps.refl (fun _ => False) w).alloc _).block _ hmg (fun h => h))]; exact HM.out)).mono ?_
        rw [HE.out]
        rintro e w1 ⟨rfl, q, hw1⟩
        subst hw1
        go_wp2_with fail
        refine bodyPost_ret (v := .tuple #[.agg #[.string ⟨#[]⟩, .slice none 0 0], .bool false]) (by simp [results, Tryd.results92, go_sem]) rfl ?_
        rw [HRES.out]
        exact ⟨rfl, (((Keeps.refl _ w).alloc _).drewN q).fresh (set2_keeps _ w.heap.size (.string ⟨#[]⟩) (.slice none 0 0)) (fun b e => by omega)⟩
      | some pr =>
        obtain ⟨nm, rst⟩ := pr
        rw [hcut] at hres
        dsimp only at hres
        have e := cut_some hcut
        have HCUT := Lib.hid hcutc
        have HE := Lib.hid (show Lib.cut (⟨p.text.toArray⟩ : ByteArray).data.toList (⟨#[61]⟩ : ByteArray).data.toList = (nm, rst, true) from e)
        have hnl : nm.length ≤ 140737488351232 := by
          have h := congrArg List.length (cutEq_some hcut)
          rw [List.length_append] at h
          have := HST.out
          have h2 : p.text.length = nm.length + (61 :: rst).length := h
          omega
        clear hcut hcutc e
        cases hok : nameOkF nm with
        | false =>
          rw [hok, if_neg (by simp)] at hres
          have HRES := Lib.hid hres
          have hvn := fun W => vname_any nm W false hnl hok
          have HVN := Lib.hid hvn
          clear hres hok hvn
          go_enter Tryd.func92, Tryd.ntmps92
          go_wp2_with fail
          refine (HCUT.out _ (by rw [World.cell?_of_block (((Keeps.refl (fun _ => False) w).alloc _).block _ hmg (fun h => h))]; exact HM.out)).mono ?_
          rw [HE.out]
          rintro e w1 ⟨rfl, q, hw1⟩
          subst hw1
          go_wp2_with fail
          refine (HVN.out _).mono ?_
          rintro e w2 ⟨rfl, hk2⟩
          have hR := (show RecAt (w.alloc (.cells #[.string ⟨#[]⟩, .slice none 0 0] 45)) w.heap.size [.string ⟨#[]⟩, .slice none 0 0] from ⟨_, heap_alloc_new w _⟩).keep (((Keeps.refl (fun _ => False) _).drewN q).trans hk2 (fun _ _ h => h)) (fun h => h)
          obtain ⟨⟨e0, e1⟩, g0, g1⟩ := hR.two
          have hltR := hR.lt
          have HKF := Lib.hid ((((Keeps.refl (fun _ => False) w).alloc _).drewN q).trans hk2 (fun _ _ h => h))
          clear hk2 hR
          go_wp2_with fail
          refine bodyPost_ret (v := .tuple #[.agg #[.string ⟨#[]⟩, .slice none 0 0], .bool false]) (by simp [results, Tryd.results92, go_sem, e0, e1]) rfl ?_
          rw [HRES.out]
          exact ⟨rfl, HKF.out.fresh (set2_keeps _ w.heap.size (.string ⟨#[]⟩) (.slice none 0 0)) (fun b e => by omega)⟩
        | true =>
          rw [hok, if_pos rfl] at hres
          have HRES := Lib.hid hres
          have hvn := fun W => vname_any nm W true hnl hok
          have HVN := Lib.hid hvn
          clear hres hok hvn
          rcases Nat.lt_or_ge 1 c with hc | hc
          · have z1 : (1 : Int) ≤ (L : Int) := by omega
            have z2 : (L : Int) ≤ (c : Int) := by omega
            have z3 : (1 : Int) < (c : Int) := by omega
            go_enter Tryd.func92, Tryd.ntmps92
            go_wp2_with fail
            refine (HCUT.out _ (by rw [World.cell?_of_block (((Keeps.refl (fun _ => False) w).alloc _).block _ hmg (fun h => h))]; exact HM.out)).mono ?_
            rw [HE.out]
            rintro e w1 ⟨rfl, q, hw1⟩
            subst hw1
            go_wp2_with fail
            refine (HVN.out _).mono ?_
            rintro e w2 ⟨rfl, hk2⟩
            have hR := (show RecAt (w.alloc (.cells #[.string ⟨#[]⟩, .slice none 0 0] 45)) w.heap.size [.string ⟨#[]⟩, .slice none 0 0] from ⟨_, heap_alloc_new w _⟩).keep (((Keeps.refl (fun _ => False) _).drewN q).trans hk2 (fun _ _ h => h)) (fun h => h)
            obtain ⟨⟨e0, e1⟩, g0, g1⟩ := hR.two
            have hltR := hR.lt
            have HR := Lib.hid hR
            have HKF := Lib.hid ((((Keeps.refl (fun _ => False) w).alloc _).drewN q).trans hk2 (fun _ _ h => h))
            clear hk2 hR
            have hpt := HPT.out.tail (some ⟨g, o + 6, none⟩) (.inl rfl)
            have hL1 : t.length = L - 1 := by have := HL.out; rw [List.length_cons] at this; omega
            obtain ⟨vs, hvl, hvc, hv1, hvn⟩ := pts_cells hpt
            rw [hL1] at hpt
            cases hrs : rst with
            | nil =>
              have HRX := Lib.hid (show res = some (nm, t) by rw [HRES.out, hrs]; rfl)
              have HPX := Lib.hid hpt
              have HL1 := Lib.hid hL1
              clear hpt hvc hv1 hvn hvl hL1 hrs
              go_wp2_with fail
              refine bodyPost_ret (v := .tuple #[.agg #[.string ⟨nm.toArray⟩, .slice (some ⟨g, o + 6, none⟩) (L - 1) (c - 1)], .bool true]) (by simp [results, Tryd.results92, go_sem, e0, e1, hltR]) rfl ?_
              rw [HRX.out]
              have hk3 := set2_keeps w2 w.heap.size (.string ⟨nm.toArray⟩) (.slice (some ⟨g, o + 6, none⟩) (L - 1) (c - 1))
              have hkk := (HKF.out.fresh hk3 (fun b e => by omega)).alloc (.cells #[.string ⟨nm.toArray⟩, .slice (some ⟨g, o + 6, none⟩) (L - 1) (c - 1)] 45)
              refine ⟨some ⟨g, o + 6, none⟩, c - 1, n, by rw [HL1.out], ?_, hkk⟩
              rw [HL1.out]
              exact (HPX.out.keep hkk (fun _ _ _ h => h)).mono (fun b _ h => Or.inl h)
            | cons c0 t0 =>
              have HRX := Lib.hid (show res = some (nm, txtP (c0 :: t0) :: t) by rw [HRES.out, hrs]; rfl)
              have hxl : (cellsL t vs).length = (L - 1) * 6 := by rw [cellsL_len hvl, hL1]
              obtain ⟨xs, hxs⟩ : ∃ xs, xs = cellsL t vs := ⟨_, rfl⟩
              rw [← hxs] at hxl hvc hv1
              have HXS := Lib.hid hxs
              have HVC := Lib.hid hvc
              have HV1 := Lib.hid hv1
              have HVN := Lib.hid hvn
              have HVL := Lib.hid hvl
              have HL1 := Lib.hid hL1
              have HXL := Lib.hid hxl
              obtain ⟨i0, hi0, hz0, hz1, hz2⟩ := info_parts info_part
              clear hpt hvc hv1 hvn hvl hL1 hrs hxs hxl
              go_wp2_with (at_builtin; refine wpList_append_own _ rfl _ _ 32 rfl (w2.heap.size + 1) 34 i0 _ 6 88 Tryd.underlying32 hi0 hz0 hz1 hz2 rfl (by decide) _ _ _ rfl (lit_after _ _ _ 1 (by decide) rfl) ⟨g, o + 6, none⟩ (L - 1) (c - 1) xs rfl HXL.out (HVC.out _ ((HKF.out.alloc _).alloc _)) HV1.out (by unfold maxLen; omega) (by omega) (by first | (simp; done) | (simp; omega)) ?_; intro v' w5 hown hgrow hnil; obtain ⟨g5, cap5, rfl, hg5, hlt5⟩ := hown.form (by omega); have h7 := asg_kept hgrow hltR HR.out (x := .string ⟨nm.toArray⟩) (y := .slice (some ⟨g, o + 6, none⟩) (L - 1) (c - 1)) rfl; obtain ⟨⟨⟨b0, b1⟩, bf0, bf1⟩, ⟨⟨r0, r1⟩, rf0, rf1⟩, hl7, hlR, hkf⟩ := h7; have HOWN := Lib.hid hown; have HKG := Lib.hid hkf; clear hown hgrow hnil e0 e1 g0 g1 hkf)
              refine bodyPost_ret (v := .tuple #[.agg #[.string ⟨nm.toArray⟩, .slice (some ⟨g5, 0, none⟩) (1 + (L - 1)) cap5], .bool true]) (by simp [results, Tryd.results92, go_sem, r0, r1]) rfl ?_
              rw [HRX.out]
              have hkA : Keeps (fun b => b = w2.heap.size) w5 (w5.setCell ⟨w2.heap.size, 1, none⟩ (.slice (some ⟨g5, 0, none⟩) (1 + (L - 1)) cap5)) := (Keeps.refl _ _).setCell _ _ fun _ => rfl
              have hkB := set2_keeps (w5.setCell ⟨w2.heap.size, 1, none⟩ (.slice (some ⟨g5, 0, none⟩) (1 + (L - 1)) cap5)) w.heap.size (.string ⟨nm.toArray⟩) (.slice (some ⟨g5, 0, none⟩) (1 + (L - 1)) cap5)
              have hsz := HKF.out.size
              have hkk : Keeps (fun _ => False) w _ := ((HKF.out.fresh HKG.out (fun b e => by omega)).fresh hkA (fun b e => by omega)).fresh hkB (fun b e => by omega)
              obtain ⟨m', hm'⟩ := asg_row (rst := c0 :: t0) (by have := HL1.out; rw [List.length_cons]; omega) HOWN.out HXS.out HVL.out HVN.out HKF.out HKG.out (fun b e => by omega)
              have hl : 1 + (L - 1) = (txtP (c0 :: t0) :: t).length := by have := HL1.out; rw [List.length_cons]; omega
              refine ⟨some ⟨g5, 0, none⟩, cap5, m', by rw [hl], ?_, hkk⟩
              rw [← hl]
              exact ((hm'.keep hkA (fun b _ h e => by omega)).keep hkB (fun b _ h e => by omega)).mono (fun b _ h => by rcases h with h | h; exact .inl h.1; exact .inr (by omega))
          · obtain rfl : c = 1 := by omega
            obtain rfl : L = 1 := by omega
            go_enter Tryd.func92, Tryd.ntmps92
            go_wp2_with fail
            refine (HCUT.out _ (by rw [World.cell?_of_block (((Keeps.refl (fun _ => False) w).alloc _).block _ hmg (fun h => h))]; exact HM.out)).mono ?_
            rw [HE.out]
            rintro e w1 ⟨rfl, q, hw1⟩
            subst hw1
            go_wp2_with fail
            refine (HVN.out _).mono ?_
            rintro e w2 ⟨rfl, hk2⟩
            have hR := (show RecAt (w.alloc (.cells #[.string ⟨#[]⟩, .slice none 0 0] 45)) w.heap.size [.string ⟨#[]⟩, .slice none 0 0] from ⟨_, heap_alloc_new w _⟩).keep (((Keeps.refl (fun _ => False) _).drewN q).trans hk2 (fun _ _ h => h)) (fun h => h)
            obtain ⟨⟨e0, e1⟩, g0, g1⟩ := hR.two
            have hltR := hR.lt
            have HR := Lib.hid hR
            have HKF := Lib.hid ((((Keeps.refl (fun _ => False) w).alloc _).drewN q).trans hk2 (fun _ _ h => h))
            clear hk2 hR
            have hpt := HPT.out.tail (some ⟨g, o, none⟩) (.inr (List.eq_nil_of_length_eq_zero (by have := HL.out; rw [List.length_cons] at this; omega)))
            have hL1 : t.length = 0 := by have := HL.out; rw [List.length_cons] at this; omega
            obtain ⟨vs, hvl, hvc, hv1, hvn⟩ := pts_cells hpt
            rw [hL1] at hpt
            cases hrs : rst with
            | nil =>
              have HRX := Lib.hid (show res = some (nm, t) by rw [HRES.out, hrs]; rfl)
              have HPX := Lib.hid hpt
              have HL1 := Lib.hid hL1
              clear hpt hvc hv1 hvn hvl hL1 hrs
              go_wp2_with fail
              refine bodyPost_ret (v := .tuple #[.agg #[.string ⟨nm.toArray⟩, .slice (some ⟨g, o, none⟩) 0 0], .bool true]) (by simp [results, Tryd.results92, go_sem, e0, e1, hltR]) rfl ?_
              rw [HRX.out]
              have hk3 := set2_keeps w2 w.heap.size (.string ⟨nm.toArray⟩) (.slice (some ⟨g, o, none⟩) 0 0)
              have hkk := (HKF.out.fresh hk3 (fun b e => by omega)).alloc (.cells #[.string ⟨nm.toArray⟩, .slice (some ⟨g, o, none⟩) 0 0] 45)
              refine ⟨some ⟨g, o, none⟩, 0, n, by rw [HL1.out], ?_, hkk⟩
              rw [HL1.out]
              exact (HPX.out.keep hkk (fun _ _ _ h => h)).mono (fun b _ h => Or.inl h)
            | cons c0 t0 =>
              have HRX := Lib.hid (show res = some (nm, txtP (c0 :: t0) :: t) by rw [HRES.out, hrs]; rfl)
              have hxl : (cellsL t vs).length = 0 * 6 := by rw [cellsL_len hvl, hL1]
              obtain ⟨xs, hxs⟩ : ∃ xs, xs = cellsL t vs := ⟨_, rfl⟩
              rw [← hxs] at hxl hvc hv1
              have HXS := Lib.hid hxs
              have HVC := Lib.hid hvc
              have HV1 := Lib.hid hv1
              have HVN := Lib.hid hvn
              have HVL := Lib.hid hvl
              have HL1 := Lib.hid hL1
              have HXL := Lib.hid hxl
              obtain ⟨i0, hi0, hz0, hz1, hz2⟩ := info_parts info_part
              clear hpt hvc hv1 hvn hvl hL1 hrs hxs hxl
              go_wp2_with (at_builtin; refine wpList_append_own _ rfl _ _ 32 rfl (w2.heap.size + 1) 34 i0 _ 6 88 Tryd.underlying32 hi0 hz0 hz1 hz2 rfl (by decide) _ _ _ rfl (lit_after _ _ _ 1 (by decide) rfl) ⟨g, o, none⟩ 0 0 xs rfl HXL.out (HVC.out _ ((HKF.out.alloc _).alloc _)) HV1.out (by unfold maxLen; omega) (by omega) (by first | (simp; done) | (simp; omega)) ?_; intro v' w5 hown hgrow hnil; obtain ⟨g5, cap5, rfl, hg5, hlt5⟩ := hown.form (by omega); have h7 := asg_kept hgrow hltR HR.out (x := .string ⟨nm.toArray⟩) (y := .slice (some ⟨g, o, none⟩) 0 0) rfl; obtain ⟨⟨⟨b0, b1⟩, bf0, bf1⟩, ⟨⟨r0, r1⟩, rf0, rf1⟩, hl7, hlR, hkf⟩ := h7; have HOWN := Lib.hid hown; have HKG := Lib.hid hkf; clear hown hgrow hnil e0 e1 g0 g1 hkf)
              refine bodyPost_ret (v := .tuple #[.agg #[.string ⟨nm.toArray⟩, .slice (some ⟨g5, 0, none⟩) 1 cap5], .bool true]) (by simp [results, Tryd.results92, go_sem, r0, r1]) rfl ?_
              rw [HRX.out]
              have hkA : Keeps (fun b => b = w2.heap.size) w5 (w5.setCell ⟨w2.heap.size, 1, none⟩ (.slice (some ⟨g5, 0, none⟩) 1 cap5)) := (Keeps.refl _ _).setCell _ _ fun _ => rfl
              have hkB := set2_keeps (w5.setCell ⟨w2.heap.size, 1, none⟩ (.slice (some ⟨g5, 0, none⟩) 1 cap5)) w.heap.size (.string ⟨nm.toArray⟩) (.slice (some ⟨g5, 0, none⟩) 1 cap5)
              have hsz := HKF.out.size
              have hkk : Keeps (fun _ => False) w _ := ((HKF.out.fresh HKG.out (fun b e => by omega)).fresh hkA (fun b e => by omega)).fresh hkB (fun b e => by omega)
              obtain ⟨m', hm'⟩ := asg_row (rst := c0 :: t0) (by have := HL1.out; rw [List.length_cons]; omega) HOWN.out HXS.out HVL.out HVN.out HKF.out HKG.out (fun b e => by omega)
              have hl : 1 = (txtP (c0 :: t0) :: t).length := by have := HL1.out; rw [List.length_cons]; omega
              refine ⟨some ⟨g5, 0, none⟩, cap5, m', by rw [hl], ?_, hkk⟩
              rw [← hl]
              exact ((hm'.keep hkA (fun b _ h e => by omega)).keep hkB (fun b _ h e => by omega)).mono (fun b _ h => by rcases h with h | h; exact .inl h.1; exact .inr (by omega))
    · have t0 : ((p.kind : Int) != 1) = true := by rw [bne_iff_ne]; omega
      rw [if_neg (by simpa using k)] at hres
      have HRES := Lib.hid hres
      clear k hres
      go_enter Tryd.func92, Tryd.ntmps92
      go_wp2_with fail
      refine bodyPost_ret (v := .tuple #[.agg #[.string ⟨#[]⟩, .slice none 0 0], .bool false]) (by simp [results, Tryd.results92, go_sem]) rfl ?_
      rw [HRES.out]
      exact ⟨rfl, (Keeps.refl _ w).alloc _⟩
end Go.Proofs.YtcahifkiiabioaaDoor
namespace Go.Proofs.YtcahifkiiabioaaDoor
open Go.RowKit
set_option linter.unusedVariables false

/-- A command's cells. -/
def NdD (ds : List Dt) : Prop := ∃ (kind : Nat) (nt : Bool) (nm : List UInt8) (ws gs rs ks ar : List Dt), ds = ndR kind nt nm ws gs rs ks ar
theorem NdD.len {ds : List Dt} (h : NdD ds) : ds.length = 8 := by
  obtain ⟨_, _, _, _, _, _, _, _, rfl⟩ := h
  rfl
/-- Commands, one behind the other. -/
def AllN (l : List Dt) : Prop := ∃ xs : List (List Dt), l = xs.flatten ∧ ∀ x ∈ xs, NdD x
theorem AllN.nil : AllN [] := ⟨[], rfl, fun x hx => by cases hx⟩
theorem AllN.of {d : List Dt} (h : NdD d) : AllN d := ⟨[d], by simp, fun x hx => by rw [List.mem_singleton.1 hx]; exact h⟩
theorem AllN.app {l m : List Dt} (h : AllN l) (k : AllN m) : AllN (l ++ m) := by
  obtain ⟨xs, rfl, hx⟩ := h
  obtain ⟨ys, rfl, hy⟩ := k
  exact ⟨xs ++ ys, by simp, fun x h => by rcases List.mem_append.1 h with h | h; exact hx x h; exact hy x h⟩
theorem flat_len : ∀ {xs : List (List Dt)}, (∀ x ∈ xs, NdD x) → xs.flatten.length = xs.length * 8
  | [], _ => rfl
  | x :: xs, h => by
    rw [List.flatten_cons, List.length_append, (h x (List.mem_cons_self ..)).len, flat_len (fun y hy => h y (List.mem_cons_of_mem _ hy)), List.length_cons]
    omega
theorem AllN.one {l : List Dt} (h : AllN l) (hl : l.length = 8) : NdD l := by
  obtain ⟨xs, rfl, hx⟩ := h
  rw [flat_len hx] at hl
  cases xs with
  | nil => simp at hl
  | cons x t =>
    cases t with
    | nil =>
      rw [List.flatten_cons, List.flatten_nil, List.append_nil]
      exact hx x (List.mem_cons_self ..)
    | cons y z => rw [List.length_cons, List.length_cons] at hl; omega
theorem nd_vals {w : World} {D : Nat → Prop} {ds : List Dt} {vs : List Value} (hn : NdD ds) (h : RdL w D ds vs) : ∃ (k : Int) (b : Bool) (s : ByteArray) (a0 : Option Addr) (n0 c0 : Nat) (a1 : Option Addr) (n1 c1 : Nat) (a2 : Option Addr) (n2 c2 : Nat) (a3 : Option Addr) (n3 c3 : Nat) (a4 : Option Addr) (n4 c4 : Nat), vs = [.int .i64 k, .bool b, .string s, .slice a0 n0 c0, .slice a1 n1 c1, .slice a2 n2 c2, .slice a3 n3 c3, .slice a4 n4 c4] := by
  obtain ⟨kind, nt, nm, ws, gs, rs, ks, ar, rfl⟩ := hn
  match vs, h with
  | [v0, v1, v2, v3, v4, v5, v6, v7], ⟨h0, h1, h2, h3, h4, h5, h6, h7, _⟩ =>
    cases h0; cases h1; cases h2
    obtain ⟨a3, n3, c3, rfl, _⟩ := h3.shape (by decide)
    obtain ⟨a4, n4, c4, rfl, _⟩ := h4.shape (by decide)
    obtain ⟨a5, n5, c5, rfl, _⟩ := h5.shape (by decide)
    obtain ⟨a6, n6, c6, rfl, _⟩ := h6.shape (by decide)
    obtain ⟨a7, n7, c7, rfl, _⟩ := h7.shape (by decide)
    exact ⟨_, _, _, _, _, _, _, _, _, _, _, _, _, _, _, _, _, _, rfl⟩
theorem RecAt.eight {w : World} {b : Nat} {v0 v1 v2 v3 v4 v5 v6 v7 : Value} (h : RecAt w b [v0, v1, v2, v3, v4, v5, v6, v7]) :
    (w.cell? ⟨b, 0, none⟩ = some v0 ∧ w.cell? ⟨b, 1, none⟩ = some v1 ∧ w.cell? ⟨b, 2, none⟩ = some v2 ∧ w.cell? ⟨b, 3, none⟩ = some v3 ∧ w.cell? ⟨b, 4, none⟩ = some v4 ∧ w.cell? ⟨b, 5, none⟩ = some v5 ∧ w.cell? ⟨b, 6, none⟩ = some v6 ∧ w.cell? ⟨b, 7, none⟩ = some v7) ∧
    (w.frozen? ⟨b, 0, none⟩ = false ∧ w.frozen? ⟨b, 1, none⟩ = false ∧ w.frozen? ⟨b, 2, none⟩ = false ∧ w.frozen? ⟨b, 3, none⟩ = false ∧ w.frozen? ⟨b, 4, none⟩ = false ∧ w.frozen? ⟨b, 5, none⟩ = false ∧ w.frozen? ⟨b, 6, none⟩ = false ∧ w.frozen? ⟨b, 7, none⟩ = false) := by
  obtain ⟨T, h⟩ := h
  refine ⟨⟨?_, ?_, ?_, ?_, ?_, ?_, ?_, ?_⟩, ?_, ?_, ?_, ?_, ?_, ?_, ?_, ?_⟩ <;> simp [World.cell?, World.frozen?, h]
theorem set8_keeps (w : World) (b : Nat) (u0 u1 u2 u3 u4 u5 u6 u7 : Value) : Keeps (fun x => x = b) w ((((((((w.setCell ⟨b, 0, none⟩ u0).setCell ⟨b, 1, none⟩ u1).setCell ⟨b, 2, none⟩ u2).setCell ⟨b, 3, none⟩ u3).setCell ⟨b, 4, none⟩ u4).setCell ⟨b, 5, none⟩ u5).setCell ⟨b, 6, none⟩ u6).setCell ⟨b, 7, none⟩ u7) := by
  have h0 := (Keeps.refl (fun x => x = b) w).set1 0 u0 rfl
  have h1 := h0.set1 1 u1 rfl
  have h2 := h1.set1 2 u2 rfl
  have h3 := h2.set1 3 u3 rfl
  have h4 := h3.set1 4 u4 rfl
  have h5 := h4.set1 5 u5 rfl
  have h6 := h5.set1 6 u6 rfl
  exact h6.set1 7 u7 rfl
theorem set8_rec {w : World} {b : Nat} {v0 v1 v2 v3 v4 v5 v6 v7 : Value} (h : RecAt w b [v0, v1, v2, v3, v4, v5, v6, v7]) (u0 u1 u2 u3 u4 u5 u6 u7 : Value) : RecAt ((((((((w.setCell ⟨b, 0, none⟩ u0).setCell ⟨b, 1, none⟩ u1).setCell ⟨b, 2, none⟩ u2).setCell ⟨b, 3, none⟩ u3).setCell ⟨b, 4, none⟩ u4).setCell ⟨b, 5, none⟩ u5).setCell ⟨b, 6, none⟩ u6).setCell ⟨b, 7, none⟩ u7) b [u0, u1, u2, u3, u4, u5, u6, u7] :=
  (((((((h.set 0 u0).set 1 u1).set 2 u2).set 3 u3).set 4 u4).set 5 u5).set 6 u6).set 7 u7
theorem new_rec8 (w : World) (v0 v1 v2 v3 v4 v5 v6 v7 : Value) (t : TypeId) : RecAt (w.alloc (.cells #[v0, v1, v2, v3, v4, v5, v6, v7] t)) w.heap.size [v0, v1, v2, v3, v4, v5, v6, v7] := ⟨t, heap_alloc_new w _⟩
theorem rd_one {w : World} {D : Nat → Prop} {ds : List Dt} {a : Option Addr} {c : Nat} (h : Rd w D (.sl 8 ds) (.slice a 1 c)) (hn : NdD ds) : ∃ (g o : Nat) (k : Int) (b : Bool) (s : ByteArray) (a0 : Option Addr) (n0 c0 : Nat) (a1 : Option Addr) (n1 c1 : Nat) (a2 : Option Addr) (n2 c2 : Nat) (a3 : Option Addr) (n3 c3 : Nat) (a4 : Option Addr) (n4 c4 : Nat),
    a = some ⟨g, o, none⟩ ∧ g < w.heap.size ∧ (w.cell? ⟨g, o, none⟩ = some (.int .i64 k) ∧ w.cell? ⟨g, o + 1, none⟩ = some (.bool b) ∧ w.cell? ⟨g, o + 2, none⟩ = some (.string s) ∧ w.cell? ⟨g, o + 3, none⟩ = some (.slice a0 n0 c0) ∧ w.cell? ⟨g, o + 4, none⟩ = some (.slice a1 n1 c1) ∧ w.cell? ⟨g, o + 5, none⟩ = some (.slice a2 n2 c2) ∧ w.cell? ⟨g, o + 6, none⟩ = some (.slice a3 n3 c3) ∧ w.cell? ⟨g, o + 7, none⟩ = some (.slice a4 n4 c4)) ∧ RdL w D ds [.int .i64 k, .bool b, .string s, .slice a0 n0 c0, .slice a1 n1 c1, .slice a2 n2 c2, .slice a3 n3 c3, .slice a4 n4 c4] := by
  cases h with
  | sl _ _ g o m c vs hm hmc hc hb hD hv h =>
    have hr : RdL w D ds [vs 0, vs 1, vs 2, vs 3, vs 4, vs 5, vs 6, vs 7] := by
      obtain ⟨kind, nt, nm, ws, gs, rs, ks, ar, rfl⟩ := hn
      have h8 : (ndR kind nt nm ws gs rs ks ar).length = 8 := rfl
      exact ⟨h 0 (by omega), h 1 (by omega), h 2 (by omega), h 3 (by omega), h 4 (by omega), h 5 (by omega), h 6 (by omega), h 7 (by omega), trivial⟩
    have hl := hn.len
    obtain ⟨k, b, s, a0, n0, c0, a1, n1, c1, a2, n2, c2, a3, n3, c3, a4, n4, c4, hvs⟩ := nd_vals hn hr
    have hr2 := hr
    rw [hvs] at hr2
    simp only [List.cons.injEq, and_true] at hvs
    obtain ⟨e0, e1, e2, e3, e4, e5, e6, e7⟩ := hvs
    refine ⟨g, o, k, b, s, a0, n0, c0, a1, n1, c1, a2, n2, c2, a3, n3, c3, a4, n4, c4, rfl, hb, ⟨?_, ?_, ?_, ?_, ?_, ?_, ?_, ?_⟩, hr2⟩
    · rw [← e0]; exact hv 0 (by omega)
    · rw [← e1]; exact hv 1 (by omega)
    · rw [← e2]; exact hv 2 (by omega)
    · rw [← e3]; exact hv 3 (by omega)
    · rw [← e4]; exact hv 4 (by omega)
    · rw [← e5]; exact hv 5 (by omega)
    · rw [← e6]; exact hv 6 (by omega)
    · rw [← e7]; exact hv 7 (by omega)
theorem Rd.len8 {w : World} {D : Nat → Prop} {ds : List Dt} {a : Option Addr} {m c : Nat} (h : Rd w D (.sl 8 ds) (.slice a m c)) : ds.length = m * 8 ∧ c ≤ maxLen := by
  obtain ⟨a', m', c', e, h1, _, h2⟩ := h.shape (by decide)
  injection e with e1 e2 e3
  subst e2 e3
  exact ⟨h1, h2⟩
theorem cells_node : Tryd.prog.cellsOf 40 = 8 := by kernel_rfl
theorem info_node : (Tryd.prog.info? 40).map (fun i => (i.zero, i.size, i.bytes)) = some (some (.agg #[.int .i64 0, .bool false, .string ⟨#[]⟩, .slice none 0 0, .slice none 0 0, .slice none 0 0, .slice none 0 0, .slice none 0 0]), 8, 152) := by kernel_rfl
/-- What seq tells. -/
def SeqPost (w : World) (D : Nat → Prop) (ds : List Dt) (e : Ending) (w' : World) : Prop := ∃ vs, e = .returned (.agg vs.toArray) ∧ NdD ds ∧ RdL w' D ds vs ∧ Keeps (fun _ => False) w w'

set_option maxRecDepth 100000 in
set_option maxHeartbeats 4000000 in
theorem seq_any (w : World) (D : Nat → Prop) (ds : List Dt) (a : Option Addr) (m c : Nat) (h : Rd w D (.sl 8 ds) (.slice a m c)) (hn : AllN ds) :
    Calls Tryd.prog 28 #[.slice a m c] w (SeqPost w D (seqF ds)) := by
  obtain ⟨hlen, hcm⟩ := h.len8
  have hc8 := cells_node
  have HCM := Lib.hid hcm
  clear hcm
  by_cases h1 : m = 1
  · subst h1
    have e : seqF ds = ds := by unfold seqF; rw [if_pos (by omega)]
    have hnd := hn.one (by omega)
    obtain ⟨g, o, k, b, s, a0, n0, c0, a1, n1, c1, a2, n2, c2, a3, n3, c3, a4, n4, c4, rfl, hg, ⟨q0, q1, q2, q3, q4, q5, q6, q7⟩, hr⟩ := rd_one h hnd
    rw [e]
    have HR := Lib.hid hr
    have HND := Lib.hid hnd
    clear h hn hr e hnd hlen
    go_enter Tryd.func28, Tryd.ntmps28
    go_wp2_with fail
    refine bodyPost_ret (v := .agg #[.int .i64 k, .bool b, .string s, .slice a0 n0 c0, .slice a1 n1 c1, .slice a2 n2 c2, .slice a3 n3 c3, .slice a4 n4 c4]) (by simp [results, Tryd.results28, go_sem]) rfl ?_
    have hk := (Keeps.refl (fun _ => False) w).alloc (.cells #[.int .i64 k, .bool b, .string s, .slice a0 n0 c0, .slice a1 n1 c1, .slice a2 n2 c2, .slice a3 n3 c3, .slice a4 n4 c4] 40)
    exact ⟨[.int .i64 k, .bool b, .string s, .slice a0 n0 c0, .slice a1 n1 c1, .slice a2 n2 c2, .slice a3 n3 c3, .slice a4 n4 c4], rfl, HND.out, HR.out.keep hk (fun _ _ _ h => h), hk⟩
  · have e : seqF ds = ndR 5 false [] [] [] [] ds [] := by unfold seqF; rw [if_neg (by omega)]
    have t0 : ((m : Int) == 1) = false := by rw [beq_eq_false_iff_ne]; omega
    rw [e]
    have HH := Lib.hid h
    clear h hn e h1 hlen
    go_enter Tryd.func28, Tryd.ntmps28
    go_wp2_with fail
    refine bodyPost_ret (v := .agg #[.int .i64 5, .bool false, .string ⟨#[]⟩, .slice none 0 0, .slice none 0 0, .slice none 0 0, .slice a m c, .slice none 0 0]) (by simp [results, Tryd.results28, go_sem]) rfl ?_
    have hk := (Keeps.refl (fun _ => False) w).alloc (.cells #[.int .i64 5, .bool false, .string ⟨#[]⟩, .slice none 0 0, .slice none 0 0, .slice none 0 0, .slice a m c, .slice none 0 0] 40)
    exact ⟨[.int .i64 5, .bool false, .string ⟨#[]⟩, .slice none 0 0, .slice none 0 0, .slice none 0 0, .slice a m c, .slice none 0 0], rfl, ⟨_, _, _, _, _, _, _, _, rfl⟩, ⟨.int _, .bool _, .str _, .nil _ _ _ (Nat.zero_le _), .nil _ _ _ (Nat.zero_le _), .nil _ _ _ (Nat.zero_le _), HH.out.keep hk (fun _ _ _ h => h), .nil _ _ _ (Nat.zero_le _), trivial⟩, hk⟩
end Go.Proofs.YtcahifkiiabioaaDoor
namespace Go.Proofs.YtcahifkiiabioaaDoor
open Go.RowKit
set_option linter.unusedVariables false

/-- What a function of the parser leaves that makes a command. -/
def NodePost (w : World) (B cs : Nat) (tv : Value) (n : Nat) (T : List Tk) (i d : Nat) (shape : List Value → Prop) (res : PR (List Dt)) (e : Ending) (w' : World) : Prop := match res with
  | .ok (ds, r) => ∃ vs, MovePost w B cs tv n T i d (.agg vs.toArray) r e w' ∧ shape vs ∧ NdD ds ∧ RdL w' (fun b => w.heap.size ≤ b) ds vs
  | .error x => e = failedP x ∧ Keeps (fun b => b = cs) w w'
def AnyS (vs : List Value) : Prop := True
/-- No redirections yet. -/
def BareS (vs : List Value) : Prop := vs[5]? = some (.slice none 0 0)
/-- Commands are read, so much deeper may they go. -/
def CmdOK (K : Nat) : Prop := ∀ (w : World) (B cs n i d : Nat) (tv : Value) (T : List Tk), RS w B cs tv n T i d → d + K = 40 →
  Calls Tryd.prog 64 #[.pointer (some ⟨cs, 0, none⟩)] w (NodePost w B cs tv n T i d AnyS (commandF K (T.drop i)))
/-- A slice that is made, and the reader. -/
structure LI (w0 w : World) (B cs : Nat) (tv : Value) (n : Nat) (T : List Tk) (d I : Nat) (l : Value) (k : Nat) (Ty : TypeId) (m : Nat) (ds : List Dt) : Prop where
  rs : RS w B cs tv n T I d
  own : OwnD w (fun b => w0.heap.size ≤ b) l k Ty m ds
  low : ∀ g, l.ownBlock = some g → w0.heap.size ≤ g
  kp : Keeps (fun b => b = cs) w0 w
section
variable {w0 w w4 : World} {B cs : Nat} {tv : Value} {n : Nat} {T : List Tk} {d I J : Nat} {l : Value} {k : Nat} {Ty : TypeId} {m : Nat} {ds : List Dt}
theorem LI.move (h : LI w0 w B cs tv n T d I l k Ty m ds) (hc : cs < w0.heap.size) (hk : Keeps (fun b => b = cs) w w4) (hrs : RS w4 B cs tv n T J d) : LI w0 w4 B cs tv n T d J l k Ty m ds :=
  ⟨hrs, h.own.keep hk (fun b _ hb e => by omega) (fun g hg e => by have := h.low g hg; omega), h.low, h.kp.trans hk (fun _ _ e => e)⟩
theorem LI.keep0 (h : LI w0 w B cs tv n T d I l k Ty m ds) (hk : Keeps (fun _ => False) w w4) : LI w0 w4 B cs tv n T d I l k Ty m ds :=
  ⟨h.rs.keep0 hk, h.own.keep hk (fun b _ _ e => e) (fun g _ e => e), h.low, h.kp.trans hk (fun _ _ e => e.elim)⟩
theorem LI.more (h : LI w0 w B cs tv n T d I l k Ty m ds) (hc : cs < w0.heap.size) (hk : Keeps (fun b => b = cs) w w4) (hrs : RS w4 B cs tv n T J d) {d2 : List Dt} {us : List Value} (hx : RdL w4 (fun b => w.heap.size ≤ b) d2 us) :
    ∃ xs, w4.ownsRow 0 Ty k l m xs ∧ ∀ (gg cap : Nat) (w5 : World) (o : Obj), w5.ownsRow 0 Ty k (.slice (some ⟨gg, 0, none⟩) (m + 1) cap) (m + 1) (xs ++ us) → (w4.alloc o).grownBy w5 l.ownBlock → (l.ownBlock = some gg ∨ gg = w4.heap.size + 1) →
      LI w0 w5 B cs tv n T d J (.slice (some ⟨gg, 0, none⟩) (m + 1) cap) k Ty (m + 1) (ds ++ d2) := by
  have h4 := h.move hc hk hrs
  have hsz := h.kp.size
  have hB := hrs.cs
  obtain ⟨xs, hr, ho⟩ := h4.own
  refine ⟨xs, ho, fun gg cap w5 o hown hgrow hat => ?_⟩
  have hk5 : Keeps (fun b => l.ownBlock = some b) w4 w5 := ((Keeps.refl _ w4).alloc o).grown hgrow (fun k hk _ => hk)
  have hlow := h4.low
  have hsz4 := hk.size
  refine ⟨hrs.keep hk5 (fun b hb e => by have := hlow b e; omega) (fun e => by have := hlow cs e; omega), ?_, fun g hg => ?_, h4.kp.trans hk5 (fun b hb e => by have := hlow b e; omega)⟩
  · have hx2 : RdL w4 (fun b => w0.heap.size ≤ b ∧ l.ownBlock ≠ some b) d2 us := hx.mono fun b _ hb => ⟨by omega, fun e => by have := h.own.lt e; omega⟩
    exact OwnD.grow (B := w0.heap.size) hr hx2 hown hk5 (fun y hy => by
      have hy2 : gg = y := Option.some.inj hy
      rcases hat with h1 | h1
      · exact .inl (by rw [h1, hy2])
      · exact .inr (by omega))
  · have hg2 : gg = g := Option.some.inj hg
    rcases hat with h1 | h1
    · exact hlow g (by rw [h1, hg2])
    · omega
/-- A slice with one record. -/
theorem LI.one {us : List Value} {d2 : List Dt} {w1 : World} (hrs : RS w4 B cs tv n T J d) (hx : RdL w4 (fun b => w0.heap.size ≤ b) d2 us) (hk : Keeps (fun b => b = cs) w0 w4) (hl : us.length = k) (hw : w1 = w4.alloc (.cells us.toArray Ty)) :
    LI w0 w1 B cs tv n T d J (.slice (some ⟨w4.heap.size, 0, none⟩) 1 1) k Ty 1 d2 := by
  have hk1 : Keeps (fun _ => False) w4 w1 := by rw [hw]; exact (Keeps.refl _ _).alloc _
  have hsz := hk.size
  refine ⟨hrs.keep0 hk1, ⟨us, ?_, ?_⟩, fun g hg => by have h1 : w4.heap.size = g := Option.some.inj hg; omega, hk.trans hk1 (fun _ _ e => e.elim)⟩
  · have h2 : RdL w4 (fun b => w0.heap.size ≤ b ∧ b < w4.heap.size) d2 us := hx.lt
    exact (h2.keep hk1 (fun _ _ _ e => e)).mono fun b _ hb => ⟨hb.1, fun e => by have h3 : w4.heap.size = b := Option.some.inj e; omega⟩
  · rw [hw]
    have := World.ownsRow_lit (base := 0) (e := Ty) (size := k) w4 us.toArray 1 (Nat.zero_le _) (by decide) (by simp [hl])
    simpa using this
end
theorem nd_fin {w w3 w4 : World} {B cs : Nat} {tv : Value} {n : Nat} {T : List Tk} {d J X : Nat} {ds : List Dt} {vs : List Value} (hk : Keeps (fun b => b = cs) w w3) (hrs : RS w3 B cs tv n T J d) (hX : w.heap.size < X) (hc : cs < w.heap.size)
    (hr : RdL w3 (fun b => X ≤ b) ds vs) (h4 : Keeps (fun b => b = w.heap.size) w3 w4) : RS w4 B cs tv n T J d ∧ Keeps (fun b => b = cs) w w4 ∧ RdL w4 (fun b => w.heap.size ≤ b) ds vs := by
  have hB := hrs.cs
  exact ⟨hrs.keep h4 (fun b hb e => by omega) (fun e => by omega), hk.fresh h4 (fun b e => by omega), (hr.keep h4 (fun b _ hb e => by omega)).mono (fun b _ hb => by omega)⟩
/-- A pipeline's end. -/
def pipeEnd (q : Bool) (p : PR (List Dt)) : PR (List Dt) := match p with
  | .error e => .error e
  | .ok (l, r2) => if l.length = 8 ∧ q = false then .ok (l, r2) else .ok (ndR 2 q [] [] [] [] l [], r2)
theorem pipeline_eq (cmd : List Tk → PR (List Dt)) (ts : List Tk) : pipelineF cmd ts = match cmd (goF (isWF [33] ts) ts) with
  | .error e => .error e
  | .ok (d, r) => pipeEnd (isWF [33] ts) (pipeLoop cmd (r.length + 1) d r) := by
  unfold pipelineF pipeEnd
  have e : goF (isWF [33] ts) ts = if isWF [33] ts then ts.tail else ts := by cases isWF [33] ts <;> rfl
  rw [e]
  cases cmd (if isWF [33] ts = true then ts.tail else ts) with
  | error y => rfl
  | ok x => rfl
theorem pipeLoop_succ (cmd : List Tk → PR (List Dt)) (n : Nat) (acc : List Dt) (ts : List Tk) : pipeLoop cmd (n + 1) acc ts = if isOpF [124] ts then (match cmd (linesF ts.tail) with
    | .error e => .error e
    | .ok (d, r) => pipeLoop cmd n (acc ++ d) r) else .ok (acc, ts) := rfl

set_option maxRecDepth 100000 in
set_option maxHeartbeats 8000000 in
theorem pipeline_any (K : Nat) (hcmd : CmdOK K) (w : World) (B cs n i d : Nat) (tv : Value) (T : List Tk) (h : RS w B cs tv n T i d) (hd : d + K = 40) :
    Calls Tryd.prog 52 #[.pointer (some ⟨cs, 0, none⟩)] w (NodePost w B cs tv n T i d AnyS (pipelineF (commandF K) (T.drop i))) := by
  obtain ⟨res, hres⟩ : ∃ res, res = pipelineF (commandF K) (T.drop i) := ⟨_, rfl⟩
  rw [← hres]
  rw [pipeline_eq] at hres
  obtain ⟨q, hq⟩ : ∃ q, isWF [33] (T.drop i) = q := ⟨_, rfl⟩
  rw [hq] at hres
  have hc8 := cells_node
  obtain ⟨i0, hi0, hz0, hz1, hz2⟩ := info_parts info_node
  have HRES := Lib.hid hres
  have HH := Lib.hid h
  have HC := Lib.hid hcmd
  have HD := Lib.hid hd
  have HQ := Lib.hid hq
  have HCS := Lib.hid h.lt
  clear hres h hcmd hd hq
  go_enter Tryd.func52, Tryd.ntmps52
  go_wp2_with fail
  obtain ⟨W, hW⟩ : ∃ W, W = w.alloc (.cells #[.int .i64 0, .bool false, .string ⟨#[]⟩, .slice none 0 0, .slice none 0 0, .slice none 0 0, .slice none 0 0, .slice none 0 0] 40) := ⟨_, rfl⟩
  have hkW : Keeps (fun _ => False) w W := by rw [hW]; exact (Keeps.refl _ _).alloc _
  have HR := Lib.hid (show RecAt W w.heap.size [.int .i64 0, .bool false, .string ⟨#[]⟩, .slice none 0 0, .slice none 0 0, .slice none 0 0, .slice none 0 0, .slice none 0 0] by rw [hW]; exact new_rec8 _ _ _ _ _ _ _ _ _ _)
  rw [← hW]
  have HKW := Lib.hid hkW
  have HX := Lib.hid (show w.heap.size < W.heap.size by rw [hW]; simp)
  have HS := Lib.hid (HH.out.keep0 hkW)
  clear hkW hW
  refine (is_any W B cs n i d tv T [33] q HS.out (by decide) HQ.out).mono ?_
  rintro e w1 ⟨rfl, j1, hj1, ht1, hrs1, hk1⟩
  have HS1 := Lib.hid hrs1
  have HK1 := Lib.hid hk1
  have hres1 : res = match commandF K (T.drop j1) with
    | .error e => .error e
    | .ok (d, r) => pipeEnd q (pipeLoop (commandF K) (r.length + 1) d r) := by rw [HRES.out, ht1]
  have HRES1 := Lib.hid hres1
  clear hrs1 hk1 ht1 hres1
  go_wp2_with fail
  refine (HC.out w1 B cs n j1 d tv T HS1.out HD.out).mono ?_
  intro e w2 hp
  cases hcm : commandF K (T.drop j1) with
  | error y =>
    rw [hcm] at hp
    obtain ⟨rfl, hk2⟩ := hp
    have HRX := Lib.hid (show res = .error y by rw [HRES1.out, hcm])
    have HK3 := Lib.hid (((HKW.out.mono (fun _ _ h => h.elim)).trans HK1.out (fun _ _ h => h)).trans hk2 (fun _ _ h => h))
    clear hcm hk2
    go_wp2_with fail
    refine ⟨rfl, ?_⟩
    rw [HRX.out]
    exact ⟨rfl, HK3.out⟩
  | ok dr =>
    obtain ⟨dd, r⟩ := dr
    rw [hcm] at hp
    obtain ⟨vs, ⟨rfl, j2, hj2, ht2, hrs2, hk2⟩, _, hnd, hrd⟩ := hp
    obtain ⟨k, b, s, a0, n0, c0, a1, n1, c1, a2, n2, c2, a3, n3, c3, a4, n4, c4, rfl⟩ := nd_vals hnd hrd
    have hsz1 := HK1.out.size
    have hli := LI.one (w0 := W) (k := 8) (Ty := 40) (w1 := w2.alloc (.cells #[.int .i64 k, .bool b, .string s, .slice a0 n0 c0, .slice a1 n1 c1, .slice a2 n2 c2, .slice a3 n3 c3, .slice a4 n4 c4] 40)) hrs2 (hrd.mono fun b _ hb => Nat.le_trans hsz1 hb) (HK1.out.trans hk2 (fun _ _ h => h)) rfl rfl
    have HLI := Lib.hid hli
    have HRES2 := Lib.hid (show res = pipeEnd q (pipeLoop (commandF K) (T.length - j2 + 1) dd (T.drop j2)) by rw [HRES1.out, hcm]; dsimp only; rw [← ht2, List.length_drop])
    have HAN := Lib.hid (AllN.of hnd)
    have HJ := Lib.hid (show i ≤ j2 by omega)
    clear hcm hk2 hrs2 hrd hnd ht2 hli
    go_wp2_with fail
    go_loopg [4] (T.length - j2) (fun g l' wr => ∃ (I M m : Nat) (la : Option Addr) (lc : Nat) (acc : List Dt), g = T.length - I ∧ l' = .slice la m lc ∧ i ≤ I ∧ 1 ≤ m ∧ m ≤ I + 1 ∧ T.length - I + 1 ≤ M ∧ Hid (LI W wr B cs tv n T d I (.slice la m lc) 8 40 m acc) ∧ Hid (AllN acc) ∧ Hid (res = pipeEnd q (pipeLoop (commandF K) M acc (T.drop I))))
    case atStart => exact ⟨j2, _, 1, _, 1, dd, rfl, rfl, HJ.out, Nat.le_refl _, by omega, Nat.le_refl _, HLI, HAN, HRES2⟩
    case round =>
      obtain ⟨I, M, m, la, lc, acc, hgk, rfl, hiI, hm1, hmI, hM, HL, HA, HRL⟩ := hrel
      have HGK := Lib.hid hgk
      have hIT := HL.out.rs.i
      have hT2 := HL.out.rs.sm.1
      obtain ⟨M, rfl⟩ : ∃ M', M = M' + 1 := ⟨M - 1, by omega⟩
      have HCW := Lib.hid (show cs < W.heap.size from Nat.lt_trans HCS.out HX.out)
      clear hgk HLI HRES2 HAN
      cases ho : isOpF [124] (T.drop I) with
      | true =>
        have hpos := toks_pos (op_pos ho)
        have hrl : res = pipeEnd q (match commandF K (linesF (T.drop I).tail) with
          | .error e => .error e
          | .ok (d, r) => pipeLoop (commandF K) M (acc ++ d) r) := by rw [HRL.out, pipeLoop_succ, ho, if_pos rfl]
        have hop := opP_any wr B cs n I d tv T [124] true HL.out.rs ho
        have HOP := Lib.hid hop
        replace HRL := Lib.hid hrl
        clear ho hrl hop
        go_wp2_with fail
        refine HOP.out.mono ?_
        rintro e w3 ⟨rfl, j3, hj3, ht3, hrs3, hk3⟩
        have ht3' : T.drop j3 = (T.drop I).tail := ht3
        have hj3' : I + 1 ≤ j3 := by
          have := congrArg List.length ht3'
          rw [List.length_drop, List.length_tail, List.length_drop] at this
          omega
        have HS3 := Lib.hid hrs3
        have HL3 := Lib.hid (HL.out.move HCW.out hk3 hrs3)
        have HT3 := Lib.hid ht3'
        clear hrs3 hk3 ht3 ht3' HOP
        go_wp2_with fail
        refine (lines_any w3 B cs n j3 d tv T HS3.out).mono ?_
        rintro e w4 ⟨rfl, j4, hj4, ht4, hrs4, hk4⟩
        rw [HT3.out] at ht4
        have HS4 := Lib.hid hrs4
        have HL4 := Lib.hid (HL3.out.move HCW.out hk4 hrs4)
        have HRL4 := Lib.hid (show res = pipeEnd q (match commandF K (T.drop j4) with
          | .error e => .error e
          | .ok (d, r) => pipeLoop (commandF K) M (acc ++ d) r) by rw [HRL.out, ht4])
        clear hrs4 hk4 ht4 HRL
        go_wp2_with fail
        refine (HC.out w4 B cs n j4 d tv T HS4.out HD.out).mono ?_
        intro e w5 hp
        cases hcm : commandF K (T.drop j4) with
        | error y =>
          rw [hcm] at hp
          obtain ⟨rfl, hk5⟩ := hp
          have HRX := Lib.hid (show res = .error y by rw [HRL4.out, hcm]; rfl)
          have HK3 := Lib.hid (((HKW.out.mono (fun _ _ h => h.elim)).trans HL4.out.kp (fun _ _ h => h)).trans hk5 (fun _ _ h => h))
          clear hcm hk5
          go_wp2_with fail
          refine ⟨rfl, ?_⟩
          rw [HRX.out]
          exact ⟨rfl, HK3.out⟩
        | ok dr =>
          obtain ⟨d2, r2⟩ := dr
          rw [hcm] at hp
          obtain ⟨vs, ⟨rfl, j5, hj5, ht5, hrs5, hk5⟩, _, hnd, hrd⟩ := hp
          obtain ⟨kx, bx, sx, a0x, n0x, c0x, a1x, n1x, c1x, a2x, n2x, c2x, a3x, n3x, c3x, a4x, n4x, c4x, rfl⟩ := nd_vals hnd hrd
          obtain ⟨xs, hown4, hF⟩ := HL4.out.more HCW.out hk5 hrs5 hrd
          have HF := Lib.hid hF
          have HRL5 := Lib.hid (show res = pipeEnd q (pipeLoop (commandF K) M (acc ++ d2) (T.drop j5)) by rw [HRL4.out, hcm]; dsimp only; rw [← ht5])
          have HA5 := Lib.hid (HA.out.app (AllN.of hnd))
          have hj5T := hrs5.i
          clear hcm hk5 hrs5 hrd hnd ht5 hF
          go_wp2_with (at_builtin; refine wpList_append_lies _ rfl (.tmp 14) (.tmp 17) _ rfl 0 40 i0 _ 8 152 Tryd.underlying24 hi0 hz0 hz1 hz2 rfl (by omega) (.slice la m lc) m xs rfl (hown4.alloc _) ⟨w5.heap.size, 0, none⟩ 1 1 [.int .i64 kx, .bool bx, .string sx, .slice a0x n0x c0x, .slice a1x n1x c1x, .slice a2x n2x c2x, .slice a3x n3x c3x, .slice a4x n4x c4x] rfl rfl (World.news_of_block (cs := #[.int .i64 kx, .bool bx, .string sx, .slice a0x n0x c0x, .slice a1x n1x c1x, .slice a2x n2x c2x, .slice a3x n3x c3x, .slice a4x n4x c4x]) (t := 40) (fr := (0, 0)) (heap_alloc_new w5 _)) (by simp [Value.oneCell']) (by omega) (by unfold maxLen; omega) (by omega) (by simp) (w5.heap.size + 1) (by simp) ?_; intro gg cap w6 hown2 hgrow hat hlt5; have HLI5 := Lib.hid (HF.out gg cap w6 _ hown2 hgrow hat); clear hown2 hgrow hat)
          go_roundg (T.length - j5)
          case measure => have := HGK.out; omega
          case rel => exact ⟨j5, M, m + 1, _, cap, acc ++ d2, rfl, rfl, by omega, by omega, by omega, by omega, HLI5, HA5, HRL5⟩
      | false =>
        have hrl : res = pipeEnd q (.ok (acc, T.drop I)) := by rw [HRL.out, pipeLoop_succ, ho, if_neg (by simp)]
        have hop := opP_any wr B cs n I d tv T [124] false HL.out.rs ho
        have HOP := Lib.hid hop
        have hlen := HL.out.own.len
        unfold pipeEnd at hrl
        dsimp only at hrl
        by_cases h8 : m = 1 ∧ q = false
        · obtain ⟨rfl, rfl⟩ := h8
          rw [if_pos ⟨by omega, rfl⟩] at hrl
          have hnd := HA.out.one (by omega)
          have HRX := Lib.hid hrl
          have HND := Lib.hid hnd
          clear ho hrl hop hlen
          go_wp2_with fail
          refine HOP.out.mono ?_
          rintro e w3 ⟨rfl, j3, hj3, ht3, hrs3, hk3⟩
          have HL3 := Lib.hid (HL.out.move HCW.out hk3 hrs3)
          have HT3 := Lib.hid (show T.drop j3 = T.drop I from ht3)
          have HS3 := Lib.hid hrs3
          have HK3 := Lib.hid ((HKW.out.mono (fun _ _ h => h.elim)).trans HL3.out.kp (fun _ _ h => h))
          have hcw := HCS.out
          have HR3 := Lib.hid (HR.out.keep HL3.out.kp (fun e => by omega))
          have hrd3 := HL3.out.own.reads (fun g hg => HL3.out.low g hg)
          obtain ⟨g, o, k, b, s, a0, n0, c0, a1, n1, c1, a2, n2, c2, a3, n3, c3, a4, n4, c4, rfl, hg, ⟨q0, q1, q2, q3, q4, q5, q6, q7⟩, hr⟩ := rd_one hrd3 hnd
          have HRD3 := Lib.hid hr
          clear hrs3 hk3 ht3 hrd3 hr hnd
          obtain ⟨⟨z0, z1, z2, z3, z4, z5, z6, z7⟩, y0, y1, y2, y3, y4, y5, y6, y7⟩ := HR3.out.eight
          have hzl := HR3.out.lt
          go_wp2_with fail
          refine bodyPost_ret (v := .agg #[.int .i64 k, .bool b, .string s, .slice a0 n0 c0, .slice a1 n1 c1, .slice a2 n2 c2, .slice a3 n3 c3, .slice a4 n4 c4]) (by simp [results, Tryd.results52, go_sem, z0, z1, z2, z3, z4, z5, z6, z7]) rfl ?_
          obtain ⟨f1, f2, f3⟩ := nd_fin HK3.out HS3.out HX.out HCS.out HRD3.out (set8_keeps w3 w.heap.size (.int .i64 k) (.bool b) (.string s) (.slice a0 n0 c0) (.slice a1 n1 c1) (.slice a2 n2 c2) (.slice a3 n3 c3) (.slice a4 n4 c4))
          rw [HRX.out]
          exact ⟨[.int .i64 k, .bool b, .string s, .slice a0 n0 c0, .slice a1 n1 c1, .slice a2 n2 c2, .slice a3 n3 c3, .slice a4 n4 c4], ⟨rfl, _, by omega, HT3.out, f1, f2⟩, trivial, HND.out, f3⟩
        · rw [if_neg (by intro hh; exact h8 ⟨by omega, hh.2⟩)] at hrl
          by_cases hm : m = 1
          · have hq1 : q = true := by
              cases q with
              | false => exact absurd ⟨hm, rfl⟩ h8
              | true => rfl
            subst hq1
            subst hm
            have HRX := Lib.hid hrl
            have HND := Lib.hid (show NdD (ndR 2 true [] [] [] [] acc []) from ⟨_, _, _, _, _, _, _, _, rfl⟩)
            clear hrl hop hlen h8 ho
            go_wp2_with fail
            refine HOP.out.mono ?_
            rintro e w3 ⟨rfl, j3, hj3, ht3, hrs3, hk3⟩
            have HL3 := Lib.hid (HL.out.move HCW.out hk3 hrs3)
            have HT3 := Lib.hid (show T.drop j3 = T.drop I from ht3)
            have HS3 := Lib.hid hrs3
            have HK3 := Lib.hid ((HKW.out.mono (fun _ _ h => h.elim)).trans HL3.out.kp (fun _ _ h => h))
            have hcw := HCS.out
            have HR3 := Lib.hid (HR.out.keep HL3.out.kp (fun e => by omega))
            have hrd3 := HL3.out.own.reads (fun g hg => HL3.out.low g hg)
            have HRD3 := Lib.hid (show RdL w3 (fun b => W.heap.size ≤ b) (ndR 2 true [] [] [] [] acc []) [.int .i64 2, .bool true, .string ⟨#[]⟩, .slice none 0 0, .slice none 0 0, .slice none 0 0, .slice la 1 lc, .slice none 0 0] from ⟨.int _, .bool _, .str _, .nil _ _ _ (Nat.zero_le _), .nil _ _ _ (Nat.zero_le _), .nil _ _ _ (Nat.zero_le _), hrd3, .nil _ _ _ (Nat.zero_le _), trivial⟩)
            clear hrs3 hk3 ht3 hrd3
            obtain ⟨⟨z0, z1, z2, z3, z4, z5, z6, z7⟩, y0, y1, y2, y3, y4, y5, y6, y7⟩ := HR3.out.eight
            have hzl := HR3.out.lt
            go_wp2_with fail
            refine bodyPost_ret (v := .agg #[.int .i64 2, .bool true, .string ⟨#[]⟩, .slice none 0 0, .slice none 0 0, .slice none 0 0, .slice la 1 lc, .slice none 0 0]) (by simp [results, Tryd.results52, go_sem, z0, z1, z2, z3, z4, z5, z6, z7]) rfl ?_
            obtain ⟨f1, f2, f3⟩ := nd_fin HK3.out HS3.out HX.out HCS.out HRD3.out (set8_keeps w3 w.heap.size (.int .i64 2) (.bool true) (.string ⟨#[]⟩) (.slice none 0 0) (.slice none 0 0) (.slice none 0 0) (.slice la 1 lc) (.slice none 0 0))
            rw [HRX.out]
            exact ⟨[.int .i64 2, .bool true, .string ⟨#[]⟩, .slice none 0 0, .slice none 0 0, .slice none 0 0, .slice la 1 lc, .slice none 0 0], ⟨rfl, _, by omega, HT3.out, f1, f2⟩, trivial, HND.out, f3⟩
          · have t0 : ((m : Int) == 1) = false := by rw [beq_eq_false_iff_ne]; omega
            have HRX := Lib.hid hrl
            have HND := Lib.hid (show NdD (ndR 2 q [] [] [] [] acc []) from ⟨_, _, _, _, _, _, _, _, rfl⟩)
            clear hrl hop hlen h8 ho
            go_wp2_with fail
            refine HOP.out.mono ?_
            rintro e w3 ⟨rfl, j3, hj3, ht3, hrs3, hk3⟩
            have HL3 := Lib.hid (HL.out.move HCW.out hk3 hrs3)
            have HT3 := Lib.hid (show T.drop j3 = T.drop I from ht3)
            have HS3 := Lib.hid hrs3
            have HK3 := Lib.hid ((HKW.out.mono (fun _ _ h => h.elim)).trans HL3.out.kp (fun _ _ h => h))
            have hcw := HCS.out
            have HR3 := Lib.hid (HR.out.keep HL3.out.kp (fun e => by omega))
            have hrd3 := HL3.out.own.reads (fun g hg => HL3.out.low g hg)
            have HRD3 := Lib.hid (show RdL w3 (fun b => W.heap.size ≤ b) (ndR 2 q [] [] [] [] acc []) [.int .i64 2, .bool q, .string ⟨#[]⟩, .slice none 0 0, .slice none 0 0, .slice none 0 0, .slice la m lc, .slice none 0 0] from ⟨.int _, .bool _, .str _, .nil _ _ _ (Nat.zero_le _), .nil _ _ _ (Nat.zero_le _), .nil _ _ _ (Nat.zero_le _), hrd3, .nil _ _ _ (Nat.zero_le _), trivial⟩)
            clear hrs3 hk3 ht3 hrd3
            obtain ⟨⟨z0, z1, z2, z3, z4, z5, z6, z7⟩, y0, y1, y2, y3, y4, y5, y6, y7⟩ := HR3.out.eight
            have hzl := HR3.out.lt
            go_wp2_with fail
            refine bodyPost_ret (v := .agg #[.int .i64 2, .bool q, .string ⟨#[]⟩, .slice none 0 0, .slice none 0 0, .slice none 0 0, .slice la m lc, .slice none 0 0]) (by simp [results, Tryd.results52, go_sem, z0, z1, z2, z3, z4, z5, z6, z7]) rfl ?_
            obtain ⟨f1, f2, f3⟩ := nd_fin HK3.out HS3.out HX.out HCS.out HRD3.out (set8_keeps w3 w.heap.size (.int .i64 2) (.bool q) (.string ⟨#[]⟩) (.slice none 0 0) (.slice none 0 0) (.slice none 0 0) (.slice la m lc) (.slice none 0 0))
            rw [HRX.out]
            exact ⟨[.int .i64 2, .bool q, .string ⟨#[]⟩, .slice none 0 0, .slice none 0 0, .slice none 0 0, .slice la m lc, .slice none 0 0], ⟨rfl, _, by omega, HT3.out, f1, f2⟩, trivial, HND.out, f3⟩
end Go.Proofs.YtcahifkiiabioaaDoor
namespace Go.Proofs.YtcahifkiiabioaaDoor
open Go.RowKit
set_option linter.unusedVariables false

theorem RdL.cells {w w1 : World} {D : Nat → Prop} {cs : List Dt} {vs : List Value} {Ty : TypeId} (hr : RdL w D cs vs) (hw : w1 = w.alloc (.cells vs.toArray Ty)) : ∀ j (hj : j < cs.length), w1.cell? ⟨w.heap.size, 0 + j, none⟩ = some (vs.getD j (.int .i64 0)) ∧ Rd w D cs[j] (vs.getD j (.int .i64 0)) := by
  intro j hj
  have hl := hr.len
  have hb : w1.heap[w.heap.size]? = some (.cells vs.toArray Ty) := by rw [hw]; exact heap_alloc_new w _
  have e : vs.getD j (.int .i64 0) = vs[j]'(by omega) := by
    rw [List.getD_eq_getElem?_getD, List.getElem?_eq_getElem (by omega)]; rfl
  rw [e]
  refine ⟨?_, hr.at hj (by omega)⟩
  rw [cell_of_row _ _ (0 + j) _ _ _ hb, Nat.zero_add]
  simp
theorem rd_lit {w w1 : World} {D : Nat → Prop} {cs : List Dt} {vs : List Value} {Ty : TypeId} {k m : Nat} (hr : RdL w D cs vs) (hm : cs.length = m * k) (hx : m ≤ maxLen) (hw : w1 = w.alloc (.cells vs.toArray Ty)) (hD : D w.heap.size) :
    Rd w1 D (.sl k cs) (.slice (some ⟨w.heap.size, 0, none⟩) m m) := by
  have hk : Keeps (fun _ => False) w w1 := by rw [hw]; exact (Keeps.refl _ _).alloc _
  refine .sl k cs w.heap.size 0 m m (fun j => vs.getD j (.int .i64 0)) hm (Nat.le_refl _) hx (by rw [hw]; simp) hD (fun j hj => ?_) (fun j hj => ?_)
  · have h := (hr.cells hw j hj).1
    exact h
  · exact (hr.cells hw j hj).2.keep hk (fun _ _ _ h => h)
theorem andLoop_succ (cmd : List Tk → PR (List Dt)) (n : Nat) (acc : List Dt) (ts : List Tk) : andLoop cmd (n + 1) acc ts = if isOpF [38, 38] ts then (match pipelineF cmd (linesF ts.tail) with
      | .error e => .error e
      | .ok (d, r) => andLoop cmd n (ndR 3 false [] [] [] [] (acc ++ d) []) r)
    else if isOpF [124, 124] ts then (match pipelineF cmd (linesF ts.tail) with
      | .error e => .error e
      | .ok (d, r) => andLoop cmd n (ndR 4 false [] [] [] [] (acc ++ d) []) r)
    else .ok (acc, ts) := rfl
/-- A command in a record. -/
structure AI (W w wr : World) (B cs : Nat) (tv : Value) (n : Nat) (T : List Tk) (d N I : Nat) (acc : List Dt) : Prop where
  rs : RS wr B cs tv n T I d
  kp : Keeps (fun b => b = cs) w wr
  rc : ∃ vs, RecAt wr N vs ∧ RdL wr (fun b => W.heap.size ≤ b ∧ b ≠ N) acc vs
  nd : NdD acc
  zr : RecAt wr w.heap.size [.int .i64 0, .bool false, .string ⟨#[]⟩, .slice none 0 0, .slice none 0 0, .slice none 0 0, .slice none 0 0, .slice none 0 0]

set_option maxRecDepth 100000 in
set_option maxHeartbeats 8000000 in
theorem andOr_any (K : Nat) (hcmd : CmdOK K) (w : World) (B cs n i d : Nat) (tv : Value) (T : List Tk) (h : RS w B cs tv n T i d) (hd : d + K = 40) :
    Calls Tryd.prog 40 #[.pointer (some ⟨cs, 0, none⟩)] w (NodePost w B cs tv n T i d AnyS (andOrF (commandF K) (T.drop i))) := by
  obtain ⟨res, hres⟩ : ∃ res, res = andOrF (commandF K) (T.drop i) := ⟨_, rfl⟩
  rw [← hres]
  unfold andOrF at hres
  have hc8 := cells_node
  have HRES := Lib.hid hres
  have HH := Lib.hid h
  have HC := Lib.hid hcmd
  have HD := Lib.hid hd
  have HCS := Lib.hid h.lt
  clear hres h hcmd hd
  go_enter Tryd.func40, Tryd.ntmps40
  go_wp2_with fail
  obtain ⟨W, hW⟩ : ∃ W, W = w.alloc (.cells #[.int .i64 0, .bool false, .string ⟨#[]⟩, .slice none 0 0, .slice none 0 0, .slice none 0 0, .slice none 0 0, .slice none 0 0] 40) := ⟨_, rfl⟩
  have hkW : Keeps (fun _ => False) w W := by rw [hW]; exact (Keeps.refl _ _).alloc _
  have HR := Lib.hid (show RecAt W w.heap.size [.int .i64 0, .bool false, .string ⟨#[]⟩, .slice none 0 0, .slice none 0 0, .slice none 0 0, .slice none 0 0, .slice none 0 0] by rw [hW]; exact new_rec8 _ _ _ _ _ _ _ _ _ _)
  rw [← hW]
  have HKW := Lib.hid hkW
  have HX := Lib.hid (show w.heap.size < W.heap.size by rw [hW]; simp)
  have HS := Lib.hid (HH.out.keep0 hkW)
  have HCW := Lib.hid (show cs < W.heap.size from Nat.lt_trans HCS.out HX.out)
  clear hkW hW
  refine (pipeline_any K HC.out W B cs n i d tv T HS.out HD.out).mono ?_
  intro e w2 hp
  cases hcm : pipelineF (commandF K) (T.drop i) with
  | error y =>
    rw [hcm] at hp
    obtain ⟨rfl, hk2⟩ := hp
    have HRX := Lib.hid (show res = .error y by rw [HRES.out, hcm])
    have HK3 := Lib.hid ((HKW.out.mono (fun _ _ h => h.elim)).trans hk2 (fun _ _ h => h))
    clear hcm hk2
    go_wp2_with fail
    refine ⟨rfl, ?_⟩
    rw [HRX.out]
    exact ⟨rfl, HK3.out⟩
  | ok dr =>
    obtain ⟨dd, r⟩ := dr
    rw [hcm] at hp
    obtain ⟨vs, ⟨rfl, j2, hj2, ht2, hrs2, hk2⟩, _, hnd, hrd⟩ := hp
    obtain ⟨k, b, s, a0, n0, c0, a1, n1, c1, a2, n2, c2, a3, n3, c3, a4, n4, c4, rfl⟩ := nd_vals hnd hrd
    have HKW0 := Lib.hid hk2.size
    obtain ⟨N, hN⟩ : ∃ N, N = w2.heap.size := ⟨_, rfl⟩
    obtain ⟨W2, hW2⟩ : ∃ W2, W2 = w2.alloc (.cells #[.int .i64 k, .bool b, .string s, .slice a0 n0 c0, .slice a1 n1 c1, .slice a2 n2 c2, .slice a3 n3 c3, .slice a4 n4 c4] 40) := ⟨_, rfl⟩
    have hk3 : Keeps (fun _ => False) w2 W2 := by rw [hW2]; exact (Keeps.refl _ _).alloc _
    have HAI := Lib.hid (show AI W w W2 B cs tv n T d N j2 dd from ⟨hrs2.keep0 hk3, ((HKW.out.mono (fun _ _ h => h.elim)).trans hk2 (fun _ _ h => h)).trans hk3 (fun _ _ h => h.elim), ⟨[.int .i64 k, .bool b, .string s, .slice a0 n0 c0, .slice a1 n1 c1, .slice a2 n2 c2, .slice a3 n3 c3, .slice a4 n4 c4], by rw [hW2, hN]; exact new_rec8 _ _ _ _ _ _ _ _ _ _, (hrd.lt.keep hk3 (fun _ _ _ h => h)).mono fun b _ hb => ⟨hb.1, by have := hb.2; omega⟩⟩, hnd, (HR.out.keep hk2 (fun e => by have := HCS.out; omega)).keep hk3 (fun h => h)⟩)
    have HRES2 := Lib.hid (show res = andLoop (commandF K) (T.length - j2 + 1) dd (T.drop j2) by rw [HRES.out, hcm]; dsimp only; rw [← ht2, List.length_drop])
    have HNB := Lib.hid (show cs < N by rw [hN]; exact hrs2.lt)
    have HNW := Lib.hid (show w.heap.size ≤ N ∧ W.heap.size ≤ N by rw [hN]; have h1 := HX.out; have h2 := hk2.size; omega)
    have HN := Lib.hid hN
    clear hcm hk2 hrs2 hrd hnd ht2 hk3
    clear hN
    go_wp2_with fail
    rw [← hW2, ← HN.out]
    clear hW2
    go_loopg [] (T.length - j2) (fun g wr => ∃ (I M : Nat) (acc : List Dt), g = T.length - I ∧ i ≤ I ∧ T.length - I + 1 ≤ M ∧ Hid (AI W w wr B cs tv n T d N I acc) ∧ Hid (res = andLoop (commandF K) M acc (T.drop I)))
    case atStart => exact ⟨j2, _, dd, rfl, hj2, Nat.le_refl _, HAI, HRES2⟩
    case round =>
      obtain ⟨I, M, acc, hgk, hiI, hM, HA, HRL⟩ := hrel
      have HGK := Lib.hid hgk
      have hIT := HA.out.rs.i
      have hT2 := HA.out.rs.sm.1
      obtain ⟨vs, hrec, hrd⟩ := HA.out.rc
      obtain ⟨k, b, s, a0, n0, c0, a1, n1, c1, a2, n2, c2, a3, n3, c3, a4, n4, c4, rfl⟩ := nd_vals HA.out.nd hrd
      have HND := Lib.hid HA.out.nd
      have HRC := Lib.hid hrec
      have HRD := Lib.hid hrd
      have HSR := Lib.hid HA.out.rs
      have HZ := Lib.hid HA.out.zr
      have HKR := Lib.hid HA.out.kp
      obtain ⟨M, rfl⟩ : ∃ M', M = M' + 1 := ⟨M - 1, by omega⟩
      clear hgk HAI HRES2 hrec hrd
      cases ho : isOpF [38, 38] (T.drop I) with
      | true =>
        have hpos := toks_pos (op_pos ho)
        have HRK0 := Lib.hid (show res = match pipelineF (commandF K) (linesF (T.drop I).tail) with
          | .error e => .error e
          | .ok (d, r) => andLoop (commandF K) M (ndR 3 false [] [] [] [] (acc ++ d) []) r by rw [HRL.out, andLoop_succ, ho, if_pos rfl])
        have HRK := HRK0
        have HOP := Lib.hid (opP_any wr B cs n I d tv T [38, 38] true HSR.out ho)
        clear ho HRL
        go_wp2_with fail
        refine HOP.out.mono ?_
        rintro e w3 ⟨rfl, j3, hj3, ht3, hrs3, hk3⟩
        have ht3' : T.drop j3 = (T.drop I).tail := ht3
        have hj3' : I + 1 ≤ j3 := by
          have := congrArg List.length ht3'
          rw [List.length_drop, List.length_tail, List.length_drop] at this
          omega
        have HS3 := Lib.hid hrs3
        have HT3 := Lib.hid ht3'
        have HK3 := Lib.hid (HKR.out.trans hk3 (fun _ _ h => h))
        have HR3 := Lib.hid (HRC.out.keep hk3 (fun e => by have := HNB.out; omega))
        have HZ3 := Lib.hid (HZ.out.keep hk3 (fun e => by have := HCS.out; omega))
        have HRD3 := Lib.hid (HRD.out.keep hk3 (fun b _ hb e => by have := HCW.out; have := hb.1; omega))
        clear hrs3 hk3 ht3 ht3' HOP
        go_wp2_with fail
        refine (lines_any w3 B cs n j3 d tv T HS3.out).mono ?_
        rintro e wl ⟨rfl, jl, hjl, htl, hrsl, hkl⟩
        rw [HT3.out] at htl
        have HSL := Lib.hid hrsl
        have HKL := Lib.hid (HK3.out.trans hkl (fun _ _ h => h))
        have HRL := Lib.hid (show res = match pipelineF (commandF K) (T.drop jl) with
          | .error e => .error e
          | .ok (d, r) => andLoop (commandF K) M (ndR 3 false [] [] [] [] (acc ++ d) []) r by rw [HRK.out, htl])
        have HRN := Lib.hid (HR3.out.keep hkl (fun e => by have := HNB.out; omega))
        have HZL := Lib.hid (HZ3.out.keep hkl (fun e => by have := HCS.out; omega))
        have HRDL := Lib.hid (HRD3.out.keep hkl (fun b _ hb e => by have := HCW.out; have := hb.1; omega))
        clear hrsl hkl htl
        obtain ⟨⟨x0, x1, x2, x3, x4, x5, x6, x7⟩, xf0, xf1, xf2, xf3, xf4, xf5, xf6, xf7⟩ := HRN.out.eight
        have hnlt := HRN.out.lt
        have hcN : cs ≠ N := by have := HNB.out; omega
        cases hcm : pipelineF (commandF K) (T.drop jl) with
        | error y =>
          have HRX := Lib.hid (show res = .error y by rw [HRL.out, hcm])
          have HCM := Lib.hid hcm
          clear hcm
          go_wp2_with fail
          refine wp_region_held_drew (S := (fun w' => RecAt w' N [.int .i64 k, .bool b, .string s, .slice a0 n0 c0, .slice a1 n1 c1, .slice a2 n2 c2, .slice a3 n3 c3, .slice a4 n4 c4])) (by kernel_rfl) (HRN.out.keep (S := fun _ => False) (Keeps.refl _ _).drew (fun h => h)) (fun hHeld => ?_)
          refine wpAnyH_take (i := 0) (v := .int .i64 3) rfl (by kernel_rfl) (by kernel_rfl) (by kernel_rfl) (fun _ _ _ h => h) (Or.inl ⟨by rfl, ?_⟩) hHeld ?_
          · (intro ww hSw; have ⟨⟨g0, g1, g2, g3, g4, g5, g6, g7⟩, _⟩ := RecAt.eight hSw; go_simp; all_goals (first | done | with_reducible rfl))
          refine wpAnyH_take (i := 1) (v := .agg #[.int .i64 k, .bool b, .string s, .slice a0 n0 c0, .slice a1 n1 c1, .slice a2 n2 c2, .slice a3 n3 c3, .slice a4 n4 c4]) rfl (by kernel_rfl) (by kernel_rfl) (by kernel_rfl) (fun _ _ _ h => h) (Or.inl ⟨by rfl, ?_⟩) hHeld ?_
          · (intro ww hSw; have ⟨⟨g0, g1, g2, g3, g4, g5, g6, g7⟩, _⟩ := RecAt.eight hSw; go_simp; all_goals (first | done | with_reducible rfl))
          refine wpAnyH_take (i := 2) (v := .pointer (some ⟨cs, 0, none⟩)) rfl (by kernel_rfl) (by kernel_rfl) (by kernel_rfl) (fun _ _ _ h => h) (Or.inl ⟨by rfl, ?_⟩) hHeld ?_
          · (intro ww hSw; have ⟨⟨g0, g1, g2, g3, g4, g5, g6, g7⟩, _⟩ := RecAt.eight hSw; go_simp; all_goals (first | done | with_reducible rfl))
          refine wpAnyH_ready (rs := [3]) (by kernel_rfl) (by simp) ?_
          refine AllReadyH.cons rfl (fun KK hK => ?_) AllReadyH.nil
          go_simp
          go_at_call 52
          refine (pipeline_any K HC.out _ B cs n jl d tv T (HSL.out.keep0 (Keeps.refl _ _).drew) HD.out).mono ?_
          rw [HCM.out]
          rintro e w4 ⟨rfl, hk4⟩
          have HK4 := Lib.hid ((HKL.out.drew).trans hk4 (fun _ _ h => h))
          clear hk4
          go_wp2_with fail
          refine ⟨rfl, ?_⟩
          rw [HRX.out]
          exact ⟨rfl, HK4.out⟩
        | ok dr =>
          obtain ⟨d2, r2⟩ := dr
          have HRX := Lib.hid (show res = andLoop (commandF K) M (ndR 3 false [] [] [] [] (acc ++ d2) []) r2 by rw [HRL.out, hcm])
          have HCM := Lib.hid hcm
          clear hcm
          go_wp2_with fail
          go_region_with (
            go_at_call 52
            refine (pipeline_any K HC.out _ B cs n jl d tv T ?_ HD.out).mono ?_
            exact HSL.out.keep0 (Keeps.refl _ _).drew
            rw [HCM.out]
            rintro e w4 ⟨vs2, ⟨rfl, j4, hj4, ht4, hrs4, hk4⟩, _, hnd4, hrd4⟩
            obtain ⟨kx, bx, sx, a0x, n0x, c0x, a1x, n1x, c1x, a2x, n2x, c2x, a3x, n3x, c3x, a4x, n4x, c4x, rfl⟩ := nd_vals hnd4 hrd4
            have HS4 := Lib.hid hrs4
            have HT4 := Lib.hid ht4
            have hkk := (Keeps.refl (fun b => b = cs) wl).drew.trans hk4 (fun _ _ h => h)
            have hR4 := HRN.out.keep hkk (fun e => hcN e.symm)
            obtain ⟨⟨y0, y1, y2, y3, y4, y5, y6, y7⟩, yf0, yf1, yf2, yf3, yf4, yf5, yf6, yf7⟩ := hR4.eight
            have hn4 := hR4.lt
            have HR4 := Lib.hid hR4
            have HKK := Lib.hid hkk
            have HRD4 := Lib.hid hrd4
            clear hrs4 ht4 hkk hk4 hR4 hnd4 hrd4)
          all_goals
            obtain ⟨W5, hW5⟩ : ∃ W5, W5 = ((((((((w4.setCell ⟨N, 0, none⟩ (.int .i64 3)).setCell ⟨N, 1, none⟩ (.bool false)).setCell ⟨N, 2, none⟩ (.string ⟨#[]⟩)).setCell ⟨N, 3, none⟩ (.slice none 0 0)).setCell ⟨N, 4, none⟩ (.slice none 0 0)).setCell ⟨N, 5, none⟩ (.slice none 0 0)).setCell ⟨N, 6, none⟩ (.slice (some ⟨w4.heap.size, 0, none⟩) 2 2)).setCell ⟨N, 7, none⟩ (.slice none 0 0)) := ⟨_, rfl⟩
            have hk6 : Keeps (fun b => b = N) w4 W5 := by rw [hW5]; exact set8_keeps w4 N (.int .i64 3) (.bool false) (.string ⟨#[]⟩) (.slice none 0 0) (.slice none 0 0) (.slice none 0 0) (.slice (some ⟨w4.heap.size, 0, none⟩) 2 2) (.slice none 0 0)
            have hz5 : W5.heap.size = w4.heap.size := by rw [hW5]; simp
            have hR6 : RecAt W5 N [.int .i64 3, .bool false, .string ⟨#[]⟩, .slice none 0 0, .slice none 0 0, .slice none 0 0, .slice (some ⟨w4.heap.size, 0, none⟩) 2 2, .slice none 0 0] := by rw [hW5]; exact set8_rec HR4.out (.int .i64 3) (.bool false) (.string ⟨#[]⟩) (.slice none 0 0) (.slice none 0 0) (.slice none 0 0) (.slice (some ⟨w4.heap.size, 0, none⟩) 2 2) (.slice none 0 0)
            obtain ⟨W6, hW6⟩ : ∃ W6, W6 = W5.alloc (.cells #[.int .i64 k, .bool b, .string s, .slice a0 n0 c0, .slice a1 n1 c1, .slice a2 n2 c2, .slice a3 n3 c3, .slice a4 n4 c4, .int .i64 kx, .bool bx, .string sx, .slice a0x n0x c0x, .slice a1x n1x c1x, .slice a2x n2x c2x, .slice a3x n3x c3x, .slice a4x n4x c4x] 40) := ⟨_, rfl⟩
            have hk7 : Keeps (fun _ => False) W5 W6 := by rw [hW6]; exact (Keeps.refl _ _).alloc _
            have hD2 : RdL w4 (fun b => W.heap.size ≤ b ∧ b ≠ N) d2 [.int .i64 kx, .bool bx, .string sx, .slice a0x n0x c0x, .slice a1x n1x c1x, .slice a2x n2x c2x, .slice a3x n3x c3x, .slice a4x n4x c4x] := HRD4.out.mono fun b _ hb => by
              have h1 := HKL.out.size
              have h2 := HRN.out.lt
              have h4 : wl.heap.size ≤ b := hb
              have h5 := HNW.out.2
              exact ⟨by omega, by omega⟩
            have hD1 := HRDL.out.keep HKK.out (fun b _ hb e => by have := HCW.out; have := hb.1; omega)
            have hDD := (hD1.app hD2).keep hk6 (fun b _ hb e => hb.2 e)
            have hrow := rd_lit (k := 8) (m := 2) (Ty := 40) hDD (by rw [List.length_append]; have h1 := HND.out.len; have h2 := HRD4.out.len; simp only [List.length_cons, List.length_nil] at h2; omega) (by decide) hW6 ⟨by have h1 := HNW.out.2; have h2 := HR4.out.lt; omega, by have := HR4.out.lt; omega⟩
            rw [hz5] at hrow
            have hk8 := ((HKL.out.trans HKK.out (fun _ _ h => h)).fresh hk6 (fun b e => by have := HNW.out.1; omega)).trans hk7 (fun _ _ h => h.elim)
            have hS7 := (HS4.out.keep hk6 (fun b hb e => by have h1 := HS4.out.cs; have := HNB.out; omega) (fun e => hcN e)).keep0 hk7
            have hRD7 : RdL W6 (fun b => W.heap.size ≤ b ∧ b ≠ N) (ndR 3 false [] [] [] [] (acc ++ d2) []) [.int .i64 3, .bool false, .string ⟨#[]⟩, .slice none 0 0, .slice none 0 0, .slice none 0 0, .slice (some ⟨w4.heap.size, 0, none⟩) 2 2, .slice none 0 0] := ⟨.int _, .bool _, .str _, .nil _ _ _ (Nat.zero_le _), .nil _ _ _ (Nat.zero_le _), .nil _ _ _ (Nat.zero_le _), hrow, .nil _ _ _ (Nat.zero_le _), trivial⟩
            have HA7 := Lib.hid (show AI W w W6 B cs tv n T d N j4 (ndR 3 false [] [] [] [] (acc ++ d2) []) from ⟨hS7, hk8, ⟨_, hR6.keep hk7 (fun h => h), hRD7⟩, ⟨_, _, _, _, _, _, _, _, rfl⟩, ((HZL.out.keep HKK.out (fun e => by have := HCS.out; omega)).keep hk6 (fun e => by have h1 := HNW.out.2; have := HX.out; omega)).keep hk7 (fun h => h)⟩)
            have HRX7 := Lib.hid (show res = andLoop (commandF K) M (ndR 3 false [] [] [] [] (acc ++ d2) []) (T.drop j4) by rw [HT4.out]; exact HRX.out)
            have hj4T := HS4.out.i
            rw [← hW5, ← hW6]
            clear hk6 hz5 hR6 hk7 hD2 hD1 hDD hrow hk8 hS7 hRD7 hW5 hW6
            go_wp2_with fail
            go_roundg (T.length - j4)
            case measure => have := HGK.out; omega
            case rel => exact ⟨j4, M, _, rfl, by omega, by omega, HA7, HRX7⟩
      | false =>
        have HOP := Lib.hid (opP_any wr B cs n I d tv T [38, 38] false HSR.out ho)
        cases ho2 : isOpF [124, 124] (T.drop I) with
        | true =>
          have hpos := toks_pos (op_pos ho2)
          have HRK := Lib.hid (show res = match pipelineF (commandF K) (linesF (T.drop I).tail) with
            | .error e => .error e
            | .ok (d, r) => andLoop (commandF K) M (ndR 4 false [] [] [] [] (acc ++ d) []) r by rw [HRL.out, andLoop_succ, ho, ho2, if_neg (by simp), if_pos rfl])
          have HO2 := Lib.hid ho2
          clear ho ho2 HRL
          go_wp2_with fail
          refine HOP.out.mono ?_
          rintro e wa ⟨rfl, ja, hja, hta, hrsa, hka⟩
          have HTA := Lib.hid (show T.drop ja = T.drop I from hta)
          have HSA := Lib.hid hrsa
          have HKA := Lib.hid hka
          clear hrsa hka hta HOP
          go_wp2_with fail
          refine (opP_any wa B cs n ja d tv T [124, 124] true HSA.out (by rw [HTA.out]; exact HO2.out)).mono ?_
          rintro e w3 ⟨rfl, j3, hj3, ht3, hrs3, hk3⟩
          have ht3' : T.drop j3 = (T.drop I).tail := by rw [← HTA.out]; exact ht3
          have hj3' : I + 1 ≤ j3 := by
            have := congrArg List.length ht3'
            rw [List.length_drop, List.length_tail, List.length_drop] at this
            omega
          have HS3 := Lib.hid hrs3
          have HT3 := Lib.hid ht3'
          have hkt := HKA.out.trans hk3 (fun _ _ h => h)
          have HK3 := Lib.hid (HKR.out.trans hkt (fun _ _ h => h))
          have HR3 := Lib.hid (HRC.out.keep hkt (fun e => by have := HNB.out; omega))
          have HZ3 := Lib.hid (HZ.out.keep hkt (fun e => by have := HCS.out; omega))
          have HRD3 := Lib.hid (HRD.out.keep hkt (fun b _ hb e => by have := HCW.out; have := hb.1; omega))
          clear hrs3 hk3 ht3 ht3' hkt
          go_wp2_with fail
          refine (lines_any w3 B cs n j3 d tv T HS3.out).mono ?_
          rintro e wl ⟨rfl, jl, hjl, htl, hrsl, hkl⟩
          rw [HT3.out] at htl
          have HSL := Lib.hid hrsl
          have HKL := Lib.hid (HK3.out.trans hkl (fun _ _ h => h))
          have HRL := Lib.hid (show res = match pipelineF (commandF K) (T.drop jl) with
            | .error e => .error e
            | .ok (d, r) => andLoop (commandF K) M (ndR 4 false [] [] [] [] (acc ++ d) []) r by rw [HRK.out, htl])
          have HRN := Lib.hid (HR3.out.keep hkl (fun e => by have := HNB.out; omega))
          have HZL := Lib.hid (HZ3.out.keep hkl (fun e => by have := HCS.out; omega))
          have HRDL := Lib.hid (HRD3.out.keep hkl (fun b _ hb e => by have := HCW.out; have := hb.1; omega))
          clear hrsl hkl htl
          obtain ⟨⟨x0, x1, x2, x3, x4, x5, x6, x7⟩, xf0, xf1, xf2, xf3, xf4, xf5, xf6, xf7⟩ := HRN.out.eight
          have hnlt := HRN.out.lt
          have hcN : cs ≠ N := by have := HNB.out; omega
          cases hcm : pipelineF (commandF K) (T.drop jl) with
          | error y =>
            have HRX := Lib.hid (show res = .error y by rw [HRL.out, hcm])
            have HCM := Lib.hid hcm
            clear hcm
            go_wp2_with fail
            refine wp_region_held_drew (S := (fun w' => RecAt w' N [.int .i64 k, .bool b, .string s, .slice a0 n0 c0, .slice a1 n1 c1, .slice a2 n2 c2, .slice a3 n3 c3, .slice a4 n4 c4])) (by kernel_rfl) (HRN.out.keep (S := fun _ => False) (Keeps.refl _ _).drew (fun h => h)) (fun hHeld => ?_)
            refine wpAnyH_take (i := 0) (v := .int .i64 4) rfl (by kernel_rfl) (by kernel_rfl) (by kernel_rfl) (fun _ _ _ h => h) (Or.inl ⟨by rfl, ?_⟩) hHeld ?_
            · (intro ww hSw; have ⟨⟨g0, g1, g2, g3, g4, g5, g6, g7⟩, _⟩ := RecAt.eight hSw; go_simp; all_goals (first | done | with_reducible rfl))
            refine wpAnyH_take (i := 1) (v := .agg #[.int .i64 k, .bool b, .string s, .slice a0 n0 c0, .slice a1 n1 c1, .slice a2 n2 c2, .slice a3 n3 c3, .slice a4 n4 c4]) rfl (by kernel_rfl) (by kernel_rfl) (by kernel_rfl) (fun _ _ _ h => h) (Or.inl ⟨by rfl, ?_⟩) hHeld ?_
            · (intro ww hSw; have ⟨⟨g0, g1, g2, g3, g4, g5, g6, g7⟩, _⟩ := RecAt.eight hSw; go_simp; all_goals (first | done | with_reducible rfl))
            refine wpAnyH_take (i := 2) (v := .pointer (some ⟨cs, 0, none⟩)) rfl (by kernel_rfl) (by kernel_rfl) (by kernel_rfl) (fun _ _ _ h => h) (Or.inl ⟨by rfl, ?_⟩) hHeld ?_
            · (intro ww hSw; have ⟨⟨g0, g1, g2, g3, g4, g5, g6, g7⟩, _⟩ := RecAt.eight hSw; go_simp; all_goals (first | done | with_reducible rfl))
            refine wpAnyH_ready (rs := [3]) (by kernel_rfl) (by simp) ?_
            refine AllReadyH.cons rfl (fun KK hK => ?_) AllReadyH.nil
            go_simp
            go_at_call 52
            refine (pipeline_any K HC.out _ B cs n jl d tv T (HSL.out.keep0 (Keeps.refl _ _).drew) HD.out).mono ?_
            rw [HCM.out]
            rintro e w4 ⟨rfl, hk4⟩
            have HK4 := Lib.hid ((HKL.out.drew).trans hk4 (fun _ _ h => h))
            clear hk4
            go_wp2_with fail
            refine ⟨rfl, ?_⟩
            rw [HRX.out]
            exact ⟨rfl, HK4.out⟩
          | ok dr =>
            obtain ⟨d2, r2⟩ := dr
            have HRX := Lib.hid (show res = andLoop (commandF K) M (ndR 4 false [] [] [] [] (acc ++ d2) []) r2 by rw [HRL.out, hcm])
            have HCM := Lib.hid hcm
            clear hcm
            go_wp2_with fail
            go_region_with (
              go_at_call 52
              refine (pipeline_any K HC.out _ B cs n jl d tv T ?_ HD.out).mono ?_
              exact HSL.out.keep0 (Keeps.refl _ _).drew
              rw [HCM.out]
              rintro e w4 ⟨vs2, ⟨rfl, j4, hj4, ht4, hrs4, hk4⟩, _, hnd4, hrd4⟩
              obtain ⟨kx, bx, sx, a0x, n0x, c0x, a1x, n1x, c1x, a2x, n2x, c2x, a3x, n3x, c3x, a4x, n4x, c4x, rfl⟩ := nd_vals hnd4 hrd4
              have HS4 := Lib.hid hrs4
              have HT4 := Lib.hid ht4
              have hkk := (Keeps.refl (fun b => b = cs) wl).drew.trans hk4 (fun _ _ h => h)
              have hR4 := HRN.out.keep hkk (fun e => hcN e.symm)
              obtain ⟨⟨y0, y1, y2, y3, y4, y5, y6, y7⟩, yf0, yf1, yf2, yf3, yf4, yf5, yf6, yf7⟩ := hR4.eight
              have hn4 := hR4.lt
              have HR4 := Lib.hid hR4
              have HKK := Lib.hid hkk
              have HRD4 := Lib.hid hrd4
              clear hrs4 ht4 hkk hk4 hR4 hnd4 hrd4)
            all_goals
              obtain ⟨W5, hW5⟩ : ∃ W5, W5 = ((((((((w4.setCell ⟨N, 0, none⟩ (.int .i64 4)).setCell ⟨N, 1, none⟩ (.bool false)).setCell ⟨N, 2, none⟩ (.string ⟨#[]⟩)).setCell ⟨N, 3, none⟩ (.slice none 0 0)).setCell ⟨N, 4, none⟩ (.slice none 0 0)).setCell ⟨N, 5, none⟩ (.slice none 0 0)).setCell ⟨N, 6, none⟩ (.slice (some ⟨w4.heap.size, 0, none⟩) 2 2)).setCell ⟨N, 7, none⟩ (.slice none 0 0)) := ⟨_, rfl⟩
              have hk6 : Keeps (fun b => b = N) w4 W5 := by rw [hW5]; exact set8_keeps w4 N (.int .i64 4) (.bool false) (.string ⟨#[]⟩) (.slice none 0 0) (.slice none 0 0) (.slice none 0 0) (.slice (some ⟨w4.heap.size, 0, none⟩) 2 2) (.slice none 0 0)
              have hz5 : W5.heap.size = w4.heap.size := by rw [hW5]; simp
              have hR6 : RecAt W5 N [.int .i64 4, .bool false, .string ⟨#[]⟩, .slice none 0 0, .slice none 0 0, .slice none 0 0, .slice (some ⟨w4.heap.size, 0, none⟩) 2 2, .slice none 0 0] := by rw [hW5]; exact set8_rec HR4.out (.int .i64 4) (.bool false) (.string ⟨#[]⟩) (.slice none 0 0) (.slice none 0 0) (.slice none 0 0) (.slice (some ⟨w4.heap.size, 0, none⟩) 2 2) (.slice none 0 0)
              obtain ⟨W6, hW6⟩ : ∃ W6, W6 = W5.alloc (.cells #[.int .i64 k, .bool b, .string s, .slice a0 n0 c0, .slice a1 n1 c1, .slice a2 n2 c2, .slice a3 n3 c3, .slice a4 n4 c4, .int .i64 kx, .bool bx, .string sx, .slice a0x n0x c0x, .slice a1x n1x c1x, .slice a2x n2x c2x, .slice a3x n3x c3x, .slice a4x n4x c4x] 40) := ⟨_, rfl⟩
              have hk7 : Keeps (fun _ => False) W5 W6 := by rw [hW6]; exact (Keeps.refl _ _).alloc _
              have hD2 : RdL w4 (fun b => W.heap.size ≤ b ∧ b ≠ N) d2 [.int .i64 kx, .bool bx, .string sx, .slice a0x n0x c0x, .slice a1x n1x c1x, .slice a2x n2x c2x, .slice a3x n3x c3x, .slice a4x n4x c4x] := HRD4.out.mono fun b _ hb => by
                have h1 := HKL.out.size
                have h2 := HRN.out.lt
                have h4 : wl.heap.size ≤ b := hb
                have h5 := HNW.out.2
                exact ⟨by omega, by omega⟩
              have hD1 := HRDL.out.keep HKK.out (fun b _ hb e => by have := HCW.out; have := hb.1; omega)
              have hDD := (hD1.app hD2).keep hk6 (fun b _ hb e => hb.2 e)
              have hrow := rd_lit (k := 8) (m := 2) (Ty := 40) hDD (by rw [List.length_append]; have h1 := HND.out.len; have h2 := HRD4.out.len; simp only [List.length_cons, List.length_nil] at h2; omega) (by decide) hW6 ⟨by have h1 := HNW.out.2; have h2 := HR4.out.lt; omega, by have := HR4.out.lt; omega⟩
              rw [hz5] at hrow
              have hk8 := ((HKL.out.trans HKK.out (fun _ _ h => h)).fresh hk6 (fun b e => by have := HNW.out.1; omega)).trans hk7 (fun _ _ h => h.elim)
              have hS7 := (HS4.out.keep hk6 (fun b hb e => by have h1 := HS4.out.cs; have := HNB.out; omega) (fun e => hcN e)).keep0 hk7
              have hRD7 : RdL W6 (fun b => W.heap.size ≤ b ∧ b ≠ N) (ndR 4 false [] [] [] [] (acc ++ d2) []) [.int .i64 4, .bool false, .string ⟨#[]⟩, .slice none 0 0, .slice none 0 0, .slice none 0 0, .slice (some ⟨w4.heap.size, 0, none⟩) 2 2, .slice none 0 0] := ⟨.int _, .bool _, .str _, .nil _ _ _ (Nat.zero_le _), .nil _ _ _ (Nat.zero_le _), .nil _ _ _ (Nat.zero_le _), hrow, .nil _ _ _ (Nat.zero_le _), trivial⟩
              have HA7 := Lib.hid (show AI W w W6 B cs tv n T d N j4 (ndR 4 false [] [] [] [] (acc ++ d2) []) from ⟨hS7, hk8, ⟨_, hR6.keep hk7 (fun h => h), hRD7⟩, ⟨_, _, _, _, _, _, _, _, rfl⟩, ((HZL.out.keep HKK.out (fun e => by have := HCS.out; omega)).keep hk6 (fun e => by have h1 := HNW.out.2; have := HX.out; omega)).keep hk7 (fun h => h)⟩)
              have HRX7 := Lib.hid (show res = andLoop (commandF K) M (ndR 4 false [] [] [] [] (acc ++ d2) []) (T.drop j4) by rw [HT4.out]; exact HRX.out)
              have hj4T := HS4.out.i
              rw [← hW5, ← hW6]
              clear hk6 hz5 hR6 hk7 hD2 hD1 hDD hrow hk8 hS7 hRD7 hW5 hW6
              go_wp2_with fail
              go_roundg (T.length - j4)
              case measure => have := HGK.out; omega
              case rel => exact ⟨j4, M, _, rfl, by omega, by omega, HA7, HRX7⟩
        | false =>
          have HRX := Lib.hid (show res = .ok (acc, T.drop I) by rw [HRL.out, andLoop_succ, ho, ho2, if_neg (by simp), if_neg (by simp)])
          have HO2 := Lib.hid ho2
          clear ho ho2 HRL
          go_wp2_with fail
          refine HOP.out.mono ?_
          rintro e wa ⟨rfl, ja, hja, hta, hrsa, hka⟩
          have HTA := Lib.hid (show T.drop ja = T.drop I from hta)
          have HSA := Lib.hid hrsa
          have HKA := Lib.hid hka
          clear hrsa hka hta HOP
          go_wp2_with fail
          refine (opP_any wa B cs n ja d tv T [124, 124] false HSA.out (by rw [HTA.out]; exact HO2.out)).mono ?_
          rintro e w3 ⟨rfl, j3, hj3, ht3, hrs3, hk3⟩
          have HT3 := Lib.hid (show T.drop j3 = T.drop I from (show T.drop j3 = T.drop ja from ht3).trans HTA.out)
          have HS3 := Lib.hid hrs3
          have hkt := HKA.out.trans hk3 (fun _ _ h => h)
          have HK3 := Lib.hid (HKR.out.trans hkt (fun _ _ h => h))
          have HRN := Lib.hid (HRC.out.keep hkt (fun e => by have := HNB.out; omega))
          have HRD3 := Lib.hid ((HRD.out.keep hkt (fun b _ hb e => by have := HCW.out; have := hb.1; omega)).mono (D' := fun b => W.heap.size ≤ b) (fun b _ hb => hb.1))
          have hcw := HCS.out
          have hxw := HX.out
          have HR3 := Lib.hid (HZ.out.keep hkt (fun e => by omega))
          obtain ⟨⟨x0, x1, x2, x3, x4, x5, x6, x7⟩, xf0, xf1, xf2, xf3, xf4, xf5, xf6, xf7⟩ := HRN.out.eight
          have hnlt := HRN.out.lt
          clear hrs3 hk3 ht3 hkt
          obtain ⟨⟨z0, z1, z2, z3, z4, z5, z6, z7⟩, y0, y1, y2, y3, y4, y5, y6, y7⟩ := HR3.out.eight
          have hzl := HR3.out.lt
          go_wp2_with fail
          refine bodyPost_ret (v := .agg #[.int .i64 k, .bool b, .string s, .slice a0 n0 c0, .slice a1 n1 c1, .slice a2 n2 c2, .slice a3 n3 c3, .slice a4 n4 c4]) (by simp [results, Tryd.results40, go_sem, z0, z1, z2, z3, z4, z5, z6, z7]) rfl ?_
          obtain ⟨f1, f2, f3⟩ := nd_fin HK3.out HS3.out HX.out HCS.out HRD3.out (set8_keeps w3 w.heap.size (.int .i64 k) (.bool b) (.string s) (.slice a0 n0 c0) (.slice a1 n1 c1) (.slice a2 n2 c2) (.slice a3 n3 c3) (.slice a4 n4 c4))
          rw [HRX.out]
          exact ⟨[.int .i64 k, .bool b, .string s, .slice a0 n0 c0, .slice a1 n1 c1, .slice a2 n2 c2, .slice a3 n3 c3, .slice a4 n4 c4], ⟨rfl, _, by omega, HT3.out, f1, f2⟩, trivial, HND.out, f3⟩
end Go.Proofs.YtcahifkiiabioaaDoor
namespace Go.Proofs.YtcahifkiiabioaaDoor
open Go.RowKit
set_option linter.unusedVariables false

theorem ends_less {ts : List Tk} (h : (endsF ts).1 = true) : (endsF ts).2.length + 1 ≤ ts.length := by
  unfold endsF at h ⊢
  split at h
  · next hq =>
    rw [if_pos hq]
    have h1 : 1 ≤ ts.length := by
      rcases Bool.or_eq_true_iff.1 hq with h | h
      · exact op_pos h
      · exact op_pos h
    have := lines_len ts.tail
    rw [List.length_tail] at this
    show (linesF ts.tail).length + 1 ≤ _
    omega
  · cases h
theorem allLoop_succ (cmd : List Tk → PR (List Dt)) (n : Nat) (acc : List Dt) (ts : List Tk) : allLoop cmd (n + 1) acc ts = if (endsF ts).1 && moreF (endsF ts).2 then (match andOrF cmd (endsF ts).2 with
    | .error e => .error e
    | .ok (d, r) => allLoop cmd n (acc ++ d) r) else .ok (acc, (endsF ts).2) := rfl
/-- What all leaves: a slice of commands. -/
def AllPost (w : World) (B cs : Nat) (tv : Value) (n : Nat) (T : List Tk) (i d : Nat) (res : PR (List Dt)) (e : Ending) (w' : World) : Prop := match res with
  | .ok (ds, r) => ∃ (a : Option Addr) (m c : Nat), MovePost w B cs tv n T i d (.slice a m c) r e w' ∧ AllN ds ∧ Rd w' (fun b => w.heap.size ≤ b) (.sl 8 ds) (.slice a m c)
  | .error x => e = failedP x ∧ Keeps (fun b => b = cs) w w'

set_option maxRecDepth 100000 in
set_option maxHeartbeats 8000000 in
theorem all_any (K : Nat) (hcmd : CmdOK K) (w : World) (B cs n i d : Nat) (tv : Value) (T : List Tk) (h : RS w B cs tv n T i d) (hd : d + K = 40) :
    Calls Tryd.prog 29 #[.pointer (some ⟨cs, 0, none⟩)] w (AllPost w B cs tv n T i d (allF (commandF K) (T.drop i))) := by
  obtain ⟨res, hres⟩ : ∃ res, res = allF (commandF K) (T.drop i) := ⟨_, rfl⟩
  rw [← hres]
  unfold allF at hres
  have hc8 := cells_node
  obtain ⟨i0, hi0, hz0, hz1, hz2⟩ := info_parts info_node
  have HRES := Lib.hid hres
  have HH := Lib.hid h
  have HC := Lib.hid hcmd
  have HD := Lib.hid hd
  have HCS := Lib.hid h.lt
  clear hres h hcmd hd
  go_enter Tryd.func29, Tryd.ntmps29
  go_wp2_with fail
  refine (andOr_any K HC.out w B cs n i d tv T HH.out HD.out).mono ?_
  intro e w2 hp
  cases hcm : andOrF (commandF K) (T.drop i) with
  | error y =>
    rw [hcm] at hp
    obtain ⟨rfl, hk2⟩ := hp
    have HRX := Lib.hid (show res = .error y by rw [HRES.out, hcm])
    have HK3 := Lib.hid hk2
    clear hcm hk2
    go_wp2_with fail
    refine ⟨rfl, ?_⟩
    rw [HRX.out]
    exact ⟨rfl, HK3.out⟩
  | ok dr =>
    obtain ⟨dd, r⟩ := dr
    rw [hcm] at hp
    obtain ⟨vs, ⟨rfl, j2, hj2, ht2, hrs2, hk2⟩, _, hnd, hrd⟩ := hp
    obtain ⟨k, b, s, a0, n0, c0, a1, n1, c1, a2, n2, c2, a3, n3, c3, a4, n4, c4, rfl⟩ := nd_vals hnd hrd
    have hli := LI.one (w0 := w) (k := 8) (Ty := 40) (w1 := w2.alloc (.cells #[.int .i64 k, .bool b, .string s, .slice a0 n0 c0, .slice a1 n1 c1, .slice a2 n2 c2, .slice a3 n3 c3, .slice a4 n4 c4] 40)) hrs2 hrd hk2 rfl rfl
    have HLI := Lib.hid hli
    have HRES2 := Lib.hid (show res = allLoop (commandF K) (T.length - j2 + 1) dd (T.drop j2) by rw [HRES.out, hcm]; dsimp only; rw [← ht2, List.length_drop])
    have HAN := Lib.hid (AllN.of hnd)
    have HJ := Lib.hid hj2
    clear hcm hk2 hrs2 hrd hnd ht2 hli
    go_wp2_with fail
    go_loopg [3] (T.length - j2) (fun g l' wr => ∃ (I M m : Nat) (la : Option Addr) (lc : Nat) (acc : List Dt), g = T.length - I ∧ l' = .slice la m lc ∧ i ≤ I ∧ m ≤ I + 1 ∧ T.length - I + 1 ≤ M ∧ Hid (LI w wr B cs tv n T d I (.slice la m lc) 8 40 m acc) ∧ Hid (AllN acc) ∧ Hid (res = allLoop (commandF K) M acc (T.drop I)))
    case atStart => exact ⟨j2, _, 1, _, 1, dd, rfl, rfl, HJ.out, by omega, Nat.le_refl _, HLI, HAN, HRES2⟩
    case round =>
      obtain ⟨I, M, m, la, lc, acc, hgk, rfl, hiI, hmI, hM, HL, HA, HRL⟩ := hrel
      have HGK := Lib.hid hgk
      have hIT := HL.out.rs.i
      have hT2 := HL.out.rs.sm.1
      obtain ⟨M, rfl⟩ : ∃ M', M = M' + 1 := ⟨M - 1, by omega⟩
      clear hgk HLI HRES2 HAN
      obtain ⟨ts2, hts⟩ : ∃ ts2, ts2 = (endsF (T.drop I)).2 := ⟨_, rfl⟩
      cases he : (endsF (T.drop I)).1 with
      | true =>
        have hless := ends_less he
        rw [← hts, List.length_drop] at hless
        have HEN := Lib.hid (ends_any wr B cs n I d tv T true HL.out.rs he)
        cases hmo : moreF ts2 with
        | true =>
          have HRL1 := Lib.hid (show res = match andOrF (commandF K) ts2 with
            | .error e => .error e
            | .ok (d, r) => allLoop (commandF K) M (acc ++ d) r by rw [HRL.out, allLoop_succ, he, ← hts, hmo]; rfl)
          have HTS := Lib.hid hts
          have HMO := Lib.hid hmo
          clear he hmo hts HRL
          go_wp2_with fail
          refine HEN.out.mono ?_
          rw [← HTS.out]
          rintro e w3 ⟨rfl, j3, hj3, ht3, hrs3, hk3⟩
          have hj3' : I + 1 ≤ j3 := by
            have := congrArg List.length ht3
            rw [List.length_drop] at this
            have := hrs3.i
            omega
          have HS3 := Lib.hid hrs3
          have HL3 := Lib.hid (HL.out.move HCS.out hk3 hrs3)
          have HT3 := Lib.hid ht3
          clear hrs3 hk3 ht3 HEN HTS
          go_wp2_with fail
          refine (more_any w3 B cs n j3 d tv T true HS3.out (by rw [HT3.out]; exact HMO.out)).mono ?_
          rintro e w4 ⟨rfl, hk4⟩
          have HS4 := Lib.hid (HS3.out.keep0 hk4)
          have HL4 := Lib.hid (HL3.out.keep0 hk4)
          clear hk4 HMO
          go_wp2_with fail
          refine (andOr_any K HC.out w4 B cs n j3 d tv T HS4.out HD.out).mono ?_
          intro e w5 hp
          rw [HT3.out] at hp
          cases hcm : andOrF (commandF K) ts2 with
          | error y =>
            rw [hcm] at hp
            obtain ⟨rfl, hk5⟩ := hp
            have HRX := Lib.hid (show res = .error y by rw [HRL1.out, hcm])
            have HK3 := Lib.hid (HL4.out.kp.trans hk5 (fun _ _ h => h))
            clear hcm hk5
            go_wp2_with fail
            refine ⟨rfl, ?_⟩
            rw [HRX.out]
            exact ⟨rfl, HK3.out⟩
          | ok dr =>
            obtain ⟨d2, r2⟩ := dr
            rw [hcm] at hp
            obtain ⟨vs, ⟨rfl, j5, hj5, ht5, hrs5, hk5⟩, _, hnd, hrd⟩ := hp
            obtain ⟨kx, bx, sx, a0x, n0x, c0x, a1x, n1x, c1x, a2x, n2x, c2x, a3x, n3x, c3x, a4x, n4x, c4x, rfl⟩ := nd_vals hnd hrd
            obtain ⟨xs, hown4, hF⟩ := HL4.out.more HCS.out hk5 hrs5 hrd
            have HF := Lib.hid hF
            have HRL5 := Lib.hid (show res = allLoop (commandF K) M (acc ++ d2) (T.drop j5) by rw [HRL1.out, hcm]; dsimp only; rw [← ht5])
            have HA5 := Lib.hid (HA.out.app (AllN.of hnd))
            have hj5T := hrs5.i
            clear hcm hk5 hrs5 hrd hnd ht5 hF
            go_wp2_with (at_builtin; refine wpList_append_lies _ rfl (.tmp 13) (.tmp 16) _ rfl 0 40 i0 _ 8 152 Tryd.underlying24 hi0 hz0 hz1 hz2 rfl (by omega) (.slice la m lc) m xs rfl (hown4.alloc _) ⟨w5.heap.size, 0, none⟩ 1 1 [.int .i64 kx, .bool bx, .string sx, .slice a0x n0x c0x, .slice a1x n1x c1x, .slice a2x n2x c2x, .slice a3x n3x c3x, .slice a4x n4x c4x] rfl rfl (World.news_of_block (cs := #[.int .i64 kx, .bool bx, .string sx, .slice a0x n0x c0x, .slice a1x n1x c1x, .slice a2x n2x c2x, .slice a3x n3x c3x, .slice a4x n4x c4x]) (t := 40) (fr := (0, 0)) (heap_alloc_new w5 _)) (by simp [Value.oneCell']) (by omega) (by unfold maxLen; omega) (by omega) (by simp) (w5.heap.size + 1) (by simp) ?_; intro gg cap w6 hown2 hgrow hat hlt5; have HLI5 := Lib.hid (HF.out gg cap w6 _ hown2 hgrow hat); clear hown2 hgrow hat)
            go_roundg (T.length - j5)
            case measure => have := HGK.out; omega
            case rel => exact ⟨j5, M, m + 1, _, cap, acc ++ d2, rfl, rfl, by omega, by omega, by omega, HLI5, HA5, HRL5⟩
        | false =>
          have HRX := Lib.hid (show res = .ok (acc, ts2) by rw [HRL.out, allLoop_succ, he, ← hts, hmo]; rfl)
          have HTS := Lib.hid hts
          have HMO := Lib.hid hmo
          clear he hmo hts HRL
          go_wp2_with fail
          refine HEN.out.mono ?_
          rw [← HTS.out]
          rintro e w3 ⟨rfl, j3, hj3, ht3, hrs3, hk3⟩
          have HS3 := Lib.hid hrs3
          have HL3 := Lib.hid (HL.out.move HCS.out hk3 hrs3)
          have HT3 := Lib.hid ht3
          clear hrs3 hk3 ht3 HEN HTS
          go_wp2_with fail
          refine (more_any w3 B cs n j3 d tv T false HS3.out (by rw [HT3.out]; exact HMO.out)).mono ?_
          rintro e w4 ⟨rfl, hk4⟩
          have HS4 := Lib.hid (HS3.out.keep0 hk4)
          have HL4 := Lib.hid (HL3.out.keep0 hk4)
          clear hk4 HMO
          go_wp2_with fail
          go_ret
          rw [HRX.out]
          exact ⟨la, m, lc, ⟨rfl, j3, by omega, HT3.out, HS4.out, HL4.out.kp⟩, HA.out, HL4.out.own.reads (fun g hg => HL4.out.low g hg)⟩
      | false =>
        have HEN := Lib.hid (ends_any wr B cs n I d tv T false HL.out.rs he)
        have HRX := Lib.hid (show res = .ok (acc, ts2) by rw [HRL.out, allLoop_succ, he, ← hts]; rfl)
        have HTS := Lib.hid hts
        clear he hts HRL
        go_wp2_with fail
        refine HEN.out.mono ?_
        rw [← HTS.out]
        rintro e w3 ⟨rfl, j3, hj3, ht3, hrs3, hk3⟩
        have HS3 := Lib.hid hrs3
        have HL3 := Lib.hid (HL.out.move HCS.out hk3 hrs3)
        have HT3 := Lib.hid ht3
        clear hrs3 hk3 ht3 HEN HTS
        go_wp2_with fail
        go_ret
        rw [HRX.out]
        exact ⟨la, m, lc, ⟨rfl, j3, by omega, HT3.out, HS3.out, HL3.out.kp⟩, HA.out, HL3.out.own.reads (fun g hg => HL3.out.low g hg)⟩

set_option maxRecDepth 100000 in
set_option maxHeartbeats 8000000 in
theorem list_any (K : Nat) (hcmd : CmdOK K) (w : World) (B cs n i d : Nat) (tv : Value) (T : List Tk) (h : RS w B cs tv n T i d) (hd : d + K = 40) :
    Calls Tryd.prog 82 #[.pointer (some ⟨cs, 0, none⟩)] w (NodePost w B cs tv n T i d AnyS (listF (commandF K) (T.drop i))) := by
  obtain ⟨res, hres⟩ : ∃ res, res = listF (commandF K) (T.drop i) := ⟨_, rfl⟩
  rw [← hres]
  unfold listF at hres
  have hc8 := cells_node
  have HRES := Lib.hid hres
  have HH := Lib.hid h
  have HC := Lib.hid hcmd
  have HD := Lib.hid hd
  have HCS := Lib.hid h.lt
  clear hres h hcmd hd
  go_enter Tryd.func82, Tryd.ntmps82
  go_wp2_with fail
  obtain ⟨W, hW⟩ : ∃ W, W = w.alloc (.cells #[.int .i64 0, .bool false, .string ⟨#[]⟩, .slice none 0 0, .slice none 0 0, .slice none 0 0, .slice none 0 0, .slice none 0 0] 40) := ⟨_, rfl⟩
  have hkW : Keeps (fun _ => False) w W := by rw [hW]; exact (Keeps.refl _ _).alloc _
  have HR := Lib.hid (show RecAt W w.heap.size [.int .i64 0, .bool false, .string ⟨#[]⟩, .slice none 0 0, .slice none 0 0, .slice none 0 0, .slice none 0 0, .slice none 0 0] by rw [hW]; exact new_rec8 _ _ _ _ _ _ _ _ _ _)
  rw [← hW]
  have HKW := Lib.hid hkW
  have HX := Lib.hid (show w.heap.size < W.heap.size by rw [hW]; simp)
  have HS := Lib.hid (HH.out.keep0 hkW)
  clear hkW hW
  refine (lines_any W B cs n i d tv T HS.out).mono ?_
  rintro e w1 ⟨rfl, j1, hj1, ht1, hrs1, hk1⟩
  have HS1 := Lib.hid hrs1
  have HK1 := Lib.hid hk1
  have HT1 := Lib.hid ht1
  clear hrs1 hk1 ht1
  go_wp2_with fail
  refine (all_any K HC.out w1 B cs n j1 d tv T HS1.out HD.out).mono ?_
  intro e w2 hp
  rw [HT1.out] at hp
  cases hcm : allF (commandF K) (linesF (T.drop i)) with
  | error y =>
    rw [hcm] at hp
    obtain ⟨rfl, hk2⟩ := hp
    have HRX := Lib.hid (show res = .error y by rw [HRES.out, hcm])
    have HK3 := Lib.hid (((HKW.out.mono (fun _ _ h => h.elim)).trans HK1.out (fun _ _ h => h)).trans hk2 (fun _ _ h => h))
    clear hcm hk2
    go_wp2_with fail
    refine ⟨rfl, ?_⟩
    rw [HRX.out]
    exact ⟨rfl, HK3.out⟩
  | ok dr =>
    obtain ⟨dd, r⟩ := dr
    rw [hcm] at hp
    obtain ⟨a, m, c, ⟨rfl, j2, hj2, ht2, hrs2, hk2⟩, han, hrd⟩ := hp
    have HRX := Lib.hid (show res = .ok (seqF dd, r) by rw [HRES.out, hcm])
    have HS2 := Lib.hid hrs2
    have HK2 := Lib.hid (HK1.out.trans hk2 (fun _ _ h => h))
    have HT2 := Lib.hid ht2
    have hsq := seq_any w2 _ dd a m c hrd han
    have HSQ := Lib.hid hsq
    clear hcm hk2 hrs2 hrd han ht2 hsq
    go_wp2_with fail
    refine HSQ.out.mono ?_
    rintro e w3 ⟨vs, rfl, hnd, hrd, hk3⟩
    obtain ⟨k, b, s, a0, n0, c0, a1, n1, c1, a2, n2, c2, a3, n3, c3, a4, n4, c4, rfl⟩ := nd_vals hnd hrd
    have HS3 := Lib.hid (HS2.out.keep0 hk3)
    have hkk := HK2.out.trans hk3 (fun _ _ h => h.elim)
    have HK3 := Lib.hid ((HKW.out.mono (fun _ _ h => h.elim)).trans hkk (fun _ _ h => h))
    have HR3 := Lib.hid (HR.out.keep hkk (fun e => by have := HCS.out; omega))
    have hsz := HK1.out.size
    have HRD3 := Lib.hid (hrd.mono (D' := fun b => W.heap.size ≤ b) (fun b _ hb => Nat.le_trans hsz hb))
    have HND := Lib.hid hnd
    clear hnd hrd hk3 hkk
    obtain ⟨⟨z0, z1, z2, z3, z4, z5, z6, z7⟩, y0, y1, y2, y3, y4, y5, y6, y7⟩ := HR3.out.eight
    have hzl := HR3.out.lt
    go_wp2_with fail
    refine bodyPost_ret (v := .agg #[.int .i64 k, .bool b, .string s, .slice a0 n0 c0, .slice a1 n1 c1, .slice a2 n2 c2, .slice a3 n3 c3, .slice a4 n4 c4]) (by simp [results, Tryd.results82, go_sem, z0, z1, z2, z3, z4, z5, z6, z7]) rfl ?_
    obtain ⟨f1, f2, f3⟩ := nd_fin HK3.out HS3.out HX.out HCS.out HRD3.out (set8_keeps w3 w.heap.size (.int .i64 k) (.bool b) (.string s) (.slice a0 n0 c0) (.slice a1 n1 c1) (.slice a2 n2 c2) (.slice a3 n3 c3) (.slice a4 n4 c4))
    rw [HRX.out]
    exact ⟨[.int .i64 k, .bool b, .string s, .slice a0 n0 c0, .slice a1 n1 c1, .slice a2 n2 c2, .slice a3 n3 c3, .slice a4 n4 c4], ⟨rfl, _, by omega, HT2.out, f1, f2⟩, trivial, HND.out, f3⟩
end Go.Proofs.YtcahifkiiabioaaDoor
namespace Go.Proofs.YtcahifkiiabioaaDoor
open Go.RowKit
set_option linter.unusedVariables false

/-- A record at N; its field behind vpre is a slice that the call owns; the result's cells lie at w.heap.size. -/
structure GI (w wr : World) (B cs : Nat) (tv : Value) (n : Nat) (T : List Tk) (d X N : Nat) (Z : List Value) (pre post : List Dt) (vpre vpost : List Value) (k : Nat) (Ty : TypeId) (I m : Nat) (la : Option Addr) (lc : Nat) (ds : List Dt) : Prop where
  rs : RS wr B cs tv n T I d
  kp : Keeps (fun b => b = cs) w wr
  zr : RecAt wr w.heap.size Z
  rc : RecAt wr N (vpre ++ .slice la m lc :: vpost)
  own : OwnD wr (fun b => X ≤ b ∧ b ≠ N) (.slice la m lc) k Ty m ds
  low : ∀ g, (Value.slice la m lc).ownBlock = some g → X ≤ g ∧ g ≠ N
  pr : RdL wr (fun b => (X ≤ b ∧ b ≠ N) ∧ (Value.slice la m lc).ownBlock ≠ some b) pre vpre
  po : RdL wr (fun b => (X ≤ b ∧ b ≠ N) ∧ (Value.slice la m lc).ownBlock ≠ some b) post vpost
section
variable {w wr w4 : World} {B cs : Nat} {tv : Value} {n : Nat} {T : List Tk} {d X N : Nat} {Z : List Value} {pre post : List Dt} {vpre vpost : List Value} {k : Nat} {Ty : TypeId} {I J m : Nat} {la : Option Addr} {lc : Nat} {ds : List Dt}
theorem GI.move (h : GI w wr B cs tv n T d X N Z pre post vpre vpost k Ty I m la lc ds) (hc : cs < w.heap.size) (hX : w.heap.size < X) (hN : w.heap.size < N) (hk : Keeps (fun b => b = cs) wr w4) (hrs : RS w4 B cs tv n T J d) :
    GI w w4 B cs tv n T d X N Z pre post vpre vpost k Ty J m la lc ds :=
  ⟨hrs, h.kp.trans hk (fun _ _ e => e), h.zr.keep hk (fun e => by omega), h.rc.keep hk (fun e => by omega), h.own.keep hk (fun b _ hb e => by omega) (fun g hg e => by have := h.low g hg; omega), h.low,
   h.pr.keep hk (fun b _ hb e => by omega), h.po.keep hk (fun b _ hb e => by omega)⟩
theorem GI.keep0 (h : GI w wr B cs tv n T d X N Z pre post vpre vpost k Ty I m la lc ds) (hk : Keeps (fun _ => False) wr w4) :
    GI w w4 B cs tv n T d X N Z pre post vpre vpost k Ty I m la lc ds :=
  ⟨h.rs.keep0 hk, h.kp.trans hk (fun _ _ e => e.elim), h.zr.keep hk (fun e => e), h.rc.keep hk (fun e => e), h.own.keep hk (fun b _ _ e => e) (fun g _ e => e), h.low,
   h.pr.keep hk (fun b _ _ e => e), h.po.keep hk (fun b _ _ e => e)⟩
theorem set_mid {α} (a : List α) (x y : α) (b : List α) : (a ++ x :: b).set a.length y = a ++ y :: b := by
  rw [List.set_append_right _ _ (Nat.le_refl _), Nat.sub_self, List.set_cons_zero]
theorem GI.more (h : GI w wr B cs tv n T d X N Z pre post vpre vpost k Ty I m la lc ds) (hc : cs < w.heap.size) (hX : w.heap.size < X) (hN : w.heap.size < N) (hXw : X ≤ wr.heap.size) (hk : Keeps (fun b => b = cs) wr w4) (hrs : RS w4 B cs tv n T J d) {d2 : List Dt} {us : List Value} (hx : RdL w4 (fun b => wr.heap.size ≤ b) d2 us) :
    ∃ xs, w4.ownsRow 0 Ty k (.slice la m lc) m xs ∧ RecAt w4 N (vpre ++ .slice la m lc :: vpost) ∧
      ∀ (gg cap : Nat) (w5 : World) (o : Obj), w5.ownsRow 0 Ty k (.slice (some ⟨gg, 0, none⟩) (m + 1) cap) (m + 1) (xs ++ us) → (w4.alloc o).grownBy w5 (Value.slice la m lc).ownBlock → ((Value.slice la m lc).ownBlock = some gg ∨ gg = w4.heap.size + 1) →
        RecAt w5 N (vpre ++ .slice la m lc :: vpost) ∧ GI w (w5.setCell ⟨N, vpre.length, none⟩ (.slice (some ⟨gg, 0, none⟩) (m + 1) cap)) B cs tv n T d X N Z pre post vpre vpost k Ty J (m + 1) (some ⟨gg, 0, none⟩) cap (ds ++ d2) := by
  have h4 := h.move hc hX hN hk hrs
  have hB := hrs.cs
  have hsz := hk.size
  have hNl := h4.rc.lt
  have hNr := h.rc.lt
  have hlow := h4.low
  have hzl := h4.zr.lt
  obtain ⟨xs, hr, ho⟩ := h4.own
  refine ⟨xs, ho, h4.rc, fun gg cap w5 o hown hgrow hat => ?_⟩
  have hk5 : Keeps (fun b => (Value.slice la m lc).ownBlock = some b) w4 w5 := ((Keeps.refl _ w4).alloc o).grown hgrow (fun k hk _ => hk)
  have hgN : gg ≠ N := by
    rcases hat with h1 | h1
    · exact (hlow gg h1).2
    · omega
  have hgX : X ≤ gg := by
    rcases hat with h1 | h1
    · exact (hlow gg h1).1
    · have := hk.size; omega
  have hrc5 := h4.rc.keep hk5 (fun e => (hlow N e).2 rfl)
  have hk6 : Keeps (fun b => b = N) w5 (w5.setCell ⟨N, vpre.length, none⟩ (.slice (some ⟨gg, 0, none⟩) (m + 1) cap)) := (Keeps.refl _ _).setCell _ _ fun _ => rfl
  have hrs5 := hrs.keep hk5 (fun b hb e => by have := hlow b e; omega) (fun e => by have := hlow cs e; omega)
  have hx2 : RdL w4 (fun b => (X ≤ b ∧ b ≠ N) ∧ (Value.slice la m lc).ownBlock ≠ some b) d2 us := hx.mono fun b _ hb => ⟨⟨by omega, by omega⟩, fun e => by have := h.own.lt e; omega⟩
  have hoth : ∀ {dd : List Dt} {vv : List Value}, RdL w4 (fun b => (X ≤ b ∧ b ≠ N) ∧ (Value.slice la m lc).ownBlock ≠ some b) dd vv →
      RdL (w5.setCell ⟨N, vpre.length, none⟩ (.slice (some ⟨gg, 0, none⟩) (m + 1) cap)) (fun b => (X ≤ b ∧ b ≠ N) ∧ (Value.slice (some ⟨gg, 0, none⟩) (m + 1) cap).ownBlock ≠ some b) dd vv := fun hh =>
    (((hh.lt.keep hk5 (fun b _ hb e => hb.1.2 e)).keep hk6 (fun b _ hb e => hb.1.1.2 e)).mono fun b _ hb => ⟨hb.1.1, fun e => by
      have h3 : gg = b := Option.some.inj e
      rcases hat with h1 | h1
      · exact hb.1.2 (by rw [h1, h3])
      · have := hb.2; omega⟩)
  refine ⟨hrc5, ?_⟩
  refine ⟨hrs5.keep hk6 (fun b hb e => by omega) (fun e => by omega), (h4.kp.trans hk5 (fun b hb e => by have := hlow b e; omega)).fresh hk6 (fun b e => by omega), (h4.zr.keep hk5 (fun e => by have := hlow _ e; omega)).keep hk6 (fun e => by omega), ?_, ?_, ?_, hoth h4.pr, hoth h4.po⟩
  · have := hrc5.set vpre.length (.slice (some ⟨gg, 0, none⟩) (m + 1) cap)
    rw [set_mid] at this
    exact this
  · have hr2 := hr.app hx2
    have hr3 := ((hr2.lt.keep hk5 (fun b _ hb e => hb.1.2 e)).keep hk6 (fun b _ hb e => hb.1.1.2 e))
    have hr4 : RdL (w5.setCell ⟨N, vpre.length, none⟩ (.slice (some ⟨gg, 0, none⟩) (m + 1) cap)) (fun b => (X ≤ b ∧ b ≠ N) ∧ (Value.slice (some ⟨gg, 0, none⟩) (m + 1) cap).ownBlock ≠ some b) (ds ++ d2) (xs ++ us) := hr3.mono fun b _ hb => ⟨hb.1.1, fun e => by
      have h3 : gg = b := Option.some.inj e
      rcases hat with h1 | h1
      · exact hb.1.2 (by rw [h1, h3])
      · have := hb.2; omega⟩
    refine ⟨xs ++ us, hr4, ?_⟩
    · refine ⟨hown.1, ?_⟩
      rcases hown.2 with ⟨e, h0⟩ | ⟨g', cap', cur, e, hb, hg, rest⟩
      · cases e
      · have e1 : gg = g' := by injection e with e1; injection e1 with e1; injection e1
        exact .inr ⟨g', cap', cur, e, hb, (hk6.block g' (Array.getElem?_eq_some_iff.1 hg).1 (fun e2 => hgN (e1.trans e2))).trans hg, rest⟩
  · intro g hg
    have h3 : gg = g := Option.some.inj hg
    exact ⟨by omega, by omega⟩
/-- The whole record reads as its tree. -/
theorem GI.all (h : GI w wr B cs tv n T d X N Z pre post vpre vpost k Ty I m la lc ds) : RdL wr (fun b => X ≤ b) (pre ++ .sl k ds :: post) (vpre ++ .slice la m lc :: vpost) := by
  have h1 := h.own.reads (fun g hg => h.low g hg)
  exact (h.pr.mono fun b _ hb => hb.1.1).app ⟨h1.mono fun b _ hb => hb.1, h.po.mono fun b _ hb => hb.1.1⟩
end
end Go.Proofs.YtcahifkiiabioaaDoor
