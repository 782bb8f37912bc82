/-
  The law's own example: what show writes of it.
-/
import Derived.Test.YtiihpbccabeoeaaGreatDoorZPsV
import Derived.Test.YtiihpbccabeoeaaGreatDoorZPsG
namespace Go.Proofs.YtiihpbccabeoeaaGreatDoor
open Go.RowKit
set_option linter.unusedVariables false
def SaysN (m : Int) (x : Ny) (S : ByteArray) : Prop := ∀ (w : World) (D : Nat → Prop) (wa : Option Addr) (wl wc : Nat) (ga : Option Addr) (gl gc : Nat) (ra : Option Addr) (rl rcp : Nat) (ka : Option Addr) (kl kc : Nat) (aa : Option Addr) (al ac : Nat), w.cell? ⟨0, 0, none⟩ = some (.int .i64 m) → NyR w D x wa wl wc ga gl gc ra rl rcp ka kl kc aa al ac → Calls Tryz.prog 34 #[.agg #[.int .i64 x.kind, .bool x.nt, .string ⟨x.nm.toArray⟩, .slice wa wl wc, .slice ga gl gc, .slice ra rl rcp, .slice ka kl kc, .slice aa al ac]] w (NodeSays w S)
theorem nil_len {w : World} {D : Nat → Prop} {k : Nat} {a : Option Addr} {m c : Nat} (hk : 0 < k) (h : Rd w D (.sl k []) (.slice a m c)) : m = 0 := by
  obtain ⟨a', m', c', e, hl, _, _⟩ := h.shape hk
  injection e with e1 e2 e3
  subst e1 e2 e3
  rw [List.length_nil] at hl
  rcases Nat.mul_eq_zero.1 hl.symm with h | h
  · exact h
  · omega
theorem says_simple (m : Int) (x : Ny) (vs : List (List Px)) (S : ByteArray) (hS : S = ⟨(simpS vs).toArray⟩) (hk : x.kind = 1) (hw : x.ws = rowsP vs) (hg : x.gs = []) (hr : x.rs = []) (hx : ∀ v ∈ vs, WordOKS v) (hlen : (wordsS vs).length ≤ 100000) : SaysN m x S := by
  intro w D wa wl wc ga gl gc ra rl rcp ka kl kc aa al ac hm hv
  have hgs := hv.gs
  have hrs := hv.rs
  rw [hg] at hgs
  rw [hr] at hrs
  have h1 := nil_len (by decide) hgs
  have h2 := nil_len (by decide) hrs
  rw [hk]
  refine nodeSimple w x.nt ⟨x.nm.toArray⟩ S wa wl wc ga gl gc ra rl rcp ka kl kc aa al ac fun W hW => ?_
  have h9 := simple0 m W D x vs wa wl wc ga gl gc ra rl rcp ka kl kc aa al ac (hv.keep0 hW) hw h1 h2 hx (cellKeep hm hW (cellLt hm)) hlen
  rw [hk, ← hS] at h9
  exact h9
theorem says_op (m : Int) (x : Ny) (ks : List Ny) (outs : List ByteArray) (sep R R2 : ByteArray) (hsep : (x.kind = 2 ∧ x.nt = false ∧ sep = ⟨#[32, 124, 32]⟩) ∨ (x.kind = 3 ∧ sep = ⟨#[32, 38, 38, 32]⟩)) (hks : x.ks = ks.flatMap Ny.row) (hr : x.rs = []) (hl : outs.length = ks.length) (hn : ∀ i (hi : i < ks.length) (ho : i < outs.length), SaysN m ks[i] outs[i])
    (hL : outs.length ≤ 1000) (h0 : 0 < outs.length) (hR : (Lib.join (outs.map (·.data.toList)) sep.data.toList) = R.data.toList) (hlen : R.size ≤ 100000) (hR2 : Lib.trimSuffix (R.data.toList ++ [32]) [32] = R2.data.toList) : SaysN m x R2 := by
  intro w D wa wl wc ga gl gc ra rl rcp ka kl kc aa al ac hm hv
  have hrs := hv.rs
  have hkk := hv.ks
  rw [hr] at hrs
  rw [hks] at hkk
  have h2 := nil_len (by decide) hrs
  have hkl : kl = outs.length := by rw [hl]; exact (rdRecs (k := 8) (fun _ => rfl) (by decide) hkk).1
  subst hkl
  have hall : ∀ W, Keeps (fun _ => False) w W → Calls Tryz.prog 21 #[.slice ka outs.length kc, .string sep] W (NodeSays W R) := fun W hW =>
    all0 W D ks outs sep R ka kc hl (rdKeep0 hkk hW) (fun i hi ho V wa wl wc ga gl gc ra rl rcp ka kl kc aa al ac hV hx => hn i hi ho V D _ _ _ _ _ _ _ _ _ _ _ _ _ _ _ (cellKeep hm (hW.trans hV (fun _ _ s => s)) (cellLt hm)) hx) hL h0 hR hlen
  rcases hsep with ⟨hk, ht, he⟩ | ⟨hk, he⟩
  · rw [hk, ht]
    rw [he] at hall
    exact nodeOp w 2 (by decide) false ⟨x.nm.toArray⟩ R R2 wa wl wc ga gl gc ra rl rcp ka outs.length kc aa al ac h2 hlen hR2 fun W hW => barePipe W ⟨x.nm.toArray⟩ R wa wl wc ga gl gc ra rl rcp ka outs.length kc aa al ac fun V hV => hall V (hW.trans hV (fun _ _ s => s))
  · rw [hk]
    rw [he] at hall
    exact nodeOp w 3 (by decide) x.nt ⟨x.nm.toArray⟩ R R2 wa wl wc ga gl gc ra rl rcp ka outs.length kc aa al ac h2 hlen hR2 fun W hW => bareAnd W x.nt ⟨x.nm.toArray⟩ R wa wl wc ga gl gc ra rl rcp ka outs.length kc aa al ac fun V hV => hall V (hW.trans hV (fun _ _ s => s))
def exS : List UInt8 := [97, 32, 39, 98, 32, 99, 39, 32, 124, 32, 100, 32, 38, 38, 32, 101]
def exA : List Px := [⟨1, [97], [], [], [], false⟩]
def exB : List Px := [⟨2, [98, 32, 99], [], [], [], false⟩]
def exD : List Px := [⟨1, [100], [], [], [], false⟩]
def exE : List Px := [⟨1, [101], [], [], [], false⟩]
def exSimple (vs : List (List Px)) : Ny := ⟨1, false, [], rowsP vs, [], [], [], []⟩
def exPipe : Ny := ⟨2, false, [], [], [], [], [exSimple [exA, exB], exSimple [exD]].flatMap Ny.row, []⟩
def exAnd : Ny := ⟨3, false, [], [], [], [], [exPipe, exSimple [exE]].flatMap Ny.row, []⟩
def exT : List Dt := [exAnd].flatMap Ny.row
theorem ex_parse : parseF exS = .ok exT := by kernel_rfl
theorem ok_txt (c : UInt8) (h : c ≠ 36) (h2 : Lib.hasPrefix [c] [35] = false) : WordOKS [⟨1, [c], [], [], [], false⟩] :=
  ⟨fun x hx => by rw [List.mem_singleton.1 hx]; exact .inl ⟨rfl, fun d hd => by rw [List.mem_singleton.1 hd]; exact h⟩, by simp [outS, partS], by simp [outS, partS], fun x t e _ => by injection e with e1 e2; rw [← e1]; exact h2⟩
theorem ok_quote : WordOKS exB := by
  refine ⟨fun x hx => by rw [List.mem_singleton.1 hx]; exact .inr ⟨rfl, by decide +kernel, by decide +kernel⟩, by decide +kernel, by decide +kernel, fun x t e h => ?_⟩
  injection e with e1 e2
  rw [← e1] at h
  exact absurd h (by decide)
theorem ex_says (m : Int) : SaysN m exAnd ⟨#[97, 32, 39, 98, 32, 99, 39, 32, 124, 32, 100, 32, 38, 38, 32, 101]⟩ := by
  have h1 : SaysN m (exSimple [exA, exB]) ⟨#[97, 32, 39, 98, 32, 99, 39]⟩ := says_simple m _ [exA, exB] _ (by decide +kernel) rfl rfl rfl rfl (fun v hv => by
    rcases List.mem_cons.1 hv with rfl | hv
    · exact ok_txt 97 (by decide) (by decide)
    · rw [List.mem_singleton.1 hv]; exact ok_quote) (by decide +kernel)
  have h2 : SaysN m (exSimple [exD]) ⟨#[100]⟩ := says_simple m _ [exD] _ (by decide +kernel) rfl rfl rfl rfl (fun v hv => by rw [List.mem_singleton.1 hv]; exact ok_txt 100 (by decide) (by decide)) (by decide +kernel)
  have h3 : SaysN m (exSimple [exE]) ⟨#[101]⟩ := says_simple m _ [exE] _ (by decide +kernel) rfl rfl rfl rfl (fun v hv => by rw [List.mem_singleton.1 hv]; exact ok_txt 101 (by decide) (by decide)) (by decide +kernel)
  have h4 : SaysN m exPipe ⟨#[97, 32, 39, 98, 32, 99, 39, 32, 124, 32, 100]⟩ := says_op m exPipe [exSimple [exA, exB], exSimple [exD]] [⟨#[97, 32, 39, 98, 32, 99, 39]⟩, ⟨#[100]⟩] ⟨#[32, 124, 32]⟩ ⟨#[97, 32, 39, 98, 32, 99, 39, 32, 124, 32, 100]⟩ ⟨#[97, 32, 39, 98, 32, 99, 39, 32, 124, 32, 100]⟩ (.inl ⟨rfl, rfl, rfl⟩) rfl rfl rfl (fun i hi ho => by
    match i, hi with
    | 0, _ => exact h1
    | 1, _ => exact h2) (by decide) (by decide) (by decide +kernel) (by decide +kernel) (by decide +kernel)
  exact says_op m exAnd [exPipe, exSimple [exE]] [⟨#[97, 32, 39, 98, 32, 99, 39, 32, 124, 32, 100]⟩, ⟨#[101]⟩] ⟨#[32, 38, 38, 32]⟩ ⟨#[97, 32, 39, 98, 32, 99, 39, 32, 124, 32, 100, 32, 38, 38, 32, 101]⟩ ⟨#[97, 32, 39, 98, 32, 99, 39, 32, 124, 32, 100, 32, 38, 38, 32, 101]⟩ (.inr ⟨rfl, rfl⟩) rfl rfl rfl (fun i hi ho => by
    match i, hi with
    | 0, _ => exact h4
    | 1, _ => exact h3) (by decide) (by decide) (by decide +kernel) (by decide +kernel) (by decide +kernel)
set_option maxRecDepth 100000 in
set_option maxHeartbeats 4000000 in
theorem ex_script (m : Int) (w : World) (D : Nat → Prop) (a : Option Addr) (L c : Nat) (ha : Rd w D (.sl 8 exT) (.slice a L c)) (hm : w.cell? ⟨0, 0, none⟩ = some (.int .i64 m)) :
    Calls Tryz.prog 10 #[.slice a L c] w (NodeSays w ⟨exS.toArray⟩) := by
  have hL : L = [(⟨#[97, 32, 39, 98, 32, 99, 39, 32, 124, 32, 100, 32, 38, 38, 32, 101]⟩ : ByteArray)].length := (rdRecs (k := 8) (f := Ny.row) (xs := [exAnd]) (fun _ => rfl) (by decide) ha).1
  subst hL
  have HC := Lib.hid (all0 w D [exAnd] [⟨#[97, 32, 39, 98, 32, 99, 39, 32, 124, 32, 100, 32, 38, 38, 32, 101]⟩] ⟨#[59, 32]⟩ ⟨exS.toArray⟩ a c rfl ha (fun i hi ho W wa wl wc ga gl gc ra rl rcp ka kl kc aa al ac hW hx => by
    match i, hi with
    | 0, _ => exact ex_says m W D _ _ _ _ _ _ _ _ _ _ _ _ _ _ _ (cellKeep hm hW (cellLt hm)) hx) (by decide) (by decide) (by decide +kernel) (by decide +kernel))
  obtain ⟨L, hL⟩ : ∃ L, L = [(⟨#[97, 32, 39, 98, 32, 99, 39, 32, 124, 32, 100, 32, 38, 38, 32, 101]⟩ : ByteArray)].length := ⟨_, rfl⟩
  obtain ⟨S, hS⟩ : ∃ S : ByteArray, S = ⟨exS.toArray⟩ := ⟨_, rfl⟩
  rw [← hL, ← hS] at HC
  rw [← hL, ← hS]
  clear ha hm hL hS
  go_enter Tryz.func10, Tryz.ntmps10
  go_wp2_with fail
  refine HC.out.mono ?_
  rintro e w2 ⟨rfl, hb2⟩
  have HB2 := Lib.hid hb2
  clear hb2
  go_wp2_with fail
  go_ret
  exact ⟨rfl, HB2.out⟩
end Go.Proofs.YtiihpbccabeoeaaGreatDoor
