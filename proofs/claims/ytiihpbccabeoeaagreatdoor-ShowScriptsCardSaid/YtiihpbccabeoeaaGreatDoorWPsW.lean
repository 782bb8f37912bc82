/- The walk: a part. -/
import Derived.Test.YtiihpbccabeoeaaGreatDoorWPkA
import Derived.Test.YtiihpbccabeoeaaGreatDoorWShelf
import Derived.Shelf.Strings.Builder1
import Derived.Lib.AppendStr
import Derived.Lib.UnsafeStr
import Derived.Shelf.RegionOpenPlain
namespace Go.Proofs.YtiihpbccabeoeaaGreatDoor
open Go.RowKit
set_option linter.unusedVariables false
set_option maxRecDepth 100000
set_option maxHeartbeats 16000000
def qD (w:World) (B b:Nat) (p:Value) (l:List UInt8) (q:Bool):Prop:=
 B≤b∧∃v,w.heap[b]? = some (.cells #[p,v,.bool q] 65 (0,0))∧w.ownsRow B 5 1 v l.length (Lib.byteCells l)
def Wr (w:World) (B b:Nat) (l:List UInt8) (q:Bool):Prop:=qD w B b (.pointer none) l q∨qD w B b (.pointer (some ⟨b,0,none⟩)) l q
theorem A3 {w:World} {B b n:Nat} {v:Value} {cs:Array Value} {xs:List Value} (hb:w.heap[b]? = some (.cells cs 65 (0,0))) (h:w.ownsRow B 5 1 v n xs):v.ownBlock≠some b:=by
 intro e;rcases h.2 with ⟨rfl,_⟩ | ⟨g,cap,cur,rfl,_,hg,_⟩
 ·cases e
 ·simp [Value.ownBlock] at e;subst e;rw [hb] at hg;injection hg with hg;injection hg with _ h2 _;exact absurd h2 (by decide)
theorem qD.lt {w:World} {B b:Nat} {p:Value} {l:List UInt8} {q:Bool} (h:qD w B b p l q):b<w.heap.size:=by
 obtain⟨_,v,hb,_⟩:=h;exact (Array.getElem?_eq_some_iff.1 hb).1
theorem Wr.lt {w:World} {B b:Nat} {l:List UInt8} {q:Bool} (h:Wr w B b l q):b<w.heap.size:=h.elim (·.lt) (·.lt)
theorem Wr.le {w:World} {B b:Nat} {l:List UInt8} {q:Bool} (h:Wr w B b l q):B≤b:=h.elim (·.1) (·.1)
theorem qD.below {w w':World} {B b:Nat} {p:Value} {l:List UInt8} {q:Bool} (h:qD w B b p l q) (hk:K0 w w'):qD w' B b p l q:=by
 obtain⟨h0,v,hb,ho⟩:=h;refine⟨h0,v,(hk.block b (Array.getElem?_eq_some_iff.1 hb).1 (fun h=>h)).trans hb,ho.1,?_⟩;rcases ho.2 with h9 | ⟨g,cap,cur,rfl,h1,hg,rest⟩
 ·exact .inl h9
 ·exact .inr ⟨g,cap,cur,rfl,h1,(hk.block g (Array.getElem?_eq_some_iff.1 hg).1 (fun h=>h)).trans hg,rest⟩
theorem Wr.below {w w':World} {B b:Nat} {l:List UInt8} {q:Bool} (h:Wr w B b l q) (hk:K0 w w'):Wr w' B b l q:=h.imp (·.below hk) (·.below hk)
theorem Wr.flag {w:World} {B b:Nat} {l:List UInt8} {q:Bool} (h:Wr w B b l q):w.cell? ⟨b,2,none⟩=some (.bool q):=by
 rcases h with ⟨_,v,hb,_⟩ | ⟨_,v,hb,_⟩<;>(rw [Lib.cell_of_heap hb];rfl)
theorem Wr.new (w:World):Wr (w.alloc (.cells #[.pointer none,.slice none 0 0,.bool false] 65)) w.heap.size w.heap.size [] false:=
 .inl ⟨Nat.le_refl _,.slice none 0 0,heap_alloc_new w _,World.ownsRow_nil _ _ _ _⟩
theorem qD.put {w:World} {B b:Nat} {p v v':Value} {l:List UInt8} {q:Bool} (hB:B≤b) (hb:w.heap[b]? = some (.cells #[p,v,.bool q] 65 (0,0))) (hown:w.ownsRow B 5 1 v' l.length (Lib.byteCells l)):qD (w.setCell ⟨b,1,none⟩ v') B b p l q:=by
 have hne:=A3 hb hown;refine⟨hB,v',?_,?_⟩
 ·simp [World.setCell,Array.getElem?_modify,hb]
 ·exact hown.kept (row:=some b) ⟨rfl,rfl,rfl,by simp [World.setCell],fun k _ hk=>Below.heap_setCell _ _ _ _ (fun e=>hk (by simp [e]))⟩ (Or.inr hne)
theorem yF:(Tryz.prog.info? 5).map (fun i=>(i.zero,i.size,i.bytes))=some (some (.int .u8 0),1,1):=by kernel_rfl
theorem Ox:(Tryz.prog.info? 63).map TypeInfo.size=some 2:=by kernel_rfl
theorem In (b:Nat) (w:World) (h0:w.cell? ⟨b,0,none⟩=some (.pointer (some ⟨b,0,none⟩))) :
 Calls Tryz.prog 47 #[.pointer (some ⟨b,0,none⟩)] w fun e w'=>e=.returned (.tuple #[])∧w'=w:=by
 obtain⟨j,hj,_⟩:=Option.map_eq_some_iff.1 Ox;go_enter Tryz.func47,Tryz.ntmps47;go_wp2;rw [Lib.run_neq_ptr_same w _ Tryz.underlying60 hj];go_wp2;go_end0;exact⟨rfl,rfl⟩
theorem Fq (b:Nat) (w:World) (h0:w.cell? ⟨b,0,none⟩=some (.pointer none)) (hsh:w.shape? b=some (65,3)) (hfz:w.frozen? ⟨b,0,none⟩=false) :
 Calls Tryz.prog 47 #[.pointer (some ⟨b,0,none⟩)] w fun e w'=>e=.returned (.tuple #[])∧w'=w.setCell ⟨b,0,none⟩ (.pointer (some ⟨b,0,none⟩)):=by
 obtain⟨j,hj,hjs⟩:=Option.map_eq_some_iff.1 Ox;have hlies:liesAt Tryz.prog Tryz.prog.depth 65 (3 / Tryz.prog.cellsOf 65) 0 63 1=true:=by kernel_rfl
 go_enter Tryz.func47,Tryz.ntmps47;go_wp2;rw [Lib.run_to_unsafe w ⟨b,0,none⟩ Tryz.underlying60 Tryz.underlying118 hj (by rw [hjs];decide) hsh (Nat.zero_lt_succ 2)];simp only [Result.andThen];rw [Oper.upon_value];go_wp2;rw [run_callFunc_extern Tryz.func74 (by kernel_rfl) (by kernel_rfl) (by kernel_rfl) (e:=Extern.AbiNoEscape.same) (by kernel_rfl)];rw [Lib.run_noEscape];simp only [Result.andThen];rw [Oper.upon_value]
 go_wp2;rw [Lib.run_from_unsafe w ⟨b,0,none⟩ Tryz.underlying118 Tryz.underlying60 hj hsh hlies];simp only [Result.andThen];rw [Oper.upon_value];go_wp2;go_end0;exact⟨rfl,rfl⟩
theorem rQ (B b:Nat) (l:List UInt8) (q:Bool) (w:World) (h:Wr w B b l q) (h0:l≠[]) :
 Calls Tryz.prog 28 #[.pointer (some ⟨b,0,none⟩)] w fun e w'=>e=.returned (.string ⟨l.toArray⟩)∧Below B w w':=by
 obtain⟨p,hB,v,hbk,hown⟩:∃p,qD w B b p l q:=by
  rcases h with h | h
  ·exact⟨_,h⟩
  ·exact⟨_,h⟩
 have hcb:Tryz.prog.cellsOf 5=1:=by kernel_rfl
 have mixed:Tryz.prog.follows .mixedOrders=true:=by kernel_rfl
 have hl0:l.length≠0:=by simpa using h0
 obtain⟨g,cap,cur,rfl,hbg,hg,hnc,hcm,hcs,htake⟩:∃g cap cur,v=.slice (some ⟨g,0,none⟩) l.length cap∧B≤g∧w.heap[g]? = some (.cells cur 5 (0,0))∧l.length≤cap∧cap≤maxLen∧cur.size=cap*1∧cur.toList.take (l.length*1)=Lib.byteCells l:=by
  rcases hown.2 with ⟨_,hz⟩ | ⟨g,cap,cur,hv,r⟩
  ·exact absurd hz hl0
  ·exact⟨g,cap,cur,hv,r⟩
 have c1:w.drew.cell? ⟨b,1,none⟩=some (.slice (some ⟨g,0,none⟩) l.length cap):=by
  have:w.drew.heap[b]? = some (.cells #[p,.slice (some ⟨g,0,none⟩) l.length cap,.bool q] 65 (0,0)):=hbk;rw [Lib.cell_of_heap this];rfl
 have hSD:(Builtin.unsafeSliceData_ #[61] 97 #[.slice (some ⟨g,0,none⟩) l.length cap]).run Tryz.prog w.drew=.ok (.pointer (some ⟨g,0,none⟩)) w.drew:=
  Lib.run_unsafeSliceData_row _ _ _ _ _ _ (by omega)
 have hUS:(Builtin.unsafeString_ #[97,3] 9 #[.pointer (some ⟨g,0,none⟩),.int .i64 l.length]).run Tryz.prog w.drew=.ok (.string ⟨l.toArray⟩) (w.drew.freeze ⟨g,0,none⟩ l.length):=by
  refine Lib.run_unsafeString_row w.drew 97 3 9 5 Tryz.underlying97 hcb g cur.size (by have hg':w.drew.heap[g]? = some (.cells cur 5 (0,0)):=hg;simp [World.shape?,hg']) l h0 (by omega) (by unfold maxLen at hcm;omega) ?_;intro j x hx;have:=hown.cells (g:=g) rfl j (.int .u8 x.toNat) (by simp [Lib.byteCells,hx]);exact this
 clear hown hbk hcm hcs htake hnc hg;go_enter Tryz.func28,Tryz.ntmps28;go_wp2;go_region_o
 all_goals (go_wp2;go_ret;exact⟨rfl,Lib.below_freeze (Below.drew (Below.refl B w)) (p:=⟨g,0,none⟩) hbg _⟩)
def BB (w:World) (k:Nat):Prop:=∃cs fr,w.heap[k]? = some (.cells cs 5 fr)
def Wk (B b:Nat) (a c:World):Prop:=aB (fun k=>B≤k∧(k=b∨BB a k)) a c
theorem Wk.refl (B b:Nat) (a:World):Wk B b a a:=aB.refl _ a
theorem Wk.below {B b:Nat} {a c:World} (h:Wk B b a c) (hB:B≤a.heap.size):Below B a c:=aB.below (h.mono fun _ _ hk=>hk.1) hB
theorem Wk.size {B b:Nat} {a c:World} (h:Wk B b a c):a.heap.size≤c.heap.size:=aB.size h
theorem Wk.trans {B b:Nat} {a c e:World} (h:Wk B b a c) (h2:Wk B b c e):Wk B b a e:=by
 refine aB.trans h h2 fun x hx hk=>⟨hk.1,?_⟩;rcases hk.2 with e9 | ⟨cs,fr,hc⟩
 ·exact .inl e9
 ·by_cases hb:BB a x
  ·exact .inr hb
  ·by_cases hxb:x=b
   ·exact .inl hxb
   ·have:=h.block x hx (fun h9=>h9.2.elim hxb hb);rw [this] at hc;exact .inr ⟨cs,fr,hc⟩
theorem Wk.alloc {B b:Nat} {a c:World} (h:Wk B b a c) (o:Obj):Wk B b a (c.alloc o):=aB.alloc h o
theorem Wk.drew {B b:Nat} {a c:World} (h:Wk B b a c):Wk B b a c.drew:=aB.drew h
theorem Wk.heap {B b:Nat} {a c:World} (h:Wk B b a c) {k:Nat} {o:Obj} (hk:a.heap[k]? = some o) (hne:k≠b) (ho:∀cs fr,o≠.cells cs 5 fr):c.heap[k]? = some o:=by
 have hlt:k<a.heap.size:=(Array.getElem?_eq_some_iff.1 hk).1;exact (aB.block h k hlt (fun h9=>h9.2.elim hne fun ⟨cs,fr,hc⟩=>ho cs fr (Option.some.inj (hk.symm.trans hc)))).trans hk
theorem Ki {w:World} {B n:Nat} {v:Value} {xs:List Value} (h:w.ownsRow B 5 1 v n xs) {g:Nat} (hg:v.ownBlock=some g):BB w g:=by
 rcases h.2 with ⟨rfl,_⟩ | ⟨g',cap,cur,rfl,_,hh,_⟩
 ·cases hg
 ·simp [Value.ownBlock] at hg;subst hg;exact⟨_,_,hh⟩
theorem Mr (B b:Nat) (l:List UInt8) (q:Bool) (w:World) (h:Wr w B b l q) :
 Calls Tryz.prog 47 #[.pointer (some ⟨b,0,none⟩)] w fun e w'=>e=.returned (.tuple #[])∧qD w' B b (.pointer (some ⟨b,0,none⟩)) l q∧Wk B b w w':=by
 rcases h with h | h
 ·obtain⟨h0,v,hb,ho⟩:=h;refine (Fq b w (by rw [Lib.cell_of_heap hb];rfl) (by simp [World.shape?,hb]) (Lib.frozen_of_heap hb 0)).mono ?_;rintro e w' ⟨rfl,rfl⟩;refine⟨rfl,⟨h0,v,?_,?_⟩,aB.setCell (aB.refl _ w) ⟨b,0,none⟩ _ (fun _=>⟨h0,.inl rfl⟩)⟩
  ·simp [World.setCell,Array.getElem?_modify,hb]
  ·exact ho.kept (row:=some b) ⟨rfl,rfl,rfl,by simp [World.setCell],fun k _ hk=>Below.heap_setCell _ _ _ _ (fun e=>hk (by simp [e]))⟩ (Or.inr (A3 hb ho))
 ·have h1:=h;obtain⟨h0,v,hb,ho⟩:=h;refine (In b w (by rw [Lib.cell_of_heap hb];rfl)).mono ?_;rintro e w' ⟨rfl,rfl⟩;exact⟨rfl,h1,Wk.refl B b _⟩
theorem fY (B b:Nat) (l:List UInt8) (q:Bool) (x:UInt8) (w:World) (h:Wr w B b l q) (hlen:l.length+1≤140737488355328) (hBw:B≤w.heap.size) :
 Calls Tryz.prog 75 #[.pointer (some ⟨b,0,none⟩),.int .u8 x.toNat] w fun e w'=>e=.returned .nilIface∧Wr w' B b (l++[x]) q∧Wk B b w w':=by
 obtain⟨i0,hi,hz0,hz1,hz2⟩:=info_parts yF;go_enter Tryz.func75,Tryz.ntmps75;go_wp2_with fail;refine (Mr B b l q _ h).mono ?_;rintro e w1 ⟨rfl,⟨hB,v,hbk,hown⟩,hb1⟩;have hne:=A3 hbk hown;have c0:w1.cell? ⟨b,0,none⟩=some (.pointer (some ⟨b,0,none⟩)):=by rw [Lib.cell_of_heap hbk];rfl
 have c1:w1.cell? ⟨b,1,none⟩=some v:=by rw [Lib.cell_of_heap hbk];rfl
 go_wp2_with (at_builtin;refine wpList_append_own _ rfl _ _ 61 rfl B 5 i0 (.int .u8 0) 1 1 Tryz.underlying61 hi hz0 hz1 hz2 rfl (by decide) _ _ _ rfl (hown.alloc _) ⟨w1.heap.size,0,none⟩ 1 1 [.int .u8 x.toNat] rfl rfl ?c1 ?c2 ?c3 ?c4 ?c5 ?_)
 case c1=>
  intro j u hj
  match j,hj with
  | 0,hj=>simp at hj;subst hj;simp [Addr.add]
 case c2=>intro u hu;simp at hu;subst hu;rfl
 case c3=>unfold maxLen;omega
 case c4=>omega
 case c5=>have:=hb1.size;simp;omega
 intro v' w2 hown' hgrow _;have hlt:b<w1.heap.size:=(Array.getElem?_eq_some_iff.1 hbk).1;have hb2:w2.heap[b]? = some (.cells #[.pointer (some ⟨b,0,none⟩),v,.bool q] 65 (0,0)):=by
  rw [hgrow.block b (by simp;omega) (fun e=>hne e.symm),Lib.alloc_old w1 _ b hlt];exact hbk
 have d0:w2.cell? ⟨b,0,none⟩=some (.pointer (some ⟨b,0,none⟩)):=by rw [Lib.cell_of_heap hb2];rfl
 have d1:w2.cell? ⟨b,1,none⟩=some v:=by rw [Lib.cell_of_heap hb2];rfl
 have f1:w2.frozen? ⟨b,1,none⟩=false:=Lib.frozen_of_heap hb2 1;obtain⟨g,cap,rfl⟩:∃g cap,v'=.slice (some ⟨g,0,none⟩) (l.length+1) cap:=by
  rcases hown'.2 with ⟨_,h0⟩ | ⟨g,cap,cur,hv,_⟩
  ·omega
  ·exact⟨g,cap,hv⟩
 go_wp2;go_ret;refine⟨rfl,Or.inr (qD.put hB hb2 (l:=l++[x]) (by rw [lA,Lib.byteCells_append];exact hown')),?_⟩;exact hb1.trans (aB.setCell (aB.grown (aB.alloc (aB.refl _ w1) _) hgrow (fun k hk _=>⟨(hown.lt k hk).1,.inr (Ki hown hk)⟩)) ⟨b,1,none⟩ _ (fun _=>⟨hB,.inl rfl⟩))
theorem iS (B b:Nat) (l:List UInt8) (q:Bool) (s:ByteArray) (w:World) (h:Wr w B b l q) (hlen:l.length+s.size≤140737488355328) (hBw:B≤w.heap.size) :
 Calls Tryz.prog 26 #[.pointer (some ⟨b,0,none⟩),.string s] w fun e w'=>e=.returned (.tuple #[.int .i64 s.size,.nilIface])∧Wr w' B b (l++s.data.toList) q∧Wk B b w w':=by
 obtain⟨i0,hi,hz0,hz1,hz2⟩:=info_parts yF;go_enter Tryz.func26,Tryz.ntmps26;go_wp2_with fail;refine (Mr B b l q _ h).mono ?_;rintro e w1 ⟨rfl,⟨hB,v,hbk,hown⟩,hb1⟩;have hne:=A3 hbk hown;have c0:w1.cell? ⟨b,0,none⟩=some (.pointer (some ⟨b,0,none⟩)):=by rw [Lib.cell_of_heap hbk];rfl
 have c1:w1.cell? ⟨b,1,none⟩=some v:=by rw [Lib.cell_of_heap hbk];rfl
 go_wp2_with (at_builtin;refine Lib.wpList_append_own_string _ rfl _ _ 61 9 rfl B 5 i0 Tryz.underlying61 Tryz.underlying9 hi hz0 hz1 hz2 _ _ _ rfl hown s rfl ?c3 ?c4 ?c5 ?_)
 case c3=>unfold maxLen;omega
 case c4=>omega
 case c5=>have:=hb1.size;omega
 intro v' w2 hown' hgrow _;have hlt:b<w1.heap.size:=(Array.getElem?_eq_some_iff.1 hbk).1;have hb2:w2.heap[b]? = some (.cells #[.pointer (some ⟨b,0,none⟩),v,.bool q] 65 (0,0)):=by
  rw [hgrow.block b hlt (fun e=>hne e.symm)];exact hbk
 have d0:w2.cell? ⟨b,0,none⟩=some (.pointer (some ⟨b,0,none⟩)):=by rw [Lib.cell_of_heap hb2];rfl
 have d1:w2.cell? ⟨b,1,none⟩=some v:=by rw [Lib.cell_of_heap hb2];rfl
 have f1:w2.frozen? ⟨b,1,none⟩=false:=Lib.frozen_of_heap hb2 1;obtain⟨ao,n',cap,rfl⟩:∃ao n' cap,v'=.slice ao n' cap:=by
  rcases hown'.2 with ⟨hv,_⟩ | ⟨g,cap,cur,hv,_⟩
  ·exact⟨_,_,_,hv⟩
  ·exact⟨_,_,_,hv⟩
 go_wp2;go_ret2;refine⟨rfl,Or.inr (qD.put hB hb2 (l:=l++s.data.toList) (by rw [lA,Lib.byteCells_append,←Lib.strCells_eq,←Lib.size_eq];exact hown')),?_⟩;exact hb1.trans (aB.setCell (aB.grown (aB.refl _ w1) hgrow (fun k hk _=>⟨(hown.lt k hk).1,.inr (Ki hown hk)⟩)) ⟨b,1,none⟩ _ (fun _=>⟨hB,.inl rfl⟩))
end Go.Proofs.YtiihpbccabeoeaaGreatDoor
