/- The walk: a part. -/
import Derived.Test.YtiihpbccabeoeaaGreatDoorWPkC
import Derived.StillTailTactics
import Derived.Test.YtiihpbccabeoeaaGreatDoorWPkB
namespace Go.Proofs.YtiihpbccabeoeaaGreatDoor
open Go.RowKit
set_option linter.unusedVariables false
set_option maxRecDepth 100000
set_option maxHeartbeats 16000000
theorem uJ (b:Nat) (s:ByteArray) (i k:Nat) (d:Int) (w:World) (h:aD w b s i d) (hs:s.size≤140737488351232) (hi:i≤140737488351232) (hk:k≤140737488351232) :
 Calls Tryz.prog 39 #[.pointer (some ⟨b,0,none⟩),.int .i64 k] w fun e w'=>e=.returned (.int .u8 (aM s (i+k)).toNat)∧Bn w w':=by
 obtain⟨c0,c1,_,_,_⟩:=h.cells;by_cases hlt:i+k<s.size
 ·have e:=gB hlt;generalize aM s (i+k)=x at e;have E:=Hd e;clear e;have ew:IntKind.i64.wrap ((i:Int)+(k:Int))=(i:Int)+(k:Int):=IntWalk.i64_in _ (by omega);have e0:0≤(i:Int)+(k:Int):=by omega
  have e1:(i:Int)+(k:Int)<(s.size:Int):=by omega
  have e2:((i:Int)+(k:Int)).toNat=i+k:=by omega
  go_enter Tryz.func39,Tryz.ntmps39;go_wp2_with fail;go_quiet (fail);go_wp2_with fail;go_quiet (fail);go_wp2_with fail;go_ret;exact⟨by rw [←E.out];rfl,Pj _ _ _⟩
 ·have e:aM s (i+k)=0:=by
   unfold aM;rw [List.getD_eq_getElem?_getD,List.getElem?_eq_none (by rw [←Lib.size_eq];omega)];rfl
  rw [e];clear e;have ew:IntKind.i64.wrap ((i:Int)+(k:Int))=(i:Int)+(k:Int):=IntWalk.i64_in _ (by omega);have e1:¬(i:Int)+(k:Int)<(s.size:Int):=by omega
  go_enter Tryz.func39,Tryz.ntmps39;go_wp2_with fail;go_quiet (fail);go_wp2_with fail;go_ret;exact⟨rfl,_,rfl⟩
theorem aP (b:Nat) (s:ByteArray) (i:Nat) (d:Int) (w:World) (h:aD w b s i d) (hs:s.size≤140737488351232) (hi:i≤140737488351232) :
 Calls Tryz.prog 39 #[.pointer (some ⟨b,0,none⟩),.int .i64 0] w fun e w'=>e=.returned (.int .u8 (aM s i).toNat)∧Bn w w':=uJ b s i 0 d w h hs hi (by omega)
theorem cF (b:Nat) (s:ByteArray) (i:Nat) (d:Int) (w:World) (h:aD w b s i d) (hs:s.size≤140737488351232) (hi:i≤140737488351232) :
 Calls Tryz.prog 39 #[.pointer (some ⟨b,0,none⟩),.int .i64 1] w fun e w'=>e=.returned (.int .u8 (aM s (i+1)).toNat)∧Bn w w':=uJ b s i 1 d w h hs hi (by omega)
theorem bB (b:Nat) (s:ByteArray) (i:Nat) (d:Int) (w:World) (h:aD w b s i d) :
 Calls Tryz.prog 38 #[.pointer (some ⟨b,0,none⟩)] w fun e w'=>e=.returned (.bool (decide (s.size≤i)))∧Bn w w':=by
 obtain⟨c0,c1,_,_,_⟩:=h.cells;go_enter Tryz.func38,Tryz.ntmps38;go_wp2_with fail;go_quiet (fail);go_wp2_with fail;go_ret;exact⟨by simp,_,rfl⟩
theorem eO (b:Nat) (s:ByteArray) (i:Nat) (d x:Nat) (w:World) (h:aD w b s i (d:Int)) :
 Calls Tryz.prog 43 #[.pointer (some ⟨b,0,none⟩),.int .i64 x] w fun e w'=>e=.returned (.tuple #[])∧aD w' b s i ((if d=0 then x else d:Nat):Int)∧aB (fun k=>k=b) w w':=by
 obtain⟨c0,c1,c2,f1,f2⟩:=h.cells;by_cases hd:d=0
 ·subst hd;rw [if_pos rfl];go_enter Tryz.func43,Tryz.ntmps43;go_wp2_with fail;go_end0;exact⟨rfl,h.set2 _,(aB.refl _ _).setCell _ _ fun _=>rfl⟩
 ·rw [if_neg hd];have t:((d:Int)==0)=false:=by rw [beq_eq_false_iff_ne];omega
  clear hd;go_enter Tryz.func43,Tryz.ntmps43;go_wp2_with fail;go_end0;exact⟨rfl,h,aB.refl _ _⟩
theorem Fb (c:UInt8) (w:World) :
 Calls Tryz.prog 41 #[.int .u8 (c.toNat:Nat)] w fun e w'=>e=.returned (.bool (bJ c))∧w=w':=by
 obtain⟨r,hr⟩:∃r,r=bJ c:=⟨_,rfl⟩;rw [←hr];have HR:=Hd hr;clear hr;by_cases t32:c=32
 ·have f32:((c.toNat:Int)==32)=true:=aU (c:=c) (k:=32) t32;have HT:=Hd (show bJ c=true by rw [t32];decide);clear t32;go_enter Tryz.func41,Tryz.ntmps41;go_wp2_with fail;go_ret;exact⟨d8 (by rw [HR.o,HT.o]),rfl⟩
 have f32:((c.toNat:Int)==32)=false:=aX (c:=c) (k:=32) t32;have G32:=Hd (show (c==32)=false from beq_eq_false_iff_ne.2 t32);clear t32;by_cases t9:c=9
 ·have f9:((c.toNat:Int)==9)=true:=aU (c:=c) (k:=9) t9;have HT:=Hd (show bJ c=true by rw [t9];decide);clear t9;go_enter Tryz.func41,Tryz.ntmps41;go_wp2_with fail;go_ret;exact⟨d8 (by rw [HR.o,HT.o]),rfl⟩
 have f9:((c.toNat:Int)==9)=false:=aX (c:=c) (k:=9) t9;have G9:=Hd (show (c==9)=false from beq_eq_false_iff_ne.2 t9);clear t9;by_cases t10:c=10
 ·have f10:((c.toNat:Int)==10)=true:=aU (c:=c) (k:=10) t10;have HT:=Hd (show bJ c=true by rw [t10];decide);clear t10;go_enter Tryz.func41,Tryz.ntmps41;go_wp2_with fail;go_ret;exact⟨d8 (by rw [HR.o,HT.o]),rfl⟩
 have f10:((c.toNat:Int)==10)=false:=aX (c:=c) (k:=10) t10;have G10:=Hd (show (c==10)=false from beq_eq_false_iff_ne.2 t10);clear t10;by_cases t59:c=59
 ·have f59:((c.toNat:Int)==59)=true:=aU (c:=c) (k:=59) t59;have HT:=Hd (show bJ c=true by rw [t59];decide);clear t59;go_enter Tryz.func41,Tryz.ntmps41;go_wp2_with fail;go_ret;exact⟨d8 (by rw [HR.o,HT.o]),rfl⟩
 have f59:((c.toNat:Int)==59)=false:=aX (c:=c) (k:=59) t59;have G59:=Hd (show (c==59)=false from beq_eq_false_iff_ne.2 t59);clear t59;by_cases t38:c=38
 ·have f38:((c.toNat:Int)==38)=true:=aU (c:=c) (k:=38) t38;have HT:=Hd (show bJ c=true by rw [t38];decide);clear t38;go_enter Tryz.func41,Tryz.ntmps41;go_wp2_with fail;go_ret;exact⟨d8 (by rw [HR.o,HT.o]),rfl⟩
 have f38:((c.toNat:Int)==38)=false:=aX (c:=c) (k:=38) t38;have G38:=Hd (show (c==38)=false from beq_eq_false_iff_ne.2 t38);clear t38;by_cases t124:c=124
 ·have f124:((c.toNat:Int)==124)=true:=aU (c:=c) (k:=124) t124;have HT:=Hd (show bJ c=true by rw [t124];decide);clear t124;go_enter Tryz.func41,Tryz.ntmps41;go_wp2_with fail;go_ret;exact⟨d8 (by rw [HR.o,HT.o]),rfl⟩
 have f124:((c.toNat:Int)==124)=false:=aX (c:=c) (k:=124) t124;have G124:=Hd (show (c==124)=false from beq_eq_false_iff_ne.2 t124);clear t124;by_cases t40:c=40
 ·have f40:((c.toNat:Int)==40)=true:=aU (c:=c) (k:=40) t40;have HT:=Hd (show bJ c=true by rw [t40];decide);clear t40;go_enter Tryz.func41,Tryz.ntmps41;go_wp2_with fail;go_ret;exact⟨d8 (by rw [HR.o,HT.o]),rfl⟩
 have f40:((c.toNat:Int)==40)=false:=aX (c:=c) (k:=40) t40;have G40:=Hd (show (c==40)=false from beq_eq_false_iff_ne.2 t40);clear t40;by_cases t41:c=41
 ·have f41:((c.toNat:Int)==41)=true:=aU (c:=c) (k:=41) t41;have HT:=Hd (show bJ c=true by rw [t41];decide);clear t41;go_enter Tryz.func41,Tryz.ntmps41;go_wp2_with fail;go_ret;exact⟨d8 (by rw [HR.o,HT.o]),rfl⟩
 have f41:((c.toNat:Int)==41)=false:=aX (c:=c) (k:=41) t41;have G41:=Hd (show (c==41)=false from beq_eq_false_iff_ne.2 t41);clear t41;by_cases t60:c=60
 ·have f60:((c.toNat:Int)==60)=true:=aU (c:=c) (k:=60) t60;have HT:=Hd (show bJ c=true by rw [t60];decide);clear t60;go_enter Tryz.func41,Tryz.ntmps41;go_wp2_with fail;go_ret;exact⟨d8 (by rw [HR.o,HT.o]),rfl⟩
 have f60:((c.toNat:Int)==60)=false:=aX (c:=c) (k:=60) t60;have G60:=Hd (show (c==60)=false from beq_eq_false_iff_ne.2 t60);clear t60;by_cases t62:c=62
 ·have f62:((c.toNat:Int)==62)=true:=aU (c:=c) (k:=62) t62;have HT:=Hd (show bJ c=true by rw [t62];decide);clear t62;go_enter Tryz.func41,Tryz.ntmps41;go_wp2_with fail;go_ret;exact⟨d8 (by rw [HR.o,HT.o]),rfl⟩
 have f62:((c.toNat:Int)==62)=false:=aX (c:=c) (k:=62) t62;have G62:=Hd (show (c==62)=false from beq_eq_false_iff_ne.2 t62);clear t62;have HT:=Hd (show bJ c=false by unfold bJ;rw [G32.out,G9.out,G10.out,G59.out,G38.out,G124.out,G40.out,G41.out,G60.out,G62.out];rfl);go_enter Tryz.func41,Tryz.ntmps41;go_wp2_with fail;go_ret;exact⟨d8 (by rw [HR.o,HT.o]),rfl⟩
theorem d7 (c:UInt8) (w:World):Calls Tryz.prog 70 #[.int .u8 (c.toNat:Nat)] w fun e w'=>e=.returned (.bool (bD c))∧w'=w:=(pW c w).mono fun e w' h=>⟨h.1,h.2.symm⟩
def Row (w:World) (B:Nat) (v:Value) (raw:List Pt):Prop:=gE w (fun b=>B≤b) v raw∧∀g,v.ownBlock=some g→B≤g
theorem Row.nil (w:World) (B:Nat):Row w B (.slice none 0 0) []:=⟨gE.nil _ _,fun g hg=>by cases hg⟩
theorem Row.keep {w w':World} {B:Nat} {v:Value} {raw:List Pt} {S:Nat→Prop} (h:Row w B v raw) (hk:aB S w w') (hS:∀b,b<w.heap.size→S b→b<B):Row w' B v raw:=
 ⟨h.1.keep hk (fun b hb hB s=>by have:=hS b hb s;omega) (fun g hg s=>by have:=hS g (h.1.lt hg) s;have:=h.2 g hg;omega),h.2⟩
theorem Row.shape {w:World} {B:Nat} {v:Value} {raw:List Pt} (h:Row w B v raw):∃a c,v=.slice a raw.length c∧raw.length≤c∧c≤maxLen:=h.1.shape
theorem Row.more {w w1:World} {B n:Nat} {v:Value} {raw:List Pt} {x:Pt} {wv:Value} (h:Row w B v raw) (hB:B≤w.heap.size) (hk:K0 w w1) (hx:aV w1 (fun b=>B≤b∧v.ownBlock≠some b) n x.word wv) :
 ∃xs,w1.ownsRow 0 67 6 v raw.length xs∧∀(g cap:Nat) (w2:World) (o:Obj),w2.ownsRow 0 67 6 (.slice (some ⟨g,0,none⟩) (raw.length+1) cap) (raw.length+1) (xs++fL x wv)→(w1.alloc o).grownBy w2 v.ownBlock→(v.ownBlock=some g∨g=w1.heap.size+1)→
  Row w2 B (.slice (some ⟨g,0,none⟩) (raw.length+1) cap) (raw++[x])∧aB (fun b=>B≤b) w w2:=by
 have hm:=h.keep hk (fun _ _ s=>s.elim);obtain⟨⟨vs,m,hl,ho,hn⟩,hv⟩:=hm;refine⟨_,ho,fun g cap w2 o hown hg hat=>?_⟩;have k:aB (fun b=>v.ownBlock=some b) w1 w2:=((aB.refl _ w1).alloc o).grown hg fun k hk _=>hk;have hgB:B≤g:=by
  have:=hk.size;rcases hat with e | e
  ·exact hv _ e
  ·omega
 refine⟨⟨⟨vs++[wv],max n m,by simp [hl],?_,fun i hi hi'=>?_⟩,fun y hy=>(by obtain rfl:g=y:=Option.some.inj hy;exact hgB)⟩,(hk.mono fun _ _ s=>s.elim).trans k fun b hb e=>hv _ e⟩
 ·rw [iD hl];simpa [cL] using hown
 ·have key:∀(k:Nat) (l:List Pt) (u:Value),aV w1 (fun b=>B≤b∧v.ownBlock≠some b) k l u→aV w2 (fun b=>B≤b∧(Value.slice (some ⟨g,0,none⟩) (raw.length+1) cap).ownBlock≠some b) k l u:=fun kk l u hh=>by
   have h2:aV w1 (fun b=>(B≤b∧v.ownBlock≠some b)∧b<w1.heap.size) kk l u:=hh.mono fun b hb hd=>⟨hd,hb⟩;refine (h2.keep k (fun b _ hd s=>hd.1.2 s)).mono fun b _ hd=>⟨hd.1.1,fun e=>?_⟩;obtain rfl:g=b:=Option.some.inj e;rcases hat with h3 | h3
   ·exact hd.1.2 h3
   ·have:=hd.2;omega
  by_cases hi2:i<raw.length
  ·rw [List.getElem_append_left hi2,List.getElem_append_left (by omega)];exact (key _ _ _ (hn i hi2 (by omega))).le (by omega)
  ·have hi3:i=raw.length:=by simp at hi;omega
   subst hi3;rw [List.getElem_append_right (Nat.le_refl _),List.getElem_append_right (by omega)];simp only [hl,Nat.sub_self,List.getElem_cons_zero];exact (key _ _ _ hx).le (by omega)
theorem Row.more0 {w:World} {B:Nat} {v:Value} {raw:List Pt} {x:Pt} (h:Row w B v raw) (hB:B≤w.heap.size) {w1:World} (hk:K0 w w1) (hx:x.word=[]) :
 ∃xs,w1.ownsRow 0 67 6 v raw.length xs∧∀(g cap:Nat) (w2:World) (o:Obj),w2.ownsRow 0 67 6 (.slice (some ⟨g,0,none⟩) (raw.length+1) cap) (raw.length+1) (xs++fL x (.slice none 0 0))→(w1.alloc o).grownBy w2 v.ownBlock→(v.ownBlock=some g∨g=w1.heap.size+1)→
  Row w2 B (.slice (some ⟨g,0,none⟩) (raw.length+1) cap) (raw++[x])∧aB (fun b=>B≤b) w w2:=
 h.more hB hk (n:=0) (by rw [hx];exact aV.nil _ _ 0)
def Q7 (w:World) (B:Nat) (raw:List Pt) (x:Pt) (e:Ending) (w':World):Prop:=
 ∃v,e=.returned v∧Row w' B v (raw++[x])∧aB (fun b=>B≤b) w w'
theorem fR (B kd:Nat) (T:ByteArray) (v:Value) (raw:List Pt) (w:World) (h:Row w B v raw) (hB:B≤w.heap.size) (hl:raw.length≤1000000) (hk:kd=2∨kd=1∧T.data.toList≠[]) :
 Calls Tryz.prog 44 #[v,.agg #[.int .i64 kd,.string T,.string ⟨#[]⟩,.string ⟨#[]⟩,.slice none 0 0,.bool false]] w (Q7 w B raw (.mk kd T.data.toList [] [] [] false)):=by
 obtain⟨va,vc,rfl,_,_⟩:=h.shape;obtain⟨i0,hi0,hz0,hz1,hz2⟩:=info_parts i9;have hc6:=dN;obtain⟨xs,hown,hF⟩:=h.more0 hB (w1:=w.alloc (.cells #[.int .i64 kd,.string T,.string ⟨#[]⟩,.string ⟨#[]⟩,.slice none 0 0,.bool false] 67)) ((aB.refl _ _).alloc _) (x:=.mk kd T.data.toList [] [] [] false) rfl;have e:e8 T.data.toList=.string T:=jM rfl;simp only [fL,Pt.kind,Pt.text,Pt.name,Pt.op,Pt.quoted,e] at hF
 have HF:=Hd hF;have t1:((kd:Int)==1)=false∨((kd:Int)==1)=true∧T.toList.isEmpty=false∧(T.toList==[])=false:=by
  rcases hk with rfl | ⟨rfl,h⟩
  ·exact .inl rfl
  ·obtain⟨a,b⟩:=lQ h;exact .inr ⟨rfl,a,b⟩
 obtain⟨L,hL⟩:∃L,L=raw.length:=⟨_,rfl⟩;rw [←hL] at HF hown hl ⊢;clear hF hk h e hL;rcases t1 with t1 | ⟨t1,t2,t3⟩
 all_goals
  go_enter Tryz.func44,Tryz.ntmps44;go_wp2_with (at_builtin;refine wpList_append_lies _ rfl (.tmp 14) (.tmp 16) _ rfl 0 67 i0 _ 6 88 Tryz.underlying29 hi0 hz0 hz1 hz2 rfl (by omega) (.slice va L vc) L xs rfl (hown.alloc _) ⟨w.heap.size+1,0,none⟩ 1 1 [.int .i64 kd,.string T,.string ⟨#[]⟩,.string ⟨#[]⟩,.slice none 0 0,.bool false] rfl rfl (World.news_of_block (cs:=#[.int .i64 kd,.string T,.string ⟨#[]⟩,.string ⟨#[]⟩,.slice none 0 0,.bool false]) (t:=67) (fr:=(0,0)) (by have h:=heap_alloc_new (w.alloc (.cells #[.int .i64 kd,.string T,.string ⟨#[]⟩,.string ⟨#[]⟩,.slice none 0 0,.bool false] 67)) (.cells #[.int .i64 kd,.string T,.string ⟨#[]⟩,.string ⟨#[]⟩,.slice none 0 0,.bool false] 67);simpa using h)) (by simp [Value.oneCell']) (by omega) (by unfold maxLen;omega) (by omega) (by simp) (w.heap.size+1+1) (by simp) ?_;intro gg cap w5 hown2 hgrow hat hlt2)
  go_ret;obtain⟨a,b⟩:=HF.o gg cap w5 _ hown2 hgrow (by simpa using hat);exact⟨_,rfl,a,b⟩
theorem tE:∀(p r:List UInt8),aI p r=(decide (p.length≤r.length) && r.take p.length==p)
 | [],r=>by simp [aI]
 | a::p,[]=>by simp [aI]
 | a::p,b::r=>by
  unfold aI;rw [tE p r];simp only [lC,List.take_succ_cons];rw [Bool.eq_iff_iff];simp only [Bool.and_eq_true,beq_iff_eq,decide_eq_true_eq,List.cons.injEq,Nat.add_le_add_iff_right];constructor
  ·rintro⟨rfl,h1,h2⟩;exact⟨h1,rfl,h2⟩
  ·rintro⟨h1,rfl,h2⟩;exact⟨rfl,h1,h2⟩
theorem jC (s p:ByteArray) (w:World) (hs:s.size≤140737488351232) :
 Calls Tryz.prog 61 #[.string s,.string p] w fun e w'=>e=.returned (.bool (aI p.data.toList s.data.toList))∧w'=w:=by
 obtain⟨r,hr⟩:∃r,r=aI p.data.toList s.data.toList:=⟨_,rfl⟩;rw [←hr];rw [tE,←Lib.size_eq,←Lib.size_eq] at hr;have HR:=Hd hr;clear hr;by_cases hl:p.size≤s.size
 ·have e1:(p.size:Int)≤(s.size:Int):=by omega
  go_enter Tryz.func61,Tryz.ntmps61;go_wp2_with fail;go_ret;refine⟨d8 ?_,rfl⟩;rw [HR.o,decide_eq_true hl,Bool.true_and,Lib.toList_data,Lib.toList_data,Lib.extract_data];simp
 ·have e1:¬(p.size:Int)≤(s.size:Int):=by omega
  go_enter Tryz.func61,Tryz.ntmps61;go_wp2_with fail;go_ret;refine⟨d8 ?_,rfl⟩;rw [HR.o,decide_eq_false hl];rfl
def RAt (l:List UInt8) (c:UInt8) (e:Ending):Prop:=∃r:Int,e=.returned (.int .i64 r)∧decide (0≤r)=l.contains c
theorem Oo (s:ByteArray) (c:UInt8) (w:World) (hs:s.size≤140737488351232) :
 Calls Tryz.prog 37 #[.string s,.int .u8 (c.toNat:Nat)] w fun e w'=>RAt s.data.toList c e∧w'=w:=by
 go_enter Tryz.func37,Tryz.ntmps37;go_wp2_with fail;go_loopw [5] (fun k' wr=>∃k:Nat,k'=.int .i64 k∧k≤s.size∧Hid (∀j,j<k→aM s j≠c)∧wr=w) (fun k' _=>s.size - (intOf k').toNat)
 case atStart=>exact⟨0,rfl,Nat.zero_le _,Hd (fun j hj=>absurd hj (Nat.not_lt_zero _)),rfl⟩
 case round=>
  obtain⟨k,rfl,hk,HL,rfl⟩:=hrel;rcases Nat.lt_or_ge k s.size with hlt | hge
  ·have p1:(k:Int)<(s.size:Int):=by omega
   have hb:=gB hlt;obtain⟨x,hx⟩:∃x,x=aM s k:=⟨_,rfl⟩;rw [←hx] at hb;have HX:=Hd hx;clear hx;by_cases t:x=c
   ·have f:((x.toNat:Int)==(c.toNat:Int))=true:=aU t;have HT:=Hd t;clear t;go_wp2_with fail;go_ret;refine⟨⟨_,rfl,?_⟩,rfl⟩;have hm:s.data.toList.contains c=true:=by
     rw [List.contains_iff_mem];have h:=Bk hlt;have h2:s[k]=c:=by rw [gB hlt,←HX.o,HT.o]
     rw [h2] at h;exact List.mem_of_getElem? h
    rw [hm];exact decide_eq_true (by omega)
   ·have f:((x.toNat:Int)==(c.toNat:Int))=false:=aX t;have HT:=Hd t;clear t;go_wp2_with fail;go_roundw
    case rel=>exact⟨k+1,by go_num,by omega,Hd (fun j hj=>by
     rcases Nat.lt_or_ge j k with h | h
     ·exact HL.o j h
     ·obtain rfl:j=k:=by omega
      rw [←HX.o];exact HT.o),trivial⟩
    case measure=>simp [intOf];omega
  ·obtain rfl:k=s.size:=by omega
   have p1:¬(s.size:Int)<(s.size:Int):=by omega
   go_wp2_with fail;go_ret;refine⟨⟨_,rfl,?_⟩,rfl⟩;have hm:s.data.toList.contains c=false:=by
    rw [Bool.eq_false_iff];intro h;rw [List.contains_iff_mem] at h;obtain⟨j,hj⟩:=List.mem_iff_getElem?.1 h;have h2:=HL.o j (by rw [Lib.size_eq];exact (List.getElem?_eq_some_iff.1 hj).1);apply h2;unfold aM;rw [List.getD_eq_getElem?_getD,hj];rfl
   rw [hm];rfl
theorem wD (s:ByteArray) (w:World) (hs:s.size≤140737488351232) :
 Calls Tryz.prog 23 #[.string s] w fun e w'=>e=.returned (.int .i64 (pH s.data.toList:Nat))∧w'=w:=by
 obtain⟨r,hr⟩:∃r,r=pH s.data.toList:=⟨_,rfl⟩;rw [←hr];unfold pH at hr;rw [←Lib.size_eq] at hr;by_cases h1:16384<s.size
 ·rw [if_pos h1] at hr;have h1':(16384:Int)<(s.size:Int):=by omega
  clear h1;subst hr;go_enter Tryz.func23,Tryz.ntmps23;go_wp2_with fail;go_ret;exact⟨rfl,rfl⟩
 ·rw [if_neg h1] at hr;have h1':¬(16384:Int)<(s.size:Int):=by omega
  have HR:=Hd hr;clear h1 hr;go_enter Tryz.func23,Tryz.ntmps23;go_wp2_with fail;refine (Oo s 0 w hs).mono ?_;rintro e w1 ⟨⟨x,rfl,hx⟩,rfl⟩;cases hc:s.data.toList.contains 0 with
  | true=>
   rw [hc] at hx;have h2:0≤x:=of_decide_eq_true hx;have hrr:r=2:=by rw [HR.o,hc];rfl
   clear hx hc;subst hrr;go_wp2_with fail;go_ret;exact⟨rfl,rfl⟩
  | false=>
   rw [hc] at hx;have h2:¬0≤x:=of_decide_eq_false hx;have hrr:r=0:=by rw [HR.o,hc];rfl
   clear hx hc;subst hrr;go_wp2_with fail;go_ret;exact⟨rfl,rfl⟩
def Nx (w:World) (b:Nat) (s:ByteArray) (i:Nat) (d:Int) (o:List UInt8) (e:Ending) (w':World):Prop:=
 ∃r:ByteArray,e=.returned (.string r)∧r.data.toList=o∧aD w' b s i d∧K0 w w'
theorem F8 (b:Nat) (s:ByteArray) (i:Nat) (d:Int) (w:World) (h:aD w b s i d) (hs:s.size≤140737488351232) :
 Calls Tryz.prog 104 #[.pointer (some ⟨b,0,none⟩)] w (Nx w b s i d (opF (rest s i))):=by
 have lb:=h.lt;go_enter Tryz.func104,Tryz.ntmps104;go_wp2_with fail;obtain⟨w1,hw1⟩:∃w1,w1=w.alloc (.cells #[.string ⟨#[58,45]⟩,.string ⟨#[58,61]⟩,.string ⟨#[58,63]⟩,.string ⟨#[58,43]⟩,.string ⟨#[37,37]⟩,.string ⟨#[35,35]⟩,.string ⟨#[45]⟩,.string ⟨#[61]⟩,.string ⟨#[63]⟩,.string ⟨#[43]⟩,.string ⟨#[37]⟩,.string ⟨#[35]⟩] 9):=⟨_,rfl⟩;rw [←hw1];have hsc:aD w1 b s i d:=by rw [hw1];exact h.alloc _
 have hkp:K0 w w1:=by rw [hw1];exact (aB.refl _ _).alloc _
 have hblk:w1.heap[w.heap.size]? = some (.cells opC 9 (0,0)):=by rw [hw1];exact heap_alloc_new w _
 obtain⟨B,hB⟩:∃B,B=w.heap.size:=⟨_,rfl⟩;rw [←hB] at hblk;rw [←hB];have HB:=Hd hblk;have HKP:=Hd hkp;clear hw1 hblk hkp hB lb h;go_loopw [4] (fun k' wr=>∃k:Nat,k'=.int .i64 k∧k≤12∧Hid (aD wr b s i d∧wr.heap[B]? = some (.cells opC 9 (0,0))∧K0 w wr)∧Hid (∀j,j<k→aI (gG.getD j []) (rest s i)=false)) (fun k' _=>12 - (intOf k').toNat)
 case atStart=>exact⟨0,rfl,by omega,Hd ⟨hsc,HB.o,HKP.o⟩,Hd (fun j hj=>absurd hj (Nat.not_lt_zero _))⟩
 case round=>
  obtain⟨k,rfl,hk,HW,HN⟩:=hrel;obtain⟨hsw,hbw,hkw⟩:=HW.o;have hblt:=(Array.getElem?_eq_some_iff.1 hbw).1;have HDR:=Hd (show ∀n,aD (wr.drewN n) b s i d∧(wr.drewN n).heap[B]? = some (.cells opC 9 (0,0))∧K0 w (wr.drewN n) from fun n=>⟨hsw.drewN n,(((aB.refl (fun _=>False) wr).drewN n).block B hblt (fun h=>h)).trans hbw,hkw.drewN n⟩);clear hbw hkw;by_cases hlt:k<12
  ·have hc:wr.cell? ⟨B,k,none⟩=some (e8 (gG.getD k [])):=by
    rw [cell_of_row wr B k _ _ _ HW.o.2.1];exact Qg k hlt
   have hlen:=N3 k hlt;have p1:(k:Int)<12:=by omega
   unfold e8 at hc;obtain⟨c0,c1,_,_,_⟩:=hsw.cells;rcases Nat.lt_or_ge i s.size with hi | hi
   ·have he:decide (s.size≤i)=false:=decide_eq_false (by omega);have HE:=Hd he;have p3:(i:Int)≤(s.size:Int):=by omega
    have hRz0:(s.extract i s.size).size≤s.size:=by rw [ByteArray.size_extract];omega
    obtain⟨R,hR⟩:∃R,R=s.extract i s.size:=⟨_,rfl⟩;have hRl:R.data.toList=rest s i:=by rw [hR,Lib.extract_to_end];rfl
    have hRz:R.size≤s.size:=by rw [Lib.size_eq,hRl,cM];omega
    have HRE:=Hd hR;have HRL:=Hd hRl;clear he hR hRl;cases hst:aI (gG.getD k []) (rest s i)
    ·have HS:=Hd hst;clear hst;have hn2:=rN HN.o HS.o;have HN2:=Hd hn2;clear hn2;generalize gG.getD k []=t at hc HS hlen;obtain⟨T,hT⟩:∃T:ByteArray,T=⟨t.toArray⟩:=⟨_,rfl⟩;have HB2:=Hd (show aI T.data.toList (s.extract i s.size).data.toList=false by rw [←HRE.o,HRL.o,hT];exact HS.o);rw [←hT] at hc;clear hT;go_wp2_with fail;go_quiet ((first | (go_at_call 38;exact Calls.quiet_of ((bB b s i d _ (hsw.drewN _)).mono (fun e w' hh=>by rw [HE.o] at hh;exact hh))) | (go_at_call 61;exact Calls.quiet_of_same ((jC _ _ _ (by omega)).mono (fun e w' hh=>by rw [HB2.o] at hh;exact hh)))))
     go_wp2_with fail;go_roundw
     case rel=>exact⟨k+1,by go_num,by omega,Hd (HDR.o _),HN2⟩
     case measure=>simp [intOf];omega
    ·have hf:=rL HN.o (show k<gG.length from hlt) hst;have HF:=Hd hf;clear hf;have HS:=Hd hst;clear hst;generalize gG.getD k []=t at hc HS hlen HF;obtain⟨T,hT⟩:∃T:ByteArray,T=⟨t.toArray⟩:=⟨_,rfl⟩;have HB2:=Hd (show aI T.data.toList (s.extract i s.size).data.toList=true by rw [←HRE.o,HRL.o,hT];exact HS.o);have HTT:=Hd (show T.data.toList=t by rw [hT]);rw [←hT] at hc;clear hT;go_wp2_with fail
     go_quiet ((first | (go_at_call 38;exact Calls.quiet_of ((bB b s i d _ (hsw.drewN _)).mono (fun e w' hh=>by rw [HE.o] at hh;exact hh))) | (go_at_call 61;exact Calls.quiet_of_same ((jC _ _ _ (by omega)).mono (fun e w' hh=>by rw [HB2.o] at hh;exact hh)))));go_wp2_with fail;go_ret;refine⟨T,rfl,?_,?_,?_⟩
     ·rw [show opF (rest s i)=gH gG (rest s i) from rfl,HF.o,HTT.o]
     ·exact (HDR.o _).1
     ·exact (HDR.o _).2.2
   ·have he:decide (s.size≤i)=true:=decide_eq_true (by omega);have HE:=Hd he;have hst:aI (gG.getD k []) (rest s i)=false:=by
     rw [bU hi];have:∀k:Fin 12,aI (gG.getD k.val []) []=false:=by decide +kernel
     exact this ⟨k,hlt⟩
    have hn2:=rN HN.o hst;have HN2:=Hd hn2;clear hn2 hst he;go_wp2_with fail;go_quiet ((go_at_call 38;exact Calls.quiet_of ((bB b s i d _ (hsw.drewN _)).mono (fun e w' hh=>by rw [HE.o] at hh;exact hh))));go_wp2_with fail;go_roundw
    case rel=>exact⟨k+1,by go_num,by omega,Hd (HDR.o _),HN2⟩
    case measure=>simp [intOf];omega
  ·obtain rfl:k=12:=by omega
   have hf:=pY (l:=gG) HN.o;have HF:=Hd hf;clear hf;go_wp2_with fail;go_ret;refine⟨ByteArray.empty,rfl,?_,?_,?_⟩
   ·rw [show opF (rest s i)=gH gG (rest s i) from rfl,HF.o];rfl
   ·exact HW.o.1
   ·exact HW.o.2.2
theorem oJ {w wr:World} {b:Nat} {s:ByteArray} {i k n m:Nat} {d:Int} (hk:K0 w wr) (h:aD wr b s i d) (hm:m=k) (hi:i+k≤s.size) :
 uM w b s i k d (.returned (.string (s.extract i (i+m)))) ((wr.drewN n).setCell ⟨b,1,none⟩ (.int .i64 ((i:Int)+(m:Int)))):=by
 subst hm;refine⟨_,rfl,?_,?_,((hk.mono fun _ _ s=>s.elim).drewN n).setCell _ _ fun _=>rfl⟩
 ·rw [Lib.extract_data];unfold rest;rw [show i+m - i=m by omega]
 ·have:=(h.drewN n).set1 ((i:Int)+(m:Int))
  rwa [show ((i:Int)+(m:Int))=((i+m:Nat):Int) by omega] at this ⊢
theorem Ao {w wr:World} {b:Nat} {s:ByteArray} {i k n:Nat} {d:Int} (hk:K0 w wr) (h:aD wr b s i d) (hm:k=0) :
 uM w b s i k d (.returned (.string ByteArray.empty)) ((wr.drewN n).setCell ⟨b,1,none⟩ (.int .i64 (i:Int))):=by
 subst hm;exact⟨_,rfl,rfl,(h.drewN n).set1 _,((hk.mono fun _ _ s=>s.elim).drewN n).setCell _ _ fun _=>rfl⟩
theorem wZ {c:UInt8} (h:dL c=false):((c.toNat:Int)==63)=false∧((c.toNat:Int)==35)=false∧((c.toNat:Int)==64)=false∧((c.toNat:Int)==42)=false:=by
 simp only [dL,Bool.or_eq_false_iff,beq_eq_false_iff_ne] at h;obtain⟨⟨⟨h1,h2⟩,h3⟩,h4⟩:=h;exact⟨aX (c:=c) (k:=63) h1,aX (c:=c) (k:=35) h2,aX (c:=c) (k:=64) h3,aX (c:=c) (k:=42) h4⟩
theorem Hv (b:Nat) (s:ByteArray) (i:Nat) (d:Int) (w:World) (h:aD w b s i d) (hs:s.size≤140737488351232) (hi:i≤s.size) (k:Nat) (hk:bT true (rest s i)=k) :
 Calls Tryz.prog 105 #[.pointer (some ⟨b,0,none⟩)] w (uM w b s i k d):=by
 have hkl:k≤s.size - i:=by rw [←hk,←cM];exact nV _ _
 obtain⟨c,hc⟩:∃c,c=aM s i:=⟨_,rfl⟩;have HC:=Hd hc.symm;obtain⟨R,hR⟩:∃R,R=dK (rest s i):=⟨_,rfl⟩;have HRUN:=Hd hR.symm;by_cases hrun:0<R
 ·have hkk:R=k:=by rw [←hk,hR];unfold bT;rw [if_pos (by rw [←hR];exact hrun)]
  have p1:((R:Int)==0)=false:=by rw [beq_eq_false_iff_ne];omega
  have p2:(i:Int)+(R:Int)≤(s.size:Int):=by omega
  have p3:(i:Int)≤(i:Int)+(R:Int):=by omega
  have p4:((i:Int)+(R:Int)).toNat=i+R:=by omega
  have HKK:=Hd hkk;clear hk hkk hR hc;go_enter Tryz.func105,Tryz.ntmps105;go_wp2_with fail;refine (aP b s i d _ h hs (by omega)).mono ?_;rintro e w1 ⟨rfl,q1,rfl⟩;rw [HC.o];obtain⟨W,hW⟩:∃W,W=w.drewN q1:=⟨_,rfl⟩;rw [←hW];have hsW:aD W b s i d:=by rw [hW];exact h.drewN _
  have HKW:=Hd (show K0 w W by rw [hW];exact (aB.refl _ _).drewN _);obtain⟨c0,c1,c2,f1,f2⟩:=hsW.cells;clear hW;go_wp2_with fail;go_quiet ((go_at_call 69;exact Calls.quiet_of_same ((dG s i _ hs hi).mono (fun e w' hh=>⟨by rw [hh.1,HRUN.o],hh.2.symm⟩))));obtain⟨W2,hW2⟩:∃W2,W2=W.drewN nq:=⟨_,rfl⟩;rw [←hW2];have hs2:aD W2 b s i d:=by rw [hW2];exact hsW.drewN _
  have HK2:=Hd (show K0 w W2 by rw [hW2];exact HKW.o.drewN _);clear hW2 c0 c1 c2 f1 f2;go_wp2_with fail;go_loopw [4] (fun n' wr=>n'=.int .i64 R∧wr=W2) (fun _ _=>0)
  case atStart=>exact⟨rfl,rfl⟩
  case round=>
   obtain⟨rfl,rfl⟩:=hrel;have hsr:=hs2;have HKR:=HK2;obtain⟨c0,c1,c2,f1,f2⟩:=hsr.cells;go_wp2_with fail;go_quiet (fail);go_wp2_with fail;go_ret;exact oJ HKR.o hsr HKK.o (by omega)
 have hR0:R=0:=by omega
 have HR0:=Hd hR0;subst hR0;have hrest:k=match rest s i with | []=>0 | c::t=>(if bD c then eT t+1 else if dL c then 1 else 0):=by
  rw [←hk];unfold bT;rw [←hR,if_neg (by omega)];cases rest s i<;>rfl
 cases hsp:dL c with
 | true=>
  have hlt:i<s.size:=by
   rcases Nat.lt_or_ge i s.size with h | h
   ·exact h
   ·have:c=0:=by
     rw [hc];unfold aM;rw [List.getD_eq_getElem?_getD,List.getElem?_eq_none (by rw [←Lib.size_eq];omega)];rfl
    rw [this] at hsp;exact absurd hsp (by decide)
  have hdg:bD c=false:=by
   have:=E2 (P:=fun c=>!dL c || !bD c) (by decide +kernel) c;rw [hsp] at this;simpa using this
  have hkk:1=k:=by
   rw [hrest,aN hlt,←hc];dsimp only;rw [hdg,hsp];rfl
  have p2:(i:Int)+1≤(s.size:Int):=by omega
  have p4:((i:Int)+1).toNat=i+1:=by omega
  have HKK:=Hd hkk;have hcs:((c.toNat:Int)==63)=true∨(((c.toNat:Int)==63)=false∧((c.toNat:Int)==35)=true)∨(((c.toNat:Int)==63)=false∧((c.toNat:Int)==35)=false∧((c.toNat:Int)==64)=true)∨(((c.toNat:Int)==63)=false∧((c.toNat:Int)==35)=false∧((c.toNat:Int)==64)=false∧((c.toNat:Int)==42)=true):=by
   simp only [dL,Bool.or_eq_true,beq_iff_eq] at hsp;rcases hsp with ((rfl | rfl) | rfl) | rfl
   ·exact .inl rfl
   ·exact .inr (.inl ⟨rfl,rfl⟩)
   ·exact .inr (.inr (.inl ⟨rfl,rfl,rfl⟩))
   ·exact .inr (.inr (.inr ⟨rfl,rfl,rfl,rfl⟩))
  clear hk hkk hR hc hrest hsp hdg hrun;rcases hcs with x1 | ⟨x1,x2⟩ | ⟨x1,x2,x3⟩ | ⟨x1,x2,x3,x4⟩
  all_goals
   go_enter Tryz.func105,Tryz.ntmps105;go_wp2_with fail;refine (aP b s i d _ h hs (by omega)).mono ?_;rintro e w1 ⟨rfl,q1,rfl⟩;rw [HC.o];obtain⟨W,hW⟩:∃W,W=w.drewN q1:=⟨_,rfl⟩;rw [←hW];have hsW:aD W b s i d:=by rw [hW];exact h.drewN _
   have HKW:=Hd (show K0 w W by rw [hW];exact (aB.refl _ _).drewN _);obtain⟨c0,c1,c2,f1,f2⟩:=hsW.cells;clear hW;go_wp2_with fail;go_quiet ((go_at_call 69;exact Calls.quiet_of_same ((dG s i _ hs hi).mono (fun e w' hh=>⟨by rw [hh.1,HRUN.o],hh.2.symm⟩))));obtain⟨W2,hW2⟩:∃W2,W2=W.drewN nq:=⟨_,rfl⟩;rw [←hW2];have hs2:aD W2 b s i d:=by rw [hW2];exact hsW.drewN _
   have HK2:=Hd (show K0 w W2 by rw [hW2];exact HKW.o.drewN _);clear hW2 c0 c1 c2 f1 f2;go_wp2_with fail;go_loopw [4] (fun n' wr=>n'=.int .i64 1∧wr=W2) (fun _ _=>0)
   case atStart=>exact⟨rfl,rfl⟩
   case round=>
    obtain⟨rfl,rfl⟩:=hrel;have hsr:=hs2;have HKR:=HK2;obtain⟨c0,c1,c2,f1,f2⟩:=hsr.cells;go_wp2_with fail;go_quiet (fail);go_wp2_with fail;go_ret;exact oJ (m:=1) HKR.o hsr HKK.o (by omega)
 | false=>
  obtain⟨x1,x2,x3,x4⟩:=wZ hsp;cases hdg:bD c with
  | false=>
   have hkk:0=k:=by
    rw [hrest];rcases Nat.lt_or_ge i s.size with h | h
    ·rw [aN h,←hc];dsimp only;rw [hdg,hsp];rfl
    ·rw [bU h]
   have p2:(i:Int)≤(s.size:Int):=by omega
   have HKK:=Hd hkk;have HD:=Hd hdg;clear hk hkk hR hc hrest hsp hdg hrun;go_enter Tryz.func105,Tryz.ntmps105;go_wp2_with fail;refine (aP b s i d _ h hs (by omega)).mono ?_;rintro e w1 ⟨rfl,q1,rfl⟩;rw [HC.o];obtain⟨W,hW⟩:∃W,W=w.drewN q1:=⟨_,rfl⟩;rw [←hW];have hsW:aD W b s i d:=by rw [hW];exact h.drewN _
   have HKW:=Hd (show K0 w W by rw [hW];exact (aB.refl _ _).drewN _);obtain⟨c0,c1,c2,f1,f2⟩:=hsW.cells;clear hW;go_wp2_with fail;go_quiet ((go_at_call 69;exact Calls.quiet_of_same ((dG s i _ hs hi).mono (fun e w' hh=>⟨by rw [hh.1,HRUN.o],hh.2.symm⟩))));obtain⟨W2,hW2⟩:∃W2,W2=W.drewN nq:=⟨_,rfl⟩;rw [←hW2];have hs2:aD W2 b s i d:=by rw [hW2];exact hsW.drewN _
   have HK2:=Hd (show K0 w W2 by rw [hW2];exact HKW.o.drewN _);clear hW2 c0 c1 c2 f1 f2;go_wp2_with fail;go_loopw [4] (fun n' wr=>n'=.int .i64 ((0:Nat):Int)∧wr=W2) (fun _ _=>0)
   case atStart=>exact⟨rfl,rfl⟩
   case round=>
    obtain⟨rfl,rfl⟩:=hrel;go_wp2_with fail;refine (aP b s i d _ hs2 hs (by omega)).mono ?_;rintro e w3 ⟨rfl,q3,rfl⟩;rw [HC.o];go_wp2_with fail;refine (d7 c _).mono ?_;rintro e w4 ⟨rfl,hw4⟩;rw [HD.o];subst hw4;obtain⟨wr,hwr⟩:∃wx,wx=wr.drewN q3:=⟨_,rfl⟩;rw [←hwr];have hsr:aD wr b s i d:=by rw [hwr];exact hs2.drewN _
    have HKR:=Hd (show K0 w wr by rw [hwr];exact HK2.o.drewN q3);clear hwr;obtain⟨c0,c1,c2,f1,f2⟩:=hsr.cells;go_wp2_with fail;go_quiet (fail);go_wp2_with fail;go_ret;exact Ao HKR.o hsr HKK.o.symm
  | true=>
   have hlt:i<s.size:=by
    rcases Nat.lt_or_ge i s.size with h | h
    ·exact h
    ·have:c=0:=by
      rw [hc];unfold aM;rw [List.getD_eq_getElem?_getD,List.getElem?_eq_none (by rw [←Lib.size_eq];omega)];rfl
     rw [this] at hdg;exact absurd hdg (by decide)
   have hkk:eT (rest s (i+1))+1=k:=by
    rw [hrest,aN hlt,←hc];dsimp only;rw [hdg];rfl
   have HKK:=Hd hkk;have HD:=Hd hdg;have hkp:0<k:=by omega
   clear hk hkk hR hrest hsp hdg hrun hc;go_enter Tryz.func105,Tryz.ntmps105;go_wp2_with fail;refine (aP b s i d _ h hs (by omega)).mono ?_;rintro e w1 ⟨rfl,q1,rfl⟩;rw [HC.o];obtain⟨W,hW⟩:∃W,W=w.drewN q1:=⟨_,rfl⟩;rw [←hW];have hsW:aD W b s i d:=by rw [hW];exact h.drewN _
   have HKW:=Hd (show K0 w W by rw [hW];exact (aB.refl _ _).drewN _);obtain⟨c0,c1,c2,f1,f2⟩:=hsW.cells;clear hW;go_wp2_with fail;go_quiet ((go_at_call 69;exact Calls.quiet_of_same ((dG s i _ hs hi).mono (fun e w' hh=>⟨by rw [hh.1,HRUN.o],hh.2.symm⟩))));obtain⟨W2,hW2⟩:∃W2,W2=W.drewN nq:=⟨_,rfl⟩;rw [←hW2];have hs2:aD W2 b s i d:=by rw [hW2];exact hsW.drewN _
   have HK2:=Hd (show K0 w W2 by rw [hW2];exact HKW.o.drewN _);clear hW2 c0 c1 c2 f1 f2;go_wp2_with fail;go_loopg [4] 1 (fun g n' wr=>∃n:Nat,n'=.int .i64 n∧Hid (aD wr b s i d∧K0 w wr)∧((g=1∧n=0)∨(g=0∧n=k)))
   case atStart=>exact⟨0,rfl,Hd ⟨hs2,HK2.o⟩,.inl ⟨rfl,rfl⟩⟩
   case round=>
    obtain⟨n,rfl,HR,hn⟩:=hrel;rcases hn with ⟨hg,rfl⟩ | ⟨hg,rfl⟩
    ·go_wp2_with fail;refine (aP b s i d _ HR.o.1 hs (by omega)).mono ?_;rintro e w3 ⟨rfl,q3,rfl⟩;rw [HC.o];go_wp2_with fail;refine (d7 c _).mono ?_;rintro e w4 ⟨rfl,hw4⟩;rw [HD.o];subst hw4;go_wp2_with fail;go_loopw [4] (fun n' wx=>∃n:Nat,n'=.int .i64 n∧n≤s.size - i∧Hid (aD wx b s i d∧K0 w wx)∧Hid (n=0∨rI (rest s i) n)) (fun n' _=>s.size+1 - (intOf n').toNat)
     case atStart=>exact⟨0,rfl,Nat.zero_le _,Hd ⟨HR.o.1.drewN _,HR.o.2.drewN _⟩,Hd (.inl rfl)⟩
     case round=>
      obtain⟨n,rfl,hns,HX,HN⟩:=hrel;obtain⟨x,hx⟩:∃x,x=aM s (i+n):=⟨_,rfl⟩;have HXX:=Hd hx.symm;clear hx;cases hdx:bD x with
      | true=>
       have HDX:=Hd hdx;have hnl:i+n<s.size:=by
        rcases Nat.lt_or_ge (i+n) s.size with h | h
        ·exact h
        ·have h0:x=0:=by
          rw [←HXX.o];unfold aM;rw [List.getD_eq_getElem?_getD,List.getElem?_eq_none (by rw [←Lib.size_eq];omega)];rfl
         rw [h0] at hdx;exact absurd hdx (by decide)
       have hnx:rI (rest s i) (n+1):=by
        rcases HN.o with h0 | h0
        ·subst h0;refine⟨Nat.le_refl _,by rw [cM];omega,?_⟩;show eT ((rest s i).drop 1)+1=1+eT ((rest s i).drop 1);omega
        ·refine h0.next (c:=x) ?_ hdx;rw [qW hnl,gB hnl,HXX.o]
       have HNX:=Hd hnx;clear hdx hnx;go_wp2_with fail;refine (uJ b s i n d _ HX.o.1 hs (by omega) (by omega)).mono ?_;rintro e w5 ⟨rfl,q5,rfl⟩;rw [HXX.o];go_wp2_with fail;refine (d7 x _).mono ?_;rintro e w6 ⟨rfl,hw6⟩;rw [HDX.o];subst hw6;go_wp2_with fail;go_roundw
       case rel=>exact⟨n+1,by go_num,by omega,Hd ⟨HX.o.1.drewN _,HX.o.2.drewN _⟩,Hd (.inr HNX.o)⟩
       case measure=>simp [intOf];omega
      | false=>
       have HDX:=Hd hdx;have hnk:n=k:=by
        rcases HN.o with h0 | h0
        ·subst h0;exfalso;have:x=c:=by rw [←HXX.o,←HC.o];rfl
         rw [this,HD.o] at hdx;cases hdx
        ·have hdr:(rest s i).drop 1=rest s (i+1):=by rw [aN hlt];rfl
         rw [←HKK.o,←hdr];rcases Nat.lt_or_ge (i+n) s.size with hnl | hnl
         ·exact (h0.stop (c:=x) (by rw [qW hnl,gB hnl,HXX.o]) hdx).symm
         ·exact (h0.over (by rw [cM];omega)).symm
       subst hnk;clear hdx;go_wp2_with fail;refine (uJ b s i n d _ HX.o.1 hs (by omega) (by omega)).mono ?_;rintro e w5 ⟨rfl,q5,rfl⟩;rw [HXX.o];go_wp2_with fail;refine (d7 x _).mono ?_;rintro e w6 ⟨rfl,hw6⟩;rw [HDX.o];subst hw6;go_wp2_with fail;go_roundg 0
       case measure=>omega
       case rel=>exact⟨n,rfl,Hd ⟨HX.o.1.drewN _,HX.o.2.drewN _⟩,.inr ⟨rfl,rfl⟩⟩
    ·have p1:((n:Int)==0)=false:=by rw [beq_eq_false_iff_ne];omega
     have p2:(i:Int)+(n:Int)≤(s.size:Int):=by omega
     have p3:(i:Int)≤(i:Int)+(n:Int):=by omega
     have p4:((i:Int)+(n:Int)).toNat=i+n:=by omega
     have hsr:=HR.o.1;obtain⟨c0,c1,c2,f1,f2⟩:=hsr.cells;go_wp2_with fail;go_quiet (fail);go_wp2_with fail;go_ret;exact oJ HR.o.2 hsr rfl (by omega)
def nU (w:World) (B cs:Nat) (s:ByteArray) (bd:Nat) (raw:List Pt) (res:Res) (e:Ending) (w':World):Prop:=
 match res with
 | .ok (l,r)=>∃(v:Value) (i:Nat),e=.returned v∧i≤s.size∧rest s i=r∧aD w' cs s i ((0:Nat):Int)∧Row w' B v (raw++l)∧wtF (raw++l)≤2*i∧aB (fun b=>b=cs∨B≤b) w w'
 | .error x=>x≠0∧∃(v:Value) (i:Nat) (raw':List Pt),e=.returned v∧i≤s.size+bd∧aD w' cs s i (x:Int)∧Row w' B v raw'∧wtF raw'≤1000000∧aB (fun b=>b=cs∨B≤b) w w'
def o4 (q:Bool) (r:List UInt8):Res:=match cV 0 r with
 | none=>.error 2
 | some k=>.ok ([.mk 4 (r.take k) [] [] [] q],r.drop (k+2))
def kG (s:ByteArray) (i o I:Nat):Prop:=i≤I∧cV 0 (rest s i)=(cV o (rest s I)).map (· + (I - i))
theorem kG.start (s:ByteArray) (i:Nat):kG s i 0 i:=⟨Nat.le_refl _,by rw [Nat.sub_self];cases cV 0 (rest s i)<;>rfl⟩
theorem kG.on {s:ByteArray} {i o o' I:Nat} (h:kG s i o I) (hs:cV o (rest s I)=(cV o' (rest s (I+1))).map (· + 1)):kG s i o' (I+1):=by
 refine⟨by have:=h.1;omega,?_⟩;rw [h.2,hs];have:=h.1;cases cV o' (rest s (I+1)) with
 | none=>rfl
 | some m=>simp;omega
theorem kG.over {s:ByteArray} {i o I:Nat} (h:kG s i o I) (hI:s.size≤I):cV 0 (rest s i)=none:=by
 rw [h.2,bU hI];rfl
theorem rG {w w':World} {row:Option Nat} (h:w.drew.grownBy w' row):w.grownBy w' row:=⟨h.os,h.tape,h.output,h.size,h.block⟩
theorem Ih (B cs:Nat) (s:ByteArray) (i:Nat) (q:Bool) (v:Value) (raw:List Pt) (w:World) (h:aD w cs s i ((0:Nat):Int)) (hs:s.size≤20000) (hi:i≤s.size) (hr:Row w B v raw) (hcB:cs<B) (hB:B≤w.heap.size) (hl:wtF raw+1≤2*i) (bd:Nat) :
 Calls Tryz.prog 72 #[.pointer (some ⟨cs,0,none⟩),v,.bool q] w (nU w B cs s bd raw (o4 q (rest s i))):=by
 obtain⟨res,hres⟩:∃res,res=o4 q (rest s i):=⟨_,rfl⟩;rw [←hres];have HRES:=Hd hres;obtain⟨va,vc,rfl,_,_⟩:=hr.shape;obtain⟨i0,hi0,hz0,hz1,hz2⟩:=info_parts i9;have hc6:=dN;obtain⟨c0,c1,c2,f1,f2⟩:=h.cells;have HR:=Hd hr;have HSC:=Lib.hid h;obtain⟨L,hL⟩:∃L,L=raw.length:=⟨_,rfl⟩;rw [←hL];have hlw:=lJ raw;rw [←hL] at HR hlw;have HL:=Hd hL;clear hres hr hL h;go_enter Tryz.func72,Tryz.ntmps72
 go_wp2_with fail;go_loopg [8] (s.size+2 - i) (fun g o' wr=>∃n I:Nat,o'=.int .i64 n∧g=s.size+2 - I∧I≤s.size∧n≤I∧aD wr cs s I ((0:Nat):Int)∧Hid (aB (fun b=>b=cs) w wr)∧Hid (kG s i n I))
 case atStart=>exact⟨0,i,rfl,rfl,hi,Nat.zero_le _,HSC.o,Hd (aB.refl _ _),Hd (kG.start s i)⟩
 case round=>
  obtain⟨n,I,rfl,hgk,hI,hnI,hsc,HK,HC⟩:=hrel;have HGK:=Hd hgk;have HSI:=Hd hsc;clear hgk hsc;rcases Nat.lt_or_ge I s.size with hlt | hge
  ·have he:decide (s.size≤I)=false:=decide_eq_false (by omega);have HE:=Hd he;obtain⟨c,hc⟩:∃c,c=aM s I:=⟨_,rfl⟩;have HCC:=Hd hc.symm;have hrc:=aN hlt;rw [←hc] at hrc;have HRC:=Hd hrc;clear he hc hrc;by_cases t40:c=40
   ·have f40:((c.toNat:Int)==40)=true:=aU (c:=c) (k:=40) t40;have hn:=HC.o.on (o':=n+1) (by rw [HRC.o,t40];exact D9 _ _);have HN:=Hd hn;clear t40 hn;go_wp2_with fail;refine (bB cs s I _ _ HSI.o).mono ?_;rintro e w1 ⟨rfl,q1,rfl⟩;rw [HE.o];go_wp2_with fail;refine (aP cs s I _ _ (HSI.o.drewN _) (by omega) (by omega)).mono ?_;rintro e w2 ⟨rfl,q2,rfl⟩;rw [HCC.o];obtain⟨w2,hw2,hs2,hk2⟩:=iI (n:=q1+q2) HSI.o ((I:Int)+1)
    obtain⟨d0,d1,d2,g1,g2⟩:=HSI.o.cells;go_wp2_with fail;rw [←hw2];go_roundg (s.size+2 - (I+1))
    case measure=>have:=HGK.o;omega
    case rel=>exact⟨n+1,I+1,by go_num,rfl,by omega,by omega,hs2,Hd (HK.o.trans hk2 (fun _ _ e=>e)),HN⟩
   have f40:((c.toNat:Int)==40)=false:=aX (c:=c) (k:=40) t40;have g40:(c==40)=false:=beq_eq_false_iff_ne.2 t40;have G40:=Hd g40;clear t40 g40;by_cases t41:c=41
   ·have f41:((c.toNat:Int)==41)=true:=aU (c:=c) (k:=41) t41;rcases Nat.eq_zero_or_pos n with hn0 | hn0
    ·subst hn0;obtain⟨x,hx⟩:∃x,x=aM s (I+1):=⟨_,rfl⟩;have HX:=Hd hx.symm;have hcx:cV 0 (rest s i)=(if aW 41 (rest s (I+1)) then some 0 else none).map (· + (I - i)):=by
      rw [HC.o.2,HRC.o,t41,Hx]
     have hhx:aW 41 (rest s (I+1))=(x==41):=by
      rw [hx];rcases Nat.lt_or_ge (I+1) s.size with h | h
      ·rw [aN h];rfl
      ·rw [bU h];unfold aM;rw [List.getD_eq_getElem?_getD,List.getElem?_eq_none (by rw [←Lib.size_eq];omega)];rfl
     by_cases tx:x=41
     ·have fx:((x.toNat:Int) != 41)=false:=by rw [bne,show ((x.toNat:Int)==41)=true from aU (c:=x) (k:=41) tx];rfl
      have hok:res=.ok ([.mk 4 ((rest s i).take (I - i)) [] [] [] q],rest s (I+2)):=by
       rw [HRES.o];unfold o4;rw [hcx,hhx,tx];show Except.ok ([Pt.mk 4 ((rest s i).take (0+(I - i))) [] [] [] q],(rest s i).drop (0+(I - i)+2))=_;have:=HC.o.1;rw [dY,show i+(0+(I - i)+2)=I+2 by omega,Nat.zero_add]
      have hI2:I+2≤s.size:=by
       rcases Nat.lt_or_ge (I+1) s.size with h | h
       ·omega
       ·exfalso;rw [bU h] at hhx;rw [tx] at hhx;cases hhx
      have HOK:=Hd hok;have hiI:=HC.o.1;obtain⟨T,hT⟩:∃T,T=s.extract i I:=⟨_,rfl⟩;have HTL:=Hd (show T.data.toList=(rest s i).take (I - i) by rw [hT,Lib.extract_data];rfl);have HTT:=Hd hT;have p1:(i:Int)≤(I:Int):=by omega
      have p2:(I:Int)≤(s.size:Int):=by omega
      clear t41 hcx hhx tx hx hok hT;go_wp2_with fail;refine (bB cs s I _ _ HSI.o).mono ?_;rintro e w1 ⟨rfl,q1,rfl⟩;rw [HE.o];go_wp2_with fail;refine (aP cs s I _ _ (HSI.o.drewN _) (by omega) (by omega)).mono ?_;rintro e w2 ⟨rfl,q2,rfl⟩;rw [HCC.o];obtain⟨W,hW⟩:∃W,W=(wr.drewN q1).drewN q2:=⟨_,rfl⟩;rw [←hW];have hsW:aD W cs s I ((0:Nat):Int):=by rw [hW];exact (HSI.o.drewN _).drewN _
      have HKW:=Hd (show aB (fun b=>b=cs) w W by rw [hW];exact (HK.o.drewN _).drewN _);clear hW;go_wp2_with fail;refine (cF cs s I _ _ hsW (by omega) (by omega)).mono ?_;rintro e w3 ⟨rfl,q3,rfl⟩;rw [HX.o];obtain⟨W3,hW3⟩:∃W3,W3=W.drewN q3:=⟨_,rfl⟩;rw [←hW3];have hs3:aD W3 cs s I ((0:Nat):Int):=by rw [hW3];exact hsW.drewN _
      have HK3:=Hd (show aB (fun b=>b=cs) w W3 by rw [hW3];exact HKW.o.drewN _);obtain⟨d0,d1,d2,g1,g2⟩:=hs3.cells;have lt3:=hs3.lt;clear hW3;go_wp2_with fail;go_region;obtain⟨w4,hw4,hs4,hk4⟩:=fI hs3 ((I:Int)+2);have HK4:=Hd (HK3.o.trans hk4 (fun _ _ e=>e));have hB4:B≤w4.heap.size:=Nat.le_trans hB HK4.o.size;have hR4:=HR.o.keep HK4.o (fun _ _ e=>by omega);have hF:=hR4.more0 hB4 (w1:=w4.alloc (.cells #[.int .i64 4,.string T,.string ⟨#[]⟩,.string ⟨#[]⟩,.slice none 0 0,.bool q] 67)) ((aB.refl _ _).alloc _) (x:=.mk 4 T.data.toList [] [] [] q) rfl
      obtain⟨xs,hown,hF⟩:=hF;have e:e8 T.data.toList=.string T:=jM rfl;simp only [fL,Pt.kind,Pt.text,Pt.name,Pt.op,Pt.quoted,e] at hF;have HF:=Hd hF;have HS4:=Hd hs4;have hz4:w4.heap.size=W3.heap.size:=by rw [hw4];simp [World.setCell]
      rw [←HL.o] at hown HF;rw [HTT.o] at HF;have HW4:=Hd hw4;rw [HTT.o,hw4] at hown;have hb2:=heap_alloc_new ((W3.setCell ⟨cs,1,none⟩ (.int .i64 ((I:Int)+2))).alloc (.cells #[.int .i64 4,.string (s.extract i I),.string ⟨#[]⟩,.string ⟨#[]⟩,.slice none 0 0,.bool q] 67)) (.cells #[.int .i64 4,.string (s.extract i I),.string ⟨#[]⟩,.string ⟨#[]⟩,.slice none 0 0,.bool q] 67);have hz5:((W3.setCell ⟨cs,1,none⟩ (.int .i64 ((I:Int)+2))).alloc (.cells #[.int .i64 4,.string (s.extract i I),.string ⟨#[]⟩,.string ⟨#[]⟩,.slice none 0 0,.bool q] 67)).heap.size=W3.heap.size+1:=by simp [World.setCell]
      rw [hz5] at hb2;have HB2:=Hd hb2;clear hF hs4 hk4 hw4 hR4 e hb2 hz5;go_wp2_with (at_builtin;refine wpList_append_lies _ rfl (.tmp 53) (.tmp 55) _ rfl 0 67 i0 _ 6 88 Tryz.underlying29 hi0 hz0 hz1 hz2 rfl (by omega) (.slice va L vc) L xs rfl ((hown.alloc _).drew) ⟨W3.heap.size+1,0,none⟩ 1 1 [.int .i64 4,.string (s.extract i I),.string ⟨#[]⟩,.string ⟨#[]⟩,.slice none 0 0,.bool q] rfl rfl (World.news_of_block (cs:=#[.int .i64 4,.string (s.extract i I),.string ⟨#[]⟩,.string ⟨#[]⟩,.slice none 0 0,.bool q]) (t:=67) (fr:=(0,0)) HB2.o) (by simp [Value.oneCell']) (by omega) (by unfold maxLen;omega) (by omega) (by simp) (W3.heap.size+1+1) (by simp [World.setCell]) ?_;intro gg cap w5 hown2 hgrow hat hlt2)
      go_ret;obtain rfl:=HW4.o;obtain⟨hrow,hkeep⟩:=HF.o gg cap w5 _ hown2 (rG hgrow) (by simpa [World.setCell] using hat);have htl:=HTL.o;rw [HTT.o] at htl;rw [htl] at hrow;rw [HOK.o];exact⟨_,I+2,rfl,hI2,rfl,HS4.o.keep hkeep (fun e=>by omega),hrow,by rw [bE];simp only [wtF,Pt.text];rw [List.length_take,cM];omega,(HK4.o.mono fun _ _ e=>.inl e).trans hkeep (fun _ _ e=>.inr e)⟩
     ·have fx:((x.toNat:Int) != 41)=true:=by rw [bne,show ((x.toNat:Int)==41)=false from aX (c:=x) (k:=41) tx];rfl
      have hx2:res=.error 2:=by
       rw [HRES.o];unfold o4;rw [hcx,hhx,beq_eq_false_iff_ne.2 tx];rfl
      have HX2:=Hd hx2;clear t41 hcx hhx tx hx hx2;go_wp2_with fail;refine (bB cs s I _ _ HSI.o).mono ?_;rintro e w1 ⟨rfl,q1,rfl⟩;rw [HE.o];go_wp2_with fail;refine (aP cs s I _ _ (HSI.o.drewN _) (by omega) (by omega)).mono ?_;rintro e w2 ⟨rfl,q2,rfl⟩;rw [HCC.o];obtain⟨W,hW⟩:∃W,W=(wr.drewN q1).drewN q2:=⟨_,rfl⟩;rw [←hW];have hsW:aD W cs s I ((0:Nat):Int):=by rw [hW];exact (HSI.o.drewN _).drewN _
      have HKW:=Hd (show aB (fun b=>b=cs) w W by rw [hW];exact (HK.o.drewN _).drewN _);clear hW;go_wp2_with fail;refine (cF cs s I _ _ hsW (by omega) (by omega)).mono ?_;rintro e w3 ⟨rfl,q3,rfl⟩;rw [HX.o];go_wp2_with fail;refine (eO cs s I 0 2 _ (hsW.drewN _)).mono ?_;rintro e w4 ⟨rfl,hs4,hk4⟩;have HS4:=Hd hs4;have HK4:=Hd ((HKW.o.drewN q3).trans hk4 (fun _ _ e=>e));clear hs4 hk4
      go_wp2_with fail;go_ret;rw [HX2.o];exact⟨by decide,_,I,raw,rfl,by omega,HS4.o,by rw [HL.o];rw [HL.o] at HR;exact HR.o.keep HK4.o (fun _ _ e=>by omega),by omega,HK4.o.mono fun _ _ e=>.inl e⟩
    ·obtain⟨n,rfl⟩:∃m,n=m+1:=⟨n - 1,by omega⟩;have hn:=HC.o.on (o':=n) (by rw [HRC.o,t41];exact Et _ _ (by omega));have HN:=Hd hn;have p3:(((n+1:Nat):Int)==0)=false:=by rw [beq_eq_false_iff_ne];omega
     clear t41 hn;go_wp2_with fail;refine (bB cs s I _ _ HSI.o).mono ?_;rintro e w1 ⟨rfl,q1,rfl⟩;rw [HE.o];go_wp2_with fail;refine (aP cs s I _ _ (HSI.o.drewN _) (by omega) (by omega)).mono ?_;rintro e w2 ⟨rfl,q2,rfl⟩;rw [HCC.o];obtain⟨w2,hw2,hs2,hk2⟩:=iI (n:=q1+q2) HSI.o ((I:Int)+1);obtain⟨d0,d1,d2,g1,g2⟩:=HSI.o.cells;go_wp2_with fail;rw [←hw2];go_roundg (s.size+2 - (I+1))
     case measure=>have:=HGK.o;omega
     case rel=>exact⟨n,I+1,by go_num,rfl,by omega,by omega,hs2,Hd (HK.o.trans hk2 (fun _ _ e=>e)),HN⟩
   have f41:((c.toNat:Int)==41)=false:=aX (c:=c) (k:=41) t41;have hn:=HC.o.on (o':=n) (by rw [HRC.o];exact Fa _ _ _ G40.out (beq_eq_false_iff_ne.2 t41));have HN:=Hd hn;clear t41 hn;go_wp2_with fail;refine (bB cs s I _ _ HSI.o).mono ?_;rintro e w1 ⟨rfl,q1,rfl⟩;rw [HE.o];go_wp2_with fail;refine (aP cs s I _ _ (HSI.o.drewN _) (by omega) (by omega)).mono ?_;rintro e w2 ⟨rfl,q2,rfl⟩
   rw [HCC.o];obtain⟨w2,hw2,hs2,hk2⟩:=iI (n:=q1+q2) HSI.o ((I:Int)+1);obtain⟨d0,d1,d2,g1,g2⟩:=HSI.o.cells;go_wp2_with fail;rw [←hw2];go_roundg (s.size+2 - (I+1))
   case measure=>have:=HGK.o;omega
   case rel=>exact⟨n,I+1,by go_num,rfl,by omega,by omega,hs2,Hd (HK.o.trans hk2 (fun _ _ e=>e)),HN⟩
  ·have he:decide (s.size≤I)=true:=decide_eq_true hge;have HE:=Hd he;have hx:res=.error 2:=by
    rw [HRES.o];unfold o4;rw [HC.o.over hge]
   have HX:=Hd hx;clear he hx;go_wp2_with fail;refine (bB cs s I _ _ HSI.o).mono ?_;rintro e w1 ⟨rfl,q1,rfl⟩;rw [HE.o];go_wp2_with fail;refine (eO cs s I 0 2 _ (HSI.o.drewN _)).mono ?_;rintro e w2 ⟨rfl,hs2,hk2⟩;have HS2:=Hd hs2;have HK2:=Hd ((HK.o.drewN q1).trans hk2 (fun _ _ e=>e));clear hs2 hk2;go_wp2_with fail;go_ret;rw [HX.o];exact⟨by decide,_,I,raw,rfl,by omega,HS2.o,by rw [HL.o];rw [HL.o] at HR;exact HR.o.keep HK2.o (fun _ _ e=>by omega),by omega,HK2.o.mono fun _ _ e=>.inl e⟩
def kZ (s:ByteArray) (I J:Nat):Prop:=I<J∧J≤s.size+2∧((aM s I==40)=false→(aM s I==41)=false→∀o,bP .n o (rest s I)=(bP .n o (rest s J)).map (· + (J - I)))∧(aM s I=40∨aM s I=41→J=I+1)
def gO (w:World) (cs:Nat) (s:ByteArray) (I:Nat) (e:Ending) (w':World):Prop:=
 e=.returned (.tuple #[])∧∃J:Nat,kZ s I J∧aD w' cs s J ((0:Nat):Int)∧aB (fun b=>b=cs) w w'
theorem qX {s:ByteArray} {I k:Nat} {q:UInt8} (hI:I<s.size) (hc:aM s I=q) (hq:q=39∨q=34) (h:dZ q false (rest s (I+1))=some k):kZ s I (I+(k+1)):=by
 have hk:=wX h;rw [cM] at hk;refine⟨by omega,by omega,fun _ _ o=>?_,fun h2=>?_⟩
 ·rcases hq with rfl | rfl
  ·rw [wU hI hc,h];simp only [Option.bind_some];rw [show I+(k+1) - I=k+1 by omega]
  ·rw [xB hI hc,h];simp only [Option.bind_some];rw [show I+(k+1) - I=k+1 by omega]
 ·rw [hc] at h2;rcases hq with rfl | rfl<;>exact absurd h2 (by decide)
theorem qV {s:ByteArray} {I J:Nat} {q:UInt8} (hI:I<s.size) (hc:aM s I=q) (hq:q=39∨q=34) (h:dZ q false (rest s (I+1))=none) (h1:s.size<J) (h2:J≤s.size+2):kZ s I J:=by
 refine⟨by omega,h2,fun _ _ o=>?_,fun h2=>?_⟩
 ·rw [bU (show s.size≤J by omega)];rcases hq with rfl | rfl
  ·rw [wU hI hc,h];rfl
  ·rw [xB hI hc,h];rfl
 ·rw [hc] at h2;rcases hq with rfl | rfl<;>exact absurd h2 (by decide)
theorem Ac {s:ByteArray} {I:Nat} (hI:I<s.size) (hc:aM s I=92):kZ s I (I+2):=by
 refine⟨by omega,by omega,fun _ _ o=>?_,fun h2=>?_⟩
 ·rw [K7 hI hc,show I+2 - I=2 by omega]
 ·rw [hc] at h2;exact absurd h2 (by decide)
theorem An {s:ByteArray} {I:Nat} (hI:I<s.size) (h1:(aM s I==39)=false) (h2:(aM s I==34)=false) (h3:(aM s I==92)=false):kZ s I (I+1):=by
 refine⟨by omega,by omega,fun h4 h5 o=>?_,fun _=>rfl⟩;rw [aN hI,J7 h1 h2 h3 h4 h5,show I+1 - I=1 by omega]
theorem cE {w:World} {cs:Nat} {s:ByteArray} {i j d:Int} {J:Nat} (h:aD w cs s i d) (hj:j=(J:Int)):aD (w.setCell ⟨cs,1,none⟩ (.int .i64 j)) cs s J d∧aB (fun b=>b=cs) w (w.setCell ⟨cs,1,none⟩ (.int .i64 j)):=
 ⟨by rw [hj];exact h.set1 _,(aB.refl _ _).setCell _ _ fun _=>rfl⟩
theorem gO.mk' {w w':World} {cs:Nat} {s:ByteArray} {I J:Nat} (h:kZ s I J) (hs:aD w' cs s J ((0:Nat):Int)) (hk:aB (fun b=>b=cs) w w'):gO w cs s I (.returned (.tuple #[])) w':=⟨rfl,J,h,hs,hk⟩
theorem sH (cs:Nat) (s:ByteArray) (I:Nat) (w:World) (h:aD w cs s I ((0:Nat):Int)) (hs:s.size≤20000) (hI:I<s.size) :
 Calls Tryz.prog 106 #[.pointer (some ⟨cs,0,none⟩)] w (gO w cs s I):=by
 obtain⟨c,hc⟩:∃c,c=aM s I:=⟨_,rfl⟩;have HC:=Hd hc.symm;clear hc;by_cases t92:c=92
 ·have f92:((c.toNat:Int)==92)=true:=aU (c:=c) (k:=92) t92;have HP:=Hd (Ac hI (HC.o.trans t92));clear t92;go_enter Tryz.func106,Tryz.ntmps106;go_wp2_with fail;refine (aP cs s I _ _ h (by omega) (by omega)).mono ?_;rintro e w1 ⟨rfl,q1,rfl⟩;rw [HC.o];obtain⟨w2,hw2,hs2,hk2⟩:=iI (n:=q1) h ((I:Int)+1);obtain⟨d0,d1,d2,g1,g2⟩:=h.cells;go_wp2_with fail
  try rw [←hw2]
  go_end0;obtain⟨hs3,hk3⟩:=cE hs2 (j:=(I:Int)+1+1) (J:=I+2) (by omega);exact gO.mk' HP.o hs3 (hk2.trans hk3 (fun _ _ e=>e))
 have f92:((c.toNat:Int)==92)=false:=aX (c:=c) (k:=92) t92;have G92:=Hd (show (c==92)=false from beq_eq_false_iff_ne.2 t92);clear t92;by_cases t39:c=39
 ·have f39:((c.toNat:Int)==39)=true:=aU (c:=c) (k:=39) t39;have HQ:=Hd (HC.o.trans t39);clear t39;go_enter Tryz.func106,Tryz.ntmps106;go_wp2_with fail;refine (aP cs s I _ _ h (by omega) (by omega)).mono ?_;rintro e w1 ⟨rfl,q1,rfl⟩;rw [HC.o];obtain⟨w2,hw2,hs2,hk2⟩:=iI (n:=q1) h ((I:Int)+1);obtain⟨d0,d1,d2,g1,g2⟩:=h.cells;go_wp2_with fail
  try rw [←hw2]
  go_loopg [] (s.size+3 - (I+1)) (fun g wr=>∃K:Nat,g=s.size+3 - K∧I<K∧K≤s.size+0∧Hid (aD wr cs s K ((0:Nat):Int))∧Hid (aB (fun b=>b=cs) w wr)∧Hid (gV 39 s (I+1) K))
  case atStart=>exact⟨I+1,by omega,by omega,by omega,Hd hs2,Hd hk2,Hd (gV.start _ _ _)⟩
  case round=>
   obtain⟨K,hg,hIK,hKs,HS,HK,HA⟩:=hrel;have HG:=Hd hg;clear hg;rcases Nat.lt_or_ge K s.size with hlt | hge
   ·have HE:=Hd (show decide (s.size≤K)=false from decide_eq_false (by omega));obtain⟨x,hx⟩:∃x,x=aM s K:=⟨_,rfl⟩;have HX:=Hd hx.symm;clear hx;by_cases tx:x=39
    ·have fx:((x.toNat:Int) != 39)=false:=by rw [bne,show ((x.toNat:Int)==39)=true from aU (c:=x) (k:=39) tx];rfl
     have hp:=HA.o.stop hlt (by rw [HX.o,tx];rfl);have HP:=Hd (show kZ s I (K+1) by have h:=qX hI HQ.o (by decide) hp;rwa [show I+(K+1 - (I+1)+1)=K+1 by omega] at h);clear tx hp;go_wp2_with fail;refine (bB cs s K _ _ HS.o).mono ?_;rintro e w3 ⟨rfl,q3,rfl⟩;rw [HE.o];go_wp2_with fail;refine (aP cs s K _ _ (HS.o.drewN _) (by omega) (by omega)).mono ?_;rintro e w4 ⟨rfl,q4,rfl⟩
     rw [HX.o];obtain⟨w5,hw5⟩:∃w5,w5=(wr.drewN q3).drewN q4:=⟨_,rfl⟩;rw [←hw5];have hs5:aD w5 cs s K ((0:Nat):Int):=by rw [hw5];exact (HS.o.drewN _).drewN _
     have HK5:=Hd (show aB (fun b=>b=cs) w w5 by rw [hw5];exact (HK.o.drewN _).drewN _);obtain⟨d0,d1,d2,g1,g2⟩:=hs5.cells;clear hw5;go_wp2_with fail;go_end0;obtain⟨hs6,hk6⟩:=cE hs5 (j:=(K:Int)+1) (J:=K+1) (by omega);exact gO.mk' HP.o hs6 (HK5.o.trans hk6 (fun _ _ e=>e))
    ·have fx:((x.toNat:Int) != 39)=true:=by rw [bne,show ((x.toNat:Int)==39)=false from aX (c:=x) (k:=39) tx];rfl
     have hxq:(aM s K==39)=false:=by rw [HX.o];exact beq_eq_false_iff_ne.2 tx
     have HN:=Hd (HA.o.one hlt hxq (by rw [show ((39:UInt8)==34)=false from rfl,Bool.and_false]));clear tx hxq;go_wp2_with fail;refine (bB cs s K _ _ HS.o).mono ?_;rintro e w3 ⟨rfl,q3,rfl⟩;rw [HE.o];go_wp2_with fail;refine (aP cs s K _ _ (HS.o.drewN _) (by omega) (by omega)).mono ?_;rintro e w4 ⟨rfl,q4,rfl⟩;rw [HX.o];obtain⟨w5,hw5⟩:∃w5,w5=(wr.drewN q3).drewN q4:=⟨_,rfl⟩;rw [←hw5]
     have hs5:aD w5 cs s K ((0:Nat):Int):=by rw [hw5];exact (HS.o.drewN _).drewN _
     have HK5:=Hd (show aB (fun b=>b=cs) w w5 by rw [hw5];exact (HK.o.drewN _).drewN _);obtain⟨d0,d1,d2,g1,g2⟩:=hs5.cells;clear hw5;go_wp2_with fail;obtain⟨hs6,hk6⟩:=cE hs5 (j:=(K:Int)+1) (J:=K+1) (by omega);go_roundg (s.size+3 - (K+1))
     case measure=>have:=HG.o;omega
     case rel=>exact⟨K+1,rfl,by omega,by omega,Hd hs6,Hd (HK5.o.trans hk6 (fun _ _ e=>e)),HN⟩
   ·have HE:=Hd (show decide (s.size≤K)=true from decide_eq_true hge);have HP:=Hd (qV (J:=K+1) hI HQ.o (by decide) (HA.o.over hge) (by omega) (by omega));go_wp2_with fail;refine (bB cs s K _ _ HS.o).mono ?_;rintro e w3 ⟨rfl,q3,rfl⟩;rw [HE.o];obtain⟨w5,hw5⟩:∃w5,w5=wr.drewN q3:=⟨_,rfl⟩;rw [←hw5];have hs5:aD w5 cs s K ((0:Nat):Int):=by rw [hw5];exact HS.o.drewN _
    have HK5:=Hd (show aB (fun b=>b=cs) w w5 by rw [hw5];exact HK.o.drewN _);obtain⟨d0,d1,d2,g1,g2⟩:=hs5.cells;clear hw5;go_wp2_with fail;go_end0;obtain⟨hs6,hk6⟩:=cE hs5 (j:=(K:Int)+1) (J:=K+1) (by omega);exact gO.mk' HP.o hs6 (HK5.o.trans hk6 (fun _ _ e=>e))
 have f39:((c.toNat:Int)==39)=false:=aX (c:=c) (k:=39) t39;have G39:=Hd (show (c==39)=false from beq_eq_false_iff_ne.2 t39);clear t39;by_cases t34:c=34
 ·have f34:((c.toNat:Int)==34)=true:=aU (c:=c) (k:=34) t34;have HQ:=Hd (HC.o.trans t34);clear t34;go_enter Tryz.func106,Tryz.ntmps106;go_wp2_with fail;refine (aP cs s I _ _ h (by omega) (by omega)).mono ?_;rintro e w1 ⟨rfl,q1,rfl⟩;rw [HC.o];obtain⟨w2,hw2,hs2,hk2⟩:=iI (n:=q1) h ((I:Int)+1);obtain⟨d0,d1,d2,g1,g2⟩:=h.cells;go_wp2_with fail
  try rw [←hw2]
  go_loopg [] (s.size+3 - (I+1)) (fun g wr=>∃K:Nat,g=s.size+3 - K∧I<K∧K≤s.size+1∧Hid (aD wr cs s K ((0:Nat):Int))∧Hid (aB (fun b=>b=cs) w wr)∧Hid (gV 34 s (I+1) K))
  case atStart=>exact⟨I+1,by omega,by omega,by omega,Hd hs2,Hd hk2,Hd (gV.start _ _ _)⟩
  case round=>
   obtain⟨K,hg,hIK,hKs,HS,HK,HA⟩:=hrel;have HG:=Hd hg;clear hg;rcases Nat.lt_or_ge K s.size with hlt | hge
   ·have HE:=Hd (show decide (s.size≤K)=false from decide_eq_false (by omega));obtain⟨x,hx⟩:∃x,x=aM s K:=⟨_,rfl⟩;have HX:=Hd hx.symm;clear hx;by_cases tx:x=34
    ·have fx:((x.toNat:Int) != 34)=false:=by rw [bne,show ((x.toNat:Int)==34)=true from aU (c:=x) (k:=34) tx];rfl
     have hp:=HA.o.stop hlt (by rw [HX.o,tx];rfl);have HP:=Hd (show kZ s I (K+1) by have h:=qX hI HQ.o (by decide) hp;rwa [show I+(K+1 - (I+1)+1)=K+1 by omega] at h);clear tx hp;go_wp2_with fail;refine (bB cs s K _ _ HS.o).mono ?_;rintro e w3 ⟨rfl,q3,rfl⟩;rw [HE.o];go_wp2_with fail;refine (aP cs s K _ _ (HS.o.drewN _) (by omega) (by omega)).mono ?_;rintro e w4 ⟨rfl,q4,rfl⟩
     rw [HX.o];obtain⟨w5,hw5⟩:∃w5,w5=(wr.drewN q3).drewN q4:=⟨_,rfl⟩;rw [←hw5];have hs5:aD w5 cs s K ((0:Nat):Int):=by rw [hw5];exact (HS.o.drewN _).drewN _
     have HK5:=Hd (show aB (fun b=>b=cs) w w5 by rw [hw5];exact (HK.o.drewN _).drewN _);obtain⟨d0,d1,d2,g1,g2⟩:=hs5.cells;clear hw5;go_wp2_with fail;go_end0;obtain⟨hs6,hk6⟩:=cE hs5 (j:=(K:Int)+1) (J:=K+1) (by omega);exact gO.mk' HP.o hs6 (HK5.o.trans hk6 (fun _ _ e=>e))
    ·have fx:((x.toNat:Int) != 34)=true:=by rw [bne,show ((x.toNat:Int)==34)=false from aX (c:=x) (k:=34) tx];rfl
     have hxq:(aM s K==34)=false:=by rw [HX.o];exact beq_eq_false_iff_ne.2 tx
     by_cases t92:x=92
     ·have fy:((x.toNat:Int)==92)=true:=aU (c:=x) (k:=92) t92;have HN:=Hd (HA.o.two hlt hxq (by rw [HX.o,t92];rfl));clear tx t92 hxq;go_wp2_with fail;refine (bB cs s K _ _ HS.o).mono ?_;rintro e w3 ⟨rfl,q3,rfl⟩;rw [HE.o];go_wp2_with fail;refine (aP cs s K _ _ (HS.o.drewN _) (by omega) (by omega)).mono ?_;rintro e w4 ⟨rfl,q4,rfl⟩;rw [HX.o];go_wp2_with fail;refine (aP cs s K _ _ (HS.o.drewN (q3+q4)) (by omega) (by omega)).mono ?_
      rintro e w4 ⟨rfl,q5,rfl⟩;rw [HX.o];obtain⟨w5,hw5⟩:∃w5,w5=(wr.drewN (q3+q4)).drewN q5:=⟨_,rfl⟩;rw [←hw5];have hs5:aD w5 cs s K ((0:Nat):Int):=by rw [hw5];exact (HS.o.drewN _).drewN _
      have HK5:=Hd (show aB (fun b=>b=cs) w w5 by rw [hw5];exact (HK.o.drewN _).drewN _);obtain⟨d0,d1,d2,g1,g2⟩:=hs5.cells;clear hw5;go_wp2_with fail;obtain⟨hs6a,hk6a⟩:=cE hs5 (j:=(K:Int)+1) (J:=K+1) (by omega);obtain⟨hs6,hk6b⟩:=cE hs6a (j:=(K:Int)+1+1) (J:=K+2) (by omega);have hk6:=hk6a.trans hk6b (fun _ _ e=>e);go_roundg (s.size+3 - (K+2))
      case measure=>have:=HG.o;omega
      case rel=>exact⟨K+2,rfl,by omega,by omega,Hd hs6,Hd (HK5.o.trans hk6 (fun _ _ e=>e)),HN⟩
     ·have fy:((x.toNat:Int)==92)=false:=aX (c:=x) (k:=92) t92;have HN:=Hd (HA.o.one hlt hxq (by rw [HX.o,beq_eq_false_iff_ne.2 t92];rfl));clear tx t92 hxq;go_wp2_with fail;refine (bB cs s K _ _ HS.o).mono ?_;rintro e w3 ⟨rfl,q3,rfl⟩;rw [HE.o];go_wp2_with fail;refine (aP cs s K _ _ (HS.o.drewN _) (by omega) (by omega)).mono ?_;rintro e w4 ⟨rfl,q4,rfl⟩;rw [HX.o];go_wp2_with fail
      refine (aP cs s K _ _ (HS.o.drewN (q3+q4)) (by omega) (by omega)).mono ?_;rintro e w4 ⟨rfl,q5,rfl⟩;rw [HX.o];obtain⟨w5,hw5⟩:∃w5,w5=(wr.drewN (q3+q4)).drewN q5:=⟨_,rfl⟩;rw [←hw5];have hs5:aD w5 cs s K ((0:Nat):Int):=by rw [hw5];exact (HS.o.drewN _).drewN _
      have HK5:=Hd (show aB (fun b=>b=cs) w w5 by rw [hw5];exact (HK.o.drewN _).drewN _);obtain⟨d0,d1,d2,g1,g2⟩:=hs5.cells;clear hw5;go_wp2_with fail;obtain⟨hs6,hk6⟩:=cE hs5 (j:=(K:Int)+1) (J:=K+1) (by omega);go_roundg (s.size+3 - (K+1))
      case measure=>have:=HG.o;omega
      case rel=>exact⟨K+1,rfl,by omega,by omega,Hd hs6,Hd (HK5.o.trans hk6 (fun _ _ e=>e)),HN⟩
   ·have HE:=Hd (show decide (s.size≤K)=true from decide_eq_true hge);have HP:=Hd (qV (J:=K+1) hI HQ.o (by decide) (HA.o.over hge) (by omega) (by omega));go_wp2_with fail;refine (bB cs s K _ _ HS.o).mono ?_;rintro e w3 ⟨rfl,q3,rfl⟩;rw [HE.o];obtain⟨w5,hw5⟩:∃w5,w5=wr.drewN q3:=⟨_,rfl⟩;rw [←hw5];have hs5:aD w5 cs s K ((0:Nat):Int):=by rw [hw5];exact HS.o.drewN _
    have HK5:=Hd (show aB (fun b=>b=cs) w w5 by rw [hw5];exact HK.o.drewN _);obtain⟨d0,d1,d2,g1,g2⟩:=hs5.cells;clear hw5;go_wp2_with fail;go_end0;obtain⟨hs6,hk6⟩:=cE hs5 (j:=(K:Int)+1) (J:=K+1) (by omega);exact gO.mk' HP.o hs6 (HK5.o.trans hk6 (fun _ _ e=>e))
 have f34:((c.toNat:Int)==34)=false:=aX (c:=c) (k:=34) t34;have G34:=Hd (show (c==34)=false from beq_eq_false_iff_ne.2 t34);clear t34;have HP:=Hd (An hI (by rw [HC.o];exact G39.out) (by rw [HC.o];exact G34.out) (by rw [HC.o];exact G92.out));go_enter Tryz.func106,Tryz.ntmps106;go_wp2_with fail;refine (aP cs s I _ _ h (by omega) (by omega)).mono ?_;rintro e w1 ⟨rfl,q1,rfl⟩
 rw [HC.o];obtain⟨w2,hw2,hs2,hk2⟩:=iI (n:=q1) h ((I:Int)+1);obtain⟨d0,d1,d2,g1,g2⟩:=h.cells;go_wp2_with fail
 try rw [←hw2]
 go_end0;exact gO.mk' HP.o hs2 hk2
def vT (q:Bool) (r:List UInt8):Res:=match bP .n 0 r with
 | none=>.error 2
 | some k=>.ok ([.mk 5 (r.take k) [] [] [] q],r.drop (k+1))
theorem jS.to {s:ByteArray} {i o o' I J:Nat} (h:jS s i o I) (hJ:I<J) (hs:bP .n o (rest s I)=(bP .n o' (rest s J)).map (· + (J - I))):jS s i o' J:=by
 have:=h.on (o':=o') (k:=J - I) (by rw [show I+(J - I)=J by omega];exact hs)
 rwa [show I+(J - I)=J by omega] at this
theorem Lf (B cs:Nat) (s:ByteArray) (i:Nat) (q:Bool) (v:Value) (raw:List Pt) (w:World) (h:aD w cs s i ((0:Nat):Int)) (hs:s.size≤20000) (hi:i≤s.size) (hr:Row w B v raw) (hcB:cs<B) (hB:B≤w.heap.size) (hl:wtF raw+1≤2*i) (bd:Nat) (hbd:2≤bd) :
 Calls Tryz.prog 73 #[.pointer (some ⟨cs,0,none⟩),v,.bool q] w (nU w B cs s bd raw (vT q (rest s i))):=by
 obtain⟨res,hres⟩:∃res,res=vT q (rest s i):=⟨_,rfl⟩;rw [←hres];have HRES:=Hd hres;obtain⟨va,vc,rfl,_,_⟩:=hr.shape;obtain⟨i0,hi0,hz0,hz1,hz2⟩:=info_parts i9;have hc6:=dN;obtain⟨c0,c1,c2,f1,f2⟩:=h.cells;have HR:=Hd hr;have HSC:=Lib.hid h;obtain⟨L,hL⟩:∃L,L=raw.length:=⟨_,rfl⟩;rw [←hL];have hlw:=lJ raw;rw [←hL] at HR hlw;have HL:=Hd hL;clear hres hr hL h;go_enter Tryz.func73,Tryz.ntmps73
 go_wp2_with fail;go_loopg [8] (s.size+3 - i) (fun g o' wr=>∃n I:Nat,o'=.int .i64 n∧g=s.size+3 - I∧i≤I∧I≤s.size+2∧n≤I∧aD wr cs s I ((0:Nat):Int)∧Hid (aB (fun b=>b=cs) w wr)∧Hid (jS s i n I))
 case atStart=>exact⟨0,i,rfl,rfl,Nat.le_refl _,by omega,Nat.zero_le _,HSC.o,Hd (aB.refl _ _),Hd (jS.start s i)⟩
 case round=>
  obtain⟨n,I,rfl,hgk,hiI,hI,hnI,hsc,HK,HC⟩:=hrel;have HGK:=Hd hgk;have HSI:=Hd hsc;clear hgk hsc;rcases Nat.lt_or_ge I s.size with hlt | hge
  ·have HE:=Hd (show decide (s.size≤I)=false from decide_eq_false (by omega));obtain⟨c,hc⟩:∃c,c=aM s I:=⟨_,rfl⟩;have HCC:=Hd hc.symm;have hrc:=aN hlt;rw [←hc] at hrc;have HRC:=Hd hrc;clear hc hrc;by_cases t40:c=40
   ·have f40:((c.toNat:Int)==40)=true:=aU (c:=c) (k:=40) t40;have f41:((c.toNat:Int)==41)=false:=aX (c:=c) (k:=41) (by rw [t40];decide);have HN:=Hd (show ∀J,kZ s I J→jS s i (n+1) J from fun J hto=>by
     have e:=hto.2.2.2 (.inl (by rw [HCC.o,t40]));subst e;refine HC.o.to (by omega) ?_;rw [HRC.o,t40,show I+1 - I=1 by omega];rfl)
    clear t40;go_wp2_with fail;refine (bB cs s I _ _ HSI.o).mono ?_;rintro e w1 ⟨rfl,q1,rfl⟩;rw [HE.o];go_wp2_with fail;refine (aP cs s I _ _ (HSI.o.drewN _) (by omega) (by omega)).mono ?_;rintro e w2 ⟨rfl,q2,rfl⟩;rw [HCC.o];obtain⟨W3,hW3⟩:∃W3,W3=(wr.drewN q1).drewN q2:=⟨_,rfl⟩;rw [←hW3];have hs3:aD W3 cs s I ((0:Nat):Int):=by rw [hW3];exact (HSI.o.drewN _).drewN _
    have HK3:=Hd (show aB (fun b=>b=cs) w W3 by rw [hW3];exact (HK.o.drewN _).drewN _);clear hW3;go_wp2_with fail;refine (sH cs s I _ hs3 hs hlt).mono ?_;rintro e w4 ⟨rfl,J,hto,hs4,hk4⟩;have HTO:=Hd hto;have hJ1:=hto.1;have hJ2:=hto.2.1;have HS4:=Hd hs4;have HK4:=Hd (HK3.o.trans hk4 (fun _ _ e=>e));clear hto hs4 hk4;go_wp2_with fail;go_roundg (s.size+3 - J)
    case measure=>have:=HGK.o;omega
    case rel=>exact⟨n+1,J,by go_num,rfl,by omega,hJ2,by omega,HS4.o,HK4,Hd (HN.o J HTO.o)⟩
   have f40:((c.toNat:Int)==40)=false:=aX (c:=c) (k:=40) t40;have G40:=Hd (show (c==40)=false from beq_eq_false_iff_ne.2 t40);clear t40;by_cases t41:c=41
   ·have f41:((c.toNat:Int)==41)=true:=aU (c:=c) (k:=41) t41;rcases Nat.eq_zero_or_pos n with hn0 | hn0
    ·subst hn0;have hok:res=.ok ([.mk 5 ((rest s i).take (I - i)) [] [] [] q],rest s (I+1)):=by
      rw [HRES.o];unfold vT;rw [HC.o.stop hlt (HCC.o.trans t41)];show Except.ok ([Pt.mk 5 ((rest s i).take (I - i)) [] [] [] q],(rest s i).drop (I - i+1))=_;rw [dY,show i+(I - i+1)=I+1 by omega]
     have HOK:=Hd hok;obtain⟨T,hT⟩:∃T,T=s.extract i I:=⟨_,rfl⟩;have HTL:=Hd (show T.data.toList=(rest s i).take (I - i) by rw [hT,Lib.extract_data];rfl);have HTT:=Hd hT;have p1:(i:Int)≤(I:Int):=by omega
     have p2:(I:Int)≤(s.size:Int):=by omega
     clear t41 hok hT;go_wp2_with fail;refine (bB cs s I _ _ HSI.o).mono ?_;rintro e w1 ⟨rfl,q1,rfl⟩;rw [HE.o];go_wp2_with fail;refine (aP cs s I _ _ (HSI.o.drewN _) (by omega) (by omega)).mono ?_;rintro e w2 ⟨rfl,q2,rfl⟩;rw [HCC.o];obtain⟨W3,hW3⟩:∃W3,W3=(wr.drewN q1).drewN q2:=⟨_,rfl⟩;rw [←hW3];have hs3:aD W3 cs s I ((0:Nat):Int):=by rw [hW3];exact (HSI.o.drewN _).drewN _
     have HK3:=Hd (show aB (fun b=>b=cs) w W3 by rw [hW3];exact (HK.o.drewN _).drewN _);clear hW3;obtain⟨d0,d1,d2,g1,g2⟩:=hs3.cells;have lt3:=hs3.lt;go_wp2_with fail;go_region;obtain⟨w4,hw4,hs4,hk4⟩:=fI hs3 ((I:Int)+1);have HK4:=Hd (HK3.o.trans hk4 (fun _ _ e=>e));have hB4:B≤w4.heap.size:=Nat.le_trans hB HK4.o.size;have hR4:=HR.o.keep HK4.o (fun _ _ e=>by omega);have hF:=hR4.more0 hB4 (w1:=w4.alloc (.cells #[.int .i64 5,.string T,.string ⟨#[]⟩,.string ⟨#[]⟩,.slice none 0 0,.bool q] 67)) ((aB.refl _ _).alloc _) (x:=.mk 5 T.data.toList [] [] [] q) rfl
     obtain⟨xs,hown,hF⟩:=hF;have e:e8 T.data.toList=.string T:=jM rfl;simp only [fL,Pt.kind,Pt.text,Pt.name,Pt.op,Pt.quoted,e] at hF;have HF:=Hd hF;have HS4:=Hd hs4;rw [←HL.o] at hown HF;rw [HTT.o] at HF;have HW4:=Hd hw4;rw [HTT.o,hw4] at hown;have hb2:=heap_alloc_new ((W3.setCell ⟨cs,1,none⟩ (.int .i64 ((I:Int)+1))).alloc (.cells #[.int .i64 5,.string (s.extract i I),.string ⟨#[]⟩,.string ⟨#[]⟩,.slice none 0 0,.bool q] 67)) (.cells #[.int .i64 5,.string (s.extract i I),.string ⟨#[]⟩,.string ⟨#[]⟩,.slice none 0 0,.bool q] 67)
     have hz5:((W3.setCell ⟨cs,1,none⟩ (.int .i64 ((I:Int)+1))).alloc (.cells #[.int .i64 5,.string (s.extract i I),.string ⟨#[]⟩,.string ⟨#[]⟩,.slice none 0 0,.bool q] 67)).heap.size=W3.heap.size+1:=by simp [World.setCell]
     rw [hz5] at hb2;have HB2:=Hd hb2;clear hF hs4 hk4 hw4 hR4 e hb2 hz5;go_wp2_with (at_builtin;refine wpList_append_lies _ rfl (.tmp 45) (.tmp 47) _ rfl 0 67 i0 _ 6 88 Tryz.underlying29 hi0 hz0 hz1 hz2 rfl (by omega) (.slice va L vc) L xs rfl ((hown.alloc _).drew) ⟨W3.heap.size+1,0,none⟩ 1 1 [.int .i64 5,.string (s.extract i I),.string ⟨#[]⟩,.string ⟨#[]⟩,.slice none 0 0,.bool q] rfl rfl (World.news_of_block (cs:=#[.int .i64 5,.string (s.extract i I),.string ⟨#[]⟩,.string ⟨#[]⟩,.slice none 0 0,.bool q]) (t:=67) (fr:=(0,0)) HB2.o) (by simp [Value.oneCell']) (by omega) (by unfold maxLen;omega) (by omega) (by simp) (W3.heap.size+1+1) (by simp [World.setCell]) ?_;intro gg cap w5 hown2 hgrow hat hlt2)
     go_ret;obtain rfl:=HW4.o;obtain⟨hrow,hkeep⟩:=HF.o gg cap w5 _ hown2 (rG hgrow) (by simpa [World.setCell] using hat);have htl:=HTL.o;rw [HTT.o] at htl;rw [htl] at hrow;rw [HOK.o];exact⟨_,I+1,rfl,by omega,rfl,HS4.o.keep hkeep (fun e=>by omega),hrow,by rw [bE];simp only [wtF,Pt.text];rw [List.length_take,cM];omega,(HK4.o.mono fun _ _ e=>.inl e).trans hkeep (fun _ _ e=>.inr e)⟩
    ·obtain⟨n,rfl⟩:∃m,n=m+1:=⟨n - 1,by omega⟩;have HN:=Hd (show ∀J,kZ s I J→jS s i n J from fun J hto=>by
      have e:=hto.2.2.2 (.inr (by rw [HCC.o,t41]));subst e;refine HC.o.to (by omega) ?_;rw [HRC.o,t41,show I+1 - I=1 by omega];rfl)
     have p3:(((n+1:Nat):Int)==0)=false:=by rw [beq_eq_false_iff_ne];omega
     clear t41;go_wp2_with fail;refine (bB cs s I _ _ HSI.o).mono ?_;rintro e w1 ⟨rfl,q1,rfl⟩;rw [HE.o];go_wp2_with fail;refine (aP cs s I _ _ (HSI.o.drewN _) (by omega) (by omega)).mono ?_;rintro e w2 ⟨rfl,q2,rfl⟩;rw [HCC.o];obtain⟨W3,hW3⟩:∃W3,W3=(wr.drewN q1).drewN q2:=⟨_,rfl⟩;rw [←hW3];have hs3:aD W3 cs s I ((0:Nat):Int):=by rw [hW3];exact (HSI.o.drewN _).drewN _
     have HK3:=Hd (show aB (fun b=>b=cs) w W3 by rw [hW3];exact (HK.o.drewN _).drewN _);clear hW3;go_wp2_with fail;refine (sH cs s I _ hs3 hs hlt).mono ?_;rintro e w4 ⟨rfl,J,hto,hs4,hk4⟩;have HTO:=Hd hto;have hJ1:=hto.1;have hJ2:=hto.2.1;have HS4:=Hd hs4;have HK4:=Hd (HK3.o.trans hk4 (fun _ _ e=>e));clear hto hs4 hk4;go_wp2_with fail;go_roundg (s.size+3 - J)
     case measure=>have:=HGK.o;omega
     case rel=>exact⟨n,J,by go_num,rfl,by omega,hJ2,by omega,HS4.o,HK4,Hd (HN.o J HTO.o)⟩
   have f41:((c.toNat:Int)==41)=false:=aX (c:=c) (k:=41) t41;have HN:=Hd (show ∀J,kZ s I J→jS s i n J from fun J hto=>HC.o.to hto.1 (hto.2.2.1 (by rw [HCC.o];exact G40.out) (by rw [HCC.o];exact beq_eq_false_iff_ne.2 t41) n));clear t41;go_wp2_with fail;refine (bB cs s I _ _ HSI.o).mono ?_;rintro e w1 ⟨rfl,q1,rfl⟩;rw [HE.o];go_wp2_with fail;refine (aP cs s I _ _ (HSI.o.drewN _) (by omega) (by omega)).mono ?_
   rintro e w2 ⟨rfl,q2,rfl⟩;rw [HCC.o];obtain⟨W3,hW3⟩:∃W3,W3=(wr.drewN q1).drewN q2:=⟨_,rfl⟩;rw [←hW3];have hs3:aD W3 cs s I ((0:Nat):Int):=by rw [hW3];exact (HSI.o.drewN _).drewN _
   have HK3:=Hd (show aB (fun b=>b=cs) w W3 by rw [hW3];exact (HK.o.drewN _).drewN _);clear hW3;go_wp2_with fail;refine (sH cs s I _ hs3 hs hlt).mono ?_;rintro e w4 ⟨rfl,J,hto,hs4,hk4⟩;have HTO:=Hd hto;have hJ1:=hto.1;have hJ2:=hto.2.1;have HS4:=Hd hs4;have HK4:=Hd (HK3.o.trans hk4 (fun _ _ e=>e));clear hto hs4 hk4;go_wp2_with fail;go_roundg (s.size+3 - J)
   case measure=>have:=HGK.o;omega
   case rel=>exact⟨n,J,by go_num,rfl,by omega,hJ2,by omega,HS4.o,HK4,Hd (HN.o J HTO.o)⟩
  ·have HE:=Hd (show decide (s.size≤I)=true from decide_eq_true hge);have hx:res=.error 2:=by
    rw [HRES.o];unfold vT;rw [HC.o.over hge]
   have HX:=Hd hx;clear hx;go_wp2_with fail;refine (bB cs s I _ _ HSI.o).mono ?_;rintro e w1 ⟨rfl,q1,rfl⟩;rw [HE.o];go_wp2_with fail;refine (eO cs s I 0 2 _ (HSI.o.drewN _)).mono ?_;rintro e w2 ⟨rfl,hs2,hk2⟩;have HS2:=Hd hs2;have HK2:=Hd ((HK.o.drewN q1).trans hk2 (fun _ _ e=>e));clear hs2 hk2;go_wp2_with fail;go_ret;rw [HX.o];exact⟨by decide,_,I,raw,rfl,by omega,HS2.o,by rw [HL.o];rw [HL.o] at HR;exact HR.o.keep HK2.o (fun _ _ e=>by omega),by omega,HK2.o.mono fun _ _ e=>.inl e⟩
def Qx (w:World) (B:Nat) (raw:List Pt) (e:Ending) (w':World):Prop:=
 ∃(v:Value) (n:Nat),e=.returned v∧aV w' (fun b=>B≤b) n (cT raw) v∧K0 w w'
theorem o9 (B:Nat) (v:Value) (raw:List Pt) (w:World) (h:Row w B v raw) (hB:B≤w.heap.size) (hm:wtF raw≤1000000) :
 Calls Tryz.prog 40 #[v] w (Qx w B raw):=by
 obtain⟨ho,hlow⟩:=h;obtain⟨a,c,rfl,h7,h8⟩:=ho.shape;obtain⟨vs,n,hl,hown,hnest⟩:=ho;obtain⟨i0,hi0,hz0,hz1,hz2⟩:=info_parts i9;have hc6:=dN;have hwl:=lJ raw;have HNEST:=Hd hnest;have HOWN:=Hd hown;have HLOW:=Hd hlow;clear hnest hown hlow;go_enter Tryz.func40,Tryz.ntmps40;go_wp2_with fail;go_loopw [3,4,5] (fun v' m' k' wr=>∃(k:Nat) (em:Bool),k'=.int .i64 k∧m'=.bool em∧k≤raw.length∧Hid (gT w wr (fun b=>(B≤b∧(Value.slice a raw.length c).ownBlock≠some b)) n v' (eS (raw.take k)).1)∧Hid (K0 w wr)∧Hid ((eS (raw.take k)).1=[]→em=decide (0<k))) (fun _ _ k' _=>raw.length - (intOf k').toNat)
 case atStart=>exact⟨0,false,rfl,rfl,Nat.zero_le _,Hd (gT.nil _ _ _ _),Hd (aB.refl _ _),Hd (fun _=>rfl)⟩
 case round=>
  obtain⟨k,em,rfl,rfl,hk,HO,HK,HEM⟩:=hrel;by_cases hlt:k<raw.length
  ·obtain⟨G,hG⟩:∃G,a=some ⟨G,0,none⟩:=by
    rcases HOWN.o.2 with ⟨_,h0⟩ | ⟨G,cap,cur,e,_⟩
    ·omega
    ·simp only [Value.slice.injEq] at e;exact⟨G,e.1⟩
   subst hG;have hGl:G<w.heap.size:=(HOWN.o.lt G rfl).2;obtain⟨q0,q1,q2,q3,q4,q5⟩:=Gw HOWN.o rfl hl hlt;have hcell:∀o v,w.cell? ⟨G,o,none⟩=some v→wr.cell? ⟨G,o,none⟩=some v:=fun o v hv=>(World.cell?_of_block (a:=⟨G,o,none⟩) (HK.o.block G hGl (fun x=>x))).trans hv;replace q0:=hcell _ _ q0;replace q1:=hcell _ _ q1;replace q2:=hcell _ _ q2;replace q3:=hcell _ _ q3;replace q4:=hcell _ _ q4;replace q5:=hcell _ _ q5
   have hnk:=HNEST.o k hlt (by omega);have htk:eS (raw.take (k+1))=cH (eS (raw.take k)) raw[k]:=by
    rw [List.take_succ_eq_append_getElem hlt,zN];rfl
   obtain⟨out,hout⟩:∃out,out=(eS (raw.take k)).1:=⟨_,rfl⟩;rw [←hout] at HO;have HOUT:=Hd hout;have HTK:=Hd htk;obtain⟨p,hp⟩:∃p,p=raw[k]:=⟨_,rfl⟩;obtain⟨pv,hpv⟩:∃pv,pv=vs[k]'(by omega):=⟨_,rfl⟩;rw [←hp,←hpv] at hnk;rw [←hp] at q0 q1 q2 q3 q5;rw [←hpv] at q4;obtain⟨pa,pc,hpe,_,_⟩:=hnk.shape;rw [hpe] at q4 hnk;obtain⟨pl,hpl⟩:∃pl,pl=p.word.length:=⟨_,rfl⟩;rw [←hpl] at q4 hnk;have HP:=Hd hp;have HNK:=Hd hnk
   clear hcell hout htk hp hpv hnk hpe hpl;have p1:(k:Int)<(raw.length:Int):=by omega
   obtain⟨T,hT⟩:∃T:ByteArray,T=⟨p.text.toArray⟩:=⟨_,rfl⟩;have hT2:T.data.toList=p.text:=by rw [hT]
   unfold e8 at q1 q2 q3;rw [←hT] at q1;have HT:=Hd hT2;clear hT;by_cases hE:p.isE=true
   ·have e1:p.kind=2∧p.text=[]:=by
     unfold Pt.isE at hE;simpa using hE
    have t1:((p.kind:Int)==2)=true:=by rw [e1.1];rfl
    obtain⟨t2,t3⟩:=kR (s:=T) (hT2.trans e1.2);have hst:(eS (raw.take (k+1))).1=out:=by
     rw [HTK.o,←HP.o,cH,if_pos hE,HOUT.o]
    have HST:=Hd hst;clear hE e1 hst hT2;go_wp2_with fail;go_roundw
    case rel=>exact⟨k+1,true,by go_num,rfl,by omega,Hd (by rw [HST.o];exact HO.o.alloc _),Hd (HK.o.alloc _),Hd (fun _=>(decide_eq_true (Nat.succ_pos k)).symm)⟩
    case measure=>simp [intOf];omega
   ·have e1:((p.kind:Int)==2)=false∨((p.kind:Int)==2)=true∧T.toList.isEmpty=false∧(T.toList==[])=false:=by
     by_cases h2:p.kind=2
     ·by_cases h3:p.text=[]
      ·exact absurd (by unfold Pt.isE;rw [h2,h3];rfl) hE
      ·obtain⟨t1,t2⟩:=lQ (s:=T) (by rw [hT2];exact h3);exact .inr ⟨by rw [h2];rfl,t1,t2⟩
     ·exact .inl (by rw [beq_eq_false_iff_ne];omega)
    have hst:(eS (raw.take (k+1))).1=iA out p:=by
     rw [HTK.o,←HP.o,cH,if_neg hE,HOUT.o]
    have HST:=Hd hst;have HE:=Hd hE;clear hE hst;clear hT2;have hgl:wr.heap.size<wr.heap.size+1:=by omega
    rcases HO.o.shape with ⟨rfl,ho0⟩ | ⟨l,y,go,co,ho0,rfl,hgo,hgo2,hco,hco2⟩
    ·obtain rfl:=ho0;rcases e1 with e1 | ⟨e1,e2,e3⟩
     all_goals
      go_wp2_with fail;go_quiet (fail);obtain⟨_,us,hus,hown2,_,hun⟩:=((HO.o.alloc (.cells #[.int .i64 (p.kind:Nat),.string T,.string ⟨p.name.toArray⟩,.string ⟨p.op.toArray⟩,.slice pa pl pc,.bool p.quoted] 67)).drewN nq);have HUN:=Hd hun;have HUS:=Hd hus;clear hun hus;go_wp2_with (at_builtin;refine wpList_append_lies _ rfl (.tmp 63) (.tmp 65) _ rfl 0 67 i0 _ 6 88 Tryz.underlying29 hi0 hz0 hz1 hz2 rfl (by omega) (.slice none 0 0) 0 (cL [] us) rfl (hown2.alloc _) ⟨wr.heap.size+1,0,none⟩ 1 1 [.int .i64 (p.kind:Nat),.string T,.string ⟨p.name.toArray⟩,.string ⟨p.op.toArray⟩,.slice pa pl pc,.bool p.quoted] rfl rfl (World.news_of_block (cs:=#[.int .i64 (p.kind:Nat),.string T,.string ⟨p.name.toArray⟩,.string ⟨p.op.toArray⟩,.slice pa pl pc,.bool p.quoted]) (t:=67) (fr:=(0,0)) (zL _ _ _ _)) (by simp [Value.oneCell']) (by omega) (by unfold maxLen;omega) (by omega) (by simp) (wr.heap.size+2) (by simp) ?_;intro gg cap w1 hown1 hgrow hat hlt2)
      have hgg:w.heap.size≤gg:=by
       have hws:=HK.o.size;rcases hat with hat | hat
       ·first | (cases hat;done) | (obtain rfl:=Option.some.inj hat;omega)
       ·omega
      have hk1:K0 w w1:=(((HK.o.alloc _).drewN nq).alloc _).grown hgrow (fun y hy hyl=>by cases hy);have hmore:=gT.more (w:=w) (out:=[]) (p:=p) HUS.o HUN.o HNK.o (by rw [fL,e8,←HT.o];exact hown1) hgg;have HM:=Hd hmore;have HK1:=Hd hk1;clear hmore hk1 hown1 hgrow hat;go_wp2_with fail;go_roundw
      case rel=>exact⟨k+1,em,by go_num,rfl,by omega,Hd (by rw [HST.o];exact HM.o),HK1,Hd (fun e=>by rw [HST.o] at e;simp [iA] at e)⟩
      case measure=>simp [intOf];omega
    ·subst ho0;have hlen:(l++[y]).length=l.length+1:=by simp
     have HLEN:=Hd hlen;have hll:l.length≤1000000:=by
      have h9:(l++[y]).length≤raw.length:=by rw [HOUT.o];exact Nat.le_trans (Jg _) (List.length_take_le' _ _)
      omega
     obtain⟨_,us0,hus0,hown0,_,_⟩:=HO.o;have hsix:=Gw (l:=l++[y]) (i:=l.length) (by rw [hlen] at hown0;exact hown0) (by rw [hlen]) hus0 (by rw [hlen];omega);have hye:(l++[y])[l.length]'(by rw [hlen];omega)=y:=by simp
     rw [hye] at hsix;obtain⟨r0,r1,_,_,_,_⟩:=hsix;obtain⟨TY,hTY⟩:∃TY:ByteArray,TY=⟨y.text.toArray⟩:=⟨_,rfl⟩;have hTY2:TY.data.toList=y.text:=by rw [hTY]
     unfold e8 at r1;rw [←hTY] at r1;have HTY:=Hd hTY2;have rf:=hown0;rw [hlen] at rf;have rfr:=rf.frozenAt (l.length*6+1);have HUS0:=Hd hus0;clear hTY hTY2 hown0 hye rf;have hcase:(y.joins p=false∧((((p.kind:Int)==2)=false∧((y.kind:Int)==(p.kind:Int))=false)∨(((p.kind:Int)==2)=false∧((y.kind:Int)==(p.kind:Int))=true∧((p.kind:Int)==1)=false)∨(((p.kind:Int)==2)=true∧T.toList.isEmpty=false∧(T.toList==[])=false∧((y.kind:Int)==(p.kind:Int))=false)))∨
      (y.joins p=true∧((((p.kind:Int)==2)=false∧((y.kind:Int)==(p.kind:Int))=true∧((p.kind:Int)==1)=true)∨(((p.kind:Int)==2)=true∧T.toList.isEmpty=false∧(T.toList==[])=false∧((y.kind:Int)==(p.kind:Int))=true∧((p.kind:Int)==1)=false))):=by
      have nk:∀a b:Nat,((a:Int)==(b:Int))=(a==b):=fun a b=>by
       rw [Bool.eq_iff_iff,beq_iff_eq,beq_iff_eq];omega
      have n1:((p.kind:Int)==1)=(p.kind==1):=nk p.kind 1;have n2:((p.kind:Int)==2)=(p.kind==2):=nk p.kind 2;have n3:=nk y.kind p.kind;rw [n2] at e1;rw [n1,n2,n3];unfold Pt.joins;cases a1:(y.kind==p.kind)
      ·rcases e1 with e1 | ⟨e1,e2,e3⟩
       ·exact .inl ⟨by simp,.inl ⟨e1,rfl⟩⟩
       ·exact .inl ⟨by simp,.inr (.inr ⟨e1,e2,e3,rfl⟩)⟩
      ·cases a2:(p.kind==1)
       ·rcases e1 with e1 | ⟨e1,e2,e3⟩
        ·exact .inl ⟨by rw [e1];rfl,.inr (.inl ⟨e1,rfl,rfl⟩)⟩
        ·exact .inr ⟨by rw [e1];rfl,.inr ⟨e1,e2,e3,rfl,rfl⟩⟩
       ·have e4:(p.kind==2)=false:=by
         rw [beq_iff_eq] at a2;rw [a2];rfl
        exact .inr ⟨by simp,.inl ⟨e4,rfl,rfl⟩⟩
     have hsum:¬9223372036854775807<TY.size+T.size:=by
      have w1:y.text.length≤wtF raw:=Nat.le_trans (G8 (l:=l++[y]) (by simp)) (by rw [HOUT.o];exact Nat.le_trans (Ku _) (Lz _ _));have w2:p.text.length≤wtF raw:=G8 (by rw [HP.o];exact List.getElem_mem _);rw [Lib.size_eq,Lib.size_eq,HTY.o,HT.o];omega
     clear e1;have p3:0≤(l.length:Int)+1:=by omega
     have p4:(l.length:Int)<(l.length:Int)+1:=by omega
     rcases hcase with ⟨hj,hcase⟩ | ⟨hj,hcase⟩
     ·have hst2:(eS (raw.take (k+1))).1=l++[y]++[p]:=by rw [HST.o,Ha hj]
      replace HST:=Hd hst2;clear hst2 hj;rcases hcase with ⟨e1,e2⟩ | ⟨e1,e2,e3⟩ | ⟨e1,e2,e3,e4⟩
      all_goals
       go_wp2_with fail;go_quiet (fail);obtain⟨_,us,hus,hown2,_,hun⟩:=((HO.o.alloc (.cells #[.int .i64 (p.kind:Nat),.string T,.string ⟨p.name.toArray⟩,.string ⟨p.op.toArray⟩,.slice pa pl pc,.bool p.quoted] 67)).drewN nq);have HUN:=Hd hun;have HUS:=Hd hus;clear hun hus;go_wp2_with (at_builtin;refine wpList_append_lies _ rfl (.tmp 63) (.tmp 65) _ rfl 0 67 i0 _ 6 88 Tryz.underlying29 hi0 hz0 hz1 hz2 rfl (by omega) (.slice (some ⟨go,0,none⟩) (l.length+1) co) (l.length+1) (cL (l++[y]) us) rfl (by have:=hown2.alloc (.cells #[.int .i64 (p.kind:Nat),.string T,.string ⟨p.name.toArray⟩,.string ⟨p.op.toArray⟩,.slice pa pl pc,.bool p.quoted] 67);rwa [hlen] at this) ⟨wr.heap.size+1,0,none⟩ 1 1 [.int .i64 (p.kind:Nat),.string T,.string ⟨p.name.toArray⟩,.string ⟨p.op.toArray⟩,.slice pa pl pc,.bool p.quoted] rfl rfl (World.news_of_block (cs:=#[.int .i64 (p.kind:Nat),.string T,.string ⟨p.name.toArray⟩,.string ⟨p.op.toArray⟩,.slice pa pl pc,.bool p.quoted]) (t:=67) (fr:=(0,0)) (zL _ _ _ _)) (by simp [Value.oneCell']) (by omega) (by unfold maxLen;omega) (by omega) (by simp) (wr.heap.size+2) (by simp) ?_;intro gg cap w1 hown1 hgrow hat hlt2)
       have hgg:w.heap.size≤gg:=by
        have hws:=HK.o.size;rcases hat with hat | hat
        ·first | (cases hat;done) | (obtain rfl:=Option.some.inj hat;omega)
        ·omega
       have hk1:K0 w w1:=(((HK.o.alloc _).drewN nq).alloc _).grown hgrow (fun yy hy hyl=>by have h9:go=yy:=Option.some.inj hy;omega);have hmore:=gT.more (w:=w) (out:=l++[y]) (p:=p) HUS.o HUN.o HNK.o (by rw [fL,e8,←HT.o,hlen];exact hown1) hgg;have HM:=Hd hmore;have HK1:=Hd hk1;clear hmore hk1 hown1 hgrow hat;go_wp2_with fail;go_roundw
       case rel=>exact⟨k+1,em,by go_num,rfl,by omega,Hd (by rw [HST.o];have:=HM.o;rwa [HLEN.o] at this),HK1,Hd (fun e=>by rw [HST.o] at e;simp at e)⟩
       case measure=>simp [intOf];omega
     ·have hst2:(eS (raw.take (k+1))).1=l++[y.join p]:=by rw [HST.o,Bp hj]
      replace HST:=Hd hst2;clear hst2 hj;rcases hcase with ⟨e1,e2,e3⟩ | ⟨e1,e2,e3,e4,e5⟩
      all_goals
       go_wp2_with fail;go_quiet (fail);go_wp2_with fail;go_region;go_wp2_with fail;go_roundw
       case rel=>
        refine⟨k+1,em,by go_num,rfl,by omega,Hd ?_,Hd ?_,Hd (fun e=>by rw [HST.o] at e;simp at e)⟩
        ·rw [HST.o];have hj2:=((HO.o.alloc (.cells #[.int .i64 (p.kind:Nat),.string T,.string ⟨p.name.toArray⟩,.string ⟨p.op.toArray⟩,.slice pa pl pc,.bool p.quoted] 67)).drewN (nq+1));have hj3:=gT.join (p:=p) (s:=TY++T) (c:=co) (g:=go) (l:=l) (y:=y) (by rw [HLEN.o];exact hj2) (by rw [Jo,HTY.o,HT.o]);rw [show (l++[y.join p]).length=l.length+1 by simp] at hj3;exact hj3
        ·exact ((HK.o.alloc _).drewN _).setCell _ _ (fun hlt3=>by simp only at hlt3;omega)
       case measure=>simp [intOf];omega
  ·obtain rfl:k=raw.length:=by omega
   have hfin:eS (raw.take raw.length)=eS raw:=by rw [List.take_length]
   rw [hfin] at HO HEM;have hflag:(eS raw).2=decide (0<raw.length):=Dq _;have hnl:¬(raw.length:Int)<(raw.length:Int):=by omega
   rcases HO.o.shape with ⟨rfl,ho0⟩ | ⟨l,y,go,co,ho0,rfl,hgo,hgo2,hco,hco2⟩
   ·have hem:=HEM.o ho0;rcases Nat.eq_zero_or_pos raw.length with hr0 | hr0
    ·have ht:cT raw=[]:=by unfold cT;rw [ho0,hflag,hr0];rfl
     have HT:=Hd ht;rw [hr0] at hem;have hem2:em=false:=hem;subst hem2;clear ht ho0 hflag hfin hr0 hem HEM;go_wp2_with fail;go_ret;exact⟨_,0,rfl,by rw [HT.o];exact aV.nil _ _ _,HK.o⟩
    ·have ht:cT raw=[cG []]:=by unfold cT;rw [ho0,hflag,decide_eq_true hr0];rfl
     have HT:=Hd ht;rw [decide_eq_true hr0] at hem;subst hem;clear ht ho0 hflag hfin HEM;have hnil:=World.ownsRow_nil wr 0 67 6;go_wp2_with (at_builtin;refine wpList_append_lies _ rfl (.tmp 73) (.tmp 75) _ rfl 0 67 i0 _ 6 88 Tryz.underlying29 hi0 hz0 hz1 hz2 rfl (by omega) (.slice none 0 0) 0 [] rfl (hnil.alloc _) ⟨wr.heap.size,0,none⟩ 1 1 [.int .i64 2,.string ⟨#[]⟩,.string ⟨#[]⟩,.string ⟨#[]⟩,.slice none 0 0,.bool false] rfl rfl (World.news_of_block (cs:=#[.int .i64 2,.string ⟨#[]⟩,.string ⟨#[]⟩,.string ⟨#[]⟩,.slice none 0 0,.bool false]) (t:=67) (fr:=(0,0)) (heap_alloc_new wr _)) (by simp [Value.oneCell']) (by omega) (by unfold maxLen;omega) (by omega) (by simp) (wr.heap.size+1) (by simp) ?_;intro gg cap w1 hown1 hgrow hat hlt2)
     go_ret;have hgg:w.heap.size≤gg:=by
      have hws:=HK.o.size;rcases hat with hat | hat
      ·cases hat
      ·omega
     obtain⟨n2,hn2⟩:=D7 (D:=fun b=>B≤b) (raw:=[cG []]) hown1 (fun i h=>by match i,h with | 0,_=>rfl) (fun g hg=>by obtain rfl:gg=g:=Option.some.inj hg;omega);refine⟨_,n2,rfl,by rw [HT.o];exact hn2,(HK.o.alloc _).grown hgrow (fun y hy hyl=>by cases hy)⟩
   ·have ht:cT raw=l++[y]:=by
     unfold cT;rw [ho0,show (l++[y]).isEmpty=false by cases l<;>rfl];rfl
    have HT:=Hd ht;have e1:((l.length:Int)+1==0)=false:=by rw [beq_eq_false_iff_ne];omega
    have hO2:=HO.o;rw [ho0] at hO2;have HO2:=Hd hO2;clear ht hflag hfin ho0 hO2 HEM;go_wp2_with fail;go_ret;refine⟨_,n+1,rfl,?_,HK.o⟩;rw [HT.o];exact HO2.o.reads HK.o (fun x hx=>hx.1) (fun x hx=>by omega)
def rT (wh:Bool) (d:Nat) (q:Bool):Nat→List UInt8→Res
 | 0,_=>.error 0
 | n+1,r=>match r with
  | []=>.ok ([],[])
  | c::_=>if decide (0<d) && c==125 || !wh && decide (d=0) && bJ c then .ok ([],r) else match cS (.one q) d r with
   | .error e=>.error e
   | .ok (l,r1)=>(rT wh d q n r1).ahead l
theorem Fo (wh:Bool) (d:Nat) (q:Bool):∀(n m:Nat) (r:List UInt8),r.length<n→r.length<m→rT wh d q n r=rT wh d q m r:=by
 intro n;induction n with
 | zero=>intro m r hn;omega
 | succ n ih=>
  intro m r hn hm;cases m with
  | zero=>omega
  | succ m=>
   unfold rT;cases r with
   | nil=>rfl
   | cons c t=>
    dsimp only;split
    ·rfl
    ·cases h:cS (.one q) d (c::t) with
     | error e=>rfl
     | ok x=>
      obtain⟨l,r1⟩:=x;have hl:=dV _ _ _ _ _ _ h;simp only [Md.least,lC] at hl hn hm;dsimp only;rw [ih m r1 (by omega) (by omega)]
def fX (wh:Bool) (d:Nat) (q:Bool) (r:List UInt8):Res:=rT wh d q (r.length+1) r
theorem p8 (wh:Bool) (d:Nat) (q:Bool):fX wh d q []=.ok ([],[]):=rfl
theorem lF (wh:Bool) (d:Nat) (q:Bool) (c:UInt8) (t:List UInt8):fX wh d q (c::t)=if decide (0<d) && c==125 || !wh && decide (d=0) && bJ c then .ok ([],c::t) else match cS (.one q) d (c::t) with
 | .error e=>.error e
 | .ok (l,r1)=>(fX wh d q r1).ahead l:=by
 unfold fX;rw [rT];split
 ·rfl
 ·cases h:cS (.one q) d (c::t) with
  | error e=>rfl
  | ok x=>
   obtain⟨l,r1⟩:=x;have hl:=dV _ _ _ _ _ _ h;simp only [Md.least,lC] at hl;dsimp only;rw [Fo wh d q (c::t).length (r1.length+1) r1 (by simp only [lC];omega) (by omega)]
theorem tJ (wh:Bool):∀(k:Nat) (r:List UInt8),r.length≤k→fX wh 0 false r=oB wh r
 | _,[],_=>rfl
 | 0,c::t,h=>by simp at h
 | k+1,c::t,h=>by
  rw [lF,kN];have e:(decide (0<0) && c==125 || !wh && decide (0=0) && bJ c)=(!wh && bJ c):=by simp
  rw [e];split
  ·rfl
  ·cases h2:cS (.one false) 0 (c::t) with
   | error e=>rfl
   | ok x=>
    obtain⟨l,r1⟩:=x;have hl:=dV _ _ _ _ _ _ h2;simp only [Md.least,lC] at hl h;dsimp only;rw [tJ wh k r1 (by omega)]
theorem Gp (d:Nat) (q:Bool) (hd:0<d):∀(k:Nat) (r:List UInt8),r.length≤k→(cS (.br q) d r=match fX true d q r with
 | .error e=>.error e
 | .ok (l,r1)=>(match r1 with | []=>.error 2 | _::t=>.ok (l,t)))∧∀l c t,fX true d q r=.ok (l,c::t)→c=125
 | _,[],_=>⟨by rw [uF,p8],fun l c t h=>by rw [p8] at h;cases h⟩
 | 0,c::t,h=>by simp at h
 | k+1,c::t,h=>by
  rw [uF,lF];have e:(decide (0<d) && c==125 || !true && decide (d=0) && bJ c)=(c==125):=by rw [decide_eq_true hd];simp
  rw [e];dsimp only;by_cases hc:(c==125)=true
  ·rw [if_pos hc,if_pos hc];exact⟨rfl,fun l c' t' h=>by
    obtain⟨_,h2⟩:=Prod.mk.inj (Except.ok.inj h);obtain⟨rfl,_⟩:=List.cons.inj h2;exact beq_iff_eq.1 hc⟩
  ·rw [if_neg hc,if_neg hc];cases h2:cS (.one q) d (c::t) with
   | error e=>exact⟨rfl,fun l c' t' h=>by cases h⟩
   | ok x=>
    obtain⟨l,r1⟩:=x;have hl:=dV _ _ _ _ _ _ h2;simp only [Md.least,lC] at hl h;obtain⟨i1,i2⟩:=Gp d q hd k r1 (by omega);dsimp only;rw [i1];refine⟨?_,fun l' c' t' h3=>?_⟩
    ·cases h4:fX true d q r1 with
     | error e=>rfl
     | ok y=>
      obtain⟨l4,r4⟩:=y;dsimp only;cases r4 with
      | nil=>rfl
      | cons c4 t4=>rfl
    ·obtain⟨m',h5,_⟩:=eL h3;exact i2 _ _ _ h5
def F4 (w:World) (cs:Nat) (s:ByteArray) (d:Nat) (res:Res) (e:Ending) (w':World):Prop:=
 match res with
 | .ok (l,r)=>∃(v:Value) (n i:Nat),e=.returned v∧i≤s.size∧rest s i=r∧aD w' cs s i ((0:Nat):Int)∧aV w' (fun b=>w.heap.size≤b) n (cT l) v∧aB (fun b=>b=cs) w w'
 | .error x=>x≠0∧∃(v:Value) (n i:Nat) (l:List Pt),e=.returned v∧i≤s.size+(101 - d)∧aD w' cs s i (x:Int)∧aV w' (fun b=>w.heap.size≤b) n l v∧aB (fun b=>b=cs) w w'
def Dn (N:Nat):Prop:=∀(cs:Nat) (s:ByteArray) (I d:Nat) (wh q:Bool) (w:World),aD w cs s I ((0:Nat):Int)→I≤s.size→s.size≤20000→d≤40→cs<w.heap.size→s.size - I<N→
 Calls Tryz.prog 24 #[.pointer (some ⟨cs,0,none⟩),.bool wh,.int .i64 d,.bool q] w (F4 w cs s d (fX wh d q (rest s I)))
def zY (N:Nat):Prop:=∀(B cs:Nat) (s:ByteArray) (I d:Nat) (q:Bool) (v:Value) (raw:List Pt) (w:World),aD w cs s I ((0:Nat):Int)→I≤s.size→s.size≤20000→d≤40→Row w B v raw→cs<B→B≤w.heap.size→wtF raw+2≤2*I→s.size - I<N→
 Calls Tryz.prog 71 #[.pointer (some ⟨cs,0,none⟩),v,.int .i64 d,.bool q] w (nU w B cs s (100 - d) raw (cS (.brace q) d (rest s I)))
def Mb (N:Nat):Prop:=∀(B cs:Nat) (s:ByteArray) (I d:Nat) (q:Bool) (v:Value) (raw:List Pt) (w:World),aD w cs s I ((0:Nat):Int)→I<s.size→s.size≤20000→d≤40→Row w B v raw→cs<B→B≤w.heap.size→wtF raw≤2*I→s.size - I≤N→
 Calls Tryz.prog 45 #[.pointer (some ⟨cs,0,none⟩),v,.int .i64 d,.bool q] w (nU w B cs s (100 - d) raw (cS (.dol q) d (rest s (I+1))))
def O7 (N:Nat):Prop:=∀(B cs:Nat) (s:ByteArray) (I d:Nat) (v:Value) (raw:List Pt) (w:World),aD w cs s I ((0:Nat):Int)→I<s.size→s.size≤20000→d≤40→Row w B v raw→cs<B→B≤w.heap.size→wtF raw≤2*I→s.size - I≤N→
 Calls Tryz.prog 42 #[.pointer (some ⟨cs,0,none⟩),v,.int .i64 d] w (nU w B cs s (100 - d) raw (cS (.one true) d (rest s I)))
end Go.Proofs.YtiihpbccabeoeaaGreatDoor
