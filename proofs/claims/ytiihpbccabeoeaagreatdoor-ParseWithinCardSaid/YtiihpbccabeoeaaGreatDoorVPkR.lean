/- The walk: a part. -/
import Derived.Test.YtiihpbccabeoeaaGreatDoorVM
import Derived.Test.YtiihpbccabeoeaaGreatDoorVPkD
import Derived.StillTailTactics
import Derived.Test.YtiihpbccabeoeaaGreatDoorVPkB
namespace Go.Proofs.YtiihpbccabeoeaaGreatDoor
open Go.RowKit
set_option linter.unusedVariables false
set_option maxRecDepth 100000
set_option maxHeartbeats 16000000
theorem uY (b:Nat) (s:ByteArray) (i k:Nat) (d:Int) (w:World) (h:ah w b s i d) (hs:s.size≤140737488351232) (hi:i≤140737488351232) (hk:k≤140737488351232) :
 Calls Tryz.prog 39 #[.pointer (some ⟨b,0,none⟩),k] w λ e w'=>e=.returned (.int .u8 (au s (i+k)).toNat)∧oA w w':=by
 obtain⟨c0,c1,_,_,_⟩:=h.cells;by_cases aW:i+k<s.size
 ·have e:=gI aW;generalize au s (i+k)=x at e;have E:=Hd e;clear e;have ew:IntKind.i64.wrap ((i:Int)+(k:Int))=(i:Int)+(k:Int):=nL _ oM;have e0:0≤(i:Int)+(k:Int):=oM
  have e1:(i:Int)+(k:Int)<(s.size:Int):=oM
  have e2:((i:Int)+(k:Int)).toNat=i+k:=oM
  go_enter Tryz.func39,Tryz.ntmps39;exact P0
 ·have e:au s (i+k)=0:=by
   unfold au;exact vy
  rw [e];clear e;have ew:IntKind.i64.wrap ((i:Int)+(k:Int))=(i:Int)+(k:Int):=nL _ oM;have e1:¬(i:Int)+(k:Int)<(s.size:Int):=oM
  go_enter Tryz.func39,Tryz.ntmps39;exact KS
theorem aR (b:Nat) (s:ByteArray) (i:Nat) (d:Int) (w:World) (h:ah w b s i d) (hs:s.size≤140737488351232) (hi:i≤140737488351232) :
 Calls Tryz.prog 39 #[.pointer (some ⟨b,0,none⟩),.int .i64 0] w λ e w'=>e=.returned (.int .u8 (au s i).toNat)∧oA w w':=uY b s i 0 d w h hs hi oM
theorem b9 (b:Nat) (s:ByteArray) (i:Nat) (d:Int) (w:World) (h:ah w b s i d) (hs:s.size≤140737488351232) (hi:i≤140737488351232) :
 Calls Tryz.prog 39 #[.pointer (some ⟨b,0,none⟩),.int .i64 1] w λ e w'=>e=.returned (.int .u8 (au s (i+1)).toNat)∧oA w w':=uY b s i 1 d w h hs hi oM
theorem bk (b:Nat) (s:ByteArray) (i:Nat) (d:Int) (w:World) (h:ah w b s i d) :
 Calls Tryz.prog 38 #[.pointer (some ⟨b,0,none⟩)] w λ e w'=>e=.returned (.bool (decide (s.size≤i)))∧oA w w':=by
 obtain⟨c0,c1,_,_,_⟩:=h.cells;go_enter Tryz.func38,Tryz.ntmps38;exact QG
theorem fl (b:Nat) (s:ByteArray) (i:Nat) (d x:Nat) (w:World) (h:ah w b s i (d:Int)) :
 Calls Tryz.prog 43 #[.pointer (some ⟨b,0,none⟩),x] w λ e w'=>e=.returned (.tuple #[])∧ah w' b s i ((if d=0 then x else d:Nat):Int)∧ae (λ k=>k=b) w w':=by
 obtain⟨c0,c1,c2,f1,f2⟩:=h.cells;by_cases hd:d=0
 ·subst hd;rw [nE rfl];go_enter Tryz.func43,Tryz.ntmps43;go_wp2_with fail;go_end0;exact⟨rfl,h.set2 _,(ae.refl _ _).setCell _ _ λ_=>rfl⟩
 ·rw [nF hd];have t:((d:Int)==0)=false:=by rw [nA];omega
  clear hd;go_enter Tryz.func43,Tryz.ntmps43;go_wp2_with fail;go_end0;exact⟨rfl,h,ae.refl _ _⟩
theorem DD (c:UInt8) (w:World) :
 Calls Tryz.prog 41 #[.int .u8 (c.toNat:Nat)] w λ e w'=>e=.returned (.bool (bY c))∧w=w':=by
 obtain⟨r,hr⟩:∃r,r=bY c:=⟨_,rfl⟩;rw [←hr];have HR:=Hd hr;clear hr;by_cases Gf:c=32
 ·have YP:((c.toNat:Int)==32)=true:=aE (c:=c) (k:=32) Gf;have HT:=Hd (show bY c=true by rw [Gf];decide);clear Gf;exact vz
 have YP:((c.toNat:Int)==32)=false:=aw (c:=c) (k:=32) Gf;have G32:=Hd (show (c==32)=false from nA.2 Gf);clear Gf;by_cases t9:c=9
 ·have f9:((c.toNat:Int)==9)=true:=aE (c:=c) (k:=9) t9;have HT:=Hd (show bY c=true by rw [t9];decide);clear t9;exact vz
 have f9:((c.toNat:Int)==9)=false:=aw (c:=c) (k:=9) t9;have G9:=Hd (show (c==9)=false from nA.2 t9);clear t9;by_cases oz:c=10
 ·have WV:((c.toNat:Int)==10)=true:=aE (c:=c) (k:=10) oz;have HT:=Hd (show bY c=true by rw [oz];decide);clear oz;exact vz
 have WV:((c.toNat:Int)==10)=false:=aw (c:=c) (k:=10) oz;have RW:=Hd (show (c==10)=false from nA.2 oz);clear oz;by_cases U3:c=59
 ·have f59:((c.toNat:Int)==59)=true:=aE (c:=c) (k:=59) U3;have HT:=Hd (show bY c=true by rw [U3];decide);clear U3;exact vz
 have f59:((c.toNat:Int)==59)=false:=aw (c:=c) (k:=59) U3;have G59:=Hd (show (c==59)=false from nA.2 U3);clear U3;by_cases Gg:c=38
 ·have f38:((c.toNat:Int)==38)=true:=aE (c:=c) (k:=38) Gg;have HT:=Hd (show bY c=true by rw [Gg];decide);clear Gg;exact vz
 have f38:((c.toNat:Int)==38)=false:=aw (c:=c) (k:=38) Gg;have G38:=Hd (show (c==38)=false from nA.2 Gg);clear Gg;by_cases IM:c=124
 ·have aaS:((c.toNat:Int)==124)=true:=aE (c:=c) (k:=124) IM;have HT:=Hd (show bY c=true by rw [IM];decide);clear IM;exact vz
 have aaS:((c.toNat:Int)==124)=false:=aw (c:=c) (k:=124) IM;have Zv:=Hd (show (c==124)=false from nA.2 IM);clear IM;by_cases qU:c=40
 ·have Te:((c.toNat:Int)==40)=true:=aE (c:=c) (k:=40) qU;have HT:=Hd (show bY c=true by rw [qU];decide);clear qU;exact vz
 have Te:((c.toNat:Int)==40)=false:=aw (c:=c) (k:=40) qU;have Vb:=Hd (show (c==40)=false from nA.2 qU);clear qU;by_cases u9:c=41
 ·have UD:((c.toNat:Int)==41)=true:=aE (c:=c) (k:=41) u9;have HT:=Hd (show bY c=true by rw [u9];decide);clear u9;exact vz
 have UD:((c.toNat:Int)==41)=false:=aw (c:=c) (k:=41) u9;have G41:=Hd (show (c==41)=false from nA.2 u9);clear u9;by_cases U4:c=60
 ·have f60:((c.toNat:Int)==60)=true:=aE (c:=c) (k:=60) U4;have HT:=Hd (show bY c=true by rw [U4];decide);clear U4;exact vz
 have f60:((c.toNat:Int)==60)=false:=aw (c:=c) (k:=60) U4;have G60:=Hd (show (c==60)=false from nA.2 U4);clear U4;by_cases U5:c=62
 ·have f62:((c.toNat:Int)==62)=true:=aE (c:=c) (k:=62) U5;have HT:=Hd (show bY c=true by rw [U5];decide);clear U5;exact vz
 have f62:((c.toNat:Int)==62)=false:=aw (c:=c) (k:=62) U5;have G62:=Hd (show (c==62)=false from nA.2 U5);clear U5;have HT:=Hd (show bY c=false by unfold bY;rw [G32.out,G9.out,RW.out,G59.out,G38.out,Zv.out,Vb.out,G41.out,G60.out,G62.out];rfl);exact vz
theorem ep (c:UInt8) (w:World):Calls Tryz.prog 70 #[.int .u8 (c.toNat:Nat)] w λ e w'=>e=.returned (.bool (bR c))∧w'=w:=(qO c w).mono λ e w' h=>⟨h.1,h.2.symm⟩
def tu (w:World) (B:Nat) (v:Value) (raw:List Pt):Prop:=ey w (λ b=>B≤b) v raw∧∀g,v.ownBlock=some g→B≤g
theorem tu.nil (w:World) (B:Nat):tu w B (.slice none 0 0) []:=⟨ey.nil _ _,λ g hg=>by cases hg⟩
theorem tu.keep {w w':World} {B:Nat} {v:Value} {raw:List Pt} {S:Nat→Prop} (h:tu w B v raw) (hk:ae S w w') (hS:∀b,b<w.heap.size→S b→b<B):tu w' B v raw:=
 ⟨h.1.keep hk (λ b hb hB s=>by have:=hS b hb s;omega) (λ g hg s=>by have:=hS g (h.1.lt hg) s;have:=h.2 g hg;omega),h.2⟩
theorem tu.shape {w:World} {B:Nat} {v:Value} {raw:List Pt} (h:tu w B v raw):∃a c,v=.slice a raw.length c∧raw.length≤c∧c≤maxLen:=h.1.shape
theorem tu.more {w w1:World} {B n:Nat} {v:Value} {raw:List Pt} {x:Pt} {wv:Value} (h:tu w B v raw) (hB:B≤w.heap.size) (hk:K0 w w1) (hx:az w1 (λ b=>B≤b∧v.ownBlock≠some b) n x.word wv) :
 ∃xs,w1.ownsRow 0 67 6 v raw.length xs∧∀(g aC:Nat) (w2:World) (o:Obj),w2.ownsRow 0 67 6 (.slice (some ⟨g,0,none⟩) (raw.length+1) aC) (raw.length+1) (xs++cH x wv)→(w1.alloc o).grownBy w2 v.ownBlock→(v.ownBlock=some g∨g=w1.heap.size+1)→
  tu w2 B (.slice (some ⟨g,0,none⟩) (raw.length+1) aC) (raw++[x])∧ae (λ b=>B≤b) w w2:=by
 have hm:=h.keep hk (λ_ _ s=>s.elim);obtain⟨⟨vs,m,hl,ho,hn⟩,hv⟩:=hm;refine⟨_,ho,λ g aC w2 o aU hg bf=>?_⟩;have k:ae (λ b=>v.ownBlock=some b) w1 w2:=((ae.refl _ w1).alloc o).grown hg λ k hk _=>hk;have hgB:B≤g:=by
  have:=hk.size;rcases bf with e | e
  ·exact hv _ e
  ·omega
 refine⟨⟨⟨vs++[wv],max n m,by simp [hl],?_,λ i hi ri=>?_⟩,λ y hy=>(by obtain rfl:g=y:=nD hy;exact hgB)⟩,(hk.mono λ_ _ s=>s.elim).trans k λ b hb e=>hv _ e⟩
 ·exact KD
 ·have gC:∀(k:Nat) (l:List Pt) (u:Value),az w1 (λ b=>B≤b∧v.ownBlock≠some b) k l u→az w2 (λ b=>B≤b∧(Value.slice (some ⟨g,0,none⟩) (raw.length+1) aC).ownBlock≠some b) k l u:=λ kk l u hh=>by
   have h2:az w1 (λ b=>(B≤b∧v.ownBlock≠some b)∧b<w1.heap.size) kk l u:=hh.mono λ b hb hd=>⟨hd,hb⟩;refine (h2.keep k (λ b _ hd s=>hd.1.2 s)).mono λ b _ hd=>⟨hd.1.1,λ e=>?_⟩;obtain rfl:g=b:=nD e;rcases bf with h3 | h3
   ·exact hd.1.2 h3
   ·have:=hd.2;omega
  by_cases fm:i<raw.length
  ·rw [uA fm,uA oM];exact (gC _ _ _ (hn i fm oM)).le oM
  ·have hi3:i=raw.length:=by simp at hi;omega
   subst hi3;exact PO
theorem tu.more0 {w:World} {B:Nat} {v:Value} {raw:List Pt} {x:Pt} (h:tu w B v raw) (hB:B≤w.heap.size) {w1:World} (hk:K0 w w1) (hx:x.word=[]) :
 ∃xs,w1.ownsRow 0 67 6 v raw.length xs∧∀(g aC:Nat) (w2:World) (o:Obj),w2.ownsRow 0 67 6 (.slice (some ⟨g,0,none⟩) (raw.length+1) aC) (raw.length+1) (xs++cH x (.slice none 0 0))→(w1.alloc o).grownBy w2 v.ownBlock→(v.ownBlock=some g∨g=w1.heap.size+1)→
  tu w2 B (.slice (some ⟨g,0,none⟩) (raw.length+1) aC) (raw++[x])∧ae (λ b=>B≤b) w w2:=
 h.more hB hk (n:=0) (by rw [hx];exact az.nil _ _ 0)
def VS (w:World) (B:Nat) (raw:List Pt) (x:Pt) (e:Ending) (w':World):Prop:=
 ∃v,e=.returned v∧tu w' B v (raw++[x])∧ae (λ b=>B≤b) w w'
theorem iX (B kd:Nat) (T:ByteArray) (v:Value) (raw:List Pt) (w:World) (h:tu w B v raw) (hB:B≤w.heap.size) (hl:raw.length≤1000000) (hk:kd=2∨kd=1∧T.data.toList≠[]) :
 Calls Tryz.prog 44 #[v,.agg #[kd,T,eS,eS,(),false]] w (VS w B raw (.mk kd T.data.toList [] [] [] false)):=by
 obtain⟨va,vc,rfl,_,_⟩:=h.shape;obtain⟨i0,fo,fC,fp,fq⟩:=info_parts ef;have yT:=bW;obtain⟨xs,aU,hF⟩:=h.more0 hB (w1:=w.alloc (.cells #[kd,T,eS,eS,(),false] 67)) ((ae.refl _ _).alloc _) (x:=.mk kd T.data.toList [] [] [] false) rfl;have e:dj T.data.toList=.string T:=jH rfl;simp only [cH,Pt.kind,Pt.text,Pt.name,Pt.op,Pt.quoted,e] at hF
 have HF:=Hd hF;have t1:((kd:Int)==1)=false∨((kd:Int)==1)=true∧T.toList.isEmpty=false∧(T.toList==[])=false:=by
  rcases hk with rfl | ⟨rfl,h⟩
  ·exact .inl rfl
  ·obtain⟨a,b⟩:=fd h;exact .inr ⟨rfl,a,b⟩
 obtain⟨L,hL⟩:∃L,L=raw.length:=⟨_,rfl⟩;rw [←hL] at HF aU hl ⊢;clear hF hk h e hL;rcases t1 with t1 | ⟨t1,t2,t3⟩
 all_goals
  go_enter Tryz.func44,Tryz.ntmps44;go_wp2_with (at_builtin;refine nR _ rfl (.tmp 14) (.tmp 16) _ rfl 0 67 i0 _ 6 88 Tryz.underlying29 fo fC fp fq rfl oM (.slice va L vc) L xs rfl (aU.alloc _) ⟨w.heap.size+1,0,none⟩ 1 1 [kd,T,eS,eS,(),false] rfl rfl (nK (cs:=#[.int .i64 kd,.string T,.string ⟨#[]⟩,.string ⟨#[]⟩,.slice none 0 0,.bool false]) (t:=67) (fr:=(0,0)) (by have h:=nG (w.alloc (.cells #[kd,T,eS,eS,(),false] 67)) (.cells #[kd,T,eS,eS,(),false] 67);simpa using h)) oC oM uM oM sI (w.heap.size+1+1) sI ?_;intro gg aC w5 aK ao bf eC)
  go_ret;obtain⟨a,b⟩:=HF.o gg aC w5 _ aK ao (by simpa using bf);exact⟨_,rfl,a,b⟩
theorem ue:∀(p r:List UInt8),aI p r=(decide (p.length≤r.length) && r.take p.length==p)
 | [],r=>by simp [aI]
 | a::p,[]=>by simp [aI]
 | a::p,b::r=>by
  unfold aI;rw [ue p r];simp only [lC,List.take_succ_cons];rw [Bool.eq_iff_iff];simp only [nW,nH,decide_eq_true_eq,List.cons.injEq,Nat.add_le_add_iff_right];constructor
  ·rintro⟨rfl,h1,h2⟩;exact⟨h1,rfl,h2⟩
  ·rintro⟨h1,rfl,h2⟩;exact⟨rfl,h1,h2⟩
theorem mR (s p:ByteArray) (w:World) (hs:s.size≤140737488351232) :
 Calls Tryz.prog 61 #[s,p] w λ e w'=>e=.returned (.bool (aI p.data.toList s.data.toList))∧w'=w:=by
 obtain⟨r,hr⟩:∃r,r=aI p.data.toList s.data.toList:=⟨_,rfl⟩;rw [←hr];rw [ue,←nT,←nT] at hr;have HR:=Hd hr;clear hr;by_cases hl:p.size≤s.size
 ·have e1:(p.size:Int)≤(s.size:Int):=oM
  go_enter Tryz.func61,Tryz.ntmps61;go_wp2_with fail;go_ret;refine⟨sh ?_,rfl⟩;rw [HR.o,nU hl,Bool.true_and,Lib.toList_data,Lib.toList_data,Lib.extract_data];simp
 ·have e1:¬(p.size:Int)≤(s.size:Int):=oM
  go_enter Tryz.func61,Tryz.ntmps61;go_wp2_with fail;go_ret;refine⟨sh ?_,rfl⟩;rw [HR.o,nV hl];rfl
def RAt (l:List UInt8) (c:UInt8) (e:Ending):Prop:=∃r:Int,e=.returned (.int .i64 r)∧decide (0≤r)=l.contains c
theorem O2 (s:ByteArray) (c:UInt8) (w:World) (hs:s.size≤140737488351232) :
 Calls Tryz.prog 37 #[s,.int .u8 (c.toNat:Nat)] w λ e w'=>RAt s.data.toList c e∧w'=w:=by
 go_enter Tryz.func37,Tryz.ntmps37;go_wp2_with fail;go_loopw [5] (λ k' wr=>∃k:Nat,k'=.int .i64 k∧k≤s.size∧Hid (∀j,j<k→au s j≠c)∧wr=w) (λ k' _=>s.size - (intOf k').toNat)
 case atStart=>exact⟨0,rfl,nB _,Hd (λ j hj=>nQ hj (uC _)),rfl⟩
 case round=>
  obtain⟨k,rfl,hk,HL,rfl⟩:=hrel;rcases nP k s.size with aW | lv
  ·have p1:(k:Int)<(s.size:Int):=oM
   have hb:=gI aW;obtain⟨x,hx⟩:∃x,x=au s k:=⟨_,rfl⟩;rw [←hx] at hb;have HX:=Hd hx;clear hx;by_cases t:x=c
   ·have f:((x.toNat:Int)==(c.toNat:Int))=true:=aE t;have HT:=Hd t;clear t;go_wp2_with fail;go_ret;refine⟨⟨_,rfl,?_⟩,rfl⟩;have hm:s.data.toList.contains c=true:=by
     rw [List.contains_iff_mem];have h:=oJ aW;have h2:s[k]=c:=by rw [gI aW,←HX.o,HT.o]
     rw [h2] at h;exact List.mem_of_getElem? h
    rw [hm];exact nU oM
   ·have f:((x.toNat:Int)==(c.toNat:Int))=false:=aw t;have HT:=Hd t;clear t;go_wp2_with fail;go_roundw
    case rel=>exact⟨k+1,by go_num,oM,Hd (λ j hj=>by
     rcases nP j k with h | h
     ·exact HL.o j h
     ·obtain rfl:j=k:=oM
      rw [←HX.o];exact HT.o),trivial⟩
    case measure=>simp [intOf];omega
  ·obtain rfl:k=s.size:=oM
   have p1:¬(s.size:Int)<(s.size:Int):=oM
   go_wp2_with fail;go_ret;refine⟨⟨_,rfl,?_⟩,rfl⟩;have hm:s.data.toList.contains c=false:=by
    rw [Bool.eq_false_iff];intro h;rw [List.contains_iff_mem] at h;obtain⟨j,hj⟩:=List.mem_iff_getElem?.1 h;have h2:=HL.o j (by rw [nT];exact (List.getElem?_eq_some_iff.1 hj).1);apply h2;unfold au;rw [List.getD_eq_getElem?_getD,hj];rfl
   rw [hm];rfl
theorem xd (s:ByteArray) (w:World) (hs:s.size≤140737488351232) :
 Calls Tryz.prog 23 #[s] w λ e w'=>e=.returned (.int .i64 (jp s.data.toList:Nat))∧w'=w:=by
 obtain⟨r,hr⟩:∃r,r=jp s.data.toList:=⟨_,rfl⟩;rw [←hr];unfold jp at hr;rw [←nT] at hr;by_cases h1:16384<s.size
 ·rw [nE h1] at hr;have YS:(16384:Int)<(s.size:Int):=oM
  clear h1;subst hr;go_enter Tryz.func23,Tryz.ntmps23;exact xY
 ·rw [nF h1] at hr;have YS:¬(16384:Int)<(s.size:Int):=oM
  have HR:=Hd hr;clear h1 hr;go_enter Tryz.func23,Tryz.ntmps23;go_wp2_with fail;refine (O2 s 0 w hs).mono ?_;rintro e w1 ⟨⟨x,rfl,hx⟩,rfl⟩;cases hc:s.data.toList.contains 0 with
  | true=>
   rw [hc] at hx;have h2:0≤x:=of_decide_eq_true hx;have hrr:r=2:=by rw [HR.o,hc];rfl
   clear hx hc;subst hrr;exact xY
  | false=>
   rw [hc] at hx;have h2:¬0≤x:=of_decide_eq_false hx;have hrr:r=0:=by rw [HR.o,hc];rfl
   clear hx hc;subst hrr;exact xY
def NK (w:World) (b:Nat) (s:ByteArray) (i:Nat) (d:Int) (o:List UInt8) (e:Ending) (w':World):Prop:=
 ∃r:ByteArray,e=.returned (.string r)∧r.data.toList=o∧ah w' b s i d∧K0 w w'
theorem F9 (b:Nat) (s:ByteArray) (i:Nat) (d:Int) (w:World) (h:ah w b s i d) (hs:s.size≤140737488351232) :
 Calls Tryz.prog 104 #[.pointer (some ⟨b,0,none⟩)] w (NK w b s i d (lF (rest s i))):=by
 have lb:=h.lt;go_enter Tryz.func104,Tryz.ntmps104;go_wp2_with fail;obtain⟨w1,dM⟩:∃w1,w1=w.alloc (.cells #[.string ⟨#[58,45]⟩,.string ⟨#[58,61]⟩,.string ⟨#[58,63]⟩,.string ⟨#[58,43]⟩,.string ⟨#[37,37]⟩,.string ⟨#[35,35]⟩,.string ⟨#[45]⟩,.string ⟨#[61]⟩,.string ⟨#[63]⟩,.string ⟨#[43]⟩,.string ⟨#[37]⟩,.string ⟨#[35]⟩] 9):=⟨_,rfl⟩;rw [←dM];have eY:ah w1 b s i d:=by rw [dM];exact h.alloc _
 have pS:K0 w w1:=by rw [dM];exact (ae.refl _ _).alloc _
 have vP:w1.heap[w.heap.size]? = some (.cells U0 9 (0,0)):=by rw [dM];exact nG w _
 obtain⟨B,hB⟩:∃B,B=w.heap.size:=⟨_,rfl⟩;rw [←hB] at vP;rw [←hB];have HB:=Hd vP;have rt:=Hd pS;clear dM vP pS hB lb h;go_loopw [4] (λ k' wr=>∃k:Nat,k'=.int .i64 k∧k≤12∧Hid (ah wr b s i d∧wr.heap[B]? = some (.cells U0 9 (0,0))∧K0 w wr)∧Hid (∀j,j<k→aI (it.getD j []) (rest s i)=false)) (λ k' _=>12 - (intOf k').toNat)
 case atStart=>exact⟨0,rfl,oM,Hd ⟨eY,HB.o,rt.o⟩,Hd (λ j hj=>nQ hj (uC _))⟩
 case round=>
  obtain⟨k,rfl,hk,HW,HN⟩:=hrel;obtain⟨RH,hbw,aZ⟩:=HW.o;have aa1:=(Array.getElem?_eq_some_iff.1 hbw).1;have Pi:=Hd (show ∀n,ah (wr.drewN n) b s i d∧(wr.drewN n).heap[B]? = some (.cells U0 9 (0,0))∧K0 w (wr.drewN n) from λ n=>⟨RH.drewN n,(((ae.refl (λ_=>False) wr).drewN n).block B aa1 (λ h=>h)).trans hbw,aZ.drewN n⟩);clear hbw aZ;by_cases aW:k<12
  ·have hc:wr.cell? ⟨B,k,none⟩=some (dj (it.getD k [])):=by
    rw [cell_of_row wr B k _ _ _ HW.o.2.1];exact Mh k aW
   have bS:=F0 k aW;have p1:(k:Int)<12:=oM
   unfold dj at hc;obtain⟨c0,c1,_,_,_⟩:=RH.cells;rcases nP i s.size with hi | hi
   ·have he:decide (s.size≤i)=false:=nV oM;have HE:=Hd he;have p3:(i:Int)≤(s.size:Int):=oM
    have acF:(s.extract i s.size).size≤s.size:=by rw [ByteArray.size_extract];omega
    obtain⟨R,hR⟩:∃R,R=s.extract i s.size:=⟨_,rfl⟩;have FK:R.data.toList=rest s i:=by rw [hR,Lib.extract_to_end];rfl
    have hRz:R.size≤s.size:=by rw [nT,FK,aO];omega
    have su:=Hd hR;have gG:=Hd FK;clear he hR FK;cases e9:aI (it.getD k []) (rest s i)
    ·have HS:=Hd e9;clear e9;have hn2:=oT HN.o HS.o;have Sj:=Hd hn2;clear hn2;generalize it.getD k []=t at hc HS bS;obtain⟨T,hT⟩:∃T:ByteArray,T=⟨t.toArray⟩:=⟨_,rfl⟩;have kQ:=Hd (show aI T.data.toList (s.extract i s.size).data.toList=false by rw [←su.o,gG.o,hT];exact HS.o);rw [←hT] at hc;clear hT;go_wp2_with fail;go_quiet ((first | (go_at_call 38;exact Calls.quiet_of ((bk b s i d _ (RH.drewN _)).mono (λ e w' hh=>by rw [HE.o] at hh;exact hh))) | (go_at_call 61;exact nX ((mR _ _ _ oM).mono (λ e w' hh=>by rw [kQ.o] at hh;exact hh)))))
     exact P5
    ·have hf:=oQ HN.o (show k<it.length from aW) e9;have HF:=Hd hf;clear hf;have HS:=Hd e9;clear e9;generalize it.getD k []=t at hc HS bS HF;obtain⟨T,hT⟩:∃T:ByteArray,T=⟨t.toArray⟩:=⟨_,rfl⟩;have kQ:=Hd (show aI T.data.toList (s.extract i s.size).data.toList=true by rw [←su.o,gG.o,hT];exact HS.o);have Gw:=Hd (show T.data.toList=t by rw [hT]);rw [←hT] at hc;clear hT;go_wp2_with fail
     go_quiet ((first | (go_at_call 38;exact Calls.quiet_of ((bk b s i d _ (RH.drewN _)).mono (λ e w' hh=>by rw [HE.o] at hh;exact hh))) | (go_at_call 61;exact nX ((mR _ _ _ oM).mono (λ e w' hh=>by rw [kQ.o] at hh;exact hh)))));go_wp2_with fail;go_ret;refine⟨T,rfl,?_,?_,?_⟩
     ·rw [show lF (rest s i)=eO it (rest s i) from rfl,HF.o,Gw.o]
     ·exact (Pi.o _).1
     ·exact (Pi.o _).2.2
   ·have he:decide (s.size≤i)=true:=nU oM;have HE:=Hd he;have e9:aI (it.getD k []) (rest s i)=false:=by
     rw [aX hi];have:∀k:Fin 12,aI (it.getD k.val []) []=false:=by decide +kernel
     exact this ⟨k,aW⟩
    have hn2:=oT HN.o e9;have Sj:=Hd hn2;clear hn2 e9 he;go_wp2_with fail;go_quiet ((go_at_call 38;exact Calls.quiet_of ((bk b s i d _ (RH.drewN _)).mono (λ e w' hh=>by rw [HE.o] at hh;exact hh))));exact P5
  ·obtain rfl:k=12:=oM
   have hf:=mW (l:=it) HN.o;have HF:=Hd hf;clear hf;go_wp2_with fail;go_ret;refine⟨ByteArray.empty,rfl,?_,?_,?_⟩
   ·rw [show lF (rest s i)=eO it (rest s i) from rfl,HF.o];rfl
   ·exact HW.o.1
   ·exact HW.o.2.2
theorem pe {w wr:World} {b:Nat} {s:ByteArray} {i k n m:Nat} {d:Int} (hk:K0 w wr) (h:ah wr b s i d) (hm:m=k) (hi:i+k≤s.size) :
 jK w b s i k d (.returned (.string (s.extract i (i+m)))) ((wr.drewN n).setCell ⟨b,1,none⟩ (.int .i64 ((i:Int)+(m:Int)))):=by
 subst hm;refine⟨_,rfl,?_,?_,((hk.mono λ_ _ s=>s.elim).drewN n).setCell _ _ λ_=>rfl⟩
 ·rw [Lib.extract_data];unfold rest;rw [show i+m - i=m by omega]
 ·have:=(h.drewN n).set1 ((i:Int)+(m:Int))
  rwa [show ((i:Int)+(m:Int))=((i+m:Nat):Int) by omega] at this ⊢
theorem A6 {w wr:World} {b:Nat} {s:ByteArray} {i k n:Nat} {d:Int} (hk:K0 w wr) (h:ah wr b s i d) (hm:k=0) :
 jK w b s i k d (.returned (.string ByteArray.empty)) ((wr.drewN n).setCell ⟨b,1,none⟩ (.int .i64 (i:Int))):=by
 subst hm;exact⟨_,rfl,rfl,(h.drewN n).set1 _,((hk.mono λ_ _ s=>s.elim).drewN n).setCell _ _ λ_=>rfl⟩
theorem xk {c:UInt8} (h:cV c=false):((c.toNat:Int)==63)=false∧((c.toNat:Int)==35)=false∧((c.toNat:Int)==64)=false∧((c.toNat:Int)==42)=false:=by
 simp only [cV,Bool.or_eq_false_iff,nA] at h;obtain⟨⟨⟨h1,h2⟩,h3⟩,h4⟩:=h;exact⟨aw (c:=c) (k:=63) h1,aw (c:=c) (k:=35) h2,aw (c:=c) (k:=64) h3,aw (c:=c) (k:=42) h4⟩
theorem IA (b:Nat) (s:ByteArray) (i:Nat) (d:Int) (w:World) (h:ah w b s i d) (hs:s.size≤140737488351232) (hi:i≤s.size) (k:Nat) (hk:bQ true (rest s i)=k) :
 Calls Tryz.prog 105 #[.pointer (some ⟨b,0,none⟩)] w (jK w b s i k d):=by
 have oU:k≤s.size - i:=by rw [←hk,←aO];exact iU _ _
 obtain⟨c,hc⟩:∃c,c=au s i:=⟨_,rfl⟩;have HC:=Hd hc.symm;obtain⟨R,hR⟩:∃R,R=cU (rest s i):=⟨_,rfl⟩;have mK:=Hd hR.symm;by_cases qE:0<R
 ·have bp:R=k:=by rw [←hk,hR];unfold bQ;rw [nE (by rw [←hR];exact qE)]
  have p1:((R:Int)==0)=false:=by rw [nA];omega
  have p2:(i:Int)+(R:Int)≤(s.size:Int):=oM
  have p3:(i:Int)≤(i:Int)+(R:Int):=oM
  have p4:((i:Int)+(R:Int)).toNat=i+R:=oM
  have HKK:=Hd bp;clear hk bp hR hc;go_enter Tryz.func105,Tryz.ntmps105;go_wp2_with fail;refine (aR b s i d _ h hs oM).mono ?_;rintro e w1 ⟨rfl,q1,rfl⟩;rw [HC.o];obtain⟨W,hW⟩:∃W,W=w.drewN q1:=⟨_,rfl⟩;rw [←hW];have oo:ah W b s i d:=by rw [hW];exact h.drewN _
  have dO:=Hd (show K0 w W by rw [hW];exact (ae.refl _ _).drewN _);obtain⟨c0,c1,c2,f1,f2⟩:=oo.cells;clear hW;go_wp2_with fail;go_quiet ((go_at_call 69;exact nX ((dK s i _ hs hi).mono (λ e w' hh=>⟨by rw [hh.1,mK.o],hh.2.symm⟩))));obtain⟨W2,et⟩:∃W2,W2=W.drewN nq:=⟨_,rfl⟩;rw [←et];have cj:ah W2 b s i d:=by rw [et];exact oo.drewN _
  have cA:=Hd (show K0 w W2 by rw [et];exact dO.o.drewN _);clear et c0 c1 c2 f1 f2;go_wp2_with fail;go_loopw [4] (λ n' wr=>n'=.int .i64 R∧wr=W2) (λ_ _=>0)
  case atStart=>exact⟨rfl,rfl⟩
  case round=>
   obtain⟨rfl,rfl⟩:=hrel;have LO:=cj;have gW:=cA;obtain⟨c0,c1,c2,f1,f2⟩:=LO.cells;go_wp2_with fail;go_quiet (fail);go_wp2_with fail;go_ret;exact pe gW.o LO HKK.o oM
 have vN:R=0:=oM
 have re:=Hd vN;subst vN;have g8:k=match rest s i with | []=>0 | c::t=>(if bR c then fz t+1 else if cV c then 1 else 0):=by
  rw [←hk];unfold bQ;rw [←hR,nF oM];cases rest s i<;>rfl
 cases oy:cV c with
 | true=>
  have aW:i<s.size:=by
   rcases nP i s.size with h | h
   ·exact h
   ·have:c=0:=by
     rw [hc];unfold au;exact vy
    rw [this] at oy;exact nQ oy dC
  have pz:bR c=false:=by
   have:=Kg (P:=λ c=>!cV c || !bR c) (by decide +kernel) c;rw [oy] at this;simpa using this
  have bp:1=k:=by
   rw [g8,ak aW,←hc];dsimp only;rw [pz,oy];rfl
  have p2:(i:Int)+1≤(s.size:Int):=oM
  have p4:((i:Int)+1).toNat=i+1:=oM
  have HKK:=Hd bp;have iy:((c.toNat:Int)==63)=true∨(((c.toNat:Int)==63)=false∧((c.toNat:Int)==35)=true)∨(((c.toNat:Int)==63)=false∧((c.toNat:Int)==35)=false∧((c.toNat:Int)==64)=true)∨(((c.toNat:Int)==63)=false∧((c.toNat:Int)==35)=false∧((c.toNat:Int)==64)=false∧((c.toNat:Int)==42)=true):=by
   simp only [cV,Bool.or_eq_true,nH] at oy;rcases oy with ((rfl | rfl) | rfl) | rfl
   ·exact .inl rfl
   ·exact .inr (.inl ⟨rfl,rfl⟩)
   ·exact .inr (.inr (.inl ⟨rfl,rfl,rfl⟩))
   ·exact .inr (.inr (.inr ⟨rfl,rfl,rfl,rfl⟩))
  clear hk bp hR hc g8 oy pz qE;rcases iy with x1 | ⟨x1,x2⟩ | ⟨x1,x2,x3⟩ | ⟨x1,x2,x3,x4⟩
  all_goals
   go_enter Tryz.func105,Tryz.ntmps105;go_wp2_with fail;refine (aR b s i d _ h hs oM).mono ?_;rintro e w1 ⟨rfl,q1,rfl⟩;rw [HC.o];obtain⟨W,hW⟩:∃W,W=w.drewN q1:=⟨_,rfl⟩;rw [←hW];have oo:ah W b s i d:=by rw [hW];exact h.drewN _
   have dO:=Hd (show K0 w W by rw [hW];exact (ae.refl _ _).drewN _);obtain⟨c0,c1,c2,f1,f2⟩:=oo.cells;clear hW;go_wp2_with fail;go_quiet ((go_at_call 69;exact nX ((dK s i _ hs hi).mono (λ e w' hh=>⟨by rw [hh.1,mK.o],hh.2.symm⟩))));obtain⟨W2,et⟩:∃W2,W2=W.drewN nq:=⟨_,rfl⟩;rw [←et];have cj:ah W2 b s i d:=by rw [et];exact oo.drewN _
   have cA:=Hd (show K0 w W2 by rw [et];exact dO.o.drewN _);clear et c0 c1 c2 f1 f2;go_wp2_with fail;go_loopw [4] (λ n' wr=>n'=.int .i64 1∧wr=W2) (λ_ _=>0)
   case atStart=>exact⟨rfl,rfl⟩
   case round=>
    obtain⟨rfl,rfl⟩:=hrel;have LO:=cj;have gW:=cA;obtain⟨c0,c1,c2,f1,f2⟩:=LO.cells;go_wp2_with fail;go_quiet (fail);go_wp2_with fail;go_ret;exact pe (m:=1) gW.o LO HKK.o oM
 | false=>
  obtain⟨x1,x2,x3,x4⟩:=xk oy;cases pz:bR c with
  | false=>
   have bp:0=k:=by
    rw [g8];rcases nP i s.size with h | h
    ·rw [ak h,←hc];dsimp only;rw [pz,oy];rfl
    ·rw [aX h]
   have p2:(i:Int)≤(s.size:Int):=oM
   have HKK:=Hd bp;have HD:=Hd pz;clear hk bp hR hc g8 oy pz qE;go_enter Tryz.func105,Tryz.ntmps105;go_wp2_with fail;refine (aR b s i d _ h hs oM).mono ?_;rintro e w1 ⟨rfl,q1,rfl⟩;rw [HC.o];obtain⟨W,hW⟩:∃W,W=w.drewN q1:=⟨_,rfl⟩;rw [←hW];have oo:ah W b s i d:=by rw [hW];exact h.drewN _
   have dO:=Hd (show K0 w W by rw [hW];exact (ae.refl _ _).drewN _);obtain⟨c0,c1,c2,f1,f2⟩:=oo.cells;clear hW;go_wp2_with fail;go_quiet ((go_at_call 69;exact nX ((dK s i _ hs hi).mono (λ e w' hh=>⟨by rw [hh.1,mK.o],hh.2.symm⟩))));obtain⟨W2,et⟩:∃W2,W2=W.drewN nq:=⟨_,rfl⟩;rw [←et];have cj:ah W2 b s i d:=by rw [et];exact oo.drewN _
   have cA:=Hd (show K0 w W2 by rw [et];exact dO.o.drewN _);clear et c0 c1 c2 f1 f2;go_wp2_with fail;go_loopw [4] (λ n' wr=>n'=.int .i64 ((0:Nat):Int)∧wr=W2) (λ_ _=>0)
   case atStart=>exact⟨rfl,rfl⟩
   case round=>
    obtain⟨rfl,rfl⟩:=hrel;go_wp2_with fail;refine (aR b s i d _ cj hs oM).mono ?_;rintro e w3 ⟨rfl,q3,rfl⟩;rw [HC.o];go_wp2_with fail;refine (ep c _).mono ?_;rintro e w4 ⟨rfl,fU⟩;rw [HD.o];subst fU;obtain⟨wr,gU⟩:∃wx,wx=wr.drewN q3:=⟨_,rfl⟩;rw [←gU];have LO:ah wr b s i d:=by rw [gU];exact cj.drewN _
    have gW:=Hd (show K0 w wr by rw [gU];exact cA.o.drewN q3);clear gU;obtain⟨c0,c1,c2,f1,f2⟩:=LO.cells;go_wp2_with fail;go_quiet (fail);go_wp2_with fail;go_ret;exact A6 gW.o LO HKK.o.symm
  | true=>
   have aW:i<s.size:=by
    rcases nP i s.size with h | h
    ·exact h
    ·have:c=0:=by
      rw [hc];unfold au;exact vy
     rw [this] at pz;exact nQ pz dC
   have bp:fz (rest s (i+1))+1=k:=by
    rw [g8,ak aW,←hc];dsimp only;rw [pz];rfl
   have HKK:=Hd bp;have HD:=Hd pz;have pS:0<k:=oM
   clear hk bp hR g8 oy pz qE hc;go_enter Tryz.func105,Tryz.ntmps105;go_wp2_with fail;refine (aR b s i d _ h hs oM).mono ?_;rintro e w1 ⟨rfl,q1,rfl⟩;rw [HC.o];obtain⟨W,hW⟩:∃W,W=w.drewN q1:=⟨_,rfl⟩;rw [←hW];have oo:ah W b s i d:=by rw [hW];exact h.drewN _
   have dO:=Hd (show K0 w W by rw [hW];exact (ae.refl _ _).drewN _);obtain⟨c0,c1,c2,f1,f2⟩:=oo.cells;clear hW;go_wp2_with fail;go_quiet ((go_at_call 69;exact nX ((dK s i _ hs hi).mono (λ e w' hh=>⟨by rw [hh.1,mK.o],hh.2.symm⟩))));obtain⟨W2,et⟩:∃W2,W2=W.drewN nq:=⟨_,rfl⟩;rw [←et];have cj:ah W2 b s i d:=by rw [et];exact oo.drewN _
   have cA:=Hd (show K0 w W2 by rw [et];exact dO.o.drewN _);clear et c0 c1 c2 f1 f2;go_wp2_with fail;go_loopg [4] 1 (λ g n' wr=>∃n:Nat,n'=.int .i64 n∧Hid (ah wr b s i d∧K0 w wr)∧((g=1∧n=0)∨(g=0∧n=k)))
   case atStart=>exact⟨0,rfl,Hd ⟨cj,cA.o⟩,.inl ⟨rfl,rfl⟩⟩
   case round=>
    obtain⟨n,rfl,HR,hn⟩:=hrel;rcases hn with ⟨hg,rfl⟩ | ⟨hg,rfl⟩
    ·go_wp2_with fail;refine (aR b s i d _ HR.o.1 hs oM).mono ?_;rintro e w3 ⟨rfl,q3,rfl⟩;rw [HC.o];go_wp2_with fail;refine (ep c _).mono ?_;rintro e w4 ⟨rfl,fU⟩;rw [HD.o];subst fU;go_wp2_with fail;go_loopw [4] (λ n' wx=>∃n:Nat,n'=.int .i64 n∧n≤s.size - i∧Hid (ah wx b s i d∧K0 w wx)∧Hid (n=0∨pY (rest s i) n)) (λ n' _=>s.size+1 - (intOf n').toNat)
     case atStart=>exact⟨0,rfl,nB _,Hd ⟨HR.o.1.drewN _,HR.o.2.drewN _⟩,Hd (.inl rfl)⟩
     case round=>
      obtain⟨n,rfl,hns,HX,HN⟩:=hrel;obtain⟨x,hx⟩:∃x,x=au s (i+n):=⟨_,rfl⟩;have Ux:=Hd hx.symm;clear hx;cases Ni:bR x with
      | true=>
       have ZE:=Hd Ni;have oW:i+n<s.size:=by
        rcases nP (i+n) s.size with h | h
        ·exact h
        ·have h0:x=0:=by
          rw [←Ux.o];unfold au;exact vy
         rw [h0] at Ni;exact nQ Ni dC
       have vS:pY (rest s i) (n+1):=by
        rcases HN.o with h0 | h0
        ·subst h0;refine⟨nC _,by rw [aO];omega,?_⟩;show fz ((rest s i).drop 1)+1=1+fz ((rest s i).drop 1);omega
        ·refine h0.next (c:=x) ?_ Ni;rw [sg oW,gI oW,Ux.o]
       have gE:=Hd vS;clear Ni vS;go_wp2_with fail;refine (uY b s i n d _ HX.o.1 hs oM oM).mono ?_;rintro e w5 ⟨rfl,q5,rfl⟩;rw [Ux.o];go_wp2_with fail;refine (ep x _).mono ?_;rintro e w6 ⟨rfl,im⟩;rw [ZE.o];subst im;go_wp2_with fail;go_roundw
       case rel=>exact⟨n+1,by go_num,oM,Hd ⟨HX.o.1.drewN _,HX.o.2.drewN _⟩,Hd (.inr gE.o)⟩
       case measure=>simp [intOf];omega
      | false=>
       have ZE:=Hd Ni;have Bm:n=k:=by
        rcases HN.o with h0 | h0
        ·subst h0;exfalso;have:x=c:=by rw [←Ux.o,←HC.o];rfl
         rw [this,HD.o] at Ni;cases Ni
        ·have hdr:(rest s i).drop 1=rest s (i+1):=by rw [ak aW];rfl
         rw [←HKK.o,←hdr];rcases nP (i+n) s.size with oW | oW
         ·exact (h0.stop (c:=x) (by rw [sg oW,gI oW,Ux.o]) Ni).symm
         ·exact (h0.over (by rw [aO];omega)).symm
       subst Bm;clear Ni;go_wp2_with fail;refine (uY b s i n d _ HX.o.1 hs oM oM).mono ?_;rintro e w5 ⟨rfl,q5,rfl⟩;rw [Ux.o];go_wp2_with fail;refine (ep x _).mono ?_;rintro e w6 ⟨rfl,im⟩;rw [ZE.o];subst im;go_wp2_with fail;go_roundg 0
       case measure=>omega
       case rel=>exact⟨n,rfl,Hd ⟨HX.o.1.drewN _,HX.o.2.drewN _⟩,.inr ⟨rfl,rfl⟩⟩
    ·have p1:((n:Int)==0)=false:=by rw [nA];omega
     have p2:(i:Int)+(n:Int)≤(s.size:Int):=oM
     have p3:(i:Int)≤(i:Int)+(n:Int):=oM
     have p4:((i:Int)+(n:Int)).toNat=i+n:=oM
     have LO:=HR.o.1;obtain⟨c0,c1,c2,f1,f2⟩:=LO.cells;go_wp2_with fail;go_quiet (fail);go_wp2_with fail;go_ret;exact pe HR.o.2 LO rfl oM
def oH (w:World) (B cs:Nat) (s:ByteArray) (bd:Nat) (raw:List Pt) (res:mH) (e:Ending) (w':World):Prop:=
 match res with
 | .ok (l,r)=>∃(v:Value) (i:Nat),e=.returned v∧i≤s.size∧rest s i=r∧ah w' cs s i ((0:Nat):Int)∧tu w' B v (raw++l)∧er (raw++l)≤2*i∧ae (λ b=>b=cs∨B≤b) w w'
 | .error x=>x≠0∧∃(v:Value) (i:Nat) (uO:List Pt),e=.returned v∧i≤s.size+bd∧ah w' cs s i (x:Int)∧tu w' B v uO∧er uO≤1000000∧ae (λ b=>b=cs∨B≤b) w w'
def pw (q:Bool) (r:List UInt8):mH:=match ci 0 r with
 | none=>.error 2
 | some k=>.ok ([.mk 4 (r.take k) [] [] [] q],r.drop (k+2))
def kz (s:ByteArray) (i o I:Nat):Prop:=i≤I∧ci 0 (rest s i)=(ci o (rest s I)).map (· + (I - i))
theorem kz.start (s:ByteArray) (i:Nat):kz s i 0 i:=⟨nC _,by rw [Nat.sub_self];cases ci 0 (rest s i)<;>rfl⟩
theorem kz.on {s:ByteArray} {i o o' I:Nat} (h:kz s i o I) (hs:ci o (rest s I)=(ci o' (rest s (I+1))).map (· + 1)):kz s i o' (I+1):=by
 refine⟨by have:=h.1;omega,?_⟩;rw [h.2,hs];have:=h.1;cases ci o' (rest s (I+1)) with
 | none=>rfl
 | some m=>simp;omega
theorem kz.over {s:ByteArray} {i o I:Nat} (h:kz s i o I) (hI:s.size≤I):ci 0 (rest s i)=none:=by
 rw [h.2,aX hI];rfl
theorem rM {w w':World} {row:Option Nat} (h:w.drew.grownBy w' row):w.grownBy w' row:=⟨h.os,h.tape,h.output,h.size,h.block⟩
theorem Iu (B cs:Nat) (s:ByteArray) (i:Nat) (q:Bool) (v:Value) (raw:List Pt) (w:World) (h:ah w cs s i ((0:Nat):Int)) (hs:s.size≤20000) (hi:i≤s.size) (hr:tu w B v raw) (Rm:cs<B) (hB:B≤w.heap.size) (hl:er raw+1≤2*i) (bd:Nat) :
 Calls Tryz.prog 72 #[.pointer (some ⟨cs,0,none⟩),v,.bool q] w (oH w B cs s bd raw (pw q (rest s i))):=by
 obtain⟨res,ag⟩:∃res,res=pw q (rest s i):=⟨_,rfl⟩;rw [←ag];have ay:=Hd ag;obtain⟨va,vc,rfl,_,_⟩:=hr.shape;obtain⟨i0,fo,fC,fp,fq⟩:=info_parts ef;have yT:=bW;obtain⟨c0,c1,c2,f1,f2⟩:=h.cells;have HR:=Hd hr;have cK:=Lib.hid h;obtain⟨L,hL⟩:∃L,L=raw.length:=⟨_,rfl⟩;rw [←hL];have Hb:=iq raw;rw [←hL] at HR Hb;have HL:=Hd hL;clear ag hr hL h;go_enter Tryz.func72,Tryz.ntmps72
 go_wp2_with fail;go_loopg [8] (s.size+2 - i) (λ g o' wr=>∃n I:Nat,o'=.int .i64 n∧g=s.size+2 - I∧I≤s.size∧n≤I∧ah wr cs s I ((0:Nat):Int)∧Hid (ae (λ b=>b=cs) w wr)∧Hid (kz s i n I))
 case atStart=>exact⟨0,i,rfl,rfl,hi,nB _,cK.o,Hd (ae.refl _ _),Hd (kz.start s i)⟩
 case round=>
  obtain⟨n,I,rfl,eH,hI,hnI,eY,HK,HC⟩:=hrel;have fK:=Hd eH;have jZ:=Hd eY;clear eH eY;rcases nP I s.size with aW | lv
  ·have he:decide (s.size≤I)=false:=nV oM;have HE:=Hd he;obtain⟨c,hc⟩:∃c,c=au s I:=⟨_,rfl⟩;have Bd:=Hd hc.symm;have Bn:=ak aW;rw [←hc] at Bn;have pp:=Hd Bn;clear he hc Bn;by_cases qU:c=40
   ·have Te:((c.toNat:Int)==40)=true:=aE (c:=c) (k:=40) qU;have hn:=HC.o.on (o':=n+1) (by rw [pp.o,qU];exact vB _ _);have HN:=Hd hn;clear qU hn;go_wp2_with fail;refine (bk cs s I _ _ jZ.o).mono ?_;rintro e w1 ⟨rfl,q1,rfl⟩;rw [HE.o];go_wp2_with fail;refine (aR cs s I _ _ (jZ.o.drewN _) oM oM).mono ?_;rintro e w2 ⟨rfl,q2,rfl⟩;rw [Bd.o];obtain⟨w2,aQ,cj,aS⟩:=cD (n:=q1+q2) jZ.o ((I:Int)+1)
    obtain⟨d0,d1,d2,g1,g2⟩:=jZ.o.cells;go_wp2_with fail;rw [←aQ];go_roundg (s.size+2 - (I+1))
    case measure=>have:=fK.o;omega
    case rel=>exact⟨n+1,I+1,by go_num,rfl,oM,oM,cj,Hd (HK.o.trans aS (λ_ _ e=>e)),HN⟩
   have Te:((c.toNat:Int)==40)=false:=aw (c:=c) (k:=40) qU;have g40:(c==40)=false:=nA.2 qU;have Vb:=Hd g40;clear qU g40;by_cases u9:c=41
   ·have UD:((c.toNat:Int)==41)=true:=aE (c:=c) (k:=41) u9;rcases Nat.eq_zero_or_pos n with Jj | Jj
    ·subst Jj;obtain⟨x,hx⟩:∃x,x=au s (I+1):=⟨_,rfl⟩;have HX:=Hd hx.symm;have Y6:ci 0 (rest s i)=(if aP 41 (rest s (I+1)) then some 0 else none).map (· + (I - i)):=by
      rw [HC.o.2,pp.o,u9,yM]
     have Nj:aP 41 (rest s (I+1))=(x==41):=by
      exact KL
     by_cases tx:x=41
     ·have fx:((x.toNat:Int) != 41)=false:=by rw [bne,show ((x.toNat:Int)==41)=true from aE (c:=x) (k:=41) tx];rfl
      have pT:res=.ok ([.mk 4 ((rest s i).take (I - i)) [] [] [] q],rest s (I+2)):=by
       rw [ay.o];unfold pw;rw [Y6,Nj,tx];show Except.ok ([Pt.mk 4 ((rest s i).take (0+(I - i))) [] [] [] q],(rest s i).drop (0+(I - i)+2))=_;have:=HC.o.1;rw [b8,show i+(0+(I - i)+2)=I+2 by omega,Nat.zero_add]
      have Jb:I+2≤s.size:=by
       rcases nP (I+1) s.size with h | h
       ·omega
       ·exfalso;rw [aX h] at Nj;rw [tx] at Nj;cases Nj
      have Bu:=Hd pT;have mI:=HC.o.1;obtain⟨T,hT⟩:∃T,T=s.extract i I:=⟨_,rfl⟩;have sy:=Hd (show T.data.toList=(rest s i).take (I - i) by rw [hT,Lib.extract_data];rfl);have Gw:=Hd hT;have p1:(i:Int)≤(I:Int):=oM
      have p2:(I:Int)≤(s.size:Int):=oM
      clear u9 Y6 Nj tx hx pT hT;go_wp2_with fail;refine (bk cs s I _ _ jZ.o).mono ?_;rintro e w1 ⟨rfl,q1,rfl⟩;rw [HE.o];go_wp2_with fail;refine (aR cs s I _ _ (jZ.o.drewN _) oM oM).mono ?_;rintro e w2 ⟨rfl,q2,rfl⟩;rw [Bd.o];obtain⟨W,hW⟩:∃W,W=(wr.drewN q1).drewN q2:=⟨_,rfl⟩;rw [←hW];have oo:ah W cs s I ((0:Nat):Int):=by rw [hW];exact (jZ.o.drewN _).drewN _
      have dO:=Hd (show ae (λ b=>b=cs) w W by rw [hW];exact (HK.o.drewN _).drewN _);clear hW;go_wp2_with fail;refine (b9 cs s I _ _ oo oM oM).mono ?_;rintro e w3 ⟨rfl,q3,rfl⟩;rw [HX.o];obtain⟨W3,ft⟩:∃W3,W3=W.drewN q3:=⟨_,rfl⟩;rw [←ft];have d6:ah W3 cs s I ((0:Nat):Int):=by rw [ft];exact oo.drewN _
      have bZ:=Hd (show ae (λ b=>b=cs) w W3 by rw [ft];exact dO.o.drewN _);obtain⟨d0,d1,d2,g1,g2⟩:=d6.cells;have lt3:=d6.lt;clear ft;go_wp2_with fail;go_region;obtain⟨w4,fU,dR,be⟩:=eb d6 ((I:Int)+2);have eU:=Hd (bZ.o.trans be (λ_ _ e=>e));have Xc:B≤w4.heap.size:=nY hB eU.o.size;have Bk:=HR.o.keep eU.o (λ_ _ e=>oM);have hF:=Bk.more0 Xc (w1:=w4.alloc (.cells #[.int .i64 4,T,eS,eS,(),q] 67)) ((ae.refl _ _).alloc _) (x:=.mk 4 T.data.toList [] [] [] q) rfl
      obtain⟨xs,aU,hF⟩:=hF;have e:dj T.data.toList=.string T:=jH rfl;simp only [cH,Pt.kind,Pt.text,Pt.name,Pt.op,Pt.quoted,e] at hF;have HF:=Hd hF;have iG:=Hd dR;have hz4:w4.heap.size=W3.heap.size:=by rw [fU];simp [World.setCell]
      rw [←HL.o] at aU HF;rw [Gw.o] at HF;have NG:=Hd fU;rw [Gw.o,fU] at aU;have qz:=nG ((W3.setCell ⟨cs,1,none⟩ (.int .i64 ((I:Int)+2))).alloc (.cells #[.int .i64 4,.string (s.extract i I),eS,eS,(),q] 67)) (.cells #[.int .i64 4,.string (s.extract i I),eS,eS,(),q] 67);have sG:((W3.setCell ⟨cs,1,none⟩ (.int .i64 ((I:Int)+2))).alloc (.cells #[.int .i64 4,.string (s.extract i I),eS,eS,(),q] 67)).heap.size=W3.heap.size+1:=wC
      rw [sG] at qz;have kQ:=Hd qz;clear hF dR be fU Bk e qz sG;go_wp2_with (at_builtin;refine nR _ rfl (.tmp 53) (.tmp 55) _ rfl 0 67 i0 _ 6 88 Tryz.underlying29 fo fC fp fq rfl oM (.slice va L vc) L xs rfl ((aU.alloc _).drew) ⟨W3.heap.size+1,0,none⟩ 1 1 [.int .i64 4,.string (s.extract i I),eS,eS,(),q] rfl rfl (nK (cs:=#[.int .i64 4,.string (s.extract i I),.string ⟨#[]⟩,.string ⟨#[]⟩,.slice none 0 0,.bool q]) (t:=67) (fr:=(0,0)) kQ.o) oC oM uM oM sI (W3.heap.size+1+1) wC ?_;intro gg aC w5 aK ao bf eC)
      go_ret;obtain rfl:=NG.o;obtain⟨cv,eP⟩:=HF.o gg aC w5 _ aK (rM ao) (by simpa [World.setCell] using bf);have lE:=sy.o;rw [Gw.o] at lE;rw [lE] at cv;rw [Bu.o];exact⟨_,I+2,rfl,Jb,rfl,iG.o.keep eP (λ e=>oM),cv,by rw [bv];simp only [er,Pt.text];rw [List.length_take,aO];omega,(eU.o.mono λ_ _ e=>.inl e).trans eP (λ_ _ e=>.inr e)⟩
     ·have fx:((x.toNat:Int) != 41)=true:=by rw [bne,show ((x.toNat:Int)==41)=false from aw (c:=x) (k:=41) tx];rfl
      have pX:res=.error 2:=by
       rw [ay.o];unfold pw;rw [Y6,Nj,nA.2 tx];rfl
      have NH:=Hd pX;clear u9 Y6 Nj tx hx pX;go_wp2_with fail;refine (bk cs s I _ _ jZ.o).mono ?_;rintro e w1 ⟨rfl,q1,rfl⟩;rw [HE.o];go_wp2_with fail;refine (aR cs s I _ _ (jZ.o.drewN _) oM oM).mono ?_;rintro e w2 ⟨rfl,q2,rfl⟩;rw [Bd.o];obtain⟨W,hW⟩:∃W,W=(wr.drewN q1).drewN q2:=⟨_,rfl⟩;rw [←hW];have oo:ah W cs s I ((0:Nat):Int):=by rw [hW];exact (jZ.o.drewN _).drewN _
      have dO:=Hd (show ae (λ b=>b=cs) w W by rw [hW];exact (HK.o.drewN _).drewN _);clear hW;go_wp2_with fail;refine (b9 cs s I _ _ oo oM oM).mono ?_;rintro e w3 ⟨rfl,q3,rfl⟩;rw [HX.o];go_wp2_with fail;refine (fl cs s I 0 2 _ (oo.drewN _)).mono ?_;rintro e w4 ⟨rfl,dR,be⟩;have iG:=Hd dR;have eU:=Hd ((dO.o.drewN q3).trans be (λ_ _ e=>e));clear dR be
      go_wp2_with fail;go_ret;rw [NH.o];exact⟨dC,_,I,raw,rfl,oM,iG.o,by rw [HL.o];rw [HL.o] at HR;exact HR.o.keep eU.o (λ_ _ e=>oM),oM,eU.o.mono λ_ _ e=>.inl e⟩
    ·obtain⟨n,rfl⟩:∃m,n=m+1:=⟨n - 1,oM⟩;have hn:=HC.o.on (o':=n) (by rw [pp.o,u9];exact vC _ _ oM);have HN:=Hd hn;have p3:(((n+1:Nat):Int)==0)=false:=by rw [nA];omega
     exact Wm
   have UD:((c.toNat:Int)==41)=false:=aw (c:=c) (k:=41) u9;have hn:=HC.o.on (o':=n) (by rw [pp.o];exact vA _ _ _ Vb.out (nA.2 u9));have HN:=Hd hn;exact Wm
  ·have he:decide (s.size≤I)=true:=nU lv;have HE:=Hd he;have hx:res=.error 2:=by
    rw [ay.o];unfold pw;rw [HC.o.over lv]
   have HX:=Hd hx;clear he hx;exact Ws
def l8 (s:ByteArray) (I J:Nat):Prop:=I<J∧J≤s.size+2∧((au s I==40)=false→(au s I==41)=false→∀o,ce .n o (rest s I)=(ce .n o (rest s J)).map (· + (J - I)))∧(au s I=40∨au s I=41→J=I+1)
def kK (w:World) (cs:Nat) (s:ByteArray) (I:Nat) (e:Ending) (w':World):Prop:=
 e=.returned (.tuple #[])∧∃J:Nat,l8 s I J∧ah w' cs s J ((0:Nat):Int)∧ae (λ b=>b=cs) w w'
theorem A2 {s:ByteArray} {I k:Nat} {q:UInt8} (hI:I<s.size) (hc:au s I=q) (hq:q=39∨q=34) (h:dn q false (rest s (I+1))=some k):l8 s I (I+(k+1)):=by
 have hk:=rY h;rw [aO] at hk;refine⟨oM,oM,λ_ _ o=>?_,λ h2=>?_⟩
 ·rcases hq with rfl | rfl
  ·rw [qR hI hc,h];simp only [Option.bind_some];rw [show I+(k+1) - I=k+1 by omega]
  ·rw [qS hI hc,h];simp only [Option.bind_some];rw [show I+(k+1) - I=k+1 by omega]
 ·rw [hc] at h2;rcases hq with rfl | rfl<;>exact nQ h2 dC
theorem A1 {s:ByteArray} {I J:Nat} {q:UInt8} (hI:I<s.size) (hc:au s I=q) (hq:q=39∨q=34) (h:dn q false (rest s (I+1))=none) (h1:s.size<J) (h2:J≤s.size+2):l8 s I J:=by
 refine⟨oM,h2,λ_ _ o=>?_,λ h2=>?_⟩
 ·rw [aX (show s.size≤J by omega)];rcases hq with rfl | rfl
  ·rw [qR hI hc,h];rfl
  ·rw [qS hI hc,h];rfl
 ·rw [hc] at h2;rcases hq with rfl | rfl<;>exact nQ h2 dC
theorem AZ {s:ByteArray} {I:Nat} (hI:I<s.size) (hc:au s I=92):l8 s I (I+2):=by
 refine⟨oM,oM,λ_ _ o=>?_,λ h2=>?_⟩
 ·rw [CQ hI hc,show I+2 - I=2 by omega]
 ·rw [hc] at h2;exact nQ h2 dC
theorem A0 {s:ByteArray} {I:Nat} (hI:I<s.size) (h1:(au s I==39)=false) (h2:(au s I==34)=false) (h3:(au s I==92)=false):l8 s I (I+1):=by
 refine⟨oM,oM,λ h4 h5 o=>?_,λ_=>rfl⟩;rw [ak hI,CR h1 h2 h3 h4 h5,show I+1 - I=1 by omega]
theorem dl {w:World} {cs:Nat} {s:ByteArray} {i j d:Int} {J:Nat} (h:ah w cs s i d) (hj:j=(J:Int)):ah (w.setCell ⟨cs,1,none⟩ (.int .i64 j)) cs s J d∧ae (λ b=>b=cs) w (w.setCell ⟨cs,1,none⟩ (.int .i64 j)):=
 ⟨by rw [hj];exact h.set1 _,(ae.refl _ _).setCell _ _ λ_=>rfl⟩
theorem kK.mk' {w w':World} {cs:Nat} {s:ByteArray} {I J:Nat} (h:l8 s I J) (hs:ah w' cs s J ((0:Nat):Int)) (hk:ae (λ b=>b=cs) w w'):kK w cs s I (.returned (.tuple #[])) w':=⟨rfl,J,h,hs,hk⟩
theorem zt (cs:Nat) (s:ByteArray) (I:Nat) (w:World) (h:ah w cs s I ((0:Nat):Int)) (hs:s.size≤20000) (hI:I<s.size) :
 Calls Tryz.prog 106 #[.pointer (some ⟨cs,0,none⟩)] w (kK w cs s I):=by
 obtain⟨c,hc⟩:∃c,c=au s I:=⟨_,rfl⟩;have HC:=Hd hc.symm;clear hc;by_cases lS:c=92
 ·have Tf:((c.toNat:Int)==92)=true:=aE (c:=c) (k:=92) lS;have HP:=Hd (AZ hI (HC.o.trans lS));clear lS;go_enter Tryz.func106,Tryz.ntmps106;go_wp2_with fail;refine (aR cs s I _ _ h oM oM).mono ?_;rintro e w1 ⟨rfl,q1,rfl⟩;rw [HC.o];obtain⟨w2,aQ,cj,aS⟩:=cD (n:=q1) h ((I:Int)+1);obtain⟨d0,d1,d2,g1,g2⟩:=h.cells;go_wp2_with fail
  try rw [←aQ]
  go_end0;obtain⟨d6,aV⟩:=dl cj (j:=(I:Int)+1+1) (J:=I+2) oM;exact kK.mk' HP.o d6 (aS.trans aV (λ_ _ e=>e))
 have Tf:((c.toNat:Int)==92)=false:=aw (c:=c) (k:=92) lS;have RZ:=Hd (show (c==92)=false from nA.2 lS);clear lS;by_cases IP:c=39
 ·have f39:((c.toNat:Int)==39)=true:=aE (c:=c) (k:=39) IP;have HQ:=Hd (HC.o.trans IP);clear IP;go_enter Tryz.func106,Tryz.ntmps106;go_wp2_with fail;refine (aR cs s I _ _ h oM oM).mono ?_;rintro e w1 ⟨rfl,q1,rfl⟩;rw [HC.o];obtain⟨w2,aQ,cj,aS⟩:=cD (n:=q1) h ((I:Int)+1);obtain⟨d0,d1,d2,g1,g2⟩:=h.cells;go_wp2_with fail
  try rw [←aQ]
  go_loopg [] (s.size+3 - (I+1)) (λ g wr=>∃K:Nat,g=s.size+3 - K∧I<K∧K≤s.size+0∧Hid (ah wr cs s K ((0:Nat):Int))∧Hid (ae (λ b=>b=cs) w wr)∧Hid (fX 39 s (I+1) K))
  case atStart=>exact⟨I+1,oM,oM,oM,Hd cj,Hd aS,Hd (fX.start _ _ _)⟩
  case round=>
   obtain⟨K,hg,Xe,YZ,HS,HK,HA⟩:=hrel;have HG:=Hd hg;clear hg;rcases nP K s.size with aW | lv
   ·have HE:=Hd (show decide (s.size≤K)=false from nV oM);obtain⟨x,hx⟩:∃x,x=au s K:=⟨_,rfl⟩;have HX:=Hd hx.symm;clear hx;by_cases tx:x=39
    ·have fx:((x.toNat:Int) != 39)=false:=by rw [bne,show ((x.toNat:Int)==39)=true from aE (c:=x) (k:=39) tx];rfl
     exact We
    ·have fx:((x.toNat:Int) != 39)=true:=by rw [bne,show ((x.toNat:Int)==39)=false from aw (c:=x) (k:=39) tx];rfl
     have TR:(au s K==39)=false:=by rw [HX.o];exact nA.2 tx
     have HN:=Hd (HA.o.one aW TR (by rw [show ((39:UInt8)==34)=false from rfl,Bool.and_false]));clear tx TR;go_wp2_with fail;refine (bk cs s K _ _ HS.o).mono ?_;rintro e w3 ⟨rfl,q3,rfl⟩;rw [HE.o];go_wp2_with fail;refine (aR cs s K _ _ (HS.o.drewN _) oM oM).mono ?_;rintro e w4 ⟨rfl,q4,rfl⟩;rw [HX.o];obtain⟨w5,jk⟩:∃w5,w5=(wr.drewN q3).drewN q4:=⟨_,rfl⟩;exact Wt
   ·exact Wk
 have f39:((c.toNat:Int)==39)=false:=aw (c:=c) (k:=39) IP;have RY:=Hd (show (c==39)=false from nA.2 IP);clear IP;by_cases zC:c=34
 ·have WW:((c.toNat:Int)==34)=true:=aE (c:=c) (k:=34) zC;have HQ:=Hd (HC.o.trans zC);clear zC;go_enter Tryz.func106,Tryz.ntmps106;go_wp2_with fail;refine (aR cs s I _ _ h oM oM).mono ?_;rintro e w1 ⟨rfl,q1,rfl⟩;rw [HC.o];obtain⟨w2,aQ,cj,aS⟩:=cD (n:=q1) h ((I:Int)+1);obtain⟨d0,d1,d2,g1,g2⟩:=h.cells;go_wp2_with fail
  try rw [←aQ]
  go_loopg [] (s.size+3 - (I+1)) (λ g wr=>∃K:Nat,g=s.size+3 - K∧I<K∧K≤s.size+1∧Hid (ah wr cs s K ((0:Nat):Int))∧Hid (ae (λ b=>b=cs) w wr)∧Hid (fX 34 s (I+1) K))
  case atStart=>exact⟨I+1,oM,oM,oM,Hd cj,Hd aS,Hd (fX.start _ _ _)⟩
  case round=>
   obtain⟨K,hg,Xe,YZ,HS,HK,HA⟩:=hrel;have HG:=Hd hg;clear hg;rcases nP K s.size with aW | lv
   ·have HE:=Hd (show decide (s.size≤K)=false from nV oM);obtain⟨x,hx⟩:∃x,x=au s K:=⟨_,rfl⟩;have HX:=Hd hx.symm;clear hx;by_cases tx:x=34
    ·have fx:((x.toNat:Int) != 34)=false:=by rw [bne,show ((x.toNat:Int)==34)=true from aE (c:=x) (k:=34) tx];rfl
     exact We
    ·have fx:((x.toNat:Int) != 34)=true:=by rw [bne,show ((x.toNat:Int)==34)=false from aw (c:=x) (k:=34) tx];rfl
     have TR:(au s K==34)=false:=by rw [HX.o];exact nA.2 tx
     by_cases lS:x=92
     ·have fy:((x.toNat:Int)==92)=true:=aE (c:=x) (k:=92) lS;have HN:=Hd (HA.o.two aW TR (by rw [HX.o,lS];rfl));clear tx lS TR;go_wp2_with fail;refine (bk cs s K _ _ HS.o).mono ?_;rintro e w3 ⟨rfl,q3,rfl⟩;rw [HE.o];go_wp2_with fail;refine (aR cs s K _ _ (HS.o.drewN _) oM oM).mono ?_;rintro e w4 ⟨rfl,q4,rfl⟩;rw [HX.o];go_wp2_with fail;refine (aR cs s K _ _ (HS.o.drewN (q3+q4)) oM oM).mono ?_
      rintro e w4 ⟨rfl,q5,rfl⟩;rw [HX.o];obtain⟨w5,jk⟩:∃w5,w5=(wr.drewN (q3+q4)).drewN q5:=⟨_,rfl⟩;rw [←jk];have dV:ah w5 cs s K ((0:Nat):Int):=by rw [jk];exact (HS.o.drewN _).drewN _
      have fL:=Hd (show ae (λ b=>b=cs) w w5 by rw [jk];exact (HK.o.drewN _).drewN _);obtain⟨d0,d1,d2,g1,g2⟩:=dV.cells;clear jk;go_wp2_with fail;obtain⟨abV,abF⟩:=dl dV (j:=(K:Int)+1) (J:=K+1) oM;obtain⟨lM,abG⟩:=dl abV (j:=(K:Int)+1+1) (J:=K+2) oM;have cu:=abF.trans abG (λ_ _ e=>e);go_roundg (s.size+3 - (K+2))
      case measure=>have:=HG.o;omega
      case rel=>exact⟨K+2,rfl,oM,oM,Hd lM,Hd (fL.o.trans cu (λ_ _ e=>e)),HN⟩
     ·have fy:((x.toNat:Int)==92)=false:=aw (c:=x) (k:=92) lS;have HN:=Hd (HA.o.one aW TR (by rw [HX.o,nA.2 lS];rfl));clear tx lS TR;go_wp2_with fail;refine (bk cs s K _ _ HS.o).mono ?_;rintro e w3 ⟨rfl,q3,rfl⟩;rw [HE.o];go_wp2_with fail;refine (aR cs s K _ _ (HS.o.drewN _) oM oM).mono ?_;rintro e w4 ⟨rfl,q4,rfl⟩;rw [HX.o];go_wp2_with fail
      refine (aR cs s K _ _ (HS.o.drewN (q3+q4)) oM oM).mono ?_;rintro e w4 ⟨rfl,q5,rfl⟩;rw [HX.o];obtain⟨w5,jk⟩:∃w5,w5=(wr.drewN (q3+q4)).drewN q5:=⟨_,rfl⟩;exact Wt
   ·exact Wk
 have WW:((c.toNat:Int)==34)=false:=aw (c:=c) (k:=34) zC;have M3:=Hd (show (c==34)=false from nA.2 zC);clear zC;have HP:=Hd (A0 hI (by rw [HC.o];exact RY.out) (by rw [HC.o];exact M3.out) (by rw [HC.o];exact RZ.out));go_enter Tryz.func106,Tryz.ntmps106;go_wp2_with fail;refine (aR cs s I _ _ h oM oM).mono ?_;rintro e w1 ⟨rfl,q1,rfl⟩
 rw [HC.o];obtain⟨w2,aQ,cj,aS⟩:=cD (n:=q1) h ((I:Int)+1);obtain⟨d0,d1,d2,g1,g2⟩:=h.cells;go_wp2_with fail
 try rw [←aQ]
 go_end0;exact kK.mk' HP.o cj aS
def xo (q:Bool) (r:List UInt8):mH:=match ce .n 0 r with
 | none=>.error 2
 | some k=>.ok ([.mk 5 (r.take k) [] [] [] q],r.drop (k+1))
theorem iL.to {s:ByteArray} {i o o' I J:Nat} (h:iL s i o I) (hJ:I<J) (hs:ce .n o (rest s I)=(ce .n o' (rest s J)).map (· + (J - I))):iL s i o' J:=by
 have:=h.on (o':=o') (k:=J - I) (by rw [show I+(J - I)=J by omega];exact hs)
 rwa [show I+(J - I)=J by omega] at this
theorem MB (B cs:Nat) (s:ByteArray) (i:Nat) (q:Bool) (v:Value) (raw:List Pt) (w:World) (h:ah w cs s i ((0:Nat):Int)) (hs:s.size≤20000) (hi:i≤s.size) (hr:tu w B v raw) (Rm:cs<B) (hB:B≤w.heap.size) (hl:er raw+1≤2*i) (bd:Nat) (hbd:2≤bd) :
 Calls Tryz.prog 73 #[.pointer (some ⟨cs,0,none⟩),v,.bool q] w (oH w B cs s bd raw (xo q (rest s i))):=by
 obtain⟨res,ag⟩:∃res,res=xo q (rest s i):=⟨_,rfl⟩;rw [←ag];have ay:=Hd ag;obtain⟨va,vc,rfl,_,_⟩:=hr.shape;obtain⟨i0,fo,fC,fp,fq⟩:=info_parts ef;have yT:=bW;obtain⟨c0,c1,c2,f1,f2⟩:=h.cells;have HR:=Hd hr;have cK:=Lib.hid h;obtain⟨L,hL⟩:∃L,L=raw.length:=⟨_,rfl⟩;rw [←hL];have Hb:=iq raw;rw [←hL] at HR Hb;have HL:=Hd hL;clear ag hr hL h;go_enter Tryz.func73,Tryz.ntmps73
 go_wp2_with fail;go_loopg [8] (s.size+3 - i) (λ g o' wr=>∃n I:Nat,o'=.int .i64 n∧g=s.size+3 - I∧i≤I∧I≤s.size+2∧n≤I∧ah wr cs s I ((0:Nat):Int)∧Hid (ae (λ b=>b=cs) w wr)∧Hid (iL s i n I))
 case atStart=>exact⟨0,i,rfl,rfl,nC _,oM,nB _,cK.o,Hd (ae.refl _ _),Hd (iL.start s i)⟩
 case round=>
  obtain⟨n,I,rfl,eH,mI,hI,hnI,eY,HK,HC⟩:=hrel;have fK:=Hd eH;have jZ:=Hd eY;clear eH eY;rcases nP I s.size with aW | lv
  ·have HE:=Hd (show decide (s.size≤I)=false from nV oM);obtain⟨c,hc⟩:∃c,c=au s I:=⟨_,rfl⟩;have Bd:=Hd hc.symm;have Bn:=ak aW;rw [←hc] at Bn;have pp:=Hd Bn;clear hc Bn;by_cases qU:c=40
   ·have Te:((c.toNat:Int)==40)=true:=aE (c:=c) (k:=40) qU;have UD:((c.toNat:Int)==41)=false:=aw (c:=c) (k:=41) (by rw [qU];decide);have HN:=Hd (show ∀J,l8 s I J→iL s i (n+1) J from λ J ym=>by
     have e:=ym.2.2.2 (.inl (by rw [Bd.o,qU]));subst e;refine HC.o.to oM ?_;rw [pp.o,qU,show I+1 - I=1 by omega];rfl)
    clear qU;go_wp2_with fail;refine (bk cs s I _ _ jZ.o).mono ?_;rintro e w1 ⟨rfl,q1,rfl⟩;rw [HE.o];go_wp2_with fail;refine (aR cs s I _ _ (jZ.o.drewN _) oM oM).mono ?_;rintro e w2 ⟨rfl,q2,rfl⟩;rw [Bd.o];obtain⟨W3,ft⟩:∃W3,W3=(wr.drewN q1).drewN q2:=⟨_,rfl⟩;rw [←ft];have d6:ah W3 cs s I ((0:Nat):Int):=by rw [ft];exact (jZ.o.drewN _).drewN _
    have bZ:=Hd (show ae (λ b=>b=cs) w W3 by rw [ft];exact (HK.o.drewN _).drewN _);clear ft;go_wp2_with fail;refine (zt cs s I _ d6 hs aW).mono ?_;rintro e w4 ⟨rfl,J,ym,dR,be⟩;have Gv:=Hd ym;have Lr:=ym.1;have FJ:=ym.2.1;have iG:=Hd dR;have eU:=Hd (bZ.o.trans be (λ_ _ e=>e));clear ym dR be;go_wp2_with fail;go_roundg (s.size+3 - J)
    case measure=>have:=fK.o;omega
    case rel=>exact⟨n+1,J,by go_num,rfl,oM,FJ,oM,iG.o,eU,Hd (HN.o J Gv.o)⟩
   have Te:((c.toNat:Int)==40)=false:=aw (c:=c) (k:=40) qU;have Vb:=Hd (show (c==40)=false from nA.2 qU);clear qU;by_cases u9:c=41
   ·have UD:((c.toNat:Int)==41)=true:=aE (c:=c) (k:=41) u9;rcases Nat.eq_zero_or_pos n with Jj | Jj
    ·subst Jj;have pT:res=.ok ([.mk 5 ((rest s i).take (I - i)) [] [] [] q],rest s (I+1)):=by
      rw [ay.o];unfold xo;rw [HC.o.stop aW (Bd.o.trans u9)];show Except.ok ([Pt.mk 5 ((rest s i).take (I - i)) [] [] [] q],(rest s i).drop (I - i+1))=_;rw [b8,show i+(I - i+1)=I+1 by omega]
     have Bu:=Hd pT;obtain⟨T,hT⟩:∃T,T=s.extract i I:=⟨_,rfl⟩;have sy:=Hd (show T.data.toList=(rest s i).take (I - i) by rw [hT,Lib.extract_data];rfl);have Gw:=Hd hT;have p1:(i:Int)≤(I:Int):=oM
     have p2:(I:Int)≤(s.size:Int):=oM
     clear u9 pT hT;go_wp2_with fail;refine (bk cs s I _ _ jZ.o).mono ?_;rintro e w1 ⟨rfl,q1,rfl⟩;rw [HE.o];go_wp2_with fail;refine (aR cs s I _ _ (jZ.o.drewN _) oM oM).mono ?_;rintro e w2 ⟨rfl,q2,rfl⟩;rw [Bd.o];obtain⟨W3,ft⟩:∃W3,W3=(wr.drewN q1).drewN q2:=⟨_,rfl⟩;rw [←ft];have d6:ah W3 cs s I ((0:Nat):Int):=by rw [ft];exact (jZ.o.drewN _).drewN _
     have bZ:=Hd (show ae (λ b=>b=cs) w W3 by rw [ft];exact (HK.o.drewN _).drewN _);clear ft;obtain⟨d0,d1,d2,g1,g2⟩:=d6.cells;have lt3:=d6.lt;go_wp2_with fail;go_region;obtain⟨w4,fU,dR,be⟩:=eb d6 ((I:Int)+1);have eU:=Hd (bZ.o.trans be (λ_ _ e=>e));have Xc:B≤w4.heap.size:=nY hB eU.o.size;have Bk:=HR.o.keep eU.o (λ_ _ e=>oM);have hF:=Bk.more0 Xc (w1:=w4.alloc (.cells #[.int .i64 5,T,eS,eS,(),q] 67)) ((ae.refl _ _).alloc _) (x:=.mk 5 T.data.toList [] [] [] q) rfl
     obtain⟨xs,aU,hF⟩:=hF;have e:dj T.data.toList=.string T:=jH rfl;simp only [cH,Pt.kind,Pt.text,Pt.name,Pt.op,Pt.quoted,e] at hF;have HF:=Hd hF;have iG:=Hd dR;rw [←HL.o] at aU HF;rw [Gw.o] at HF;have NG:=Hd fU;rw [Gw.o,fU] at aU;have qz:=nG ((W3.setCell ⟨cs,1,none⟩ (.int .i64 ((I:Int)+1))).alloc (.cells #[.int .i64 5,.string (s.extract i I),eS,eS,(),q] 67)) (.cells #[.int .i64 5,.string (s.extract i I),eS,eS,(),q] 67)
     have sG:((W3.setCell ⟨cs,1,none⟩ (.int .i64 ((I:Int)+1))).alloc (.cells #[.int .i64 5,.string (s.extract i I),eS,eS,(),q] 67)).heap.size=W3.heap.size+1:=wC
     rw [sG] at qz;have kQ:=Hd qz;clear hF dR be fU Bk e qz sG;go_wp2_with (at_builtin;refine nR _ rfl (.tmp 45) (.tmp 47) _ rfl 0 67 i0 _ 6 88 Tryz.underlying29 fo fC fp fq rfl oM (.slice va L vc) L xs rfl ((aU.alloc _).drew) ⟨W3.heap.size+1,0,none⟩ 1 1 [.int .i64 5,.string (s.extract i I),eS,eS,(),q] rfl rfl (nK (cs:=#[.int .i64 5,.string (s.extract i I),.string ⟨#[]⟩,.string ⟨#[]⟩,.slice none 0 0,.bool q]) (t:=67) (fr:=(0,0)) kQ.o) oC oM uM oM sI (W3.heap.size+1+1) wC ?_;intro gg aC w5 aK ao bf eC)
     go_ret;obtain rfl:=NG.o;obtain⟨cv,eP⟩:=HF.o gg aC w5 _ aK (rM ao) (by simpa [World.setCell] using bf);have lE:=sy.o;rw [Gw.o] at lE;rw [lE] at cv;rw [Bu.o];exact⟨_,I+1,rfl,oM,rfl,iG.o.keep eP (λ e=>oM),cv,by rw [bv];simp only [er,Pt.text];rw [List.length_take,aO];omega,(eU.o.mono λ_ _ e=>.inl e).trans eP (λ_ _ e=>.inr e)⟩
    ·obtain⟨n,rfl⟩:∃m,n=m+1:=⟨n - 1,oM⟩;have HN:=Hd (show ∀J,l8 s I J→iL s i n J from λ J ym=>by
      have e:=ym.2.2.2 (.inr (by rw [Bd.o,u9]));subst e;refine HC.o.to oM ?_;rw [pp.o,u9,show I+1 - I=1 by omega];rfl)
     have p3:(((n+1:Nat):Int)==0)=false:=by rw [nA];omega
     exact V9
   have UD:((c.toNat:Int)==41)=false:=aw (c:=c) (k:=41) u9;have HN:=Hd (show ∀J,l8 s I J→iL s i n J from λ J ym=>HC.o.to ym.1 (ym.2.2.1 (by rw [Bd.o];exact Vb.out) (by rw [Bd.o];exact nA.2 u9) n));exact V9
  ·have HE:=Hd (show decide (s.size≤I)=true from nU lv);have hx:res=.error 2:=by
    rw [ay.o];unfold xo;rw [HC.o.over lv]
   have HX:=Hd hx;clear hx;exact Ws
def VT (w:World) (B:Nat) (raw:List Pt) (e:Ending) (w':World):Prop:=
 ∃(v:Value) (n:Nat),e=.returned v∧az w' (λ b=>B≤b) n (eh raw) v∧K0 w w'
theorem ti (B:Nat) (v:Value) (raw:List Pt) (w:World) (h:tu w B v raw) (hB:B≤w.heap.size) (hm:er raw≤1000000) :
 Calls Tryz.prog 40 #[v] w (VT w B raw):=by
 obtain⟨ho,fA⟩:=h;obtain⟨a,c,rfl,h7,h8⟩:=ho.shape;obtain⟨vs,n,hl,aU,eD⟩:=ho;obtain⟨i0,fo,fC,fp,fq⟩:=info_parts ef;have yT:=bW;have iZ:=iq raw;have JW:=Hd eD;have ql:=Hd aU;have Vl:=Hd fA;clear eD aU fA;go_enter Tryz.func40,Tryz.ntmps40;go_wp2_with fail;go_loopw [3,4,5] (λ v' m' k' wr=>∃(k:Nat) (em:Bool),k'=.int .i64 k∧m'=.bool em∧k≤raw.length∧Hid (fs w wr (λ b=>(B≤b∧(Value.slice a raw.length c).ownBlock≠some b)) n v' (cZ (raw.take k)).1)∧Hid (K0 w wr)∧Hid ((cZ (raw.take k)).1=[]→em=decide (0<k))) (λ_ _ k' _=>raw.length - (intOf k').toNat)
 case atStart=>exact⟨0,false,rfl,rfl,nB _,Hd (fs.nil _ _ _ _),Hd (ae.refl _ _),Hd (λ_=>rfl)⟩
 case round=>
  obtain⟨k,em,rfl,rfl,hk,HO,HK,Vd⟩:=hrel;by_cases aW:k<raw.length
  ·obtain⟨G,hG⟩:∃G,a=some ⟨G,0,none⟩:=by
    exact Qb
   subst hG;have hGl:G<w.heap.size:=(ql.o.lt G rfl).2;obtain⟨q0,q1,q2,q3,q4,q5⟩:=uZ ql.o rfl hl aW;have eB:∀o v,w.cell? ⟨G,o,none⟩=some v→wr.cell? ⟨G,o,none⟩=some v:=λ o v hv=>(uH (a:=⟨G,o,none⟩) (HK.o.block G hGl (λ x=>x))).trans hv;replace q0:=eB _ _ q0;replace q1:=eB _ _ q1;replace q2:=eB _ _ q2;replace q3:=eB _ _ q3;replace q4:=eB _ _ q4;replace q5:=eB _ _ q5
   have Bm:=JW.o k aW oM;have gB:cZ (raw.take (k+1))=cd (cZ (raw.take k)) raw[k]:=by
    rw [List.take_succ_eq_append_getElem aW,fE];rfl
   obtain⟨out,Ef⟩:∃out,out=(cZ (raw.take k)).1:=⟨_,rfl⟩;rw [←Ef] at HO;have Dk:=Hd Ef;have yz:=Hd gB;obtain⟨p,hp⟩:∃p,p=raw[k]:=⟨_,rfl⟩;obtain⟨pv,Jk⟩:∃pv,pv=vs[k]'oM:=⟨_,rfl⟩;rw [←hp,←Jk] at Bm;rw [←hp] at q0 q1 q2 q3 q5;rw [←Jk] at q4;obtain⟨pa,pc,Ox,_,_⟩:=Bm.shape;rw [Ox] at q4 Bm;obtain⟨pl,Eg⟩:∃pl,pl=p.word.length:=⟨_,rfl⟩;rw [←Eg] at q4 Bm;have HP:=Hd hp;have Pn:=Hd Bm
   clear eB Ef gB hp Jk Bm Ox Eg;have p1:(k:Int)<(raw.length:Int):=oM
   obtain⟨T,hT⟩:∃T:ByteArray,T=⟨p.text.toArray⟩:=⟨_,rfl⟩;have vO:T.data.toList=p.text:=by rw [hT]
   unfold dj at q1 q2 q3;rw [←hT] at q1;have HT:=Hd vO;clear hT;by_cases hE:p.isE=true
   ·have e1:p.kind=2∧p.text=[]:=by
     unfold Pt.isE at hE;simpa using hE
    have t1:((p.kind:Int)==2)=true:=by rw [e1.1];rfl
    obtain⟨t2,t3⟩:=eN (s:=T) (vO.trans e1.2);have e9:(cZ (raw.take (k+1))).1=out:=by
     rw [yz.o,←HP.o,cd,nE hE,Dk.o]
    have eI:=Hd e9;clear hE e1 e9 vO;go_wp2_with fail;go_roundw
    case rel=>exact⟨k+1,true,by go_num,rfl,oM,Hd (by rw [eI.o];exact HO.o.alloc _),Hd (HK.o.alloc _),Hd (λ_=>(nU (Nat.succ_pos k)).symm)⟩
    case measure=>simp [intOf];omega
   ·have e1:((p.kind:Int)==2)=false∨((p.kind:Int)==2)=true∧T.toList.isEmpty=false∧(T.toList==[])=false:=by
     exact WP
    have e9:(cZ (raw.take (k+1))).1=qq out p:=by
     rw [yz.o,←HP.o,cd,nF hE,Dk.o]
    have eI:=Hd e9;have HE:=Hd hE;clear hE e9;clear vO;have Xx:wr.heap.size<wr.heap.size+1:=oM
    rcases HO.o.shape with ⟨rfl,pB⟩ | ⟨l,y,go,co,pB,rfl,hgo,G6,yg,Tp⟩
    ·obtain rfl:=pB;rcases e1 with e1 | ⟨e1,e2,e3⟩
     all_goals
      go_wp2_with fail;go_quiet (fail);obtain⟨_,us,LT,aK,_,AO⟩:=((HO.o.alloc (.cells #[.int .i64 (p.kind:Nat),T,.string ⟨p.name.toArray⟩,.string ⟨p.op.toArray⟩,.slice pa pl pc,p.quoted] 67)).drewN nq);have J6:=Hd AO;have SB:=Hd LT;clear AO LT;go_wp2_with (at_builtin;refine nR _ rfl (.tmp 63) (.tmp 65) _ rfl 0 67 i0 _ 6 88 Tryz.underlying29 fo fC fp fq rfl oM (.slice none 0 0) 0 (bg [] us) rfl (aK.alloc _) ⟨wr.heap.size+1,0,none⟩ 1 1 [.int .i64 (p.kind:Nat),T,.string ⟨p.name.toArray⟩,.string ⟨p.op.toArray⟩,.slice pa pl pc,p.quoted] rfl rfl (nK (cs:=#[.int .i64 (p.kind:Nat),.string T,.string ⟨p.name.toArray⟩,.string ⟨p.op.toArray⟩,.slice pa pl pc,.bool p.quoted]) (t:=67) (fr:=(0,0)) (pA _ _ _ _)) oC oM uM oM sI (wr.heap.size+2) sI ?_;intro gg aC w1 fS ao bf eC)
      have B1:w.heap.size≤gg:=by
       exact N0
      have bt:K0 w w1:=(((HK.o.alloc _).drewN nq).alloc _).grown ao (λ y hy Hp=>by cases hy);have mr:=fs.more (w:=w) (out:=[]) (p:=p) SB.o J6.o Pn.o (by rw [cH,dj,←HT.o];exact fS) B1;have HM:=Hd mr;have dp:=Hd bt;clear mr bt fS ao bf;go_wp2_with fail;go_roundw
      case rel=>exact⟨k+1,em,by go_num,rfl,oM,Hd (by rw [eI.o];exact HM.o),dp,Hd (λ e=>by rw [eI.o] at e;simp [qq] at e)⟩
      case measure=>simp [intOf];omega
    ·subst pB;have bS:(l++[y]).length=l.length+1:=sI
     have Di:=Hd bS;have hll:l.length≤1000000:=by
      exact P8
     obtain⟨_,us0,LU,oX,_,_⟩:=HO.o;have LN:=uZ (l:=l++[y]) (i:=l.length) (by rw [bS] at oX;exact oX) (by rw [bS]) LU (by rw [bS];omega);have Ho:(l++[y])[l.length]'(by rw [bS];omega)=y:=sI
     rw [Ho] at LN;obtain⟨r0,r1,_,_,_,_⟩:=LN;obtain⟨TY,Tl⟩:∃TY:ByteArray,TY=⟨y.text.toArray⟩:=⟨_,rfl⟩;have Ls:TY.data.toList=y.text:=by rw [Tl]
     unfold dj at r1;rw [←Tl] at r1;have HTY:=Hd Ls;have rf:=oX;rw [bS] at rf;have rfr:=rf.frozenAt (l.length*6+1);have aaI:=Hd LU;clear Tl Ls oX Ho rf;have kW:(y.joins p=false∧((((p.kind:Int)==2)=false∧((y.kind:Int)==(p.kind:Int))=false)∨(((p.kind:Int)==2)=false∧((y.kind:Int)==(p.kind:Int))=true∧((p.kind:Int)==1)=false)∨(((p.kind:Int)==2)=true∧T.toList.isEmpty=false∧(T.toList==[])=false∧((y.kind:Int)==(p.kind:Int))=false)))∨
      (y.joins p=true∧((((p.kind:Int)==2)=false∧((y.kind:Int)==(p.kind:Int))=true∧((p.kind:Int)==1)=true)∨(((p.kind:Int)==2)=true∧T.toList.isEmpty=false∧(T.toList==[])=false∧((y.kind:Int)==(p.kind:Int))=true∧((p.kind:Int)==1)=false))):=by
      exact Wg
     have pW:¬9223372036854775807<TY.size+T.size:=by
      exact WH
     clear e1;have p3:0≤(l.length:Int)+1:=oM
     have p4:(l.length:Int)<(l.length:Int)+1:=oM
     rcases kW with ⟨hj,kW⟩ | ⟨hj,kW⟩
     ·have vW:(cZ (raw.take (k+1))).1=l++[y]++[p]:=by rw [eI.o,zY hj]
      replace eI:=Hd vW;clear vW hj;rcases kW with ⟨e1,e2⟩ | ⟨e1,e2,e3⟩ | ⟨e1,e2,e3,e4⟩
      all_goals
       go_wp2_with fail;go_quiet (fail);obtain⟨_,us,LT,aK,_,AO⟩:=((HO.o.alloc (.cells #[.int .i64 (p.kind:Nat),T,.string ⟨p.name.toArray⟩,.string ⟨p.op.toArray⟩,.slice pa pl pc,p.quoted] 67)).drewN nq);have J6:=Hd AO;have SB:=Hd LT;clear AO LT;go_wp2_with (at_builtin;refine nR _ rfl (.tmp 63) (.tmp 65) _ rfl 0 67 i0 _ 6 88 Tryz.underlying29 fo fC fp fq rfl oM (.slice (some ⟨go,0,none⟩) (l.length+1) co) (l.length+1) (bg (l++[y]) us) rfl (by have:=aK.alloc (.cells #[.int .i64 (p.kind:Nat),T,.string ⟨p.name.toArray⟩,.string ⟨p.op.toArray⟩,.slice pa pl pc,p.quoted] 67);rwa [bS] at this) ⟨wr.heap.size+1,0,none⟩ 1 1 [.int .i64 (p.kind:Nat),T,.string ⟨p.name.toArray⟩,.string ⟨p.op.toArray⟩,.slice pa pl pc,p.quoted] rfl rfl (nK (cs:=#[.int .i64 (p.kind:Nat),.string T,.string ⟨p.name.toArray⟩,.string ⟨p.op.toArray⟩,.slice pa pl pc,.bool p.quoted]) (t:=67) (fr:=(0,0)) (pA _ _ _ _)) oC oM uM oM sI (wr.heap.size+2) sI ?_;intro gg aC w1 fS ao bf eC)
       have B1:w.heap.size≤gg:=by
        exact N0
       have bt:K0 w w1:=(((HK.o.alloc _).drewN nq).alloc _).grown ao (λ yy hy Hp=>by have h9:go=yy:=nD hy;omega);have mr:=fs.more (w:=w) (out:=l++[y]) (p:=p) SB.o J6.o Pn.o (by rw [cH,dj,←HT.o,bS];exact fS) B1;have HM:=Hd mr;have dp:=Hd bt;clear mr bt fS ao bf;go_wp2_with fail;go_roundw
       case rel=>exact⟨k+1,em,by go_num,rfl,oM,Hd (by rw [eI.o];have:=HM.o;rwa [Di.o] at this),dp,Hd (λ e=>by rw [eI.o] at e;simp at e)⟩
       case measure=>simp [intOf];omega
     ·have vW:(cZ (raw.take (k+1))).1=l++[y.join p]:=by rw [eI.o,rx hj]
      replace eI:=Hd vW;clear vW hj;rcases kW with ⟨e1,e2,e3⟩ | ⟨e1,e2,e3,e4,e5⟩
      all_goals
       go_wp2_with fail;go_quiet (fail);go_wp2_with fail;go_region;go_wp2_with fail;go_roundw
       case rel=>
        refine⟨k+1,em,by go_num,rfl,oM,Hd ?_,Hd ?_,Hd (λ e=>by rw [eI.o] at e;simp at e)⟩
        ·exact WA
        ·exact QE
       case measure=>simp [intOf];omega
  ·obtain rfl:k=raw.length:=oM
   have cm:cZ (raw.take raw.length)=cZ raw:=by rw [List.take_length]
   rw [cm] at HO Vd;have oR:(cZ raw).2=decide (0<raw.length):=wL _;have oW:¬(raw.length:Int)<(raw.length:Int):=oM
   rcases HO.o.shape with ⟨rfl,pB⟩ | ⟨l,y,go,co,pB,rfl,hgo,G6,yg,Tp⟩
   ·have rh:=Vd.o pB;rcases Nat.eq_zero_or_pos raw.length with sV | sV
    ·have ht:eh raw=[]:=by unfold eh;rw [pB,oR,sV];rfl
     have HT:=Hd ht;rw [sV] at rh;have aa3:em=false:=rh;subst aa3;clear ht pB oR cm sV rh Vd;exact QB
    ·have ht:eh raw=[cq []]:=by unfold eh;rw [pB,oR,nU sV];rfl
     have HT:=Hd ht;rw [nU sV] at rh;subst rh;clear ht pB oR cm Vd;have Hf:=World.ownsRow_nil wr 0 67 6;go_wp2_with (at_builtin;refine nR _ rfl (.tmp 73) (.tmp 75) _ rfl 0 67 i0 _ 6 88 Tryz.underlying29 fo fC fp fq rfl oM (.slice none 0 0) 0 [] rfl (Hf.alloc _) ⟨wr.heap.size,0,none⟩ 1 1 [.int .i64 2,eS,eS,eS,(),false] rfl rfl (nK (cs:=#[.int .i64 2,.string ⟨#[]⟩,.string ⟨#[]⟩,.string ⟨#[]⟩,.slice none 0 0,.bool false]) (t:=67) (fr:=(0,0)) (nG wr _)) oC oM uM oM sI (wr.heap.size+1) sI ?_;intro gg aC w1 fS ao bf eC)
     go_ret;have B1:w.heap.size≤gg:=by
      have Nm:=HK.o.size;rcases bf with bf | bf
      ·cases bf
      ·omega
     obtain⟨n2,hn2⟩:=DY (D:=λ b=>B≤b) (raw:=[cq []]) fS (λ i h=>by match i,h with | 0,_=>rfl) (λ g hg=>by obtain rfl:gg=g:=nD hg;omega);refine⟨_,n2,rfl,by rw [HT.o];exact hn2,(HK.o.alloc _).grown ao (λ y hy Hp=>by cases hy)⟩
   ·have ht:eh raw=l++[y]:=by
     unfold eh;rw [pB,show (l++[y]).isEmpty=false by cases l<;>rfl];rfl
    have HT:=Hd ht;have e1:((l.length:Int)+1==0)=false:=by rw [nA];omega
    have Tj:=HO.o;rw [pB] at Tj;have Sl:=Hd Tj;clear ht oR cm pB Tj Vd;go_wp2_with fail;go_ret;refine⟨_,n+1,rfl,?_,HK.o⟩;rw [HT.o];exact Sl.o.reads HK.o (λ x hx=>hx.1) (λ x hx=>oM)
def so (wh:Bool) (d:Nat) (q:Bool):Nat→List UInt8→mH
 | 0,_=>.error 0
 | n+1,r=>match r with
  | []=>.ok ([],[])
  | c::_=>if decide (0<d) && c==125 || !wh && decide (d=0) && bY c then .ok ([],r) else match d7 (.one q) d r with
   | .error e=>.error e
   | .ok (l,r1)=>(so wh d q n r1).ahead l
theorem Fb (wh:Bool) (d:Nat) (q:Bool):∀(n m:Nat) (r:List UInt8),r.length<n→r.length<m→so wh d q n r=so wh d q m r:=by
 intro n;induction n with
 | zero=>intro m r hn;omega
 | succ n ih=>
  intro m r hn hm;cases m with
  | zero=>omega
  | succ m=>
   unfold so;cases r with
   | nil=>rfl
   | cons c t=>
    dsimp only;split
    ·rfl
    ·cases h:d7 (.one q) d (c::t) with
     | error e=>rfl
     | ok x=>
      exact PW
def fJ (wh:Bool) (d:Nat) (q:Bool) (r:List UInt8):mH:=so wh d q (r.length+1) r
theorem qX (wh:Bool) (d:Nat) (q:Bool):fJ wh d q []=.ok ([],[]):=rfl
theorem lV (wh:Bool) (d:Nat) (q:Bool) (c:UInt8) (t:List UInt8):fJ wh d q (c::t)=if decide (0<d) && c==125 || !wh && decide (d=0) && bY c then .ok ([],c::t) else match d7 (.one q) d (c::t) with
 | .error e=>.error e
 | .ok (l,r1)=>(fJ wh d q r1).ahead l:=by
 unfold fJ;rw [so];split
 ·rfl
 ·cases h:d7 (.one q) d (c::t) with
  | error e=>rfl
  | ok x=>
   obtain⟨l,r1⟩:=x;have hl:=cS _ _ _ _ _ _ h;simp only [Md.least,lC] at hl;dsimp only;rw [Fb wh d q (c::t).length (r1.length+1) r1 (by simp only [lC];omega) oM]
theorem ul (wh:Bool):∀(k:Nat) (r:List UInt8),r.length≤k→fJ wh 0 false r=kv wh r
 | _,[],_=>rfl
 | 0,c::t,h=>by simp at h
 | k+1,c::t,h=>by
  rw [lV,jx];have e:(decide (0<0) && c==125 || !wh && decide (0=0) && bY c)=(!wh && bY c):=sI
  rw [e];split
  ·rfl
  ·cases h2:d7 (.one false) 0 (c::t) with
   | error e=>rfl
   | ok x=>
    obtain⟨l,r1⟩:=x;have hl:=cS _ _ _ _ _ _ h2;simp only [Md.least,lC] at hl h;dsimp only;rw [ul wh k r1 oM]
theorem Ft (d:Nat) (q:Bool) (hd:0<d):∀(k:Nat) (r:List UInt8),r.length≤k→(d7 (.br q) d r=match fJ true d q r with
 | .error e=>.error e
 | .ok (l,r1)=>(match r1 with | []=>.error 2 | _::t=>.ok (l,t)))∧∀l c t,fJ true d q r=.ok (l,c::t)→c=125
 | _,[],_=>⟨by rw [AR,qX],λ l c t h=>by rw [qX] at h;cases h⟩
 | 0,c::t,h=>by simp at h
 | k+1,c::t,h=>by
  rw [AR,lV];have e:(decide (0<d) && c==125 || !true && decide (d=0) && bY c)=(c==125):=by rw [nU hd];simp
  rw [e];dsimp only;by_cases hc:(c==125)=true
  ·rw [nE hc,nE hc];exact⟨rfl,λ l c' t' h=>by
    obtain⟨_,h2⟩:=uJ (uI h);obtain⟨rfl,_⟩:=List.cons.inj h2;exact nH.1 hc⟩
  ·rw [nF hc,nF hc];cases h2:d7 (.one q) d (c::t) with
   | error e=>exact⟨rfl,λ l c' t' h=>by cases h⟩
   | ok x=>
    obtain⟨l,r1⟩:=x;have hl:=cS _ _ _ _ _ _ h2;simp only [Md.least,lC] at hl h;obtain⟨i1,i2⟩:=Ft d q hd k r1 oM;dsimp only;rw [i1];refine⟨?_,λ l' c' t' h3=>?_⟩
    ·cases h4:fJ true d q r1 with
     | error e=>rfl
     | ok y=>
      obtain⟨l4,r4⟩:=y;dsimp only;cases r4 with
      | nil=>rfl
      | cons c4 t4=>rfl
    ·obtain⟨m',h5,_⟩:=gY h3;exact i2 _ _ _ h5
def Fh (w:World) (cs:Nat) (s:ByteArray) (d:Nat) (res:mH) (e:Ending) (w':World):Prop:=
 match res with
 | .ok (l,r)=>∃(v:Value) (n i:Nat),e=.returned v∧i≤s.size∧rest s i=r∧ah w' cs s i ((0:Nat):Int)∧az w' (λ b=>w.heap.size≤b) n (eh l) v∧ae (λ b=>b=cs) w w'
 | .error x=>x≠0∧∃(v:Value) (n i:Nat) (l:List Pt),e=.returned v∧i≤s.size+(101 - d)∧ah w' cs s i (x:Int)∧az w' (λ b=>w.heap.size≤b) n l v∧ae (λ b=>b=cs) w w'
def Dx (N:Nat):Prop:=∀(cs:Nat) (s:ByteArray) (I d:Nat) (wh q:Bool) (w:World),ah w cs s I ((0:Nat):Int)→I≤s.size→s.size≤20000→d≤40→cs<w.heap.size→s.size - I<N→
 Calls Tryz.prog 24 #[.pointer (some ⟨cs,0,none⟩),wh,d,q] w (Fh w cs s d (fJ wh d q (rest s I)))
def zL (N:Nat):Prop:=∀(B cs:Nat) (s:ByteArray) (I d:Nat) (q:Bool) (v:Value) (raw:List Pt) (w:World),ah w cs s I ((0:Nat):Int)→I≤s.size→s.size≤20000→d≤40→tu w B v raw→cs<B→B≤w.heap.size→er raw+2≤2*I→s.size - I<N→
 Calls Tryz.prog 71 #[.pointer (some ⟨cs,0,none⟩),v,.int .i64 d,.bool q] w (oH w B cs s (100 - d) raw (d7 (.brace q) d (rest s I)))
def JG (N:Nat):Prop:=∀(B cs:Nat) (s:ByteArray) (I d:Nat) (q:Bool) (v:Value) (raw:List Pt) (w:World),ah w cs s I ((0:Nat):Int)→I<s.size→s.size≤20000→d≤40→tu w B v raw→cs<B→B≤w.heap.size→er raw≤2*I→s.size - I≤N→
 Calls Tryz.prog 45 #[.pointer (some ⟨cs,0,none⟩),v,.int .i64 d,.bool q] w (oH w B cs s (100 - d) raw (d7 (.dol q) d (rest s (I+1))))
def Py (N:Nat):Prop:=∀(B cs:Nat) (s:ByteArray) (I d:Nat) (v:Value) (raw:List Pt) (w:World),ah w cs s I ((0:Nat):Int)→I<s.size→s.size≤20000→d≤40→tu w B v raw→cs<B→B≤w.heap.size→er raw≤2*I→s.size - I≤N→
 Calls Tryz.prog 42 #[.pointer (some ⟨cs,0,none⟩),v,.int .i64 d] w (oH w B cs s (100 - d) raw (d7 (.one true) d (rest s I)))
end Go.Proofs.YtiihpbccabeoeaaGreatDoor
