/- The walk: a part. -/
import Derived.Test.YtiihpbccabeoeaaGreatDoorVM
import Derived.Test.YtiihpbccabeoeaaGreatDoorVPkE
namespace Go.Proofs.YtiihpbccabeoeaaGreatDoor
open Go.RowKit
set_option linter.unusedVariables false
set_option maxRecDepth 100000
set_option maxHeartbeats 16000000
theorem FI:(bG 61 || bR 61)=false:=dC
theorem Gh:∀a b:List UInt8,bE (a++61::b)=bE a
 | [],b=>by
  show (if (bG 61 || bR 61)=true then bE b+1 else 0)=0;rw [FI,nF sI]
 | c::a,b=>by
  show (if (bG c || bR c)=true then bE (a++61::b)+1 else 0)=if (bG c || bR c)=true then bE a+1 else 0;rw [Gh a b]
theorem T7:∀a b:List UInt8,a≠[]→cU (a++61::b)=cU a
 | [],b,h=>nQ rfl h
 | c::a,b,h=>by
  show (if bG c=true then bE (a++61::b)+1 else 0)=if bG c=true then bE a+1 else 0;rw [Gh a b]
theorem yR:∀{s nm rest:List UInt8},iO s=some (nm,rest)→s=nm++61::rest
 | [],nm,rest,h=>by cases h
 | c::t,nm,rest,h=>by
  unfold iO at h;split at h
  ·next hc=>
   cases h;rw [nH] at hc;rw [hc];rfl
  ·cases ht:iO t with
   | none=>rw [ht] at h;cases h
   | some p=>
    obtain⟨a,b⟩:=p;rw [ht] at h;cases h;rw [yR ht];rfl
theorem BQ:∀{s:List UInt8},s[bE s]? = some 61→iO s=some (s.take (bE s),s.drop (bE s+1))
 | [],h=>by simp at h
 | c::t,h=>by
  unfold bE at h ⊢;by_cases hc:(bG c || bR c)=true
  ·rw [nE hc] at h ⊢;rw [List.getElem?_cons_succ] at h;have cM:(c==61)=false:=by
    rw [nA];intro e;rw [e,FI] at hc;cases hc
   unfold iO;rw [cM,nF sI,BQ h];rfl
  ·rw [nF hc] at h ⊢;have e:c=61:=by simpa using h
   subst e;rfl
theorem N9:∀{s:List UInt8},0<cU s→s[cU s]? = some 61→iO s=some (s.take (cU s),s.drop (cU s+1))
 | [],h0,h=>by cases h0
 | c::t,h0,h=>by
  by_cases hc:bG c=true
  ·have e:cU (c::t)=bE t+1:=nE hc;rw [e] at h ⊢;rw [List.getElem?_cons_succ] at h;have cM:(c==61)=false:=by
    rw [nA];intro e;rw [e] at hc;exact nQ hc dC
   unfold iO;rw [cM,nF sI,BQ h];rfl
  ·have e:cU (c::t)=0:=nF hc;rw [e] at h0;cases h0
theorem zD:∀s:List UInt8,bE (s.take (bE s))=bE s
 | []=>rfl
 | c::t=>by
  by_cases hc:(bG c || bR c)=true
  ·have e:bE (c::t)=bE t+1:=nE hc;rw [e,List.take_succ_cons];show (if (bG c || bR c)=true then bE (t.take (bE t))+1 else 0)=_;rw [nE hc,zD t]
  ·have e:bE (c::t)=0:=nF hc;rw [e];rfl
theorem MD:∀s:List UInt8,cU (s.take (cU s))=cU s
 | []=>rfl
 | c::t=>by
  by_cases hc:bG c=true
  ·have e:cU (c::t)=bE t+1:=nE hc;rw [e,List.take_succ_cons];show (if bG c=true then bE (t.take (bE t))+1 else 0)=_;rw [nE hc,zD t]
  ·have e:cU (c::t)=0:=nF hc;rw [e];rfl
theorem CW:∀s:List UInt8,bE s≤s.length
 | []=>nC _
 | c::t=>by
  unfold bE;split
  ·have:=CW t;rw [lC];omega
  ·exact nB _
theorem Gc:∀s:List UInt8,cU s≤s.length
 | []=>nC _
 | c::t=>by
  by_cases hc:bG c=true
  ·have e:cU (c::t)=bE t+1:=nE hc;have:=CW t;rw [e,lC];omega
  ·have e:cU (c::t)=0:=nF hc;rw [e];exact nB _
def uS:List Pt→Option (Bs×List Pt)
 | []=>none
 | p::t=>if p.kind==1 then (if 0<cU p.text∧cU p.text≤60∧p.text[cU p.text]? = some 61 then some (p.text.take (cU p.text),if (p.text.drop (cU p.text+1)).isEmpty then t else dD (p.text.drop (cU p.text+1))::t) else none) else none
theorem vu (w:List Pt):uS w=dw w:=by
 cases w with
 | nil=>rfl
 | cons p t=>
  unfold uS dw;dsimp only;by_cases hk:(p.kind==1)=true
  ·rw [nE hk,nE hk];generalize p.text=s;by_cases hq:0<cU s∧cU s≤60∧s[cU s]? = some 61
   ·obtain⟨h1,h2,h3⟩:=hq;rw [nE ⟨h1,h2,h3⟩,N9 h1 h3];dsimp only;have hl:(s.take (cU s)).length=cU s:=by rw [List.length_take];have:=Gc s;omega
    have hn:bK (s.take (cU s))=true:=by
     unfold bK;rw [MD,hl];simp only [nW,Bool.not_eq_true',decide_eq_true_eq,beq_self_eq_true,and_true];refine⟨?_,h2⟩;rw [List.isEmpty_eq_false_iff];intro e;rw [e] at hl;simp at hl;omega
    rw [hn,nE rfl]
   ·rw [nF hq];cases hc:iO s with
    | none=>rfl
    | some x=>
     obtain⟨nm,rest⟩:=x;dsimp only;rw [nF];intro hn;unfold bK at hn;simp only [nW,Bool.not_eq_true',decide_eq_true_eq,nH] at hn;obtain⟨⟨h1,h2⟩,h3⟩:=hn;have cM:nm≠[]:=by rw [List.isEmpty_eq_false_iff] at h1;exact h1
     have hs:=yR hc;have hr:cU s=nm.length:=by rw [hs,T7 nm rest cM,h3]
     refine hq ⟨?_,oM,?_⟩
     ·have:0<nm.length:=List.length_pos_iff.2 cM;omega
     ·rw [hr,hs];simp
  ·rw [nF hk,nF hk]
def kA:List Bs:=[[116,104,101,110],[101,108,105,102],[101,108,115,101],[102,105],[100,111],[100,111,110,101],[101,115,97,99],[125]]
def dk (ts:List Tk):Bool:=ts.isEmpty || aj [41] ts || aj [59,59] ts || kA.contains (aJ (ch ts))
def gj (ts:List Tk):Bool:=fe.contains (aJ (ch ts)) || aj [40] ts
theorem lj {t:Tk} (h:(t.kind==1)=false):aJ t=[]:=by unfold aJ;rw [h];rfl
theorem rC (ts:List Tk):bB ts=(((ch ts).kind==1) && !bJ.contains (aJ (ch ts)) || gj ts || bP ts):=by
 unfold bB gj aj bP;generalize ch ts=t;cases hk:(t.kind==1) with
 | true=>
  have h2:(t.kind==2)=false:=by rw [nH] at hk;rw [hk];rfl
  rw [h2,nE rfl];cases hr:bJ.contains (aJ t) with
  | true=>simp
  | false=>
   have hs:fe.contains (aJ t)=false:=by
    rw [←Bool.not_eq_true];intro hh;have:bJ.contains (aJ t)=true:=by
     exact PT
    rw [this] at hr;cases hr
   simp
 | false=>
  rw [nF sI,lj hk];rw [show fe.contains ([]:Bs)=false from dC];simp
theorem CE (ts:List Tk):bP ts=(aj [60] ts || aj [62] ts || aj [62,62] ts || aj [50,62] ts || aj [50,62,62] ts):=by
 unfold bP aj;generalize ch ts=t;cases hk:(t.kind==2) with
 | false=>simp
 | true=>
  simp only [Bool.true_and];rw [Bool.eq_iff_iff,List.contains_iff_mem];simp only [wZ,List.mem_cons,List.not_mem_nil,or_false,Bool.or_eq_true,nH,or_assoc]
structure QS (w:World) (Lo B ps:Nat) (tv:Value) (n:Nat) (T:List Tk) (i x:Nat):Prop where
 rd:af w ps [tv,.int .i64 (i:Nat),.int .i64 (x:Nat)]
 toks:fO w (λ b=>Lo≤b∧b<B) n T tv
 ps:B≤ps
 i:i≤T.length+1000
 sm:NM T
theorem QS.lt {w:World} {Lo B ps:Nat} {tv:Value} {n:Nat} {T:List Tk} {i x:Nat} (h:QS w Lo B ps tv n T i x):ps<w.heap.size:=h.rd.lt
theorem QS.keep {w w':World} {Lo B ps:Nat} {tv:Value} {n:Nat} {T:List Tk} {i x:Nat} {S:Nat→Prop} (h:QS w Lo B ps tv n T i x) (hk:ae S w w') (hS:∀b,b<B→¬S b) (hc:¬S ps):QS w' Lo B ps tv n T i x:=
 ⟨h.rd.keep hk hc,h.toks.keep hk (λ b _ hb=>hS b hb.2),h.ps,h.i,h.sm⟩
theorem QS.keep0 {w w':World} {Lo B ps:Nat} {tv:Value} {n:Nat} {T:List Tk} {i x:Nat} (h:QS w Lo B ps tv n T i x) (hk:K0 w w'):QS w' Lo B ps tv n T i x:=h.keep hk (λ_ _ x=>x) (λ x=>x)
theorem QS.shape {w:World} {Lo B ps:Nat} {tv:Value} {n:Nat} {T:List Tk} {i x:Nat} (h:QS w Lo B ps tv n T i x):∃a c,tv=.slice a T.length c∧T.length≤c∧c≤maxLen:=h.toks.shape
theorem QS.cells {w:World} {Lo B ps:Nat} {tv:Value} {n:Nat} {T:List Tk} {i x:Nat} (h:QS w Lo B ps tv n T i x) :
 w.cell? ⟨ps,0,none⟩=some tv∧w.cell? ⟨ps,1,none⟩=some (.int .i64 (i:Nat))∧w.cell? ⟨ps,2,none⟩=some (.int .i64 (x:Nat))∧
 w.frozen? ⟨ps,1,none⟩=false∧w.frozen? ⟨ps,2,none⟩=false:=by
 exact QO
theorem QS.set1 {w:World} {Lo B ps:Nat} {tv:Value} {n:Nat} {T:List Tk} {i x:Nat} (h:QS w Lo B ps tv n T i x) {j:Nat} (hj:j≤T.length+1000):QS (w.setCell ⟨ps,1,none⟩ (.int .i64 (j:Nat))) Lo B ps tv n T j x∧ae (λ b=>b=ps) w (w.setCell ⟨ps,1,none⟩ (.int .i64 (j:Nat))):=by
 have hk:ae (λ b=>b=ps) w (w.setCell ⟨ps,1,none⟩ (.int .i64 (j:Nat))):=(ae.refl _ _).setCell _ _ λ_=>rfl;have hB:=h.ps;exact⟨⟨h.rd.set 1 _,h.toks.keep hk (λ b _ hb e=>by have:=hb.2;omega),h.ps,hj,h.sm⟩,hk⟩
theorem QS.set2 {w:World} {Lo B ps:Nat} {tv:Value} {n:Nat} {T:List Tk} {i x:Nat} (h:QS w Lo B ps tv n T i x) (y:Nat):QS (w.setCell ⟨ps,2,none⟩ (.int .i64 (y:Nat))) Lo B ps tv n T i y∧ae (λ b=>b=ps) w (w.setCell ⟨ps,2,none⟩ (.int .i64 (y:Nat))):=by
 have hk:ae (λ b=>b=ps) w (w.setCell ⟨ps,2,none⟩ (.int .i64 (y:Nat))):=(ae.refl _ _).setCell _ _ λ_=>rfl;have hB:=h.ps;exact⟨⟨h.rd.set 2 _,h.toks.keep hk (λ b _ hb e=>by have:=hb.2;omega),h.ps,h.i,h.sm⟩,hk⟩
theorem eg (w:World) (Lo B ps n i x y:Nat) (tv:Value) (T:List Tk) (h:QS w Lo B ps tv n T i x) :
 Calls Tryz.prog 162 #[.pointer (some ⟨ps,0,none⟩),.int .i64 (y:Nat)] w λ e w'=>e=.returned (.tuple #[])∧QS w' Lo B ps tv n T i (if x=0 then y else x)∧ae (λ b=>b=ps) w w':=by
 obtain⟨c0,c1,c2,f1,f2⟩:=h.cells;by_cases hx:x=0
 ·subst hx;rw [nE rfl];go_enter Tryz.func162,Tryz.ntmps162;go_wp2_with fail;go_end0;exact⟨rfl,(h.set2 y).1,(h.set2 y).2⟩
 ·rw [nF hx];have t:((x:Int)==0)=false:=by rw [nA];omega
  clear hx;go_enter Tryz.func162,Tryz.ntmps162;go_wp2_with fail;go_end0;exact⟨rfl,h,ae.refl _ _⟩
theorem F8 (w:World) (Lo B ps n i x:Nat) (tv:Value) (T:List Tk) (s:List UInt8) (h:QS w Lo B ps tv n T i x) :
 Calls Tryz.prog 93 #[.pointer (some ⟨ps,0,none⟩),.string ⟨s.toArray⟩] w λ e w'=>e=.returned (.bool (aj s (T.drop i)))∧∃q,w'=w.drewN q:=by
 obtain⟨c0,c1,c2,f1,f2⟩:=h.cells;have aW:=h.lt;have Jd:=dY;obtain⟨ta,tc,rfl,ko,il⟩:=h.shape;obtain⟨r,hr⟩:∃r,r=aj s (T.drop i):=⟨_,rfl⟩;rw [←hr];rcases nP i T.length with hi | hi
 ·obtain⟨g,o,xa,xl,xc,rfl,⟨q0,q1,q2⟩,hx,hg⟩:=h.toks.at (ae.refl _ _) hi;unfold aj at hr;rw [fY hi] at hr;generalize T[i]=t at *;have p1:(i:Int)<(T.length:Int):=oM
  unfold dj at q1;obtain⟨L,hL⟩:∃L,L=T.length:=⟨_,rfl⟩;obtain⟨kd,kn⟩:∃kd,kd=t.kind:=⟨_,rfl⟩;obtain⟨tx,yY⟩:∃tx,tx=t.text:=⟨_,rfl⟩;rw [←yY] at q1 hr;rw [←kn] at q0 hr;rw [←hL] at c0 p1;have HR:=Hd hr;clear h hi hx hL kn yY hr;by_cases hk:kd=2
  ·subst hk;cases hs:(tx==s) with
   | true=>
    have gF:=Hd (show r=true by rw [HR.o,hs];rfl);clear HR;exact FE
   | false=>
    have gF:=Hd (show r=false by rw [HR.o,hs];rfl);clear HR;exact FE
  ·have t0:((kd:Int)==2)=false:=by rw [nA];omega
   have gF:=Hd (show r=false by
    rw [HR.o,show (kd==2)=false from by rw [nA];exact hk];rfl)
   clear HR hk;exact FE
 ·have gF:=Hd (show r=false by rw [hr];unfold aj;rw [iM hi];rfl);obtain⟨L,hL⟩:∃L,L=T.length:=⟨_,rfl⟩;rw [←hL] at c0 hi;have p1:¬(i:Int)<(L:Int):=oM
  have p2:(i<L)=False:=eq_false oM;clear h hr hL;exact FE
theorem pJ (w:World) (Lo B ps n i x:Nat) (tv:Value) (T:List Tk) (h:QS w Lo B ps tv n T i x) :
 Calls Tryz.prog 143 #[.pointer (some ⟨ps,0,none⟩)] w λ e w'=>e=.returned (.bool ((ch (T.drop i)).kind==1))∧∃q,w'=w.drewN q:=by
 obtain⟨c0,c1,c2,f1,f2⟩:=h.cells;have aW:=h.lt;have Jd:=dY;obtain⟨ta,tc,rfl,ko,il⟩:=h.shape;obtain⟨r,hr⟩:∃r,r=((ch (T.drop i)).kind==1):=⟨_,rfl⟩;rw [←hr];rcases nP i T.length with hi | hi
 ·obtain⟨g,o,xa,xl,xc,rfl,⟨q0,q1,q2⟩,hx,hg⟩:=h.toks.at (ae.refl _ _) hi;rw [fY hi] at hr;generalize T[i]=t at *;have p1:(i:Int)<(T.length:Int):=oM
  obtain⟨L,hL⟩:∃L,L=T.length:=⟨_,rfl⟩;obtain⟨kd,kn⟩:∃kd,kd=t.kind:=⟨_,rfl⟩;rw [←kn] at q0 hr;rw [←hL] at c0 p1;have HR:=Hd hr;clear h hi hx hL kn hr q1 q2;by_cases hk:kd=1
  ·subst hk;have gF:=Hd (show r=true from HR.o);clear HR;exact KR
  ·have t0:((kd:Int)==1)=false:=by rw [nA];omega
   have gF:=Hd (show r=false by rw [HR.o,nA];exact hk);clear HR hk;exact KR
 ·have gF:=Hd (show r=false by rw [hr,iM hi];rfl);obtain⟨L,hL⟩:∃L,L=T.length:=⟨_,rfl⟩;rw [←hL] at c0 hi;have p1:¬(i:Int)<(L:Int):=oM
  have p2:(i<L)=False:=eq_false oM;clear h hr hL;exact KR
theorem ED (w:World) (Lo B ps n i x:Nat) (tv:Value) (T:List Tk) (h:QS w Lo B ps tv n T i x) :
 Calls Tryz.prog 124 #[.pointer (some ⟨ps,0,none⟩)] w λ e w'=>e=.returned (dj (aJ (ch (T.drop i))))∧∃q,w'=w.drewN q:=by
 have Jd:=dY;have yT:=bW;have HH:=Lib.hid h;cases hk:((ch (T.drop i)).kind==1) with
 | false=>
  have hp:aJ (ch (T.drop i))=[]:=lj hk;rw [hp];have hw:=pJ w Lo B ps n i x tv T h;rw [hk] at hw;have HW:=Hd hw;clear h hw hp hk;go_enter Tryz.func124,Tryz.ntmps124;go_wp2_with fail;refine HW.o.mono ?_;exact KN
 | true=>
  have hi:i<T.length:=by
   exact Kq
  have hw:=pJ w Lo B ps n i x tv T h;rw [hk] at hw;have HW:=Hd hw;obtain⟨c0,c1,c2,f1,f2⟩:=h.cells;have aW:=h.lt;obtain⟨ta,tc,rfl,ko,il⟩:=h.shape;obtain⟨g,o,xa,xl,xc,rfl,⟨q0,q1,q2⟩,hx,hg⟩:=h.toks.at (ae.refl _ _) hi;obtain⟨ya,yc,Ho,Da,qG⟩:=hx.shape;injection Ho with e1 e2 e3;subst e1 e2 e3;rw [fY hi] at hk ⊢;obtain⟨t,ht⟩:∃t,t=T[i]:=⟨_,rfl⟩;rw [←ht] at hk q2 hx Da ⊢;have p1:(i:Int)<(T.length:Int):=oM
  obtain⟨L,hL⟩:∃L,L=T.length:=⟨_,rfl⟩;rw [←hL] at c0 p1;obtain⟨r,hr⟩:∃r,r=aJ t:=⟨_,rfl⟩;rw [←hr];unfold aJ at hr;rw [hk,nE rfl] at hr;by_cases hl:t.word.length=1
  ·obtain⟨p,hp⟩:∃p,t.word=[p]:=List.length_eq_one_iff.1 hl;rw [hp] at hx q2 hr;obtain⟨g2,o2,za,zl,zc,rfl,⟨s0,s1,s2,s3,s4,s5⟩,hz,_,tQ⟩:=hx.at (ae.refl _ _) (i:=0) sI;have q2':w.cell? ⟨g,o+i*3+2,none⟩=some (.slice (some ⟨g2,o2,none⟩) 1 xc):=q2;have s0':w.cell? ⟨g2,o2,none⟩=some (.int .i64 (p.kind:Nat)):=by simpa using s0
   have s1':w.cell? ⟨g2,o2+1,none⟩=some (dj p.text):=by simpa using s1
   obtain⟨tx,yY⟩:∃tx:ByteArray,tx=⟨p.text.toArray⟩:=⟨_,rfl⟩;unfold dj at s1';rw [←yY] at s1';obtain⟨kd,kn⟩:∃kd,kd=p.kind:=⟨_,rfl⟩;rw [←kn] at s0';dsimp only at hr;rw [←kn] at hr;have HTX:=Hd yY;have HR:=Hd hr;clear h hi hx hz hL ht hr kn yY q0 q1 q2 s0 s1 s2 s3 s4 s5 hk hl hp hw Da qG;by_cases bt:kd=1
   ·subst bt;have gF:=Hd (show .string tx=dj r by rw [HTX.o,HR.o];rfl);clear HR;go_enter Tryz.func124,Tryz.ntmps124;go_wp2_with fail;refine HW.o.mono ?_;rintro e w1 ⟨rfl,q,rfl⟩;go_wp2_with fail;go_quiet (fail);go_wp2_with fail;go_ret;exact⟨by rw [←gF.o];rfl,q+nq,rfl⟩
   ·have t0:((kd:Int)==1)=false:=by rw [nA];omega
    have gF:=Hd (show r=[] by rw [HR.o,nF (by rw [nH];exact bt)]);clear HR bt;exact PI
  ·have sV:r=[]:=by
    rw [hr];split
    ·next p hp=>rw [hp] at hl;exact nQ rfl hl
    ·rfl
   have t0:((t.word.length:Int)==1)=false:=by rw [nA];omega
   obtain⟨wl,iZ⟩:∃wl,wl=t.word.length:=⟨_,rfl⟩;rw [←iZ] at q2 t0;have gF:=Hd sV;clear h hi hx hL ht hr sV q0 q1 hk hl hw iZ Da qG;exact PI
theorem de (w:World) (Lo B ps n i x:Nat) (tv:Value) (T:List Tk) (h:QS w Lo B ps tv n T i x) :
 Calls Tryz.prog 62 #[.pointer (some ⟨ps,0,none⟩)] w λ e w'=>e=.returned (.tuple #[])∧∃j,i≤j∧(i≤T.length→j≤T.length)∧(T.length≤i→j=i)∧T.drop j=ai (T.drop i)∧QS w' Lo B ps tv n T j x∧ae (λ b=>b=ps) w w':=by
 go_enter Tryz.func62,Tryz.ntmps62;go_wp2_with fail;go_loopg [] (T.length - i) (λ k wr=>∃I:Nat,k=T.length - I∧i≤I∧(i≤T.length→I≤T.length)∧(T.length≤i→I=i)∧QS wr Lo B ps tv n T I x∧ae (λ b=>b=ps) w wr∧ai (T.drop I)=ai (T.drop i))
 case atStart=>exact⟨i,rfl,nC _,id,λ_=>rfl,h,ae.refl _ _,rfl⟩
 case round=>
  obtain⟨I,eH,h1,h2,h3,hs,hk,hl⟩:=hrel;have HS:=Hd hs;have HK:=Hd hk;have HL:=Hd hl;have fK:=Hd eH;have hm:T.length≤20000:=hs.sm.1;have hI:=hs.i;have hw:=F8 wr Lo B ps n I x tv T [10] hs;cases ho:aj [10] (T.drop I) with
  | true=>
   have aW:I<T.length:=by
    rcases nP I T.length with hi | hi
    ·exact hi
    ·rw [show aj [10] (T.drop I)=false by unfold aj;rw [iM hi];rfl] at ho;cases ho
   rw [ho] at hw;have HW:=Hd hw;have oW:ai (T.drop (I+1))=ai (T.drop i):=by
    rw [←hl,List.drop_eq_getElem_cons aW];unfold aj at ho;rw [fY aW] at ho;show _=(if T[I].kind==2 && T[I].text==[10] then ai (T.drop (I+1)) else _);rw [ho,nE rfl]
   have Nu:=Hd oW;clear eH hs hk hl hw ho oW h;go_wp2_with fail;refine HW.o.mono ?_;rintro e w1 ⟨rfl,q,rfl⟩;obtain⟨w2,aQ⟩:∃w2,w2=wr.drewN q:=⟨_,rfl⟩;rw [←aQ];have aS:K0 wr w2:=by rw [aQ];exact (ae.refl _ _).drewN _
   have gS:=Hd (HS.o.keep0 aS);have cA:=Hd (HK.o.trans aS (λ_ _ h=>h.elim));obtain⟨c0,c1,c2,f1,f2⟩:=gS.o.cells;have eC:=gS.o.lt;clear aQ aS;go_wp2_with fail;obtain⟨a1,a2⟩:=gS.o.set1 (j:=I+1) oM;have Vc:=Hd a1;have R1:=Hd (cA.o.trans a2 k3);clear a1 a2;go_roundg (T.length - (I+1))
   case measure=>have:=fK.o;omega
   case rel=>exact⟨I+1,rfl,oM,λ_=>oM,λ_=>oM,by simpa using Vc.o,by simpa using R1.o,Nu.o⟩
  | false=>
   rw [ho] at hw;have HW:=Hd hw;have oW:ai (T.drop I)=T.drop I:=by
    rcases nP I T.length with hi | hi
    ·rw [List.drop_eq_getElem_cons hi];unfold aj at ho;rw [fY hi] at ho;show (if T[I].kind==2 && T[I].text==[10] then ai (T.drop (I+1)) else T[I]::T.drop (I+1))=_;rw [ho];rfl
    ·rw [List.drop_eq_nil_of_le hi];rfl
   have Nu:=Hd (show T.drop I=ai (T.drop i) by rw [←hl,oW]);clear eH hs hk hl hw ho oW h;go_wp2_with fail;refine HW.o.mono ?_;rintro e w1 ⟨rfl,q,rfl⟩;go_wp2_with fail;go_end0;exact⟨rfl,I,h1,h2,h3,Nu.o,HS.o.keep0 ((ae.refl _ _).drewN _),HK.o.trans ((ae.refl (λ_=>False) _).drewN q) (λ_ _ h=>h.elim)⟩
theorem d9 {s l:List UInt8} (h:¬s=l):(s==l)=false:=by
 rw [nA];exact h
theorem QS.drewN {w:World} {Lo B ps:Nat} {tv:Value} {n:Nat} {T:List Tk} {i x:Nat} (h:QS w Lo B ps tv n T i x) (q:Nat):QS (w.drewN q) Lo B ps tv n T i x:=h.keep0 ((ae.refl _ _).drewN _)
theorem aY {w:World} {Lo B ps n i x:Nat} {tv:Value} {T:List Tk} (h:QS w Lo B ps tv n T i x) (s:List UInt8) (b:Bool) (hb:aj s (T.drop i)=b) (q:Nat) :
 Calls Tryz.prog 93 #[.pointer (some ⟨ps,0,none⟩),.string ⟨s.toArray⟩] (w.drewN q) λ e w'=>e=.returned (.bool b)∧∃q',w'=w.drewN q':=by
 subst hb;exact (F8 (w.drewN q) Lo B ps n i x tv T s (h.drewN q)).mono λ e w' ⟨h1,q',h2⟩=>⟨h1,q+q',by rw [h2,World.drewN_drewN]⟩
theorem di {w:World} {Lo B ps n i x:Nat} {tv:Value} {T:List Tk} (h:QS w Lo B ps tv n T i x) (s:List UInt8) (hs:aJ (ch (T.drop i))=s) (q:Nat) :
 Calls Tryz.prog 124 #[.pointer (some ⟨ps,0,none⟩)] (w.drewN q) λ e w'=>e=.returned (.string ⟨s.toArray⟩)∧∃q',w'=w.drewN q':=by
 subst hs;exact (ED (w.drewN q) Lo B ps n i x tv T (h.drewN q)).mono λ e w' ⟨h1,q',h2⟩=>⟨h1,q+q',by rw [h2,World.drewN_drewN]⟩
theorem qN (w:World) (Lo B ps n i x:Nat) (tv:Value) (T:List Tk) (h:QS w Lo B ps tv n T i x) :
 Calls Tryz.prog 161 #[.pointer (some ⟨ps,0,none⟩)] w λ e w'=>e=.returned (.bool (bP (T.drop i)))∧∃q,w'=w.drewN q:=by
 rw [CE];cases h0:aj [60] (T.drop i) with
 | true=>
  have H0:=Hd (aY h [60] true h0);clear h h0;go_enter Tryz.func161,Tryz.ntmps161;go_wp2_with fail;refine (H0.o 0).mono ?_;rintro e w0 ⟨rfl,q0,rfl⟩;go_wp2_with fail;go_ret;exact⟨rfl,q0,rfl⟩
 | false=>
 cases h1:aj [62] (T.drop i) with
 | true=>
  have H0:=Hd (aY h [60] false h0);have H1:=Hd (aY h [62] true h1);clear h h0 h1;go_enter Tryz.func161,Tryz.ntmps161;go_wp2_with fail;refine (H0.o 0).mono ?_;rintro e w0 ⟨rfl,q0,rfl⟩;go_wp2_with fail;refine (H1.o q0).mono ?_;rintro e w1 ⟨rfl,q1,rfl⟩;go_wp2_with fail;go_ret;exact⟨rfl,q1,rfl⟩
 | false=>
 cases h2:aj [62,62] (T.drop i) with
 | true=>
  have H0:=Hd (aY h [60] false h0);have H1:=Hd (aY h [62] false h1);have H2:=Hd (aY h [62,62] true h2);clear h h0 h1 h2;go_enter Tryz.func161,Tryz.ntmps161;go_wp2_with fail;refine (H0.o 0).mono ?_;rintro e w0 ⟨rfl,q0,rfl⟩;go_wp2_with fail;refine (H1.o q0).mono ?_;rintro e w1 ⟨rfl,q1,rfl⟩;go_wp2_with fail;refine (H2.o q1).mono ?_;exact QL
 | false=>
 cases h3:aj [50,62] (T.drop i) with
 | true=>
  have H0:=Hd (aY h [60] false h0);have H1:=Hd (aY h [62] false h1);have H2:=Hd (aY h [62,62] false h2);have H3:=Hd (aY h [50,62] true h3);clear h h0 h1 h2 h3;go_enter Tryz.func161,Tryz.ntmps161;go_wp2_with fail;refine (H0.o 0).mono ?_;rintro e w0 ⟨rfl,q0,rfl⟩;go_wp2_with fail;refine (H1.o q0).mono ?_;rintro e w1 ⟨rfl,q1,rfl⟩;go_wp2_with fail;refine (H2.o q1).mono ?_;rintro e w2 ⟨rfl,q2,rfl⟩
  go_wp2_with fail;refine (H3.o q2).mono ?_;rintro e w3 ⟨rfl,q3,rfl⟩;go_wp2_with fail;go_ret;exact⟨rfl,q3,rfl⟩
 | false=>
 cases h4:aj [50,62,62] (T.drop i) with
 | true=>
  have H0:=Hd (aY h [60] false h0);have H1:=Hd (aY h [62] false h1);have H2:=Hd (aY h [62,62] false h2);have H3:=Hd (aY h [50,62] false h3);have H4:=Hd (aY h [50,62,62] true h4);exact Wv
 | false=>
 have H0:=Hd (aY h [60] false h0);have H1:=Hd (aY h [62] false h1);have H2:=Hd (aY h [62,62] false h2);have H3:=Hd (aY h [50,62] false h3);have H4:=Hd (aY h [50,62,62] false h4);exact Wv
theorem te (w:World) (Lo B ps n i x:Nat) (tv:Value) (T:List Tk) (h:QS w Lo B ps tv n T i x) :
 Calls Tryz.prog 160 #[.pointer (some ⟨ps,0,none⟩)] w λ e w'=>e=.returned (.bool (gj (T.drop i)))∧∃q,w'=w.drewN q:=by
 obtain⟨s,hs⟩:∃s,aJ (ch (T.drop i))=s:=⟨_,rfl⟩;unfold gj;rw [hs];have HP:=Hd (di h s hs);by_cases hm:s∈fe
 ·rw [show fe.contains s=true from List.contains_iff_mem.2 hm,Bool.true_or];simp only [fe,List.mem_cons,List.not_mem_nil,or_false] at hm;clear h hs;rcases hm with rfl | rfl | rfl | rfl | rfl | rfl
  all_goals
   go_enter Tryz.func160,Tryz.ntmps160;go_wp2_with fail;refine (HP.o 0).mono ?_;exact KN
 ·rw [show fe.contains s=false by rw [←Bool.not_eq_true,List.contains_iff_mem];exact hm,Bool.false_or];obtain⟨b,hb⟩:∃b,aj [40] (T.drop i)=b:=⟨_,rfl⟩;rw [hb];have HO:=Hd (aY h [40] b hb);simp only [fe,List.mem_cons,List.not_mem_nil,or_false,not_or] at hm;obtain⟨m0,m1,m2,m3,m4,m5⟩:=hm;have n0:(s==[105,102])=false:=d9 m0;have n1:(s==[119,104,105,108,101])=false:=d9 m1;have n2:(s==[117,110,116,105,108])=false:=d9 m2
  have n3:(s==[102,111,114])=false:=d9 m3;have n4:(s==[99,97,115,101])=false:=d9 m4;have n5:(s==[123])=false:=d9 m5;clear h hs hb m0 m1 m2 m3 m4 m5;go_enter Tryz.func160,Tryz.ntmps160;go_wp2_with fail;refine (HP.o 0).mono ?_;rintro e w1 ⟨rfl,q,rfl⟩;go_wp2_with fail;refine (HO.o q).mono ?_;exact QL
theorem yr (w:World) (s:List UInt8):Calls Tryz.prog 159 #[.string ⟨s.toArray⟩] w λ e w'=>e=.returned (.bool (bJ.contains s))∧w'=w:=by
 by_cases hm:s∈bJ
 ·rw [show bJ.contains s=true from List.contains_iff_mem.2 hm];simp only [bJ,List.mem_cons,List.not_mem_nil,or_false] at hm;rcases hm with rfl | rfl | rfl | rfl | rfl | rfl | rfl | rfl | rfl | rfl | rfl | rfl | rfl | rfl | rfl | rfl
  all_goals
   go_enter Tryz.func159,Tryz.ntmps159;exact xY
 ·rw [show bJ.contains s=false by rw [←Bool.not_eq_true,List.contains_iff_mem];exact hm];simp only [bJ,List.mem_cons,List.not_mem_nil,or_false,not_or] at hm;obtain⟨m0,m1,m2,m3,m4,m5,m6,m7,m8,m9,m10,m11,m12,m13,m14,m15⟩:=hm;have n0:(s==[105,102])=false:=d9 m0;have n1:(s==[116,104,101,110])=false:=d9 m1;have n2:(s==[101,108,105,102])=false:=d9 m2;have n3:(s==[101,108,115,101])=false:=d9 m3
  have n4:(s==[102,105])=false:=d9 m4;have n5:(s==[119,104,105,108,101])=false:=d9 m5;have n6:(s==[117,110,116,105,108])=false:=d9 m6;have n7:(s==[100,111])=false:=d9 m7;have n8:(s==[100,111,110,101])=false:=d9 m8;have n9:(s==[102,111,114])=false:=d9 m9;have n10:(s==[105,110])=false:=d9 m10;have n11:(s==[99,97,115,101])=false:=d9 m11;have n12:(s==[101,115,97,99])=false:=d9 m12
  have n13:(s==[123])=false:=d9 m13;have n14:(s==[125])=false:=d9 m14;have n15:(s==[33])=false:=d9 m15;clear m0 m1 m2 m3 m4 m5 m6 m7 m8 m9 m10 m11 m12 m13 m14 m15;go_enter Tryz.func159,Tryz.ntmps159;exact xY
theorem t7 (w:World) (Lo B ps n i x:Nat) (tv:Value) (T:List Tk) (h:QS w Lo B ps tv n T i x) :
 Calls Tryz.prog 95 #[.pointer (some ⟨ps,0,none⟩)] w λ e w'=>e=.returned (.bool (dk (T.drop i)))∧∃q,w'=w.drewN q:=by
 obtain⟨c0,c1,c2,f1,f2⟩:=h.cells;have aW:=h.lt;obtain⟨ta,tc,rfl,ko,il⟩:=h.shape;unfold dk;rcases nP i T.length with hi | hi
 ·have he:(T.drop i).isEmpty=false:=by
   rw [List.isEmpty_eq_false_iff];exact Qy
  rw [he,Bool.false_or];cases h0:aj [41] (T.drop i) with
  | true=>
   have H0:=Hd (show ∀q,Calls Tryz.prog 93 #[.pointer (some ⟨ps,0,none⟩),.string ⟨#[41]⟩] (w.drewN q) (λ e w'=>e=.returned (.bool true)∧∃q',w'=w.drewN q') from aY h [41] true h0);rw [Bool.true_or,Bool.true_or];obtain⟨K,hK⟩:∃K,K=T.length:=⟨_,rfl⟩;rw [←hK] at c0 hi;have p1:¬(K:Int)≤(i:Int):=oM
   have p2:(K≤i)=False:=eq_false oM;clear h h0 hK he;go_enter Tryz.func95,Tryz.ntmps95;go_wp2_with fail;go_quiet ((go_at_call 93;with_reducible exact H0.o _));exact KX
  | false=>
   cases h1:aj [59,59] (T.drop i) with
   | true=>
    have H0:=Hd (show ∀q,Calls Tryz.prog 93 #[.pointer (some ⟨ps,0,none⟩),.string ⟨#[41]⟩] (w.drewN q) (λ e w'=>e=.returned (.bool false)∧∃q',w'=w.drewN q') from aY h [41] false h0);have H1:=Hd (show ∀q,Calls Tryz.prog 93 #[.pointer (some ⟨ps,0,none⟩),.string ⟨#[59,59]⟩] (w.drewN q) (λ e w'=>e=.returned (.bool true)∧∃q',w'=w.drewN q') from aY h [59,59] true h1);rw [Bool.false_or,Bool.true_or]
    obtain⟨K,hK⟩:∃K,K=T.length:=⟨_,rfl⟩;rw [←hK] at c0 hi;have p1:¬(K:Int)≤(i:Int):=oM
    have p2:(K≤i)=False:=eq_false oM;clear h h0 h1 hK he;go_enter Tryz.func95,Tryz.ntmps95;go_wp2_with fail;go_quiet ((go_at_call 93;first | with_reducible exact H0.o _ | with_reducible exact H1.o _));exact KX
   | false=>
    have H0:=Hd (show ∀q,Calls Tryz.prog 93 #[.pointer (some ⟨ps,0,none⟩),.string ⟨#[41]⟩] (w.drewN q) (λ e w'=>e=.returned (.bool false)∧∃q',w'=w.drewN q') from aY h [41] false h0);have H1:=Hd (show ∀q,Calls Tryz.prog 93 #[.pointer (some ⟨ps,0,none⟩),.string ⟨#[59,59]⟩] (w.drewN q) (λ e w'=>e=.returned (.bool false)∧∃q',w'=w.drewN q') from aY h [59,59] false h1);rw [Bool.false_or,Bool.false_or]
    obtain⟨s,hs⟩:∃s,aJ (ch (T.drop i))=s:=⟨_,rfl⟩;have HP:=Hd (di h s hs);rw [hs];obtain⟨K,hK⟩:∃K,K=T.length:=⟨_,rfl⟩;rw [←hK] at c0 hi;have p1:¬(K:Int)≤(i:Int):=oM
    have p2:(K≤i)=False:=eq_false oM;clear h h0 h1 hK he hs;by_cases hm:s∈kA
    ·rw [show kA.contains s=true from List.contains_iff_mem.2 hm];simp only [kA,List.mem_cons,List.not_mem_nil,or_false] at hm;rcases hm with rfl | rfl | rfl | rfl | rfl | rfl | rfl | rfl
     all_goals
      exact WK
    ·rw [show kA.contains s=false by rw [←Bool.not_eq_true,List.contains_iff_mem];exact hm];simp only [kA,List.mem_cons,List.not_mem_nil,or_false,not_or] at hm;obtain⟨m0,m1,m2,m3,m4,m5,m6,m7⟩:=hm;have n0:(s==[116,104,101,110])=false:=d9 m0;have n1:(s==[101,108,105,102])=false:=d9 m1;have n2:(s==[101,108,115,101])=false:=d9 m2;have n3:(s==[102,105])=false:=d9 m3;have n4:(s==[100,111])=false:=d9 m4
     have n5:(s==[100,111,110,101])=false:=d9 m5;have n6:(s==[101,115,97,99])=false:=d9 m6;have n7:(s==[125])=false:=d9 m7;clear m0 m1 m2 m3 m4 m5 m6 m7;exact WK
 ·have he:(T.drop i).isEmpty=true:=by rw [List.drop_eq_nil_of_le hi];rfl
  rw [he,Bool.true_or,Bool.true_or,Bool.true_or];obtain⟨K,hK⟩:∃K,K=T.length:=⟨_,rfl⟩;rw [←hK] at c0 hi;have p1:(K:Int)≤(i:Int):=oM
  clear h hK he;go_enter Tryz.func95,Tryz.ntmps95;exact KS
theorem eL (w:World) (Lo B ps n i x:Nat) (tv:Value) (T:List Tk) (s:List UInt8) (h:QS w Lo B ps tv n T i x) (hi:i+1≤T.length+1000) :
 Calls Tryz.prog 180 #[.pointer (some ⟨ps,0,none⟩),.string ⟨s.toArray⟩] w λ e w'=>e=.returned (.tuple #[])∧QS w' Lo B ps tv n T (i+1) (if x=0 then (if aF s (T.drop i) then 0 else 2) else x)∧ae (λ b=>b=ps) w w':=by
 have hm:T.length≤20000:=h.sm.1;have pW:IntKind.i64.wrap ((i:Int)+1)=(i:Int)+1:=nL _ oM;by_cases hx:x=0
 ·subst hx;rw [nE rfl];obtain⟨p,hp⟩:∃p,aJ (ch (T.drop i))=p:=⟨_,rfl⟩;have HP:=Hd (di h p hp 0);have hw:aF s (T.drop i)=(p==s):=by unfold aF;rw [hp]
  rw [hw];have HH:=Lib.hid h;obtain⟨d0,d1,d2,g1,g2⟩:=h.cells;have abK:=h.lt;clear hp hw h;cases hb:(p==s) with
  | true=>
   rw [nE rfl];go_enter Tryz.func180,Tryz.ntmps180;go_wp2_with fail;refine HP.o.mono ?_;rintro e w1 ⟨rfl,q,rfl⟩;obtain⟨c0,c1,c2,f1,f2⟩:=(HH.o.drewN q).cells;have aW:=(HH.o.drewN q).lt;go_wp2_with fail;go_end0;have h2:=(HH.o.drewN q).set1 (j:=i+1) hi;exact⟨rfl,by simpa using h2.1,by simpa using ((ae.refl (λ b=>b=ps) w).drewN q).trans h2.2 k3⟩
  | false=>
   rw [nF sI];go_enter Tryz.func180,Tryz.ntmps180;go_wp2_with fail;refine HP.o.mono ?_;rintro e w1 ⟨rfl,q,rfl⟩;go_wp2_with fail;refine (eg (w.drewN q) Lo B ps n i 0 2 tv T (HH.o.drewN q)).mono ?_;rintro e w2 ⟨rfl,h2,aS⟩;rw [nE rfl] at h2;have H2:=Hd h2;have cA:=Hd aS;obtain⟨c0,c1,c2,f1,f2⟩:=h2.cells;have aW:=h2.lt;clear h2 aS;go_wp2_with fail;go_end0;have h3:=H2.o.set1 (j:=i+1) hi
   exact⟨rfl,by simpa using h3.1,by simpa using ((((ae.refl (λ b=>b=ps) w).drewN q).trans cA.o k3).trans h3.2 k3)⟩
 ·have t:((x:Int)==0)=false:=by rw [nA];omega
  rw [nF hx];have HH:=Lib.hid h;obtain⟨c0,c1,c2,f1,f2⟩:=h.cells;have aW:=h.lt;clear h hx;go_enter Tryz.func180,Tryz.ntmps180;go_wp2_with fail;go_end0;have h3:=HH.o.set1 (j:=i+1) hi;exact⟨rfl,by simpa using h3.1,by simpa using h3.2⟩
def sK (w:World) (res:Except Nat (List Dt)) (e:Ending) (w':World):Prop:=match res with
 | .ok ds=>∃(a:OA) (m c:Nat),e=.returned (.tuple #[.slice a m c,.int .i64 0])∧Rd w' (λ b=>w.heap.size≤b) (.sl 8 ds) (.slice a m c)∧K0 w w'
 | .error x=>e=.returned (.tuple #[(),.int .i64 (x:Nat)])∧K0 w w'
def iK (K:Nat):Prop:=∀(w:World) (s:List UInt8) (aN:Nat),s.length≤140737488351232→aN+K=41→
 Calls Tryz.prog 20 #[.string ⟨s.toArray⟩,.int .i64 (aN:Nat)] w (sK w (eQ (ab K) s))
theorem O1 {K:Nat} {s:Bs} {w w':World} {e:Ending} {u:Unit} (h:av (ab K) s=.ok u) (hp:sK w (eQ (ab K) s) e w') :
 ∃(a:OA) (m c:Nat),e=.returned (.tuple #[.slice a m c,.int .i64 0])∧K0 w w':=by
 exact WR
theorem Mu {K:Nat} {s:Bs} {w w':World} {e:Ending} {y:Nat} (h:av (ab K) s=.error y) (hp:sK w (eQ (ab K) s) e w') :
 e=.returned (.tuple #[(),.int .i64 (y:Nat)])∧y≠0∧K0 w w':=by
 exact PH
theorem zp (scr:Bs→Except Nat Unit):ec scr []=.ok ():=by simp [ec]
theorem wY (scr:Bs→Except Nat Unit) (p:Pt) (l:List Pt):ec scr (p::l)=match (if p.kind==5 then scr p.text else .ok ()) with
 | .error e=>.error e
 | .ok _=>match ec scr p.word with
  | .error e=>.error e
  | .ok _=>ec scr l:=by
 exact PP
theorem Ir (w:World) (Lo B ps n i x:Nat) (tv:Value) (T:List Tk) (a:OA) (m c aN:Nat) (h:QS w Lo B ps tv n T i x) (hx:x≠0) :
 Calls Tryz.prog 201 #[.pointer (some ⟨ps,0,none⟩),.slice a m c,.int .i64 (aN:Nat)] w λ e w'=>e=.returned (.tuple #[])∧w'=w:=by
 obtain⟨c0,c1,c2,f1,f2⟩:=h.cells;have aW:=h.lt;have t:((x:Int)==0)=false:=by rw [nA];omega
 clear h hx;by_cases hm:0<m
 ·have p1:(0:Int)<(m:Int):=oM
  exact WS
 ·obtain rfl:m=0:=oM
  exact WS
theorem OW {w:World} {D:Nat→Prop} {n:Nat} {l:List Pt} {g o k c i:Nat} (h:az w D n l (.slice (some ⟨g,o,none⟩) k c)) (hi:i<l.length):D g:=by
 cases n with
 | zero=>obtain⟨rfl,_⟩:=h;simp at hi
 | succ n=>
  obtain⟨a,c,e,_,_,H⟩:=h;obtain⟨b,gQ,wv,ea,hb,hd,_,_⟩:=H i hi;injection e with e1 e2 e3;have e4:=e1.trans ea;injection e4 with e4;injection e4 with e4 e5 e6;rw [e4];exact hd
def VP (w:World) (Lo B ps:Nat) (tv:Value) (n:Nat) (T:List Tk) (i:Nat) (res:Except Nat Unit) (e:Ending) (w':World):Prop:=
 ∃x,e=.returned (.tuple #[])∧QS w' Lo B ps tv n T i x∧(match res with | .ok _=>x=0 | .error y=>x=y∧y≠0)∧ae (λ b=>b=ps) w w'
theorem EE (K aN:Nat) (cR:iK K) (hd:aN+1+K=41) (N:Nat):∀(n:Nat),n<N→∀(w:World) (Lo B ps:Nat) (tv:Value) (n':Nat) (T:List Tk) (i:Nat) (l:List Pt) (v:Value),QS w Lo B ps tv n' T i 0→az w (λ b=>Lo≤b∧b<B) n l v→Sm l→
 Calls Tryz.prog 201 #[.pointer (some ⟨ps,0,none⟩),v,.int .i64 (aN:Nat)] w (VP w Lo B ps tv n' T i (ec (av (ab K)) l)):=by
 have HD:=Hd hd;have Je:IntKind.i64.wrap ((aN:Int)+1)=(aN:Int)+1:=nL _ oM;clear hd;induction N with
 | zero=>intro n hn;omega
 | succ N ih=>
  intro n hn w Lo B ps tv n' T i l v hq hp gM;obtain⟨res,ag⟩:∃res,res=ec (av (ab K)) l:=⟨_,rfl⟩;rw [←ag];have yT:=bW;obtain⟨va,vc,rfl,Hj,hv2⟩:=hp.shape;have bS:=gM.1;have Bw:=Hd gM.2;have HQ:=Hd hq;have HP:=Hd hp;have vi:=Hd cR;have M6:=Hd ih;obtain⟨L,hL⟩:∃L,L=l.length:=⟨_,rfl⟩;have HL:=Hd hL;rw [←hL] at bS Hj;rw [←hL];have oE:=Hd ag;have Hg:=hq.ps;clear hq hp cR gM hL ag ih
  go_enter Tryz.func201,Tryz.ntmps201;go_wp2_with fail;go_loopw [6] (λ k' wr=>∃k x:Nat,k'=.int .i64 k∧k≤L∧Hid (QS wr Lo B ps tv n' T i x)∧Hid (ae (λ b=>b=ps) w wr)∧((x=0∧Hid (res=ec (av (ab K)) (l.drop k)))∨(x≠0∧Hid (res=.error x)))) (λ k' _=>L - (intOf k').toNat)
  case atStart=>exact⟨0,0,rfl,nB _,HQ,Hd (ae.refl _ _),.inl ⟨rfl,Hd oE.o⟩⟩
  case round=>
   obtain⟨k,x,rfl,hk,HS,HK,fB⟩:=hrel;obtain⟨c0,c1,c2,f1,f2⟩:=HS.o.cells;have aW:=HS.o.lt;rcases fB with ⟨rfl,HT⟩ | ⟨hx,HT⟩
   ·by_cases oU:k<L
    ·have eC:k<l.length:=by rw [←HL.o];exact oU
     have hp:=HP.o.keep HK.o (λ b _ hb e=>by have:=hb.2;omega);rw [←HL.o] at hp;obtain⟨g,o,xa,xl,xc,rfl,⟨q0,q1,q2,q3,q4,q5⟩,hx,Jj,hg⟩:=hp.at (ae.refl _ _) eC;have Jm:=ns Bw.o (uD eC);have hgB:g<B:=(OW (D:=λ b=>Lo≤b∧b<B) hp eC).2;have ag:res=match (if l[k].kind==5 then av (ab K) l[k].text else .ok ()) with
      | .error e=>.error e
      | .ok _=>match ec (av (ab K)) l[k].word with
       | .error e=>.error e
       | .ok _=>ec (av (ab K)) (l.drop (k+1)):=by
      rw [HT.o,List.drop_eq_getElem_cons eC,wY]
     obtain⟨z,hze⟩:∃z,z=l[k]:=⟨_,rfl⟩;rw [←hze] at q0 q1 q2 q3 q5 hx Jm ag;unfold dj at q1 q2 q3;have p1:(k:Int)<(L:Int):=oM
     have ay:=Hd ag;have HX:=Hd hx;have Sx:=Hd Jm;have HN:=Hd (show n - 1<N by omega);clear ag hx Jm hze hp eC HT;by_cases k5:z.kind=5
     ·have t0:((z.kind:Int)==5)=true:=by rw [nH];omega
      have ag:=ay.o;rw [k5,nE rF] at ag;clear k5;cases eY:av (ab K) z.text with
      | error y=>
       rw [eY] at ag;have bO:=Hd ag;have cK:=Hd eY;clear ag eY ay;go_wp2_with fail;refine (vi.o wr z.text (aN+1) (by have:=Sx.o.1;omega) (by have:=HD.o;omega)).mono ?_;intro e w3 hp;obtain⟨rfl,hy,aV⟩:=Mu cK.o hp;have t1:((y:Int) != 0)=true:=by rw [bne_iff_ne];omega
       have eF:=Hd (HS.o.keep0 aV);have bZ:=Hd aV;have HY:=Hd hy;clear hp aV hy;go_wp2_with fail;refine (eg w3 Lo B ps n' i 0 y tv T eF.o).mono ?_;rintro e w4 ⟨rfl,h4,be⟩;rw [nE rfl] at h4;have iG:=Hd h4;have eU:=Hd ((bZ.o.mono (T:=λ b=>b=ps) (λ_ _ h=>h.elim)).trans be k3);have b4:=(uH (a:=⟨g,o+k*6+4,none⟩) (eU.o.block g hg (λ e=>oM))).trans q4
       have st:=Hd (HK.o.trans eU.o k3);clear h4 be;go_wp2_with fail;refine (Ir w4 Lo B ps n' i y tv T xa xl xc aN iG.o HY.o).mono ?_;rintro e w5 ⟨rfl,rfl⟩;go_wp2_with fail;go_roundw
       case rel=>exact⟨k+1,y,by go_num,oM,iG,st,.inr ⟨HY.o,bO⟩⟩
       case measure=>simp [intOf];omega
      | ok u=>
       rw [eY] at ag;replace ay:=Hd ag;have cK:=Hd eY;clear ag eY;go_wp2_with fail;refine (vi.o wr z.text (aN+1) (by have:=Sx.o.1;omega) (by have:=HD.o;omega)).mono ?_;intro e w3 hp;obtain⟨sa,sm,sc,rfl,aV⟩:=O1 cK.o hp;have eF:=Hd (HS.o.keep0 aV);have bZ:=Hd (HK.o.trans aV (λ_ _ h=>h.elim));have b4:=(uH (a:=⟨g,o+k*6+4,none⟩) (aV.block g hg (λ h=>h))).trans q4
       have hg3:g<w3.heap.size:=uG hg aV.size;have uQ:=Hd (HX.o.keep aV (λ_ _ _ h=>h));clear hp aV;go_wp2_with fail;refine (M6.o (n - 1) HN.o w3 Lo B ps tv n' T i z.word (.slice xa xl xc) eF.o uQ.o Sx.o.2).mono ?_;intro e w5 hp5;obtain⟨x2,rfl,h5,XN,bi⟩:=hp5;have l6:=Hd h5;have fL:=Hd (bZ.o.trans bi k3);exact Wl
     ·have t0:((z.kind:Int)==5)=false:=by rw [nA];omega
      have ag:=ay.o;rw [nF (by simpa using k5)] at ag;replace ay:=Hd ag;clear ag k5;go_wp2_with fail;refine (M6.o (n - 1) HN.o wr Lo B ps tv n' T i z.word (.slice xa xl xc) HS.o HX.o Sx.o.2).mono ?_;intro e w5 hp5;obtain⟨x2,rfl,h5,XN,bi⟩:=hp5;have l6:=Hd h5;have fL:=Hd (HK.o.trans bi k3);exact Wl
    ·have p1:¬(k:Int)<(L:Int):=oM
     have hr:res=.ok ():=by
      rw [HT.o,List.drop_eq_nil_of_le (by have:=HL.o;omega),zp]
     have HR:=Hd hr;clear hr;go_wp2_with fail;go_end0;rw [HR.o];exact⟨0,rfl,HS.o,rfl,HK.o⟩
   ·have t0:((x:Int)==0)=false:=by rw [nA];omega
    have ct:=Hd hx;clear hx;by_cases oU:k<L
    ·have p1:(k:Int)<(L:Int):=oM
     exact QC
    ·have p1:¬(k:Int)<(L:Int):=oM
     exact QC
theorem ll {w:World} {Lo B ps n i x:Nat} {tv:Value} {T:List Tk} (h:QS w Lo B ps tv n T i x) (b:Bool) (hb:((ch (T.drop i)).kind==1)=b) (q:Nat) :
 Calls Tryz.prog 143 #[.pointer (some ⟨ps,0,none⟩)] (w.drewN q) λ e w'=>e=.returned (.bool b)∧∃q',w'=w.drewN q':=by
 subst hb;exact (pJ (w.drewN q) Lo B ps n i x tv T (h.drewN q)).mono λ e w' ⟨h1,q',h2⟩=>⟨h1,q+q',by rw [h2,World.drewN_drewN]⟩
def uw (ts:List Tk):Bool:=(ch ts).kind==1 && !(ch ts).word.isEmpty
theorem EF (w:World) (Lo B ps n i x aN:Nat) (tv:Value) (T:List Tk) (h:QS w Lo B ps tv n T i x) (hw:uw (T.drop i)=false) :
 Calls Tryz.prog 185 #[.pointer (some ⟨ps,0,none⟩),.int .i64 (aN:Nat)] w λ e w'=>e=.returned (.slice none 0 0)∧QS w' Lo B ps tv n T i (if x=0 then 2 else x)∧ae (λ b=>b=ps) w w':=by
 have Jd:=dY;obtain⟨c0,c1,c2,f1,f2⟩:=h.cells;have aW:=h.lt;have HH:=Lib.hid h;obtain⟨y,hy⟩:∃y,y=(if x=0 then 2 else x):=⟨_,rfl⟩;rw [←hy];have HY:=Hd hy;clear hy;cases hk:((ch (T.drop i)).kind==1) with
 | false=>
  have HW:=Hd (ll h false hk);clear h hw hk;go_enter Tryz.func185,Tryz.ntmps185;go_wp2_with fail;go_quiet ((go_at_call 143;exact HW.o _));go_wp2_with fail;refine (eg _ Lo B ps n i x 2 tv T (HH.o.drewN _)).mono ?_;exact PD
 | true=>
  have hi:i<T.length:=by
   exact Kq
  have HW:=Hd (ll h true hk);obtain⟨ta,tc,rfl,ko,il⟩:=h.shape;obtain⟨g,o,xa,xl,xc,rfl,⟨q0,q1,q2⟩,hx,hg⟩:=h.toks.at (ae.refl _ _) hi;unfold uw at hw;rw [hk,Bool.true_and] at hw;rw [fY hi] at hw;obtain⟨ya,yc,Ho,Da,qG⟩:=hx.shape;injection Ho with e1 e2 e3;subst e1 e2 e3;have hl:(T[i].word).length=0:=by
   rw [Bool.not_eq_false',List.isEmpty_iff] at hw;rw [hw];rfl
  rw [hl] at q2;obtain⟨K,hK⟩:∃K,K=T.length:=⟨_,rfl⟩;rw [←hK] at c0 hi;have p1:(i:Int)<(K:Int):=oM
  clear h hw hk hx q0 q1 hK hl Da qG ko il;go_enter Tryz.func185,Tryz.ntmps185;go_wp2_with fail;go_quiet ((go_at_call 143;exact HW.o _));go_wp2_with fail;refine (eg _ Lo B ps n i x 2 _ T (HH.o.drewN _)).mono ?_;exact PD
def VR (w:World) (Lo B ps:Nat) (tv:Value) (n:Nat) (T:List Tk) (i:Nat) (wd:List Pt) (x:Nat) (e:Ending) (w':World):Prop:=
 ∃a c,e=.returned (.slice a wd.length c)∧az w' (λ b=>Lo≤b∧b<B) n wd (.slice a wd.length c)∧QS w' Lo B ps tv n T (i+1) x∧ae (λ b=>b=ps) w w'
theorem EG (w:World) (Lo B ps n i x aN:Nat) (tv:Value) (T:List Tk) (h:QS w Lo B ps tv n T i x) (hw:uw (T.drop i)=true) (Q:Nat→Prop)
 (OD:∀(w2:World) (v:Value),QS w2 Lo B ps tv n T i x→az w2 (λ b=>Lo≤b∧b<B) n (ch (T.drop i)).word v→Calls Tryz.prog 201 #[.pointer (some ⟨ps,0,none⟩),v,.int .i64 (aN:Nat)] w2 λ e w'=>∃y,e=.returned (.tuple #[])∧QS w' Lo B ps tv n T i y∧Q y∧ae (λ b=>b=ps) w2 w') :
 Calls Tryz.prog 185 #[.pointer (some ⟨ps,0,none⟩),.int .i64 (aN:Nat)] w λ e w'=>i<T.length∧∃y,Q y∧VR w Lo B ps tv n T i (ch (T.drop i)).word y e w':=by
 have Jd:=dY;obtain⟨c0,c1,c2,f1,f2⟩:=h.cells;have aW:=h.lt;have HH:=Lib.hid h;unfold uw at hw;rw [nW] at hw;obtain⟨hk,cM⟩:=hw;have hi:i<T.length:=by
  exact Kq
 have HW:=Hd (ll h true hk);have VD:=Hd OD;have Hg:=h.ps;obtain⟨ta,tc,rfl,ko,il⟩:=h.shape;obtain⟨g,o,xa,xl,xc,rfl,⟨q0,q1,q2⟩,hx,hg⟩:=h.toks.at (ae.refl _ _) hi;obtain⟨ya,yc,Ho,Da,qG⟩:=hx.shape;injection Ho with e1 e2 e3;subst e1 e2 e3;have AK:T.length≤20000:=h.sm.1;have HI:=Hd hi;have bf:=fY hi;rw [bf] at cM;rw [bf];rw [bf] at VD;have XI:(T[i].word).length≠0:=λ e=>by
  rw [Bool.not_eq_true',List.isEmpty_eq_false_iff] at cM;exact cM (nO e)
 generalize T[i].word=wd at *;obtain⟨wl,iZ⟩:∃wl,wl=wd.length:=⟨_,rfl⟩;rw [←iZ] at q2 XI;have t0:((wl:Int)==0)=false:=by rw [nA];omega
 have HX:=Hd hx;have Uv:=Hd iZ;have HXD:=Hd (show ∀q,az (w.drewN q) (λ b=>Lo≤b∧b<B) n wd (.slice xa wl xc) from λ q=>by
  rw [iZ];exact hx.keep (S:=λ_=>False) ((ae.refl _ w).drewN q) (λ_ _ _ h=>h))
 obtain⟨K,hK⟩:∃K,K=T.length:=⟨_,rfl⟩;rw [←hK] at c0;have p1:(i:Int)<(K:Int):=oM
 have pW:IntKind.i64.wrap ((i:Int)+1)=(i:Int)+1:=nL _ oM;clear h hk cM hx q0 q1 hK XI Da qG ko il bf iZ OD hi;go_enter Tryz.func185,Tryz.ntmps185;go_wp2_with fail;go_quiet ((go_at_call 143;exact HW.o _));go_wp2_with fail;go_quiet (fail);go_wp2_with fail;refine (VD.o _ (.slice xa wl xc) (HH.o.drewN _) (HXD.o _)).mono ?_;rintro e w2 ⟨y,rfl,h2,hq,aS⟩;obtain⟨d0,d1,d2,g1,g2⟩:=h2.cells
 have abK:=h2.lt;have H2:=Hd h2;have HQ:=Hd hq;have cA:=Hd (((ae.refl (λ b=>b=ps) w).drewN _).trans aS k3);clear h2 hq aS;go_wp2_with fail;go_ret;have h3:=H2.o.set1 (j:=i+1) (by have:=HI.o;omega);have aV:=cA.o.trans h3.2 k3;exact⟨HI.o,y,HQ.o,xa,xc,by rw [←Uv.o];rfl,by simpa using HX.o.keep aV (λ b _ hb e=>by have:=hb.2;omega),by simpa using h3.1,by simpa using aV⟩
end Go.Proofs.YtiihpbccabeoeaaGreatDoor
