/- The walk: a part. -/
import Derived.Test.YtiihpbccabeoeaaGreatDoorVM
import Derived.Test.YtiihpbccabeoeaaGreatDoorVPkT
import Derived.Test.YtiihpbccabeoeaaGreatDoorVPkC
namespace Go.Proofs.YtiihpbccabeoeaaGreatDoor
open Go.RowKit
set_option linter.unusedVariables false
set_option maxRecDepth 100000
set_option maxHeartbeats 16000000
theorem ID (N:Nat):Dx N:=by
 induction N using Nat.strongRecOn with
 | ind N ih=>
  cases N with
  | zero=>intro cs s I d wh q w _ _ _ _ _ hN;exact nQ hN (uC _)
  | succ N=>
   have hB:zL N:=by
    cases N with
    | zero=>intro B cs s I d q v raw w _ _ _ _ _ _ _ _ hN;exact nQ hN (uC _)
    | succ k=>exact EJ k (ih k oM)
   exact EN N (EL N (ub N hB)) (ub N hB)
theorem IE (cs:Nat) (s:ByteArray) (I:Nat) (wh:Bool) (w:World) (h:ah w cs s I ((0:Nat):Int)) (hI:I≤s.size) (hs:s.size≤20000) (iy:cs<w.heap.size) :
 Calls Tryz.prog 24 #[.pointer (some ⟨cs,0,none⟩),wh,.int .i64 0,false] w (Fh w cs s 0 (kv wh (rest s I))):=by
 rw [←ul wh _ _ (nC _)];exact ID (s.size - I+1) cs s I 0 wh false w h hI hs oM iy oM
def lm:List (List UInt8):=[[59,59],[38,38],[124,124],[62,62],[50,62,62],[50,62],[59],[124],[40],[41],[60],[62],[10]]
def O3:Array Value:=#[.string ⟨#[59,59]⟩,.string ⟨#[38,38]⟩,.string ⟨#[124,124]⟩,.string ⟨#[62,62]⟩,.string ⟨#[50,62,62]⟩,.string ⟨#[50,62]⟩,.string ⟨#[59]⟩,.string ⟨#[124]⟩,.string ⟨#[40]⟩,.string ⟨#[41]⟩,.string ⟨#[60]⟩,.string ⟨#[62]⟩,.string ⟨#[10]⟩]
theorem O4 (k:Nat) (hk:k<13):O3[k]? = some (dj (lm.getD k [])):=by
 exact PL
theorem MA (k:Nat) (hk:k<13):(lm.getD k []).length≤3∧0<(lm.getD k []).length:=by
 have:∀k:Fin 13,(lm.getD k.val []).length≤3∧0<(lm.getD k.val []).length:=by decide +kernel
 exact this ⟨k,hk⟩
theorem CM (a b:UInt8) (p r:List UInt8):aI (a::p) (b::r)=(a==b && aI p r):=rfl
theorem ER (r:List UInt8):aI [] r=true:=rfl
theorem zq (r:List UInt8):eO lm r=dg r:=by
 unfold dg;cases r with
 | nil=>rfl
 | cons c t=>
  unfold eO lm f6;simp only [List.find?_cons,CM,ER,List.find?_nil,Bool.and_true];by_cases h50:c=50
  ·subst h50;rfl
  by_cases h59:c=59
  ·subst h59;rfl
  by_cases G2:c=38
  ·subst G2;rfl
  by_cases WY:c=124
  ·subst WY;rfl
  by_cases h62:c=62
  ·subst h62;rfl
  have g50:((50:UInt8)==c)=false:=nA.2 (Ne.symm h50);have g59:((59:UInt8)==c)=false:=nA.2 (Ne.symm h59);have g38:((38:UInt8)==c)=false:=nA.2 (Ne.symm G2);have aaV:((124:UInt8)==c)=false:=nA.2 (Ne.symm WY);have g62:((62:UInt8)==c)=false:=nA.2 (Ne.symm h62);simp only [g50,g59,g38,aaV,g62,Bool.false_and]
theorem ny {r r':List UInt8} (h:bU false r=bU false r'):fZ r=fZ r':=by rw [io r,io r',h]
theorem CT {c:UInt8} {t:List UInt8} (h:(c==32 || c==9)=true):fZ (c::t)=fZ t:=ny (by rw [dB,h,nE rfl])
theorem IQ {t:List UInt8}:fZ (92::10::t)=fZ t:=ny (by rw [dB];rfl)
def vj (s:ByteArray) (i I:Nat):Prop:=bU true (rest s i)=bU true (rest s I)
theorem vj.on {s:ByteArray} {i I:Nat} (h:vj s i I) (hI:I<s.size) (hc:(au s I==10)=false):vj s i (I+1):=by
 unfold vj at *;rw [h,ak hI];show (if au s I==10 then _ else _)=_;rw [hc,nF sI]
theorem vj.end {s:ByteArray} {i I:Nat} (h:vj s i I) (hI:s.size≤I∨I<s.size∧au s I=10) (hi:i<s.size) (hc:au s i=35):fZ (rest s i)=fZ (rest s I):=by
 refine ny ?_;have h1:bU false (rest s i)=bU true (rest s i):=by
  rw [ak hi,hc,dB];rfl
 rw [h1,h];rcases hI with hI | ⟨hI,tN⟩
 ·rw [aX hI];rfl
 ·rw [ak hI,tN,dB];rfl
theorem zB {c:UInt8} {t:List UInt8} (h1:(c==32 || c==9)=false) (h2:(c==35)=false) (h3:(c==92 && aP 10 t)=false):bU false (c::t)=c::t:=by
 rw [dB,h1,nF sI,h2,nF sI];split
 ·next h4=>
  cases t with
  | nil=>rfl
  | cons x t'=>
   dsimp only;rw [h4,Bool.true_and] at h3;have h5:(x==10)=false:=h3;rw [h5,nF sI]
 ·rfl
theorem dW.more' {w w1:World} {v:Value} {H n cs:Nat} {l:List Tk} {x:Tk} {wv:Value} (h:dW w (λ b=>H≤b) v l) (fA:∀g,v.ownBlock=some g→H≤g) (hH:H≤w.heap.size) (hk:ae (λ b=>b=cs) w w1) (iy:cs<H) (hx:az w1 (λ b=>w.heap.size≤b) n x.word wv) :
 ∃xs,w1.ownsRow 0 109 3 v l.length xs∧∀(g aC:Nat) (w2:World) (o:Obj),w2.ownsRow 0 109 3 (.slice (some ⟨g,0,none⟩) (l.length+1) aC) (l.length+1) (xs++kj x wv)→(w1.alloc o).grownBy w2 v.ownBlock→(v.ownBlock=some g∨g=w1.heap.size+1)→
  dW w2 (λ b=>H≤b) (.slice (some ⟨g,0,none⟩) (l.length+1) aC) (l++[x])∧H≤g∧ae (λ b=>H≤b) w1 w2:=by
 have hm:=h.keep hk (λ b _ hb e=>oM) (λ g hg e=>by have:=fA g hg;omega);obtain⟨vs,m,hl,ho,hn⟩:=hm;refine⟨_,ho,λ g aC w2 o aU hg bf=>?_⟩;have k:ae (λ b=>v.ownBlock=some b) w1 w2:=((ae.refl _ w1).alloc o).grown hg λ k hk _=>hk;have hgH:H≤g:=by
  have:=hk.size;rcases bf with e | e
  ·exact fA _ e
  ·omega
 refine⟨BY (B:=H) (v:=v) (w:=w1) (x:=x) (m:=n) (hx.mono λ b hb hd=>⟨oM,λ e=>by have:=h.lt e;omega⟩) hl hn aU k (λ y hy=>?_),hgH,k.mono (λ b hb e=>fA _ e)⟩;obtain rfl:g=y:=nD hy;rcases bf with e | e
 ·exact .inl e
 ·exact .inr oM
structure sA (W wr:World) (cs ob H:Nat) (s:ByteArray) (I:Nat) (l:List Tk) (v:Value):Prop where
 sc:ah wr cs s I ((0:Nat):Int)
 ops:wr.heap[ob]? = some (.cells O3 9 (0,0))
 own:dW wr (λ b=>H≤b) v l
 low:∀g,v.ownBlock=some g→H≤g
 size:H≤wr.heap.size
 kp:ae (λ b=>b=cs∨H≤b) W wr
theorem sA.move {W wr w':World} {cs ob H:Nat} {s:ByteArray} {I J:Nat} {l:List Tk} {v:Value} (h:sA W wr cs ob H s I l v) (hk:ae (λ b=>b=cs) wr w') (hs:ah w' cs s J ((0:Nat):Int)) (h1:cs≠ob) (h3:cs<H):sA W w' cs ob H s J l v:=
 ⟨hs,(hk.block ob (Array.getElem?_eq_some_iff.1 h.ops).1 (λ e=>h1 e.symm)).trans h.ops,h.own.keep hk (λ b _ hb e=>oM) (λ g hg e=>by have:=h.low g hg;omega),h.low,nY h.size hk.size,h.kp.trans hk (λ_ _ e=>.inl e)⟩
theorem sA.drewN {W wr:World} {cs ob H:Nat} {s:ByteArray} {I:Nat} {l:List Tk} {v:Value} (h:sA W wr cs ob H s I l v) (n:Nat) (h1:cs≠ob) (h3:cs<H):sA W (wr.drewN n) cs ob H s I l v:=
 h.move ((ae.refl _ _).drewN n) (h.sc.drewN n) h1 h3
theorem sA.more {W wr w1:World} {cs ob H:Nat} {s:ByteArray} {I J n:Nat} {l:List Tk} {va:OA} {vn vc:Nat} {x:Tk} {wv:Value} (h:sA W wr cs ob H s I l (.slice va vn vc)) (hk:ae (λ b=>b=cs) wr w1) (hs:ah w1 cs s J ((0:Nat):Int)) (h1:cs≠ob) (h3:cs<H) (Ou:ob<H)
 (hx:az w1 (λ b=>wr.heap.size≤b) n x.word wv) :
 vn=l.length∧∃xs,w1.ownsRow 0 109 3 (.slice va vn vc) vn xs∧∀(g aC:Nat) (w2:World) (o:Obj),w2.ownsRow 0 109 3 (.slice (some ⟨g,0,none⟩) (vn+1) aC) (vn+1) (xs++kj x wv)→(w1.alloc o).grownBy w2 (Value.slice va vn vc).ownBlock→((Value.slice va vn vc).ownBlock=some g∨g=w1.heap.size+1)→
  sA W w2 cs ob H s J (l++[x]) (.slice (some ⟨g,0,none⟩) (vn+1) aC):=by
 have rT:vn=l.length:=by
  obtain⟨a,c,e,_⟩:=h.own.shape;injection e
 subst rT;obtain⟨xs,ho,hF⟩:=h.own.more' h.low h.size hk h3 hx;refine⟨rfl,xs,ho,λ g aC w2 o a b c=>?_⟩;obtain⟨k1,k2,k3⟩:=hF g aC w2 o a b c;have hm:=h.move hk hs h1 h3;exact⟨hm.sc.keep k3 (λ e=>oM),(k3.block ob (Array.getElem?_eq_some_iff.1 hm.ops).1 (λ e=>oM)).trans hm.ops,k1,λ y hy=>(by obtain rfl:g=y:=nD hy;exact k2),nY hm.size k3.size,hm.kp.trans k3 (λ_ _ e=>.inr e)⟩
def Bz (w:World) (res:Except Nat (List Tk)) (e:Ending) (w':World):Prop:=
 match res with
 | .ok l=>∃(v:Value),e=.returned (.tuple #[v,.int .i64 0])∧dW w' (λ b=>w.heap.size≤b) v l∧(∀g,v.ownBlock=some g→w.heap.size≤g)∧K0 w w'
 | .error x=>x≠0∧e=.returned (.tuple #[(),x])∧K0 w w'
theorem T6 {w W wr:World} {cs ob H:Nat} {s:ByteArray} {I:Nat} {l:List Tk} {v:Value} {res:Except Nat (List Tk)} (h:sA W wr cs ob H s I l v) (hw:K0 w W) (hc:w.heap.size≤cs) (hH:w.heap.size≤H) (hr:res=.ok l):Bz w res (.returned (.tuple #[v,.int .i64 0])) wr:=by
 rw [hr];refine⟨v,rfl,?_,λ g hg=>nY hH (h.low g hg),?_⟩
 ·obtain⟨vs,n,a,b,c⟩:=h.own;exact⟨vs,n,a,b,λ i h h'=>(c i h h').mono λ b _ hb=>⟨nY hH hb.1,hb.2⟩⟩
 ·refine hw.trans (h.kp.mono (T:=λ b=>b=cs∨H≤b) λ_ _ e=>e) (λ b hb e=>?_);rcases e with e | e<;>omega
theorem Ga {w W wr:World} {cs H x:Nat} {res:Except Nat (List Tk)} (hk:ae (λ b=>b=cs∨H≤b) W wr) (hw:K0 w W) (hc:w.heap.size≤cs) (hH:w.heap.size≤H) (hx:x≠0) (hr:res=.error x):Bz w res (.returned (.tuple #[(),x])) wr:=by
 rw [hr];refine⟨hx,rfl,hw.trans hk (λ b hb e=>?_)⟩;rcases e with e | e<;>omega
def MQ (l:List Tk):mH→Except Nat (List Tk)
 | .error e=>.error e
 | .ok (p,r1)=>i6 (l++[⟨1,[],eh p⟩]) (fZ r1)
theorem EM (s:ByteArray) (w:World) (hs:s.size≤20000) (hm:jp s.data.toList=0) :
 Calls Tryz.prog 32 #[s] w (Bz w (fZ s.data.toList)):=by
 have Jd:=dY;obtain⟨i0,fo,fC,fp,fq⟩:=info_parts vZ;obtain⟨res,ag⟩:∃res,res=fZ s.data.toList:=⟨_,rfl⟩;rw [←ag];have ay:=Hd (show res=i6 [] (fZ (rest s 0)) by rw [ag,px,Mz]);have HM:=Hd (show jp s.data.toList=0 from hm);clear ag hm;go_enter Tryz.func32,Tryz.ntmps32;go_wp2_with fail;refine (xd s _ oM).mono ?_;rintro e w1 ⟨rfl,dM⟩;rw [HM.o,dM]
 clear dM;go_wp2_with fail;obtain⟨W,hW⟩:∃W,W=(w.alloc (.cells #[s,.int .i64 0,.int .i64 0] 57)).alloc (.cells O3 9):=⟨_,rfl⟩;have et:=hW;unfold O3 at et;rw [←et];obtain⟨cs,iy⟩:∃cs,cs=w.heap.size:=⟨_,rfl⟩;obtain⟨ob,Ou⟩:∃ob,ob=cs+1:=⟨_,rfl⟩;obtain⟨H,hH⟩:∃H,H=ob+1:=⟨_,rfl⟩;rw [←iy,←Ou];have aaG:=Hd (show sA W W cs ob H s 0 [] (.slice none 0 0) by
  have hz:(w.alloc (.cells #[s,.int .i64 0,.int .i64 0] 57)).heap.size=ob:=by rw [Ou,iy];simp
  refine⟨?_,?_,dW.nil _ _,λ g hg=>(by cases hg),?_,ae.refl _ _⟩
  ·rw [hW,iy];exact (ah.new w s 0 0 _).alloc _
  ·rw [hW,←hz];exact nG _ _
  ·rw [hW,hH];simp [Ou,iy])
 have dO:=Hd (show K0 w W by rw [hW];exact ((ae.refl _ _).alloc _).alloc _);have yg:cs≠ob:=oM
 have B0:cs<H:=oM
 have hoH:ob<H:=oM
 have Be:=Hd (show w.heap.size≤cs by omega);have ZK:=Hd (show w.heap.size≤H by omega);clear hW et iy Ou hH;go_loopg [5] (s.size+2 - 0) (λ g v wr=>∃(I:Nat) (l:List Tk),g=s.size+2 - I∧I≤s.size∧l.length≤I∧sA W wr cs ob H s I l v∧Hid (res=i6 l (fZ (rest s I))))
 case atStart=>exact⟨0,[],rfl,nB _,nC _,aaG.o,ay⟩
 case round=>
  obtain⟨I,l,B1,hIs,Ji,gB,HR⟩:=hrel;obtain⟨va,vn,vc,rfl⟩:∃(a:OA) (n c:Nat),_=Value.slice a n c:=by obtain⟨a,c,e,_⟩:=gB.own.shape;exact⟨a,_,c,e⟩
  have xS:=Hd B1;have H0:=Hd gB;clear B1 gB;by_cases aW:I<s.size
  ·skip;have HE:=Hd (show decide (s.size≤I)=false from nV oM);obtain⟨c,hc⟩:∃c,c=au s I:=⟨_,rfl⟩;have HC:=Hd hc.symm;have pp:=Hd (show rest s I=c::rest s (I+1) by rw [ak aW,←hc]);clear hc;go_wp2_with fail;refine (bk cs s I _ _ H0.o.sc).mono ?_;rintro e wy ⟨rfl,q1,rfl⟩;rw [HE.o];obtain⟨W1,hW⟩:∃Z:World,Z=wr.drewN q1:=⟨_,rfl⟩;rw [←hW];have H1:=Hd (show sA W W1 cs ob H s I l (.slice va vn vc) by rw [hW];exact H0.o.drewN _ yg B0)
   clear hW;go_wp2_with fail;refine (aR cs s I _ _ H1.o.sc oM oM).mono ?_;rintro e wy ⟨rfl,q2,rfl⟩;rw [HC.o];obtain⟨W2,hW⟩:∃Z:World,Z=W1.drewN q2:=⟨_,rfl⟩;rw [←hW];have H2:=Hd (show sA W W2 cs ob H s I l (.slice va vn vc) by rw [hW];exact H1.o.drewN _ yg B0);clear hW;cases tb:(c==32 || c==9) with
   | true=>
    have HN:=Hd (show res=i6 l (fZ (rest s (I+1))) by rw [HR.o,pp.o,CT tb]);by_cases Gf:c=32
    ·have YP:((c.toNat:Int)==32)=true:=aE (c:=c) (k:=32) Gf;exact Wo
    ·have YP:((c.toNat:Int)==32)=false:=aw (c:=c) (k:=32) Gf;have f9:((c.toNat:Int)==9)=true:=by
      rw [nA.2 Gf,Bool.false_or] at tb;exact aE (c:=c) (k:=9) (nH.1 tb)
     exact Wo
   | false=>
    have TB:=Hd tb;have Gf:c≠32:=by rintro rfl;cases tb
    have t9:c≠9:=by rintro rfl;cases tb
    have YP:((c.toNat:Int)==32)=false:=aw (c:=c) (k:=32) Gf;have f9:((c.toNat:Int)==9)=false:=aw (c:=c) (k:=9) t9;clear Gf t9 tb;obtain⟨x,hx⟩:∃x,x=au s (I+1):=⟨_,rfl⟩;have HX:=Hd hx.symm;have zR:=Hd (show aP 10 (rest s (I+1))=(x==10) by
     rw [hx];rcases nP (I+1) s.size with h | h
     ·rw [ak h];rfl
     ·rw [aX h];unfold au;rw [List.getD_eq_getElem?_getD,List.getElem?_eq_none (by rw [←nT];omega)];rfl)
    clear hx;by_cases lS:c=92
    ·have Tf:((c.toNat:Int)==92)=true:=aE (c:=c) (k:=92) lS;have YQ:((c.toNat:Int)==35)=false:=aw (c:=c) (k:=35) (by rw [lS];decide);by_cases oz:x=10
     ·have WV:((x.toNat:Int)==10)=true:=aE (c:=x) (k:=10) oz;have mY:I+1<s.size:=by
       rcases nP (I+1) s.size with h | h
       ·exact h
       ·have:=zR.o;rw [aX h,oz] at this;cases this
      have HN:=Hd (show res=i6 l (fZ (rest s (I+2))) by
       rw [HR.o,pp.o,ak mY,HX.o,lS,oz,IQ])
      clear oz lS;go_wp2_with fail;refine (b9 cs s I _ _ H2.o.sc oM oM).mono ?_;rintro e wy ⟨rfl,q3,rfl⟩;rw [HX.o];obtain⟨W3,hW⟩:∃Z:World,Z=W2.drewN q3:=⟨_,rfl⟩;rw [←hW];have H3:=Hd (show sA W W3 cs ob H s I l (.slice va vn vc) by rw [hW];exact H2.o.drewN _ yg B0);clear hW;obtain⟨d0,d1,d2,g1,g2⟩:=H3.o.sc.cells;obtain⟨W4,hW⟩:∃Z:World,Z=W3.setCell ⟨cs,1,none⟩ (.int .i64 ((I:Int)+2)):=⟨_,rfl⟩
      obtain⟨gM,Lz⟩:=dl H3.o.sc (j:=(I:Int)+2) (J:=I+2) oM;have H4:=Hd (show sA W W4 cs ob H s (I+2) l (.slice va vn vc) by rw [hW];exact H3.o.move Lz gM yg B0);have NG:=Hd hW;clear hW gM Lz;go_wp2_with fail;rw [←NG.o];go_roundg (s.size+2 - (I+2))
      case measure=>have:=xS.o;omega
      case rel=>exact⟨I+2,l,rfl,oM,oM,H4.o,HN⟩
     ·have WV:((x.toNat:Int)==10)=false:=aw (c:=x) (k:=10) oz;have J3:=Hd (show bU false (rest s I)=rest s I by
       rw [pp.o];exact zB TB.out (by rw [lS];rfl) (by rw [zR.o,nA.2 oz,Bool.and_false]))
      clear oz lS;go_wp2_with fail;refine (b9 cs s I _ _ H2.o.sc oM oM).mono ?_;rintro e wy ⟨rfl,q3,rfl⟩;rw [HX.o];obtain⟨W3,hW⟩:∃Z:World,Z=W2.drewN q3:=⟨_,rfl⟩;rw [←hW];have H3:=Hd (show sA W W3 cs ob H s I l (.slice va vn vc) by rw [hW];exact H2.o.drewN _ yg B0);clear hW
      as_aux_lemma=>
       have abH:(I:Int)≤(s.size:Int):=oM
       go_wp2_with fail;go_loopg [8,9] (15) (λ g o k wr=>∃(n:Nat) (T:ByteArray),g=15 - n∧k=.int .i64 n∧o=.string T∧n≤13∧sA W wr cs ob H s I l (.slice va vn vc)∧Hid ((T.data.toList=[]∧∀j,j<n→aI (lm.getD j []) (rest s I)=false)∨(T.data.toList≠[]∧T.data.toList=dg (rest s I))))
       case atStart=>exact⟨0,⟨#[]⟩,rfl,rfl,rfl,oM,H3.o,Hd (.inl ⟨rfl,λ j hj=>nQ hj (uC _)⟩)⟩
       case round=>
        exact c1x
    have Tf:((c.toNat:Int)==92)=false:=aw (c:=c) (k:=92) lS;have RZ:=Hd (show (c==92)=false from nA.2 lS);clear lS;by_cases EX:c=35
    ·have YQ:((c.toNat:Int)==35)=true:=aE (c:=c) (k:=35) EX;have R4:=Hd (HC.o.trans EX);clear EX;go_wp2_with fail;go_loopg [] (s.size+3 - I) (λ g wr=>∃K:Nat,g=s.size+3 - K∧I≤K∧K≤s.size∧(I<K∨K=I)∧sA W wr cs ob H s K l (.slice va vn vc)∧Hid (vj s I K))
     case atStart=>exact⟨I,rfl,nC _,hIs,.inr rfl,H2.o,Hd rfl⟩
     case round=>
      obtain⟨K,tQ,Xe,YZ,fB,gB,HU⟩:=hrel;have Bq:=Hd tQ;have Bg:=Hd fB;have H7:=Hd gB;clear tQ fB gB;by_cases eC:K<s.size
      ·have pk:=Hd (show decide (s.size≤K)=false from nV oM);obtain⟨y,hy⟩:∃y,y=au s K:=⟨_,rfl⟩;have HY:=Hd hy.symm;clear hy;by_cases ty:y=10
       ·have fy:((y.toNat:Int) != 10)=false:=by rw [bne,show ((y.toNat:Int)==10)=true from aE (c:=y) (k:=10) ty];rfl
        have HN:=Hd (show res=i6 l (fZ (rest s K)) by rw [HR.o,HU.o.end (.inr ⟨eC,HY.o.trans ty⟩) aW R4.o]);have AH:I<K:=by
         rcases Bg.o with h | h
         ·exact h
         ·exfalso;have h1:=R4.o;have h2:=HY.o;rw [h,h1] at h2;rw [←h2] at ty;exact nQ ty dC
        clear ty;go_wp2_with fail;refine (bk cs s K _ _ H7.o.sc).mono ?_;rintro e wy ⟨rfl,q8,rfl⟩;rw [pk.o];obtain⟨W8,hW⟩:∃Z:World,Z=wr.drewN q8:=⟨_,rfl⟩;rw [←hW];have H8:=Hd (show sA W W8 cs ob H s K l (.slice va vn vc) by rw [hW];exact H7.o.drewN _ yg B0);clear hW;go_wp2_with fail;refine (aR cs s K _ _ H8.o.sc oM oM).mono ?_;rintro e wy ⟨rfl,q9,rfl⟩;rw [HY.o]
        obtain⟨W9,hW⟩:∃Z:World,Z=W8.drewN q9:=⟨_,rfl⟩;rw [←hW];have H9:=Hd (show sA W W9 cs ob H s K l (.slice va vn vc) by rw [hW];exact H8.o.drewN _ yg B0);clear hW;go_wp2_with fail;go_roundg (s.size+2 - (K))
        case measure=>have:=xS.o;omega
        case rel=>exact⟨K,l,rfl,oM,oM,H9.o,HN⟩
       ·have fy:((y.toNat:Int) != 10)=true:=by rw [bne,show ((y.toNat:Int)==10)=false from aw (c:=y) (k:=10) ty];rfl
        have Uu:=Hd (HU.o.on eC (by rw [HY.o];exact nA.2 ty));clear ty;go_wp2_with fail;refine (bk cs s K _ _ H7.o.sc).mono ?_;rintro e wy ⟨rfl,q8,rfl⟩;rw [pk.o];obtain⟨W8,hW⟩:∃Z:World,Z=wr.drewN q8:=⟨_,rfl⟩;rw [←hW];have H8:=Hd (show sA W W8 cs ob H s K l (.slice va vn vc) by rw [hW];exact H7.o.drewN _ yg B0);clear hW;go_wp2_with fail;refine (aR cs s K _ _ H8.o.sc oM oM).mono ?_
        rintro e wy ⟨rfl,q9,rfl⟩;rw [HY.o];obtain⟨W9,hW⟩:∃Z:World,Z=W8.drewN q9:=⟨_,rfl⟩;rw [←hW];have H9:=Hd (show sA W W9 cs ob H s K l (.slice va vn vc) by rw [hW];exact H8.o.drewN _ yg B0);clear hW;obtain⟨d0,d1,d2,g1,g2⟩:=H9.o.sc.cells;obtain⟨PA,hW⟩:∃Z:World,Z=W9.setCell ⟨cs,1,none⟩ (.int .i64 ((K:Int)+1)):=⟨_,rfl⟩;obtain⟨gM,Lz⟩:=dl H9.o.sc (j:=(K:Int)+1) (J:=K+1) oM;have H10:=Hd (show sA W PA cs ob H s (K+1) l (.slice va vn vc) by rw [hW];exact H9.o.move Lz gM yg B0)
        have aaJ:=Hd hW;clear hW gM Lz;go_wp2_with fail;rw [←aaJ.o];go_roundg (s.size+3 - (K+1))
        case measure=>have:=Bq.o;omega
        case rel=>exact⟨K+1,rfl,oM,oM,.inl oM,H10.o,Uu⟩
      ·have pk:=Hd (show decide (s.size≤K)=true from nU oM);have HN:=Hd (show res=i6 l (fZ (rest s K)) by rw [HR.o,HU.o.end (.inl oM) aW R4.o]);go_wp2_with fail;refine (bk cs s K _ _ H7.o.sc).mono ?_;rintro e wy ⟨rfl,q8,rfl⟩;rw [pk.o];obtain⟨W8,hW⟩:∃Z:World,Z=wr.drewN q8:=⟨_,rfl⟩;rw [←hW];have H8:=Hd (show sA W W8 cs ob H s K l (.slice va vn vc) by rw [hW];exact H7.o.drewN _ yg B0)
       clear hW;go_wp2_with fail;go_roundg (s.size+2 - (K))
       case measure=>have:=xS.o;omega
       case rel=>exact⟨K,l,rfl,oM,oM,H8.o,HN⟩
    have YQ:((c.toNat:Int)==35)=false:=aw (c:=c) (k:=35) EX;have J3:=Hd (show bU false (rest s I)=rest s I by
     rw [pp.o];exact zB TB.out (nA.2 EX) (by rw [RZ.out,Bool.false_and]))
    clear EX
    as_aux_lemma=>
     have abH:(I:Int)≤(s.size:Int):=oM
     go_wp2_with fail;go_loopg [8,9] (15) (λ g o k wr=>∃(n:Nat) (T:ByteArray),g=15 - n∧k=.int .i64 n∧o=.string T∧n≤13∧sA W wr cs ob H s I l (.slice va vn vc)∧Hid ((T.data.toList=[]∧∀j,j<n→aI (lm.getD j []) (rest s I)=false)∨(T.data.toList≠[]∧T.data.toList=dg (rest s I))))
     case atStart=>exact⟨0,⟨#[]⟩,rfl,rfl,rfl,oM,H2.o,Hd (.inl ⟨rfl,λ j hj=>nQ hj (uC _)⟩)⟩
     case round=>
      exact c1x
  ·have HE:=Hd (show decide (s.size≤I)=true from nU oM);have HX:=Hd (show res=.ok l by
    rw [HR.o,aX oM];show Except.ok (l++[])=_;rw [List.append_nil])
   go_wp2_with fail;refine (bk cs s I _ _ H0.o.sc).mono ?_;rintro e wy ⟨rfl,q1,rfl⟩;rw [HE.o];obtain⟨W1,hW⟩:∃Z:World,Z=wr.drewN q1:=⟨_,rfl⟩;rw [←hW];have H1:=Hd (show sA W W1 cs ob H s I l (.slice va vn vc) by rw [hW];exact H0.o.drewN _ yg B0);clear hW;go_wp2_with fail;go_ret2;exact T6 H1.o dO.o Be.o ZK.o HX.o
theorem IC (s:ByteArray) (w:World) (hs:s.size≤140737488351232) (x:Nat) (hx:jp s.data.toList=x) (h0:x≠0) :
 Calls Tryz.prog 32 #[s] w (Bz w (.error x)):=by
 have HX:=Hd hx;have e1:((x:Int) != 0)=true:=by rw [bne_iff_ne];omega
 have H0:=Hd h0;clear hx h0;go_enter Tryz.func32,Tryz.ntmps32;go_wp2_with fail;refine (xd s _ hs).mono ?_;rintro e w1 ⟨rfl,dM⟩;rw [HX.o,dM];clear dM;go_wp2_with fail;refine (xd s _ hs).mono ?_;rintro e w1 ⟨rfl,dM⟩;rw [HX.o,dM];clear dM;go_wp2_with fail;go_ret2;exact⟨H0.o,rfl,ae.refl _ _⟩
theorem IB (s:ByteArray) (w:World) (hs:s.size≤140737488351232):Calls Tryz.prog 32 #[s] w (Bz w (ff s.data.toList)):=by
 by_cases h:jp s.data.toList=0
 ·rw [tn _ h];have hl:s.size≤16384:=by
   unfold jp at h;rw [←nT] at h;split at h
   ·cases h
   ·omega
  exact EM s w oM h
 ·unfold ff;rw [nF h];exact IC s w hs _ rfl h
end Go.Proofs.YtiihpbccabeoeaaGreatDoor
