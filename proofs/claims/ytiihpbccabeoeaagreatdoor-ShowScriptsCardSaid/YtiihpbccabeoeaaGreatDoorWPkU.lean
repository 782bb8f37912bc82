/- The walk: a part. -/
import Derived.Test.YtiihpbccabeoeaaGreatDoorWPkT
import Derived.Test.YtiihpbccabeoeaaGreatDoorWPkC
namespace Go.Proofs.YtiihpbccabeoeaaGreatDoor
open Go.RowKit
set_option linter.unusedVariables false
set_option maxRecDepth 100000
set_option maxHeartbeats 16000000
theorem Ju (N:Nat):Dn N:=by
 induction N using Nat.strongRecOn with
 | ind N ih=>
  cases N with
  | zero=>intro cs s I d wh q w _ _ _ _ _ hN;exact absurd hN (Nat.not_lt_zero _)
  | succ N=>
   have hB:zY N:=by
    cases N with
    | zero=>intro B cs s I d q v raw w _ _ _ _ _ _ _ _ hN;exact absurd hN (Nat.not_lt_zero _)
    | succ k=>exact D3 k (ih k (by omega))
   exact E6 N (Ed N (tN N hB)) (tN N hB)
theorem zF (cs:Nat) (s:ByteArray) (I:Nat) (wh:Bool) (w:World) (h:aD w cs s I ((0:Nat):Int)) (hI:I≤s.size) (hs:s.size≤20000) (hcs:cs<w.heap.size) :
 Calls Tryz.prog 24 #[.pointer (some ⟨cs,0,none⟩),.bool wh,.int .i64 0,.bool false] w (F4 w cs s 0 (oB wh (rest s I))):=by
 rw [←tJ wh _ _ (Nat.le_refl _)];exact Ju (s.size - I+1) cs s I 0 wh false w h hI hs (by omega) hcs (by omega)
def iB:List (List UInt8):=[[59,59],[38,38],[124,124],[62,62],[50,62,62],[50,62],[59],[124],[40],[41],[60],[62],[10]]
def Op:Array Value:=#[.string ⟨#[59,59]⟩,.string ⟨#[38,38]⟩,.string ⟨#[124,124]⟩,.string ⟨#[62,62]⟩,.string ⟨#[50,62,62]⟩,.string ⟨#[50,62]⟩,.string ⟨#[59]⟩,.string ⟨#[124]⟩,.string ⟨#[40]⟩,.string ⟨#[41]⟩,.string ⟨#[60]⟩,.string ⟨#[62]⟩,.string ⟨#[10]⟩]
theorem Ge (k:Nat) (hk:k<13):Op[k]? = some (e8 (iB.getD k [])):=by
 obtain rfl | rfl | rfl | rfl | rfl | rfl | rfl | rfl | rfl | rfl | rfl | rfl | rfl:k=0∨k=1∨k=2∨k=3∨k=4∨k=5∨k=6∨k=7∨k=8∨k=9∨k=10∨k=11∨k=12:=by omega
 all_goals rfl
theorem Cl (k:Nat) (hk:k<13):(iB.getD k []).length≤3∧0<(iB.getD k []).length:=by
 have:∀k:Fin 13,(iB.getD k.val []).length≤3∧0<(iB.getD k.val []).length:=by decide +kernel
 exact this ⟨k,hk⟩
theorem A7 (a b:UInt8) (p r:List UInt8):aI (a::p) (b::r)=(a==b && aI p r):=rfl
theorem Dz (r:List UInt8):aI [] r=true:=rfl
theorem pD (r:List UInt8):gH iB r=eK r:=by
 unfold eK;cases r with
 | nil=>rfl
 | cons c t=>
  unfold gH iB pL;simp only [List.find?_cons,A7,Dz,List.find?_nil,Bool.and_true];by_cases h50:c=50
  ·subst h50;rfl
  by_cases h59:c=59
  ·subst h59;rfl
  by_cases h38:c=38
  ·subst h38;rfl
  by_cases h124:c=124
  ·subst h124;rfl
  by_cases h62:c=62
  ·subst h62;rfl
  have g50:((50:UInt8)==c)=false:=beq_eq_false_iff_ne.2 (Ne.symm h50);have g59:((59:UInt8)==c)=false:=beq_eq_false_iff_ne.2 (Ne.symm h59);have g38:((38:UInt8)==c)=false:=beq_eq_false_iff_ne.2 (Ne.symm h38);have g124:((124:UInt8)==c)=false:=beq_eq_false_iff_ne.2 (Ne.symm h124);have g62:((62:UInt8)==c)=false:=beq_eq_false_iff_ne.2 (Ne.symm h62);simp only [g50,g59,g38,g124,g62,Bool.false_and]
theorem nE {r r':List UInt8} (h:dM false r=dM false r'):gJ r=gJ r':=by rw [iF r,iF r',h]
theorem Ci {c:UInt8} {t:List UInt8} (h:(c==32 || c==9)=true):gJ (c::t)=gJ t:=nE (by rw [fN,h,if_pos rfl])
theorem Js {t:List UInt8}:gJ (92::10::t)=gJ t:=nE (by rw [fN];rfl)
def wG (s:ByteArray) (i I:Nat):Prop:=dM true (rest s i)=dM true (rest s I)
theorem wG.on {s:ByteArray} {i I:Nat} (h:wG s i I) (hI:I<s.size) (hc:(aM s I==10)=false):wG s i (I+1):=by
 unfold wG at *;rw [h,aN hI];show (if aM s I==10 then _ else _)=_;rw [hc,if_neg (by simp)]
theorem wG.end {s:ByteArray} {i I:Nat} (h:wG s i I) (hI:s.size≤I∨I<s.size∧aM s I=10) (hi:i<s.size) (hc:aM s i=35):gJ (rest s i)=gJ (rest s I):=by
 refine nE ?_;have h1:dM false (rest s i)=dM true (rest s i):=by
  rw [aN hi,hc,fN];rfl
 rw [h1,h];rcases hI with hI | ⟨hI,hc2⟩
 ·rw [bU hI];rfl
 ·rw [aN hI,hc2,fN];rfl
theorem xY {c:UInt8} {t:List UInt8} (h1:(c==32 || c==9)=false) (h2:(c==35)=false) (h3:(c==92 && aW 10 t)=false):dM false (c::t)=c::t:=by
 rw [fN,h1,if_neg (by simp),h2,if_neg (by simp)];split
 ·next h4=>
  cases t with
  | nil=>rfl
  | cons x t'=>
   dsimp only;rw [h4,Bool.true_and] at h3;have h5:(x==10)=false:=h3;rw [h5,if_neg (by simp)]
 ·rfl
theorem eI.more' {w w1:World} {v:Value} {H n cs:Nat} {l:List Tk} {x:Tk} {wv:Value} (h:eI w (fun b=>H≤b) v l) (hlow:∀g,v.ownBlock=some g→H≤g) (hH:H≤w.heap.size) (hk:aB (fun b=>b=cs) w w1) (hcs:cs<H) (hx:aV w1 (fun b=>w.heap.size≤b) n x.word wv) :
 ∃xs,w1.ownsRow 0 109 3 v l.length xs∧∀(g cap:Nat) (w2:World) (o:Obj),w2.ownsRow 0 109 3 (.slice (some ⟨g,0,none⟩) (l.length+1) cap) (l.length+1) (xs++iT x wv)→(w1.alloc o).grownBy w2 v.ownBlock→(v.ownBlock=some g∨g=w1.heap.size+1)→
  eI w2 (fun b=>H≤b) (.slice (some ⟨g,0,none⟩) (l.length+1) cap) (l++[x])∧H≤g∧aB (fun b=>H≤b) w1 w2:=by
 have hm:=h.keep hk (fun b _ hb e=>by omega) (fun g hg e=>by have:=hlow g hg;omega);obtain⟨vs,m,hl,ho,hn⟩:=hm;refine⟨_,ho,fun g cap w2 o hown hg hat=>?_⟩;have k:aB (fun b=>v.ownBlock=some b) w1 w2:=((aB.refl _ w1).alloc o).grown hg fun k hk _=>hk;have hgH:H≤g:=by
  have:=hk.size;rcases hat with e | e
  ·exact hlow _ e
  ·omega
 refine⟨Cr (B:=H) (v:=v) (w:=w1) (x:=x) (m:=n) (hx.mono fun b hb hd=>⟨by omega,fun e=>by have:=h.lt e;omega⟩) hl hn hown k (fun y hy=>?_),hgH,k.mono (fun b hb e=>hlow _ e)⟩;obtain rfl:g=y:=Option.some.inj hy;rcases hat with e | e
 ·exact .inl e
 ·exact .inr (by omega)
structure RTk (W wr:World) (cs ob H:Nat) (s:ByteArray) (I:Nat) (l:List Tk) (v:Value):Prop where
 sc:aD wr cs s I ((0:Nat):Int)
 ops:wr.heap[ob]? = some (.cells Op 9 (0,0))
 own:eI wr (fun b=>H≤b) v l
 low:∀g,v.ownBlock=some g→H≤g
 size:H≤wr.heap.size
 kp:aB (fun b=>b=cs∨H≤b) W wr
theorem RTk.move {W wr w':World} {cs ob H:Nat} {s:ByteArray} {I J:Nat} {l:List Tk} {v:Value} (h:RTk W wr cs ob H s I l v) (hk:aB (fun b=>b=cs) wr w') (hs:aD w' cs s J ((0:Nat):Int)) (h1:cs≠ob) (h3:cs<H):RTk W w' cs ob H s J l v:=
 ⟨hs,(hk.block ob (Array.getElem?_eq_some_iff.1 h.ops).1 (fun e=>h1 e.symm)).trans h.ops,h.own.keep hk (fun b _ hb e=>by omega) (fun g hg e=>by have:=h.low g hg;omega),h.low,Nat.le_trans h.size hk.size,h.kp.trans hk (fun _ _ e=>.inl e)⟩
theorem RTk.drewN {W wr:World} {cs ob H:Nat} {s:ByteArray} {I:Nat} {l:List Tk} {v:Value} (h:RTk W wr cs ob H s I l v) (n:Nat) (h1:cs≠ob) (h3:cs<H):RTk W (wr.drewN n) cs ob H s I l v:=
 h.move ((aB.refl _ _).drewN n) (h.sc.drewN n) h1 h3
theorem RTk.more {W wr w1:World} {cs ob H:Nat} {s:ByteArray} {I J n:Nat} {l:List Tk} {va:OA} {vn vc:Nat} {x:Tk} {wv:Value} (h:RTk W wr cs ob H s I l (.slice va vn vc)) (hk:aB (fun b=>b=cs) wr w1) (hs:aD w1 cs s J ((0:Nat):Int)) (h1:cs≠ob) (h3:cs<H) (hob:ob<H)
 (hx:aV w1 (fun b=>wr.heap.size≤b) n x.word wv) :
 vn=l.length∧∃xs,w1.ownsRow 0 109 3 (.slice va vn vc) vn xs∧∀(g cap:Nat) (w2:World) (o:Obj),w2.ownsRow 0 109 3 (.slice (some ⟨g,0,none⟩) (vn+1) cap) (vn+1) (xs++iT x wv)→(w1.alloc o).grownBy w2 (Value.slice va vn vc).ownBlock→((Value.slice va vn vc).ownBlock=some g∨g=w1.heap.size+1)→
  RTk W w2 cs ob H s J (l++[x]) (.slice (some ⟨g,0,none⟩) (vn+1) cap):=by
 have hvn:vn=l.length:=by
  obtain⟨a,c,e,_⟩:=h.own.shape;injection e
 subst hvn;obtain⟨xs,ho,hF⟩:=h.own.more' h.low h.size hk h3 hx;refine⟨rfl,xs,ho,fun g cap w2 o a b c=>?_⟩;obtain⟨k1,k2,k3⟩:=hF g cap w2 o a b c;have hm:=h.move hk hs h1 h3;exact⟨hm.sc.keep k3 (fun e=>by omega),(k3.block ob (Array.getElem?_eq_some_iff.1 hm.ops).1 (fun e=>by omega)).trans hm.ops,k1,fun y hy=>(by obtain rfl:g=y:=Option.some.inj hy;exact k2),Nat.le_trans hm.size k3.size,hm.kp.trans k3 (fun _ _ e=>.inr e)⟩
def Ba (w:World) (res:Except Nat (List Tk)) (e:Ending) (w':World):Prop:=
 match res with
 | .ok l=>∃(v:Value),e=.returned (.tuple #[v,.int .i64 0])∧eI w' (fun b=>w.heap.size≤b) v l∧(∀g,v.ownBlock=some g→w.heap.size≤g)∧K0 w w'
 | .error x=>x≠0∧e=.returned (.tuple #[.slice none 0 0,.int .i64 x])∧K0 w w'
theorem Pp {w W wr:World} {cs ob H:Nat} {s:ByteArray} {I:Nat} {l:List Tk} {v:Value} {res:Except Nat (List Tk)} (h:RTk W wr cs ob H s I l v) (hw:K0 w W) (hc:w.heap.size≤cs) (hH:w.heap.size≤H) (hr:res=.ok l):Ba w res (.returned (.tuple #[v,.int .i64 0])) wr:=by
 rw [hr];refine⟨v,rfl,?_,fun g hg=>Nat.le_trans hH (h.low g hg),?_⟩
 ·obtain⟨vs,n,a,b,c⟩:=h.own;exact⟨vs,n,a,b,fun i h h'=>(c i h h').mono fun b _ hb=>⟨Nat.le_trans hH hb.1,hb.2⟩⟩
 ·refine hw.trans (h.kp.mono (T:=fun b=>b=cs∨H≤b) fun _ _ e=>e) (fun b hb e=>?_);rcases e with e | e<;>omega
theorem uH {w W wr:World} {cs H x:Nat} {res:Except Nat (List Tk)} (hk:aB (fun b=>b=cs∨H≤b) W wr) (hw:K0 w W) (hc:w.heap.size≤cs) (hH:w.heap.size≤H) (hx:x≠0) (hr:res=.error x):Ba w res (.returned (.tuple #[.slice none 0 0,.int .i64 x])) wr:=by
 rw [hr];refine⟨hx,rfl,hw.trans hk (fun b hb e=>?_)⟩;rcases e with e | e<;>omega
def Dg (l:List Tk):Res→Except Nat (List Tk)
 | .error e=>.error e
 | .ok (p,r1)=>g9 (l++[⟨1,[],cT p⟩]) (gJ r1)
theorem Fh (s:ByteArray) (w:World) (hs:s.size≤20000) (hm:pH s.data.toList=0) :
 Calls Tryz.prog 32 #[.string s] w (Ba w (gJ s.data.toList)):=by
 have hc3:=fW;obtain⟨i0,hi0,hz0,hz1,hz2⟩:=info_parts Ey;obtain⟨res,hres⟩:∃res,res=gJ s.data.toList:=⟨_,rfl⟩;rw [←hres];have HRES:=Hd (show res=g9 [] (gJ (rest s 0)) by rw [hres,Jv,O0]);have HM:=Hd (show pH s.data.toList=0 from hm);clear hres hm;go_enter Tryz.func32,Tryz.ntmps32;go_wp2_with fail;refine (wD s _ (by omega)).mono ?_;rintro e w1 ⟨rfl,hw1⟩;rw [HM.o,hw1]
 clear hw1;go_wp2_with fail;obtain⟨W,hW⟩:∃W,W=(w.alloc (.cells #[.string s,.int .i64 0,.int .i64 0] 57)).alloc (.cells Op 9):=⟨_,rfl⟩;have hW2:=hW;unfold Op at hW2;rw [←hW2];obtain⟨cs,hcs⟩:∃cs,cs=w.heap.size:=⟨_,rfl⟩;obtain⟨ob,hob⟩:∃ob,ob=cs+1:=⟨_,rfl⟩;obtain⟨H,hH⟩:∃H,H=ob+1:=⟨_,rfl⟩;rw [←hcs,←hob];have HTK0:=Hd (show RTk W W cs ob H s 0 [] (.slice none 0 0) by
  have hz:(w.alloc (.cells #[.string s,.int .i64 0,.int .i64 0] 57)).heap.size=ob:=by rw [hob,hcs];simp
  refine⟨?_,?_,eI.nil _ _,fun g hg=>(by cases hg),?_,aB.refl _ _⟩
  ·rw [hW,hcs];exact (aD.new w s 0 0 _).alloc _
  ·rw [hW,←hz];exact heap_alloc_new _ _
  ·rw [hW,hH];simp [hob,hcs])
 have HKW:=Hd (show K0 w W by rw [hW];exact ((aB.refl _ _).alloc _).alloc _);have hco:cs≠ob:=by omega
 have hcH:cs<H:=by omega
 have hoH:ob<H:=by omega
 have HCW:=Hd (show w.heap.size≤cs by omega);have HHW:=Hd (show w.heap.size≤H by omega);clear hW hW2 hcs hob hH;go_loopg [5] (s.size+2 - 0) (fun g v wr=>∃(I:Nat) (l:List Tk),g=s.size+2 - I∧I≤s.size∧l.length≤I∧RTk W wr cs ob H s I l v∧Hid (res=g9 l (gJ (rest s I))))
 case atStart=>exact⟨0,[],rfl,Nat.zero_le _,Nat.le_refl _,HTK0.o,HRES⟩
 case round=>
  obtain⟨I,l,hgg,hIs,hln,htk,HR⟩:=hrel;obtain⟨va,vn,vc,rfl⟩:∃(a:OA) (n c:Nat),_=Value.slice a n c:=by obtain⟨a,c,e,_⟩:=htk.own.shape;exact⟨a,_,c,e⟩
  have HGG:=Hd hgg;have H0:=Hd htk;clear hgg htk;by_cases hlt:I<s.size
  ·skip;have HE:=Hd (show decide (s.size≤I)=false from decide_eq_false (by omega));obtain⟨c,hc⟩:∃c,c=aM s I:=⟨_,rfl⟩;have HC:=Hd hc.symm;have HRC:=Hd (show rest s I=c::rest s (I+1) by rw [aN hlt,←hc]);clear hc;go_wp2_with fail;refine (bB cs s I _ _ H0.o.sc).mono ?_;rintro e wy ⟨rfl,q1,rfl⟩;rw [HE.o];obtain⟨W1,hW⟩:∃Z:World,Z=wr.drewN q1:=⟨_,rfl⟩;rw [←hW];have H1:=Hd (show RTk W W1 cs ob H s I l (.slice va vn vc) by rw [hW];exact H0.o.drewN _ hco hcH)
   clear hW;go_wp2_with fail;refine (aP cs s I _ _ H1.o.sc (by omega) (by omega)).mono ?_;rintro e wy ⟨rfl,q2,rfl⟩;rw [HC.o];obtain⟨W2,hW⟩:∃Z:World,Z=W1.drewN q2:=⟨_,rfl⟩;rw [←hW];have H2:=Hd (show RTk W W2 cs ob H s I l (.slice va vn vc) by rw [hW];exact H1.o.drewN _ hco hcH);clear hW;cases tb:(c==32 || c==9) with
   | true=>
    have HN:=Hd (show res=g9 l (gJ (rest s (I+1))) by rw [HR.o,HRC.o,Ci tb]);by_cases t32:c=32
    ·have f32:((c.toNat:Int)==32)=true:=aU (c:=c) (k:=32) t32;clear t32 tb;obtain⟨d0,d1,d2,g1,g2⟩:=H2.o.sc.cells;obtain⟨W3,hW⟩:∃Z:World,Z=W2.setCell ⟨cs,1,none⟩ (.int .i64 ((I:Int)+1)):=⟨_,rfl⟩;obtain⟨hsm,hkm⟩:=cE H2.o.sc (j:=(I:Int)+1) (J:=I+1) (by omega);have H3:=Hd (show RTk W W3 cs ob H s (I+1) l (.slice va vn vc) by rw [hW];exact H2.o.move hkm hsm hco hcH);have HW3:=Hd hW;clear hW hsm hkm
     go_wp2_with fail;rw [←HW3.o];go_roundg (s.size+2 - (I+1))
     case measure=>have:=HGG.o;omega
     case rel=>exact⟨I+1,l,rfl,by omega,by omega,H3.o,HN⟩
    ·have f32:((c.toNat:Int)==32)=false:=aX (c:=c) (k:=32) t32;have f9:((c.toNat:Int)==9)=true:=by
      rw [beq_eq_false_iff_ne.2 t32,Bool.false_or] at tb;exact aU (c:=c) (k:=9) (beq_iff_eq.1 tb)
     clear t32 tb;obtain⟨d0,d1,d2,g1,g2⟩:=H2.o.sc.cells;obtain⟨W3,hW⟩:∃Z:World,Z=W2.setCell ⟨cs,1,none⟩ (.int .i64 ((I:Int)+1)):=⟨_,rfl⟩;obtain⟨hsm,hkm⟩:=cE H2.o.sc (j:=(I:Int)+1) (J:=I+1) (by omega);have H3:=Hd (show RTk W W3 cs ob H s (I+1) l (.slice va vn vc) by rw [hW];exact H2.o.move hkm hsm hco hcH);have HW3:=Hd hW;clear hW hsm hkm;go_wp2_with fail;rw [←HW3.o];go_roundg (s.size+2 - (I+1))
     case measure=>have:=HGG.o;omega
     case rel=>exact⟨I+1,l,rfl,by omega,by omega,H3.o,HN⟩
   | false=>
    have TB:=Hd tb;have t32:c≠32:=by rintro rfl;cases tb
    have t9:c≠9:=by rintro rfl;cases tb
    have f32:((c.toNat:Int)==32)=false:=aX (c:=c) (k:=32) t32;have f9:((c.toNat:Int)==9)=false:=aX (c:=c) (k:=9) t9;clear t32 t9 tb;obtain⟨x,hx⟩:∃x,x=aM s (I+1):=⟨_,rfl⟩;have HX:=Hd hx.symm;have HHD:=Hd (show aW 10 (rest s (I+1))=(x==10) by
     rw [hx];rcases Nat.lt_or_ge (I+1) s.size with h | h
     ·rw [aN h];rfl
     ·rw [bU h];unfold aM;rw [List.getD_eq_getElem?_getD,List.getElem?_eq_none (by rw [←Lib.size_eq];omega)];rfl)
    clear hx;by_cases t92:c=92
    ·have f92:((c.toNat:Int)==92)=true:=aU (c:=c) (k:=92) t92;have f35:((c.toNat:Int)==35)=false:=aX (c:=c) (k:=35) (by rw [t92];decide);by_cases t10:x=10
     ·have f10:((x.toNat:Int)==10)=true:=aU (c:=x) (k:=10) t10;have hin:I+1<s.size:=by
       rcases Nat.lt_or_ge (I+1) s.size with h | h
       ·exact h
       ·have:=HHD.o;rw [bU h,t10] at this;cases this
      have HN:=Hd (show res=g9 l (gJ (rest s (I+2))) by
       rw [HR.o,HRC.o,aN hin,HX.o,t92,t10,Js])
      clear t10 t92;go_wp2_with fail;refine (cF cs s I _ _ H2.o.sc (by omega) (by omega)).mono ?_;rintro e wy ⟨rfl,q3,rfl⟩;rw [HX.o];obtain⟨W3,hW⟩:∃Z:World,Z=W2.drewN q3:=⟨_,rfl⟩;rw [←hW];have H3:=Hd (show RTk W W3 cs ob H s I l (.slice va vn vc) by rw [hW];exact H2.o.drewN _ hco hcH);clear hW;obtain⟨d0,d1,d2,g1,g2⟩:=H3.o.sc.cells;obtain⟨W4,hW⟩:∃Z:World,Z=W3.setCell ⟨cs,1,none⟩ (.int .i64 ((I:Int)+2)):=⟨_,rfl⟩
      obtain⟨hsm,hkm⟩:=cE H3.o.sc (j:=(I:Int)+2) (J:=I+2) (by omega);have H4:=Hd (show RTk W W4 cs ob H s (I+2) l (.slice va vn vc) by rw [hW];exact H3.o.move hkm hsm hco hcH);have HW4:=Hd hW;clear hW hsm hkm;go_wp2_with fail;rw [←HW4.o];go_roundg (s.size+2 - (I+2))
      case measure=>have:=HGG.o;omega
      case rel=>exact⟨I+2,l,rfl,by omega,by omega,H4.o,HN⟩
     ·have f10:((x.toNat:Int)==10)=false:=aX (c:=x) (k:=10) t10;have HSK:=Hd (show dM false (rest s I)=rest s I by
       rw [HRC.o];exact xY TB.out (by rw [t92];rfl) (by rw [HHD.o,beq_eq_false_iff_ne.2 t10,Bool.and_false]))
      clear t10 t92;go_wp2_with fail;refine (cF cs s I _ _ H2.o.sc (by omega) (by omega)).mono ?_;rintro e wy ⟨rfl,q3,rfl⟩;rw [HX.o];obtain⟨W3,hW⟩:∃Z:World,Z=W2.drewN q3:=⟨_,rfl⟩;rw [←hW];have H3:=Hd (show RTk W W3 cs ob H s I l (.slice va vn vc) by rw [hW];exact H2.o.drewN _ hco hcH);clear hW
      as_aux_lemma=>
       have hlt':(I:Int)≤(s.size:Int):=by omega
       go_wp2_with fail;go_loopg [8,9] (15) (fun g o k wr=>∃(n:Nat) (T:ByteArray),g=15 - n∧k=.int .i64 n∧o=.string T∧n≤13∧RTk W wr cs ob H s I l (.slice va vn vc)∧Hid ((T.data.toList=[]∧∀j,j<n→aI (iB.getD j []) (rest s I)=false)∨(T.data.toList≠[]∧T.data.toList=eK (rest s I))))
       case atStart=>exact⟨0,⟨#[]⟩,rfl,rfl,rfl,by omega,H3.o,Hd (.inl ⟨rfl,fun j hj=>absurd hj (Nat.not_lt_zero _)⟩)⟩
       case round=>
        obtain⟨n,T,hg2,rfl,rfl,hn,htk,HD⟩:=hrel;have HGG2:=Hd hg2;have H3:=Hd htk;obtain⟨d0,d1,d2,g1,g2⟩:=htk.sc.cells;clear hg2 htk;rcases HD.o with ⟨hT,hno⟩ | ⟨hT,hop⟩
        ·have HNO:=Hd hno;have HTE:=Hd hT;obtain⟨u1,u2⟩:=kR hT;by_cases hlt3:n<13
         ·have p1:(n:Int)<13:=by omega
          have hcell:wr.cell? ⟨ob,n,none⟩=some (e8 (iB.getD n [])):=by
           rw [cell_of_row wr ob n _ _ _ H3.o.ops];exact Ge n hlt3
          obtain⟨hl3,hl4⟩:=Cl n hlt3;unfold e8 at hcell;obtain⟨R,hR⟩:∃R,R=s.extract I s.size:=⟨_,rfl⟩;have hRl:R.data.toList=rest s I:=by rw [hR,Lib.extract_to_end];rfl
          have HRE:=Hd hR;have HRL:=Hd hRl;have hRz:(s.extract I s.size).size≤s.size:=by rw [ByteArray.size_extract];omega
          have HDR:=Hd (fun q=>H3.o.drewN q hco hcH);clear hR hRl hno hT HD;cases hst:aI (iB.getD n []) (rest s I)
          ·have HS:=Hd hst;have HN2:=Hd (rN HNO.o hst);clear hst;generalize iB.getD n []=t at hcell HS hl3 hl4;obtain⟨Q,hQ⟩:∃Q:ByteArray,Q=⟨t.toArray⟩:=⟨_,rfl⟩;have HB2:=Hd (show aI Q.data.toList (s.extract I s.size).data.toList=false by rw [←HRE.o,HRL.o,hQ];exact HS.o);rw [←hQ] at hcell;clear hQ;go_wp2_with fail;go_quiet ((go_at_call 61;exact Calls.quiet_of_same ((jC _ _ _ (by omega)).mono (fun e w' hh=>by rw [HB2.o] at hh;exact hh))))
           go_wp2_with fail;go_roundg (15 - (n+1))
           case measure=>have:=HGG2.o;omega
           case rel=>exact⟨n+1,T,rfl,by go_num,rfl,by omega,HDR.o _,Hd (.inl ⟨HTE.o,HN2.o⟩)⟩
          ·have HF:=Hd ((pD _).symm.trans (rL HNO.o (show n<iB.length from hlt3) hst));have HS:=Hd hst;clear hst;generalize iB.getD n []=t at hcell HS hl3 hl4 HF;obtain⟨Q,hQ⟩:∃Q:ByteArray,Q=⟨t.toArray⟩:=⟨_,rfl⟩;have HB2:=Hd (show aI Q.data.toList (s.extract I s.size).data.toList=true by rw [←HRE.o,HRL.o,hQ];exact HS.o);have HQT:=Hd (show Q.data.toList=t by rw [hQ]);rw [←hQ] at hcell
           clear hQ;go_wp2_with fail;go_quiet ((go_at_call 61;exact Calls.quiet_of_same ((jC _ _ _ (by omega)).mono (fun e w' hh=>by rw [HB2.o] at hh;exact hh))));have hcell2:(wr.drewN nq).cell? ⟨ob,n,none⟩=some (.string Q):=hcell;go_wp2_with fail;go_roundg (15 - (n+1))
           case measure=>have:=HGG2.o;omega
           case rel=>exact⟨n+1,Q,rfl,by go_num,rfl,by omega,HDR.o _,Hd (.inr ⟨by rw [HQT.o];intro h;rw [h] at hl4;exact absurd hl4 (by decide),by rw [HQT.o,HF.o]⟩)⟩
         ·obtain rfl:n=13:=by omega
          have HF:=Hd ((pD (rest s I)).symm.trans (pY (l:=iB) HNO.o));have H38:=Hd (show aW 38 (rest s I)=(c==38) by rw [HRC.o];rfl);clear hno hT HD;by_cases t38:c=38
          ·have f38:((c.toNat:Int)==38)=true:=aU (c:=c) (k:=38) t38;have HX2:=Hd (show res=.error 2 by
            have h1:=iF (rest s I);rw [HSK.o,HRC.o] at h1;rw [HR.o,HRC.o,h1];dsimp only;unfold gF;rw [←HRC.o,HF.o,if_pos (by rfl),H38.o,t38];rfl)
           clear t38;go_wp2_with fail;go_ret2;exact uH H3.o.kp HKW.o HCW.o HHW.o (by decide) HX2.o
          ·have f38:((c.toNat:Int)==38)=false:=aX (c:=c) (k:=38) t38;obtain⟨wd,hwd⟩:∃wd,wd=oB false (rest s I):=⟨_,rfl⟩;have HWD:=Hd hwd.symm;have HN:=Hd (show res=Dg l wd by
            have h1:=iF (rest s I);rw [HSK.o,HRC.o] at h1;rw [HR.o,HRC.o,h1];dsimp only;rw [←HRC.o,nT HF.o (by rw [H38.o];exact beq_eq_false_iff_ne.2 t38),←hwd];cases wd with
            | error e=>rfl
            | ok z=>exact nB _ _ _)
           have HWL:=Hd (show ∀p r1,wd=.ok (p,r1)→r1.length<s.size - I from fun p r1 h=>by
            rw [hwd,HRC.o,kN] at h;have hb:=sO c (rest s (I+1)) (by rw [←HRC.o];exact HF.o) t38 TB.out;rw [hb] at h;simp only [Bool.not_false,Bool.and_false,Bool.false_eq_true,if_false] at h;cases h2:cS (.one false) 0 (c::rest s (I+1)) with
            | error e=>rw [h2] at h;cases h
            | ok z=>
             obtain⟨l2,r2⟩:=z;rw [h2] at h;dsimp only at h;have h4:=dV _ _ _ _ _ _ h2;obtain⟨m',h5,_⟩:=eL h;have h6:=pG _ _ _ _ _ h5;simp only [Md.least,lC,cM] at h4;omega)
           clear t38 hwd;have hcall:=zF cs s I false wr H3.o.sc (by omega) hs (by have:=H3.o.size;omega);rw [HWD.o] at hcall;have HCALL:=Hd hcall;clear hcall d0 d1 d2 g1 g2;go_wp2_with fail;refine HCALL.o.mono ?_;intro e w6 hp;cases wd with
           | error x=>
            obtain⟨hx0,v,nn,i',l',rfl,hi',hsc,hpt,hk⟩:=hp;obtain⟨xa,xc,rfl,_,_⟩:=hpt.shape;have b0:((x:Int) != 0)=true:=by rw [bne_iff_ne];omega
            obtain⟨d0,d1,d2,g1,g2⟩:=hsc.cells;have HK6:=Hd (H3.o.kp.trans hk (fun _ _ e=>.inl e));have HX0:=Hd hx0;clear hpt hsc hk;go_wp2_with fail;go_quiet (fail);go_wp2_with fail;go_ret2;exact uH (HK6.o.drewN _) HKW.o HCW.o HHW.o HX0.o HN.o
           | ok z=>
            obtain⟨p,r1⟩:=z;obtain⟨v,nn,i',rfl,hi',hri,hsc,hpt,hk⟩:=hp;obtain⟨xa,xc,rfl,_,_⟩:=hpt.shape;have hlr:=HWL.o p r1 rfl;rw [←hri,cM] at hlr;obtain⟨d0,d1,d2,g1,g2⟩:=hsc.cells;have hIi:I<i':=by omega
            obtain⟨hvn,xs,hown,hF⟩:=H3.o.more (x:=⟨1,[],cT p⟩) hk hsc hco hcH hoH hpt;have HF3:=Hd (show res=g9 (l++[⟨1,[],cT p⟩]) (gJ (rest s i')) by rw [HN.o,hri];rfl);have HF:=Hd hF;have HI:=Hd hi';obtain⟨xn,hxn⟩:∃xn,xn=(cT p).length:=⟨_,rfl⟩;have e0:e8 ([]:List UInt8)=.string ⟨#[]⟩:=rfl;unfold iT at HF;dsimp only at HF;rw [←hxn,e0] at HF;rw [←hxn];have HIi:=Hd hIi;have hvb:vn≤20000:=by omega
            clear hpt hsc hk hF hri hlr hi' hxn hIi e0 hvn;go_wp2_with (at_builtin;refine wpList_append_lies _ rfl (.tmp 128) (.tmp 131) _ rfl 0 109 i0 _ 3 48 Tryz.underlying76 hi0 hz0 hz1 hz2 rfl (by omega) (.slice va vn vc) vn xs rfl (hown.alloc _) ⟨w6.heap.size,0,none⟩ 1 1 [.int .i64 1,.string ⟨#[]⟩,.slice xa xn xc] rfl rfl (World.news_of_block (cs:=#[.int .i64 1,.string ⟨#[]⟩,.slice xa xn xc]) (t:=109) (fr:=(0,0)) (heap_alloc_new w6 _)) (by simp [Value.oneCell']) (by omega) (by unfold maxLen;omega) (by omega) (by simp) (w6.heap.size+1) (by simp) ?_;intro gg cap w7 hown6 hgrow6 hat6 hlt6;have HM2:=Hd (HF.o gg cap w7 _ hown6 hgrow6 hat6))
            go_roundg (s.size+2 - i')
            case measure=>have:=HGG.o;have:=HIi.o;have:=HI.o;omega
            case rel=>exact⟨i',_,rfl,HI.o,by rw [lA];have:=HIi.o;show l.length+1≤i';omega,HM2.o,HF3⟩
        ·have HOP:=Hd hop;obtain⟨u1,u2⟩:=lQ hT;have HTL:=Hd (show 0<T.size by rw [Lib.size_eq];exact List.length_pos_iff.2 hT);have hTz:I+T.size≤s.size:=by
          have h1:=B8 (rest s I);rw [←hop,←Lib.size_eq,cM] at h1;omega
         have HN:=Hd (show res=g9 (l++[⟨2,T.data.toList,[]⟩]) (gJ (rest s (I+T.size))) by
          have h1:=iF (rest s I);rw [HSK.o,HRC.o] at h1;rw [HR.o,HRC.o,h1];dsimp only;rw [←HRC.o,sY (by rw [←hop];exact hT),←hop,←Lib.size_eq,dY];exact nB _ _ _)
         obtain⟨hvn,xs,hown,hF⟩:=H3.o.more (aB.refl _ _) H3.o.sc hco hcH hoH (x:=⟨2,T.data.toList,[]⟩) (n:=0) (aV.nil wr _ 0);have hvb:vn≤20000:=by omega
         have e0:e8 T.data.toList=.string T:=jM rfl;have HF:=Hd hF;unfold iT at HF;dsimp only at HF;rw [e0] at HF;have HTZ:=Hd hTz;clear hF e0 hop hT HD d0 d1 d2 g1 g2 hvn;rcases Nat.lt_or_ge n 13 with h13 | h13
         ·have p13:(n:Int)<13:=by omega
          go_wp2_with (at_builtin;refine wpList_append_lies _ rfl (.tmp 100) (.tmp 103) _ rfl 0 109 i0 _ 3 48 Tryz.underlying76 hi0 hz0 hz1 hz2 rfl (by omega) (.slice va vn vc) vn xs rfl (hown.alloc _) ⟨wr.heap.size,0,none⟩ 1 1 [.int .i64 2,.string T,.slice none 0 0] rfl rfl (World.news_of_block (cs:=#[.int .i64 2,.string T,.slice none 0 0]) (t:=109) (fr:=(0,0)) (heap_alloc_new wr _)) (by simp [Value.oneCell']) (by omega) (by unfold maxLen;omega) (by omega) (by simp) (wr.heap.size+1) (by simp) ?_;intro gg cap w6 hown6 hgrow6 hat6 hlt6;have HM2:=Hd (HF.o gg cap w6 _ hown6 hgrow6 hat6);obtain⟨d0,d1,d2,g1,g2⟩:=HM2.o.sc.cells)
          go_roundg (s.size+2 - (I+T.size))
          case measure=>have:=HGG.o;have:=HTL.o;have:=HTZ.o;omega
          case rel=>exact⟨I+T.size,_,rfl,HTZ.o,by rw [lA];have:=HTL.o;show l.length+1≤I+T.size;omega,HM2.o.move (cE HM2.o.sc (j:=(I:Int)+(T.size:Int)) (J:=I+T.size) (by omega)).2 (cE HM2.o.sc (j:=(I:Int)+(T.size:Int)) (J:=I+T.size) (by omega)).1 hco hcH,HN⟩
         ·have p13:¬(n:Int)<13:=by omega
          go_wp2_with (at_builtin;refine wpList_append_lies _ rfl (.tmp 100) (.tmp 103) _ rfl 0 109 i0 _ 3 48 Tryz.underlying76 hi0 hz0 hz1 hz2 rfl (by omega) (.slice va vn vc) vn xs rfl (hown.alloc _) ⟨wr.heap.size,0,none⟩ 1 1 [.int .i64 2,.string T,.slice none 0 0] rfl rfl (World.news_of_block (cs:=#[.int .i64 2,.string T,.slice none 0 0]) (t:=109) (fr:=(0,0)) (heap_alloc_new wr _)) (by simp [Value.oneCell']) (by omega) (by unfold maxLen;omega) (by omega) (by simp) (wr.heap.size+1) (by simp) ?_;intro gg cap w6 hown6 hgrow6 hat6 hlt6;have HM2:=Hd (HF.o gg cap w6 _ hown6 hgrow6 hat6);obtain⟨d0,d1,d2,g1,g2⟩:=HM2.o.sc.cells)
          go_roundg (s.size+2 - (I+T.size))
          case measure=>have:=HGG.o;have:=HTL.o;have:=HTZ.o;omega
          case rel=>exact⟨I+T.size,_,rfl,HTZ.o,by rw [lA];have:=HTL.o;show l.length+1≤I+T.size;omega,HM2.o.move (cE HM2.o.sc (j:=(I:Int)+(T.size:Int)) (J:=I+T.size) (by omega)).2 (cE HM2.o.sc (j:=(I:Int)+(T.size:Int)) (J:=I+T.size) (by omega)).1 hco hcH,HN⟩
    have f92:((c.toNat:Int)==92)=false:=aX (c:=c) (k:=92) t92;have G92:=Hd (show (c==92)=false from beq_eq_false_iff_ne.2 t92);clear t92;by_cases t35:c=35
    ·have f35:((c.toNat:Int)==35)=true:=aU (c:=c) (k:=35) t35;have HC35:=Hd (HC.o.trans t35);clear t35;go_wp2_with fail;go_loopg [] (s.size+3 - I) (fun g wr=>∃K:Nat,g=s.size+3 - K∧I≤K∧K≤s.size∧(I<K∨K=I)∧RTk W wr cs ob H s K l (.slice va vn vc)∧Hid (wG s I K))
     case atStart=>exact⟨I,rfl,Nat.le_refl _,hIs,.inr rfl,H2.o,Hd rfl⟩
     case round=>
      obtain⟨K,hg2,hIK,hKs,hor,htk,HU⟩:=hrel;have HGG2:=Hd hg2;have HOR:=Hd hor;have H7:=Hd htk;clear hg2 hor htk;by_cases hlt2:K<s.size
      ·have HE2:=Hd (show decide (s.size≤K)=false from decide_eq_false (by omega));obtain⟨y,hy⟩:∃y,y=aM s K:=⟨_,rfl⟩;have HY:=Hd hy.symm;clear hy;by_cases ty:y=10
       ·have fy:((y.toNat:Int) != 10)=false:=by rw [bne,show ((y.toNat:Int)==10)=true from aU (c:=y) (k:=10) ty];rfl
        have HN:=Hd (show res=g9 l (gJ (rest s K)) by rw [HR.o,HU.o.end (.inr ⟨hlt2,HY.o.trans ty⟩) hlt HC35.o]);have hlt3:I<K:=by
         rcases HOR.o with h | h
         ·exact h
         ·exfalso;have h1:=HC35.o;have h2:=HY.o;rw [h,h1] at h2;rw [←h2] at ty;exact absurd ty (by decide)
        clear ty;go_wp2_with fail;refine (bB cs s K _ _ H7.o.sc).mono ?_;rintro e wy ⟨rfl,q8,rfl⟩;rw [HE2.o];obtain⟨W8,hW⟩:∃Z:World,Z=wr.drewN q8:=⟨_,rfl⟩;rw [←hW];have H8:=Hd (show RTk W W8 cs ob H s K l (.slice va vn vc) by rw [hW];exact H7.o.drewN _ hco hcH);clear hW;go_wp2_with fail;refine (aP cs s K _ _ H8.o.sc (by omega) (by omega)).mono ?_;rintro e wy ⟨rfl,q9,rfl⟩;rw [HY.o]
        obtain⟨W9,hW⟩:∃Z:World,Z=W8.drewN q9:=⟨_,rfl⟩;rw [←hW];have H9:=Hd (show RTk W W9 cs ob H s K l (.slice va vn vc) by rw [hW];exact H8.o.drewN _ hco hcH);clear hW;go_wp2_with fail;go_roundg (s.size+2 - (K))
        case measure=>have:=HGG.o;omega
        case rel=>exact⟨K,l,rfl,by omega,by omega,H9.o,HN⟩
       ·have fy:((y.toNat:Int) != 10)=true:=by rw [bne,show ((y.toNat:Int)==10)=false from aX (c:=y) (k:=10) ty];rfl
        have HU2:=Hd (HU.o.on hlt2 (by rw [HY.o];exact beq_eq_false_iff_ne.2 ty));clear ty;go_wp2_with fail;refine (bB cs s K _ _ H7.o.sc).mono ?_;rintro e wy ⟨rfl,q8,rfl⟩;rw [HE2.o];obtain⟨W8,hW⟩:∃Z:World,Z=wr.drewN q8:=⟨_,rfl⟩;rw [←hW];have H8:=Hd (show RTk W W8 cs ob H s K l (.slice va vn vc) by rw [hW];exact H7.o.drewN _ hco hcH);clear hW;go_wp2_with fail;refine (aP cs s K _ _ H8.o.sc (by omega) (by omega)).mono ?_
        rintro e wy ⟨rfl,q9,rfl⟩;rw [HY.o];obtain⟨W9,hW⟩:∃Z:World,Z=W8.drewN q9:=⟨_,rfl⟩;rw [←hW];have H9:=Hd (show RTk W W9 cs ob H s K l (.slice va vn vc) by rw [hW];exact H8.o.drewN _ hco hcH);clear hW;obtain⟨d0,d1,d2,g1,g2⟩:=H9.o.sc.cells;obtain⟨W10,hW⟩:∃Z:World,Z=W9.setCell ⟨cs,1,none⟩ (.int .i64 ((K:Int)+1)):=⟨_,rfl⟩;obtain⟨hsm,hkm⟩:=cE H9.o.sc (j:=(K:Int)+1) (J:=K+1) (by omega);have H10:=Hd (show RTk W W10 cs ob H s (K+1) l (.slice va vn vc) by rw [hW];exact H9.o.move hkm hsm hco hcH)
        have HW10:=Hd hW;clear hW hsm hkm;go_wp2_with fail;rw [←HW10.o];go_roundg (s.size+3 - (K+1))
        case measure=>have:=HGG2.o;omega
        case rel=>exact⟨K+1,rfl,by omega,by omega,.inl (by omega),H10.o,HU2⟩
      ·have HE2:=Hd (show decide (s.size≤K)=true from decide_eq_true (by omega));have HN:=Hd (show res=g9 l (gJ (rest s K)) by rw [HR.o,HU.o.end (.inl (by omega)) hlt HC35.o]);go_wp2_with fail;refine (bB cs s K _ _ H7.o.sc).mono ?_;rintro e wy ⟨rfl,q8,rfl⟩;rw [HE2.o];obtain⟨W8,hW⟩:∃Z:World,Z=wr.drewN q8:=⟨_,rfl⟩;rw [←hW];have H8:=Hd (show RTk W W8 cs ob H s K l (.slice va vn vc) by rw [hW];exact H7.o.drewN _ hco hcH)
       clear hW;go_wp2_with fail;go_roundg (s.size+2 - (K))
       case measure=>have:=HGG.o;omega
       case rel=>exact⟨K,l,rfl,by omega,by omega,H8.o,HN⟩
    have f35:((c.toNat:Int)==35)=false:=aX (c:=c) (k:=35) t35;have HSK:=Hd (show dM false (rest s I)=rest s I by
     rw [HRC.o];exact xY TB.out (beq_eq_false_iff_ne.2 t35) (by rw [G92.out,Bool.false_and]))
    clear t35
    as_aux_lemma=>
     have hlt':(I:Int)≤(s.size:Int):=by omega
     go_wp2_with fail;go_loopg [8,9] (15) (fun g o k wr=>∃(n:Nat) (T:ByteArray),g=15 - n∧k=.int .i64 n∧o=.string T∧n≤13∧RTk W wr cs ob H s I l (.slice va vn vc)∧Hid ((T.data.toList=[]∧∀j,j<n→aI (iB.getD j []) (rest s I)=false)∨(T.data.toList≠[]∧T.data.toList=eK (rest s I))))
     case atStart=>exact⟨0,⟨#[]⟩,rfl,rfl,rfl,by omega,H2.o,Hd (.inl ⟨rfl,fun j hj=>absurd hj (Nat.not_lt_zero _)⟩)⟩
     case round=>
      obtain⟨n,T,hg2,rfl,rfl,hn,htk,HD⟩:=hrel;have HGG2:=Hd hg2;have H3:=Hd htk;obtain⟨d0,d1,d2,g1,g2⟩:=htk.sc.cells;clear hg2 htk;rcases HD.o with ⟨hT,hno⟩ | ⟨hT,hop⟩
      ·have HNO:=Hd hno;have HTE:=Hd hT;obtain⟨u1,u2⟩:=kR hT;by_cases hlt3:n<13
       ·have p1:(n:Int)<13:=by omega
        have hcell:wr.cell? ⟨ob,n,none⟩=some (e8 (iB.getD n [])):=by
         rw [cell_of_row wr ob n _ _ _ H3.o.ops];exact Ge n hlt3
        obtain⟨hl3,hl4⟩:=Cl n hlt3;unfold e8 at hcell;obtain⟨R,hR⟩:∃R,R=s.extract I s.size:=⟨_,rfl⟩;have hRl:R.data.toList=rest s I:=by rw [hR,Lib.extract_to_end];rfl
        have HRE:=Hd hR;have HRL:=Hd hRl;have hRz:(s.extract I s.size).size≤s.size:=by rw [ByteArray.size_extract];omega
        have HDR:=Hd (fun q=>H3.o.drewN q hco hcH);clear hR hRl hno hT HD;cases hst:aI (iB.getD n []) (rest s I)
        ·have HS:=Hd hst;have HN2:=Hd (rN HNO.o hst);clear hst;generalize iB.getD n []=t at hcell HS hl3 hl4;obtain⟨Q,hQ⟩:∃Q:ByteArray,Q=⟨t.toArray⟩:=⟨_,rfl⟩;have HB2:=Hd (show aI Q.data.toList (s.extract I s.size).data.toList=false by rw [←HRE.o,HRL.o,hQ];exact HS.o);rw [←hQ] at hcell;clear hQ;go_wp2_with fail;go_quiet ((go_at_call 61;exact Calls.quiet_of_same ((jC _ _ _ (by omega)).mono (fun e w' hh=>by rw [HB2.o] at hh;exact hh))))
         go_wp2_with fail;go_roundg (15 - (n+1))
         case measure=>have:=HGG2.o;omega
         case rel=>exact⟨n+1,T,rfl,by go_num,rfl,by omega,HDR.o _,Hd (.inl ⟨HTE.o,HN2.o⟩)⟩
        ·have HF:=Hd ((pD _).symm.trans (rL HNO.o (show n<iB.length from hlt3) hst));have HS:=Hd hst;clear hst;generalize iB.getD n []=t at hcell HS hl3 hl4 HF;obtain⟨Q,hQ⟩:∃Q:ByteArray,Q=⟨t.toArray⟩:=⟨_,rfl⟩;have HB2:=Hd (show aI Q.data.toList (s.extract I s.size).data.toList=true by rw [←HRE.o,HRL.o,hQ];exact HS.o);have HQT:=Hd (show Q.data.toList=t by rw [hQ]);rw [←hQ] at hcell
         clear hQ;go_wp2_with fail;go_quiet ((go_at_call 61;exact Calls.quiet_of_same ((jC _ _ _ (by omega)).mono (fun e w' hh=>by rw [HB2.o] at hh;exact hh))));have hcell2:(wr.drewN nq).cell? ⟨ob,n,none⟩=some (.string Q):=hcell;go_wp2_with fail;go_roundg (15 - (n+1))
         case measure=>have:=HGG2.o;omega
         case rel=>exact⟨n+1,Q,rfl,by go_num,rfl,by omega,HDR.o _,Hd (.inr ⟨by rw [HQT.o];intro h;rw [h] at hl4;exact absurd hl4 (by decide),by rw [HQT.o,HF.o]⟩)⟩
       ·obtain rfl:n=13:=by omega
        have HF:=Hd ((pD (rest s I)).symm.trans (pY (l:=iB) HNO.o));have H38:=Hd (show aW 38 (rest s I)=(c==38) by rw [HRC.o];rfl);clear hno hT HD;by_cases t38:c=38
        ·have f38:((c.toNat:Int)==38)=true:=aU (c:=c) (k:=38) t38;have HX2:=Hd (show res=.error 2 by
          have h1:=iF (rest s I);rw [HSK.o,HRC.o] at h1;rw [HR.o,HRC.o,h1];dsimp only;unfold gF;rw [←HRC.o,HF.o,if_pos (by rfl),H38.o,t38];rfl)
         clear t38;go_wp2_with fail;go_ret2;exact uH H3.o.kp HKW.o HCW.o HHW.o (by decide) HX2.o
        ·have f38:((c.toNat:Int)==38)=false:=aX (c:=c) (k:=38) t38;obtain⟨wd,hwd⟩:∃wd,wd=oB false (rest s I):=⟨_,rfl⟩;have HWD:=Hd hwd.symm;have HN:=Hd (show res=Dg l wd by
          have h1:=iF (rest s I);rw [HSK.o,HRC.o] at h1;rw [HR.o,HRC.o,h1];dsimp only;rw [←HRC.o,nT HF.o (by rw [H38.o];exact beq_eq_false_iff_ne.2 t38),←hwd];cases wd with
          | error e=>rfl
          | ok z=>exact nB _ _ _)
         have HWL:=Hd (show ∀p r1,wd=.ok (p,r1)→r1.length<s.size - I from fun p r1 h=>by
          rw [hwd,HRC.o,kN] at h;have hb:=sO c (rest s (I+1)) (by rw [←HRC.o];exact HF.o) t38 TB.out;rw [hb] at h;simp only [Bool.not_false,Bool.and_false,Bool.false_eq_true,if_false] at h;cases h2:cS (.one false) 0 (c::rest s (I+1)) with
          | error e=>rw [h2] at h;cases h
          | ok z=>
           obtain⟨l2,r2⟩:=z;rw [h2] at h;dsimp only at h;have h4:=dV _ _ _ _ _ _ h2;obtain⟨m',h5,_⟩:=eL h;have h6:=pG _ _ _ _ _ h5;simp only [Md.least,lC,cM] at h4;omega)
         clear t38 hwd;have hcall:=zF cs s I false wr H3.o.sc (by omega) hs (by have:=H3.o.size;omega);rw [HWD.o] at hcall;have HCALL:=Hd hcall;clear hcall d0 d1 d2 g1 g2;go_wp2_with fail;refine HCALL.o.mono ?_;intro e w6 hp;cases wd with
         | error x=>
          obtain⟨hx0,v,nn,i',l',rfl,hi',hsc,hpt,hk⟩:=hp;obtain⟨xa,xc,rfl,_,_⟩:=hpt.shape;have b0:((x:Int) != 0)=true:=by rw [bne_iff_ne];omega
          obtain⟨d0,d1,d2,g1,g2⟩:=hsc.cells;have HK6:=Hd (H3.o.kp.trans hk (fun _ _ e=>.inl e));have HX0:=Hd hx0;clear hpt hsc hk;go_wp2_with fail;go_quiet (fail);go_wp2_with fail;go_ret2;exact uH (HK6.o.drewN _) HKW.o HCW.o HHW.o HX0.o HN.o
         | ok z=>
          obtain⟨p,r1⟩:=z;obtain⟨v,nn,i',rfl,hi',hri,hsc,hpt,hk⟩:=hp;obtain⟨xa,xc,rfl,_,_⟩:=hpt.shape;have hlr:=HWL.o p r1 rfl;rw [←hri,cM] at hlr;obtain⟨d0,d1,d2,g1,g2⟩:=hsc.cells;have hIi:I<i':=by omega
          obtain⟨hvn,xs,hown,hF⟩:=H3.o.more (x:=⟨1,[],cT p⟩) hk hsc hco hcH hoH hpt;have HF3:=Hd (show res=g9 (l++[⟨1,[],cT p⟩]) (gJ (rest s i')) by rw [HN.o,hri];rfl);have HF:=Hd hF;have HI:=Hd hi';obtain⟨xn,hxn⟩:∃xn,xn=(cT p).length:=⟨_,rfl⟩;have e0:e8 ([]:List UInt8)=.string ⟨#[]⟩:=rfl;unfold iT at HF;dsimp only at HF;rw [←hxn,e0] at HF;rw [←hxn];have HIi:=Hd hIi;have hvb:vn≤20000:=by omega
          clear hpt hsc hk hF hri hlr hi' hxn hIi e0 hvn;go_wp2_with (at_builtin;refine wpList_append_lies _ rfl (.tmp 128) (.tmp 131) _ rfl 0 109 i0 _ 3 48 Tryz.underlying76 hi0 hz0 hz1 hz2 rfl (by omega) (.slice va vn vc) vn xs rfl (hown.alloc _) ⟨w6.heap.size,0,none⟩ 1 1 [.int .i64 1,.string ⟨#[]⟩,.slice xa xn xc] rfl rfl (World.news_of_block (cs:=#[.int .i64 1,.string ⟨#[]⟩,.slice xa xn xc]) (t:=109) (fr:=(0,0)) (heap_alloc_new w6 _)) (by simp [Value.oneCell']) (by omega) (by unfold maxLen;omega) (by omega) (by simp) (w6.heap.size+1) (by simp) ?_;intro gg cap w7 hown6 hgrow6 hat6 hlt6;have HM2:=Hd (HF.o gg cap w7 _ hown6 hgrow6 hat6))
          go_roundg (s.size+2 - i')
          case measure=>have:=HGG.o;have:=HIi.o;have:=HI.o;omega
          case rel=>exact⟨i',_,rfl,HI.o,by rw [lA];have:=HIi.o;show l.length+1≤i';omega,HM2.o,HF3⟩
      ·have HOP:=Hd hop;obtain⟨u1,u2⟩:=lQ hT;have HTL:=Hd (show 0<T.size by rw [Lib.size_eq];exact List.length_pos_iff.2 hT);have hTz:I+T.size≤s.size:=by
        have h1:=B8 (rest s I);rw [←hop,←Lib.size_eq,cM] at h1;omega
       have HN:=Hd (show res=g9 (l++[⟨2,T.data.toList,[]⟩]) (gJ (rest s (I+T.size))) by
        have h1:=iF (rest s I);rw [HSK.o,HRC.o] at h1;rw [HR.o,HRC.o,h1];dsimp only;rw [←HRC.o,sY (by rw [←hop];exact hT),←hop,←Lib.size_eq,dY];exact nB _ _ _)
       obtain⟨hvn,xs,hown,hF⟩:=H3.o.more (aB.refl _ _) H3.o.sc hco hcH hoH (x:=⟨2,T.data.toList,[]⟩) (n:=0) (aV.nil wr _ 0);have hvb:vn≤20000:=by omega
       have e0:e8 T.data.toList=.string T:=jM rfl;have HF:=Hd hF;unfold iT at HF;dsimp only at HF;rw [e0] at HF;have HTZ:=Hd hTz;clear hF e0 hop hT HD d0 d1 d2 g1 g2 hvn;rcases Nat.lt_or_ge n 13 with h13 | h13
       ·have p13:(n:Int)<13:=by omega
        go_wp2_with (at_builtin;refine wpList_append_lies _ rfl (.tmp 100) (.tmp 103) _ rfl 0 109 i0 _ 3 48 Tryz.underlying76 hi0 hz0 hz1 hz2 rfl (by omega) (.slice va vn vc) vn xs rfl (hown.alloc _) ⟨wr.heap.size,0,none⟩ 1 1 [.int .i64 2,.string T,.slice none 0 0] rfl rfl (World.news_of_block (cs:=#[.int .i64 2,.string T,.slice none 0 0]) (t:=109) (fr:=(0,0)) (heap_alloc_new wr _)) (by simp [Value.oneCell']) (by omega) (by unfold maxLen;omega) (by omega) (by simp) (wr.heap.size+1) (by simp) ?_;intro gg cap w6 hown6 hgrow6 hat6 hlt6;have HM2:=Hd (HF.o gg cap w6 _ hown6 hgrow6 hat6);obtain⟨d0,d1,d2,g1,g2⟩:=HM2.o.sc.cells)
        go_roundg (s.size+2 - (I+T.size))
        case measure=>have:=HGG.o;have:=HTL.o;have:=HTZ.o;omega
        case rel=>exact⟨I+T.size,_,rfl,HTZ.o,by rw [lA];have:=HTL.o;show l.length+1≤I+T.size;omega,HM2.o.move (cE HM2.o.sc (j:=(I:Int)+(T.size:Int)) (J:=I+T.size) (by omega)).2 (cE HM2.o.sc (j:=(I:Int)+(T.size:Int)) (J:=I+T.size) (by omega)).1 hco hcH,HN⟩
       ·have p13:¬(n:Int)<13:=by omega
        go_wp2_with (at_builtin;refine wpList_append_lies _ rfl (.tmp 100) (.tmp 103) _ rfl 0 109 i0 _ 3 48 Tryz.underlying76 hi0 hz0 hz1 hz2 rfl (by omega) (.slice va vn vc) vn xs rfl (hown.alloc _) ⟨wr.heap.size,0,none⟩ 1 1 [.int .i64 2,.string T,.slice none 0 0] rfl rfl (World.news_of_block (cs:=#[.int .i64 2,.string T,.slice none 0 0]) (t:=109) (fr:=(0,0)) (heap_alloc_new wr _)) (by simp [Value.oneCell']) (by omega) (by unfold maxLen;omega) (by omega) (by simp) (wr.heap.size+1) (by simp) ?_;intro gg cap w6 hown6 hgrow6 hat6 hlt6;have HM2:=Hd (HF.o gg cap w6 _ hown6 hgrow6 hat6);obtain⟨d0,d1,d2,g1,g2⟩:=HM2.o.sc.cells)
        go_roundg (s.size+2 - (I+T.size))
        case measure=>have:=HGG.o;have:=HTL.o;have:=HTZ.o;omega
        case rel=>exact⟨I+T.size,_,rfl,HTZ.o,by rw [lA];have:=HTL.o;show l.length+1≤I+T.size;omega,HM2.o.move (cE HM2.o.sc (j:=(I:Int)+(T.size:Int)) (J:=I+T.size) (by omega)).2 (cE HM2.o.sc (j:=(I:Int)+(T.size:Int)) (J:=I+T.size) (by omega)).1 hco hcH,HN⟩
  ·have HE:=Hd (show decide (s.size≤I)=true from decide_eq_true (by omega));have HX:=Hd (show res=.ok l by
    rw [HR.o,bU (by omega)];show Except.ok (l++[])=_;rw [List.append_nil])
   go_wp2_with fail;refine (bB cs s I _ _ H0.o.sc).mono ?_;rintro e wy ⟨rfl,q1,rfl⟩;rw [HE.o];obtain⟨W1,hW⟩:∃Z:World,Z=wr.drewN q1:=⟨_,rfl⟩;rw [←hW];have H1:=Hd (show RTk W W1 cs ob H s I l (.slice va vn vc) by rw [hW];exact H0.o.drewN _ hco hcH);clear hW;go_wp2_with fail;go_ret2;exact Pp H1.o HKW.o HCW.o HHW.o HX.o
theorem Ib (s:ByteArray) (w:World) (hs:s.size≤140737488351232) (x:Nat) (hx:pH s.data.toList=x) (h0:x≠0) :
 Calls Tryz.prog 32 #[.string s] w (Ba w (.error x)):=by
 have HX:=Hd hx;have e1:((x:Int) != 0)=true:=by rw [bne_iff_ne];omega
 have H0:=Hd h0;clear hx h0;go_enter Tryz.func32,Tryz.ntmps32;go_wp2_with fail;refine (wD s _ hs).mono ?_;rintro e w1 ⟨rfl,hw1⟩;rw [HX.o,hw1];clear hw1;go_wp2_with fail;refine (wD s _ hs).mono ?_;rintro e w1 ⟨rfl,hw1⟩;rw [HX.o,hw1];clear hw1;go_wp2_with fail;go_ret2;exact⟨H0.o,rfl,aB.refl _ _⟩
theorem Iv (s:ByteArray) (w:World) (hs:s.size≤140737488351232):Calls Tryz.prog 32 #[.string s] w (Ba w (kC s.data.toList)):=by
 by_cases h:pH s.data.toList=0
 ·rw [yR _ h];have hl:s.size≤16384:=by
   unfold pH at h;rw [←Lib.size_eq] at h;split at h
   ·cases h
   ·omega
  exact Fh s w (by omega) h
 ·unfold kC;rw [if_neg h];exact Ib s w hs _ rfl h
end Go.Proofs.YtiihpbccabeoeaaGreatDoor
