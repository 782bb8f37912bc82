/- The walk: a part. -/
import Derived.Test.YtiihpbccabeoeaaGreatDoorWPkS
namespace Go.Proofs.YtiihpbccabeoeaaGreatDoor
open Go.RowKit
set_option linter.unusedVariables false
set_option maxRecDepth 100000
set_option maxHeartbeats 16000000
def iW (wh:Bool) (d:Nat) (q:Bool) (raw:List Pt):Res→Res
 | .error e=>.error e
 | .ok (l,r1)=>(fX wh d q r1).ahead (raw++l)
theorem tL (wh:Bool) (d:Nat) (q:Bool) (raw l:List Pt) (R:Res):iW wh d q raw (R.ahead l)=iW wh d q (raw++l) R:=by
 cases R with
 | error e=>rfl
 | ok x=>
  obtain⟨m,r⟩:=x;show (fX wh d q r).ahead (raw++(l++m))=(fX wh d q r).ahead (raw++l++m);rw [aA]
def xC (wh:Bool) (d:Nat) (c:UInt8):Bool:=decide (0<d) && c==125 || !wh && decide (d=0) && bJ c
theorem J4 {wh:Bool} {d:Nat} {q:Bool} {c:UInt8} {t:List UInt8} (raw:List Pt) (h:xC wh d c=false):(fX wh d q (c::t)).ahead raw=iW wh d q raw (cS (.one q) d (c::t)):=by
 rw [lF];unfold xC at h;rw [h,if_neg (by simp)];cases cS (.one q) d (c::t) with
 | error e=>rfl
 | ok x=>exact Jc _ _ _
theorem xG {wh:Bool} {d:Nat} {q:Bool} {c:UInt8} {t:List UInt8} (raw:List Pt) (h:xC wh d c=true):(fX wh d q (c::t)).ahead raw=.ok (raw,c::t):=by
 rw [lF];unfold xC at h;rw [h,if_pos rfl];show Except.ok (raw++[],c::t)=_;rw [List.append_nil]
structure dB (w wr:World) (cs:Nat) (s:ByteArray) (I:Nat) (v:Value) (raw:List Pt):Prop where
 scan:aD wr cs s I ((0:Nat):Int)
 row:Row wr w.heap.size v raw
 kp:aB (fun b=>b=cs∨w.heap.size≤b) w wr
def Bad (w wr:World) (cs:Nat) (s:ByteArray) (x bd:Nat) (v:Value):Prop:=
 x≠0∧∃(I:Nat) (raw:List Pt),I≤s.size+bd∧aD wr cs s I (x:Int)∧Row wr w.heap.size v raw∧wtF raw≤1000000∧aB (fun b=>b=cs∨w.heap.size≤b) w wr
def WSt (w wr:World) (cs:Nat) (s:ByteArray) (i d:Nat) (wh q:Bool) (res:Res) (g:Nat) (v:Value):Prop:=
 (∃(I:Nat) (raw:List Pt),g=s.size+2 - I∧i≤I∧I≤s.size∧wtF raw≤2*I∧dB w wr cs s I v raw∧res=(fX wh d q (rest s I)).ahead raw)∨
 (∃x:Nat,g=0∧res=.error x∧Bad w wr cs s x (101 - d) v)
def DSt (w wr:World) (cs:Nat) (s:ByteArray) (i d:Nat) (wh q:Bool) (res:Res) (g:Nat) (v:Value):Prop:=
 (∃(I:Nat) (raw:List Pt),g=s.size+2 - I∧i≤I∧I≤s.size∧wtF raw≤2*I∧dB w wr cs s I v raw∧res=iW wh d q raw (cS .dq d (rest s I)))∨
 (∃x:Nat,g=0∧res=.error x∧Bad w wr cs s x (100 - d) v)
theorem dB.keep {w wr wx:World} {cs I J:Nat} {s:ByteArray} {v:Value} {raw:List Pt} (h:dB w wr cs s I v raw) (hk:aB (fun b=>b=cs) wr wx) (hs:aD wx cs s J ((0:Nat):Int)) (hcs:cs<w.heap.size):dB w wx cs s J v raw:=
 ⟨hs,h.row.keep hk (fun b _ e=>by rw [e];exact hcs),h.kp.trans hk fun _ _ e=>.inl e⟩
theorem dB.drewN {w wr:World} {cs I:Nat} {s:ByteArray} {v:Value} {raw:List Pt} (h:dB w wr cs s I v raw) (n:Nat):dB w (wr.drewN n) cs s I v raw:=
 ⟨h.scan.drewN n,h.row.keep (S:=fun _=>False) ((aB.refl _ _).drewN n) (fun b _ e=>e.elim),h.kp.drewN n⟩
theorem dB.drew {w wr:World} {cs I:Nat} {s:ByteArray} {v:Value} {raw:List Pt} (h:dB w wr cs s I v raw):dB w wr.drew cs s I v raw:=
 ⟨h.scan.keep (S:=fun _=>False) (aB.refl _ _).drew (fun x=>x),h.row.keep (S:=fun _=>False) (aB.refl _ _).drew (fun b _ e=>e.elim),h.kp.drew⟩
theorem dB.size {w wr:World} {cs I:Nat} {s:ByteArray} {v:Value} {raw:List Pt} (h:dB w wr cs s I v raw):w.heap.size≤wr.heap.size:=h.kp.size
theorem dB.moved {w wr:World} {cs I J:Nat} {s:ByteArray} {v:Value} {raw:List Pt} (h:dB w wr cs s I v raw) {j:Int} (hj:j=(J:Int)) (hcs:cs<w.heap.size):dB w (wr.setCell ⟨cs,1,none⟩ (.int .i64 j)) cs s J v raw:=
 h.keep (cE h.scan hj).2 (cE h.scan hj).1 hcs
theorem dB.put {w wr wx:World} {cs I:Nat} {s:ByteArray} {v:Value} {raw:List Pt} {x:Pt} {e:Ending} (h:dB w wr cs s I v raw) (hp:Q7 wr w.heap.size raw x e wx) (hcs:cs<w.heap.size) :
 ∃(a:OA) (n c:Nat),e=.returned (.slice a n c)∧dB w wx cs s I (.slice a n c) (raw++[x]):=by
 obtain⟨v7,rfl,hrow,hk⟩:=hp;obtain⟨a,c,rfl,_,_⟩:=hrow.shape;exact⟨a,_,c,rfl,h.scan.keep hk (fun e=>by omega),hrow,h.kp.trans hk fun _ _ e=>.inr e⟩
theorem dB.fail {w wr wx:World} {cs I x bd:Nat} {s:ByteArray} {v:Value} {raw:List Pt} (h:dB w wr cs s I v raw) (hx:x≠0) (hs:aD wx cs s I (x:Int)) (hk:aB (fun b=>b=cs) wr wx) (hcs:cs<w.heap.size) (hI:I≤s.size+bd) (hw:wtF raw≤1000000):Bad w wx cs s x bd v:=
 ⟨hx,I,raw,hI,hs,h.row.keep hk (fun b _ e=>by rw [e];exact hcs),hw,h.kp.trans hk fun _ _ e=>.inl e⟩
theorem Bad.keep {w wr wx:World} {cs x bd bd':Nat} {s:ByteArray} {v:Value} (h:Bad w wr cs s x bd v) (hk:aB (fun b=>b=cs) wr wx) (hcs:cs<w.heap.size) (hm:∀I:Nat,I≤s.size+bd→aD wr cs s I (x:Int)→∃J:Nat,J≤s.size+bd'∧aD wx cs s J (x:Int)):Bad w wx cs s x bd' v:=by
 obtain⟨hx,I,raw,h1,h2,h3,h4,h5⟩:=h;obtain⟨J,h6,h7⟩:=hm I h1 h2;exact⟨hx,J,raw,h6,h7,h3.keep hk (fun b _ e=>by rw [e];exact hcs),h4,h5.trans hk fun _ _ e=>.inl e⟩
theorem vP {w W0 w6:World} {cs I:Nat} {s:ByteArray} {d:Nat} {v0:Value} {raw:List Pt} {R:Res} {e:Ending} (h0:dB w W0 cs s I v0 raw) (hp:nU W0 w.heap.size cs s (100 - d) raw R e w6) :
 ∃(a:OA) (n c:Nat),e=.returned (.slice a n c)∧((∃(l:List Pt) (i:Nat),i≤s.size∧R=.ok (l,rest s i)∧wtF (raw++l)≤2*i∧dB w w6 cs s i (.slice a n c) (raw++l))∨∃x,R=.error x∧Bad w w6 cs s x (100 - d) (.slice a n c)):=by
 cases R with
 | error x=>
  obtain⟨hx,v,i,raw',rfl,h1,h2,h3,h4,h5⟩:=hp;obtain⟨a,c,rfl,_,_⟩:=h3.shape;exact⟨a,_,c,rfl,.inr ⟨x,rfl,hx,i,raw',h1,h2,h3,h4,h0.kp.trans h5 fun _ _ e=>e⟩⟩
 | ok lr=>
  obtain⟨l,r⟩:=lr;obtain⟨v,i,rfl,h1,h2,h3,h4,h5,h6⟩:=hp;obtain⟨a,c,rfl,_,_⟩:=h4.shape;exact⟨a,_,c,rfl,.inl ⟨l,i,h1,by rw [h2],h5,h3,h4,h0.kp.trans h6 fun _ _ e=>e⟩⟩
theorem o7 {w wx:World} {cs i J:Nat} {s:ByteArray} {d:Nat} {wh q:Bool} {v:Value} {raw l:List Pt} {res:Res} (h:dB w wx cs s J v (raw++l)) (hi:i≤J) (hJ:J≤s.size) (hw:wtF (raw++l)≤2*J) (hres:res=iW wh d q raw (.ok (l,rest s J))):WSt w wx cs s i d wh q res (s.size+2 - J) v:=
 .inl ⟨J,raw++l,rfl,hi,hJ,hw,h,hres⟩
theorem Lh {w W0 w6:World} {cs i I:Nat} {s:ByteArray} {d:Nat} {wh q:Bool} {v0:Value} {raw:List Pt} {R res:Res} {e:Ending} (h0:dB w W0 cs s I v0 raw) (hp:nU W0 w.heap.size cs s (100 - d) raw R e w6) (hI:I<s.size) (hi:i≤I) (hd:d≤40)
 (hlen:∀l r,R=.ok (l,r)→r.length<s.size - I) (hres:res=iW wh d q raw R) :
 ∃(a:OA) (n c g:Nat),e=.returned (.slice a n c)∧g<s.size+2 - I∧WSt w w6 cs s i d wh q res g (.slice a n c):=by
 obtain⟨a,n,c,rfl,h | h⟩:=vP h0 hp
 ·obtain⟨l,j,hj,hR,hw,hg⟩:=h;have hl:=hlen _ _ hR;rw [cM] at hl;refine⟨a,n,c,s.size+2 - j,rfl,by omega,.inl ⟨j,raw++l,rfl,by omega,hj,hw,hg,?_⟩⟩;rw [hres,hR];rfl
 ·obtain⟨x,hR,h1,I',raw',h2,h3⟩:=h;refine⟨a,n,c,0,rfl,by omega,.inr ⟨x,rfl,by rw [hres,hR];rfl,h1,I',raw',by omega,h3⟩⟩
theorem Pe {w W0 w6:World} {cs i I:Nat} {s:ByteArray} {d:Nat} {wh q:Bool} {v0:Value} {raw:List Pt} {res:Res} {e:Ending} (h0:dB w W0 cs s I v0 raw) (hp:nU W0 w.heap.size cs s (100 - d) raw (cS (.one true) d (rest s I)) e w6) (hI:I<s.size) (hi:i≤I) (hd:d≤40)
 (hc:(aM s I==34)=false) (hres:res=iW wh d q raw (cS .dq d (rest s I))) :
 ∃(a:OA) (n c g:Nat),e=.returned (.slice a n c)∧g<s.size+2 - I∧DSt w w6 cs s i d wh q res g (.slice a n c):=by
 rw [rE,aN hI] at hres;dsimp only at hres;rw [hc,if_neg (by simp),←aN hI] at hres;obtain⟨a,n,c,rfl,h | h⟩:=vP h0 hp
 ·obtain⟨l,j,hj,hR,hw,hg⟩:=h;have hl:=dV _ _ _ _ _ _ hR;simp only [Md.least,cM] at hl;refine⟨a,n,c,s.size+2 - j,rfl,by omega,.inl ⟨j,raw++l,rfl,by omega,hj,hw,hg,?_⟩⟩;rw [hres,hR];exact tL _ _ _ _ _ _
 ·obtain⟨x,hR,h1,I',raw',h2,h3⟩:=h;refine⟨a,n,c,0,rfl,by omega,.inr ⟨x,rfl,by rw [hres,hR];rfl,h1,I',raw',h2,h3⟩⟩
theorem wJ {w wr w2:World} {cs I n:Nat} {s:ByteArray} {d:Nat} {v v2:Value} {raw:List Pt} {res:Res} (h:dB w wr cs s I v raw) (hI:I≤s.size) (hres:res=.ok (raw,rest s I)) (hp:aV w2 (fun b=>w.heap.size≤b) n (cT raw) v2) (hk:K0 wr w2):F4 w cs s d res (.returned v2) w2:=by
 rw [hres];exact⟨v2,n,I,rfl,hI,rfl,h.scan.keep hk (fun e=>e),hp,(h.kp.trans hk fun _ _ e=>e.elim).mono fun b hb e=>e.resolve_right (by omega)⟩
theorem zC {w wr w2:World} {cs x n:Nat} {s:ByteArray} {d:Nat} {v v2:Value} {raw:List Pt} {res:Res} (h:Bad w wr cs s x (101 - d) v) (hres:res=.error x) (hp:aV w2 (fun b=>w.heap.size≤b) n raw v2) (hk:K0 wr w2):F4 w cs s d res (.returned v2) w2:=by
 rw [hres];obtain⟨hx,I,raw',h1,h2,h3,h4,h5⟩:=h;exact⟨hx,v2,n,I,raw,rfl,h1,h2.keep hk (fun e=>e),hp,(h5.trans hk fun _ _ e=>e.elim).mono fun b hb e=>e.resolve_right (by omega)⟩
theorem tQ (c x:UInt8) (t:List UInt8):fJ c (x::t)=if x==c then some 0 else (fJ c t).map (· + 1):=rfl
def kS (s:ByteArray) (i I:Nat):Prop:=i≤I∧fJ 39 (rest s i)=(fJ 39 (rest s I)).map (· + (I - i))
theorem kS.start (s:ByteArray) (i:Nat):kS s i i:=⟨Nat.le_refl _,by rw [Nat.sub_self];cases fJ 39 (rest s i)<;>rfl⟩
theorem kS.on {s:ByteArray} {i I:Nat} (h:kS s i I) (hI:I<s.size) (hc:(aM s I==39)=false):kS s i (I+1):=by
 refine⟨by have:=h.1;omega,?_⟩;have h1:=h.1;rw [h.2,aN hI,tQ,hc,if_neg (by simp)];cases fJ 39 (rest s (I+1)) with
 | none=>rfl
 | some m=>simp;omega
theorem kS.over {s:ByteArray} {i I:Nat} (h:kS s i I) (hI:s.size≤I):fJ 39 (rest s i)=none:=by
 rw [h.2,bU hI];rfl
theorem kS.at {s:ByteArray} {i I:Nat} (h:kS s i I) (hI:I<s.size) (hc:aM s I=39):fJ 39 (rest s i)=some (I - i):=by
 rw [h.2,aN hI,hc,tQ];simp
theorem E6 (N:Nat) (IN:O7 N) (DN:Mb N):Dn (N+1):=by
 intro cs s i d wh q w h hi hs hd hcs hN;obtain⟨res,hres⟩:∃res,res=fX wh d q (rest s i):=⟨_,rfl⟩;rw [←hres];have HRES0:=Hd (show res=(fX wh d q (rest s i)).ahead [] by
  rw [hres];cases fX wh d q (rest s i) with
  | error e=>rfl
  | ok x=>rfl)
 have HSC0:=Lib.hid h;clear hres h;go_enter Tryz.func24,Tryz.ntmps24;go_wp2_with fail;go_loopg [9] (s.size+2 - i) (fun g l' wr=>WSt w wr cs s i d wh q res g l')
 case atStart=>exact .inl ⟨i,[],rfl,Nat.le_refl _,hi,Nat.zero_le _,⟨HSC0.o,Row.nil _ _,aB.refl _ _⟩,HRES0.o⟩
 case round=>
  rcases hrel with ⟨I,raw,hgg,hiI,hIs,hwt,hgood,hres⟩ | ⟨x,hgg,hres,hbad⟩
  ·have HGG:=Hd hgg;have HRES:=Hd hres;obtain⟨va,R0,vc,rfl⟩:∃(a:OA) (n c:Nat),_=Value.slice a n c:=by obtain⟨a,c,e,_⟩:=hgood.row.shape;exact⟨a,_,c,e⟩
   have hlw:=lJ raw;have HG0:=Hd hgood;obtain⟨c0,c1,c2,f1,f2⟩:=hgood.scan.cells;clear hgg hres hgood;by_cases hlt:I<s.size
   ·skip;have HE:=Hd (show decide (s.size≤I)=false from decide_eq_false (by omega));obtain⟨c,hc⟩:∃c,c=aM s I:=⟨_,rfl⟩;have HC:=Hd hc.symm;have HRC:=Hd (show rest s I=c::rest s (I+1) by rw [aN hlt,←hc]);clear hc;go_wp2_with fail;refine (bB cs s I _ _ HG0.o.scan).mono ?_;rintro e wy ⟨rfl,q1,rfl⟩;rw [HE.o];obtain⟨W1,hW⟩:∃Z:World,Z=wr.drewN q1:=⟨_,rfl⟩;rw [←hW];have HG1:=Hd (show dB w W1 cs s I (.slice va R0 vc) raw by rw [hW];exact HG0.o.drewN _)
    clear hW;go_wp2_with fail;refine (aP cs s I _ _ HG1.o.scan (by omega) (by omega)).mono ?_;rintro e wy ⟨rfl,q2,rfl⟩;rw [HC.o];obtain⟨W2,hW⟩:∃Z:World,Z=W1.drewN q2:=⟨_,rfl⟩;rw [←hW];have HG2:=Hd (show dB w W2 cs s I (.slice va R0 vc) raw by rw [hW];exact HG1.o.drewN _);clear hW;obtain⟨F1,hF1⟩:∃F1,F1=(decide (0<d) && c==125):=⟨_,rfl⟩;obtain⟨F2,hF2⟩:∃F2,F2=(!wh && decide (d=0) && bJ c):=⟨_,rfl⟩
    have HF1:=Hd hF1;have HF2:=Hd hF2;clear hF1 hF2;go_upto_region 4 with fail;go_cut [29] from 24 to 29 (fun b wx=>b=.bool F1∧wx=W2)
    case first=>
     rcases Nat.eq_zero_or_pos d with hd0 | hd0
     ·have k1:¬(0:Int)<(d:Int):=by omega
      have HV:=Hd (show F1=false by rw [HF1.o,hd0];rfl);clear hd0;go_wp2_with fail;go_meet
      case rel=>exact⟨by rw [HV.o],rfl⟩
     ·have k1:(0:Int)<(d:Int):=by omega
      by_cases t125:c=125
      ·have f125:((c.toNat:Int)==125)=true:=aU (c:=c) (k:=125) t125;have HV:=Hd (show F1=true by rw [HF1.o,t125,decide_eq_true hd0];rfl);clear t125;go_wp2_with fail;go_meet
       case rel=>exact⟨by rw [HV.o],rfl⟩
      ·have f125:((c.toNat:Int)==125)=false:=aX (c:=c) (k:=125) t125;have HV:=Hd (show F1=false by rw [HF1.o,beq_eq_false_iff_ne.2 t125,Bool.and_false]);clear t125;go_wp2_with fail;go_meet
       case rel=>exact⟨by rw [HV.o],rfl⟩
    case rest=>
     obtain⟨rfl,rfl⟩:=hcut;cases F1 with
     | true=>
      have HSTOP:=Hd (show res=.ok (raw,rest s I) by
       rw [HRES.o,HRC.o];exact xG raw (by unfold xC;rw [←HF1.o];rfl))
      go_wp2_with fail;refine (o9 w.heap.size _ raw _ HG2.o.row HG2.o.size (by omega)).mono ?_;rintro e wt ⟨v2,n2,rfl,hp,hk⟩;have HP:=Hd hp;have HK2:=Hd hk;clear hp hk;go_wp2_with fail;go_ret;exact wJ HG2.o (by omega) HSTOP.o HP.o HK2.o
     | false=>
      go_upto_region 6 with fail;go_cut [41] from 32 to 41 (fun b wx=>b=.bool F2∧wx=wc)
      case first=>
       cases wh with
       | true=>
        have HV:=Hd (show F2=false by rw [HF2.o];rfl);go_wp2_with fail;go_meet
        case rel=>exact⟨by rw [HV.o],rfl⟩
       | false=>
        rcases Nat.eq_zero_or_pos d with hd0 | hd0
        ·have k1:((d:Int)==0)=true:=by rw [beq_iff_eq];omega
         have HV:=Hd (show F2=bJ c by rw [HF2.o,hd0];rfl);clear hd0;go_wp2_with fail;refine (Fb c _).mono ?_;rintro e wy ⟨rfl,rfl⟩;go_wp2_with fail;go_meet
         case rel=>exact⟨by rw [HV.o],rfl⟩
        ·have k1:((d:Int)==0)=false:=by rw [beq_eq_false_iff_ne];omega
         have HV:=Hd (show F2=false by rw [HF2.o,decide_eq_false (by omega)];rfl);go_wp2_with fail;go_meet
         case rel=>exact⟨by rw [HV.o],rfl⟩
      case rest=>
       obtain⟨rfl,rfl⟩:=hcut;cases F2 with
       | true=>
        have HSTOP:=Hd (show res=.ok (raw,rest s I) by
         rw [HRES.o,HRC.o];exact xG raw (by unfold xC;rw [←HF1.o,←HF2.o];rfl))
        go_wp2_with fail;refine (o9 w.heap.size _ raw _ HG2.o.row HG2.o.size (by omega)).mono ?_;rintro e wt ⟨v2,n2,rfl,hp,hk⟩;have HP:=Hd hp;have HK2:=Hd hk;clear hp hk;go_wp2_with fail;go_ret;exact wJ HG2.o (by omega) HSTOP.o HP.o HK2.o
       | false=>
        have HGO:=Hd (show res=iW wh d q raw (cS (.one q) d (rest s I)) by
         rw [HRES.o,HRC.o];exact J4 raw (by unfold xC;rw [←HF1.o,←HF2.o];rfl))
        clear HF1 HF2 HRES c0 c1 c2 f1 f2;cases q with
        | true=>
         have hcall:=IN w.heap.size cs s I d (.slice va R0 vc) raw wc HG2.o.scan hlt hs hd HG2.o.row hcs HG2.o.size hwt (by omega);have HCALL:=Hd hcall;clear hcall;go_wp2_with fail;refine HCALL.o.mono ?_;intro e w6 hp;obtain⟨a,n,cc,g',rfl,hg',hst⟩:=Lh HG2.o hp hlt hiI hd (fun l r h=>by have:=dV _ _ _ _ _ _ h;simp only [Md.least,cM] at this;omega) HGO.o;have HST:=Hd hst;clear hp hst
         go_wp2_with fail;go_roundg g'
         case measure=>have:=HGG.o;omega
         case rel=>exact HST.o
        | false=>
         rw [HRC.o] at HGO;by_cases t39:c=39
         ·have f39:((c.toNat:Int)==39)=true:=aU (c:=c) (k:=39) t39
          as_aux_lemma=>
           have HGO1:=Hd (show res=iW wh d false raw (match fJ 39 (rest s (I+1)) with
            | none=>.error 2
            | some k=>.ok ([cG ((rest s (I+1)).take k)],(rest s (I+1)).drop (k+1))) by
            rw [HGO.o,eJ,t39];rfl)
           clear t39 HGO;obtain⟨d0,d1,d2,g1,g2⟩:=HG2.o.scan.cells;obtain⟨W5,hW⟩:∃Z:World,Z=(wc.setCell ⟨cs,1,none⟩ (.int .i64 ((I:Int)+1))):=⟨_,rfl⟩;have HG5:=Hd (show dB w W5 cs s (I+1) _ _ by rw [hW];exact HG2.o.moved (J:=I+1) (by omega) hcs);have HW5:=Hd hW;clear hW;go_wp2_with fail;rw [←HW5.o];go_loopg [] (s.size+3 - (I+1)) (fun g wr=>∃K:Nat,g=s.size+3 - K∧I+1≤K∧K≤s.size∧Hid (dB w wr cs s K (.slice va R0 vc) raw)∧Hid (kS s (I+1) K))
           case atStart=>exact⟨I+1,by omega,by omega,by omega,HG5,Hd (kS.start _ _)⟩
           case round=>
            obtain⟨K,hg2,hIK,hKs,HG7,HU⟩:=hrel;have HGG2:=Hd hg2;clear hg2;by_cases hlt2:K<s.size
            ·have HE2:=Hd (show decide (s.size≤K)=false from decide_eq_false (by omega));obtain⟨x,hx⟩:∃x,x=aM s K:=⟨_,rfl⟩;have HX:=Hd hx.symm;clear hx;obtain⟨wq,hwq⟩:∃Z:World,Z=wr:=⟨_,rfl⟩;by_cases tx:x=39
             ·have fx:((x.toNat:Int) != 39)=false:=by rw [bne,show ((x.toNat:Int)==39)=true from aU (c:=x) (k:=39) tx];rfl
              have HU2:=Hd (HU.o.at hlt2 (HX.o.trans tx));clear tx hwq;go_wp2_with fail;refine (bB cs s K _ _ HG7.o.scan).mono ?_;rintro e wy ⟨rfl,q8,rfl⟩;rw [HE2.o];obtain⟨W8,hW⟩:∃Z:World,Z=wr.drewN q8:=⟨_,rfl⟩;rw [←hW];have HG8:=Hd (show dB w W8 cs s K (.slice va R0 vc) raw by rw [hW];exact HG7.o.drewN _);clear hW;go_wp2_with fail;refine (aP cs s K _ _ HG8.o.scan (by omega) (by omega)).mono ?_
              rintro e wy ⟨rfl,q9,rfl⟩;rw [HX.o];obtain⟨W9,hW⟩:∃Z:World,Z=W8.drewN q9:=⟨_,rfl⟩;rw [←hW];have HG9:=Hd (show dB w W9 cs s K (.slice va R0 vc) raw by rw [hW];exact HG8.o.drewN _);clear hW;go_wp2_with fail;refine (bB cs s K _ _ HG9.o.scan).mono ?_;rintro e wy ⟨rfl,q10,rfl⟩;rw [HE2.o];obtain⟨W10,hW⟩:∃Z:World,Z=W9.drewN q10:=⟨_,rfl⟩;rw [←hW];have HG10:=Hd (show dB w W10 cs s K (.slice va R0 vc) raw by rw [hW];exact HG9.o.drewN _)
              clear hW;have HL2:=Hd (show res=iW wh d false raw (.ok ([cG (s.extract (I+1) K).data.toList],rest s (K+1))) by
               rw [HGO1.o,HU2.o];dsimp only;rw [dY,Lib.extract_data,show I+1+(K - (I+1)+1)=K+1 by omega];rfl)
              have HL3:=Hd (show (s.extract (I+1) K).data.toList.length=K - (I+1) by
               rw [←Lib.size_eq,ByteArray.size_extract];omega)
              obtain⟨d0,d1,d2,g1,g2⟩:=HG10.o.scan.cells;have p1:((I:Int)+1).toNat=I+1:=by omega
              have p2:(0:Int)≤(I:Int)+1:=by omega
              have p3:(I:Int)+1≤(K:Int):=by omega
              have p4:(K:Int)≤(s.size:Int):=by omega
              clear HU HU2 HGO1;go_wp2_with fail;go_still_tail 12,(by kernel_rfl);change wpList _ _ _ _ _ W10.drew;obtain⟨wd,hW⟩:∃Z:World,Z=W10.drew:=⟨_,rfl⟩;rw [←hW];have hG6:dB w wd cs s (K) (.slice va R0 vc) raw:=by rw [hW];exact HG10.o.drew
              have hput:=fR w.heap.size 2 (s.extract (I+1) K) (.slice va R0 vc) raw wd hG6.row hG6.size (by omega) (.inl rfl);have HPUT:=Hd hput;have HG6:=Hd hG6;clear hput hG6 hW;go_wp2_with fail;refine HPUT.o.mono ?_;intro e W11 hp;obtain⟨a7,n7,c7,rfl,hG7⟩:=HG6.o.put hp hcs;have HG11:=Hd hG7;clear hp hG7 HPUT HG6;obtain⟨d0,d1,d2,g1,g2⟩:=HG11.o.scan.cells;obtain⟨we,hW⟩:∃Z:World,Z=(W11.setCell ⟨cs,1,none⟩ (.int .i64 ((K:Int)+1))):=⟨_,rfl⟩
              have HGE:=Hd (show dB w we cs s (K+1) _ _ by rw [hW];exact HG11.o.moved (J:=K+1) (by omega) hcs);have Hwe:=Hd hW;clear hW;go_wp2_with fail;rw [←Hwe.o];go_roundg (s.size+2 - (K+1))
              case measure=>have:=HGG.o;omega
              case rel=>exact o7 HGE.o (by omega) (by omega) (by rw [bE];have h9:=HL3.o;simp only [wtF,Pt.text];omega) HL2.o
             ·have fx:((x.toNat:Int) != 39)=true:=by rw [bne,show ((x.toNat:Int)==39)=false from aX (c:=x) (k:=39) tx];rfl
              have HU2:=Hd (HU.o.on hlt2 (by rw [HX.o];exact beq_eq_false_iff_ne.2 tx));clear tx hwq;go_wp2_with fail;refine (bB cs s K _ _ HG7.o.scan).mono ?_;rintro e wy ⟨rfl,q8,rfl⟩;rw [HE2.o];obtain⟨W8,hW⟩:∃Z:World,Z=wr.drewN q8:=⟨_,rfl⟩;rw [←hW];have HG8:=Hd (show dB w W8 cs s K (.slice va R0 vc) raw by rw [hW];exact HG7.o.drewN _);clear hW;go_wp2_with fail;refine (aP cs s K _ _ HG8.o.scan (by omega) (by omega)).mono ?_
              rintro e wy ⟨rfl,q9,rfl⟩;rw [HX.o];obtain⟨W9,hW⟩:∃Z:World,Z=W8.drewN q9:=⟨_,rfl⟩;rw [←hW];have HG9:=Hd (show dB w W9 cs s K (.slice va R0 vc) raw by rw [hW];exact HG8.o.drewN _);clear hW;obtain⟨d0,d1,d2,g1,g2⟩:=HG9.o.scan.cells;obtain⟨we,hW⟩:∃Z:World,Z=(W9.setCell ⟨cs,1,none⟩ (.int .i64 ((K:Int)+1))):=⟨_,rfl⟩;have HGE:=Hd (show dB w we cs s (K+1) _ _ by rw [hW];exact HG9.o.moved (J:=K+1) (by omega) hcs)
              have Hwe:=Hd hW;clear hW;go_wp2_with fail;rw [←Hwe.o];go_roundg (s.size+3 - (K+1))
              case measure=>have:=HGG2.o;omega
              case rel=>exact⟨K+1,rfl,by omega,by omega,HGE,HU2⟩
            ·have HE2:=Hd (show decide (s.size≤K)=true from decide_eq_true (by omega));have HX2:=Hd (show res=.error 2 by rw [HGO1.o,HU.o.over (by omega)];rfl);clear HU HGO1;go_wp2_with fail;refine (bB cs s K _ _ HG7.o.scan).mono ?_;rintro e wy ⟨rfl,q8,rfl⟩;rw [HE2.o];obtain⟨W8,hW⟩:∃Z:World,Z=wr.drewN q8:=⟨_,rfl⟩;rw [←hW];have HG8:=Hd (show dB w W8 cs s K (.slice va R0 vc) raw by rw [hW];exact HG7.o.drewN _)
             clear hW;go_wp2_with fail;refine (bB cs s K _ _ HG8.o.scan).mono ?_;rintro e wy ⟨rfl,q9,rfl⟩;rw [HE2.o];obtain⟨W9,hW⟩:∃Z:World,Z=W8.drewN q9:=⟨_,rfl⟩;rw [←hW];have HG9:=Hd (show dB w W9 cs s K (.slice va R0 vc) raw by rw [hW];exact HG8.o.drewN _);clear hW;go_wp2_with fail;refine (eO cs s K 0 2 _ HG9.o.scan).mono ?_;rintro e w10 ⟨rfl,hs10,hk10⟩;have HB:=Hd (HG9.o.fail (x:=2) (bd:=101 - d) (by decide) hs10 hk10 hcs (by omega) (by omega))
             clear hs10 hk10;go_wp2_with fail;go_ret;exact zC HB.o HX2.o (aV.nil _ _ 0) (aB.refl _ _)
         have f39:((c.toNat:Int)==39)=false:=aX (c:=c) (k:=39) t39;have G39:=Hd (show (c==39)=false from beq_eq_false_iff_ne.2 t39);clear t39;by_cases t34:c=34
         ·have f34:((c.toNat:Int)==34)=true:=aU (c:=c) (k:=34) t34
          as_aux_lemma=>
           have HGO1:=Hd (show res=iW wh d false (raw++[cG []]) (cS .dq d (rest s (I+1))) by
            rw [HGO.o,eJ,G39.out,t34,←tL];rfl)
           clear t34 HGO;obtain⟨d0,d1,d2,g1,g2⟩:=HG2.o.scan.cells;obtain⟨W5,hW⟩:∃Z:World,Z=(wc.setCell ⟨cs,1,none⟩ (.int .i64 ((I:Int)+1))):=⟨_,rfl⟩;have HG5:=Hd (show dB w W5 cs s (I+1) _ _ by rw [hW];exact HG2.o.moved (J:=I+1) (by omega) hcs);have HW5:=Hd hW;clear hW;have hput:=fR w.heap.size 2 ⟨#[]⟩ _ raw W5 HG5.o.row HG5.o.size (by omega) (.inl rfl);have HPUT:=Hd hput;clear hput
           go_wp2_with fail;rw [←HW5.o];refine HPUT.o.mono ?_;intro e W6 hp;obtain⟨a6,n6,c6,rfl,hG6⟩:=HG5.o.put hp hcs;have HG6:=Hd hG6;clear hp hG6 HPUT;go_wp2_with fail;go_loopg [9] (s.size+2 - (I+1)) (fun g l' wr=>DSt w wr cs s (I+1) d wh false res g l')
           case atStart=>exact .inl ⟨I+1,_,rfl,Nat.le_refl _,by omega,by rw [bE];show wtF raw+(1+0+0)≤_;omega,HG6.o,HGO1.o⟩
           case round=>
            rcases hrel with ⟨K,raw,hg2,hIK,hKs,hwt2,hgood,hres⟩ | ⟨x,hg2,hres,hbad⟩
            ·have HGG2:=Hd hg2;have HRES2:=Hd hres;obtain⟨va,R0,vc,rfl⟩:∃(a:OA) (n c:Nat),_=Value.slice a n c:=by obtain⟨a,c,e,_⟩:=hgood.row.shape;exact⟨a,_,c,e⟩
             have HG7:=Hd hgood;obtain⟨c0,c1,c2,f1,f2⟩:=hgood.scan.cells;clear hg2 hres hgood;by_cases hlt2:K<s.size
             ·have HE2:=Hd (show decide (s.size≤K)=false from decide_eq_false (by omega));obtain⟨x,hx⟩:∃x,x=aM s K:=⟨_,rfl⟩;have HX:=Hd hx.symm;clear hx;by_cases tx:x=34
              ·have fx:((x.toNat:Int) != 34)=false:=by rw [bne,show ((x.toNat:Int)==34)=true from aU (c:=x) (k:=34) tx];rfl
               have HL2:=Hd (show res=iW wh d false raw (.ok ([],rest s (K+1))) by
                rw [HRES2.o,rE,aN hlt2,HX.o,tx];rfl)
               clear tx;go_wp2_with fail;refine (bB cs s K _ _ HG7.o.scan).mono ?_;rintro e wy ⟨rfl,q8,rfl⟩;rw [HE2.o];obtain⟨W8,hW⟩:∃Z:World,Z=wr.drewN q8:=⟨_,rfl⟩;rw [←hW];have HG8:=Hd (show dB w W8 cs s K (.slice va R0 vc) raw by rw [hW];exact HG7.o.drewN _);clear hW;go_wp2_with fail;refine (aP cs s K _ _ HG8.o.scan (by omega) (by omega)).mono ?_;rintro e wy ⟨rfl,q9,rfl⟩;rw [HX.o]
               obtain⟨W9,hW⟩:∃Z:World,Z=W8.drewN q9:=⟨_,rfl⟩;rw [←hW];have HG9:=Hd (show dB w W9 cs s K (.slice va R0 vc) raw by rw [hW];exact HG8.o.drewN _);clear hW;go_wp2_with fail;refine (bB cs s K _ _ HG9.o.scan).mono ?_;rintro e wy ⟨rfl,q10,rfl⟩;rw [HE2.o];obtain⟨W10,hW⟩:∃Z:World,Z=W9.drewN q10:=⟨_,rfl⟩;rw [←hW];have HG10:=Hd (show dB w W10 cs s K (.slice va R0 vc) raw by rw [hW];exact HG9.o.drewN _)
               clear hW;obtain⟨d0,d1,d2,g1,g2⟩:=HG10.o.scan.cells;obtain⟨we,hW⟩:∃Z:World,Z=(W10.setCell ⟨cs,1,none⟩ (.int .i64 ((K:Int)+1))):=⟨_,rfl⟩;have HGE:=Hd (show dB w we cs s (K+1) _ _ by rw [hW];exact HG10.o.moved (J:=K+1) (by omega) hcs);have Hwe:=Hd hW;clear hW;go_wp2_with fail;rw [←Hwe.o];go_roundg (s.size+2 - (K+1))
               case measure=>have:=HGG.o;omega
               case rel=>exact o7 (l:=[]) (by rw [List.append_nil];exact HGE.o) (by omega) (by omega) (by rw [List.append_nil];omega) HL2.o
              ·have fx:((x.toNat:Int) != 34)=true:=by rw [bne,show ((x.toNat:Int)==34)=false from aX (c:=x) (k:=34) tx];rfl
               have HQ:=Hd (show (aM s K==34)=false by rw [HX.o];exact beq_eq_false_iff_ne.2 tx);clear tx;go_wp2_with fail;refine (bB cs s K _ _ HG7.o.scan).mono ?_;rintro e wy ⟨rfl,q8,rfl⟩;rw [HE2.o];obtain⟨W8,hW⟩:∃Z:World,Z=wr.drewN q8:=⟨_,rfl⟩;rw [←hW];have HG8:=Hd (show dB w W8 cs s K (.slice va R0 vc) raw by rw [hW];exact HG7.o.drewN _);clear hW;go_wp2_with fail;refine (aP cs s K _ _ HG8.o.scan (by omega) (by omega)).mono ?_
               rintro e wy ⟨rfl,q9,rfl⟩;rw [HX.o];obtain⟨W9,hW⟩:∃Z:World,Z=W8.drewN q9:=⟨_,rfl⟩;rw [←hW];have HG9:=Hd (show dB w W9 cs s K (.slice va R0 vc) raw by rw [hW];exact HG8.o.drewN _);clear hW;have hcall:=IN w.heap.size cs s K d (.slice va R0 vc) raw W9 HG9.o.scan hlt2 hs hd HG9.o.row hcs HG9.o.size hwt2 (by omega);have HCALL:=Hd hcall;clear hcall;go_wp2_with fail;refine HCALL.o.mono ?_
               intro e w10 hp;obtain⟨a,n,cc,g',rfl,hg',hst⟩:=Pe HG9.o hp hlt2 hIK hd HQ.o HRES2.o;have HST:=Hd hst;clear hp hst;go_wp2_with fail;go_roundg g'
               case measure=>have:=HGG2.o;omega
               case rel=>exact HST.o
             ·have HE2:=Hd (show decide (s.size≤K)=true from decide_eq_true (by omega));have HX2:=Hd (show res=.error 2 by rw [HRES2.o,bU (by omega),rE];rfl);go_wp2_with fail;refine (bB cs s K _ _ HG7.o.scan).mono ?_;rintro e wy ⟨rfl,q8,rfl⟩;rw [HE2.o];obtain⟨W8,hW⟩:∃Z:World,Z=wr.drewN q8:=⟨_,rfl⟩;rw [←hW];have HG8:=Hd (show dB w W8 cs s K (.slice va R0 vc) raw by rw [hW];exact HG7.o.drewN _)
              clear hW;go_wp2_with fail;refine (bB cs s K _ _ HG8.o.scan).mono ?_;rintro e wy ⟨rfl,q9,rfl⟩;rw [HE2.o];obtain⟨W9,hW⟩:∃Z:World,Z=W8.drewN q9:=⟨_,rfl⟩;rw [←hW];have HG9:=Hd (show dB w W9 cs s K (.slice va R0 vc) raw by rw [hW];exact HG8.o.drewN _);clear hW;go_wp2_with fail;refine (eO cs s K 0 2 _ HG9.o.scan).mono ?_;rintro e w10 ⟨rfl,hs10,hk10⟩;have HB:=Hd (HG9.o.fail (x:=2) (bd:=100 - d) (by decide) hs10 hk10 hcs (by omega) (by omega))
              have hs10':aD w10 cs s K ((2:Nat):Int):=hs10;obtain⟨d0,d1,d2,g1,g2⟩:=hs10'.cells;obtain⟨hs11,hk11⟩:=cE hs10' (j:=(K:Int)+1) (J:=K+1) (by omega);have HB2:=Hd (HB.o.keep (bd':=101 - d) hk11 hcs (fun J hJ _=>⟨K+1,by omega,hs11⟩));clear hs10 hk10 hs10' hs11 hk11;go_wp2_with fail;go_roundg 0
              case measure=>have:=HGG.o;omega
              case rel=>exact .inr ⟨2,rfl,HX2.o,HB2.o⟩
            ·have HB:=Hd hbad;have HXR:=Hd hres;obtain⟨hx0,K,raw',hK,hsc,hrow,_,_⟩:=hbad;obtain⟨va,R0,vc,rfl⟩:∃(a:OA) (n c:Nat),_=Value.slice a n c:=by obtain⟨a,c,e,_⟩:=hrow.shape;exact⟨a,_,c,e⟩
             have b0:((x:Int)==0)=false:=by rw [beq_eq_false_iff_ne];omega
             have HS:=Hd hsc;obtain⟨c0,c1,c2,f1,f2⟩:=hsc.cells;clear hg2 hres hrow hsc;by_cases hge:s.size≤K
             ·have HE2:=Hd (show decide (s.size≤K)=true from decide_eq_true hge);go_wp2_with fail;refine (bB cs s K _ _ HS.o).mono ?_;rintro e wy ⟨rfl,q8,rfl⟩;rw [HE2.o];go_wp2_with fail;refine (eO cs s K x 2 _ (HS.o.drewN _)).mono ?_;rintro e w10 ⟨rfl,hs10,hk10⟩;rw [if_neg hx0] at hs10;have HK10:=Hd (((aB.refl _ _).drewN q8).trans hk10 (fun _ _ e=>e));obtain⟨d0,d1,d2,g1,g2⟩:=hs10.cells
              obtain⟨hs11,hk11⟩:=cE hs10 (j:=(K:Int)+1) (J:=K+1) (by omega);have HB2:=Hd (HB.o.keep (bd':=101 - d) (HK10.o.trans hk11 (fun _ _ e=>e)) hcs (fun J hJ _=>⟨K+1,by omega,hs11⟩));clear hs10 hk10 hs11 hk11 c0 c1 c2 f1 f2;go_wp2_with fail;go_roundg 0
              case measure=>have:=HGG.o;omega
              case rel=>exact .inr ⟨x,rfl,HXR.o,HB2.o⟩
             ·have HE2:=Hd (show decide (s.size≤K)=false from decide_eq_false hge);go_wp2_with fail;refine (bB cs s K _ _ HS.o).mono ?_;rintro e w10 ⟨rfl,q8,rfl⟩;rw [HE2.o];obtain⟨w10,hW⟩:∃Z:World,Z=wr.drewN q8:=⟨_,rfl⟩;have hs10:aD w10 cs s K (x:Int):=by rw [hW];exact HS.o.drewN _
              have hk10:aB (fun b=>b=cs) wr w10:=by rw [hW];exact (aB.refl _ _).drewN _
              rw [←hW];obtain⟨d0,d1,d2,g1,g2⟩:=hs10.cells;obtain⟨hs11,hk11⟩:=cE hs10 (j:=(K:Int)+1) (J:=K+1) (by omega);have HB2:=Hd (HB.o.keep (bd':=101 - d) (hk10.trans hk11 (fun _ _ e=>e)) hcs (fun J hJ _=>⟨K+1,by omega,hs11⟩));clear hs10 hk10 hs11 hk11 c0 c1 c2 f1 f2 hW;go_wp2_with fail;go_roundg 0
              case measure=>have:=HGG.o;omega
              case rel=>exact .inr ⟨x,rfl,HXR.o,HB2.o⟩
         have f34:((c.toNat:Int)==34)=false:=aX (c:=c) (k:=34) t34;have G34:=Hd (show (c==34)=false from beq_eq_false_iff_ne.2 t34);clear t34;by_cases t92:c=92
         ·have f92:((c.toNat:Int)==92)=true:=aU (c:=c) (k:=92) t92
          as_aux_lemma=>
           have HGO1:=Hd (show res=iW wh d false raw (match rest s (I+1) with
            | []=>.ok ([cG [92]],[])
            | x::t'=>if x==10 then .ok ([],t') else .ok ([cG [x]],t')) by
            rw [HGO.o,eJ,G39.out,G34.out,t92];rfl)
           have HC92:=Hd (show aM s I=92 from HC.o.trans t92);clear t92 HGO;obtain⟨d0,d1,d2,g1,g2⟩:=HG2.o.scan.cells;obtain⟨W5,hW⟩:∃Z:World,Z=(wc.setCell ⟨cs,1,none⟩ (.int .i64 ((I:Int)+1))):=⟨_,rfl⟩;have HG5:=Hd (show dB w W5 cs s (I+1) _ _ by rw [hW];exact HG2.o.moved (J:=I+1) (by omega) hcs);have HW5:=Hd hW;clear hW;obtain⟨J,hJ⟩:∃J,J=I+1:=⟨_,rfl⟩;rw [←hJ] at HG5 HGO1;have hJ1:1≤J:=by omega
           by_cases hlt2:J<s.size
           ·have HE2:=Hd (show decide (s.size≤J)=false from decide_eq_false (by omega));obtain⟨x,hx⟩:∃x,x=aM s J:=⟨_,rfl⟩;have HX:=Hd hx.symm;clear hx;go_wp2_with fail;rw [←HW5.o];by_cases t10:x=10
            ·have f10:((x.toNat:Int)==10)=true:=aU (c:=x) (k:=10) t10;have HL2:=Hd (show res=iW wh d false raw (.ok ([],rest s (J+1))) by
              rw [HGO1.o,aN hlt2,HX.o,t10];rfl)
             have HJ:=Hd hJ;clear t10 d0 d1 d2 g1 g2 hJ;refine (bB cs s J _ _ HG5.o.scan).mono ?_;rintro e wy ⟨rfl,q6,rfl⟩;rw [HE2.o];obtain⟨W6,hW⟩:∃Z:World,Z=W5.drewN q6:=⟨_,rfl⟩;rw [←hW];have HG6:=Hd (show dB w W6 cs s J (.slice va R0 vc) raw by rw [hW];exact HG5.o.drewN _);clear hW;go_wp2_with fail;refine (aP cs s J _ _ HG6.o.scan (by omega) (by omega)).mono ?_;rintro e wy ⟨rfl,q7,rfl⟩
             rw [HX.o];obtain⟨W7,hW⟩:∃Z:World,Z=W6.drewN q7:=⟨_,rfl⟩;rw [←hW];have HG7:=Hd (show dB w W7 cs s J (.slice va R0 vc) raw by rw [hW];exact HG6.o.drewN _);clear hW;obtain⟨d0,d1,d2,g1,g2⟩:=HG7.o.scan.cells;obtain⟨we,hW⟩:∃Z:World,Z=(W7.setCell ⟨cs,1,none⟩ (.int .i64 ((J:Int)+1))):=⟨_,rfl⟩;have HGE:=Hd (show dB w we cs s (J+1) _ _ by rw [hW];exact HG7.o.moved (J:=J+1) (by omega) hcs)
             have Hwe:=Hd hW;clear hW;go_wp2_with fail;rw [←Hwe.o];go_roundg (s.size+2 - (J+1))
             case measure=>have:=HGG.o;have:=HJ.o;omega
             case rel=>have:=HJ.o;exact o7 (l:=[]) (by rw [List.append_nil];exact HGE.o) (by omega) (by omega) (by rw [List.append_nil];omega) HL2.o
            ·have f10:((x.toNat:Int)==10)=false:=aX (c:=x) (k:=10) t10;have HTL:=Hd (show (s.extract J (J+1)).data.toList=[x] by
              rw [Lib.extract_data];have h1:s.data.toList.drop J=rest s J:=rfl;rw [h1,aN hlt2,show J+1 - J=1 by omega,HX.o];rfl)
             have HL2:=Hd (show res=iW wh d false raw (.ok ([cG (s.extract J (J+1)).data.toList],rest s (J+1))) by
              rw [HTL.o,HGO1.o,aN hlt2,HX.o];show iW wh d false raw (if x==10 then _ else _)=_;rw [beq_eq_false_iff_ne.2 t10,if_neg (by simp)])
             have HJ:=Hd hJ;clear t10 d0 d1 d2 g1 g2 hJ;refine (bB cs s J _ _ HG5.o.scan).mono ?_;rintro e wy ⟨rfl,q6,rfl⟩;rw [HE2.o];obtain⟨W6,hW⟩:∃Z:World,Z=W5.drewN q6:=⟨_,rfl⟩;rw [←hW];have HG6:=Hd (show dB w W6 cs s J (.slice va R0 vc) raw by rw [hW];exact HG5.o.drewN _);clear hW;go_wp2_with fail;refine (aP cs s J _ _ HG6.o.scan (by omega) (by omega)).mono ?_;rintro e wy ⟨rfl,q7,rfl⟩
             rw [HX.o];obtain⟨W7,hW⟩:∃Z:World,Z=W6.drewN q7:=⟨_,rfl⟩;rw [←hW];have HG7:=Hd (show dB w W7 cs s J (.slice va R0 vc) raw by rw [hW];exact HG6.o.drewN _);clear hW;obtain⟨d0,d1,d2,g1,g2⟩:=HG7.o.scan.cells;have p1:((J:Int)+1).toNat=J+1:=by omega
             have p2:(0:Int)≤(J:Int)+1:=by omega
             have p3:(J:Int)≤(J:Int)+1:=by omega
             have p4:(J:Int)+1≤(s.size:Int):=by omega
             have ew:IntKind.i64.wrap ((J:Int)+1)=(J:Int)+1:=IntWalk.i64_in _ (by omega);go_wp2_with fail;go_still_tail 16,(by kernel_rfl);change wpList _ _ _ _ _ W7.drew;obtain⟨wd,hW⟩:∃Z:World,Z=W7.drew:=⟨_,rfl⟩;rw [←hW];have hG6:dB w wd cs s (J) (.slice va R0 vc) raw:=by rw [hW];exact HG7.o.drew
             have hput:=fR w.heap.size 2 (s.extract J (J+1)) (.slice va R0 vc) raw wd hG6.row hG6.size (by omega) (.inl rfl);have HPUT:=Hd hput;have HG6:=Hd hG6;clear hput hG6 hW;go_wp2_with fail;refine HPUT.o.mono ?_;intro e W8 hp;obtain⟨a7,n7,c7,rfl,hG7⟩:=HG6.o.put hp hcs;have HG8:=Hd hG7;clear hp hG7 HPUT HG6;obtain⟨d0,d1,d2,g1,g2⟩:=HG8.o.scan.cells;obtain⟨we,hW⟩:∃Z:World,Z=(W8.setCell ⟨cs,1,none⟩ (.int .i64 ((J:Int)+1))):=⟨_,rfl⟩
             have HGE:=Hd (show dB w we cs s (J+1) _ _ by rw [hW];exact HG8.o.moved (J:=J+1) (by omega) hcs);have Hwe:=Hd hW;clear hW;go_wp2_with fail;rw [←Hwe.o];go_roundg (s.size+2 - (J+1))
             case measure=>have:=HGG.o;have:=HJ.o;omega
             case rel=>exact o7 HGE.o (by have:=HJ.o;omega) (by omega) (by rw [bE];rw [HTL.o];show wtF raw+(1+1+0)≤_;have:=HJ.o;omega) HL2.o
           ·have HE2:=Hd (show decide (s.size≤J)=true from decide_eq_true (by omega));go_wp2_with fail;rw [←HW5.o];have HTL:=Hd (show (s.extract (J - 1) J).data.toList=[92] by
             rw [Lib.extract_data];have h1:s.data.toList.drop (J - 1)=rest s (J - 1):=rfl;rw [h1,show J - 1=I by omega,aN hlt,show J - I=1 by omega,HC92.o];rfl)
            have HL2:=Hd (show res=iW wh d false raw (.ok ([cG (s.extract (J - 1) J).data.toList],rest s J)) by
             rw [HTL.o,HGO1.o,bU (by omega)])
            have HJ:=Hd hJ;have hJs:J≤s.size:=by omega
            clear d0 d1 d2 g1 g2 hJ;refine (bB cs s J _ _ HG5.o.scan).mono ?_;rintro e wy ⟨rfl,q6,rfl⟩;rw [HE2.o];obtain⟨W6,hW⟩:∃Z:World,Z=W5.drewN q6:=⟨_,rfl⟩;rw [←hW];have HG6:=Hd (show dB w W6 cs s J (.slice va R0 vc) raw by rw [hW];exact HG5.o.drewN _);clear hW;obtain⟨d0,d1,d2,g1,g2⟩:=HG6.o.scan.cells;have p1:((J:Int) - 1).toNat=J - 1:=by omega
            have p2:(0:Int)≤(J:Int) - 1:=by omega
            have p2':(1:Int)≤(J:Int):=by omega
            have p3:(J:Int) - 1≤(J:Int):=by omega
            have p4:(J:Int)≤(s.size:Int):=by omega
            have ew:IntKind.i64.wrap ((J:Int) - 1)=(J:Int) - 1:=IntWalk.i64_in _ (by omega);go_wp2_with fail;go_still_tail 16,(by kernel_rfl);change wpList _ _ _ _ _ W6.drew;obtain⟨wd,hW⟩:∃Z:World,Z=W6.drew:=⟨_,rfl⟩;rw [←hW];have hG6:dB w wd cs s (J) (.slice va R0 vc) raw:=by rw [hW];exact HG6.o.drew
            have hput:=fR w.heap.size 2 (s.extract (J - 1) J) (.slice va R0 vc) raw wd hG6.row hG6.size (by omega) (.inl rfl);have HPUT:=Hd hput;have HG6:=Hd hG6;clear hput hG6 hW;go_wp2_with fail;refine HPUT.o.mono ?_;intro e W8 hp;obtain⟨a7,n7,c7,rfl,hG7⟩:=HG6.o.put hp hcs;have HG8:=Hd hG7;clear hp hG7 HPUT HG6;go_wp2_with fail;go_roundg (s.size+2 - J)
            case measure=>have:=HGG.o;have:=HJ.o;omega
            case rel=>exact o7 HG8.o (by have:=HJ.o;omega) hJs (by rw [bE];rw [HTL.o];show wtF raw+(1+1+0)≤_;have:=HJ.o;omega) HL2.o
         have f92:((c.toNat:Int)==92)=false:=aX (c:=c) (k:=92) t92;have G92:=Hd (show (c==92)=false from beq_eq_false_iff_ne.2 t92);clear t92;by_cases t96:c=96
         ·have f96:((c.toNat:Int)==96)=true:=aU (c:=c) (k:=96) t96
          as_aux_lemma=>
           have HX2:=Hd (show res=.error 2 by rw [HGO.o,eJ,G39.out,G34.out,G92.out,t96];rfl);clear t96 HGO;go_wp2_with fail;refine (eO cs s I 0 2 _ HG2.o.scan).mono ?_;rintro e w10 ⟨rfl,hs10,hk10⟩;have HB:=Hd (HG2.o.fail (x:=2) (bd:=101 - d) (by decide) hs10 hk10 hcs (by omega) (by omega));clear hs10 hk10;go_wp2_with fail;go_roundg 0
           case measure=>have:=HGG.o;omega
           case rel=>exact .inr ⟨2,rfl,HX2.o,HB.o⟩
         have f96:((c.toNat:Int)==96)=false:=aX (c:=c) (k:=96) t96;have G96:=Hd (show (c==96)=false from beq_eq_false_iff_ne.2 t96);clear t96;by_cases t36:c=36
         ·have f36:((c.toNat:Int)==36)=true:=aU (c:=c) (k:=36) t36
          as_aux_lemma=>
           have HL2:=Hd (show res=iW wh d false raw (cS (.dol false) d (rest s (I+1))) by
            rw [HGO.o,eJ,G39.out,G34.out,G92.out,G96.out,t36];rfl)
           clear t36 HGO;have hcall:=DN w.heap.size cs s I d false (.slice va R0 vc) raw wc HG2.o.scan hlt hs hd HG2.o.row hcs HG2.o.size hwt (by omega);have HCALL:=Hd hcall;clear hcall;go_wp2_with fail;refine HCALL.o.mono ?_;intro e w6 hp;obtain⟨a,n,cc,g',rfl,hg',hst⟩:=Lh HG2.o hp hlt hiI hd (fun l r h=>by have:=dV _ _ _ _ _ _ h;simp only [Md.least,cM] at this;omega) HL2.o
           have HST:=Hd hst;clear hp hst;go_wp2_with fail;go_roundg g'
           case measure=>have:=HGG.o;omega
           case rel=>exact HST.o
         have f36:((c.toNat:Int)==36)=false:=aX (c:=c) (k:=36) t36;have G36:=Hd (show (c==36)=false from beq_eq_false_iff_ne.2 t36);clear t36
         as_aux_lemma=>
          have HTL:=Hd (show (s.extract I (I+1)).data.toList=[c] by
           rw [Lib.extract_data];have h1:s.data.toList.drop I=rest s I:=rfl;rw [h1,HRC.o,show I+1 - I=1 by omega];rfl)
          have HL2:=Hd (show res=iW wh d false raw (.ok ([eG (s.extract I (I+1)).data.toList],rest s (I+1))) by
           rw [HTL.o,HGO.o,eJ,G39.out,G34.out,G92.out,G96.out,G36.out];rfl)
          obtain⟨d0,d1,d2,g1,g2⟩:=HG2.o.scan.cells;have p1:((I:Int)+1).toNat=I+1:=by omega
          have p2:(0:Int)≤(I:Int)+1:=by omega
          have p3:(I:Int)≤(I:Int)+1:=by omega
          have p4:(I:Int)+1≤(s.size:Int):=by omega
          have ew:IntKind.i64.wrap ((I:Int)+1)=(I:Int)+1:=IntWalk.i64_in _ (by omega);go_wp2_with fail;go_still_tail 16,(by kernel_rfl);change wpList _ _ _ _ _ wc.drew;obtain⟨wd,hW⟩:∃Z:World,Z=wc.drew:=⟨_,rfl⟩;rw [←hW];have hG6:dB w wd cs s (I) (.slice va R0 vc) raw:=by rw [hW];exact HG2.o.drew
          have hput:=fR w.heap.size 1 (s.extract I (I+1)) (.slice va R0 vc) raw wd hG6.row hG6.size (by omega) (.inr ⟨rfl,by rw [HTL.o];simp⟩);have HPUT:=Hd hput;have HG6:=Hd hG6;clear hput hG6 hW;go_wp2_with fail;refine HPUT.o.mono ?_;intro e W8 hp;obtain⟨a7,n7,c7,rfl,hG7⟩:=HG6.o.put hp hcs;have HG8:=Hd hG7;clear hp hG7 HPUT HG6;obtain⟨d0,d1,d2,g1,g2⟩:=HG8.o.scan.cells;obtain⟨we,hW⟩:∃Z:World,Z=(W8.setCell ⟨cs,1,none⟩ (.int .i64 ((I:Int)+1))):=⟨_,rfl⟩
          have HGE:=Hd (show dB w we cs s (I+1) _ _ by rw [hW];exact HG8.o.moved (J:=I+1) (by omega) hcs);have Hwe:=Hd hW;clear hW;go_wp2_with fail;rw [←Hwe.o];go_roundg (s.size+2 - (I+1))
          case measure=>have:=HGG.o;omega
          case rel=>exact o7 HGE.o (by omega) (by omega) (by rw [bE];rw [HTL.o];show wtF raw+(1+1+0)≤_;omega) HL2.o
   ·have HE:=Hd (show decide (s.size≤I)=true from decide_eq_true (by omega));have HSTOP:=Hd (show res=.ok (raw,rest s I) by
     rw [HRES.o,bU (by omega),p8];show Except.ok (raw++[],[])=_;rw [List.append_nil])
    go_wp2_with fail;refine (bB cs s I _ _ HG0.o.scan).mono ?_;rintro e wy ⟨rfl,q1,rfl⟩;rw [HE.o];obtain⟨W1,hW⟩:∃Z:World,Z=wr.drewN q1:=⟨_,rfl⟩;rw [←hW];have HG1:=Hd (show dB w W1 cs s I (.slice va R0 vc) raw by rw [hW];exact HG0.o.drewN _);clear hW;go_wp2_with fail;refine (o9 w.heap.size _ raw _ HG1.o.row HG1.o.size (by omega)).mono ?_;rintro e wt ⟨v2,n2,rfl,hp,hk⟩;have HP:=Hd hp
    have HK2:=Hd hk;clear hp hk;go_wp2_with fail;go_ret;exact wJ HG1.o (by omega) HSTOP.o HP.o HK2.o
  ·have HB:=Hd hbad;have HXR:=Hd hres;obtain⟨hx0,I,raw,hI,hsc,hrow,hwt,_⟩:=hbad;obtain⟨va,R0,vc,rfl⟩:∃(a:OA) (n c:Nat),_=Value.slice a n c:=by obtain⟨a,c,e,_⟩:=hrow.shape;exact⟨a,_,c,e⟩
   have b0:((x:Int)==0)=false:=by rw [beq_eq_false_iff_ne];omega
   have hcall:=o9 w.heap.size _ raw _ hrow (by obtain⟨_,_,_,_,_,_,_,hk⟩:=HB.o;exact hk.size) hwt;have HCALL:=Hd hcall;obtain⟨c0,c1,c2,f1,f2⟩:=hsc.cells;clear hres hrow hsc hcall;go_wp2_with fail;refine HCALL.o.mono ?_;rintro e wt ⟨v2,n2,rfl,hp,hk⟩;have HP:=Hd hp;have HK2:=Hd hk;clear hp hk;go_wp2_with fail;go_ret;exact zC HB.o HXR.o HP.o HK2.o
end Go.Proofs.YtiihpbccabeoeaaGreatDoor
