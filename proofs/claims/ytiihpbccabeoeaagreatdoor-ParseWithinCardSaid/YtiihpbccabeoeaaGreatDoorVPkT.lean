/- The walk: a part. -/
import Derived.Test.YtiihpbccabeoeaaGreatDoorVM
import Derived.Test.YtiihpbccabeoeaaGreatDoorVPkS
namespace Go.Proofs.YtiihpbccabeoeaaGreatDoor
open Go.RowKit
set_option linter.unusedVariables false
set_option maxRecDepth 100000
set_option maxHeartbeats 16000000
def iN (wh:Bool) (d:Nat) (q:Bool) (raw:List Pt):mH→mH
 | .error e=>.error e
 | .ok (l,r1)=>(fJ wh d q r1).ahead (raw++l)
theorem tG (wh:Bool) (d:Nat) (q:Bool) (raw l:List Pt) (R:mH):iN wh d q raw (R.ahead l)=iN wh d q (raw++l) R:=by
 cases R with
 | error e=>rfl
 | ok x=>
  obtain⟨m,r⟩:=x;show (fJ wh d q r).ahead (raw++(l++m))=(fJ wh d q r).ahead (raw++l++m);rw [aA]
def xm (wh:Bool) (d:Nat) (c:UInt8):Bool:=decide (0<d) && c==125 || !wh && decide (d=0) && bY c
theorem MR {wh:Bool} {d:Nat} {q:Bool} {c:UInt8} {t:List UInt8} (raw:List Pt) (h:xm wh d c=false):(fJ wh d q (c::t)).ahead raw=iN wh d q raw (d7 (.one q) d (c::t)):=by
 rw [lV];unfold xm at h;rw [h,nF sI];cases d7 (.one q) d (c::t) with
 | error e=>rfl
 | ok x=>exact yA _ _ _
theorem xD {wh:Bool} {d:Nat} {q:Bool} {c:UInt8} {t:List UInt8} (raw:List Pt) (h:xm wh d c=true):(fJ wh d q (c::t)).ahead raw=.ok (raw,c::t):=by
 rw [lV];unfold xm at h;rw [h,nE rfl];show Except.ok (raw++[],c::t)=_;rw [List.append_nil]
structure c9 (w wr:World) (cs:Nat) (s:ByteArray) (I:Nat) (v:Value) (raw:List Pt):Prop where
 scan:ah wr cs s I ((0:Nat):Int)
 row:tu wr w.heap.size v raw
 kp:ae (λ b=>b=cs∨w.heap.size≤b) w wr
def Pf (w wr:World) (cs:Nat) (s:ByteArray) (x bd:Nat) (v:Value):Prop:=
 x≠0∧∃(I:Nat) (raw:List Pt),I≤s.size+bd∧ah wr cs s I (x:Int)∧tu wr w.heap.size v raw∧er raw≤1000000∧ae (λ b=>b=cs∨w.heap.size≤b) w wr
def WSt (w wr:World) (cs:Nat) (s:ByteArray) (i d:Nat) (wh q:Bool) (res:mH) (g:Nat) (v:Value):Prop:=
 (∃(I:Nat) (raw:List Pt),g=s.size+2 - I∧i≤I∧I≤s.size∧er raw≤2*I∧c9 w wr cs s I v raw∧res=(fJ wh d q (rest s I)).ahead raw)∨
 (∃x:Nat,g=0∧res=.error x∧Pf w wr cs s x (101 - d) v)
def DSt (w wr:World) (cs:Nat) (s:ByteArray) (i d:Nat) (wh q:Bool) (res:mH) (g:Nat) (v:Value):Prop:=
 (∃(I:Nat) (raw:List Pt),g=s.size+2 - I∧i≤I∧I≤s.size∧er raw≤2*I∧c9 w wr cs s I v raw∧res=iN wh d q raw (d7 .dq d (rest s I)))∨
 (∃x:Nat,g=0∧res=.error x∧Pf w wr cs s x (100 - d) v)
theorem c9.keep {w wr wx:World} {cs I J:Nat} {s:ByteArray} {v:Value} {raw:List Pt} (h:c9 w wr cs s I v raw) (hk:ae (λ b=>b=cs) wr wx) (hs:ah wx cs s J ((0:Nat):Int)) (iy:cs<w.heap.size):c9 w wx cs s J v raw:=
 ⟨hs,h.row.keep hk (λ b _ e=>by rw [e];exact iy),h.kp.trans hk λ_ _ e=>.inl e⟩
theorem c9.drewN {w wr:World} {cs I:Nat} {s:ByteArray} {v:Value} {raw:List Pt} (h:c9 w wr cs s I v raw) (n:Nat):c9 w (wr.drewN n) cs s I v raw:=
 ⟨h.scan.drewN n,h.row.keep (S:=λ_=>False) ((ae.refl _ _).drewN n) (λ b _ e=>e.elim),h.kp.drewN n⟩
theorem c9.drew {w wr:World} {cs I:Nat} {s:ByteArray} {v:Value} {raw:List Pt} (h:c9 w wr cs s I v raw):c9 w wr.drew cs s I v raw:=
 ⟨h.scan.keep (S:=λ_=>False) (ae.refl _ _).drew (λ x=>x),h.row.keep (S:=λ_=>False) (ae.refl _ _).drew (λ b _ e=>e.elim),h.kp.drew⟩
theorem c9.size {w wr:World} {cs I:Nat} {s:ByteArray} {v:Value} {raw:List Pt} (h:c9 w wr cs s I v raw):w.heap.size≤wr.heap.size:=h.kp.size
theorem c9.moved {w wr:World} {cs I J:Nat} {s:ByteArray} {v:Value} {raw:List Pt} (h:c9 w wr cs s I v raw) {j:Int} (hj:j=(J:Int)) (iy:cs<w.heap.size):c9 w (wr.setCell ⟨cs,1,none⟩ (.int .i64 j)) cs s J v raw:=
 h.keep (dl h.scan hj).2 (dl h.scan hj).1 iy
theorem c9.put {w wr wx:World} {cs I:Nat} {s:ByteArray} {v:Value} {raw:List Pt} {x:Pt} {e:Ending} (h:c9 w wr cs s I v raw) (hp:VS wr w.heap.size raw x e wx) (iy:cs<w.heap.size) :
 ∃(a:OA) (n c:Nat),e=.returned (.slice a n c)∧c9 w wx cs s I (.slice a n c) (raw++[x]):=by
 obtain⟨v7,rfl,cv,hk⟩:=hp;obtain⟨a,c,rfl,_,_⟩:=cv.shape;exact⟨a,_,c,rfl,h.scan.keep hk (λ e=>oM),cv,h.kp.trans hk λ_ _ e=>.inr e⟩
theorem c9.fail {w wr wx:World} {cs I x bd:Nat} {s:ByteArray} {v:Value} {raw:List Pt} (h:c9 w wr cs s I v raw) (hx:x≠0) (hs:ah wx cs s I (x:Int)) (hk:ae (λ b=>b=cs) wr wx) (iy:cs<w.heap.size) (hI:I≤s.size+bd) (hw:er raw≤1000000):Pf w wx cs s x bd v:=
 ⟨hx,I,raw,hI,hs,h.row.keep hk (λ b _ e=>by rw [e];exact iy),hw,h.kp.trans hk λ_ _ e=>.inl e⟩
theorem Pf.keep {w wr wx:World} {cs x bd bd':Nat} {s:ByteArray} {v:Value} (h:Pf w wr cs s x bd v) (hk:ae (λ b=>b=cs) wr wx) (iy:cs<w.heap.size) (hm:∀I:Nat,I≤s.size+bd→ah wr cs s I (x:Int)→∃J:Nat,J≤s.size+bd'∧ah wx cs s J (x:Int)):Pf w wx cs s x bd' v:=by
 obtain⟨hx,I,raw,h1,h2,h3,h4,h5⟩:=h;obtain⟨J,h6,h7⟩:=hm I h1 h2;exact⟨hx,J,raw,h6,h7,h3.keep hk (λ b _ e=>by rw [e];exact iy),h4,h5.trans hk λ_ _ e=>.inl e⟩
theorem xg {w W0 w6:World} {cs I:Nat} {s:ByteArray} {d:Nat} {v0:Value} {raw:List Pt} {R:mH} {e:Ending} (h0:c9 w W0 cs s I v0 raw) (hp:oH W0 w.heap.size cs s (100 - d) raw R e w6) :
 ∃(a:OA) (n c:Nat),e=.returned (.slice a n c)∧((∃(l:List Pt) (i:Nat),i≤s.size∧R=.ok (l,rest s i)∧er (raw++l)≤2*i∧c9 w w6 cs s i (.slice a n c) (raw++l))∨∃x,R=.error x∧Pf w w6 cs s x (100 - d) (.slice a n c)):=by
 cases R with
 | error x=>
  obtain⟨hx,v,i,uO,rfl,h1,h2,h3,h4,h5⟩:=hp;obtain⟨a,c,rfl,_,_⟩:=h3.shape;exact⟨a,_,c,rfl,.inr ⟨x,rfl,hx,i,uO,h1,h2,h3,h4,h0.kp.trans h5 λ_ _ e=>e⟩⟩
 | ok lr=>
  obtain⟨l,r⟩:=lr;obtain⟨v,i,rfl,h1,h2,h3,h4,h5,h6⟩:=hp;obtain⟨a,c,rfl,_,_⟩:=h4.shape;exact⟨a,_,c,rfl,.inl ⟨l,i,h1,by rw [h2],h5,h3,h4,h0.kp.trans h6 λ_ _ e=>e⟩⟩
theorem pQ {w wx:World} {cs i J:Nat} {s:ByteArray} {d:Nat} {wh q:Bool} {v:Value} {raw l:List Pt} {res:mH} (h:c9 w wx cs s J v (raw++l)) (hi:i≤J) (hJ:J≤s.size) (hw:er (raw++l)≤2*J) (ag:res=iN wh d q raw (.ok (l,rest s J))):WSt w wx cs s i d wh q res (s.size+2 - J) v:=
 .inl ⟨J,raw++l,rfl,hi,hJ,hw,h,ag⟩
theorem MT {w W0 w6:World} {cs i I:Nat} {s:ByteArray} {d:Nat} {wh q:Bool} {v0:Value} {raw:List Pt} {R res:mH} {e:Ending} (h0:c9 w W0 cs s I v0 raw) (hp:oH W0 w.heap.size cs s (100 - d) raw R e w6) (hI:I<s.size) (hi:i≤I) (hd:d≤40)
 (bS:∀l r,R=.ok (l,r)→r.length<s.size - I) (ag:res=iN wh d q raw R) :
 ∃(a:OA) (n c g:Nat),e=.returned (.slice a n c)∧g<s.size+2 - I∧WSt w w6 cs s i d wh q res g (.slice a n c):=by
 obtain⟨a,n,c,rfl,h | h⟩:=xg h0 hp
 ·obtain⟨l,j,hj,hR,hw,hg⟩:=h;have hl:=bS _ _ hR;rw [aO] at hl;refine⟨a,n,c,s.size+2 - j,rfl,oM,.inl ⟨j,raw++l,rfl,oM,hj,hw,hg,?_⟩⟩;rw [ag,hR];rfl
 ·obtain⟨x,hR,h1,I',uO,h2,h3⟩:=h;refine⟨a,n,c,0,rfl,oM,.inr ⟨x,rfl,by rw [ag,hR];rfl,h1,I',uO,oM,h3⟩⟩
theorem Tc {w W0 w6:World} {cs i I:Nat} {s:ByteArray} {d:Nat} {wh q:Bool} {v0:Value} {raw:List Pt} {res:mH} {e:Ending} (h0:c9 w W0 cs s I v0 raw) (hp:oH W0 w.heap.size cs s (100 - d) raw (d7 (.one true) d (rest s I)) e w6) (hI:I<s.size) (hi:i≤I) (hd:d≤40)
 (hc:(au s I==34)=false) (ag:res=iN wh d q raw (d7 .dq d (rest s I))) :
 ∃(a:OA) (n c g:Nat),e=.returned (.slice a n c)∧g<s.size+2 - I∧DSt w w6 cs s i d wh q res g (.slice a n c):=by
 rw [uV,ak hI] at ag;dsimp only at ag;rw [hc,nF sI,←ak hI] at ag;obtain⟨a,n,c,rfl,h | h⟩:=xg h0 hp
 ·obtain⟨l,j,hj,hR,hw,hg⟩:=h;have hl:=cS _ _ _ _ _ _ hR;simp only [Md.least,aO] at hl;refine⟨a,n,c,s.size+2 - j,rfl,oM,.inl ⟨j,raw++l,rfl,oM,hj,hw,hg,?_⟩⟩;rw [ag,hR];exact tG _ _ _ _ _ _
 ·obtain⟨x,hR,h1,I',uO,h2,h3⟩:=h;refine⟨a,n,c,0,rfl,oM,.inr ⟨x,rfl,by rw [ag,hR];rfl,h1,I',uO,h2,h3⟩⟩
theorem CG {w wr w2:World} {cs I n:Nat} {s:ByteArray} {d:Nat} {v v2:Value} {raw:List Pt} {res:mH} (h:c9 w wr cs s I v raw) (hI:I≤s.size) (ag:res=.ok (raw,rest s I)) (hp:az w2 (λ b=>w.heap.size≤b) n (eh raw) v2) (hk:K0 wr w2):Fh w cs s d res (.returned v2) w2:=by
 rw [ag];exact⟨v2,n,I,rfl,hI,rfl,h.scan.keep hk (λ e=>e),hp,(h.kp.trans hk λ_ _ e=>e.elim).mono λ b hb e=>e.resolve_right oM⟩
theorem zu {w wr w2:World} {cs x n:Nat} {s:ByteArray} {d:Nat} {v v2:Value} {raw:List Pt} {res:mH} (h:Pf w wr cs s x (101 - d) v) (ag:res=.error x) (hp:az w2 (λ b=>w.heap.size≤b) n raw v2) (hk:K0 wr w2):Fh w cs s d res (.returned v2) w2:=by
 rw [ag];obtain⟨hx,I,uO,h1,h2,h3,h4,h5⟩:=h;exact⟨hx,v2,n,I,raw,rfl,h1,h2.keep hk (λ e=>e),hp,(h5.trans hk λ_ _ e=>e.elim).mono λ b hb e=>e.resolve_right oM⟩
theorem ug (c x:UInt8) (t:List UInt8):bX c (x::t)=if x==c then some 0 else (bX c t).map (· + 1):=rfl
def kT (s:ByteArray) (i I:Nat):Prop:=i≤I∧bX 39 (rest s i)=(bX 39 (rest s I)).map (· + (I - i))
theorem kT.start (s:ByteArray) (i:Nat):kT s i i:=⟨nC _,by rw [Nat.sub_self];cases bX 39 (rest s i)<;>rfl⟩
theorem kT.on {s:ByteArray} {i I:Nat} (h:kT s i I) (hI:I<s.size) (hc:(au s I==39)=false):kT s i (I+1):=by
 refine⟨by have:=h.1;omega,?_⟩;have h1:=h.1;rw [h.2,ak hI,ug,hc,nF sI];cases bX 39 (rest s (I+1)) with
 | none=>rfl
 | some m=>simp;omega
theorem kT.over {s:ByteArray} {i I:Nat} (h:kT s i I) (hI:s.size≤I):bX 39 (rest s i)=none:=by
 rw [h.2,aX hI];rfl
theorem kT.at {s:ByteArray} {i I:Nat} (h:kT s i I) (hI:I<s.size) (hc:au s I=39):bX 39 (rest s i)=some (I - i):=by
 rw [h.2,ak hI,hc,ug];simp
theorem EN (N:Nat) (IN:Py N) (DN:JG N):Dx (N+1):=by
 intro cs s i d wh q w h hi hs hd iy hN;obtain⟨res,ag⟩:∃res,res=fJ wh d q (rest s i):=⟨_,rfl⟩;rw [←ag];have oE:=Hd (show res=(fJ wh d q (rest s i)).ahead [] by
  rw [ag];cases fJ wh d q (rest s i) with
  | error e=>rfl
  | ok x=>rfl)
 have aaB:=Lib.hid h;clear ag h;go_enter Tryz.func24,Tryz.ntmps24;go_wp2_with fail;go_loopg [9] (s.size+2 - i) (λ g l' wr=>WSt w wr cs s i d wh q res g l')
 case atStart=>exact .inl ⟨i,[],rfl,nC _,hi,nB _,⟨aaB.o,tu.nil _ _,ae.refl _ _⟩,oE.o⟩
 case round=>
  rcases hrel with ⟨I,raw,B1,mI,hIs,Zh,rN,ag⟩ | ⟨x,B1,ag,Lt⟩
  ·have xS:=Hd B1;have ay:=Hd ag;obtain⟨va,R0,vc,rfl⟩:∃(a:OA) (n c:Nat),_=Value.slice a n c:=by obtain⟨a,c,e,_⟩:=rN.row.shape;exact⟨a,_,c,e⟩
   have Hb:=iq raw;have iD:=Hd rN;obtain⟨c0,c1,c2,f1,f2⟩:=rN.scan.cells;clear B1 ag rN;by_cases aW:I<s.size
   ·skip;have HE:=Hd (show decide (s.size≤I)=false from nV oM);obtain⟨c,hc⟩:∃c,c=au s I:=⟨_,rfl⟩;have HC:=Hd hc.symm;have pp:=Hd (show rest s I=c::rest s (I+1) by rw [ak aW,←hc]);clear hc;go_wp2_with fail;refine (bk cs s I _ _ iD.o.scan).mono ?_;rintro e wy ⟨rfl,q1,rfl⟩;rw [HE.o];obtain⟨W1,hW⟩:∃Z:World,Z=wr.drewN q1:=⟨_,rfl⟩;rw [←hW];have sq:=Hd (show c9 w W1 cs s I (.slice va R0 vc) raw by rw [hW];exact iD.o.drewN _)
    clear hW;go_wp2_with fail;refine (aR cs s I _ _ sq.o.scan oM oM).mono ?_;rintro e wy ⟨rfl,q2,rfl⟩;rw [HC.o];obtain⟨W2,hW⟩:∃Z:World,Z=W1.drewN q2:=⟨_,rfl⟩;rw [←hW];have sr:=Hd (show c9 w W2 cs s I (.slice va R0 vc) raw by rw [hW];exact sq.o.drewN _);clear hW;obtain⟨F1,hF1⟩:∃F1,F1=(decide (0<d) && c==125):=⟨_,rfl⟩;obtain⟨F2,UI⟩:∃F2,F2=(!wh && decide (d=0) && bY c):=⟨_,rfl⟩
    have Sa:=Hd hF1;have Un:=Hd UI;clear hF1 UI;go_upto_region 4 with fail;go_cut [29] from 24 to 29 (λ b wx=>b=.bool F1∧wx=W2)
    case first=>
     rcases Nat.eq_zero_or_pos d with Ro | Ro
     ·have k1:¬(0:Int)<(d:Int):=oM
      have HV:=Hd (show F1=false by rw [Sa.o,Ro];rfl);clear Ro;exact GM
     ·have k1:(0:Int)<(d:Int):=oM
      by_cases qT:c=125
      ·have aaT:((c.toNat:Int)==125)=true:=aE (c:=c) (k:=125) qT;have HV:=Hd (show F1=true by rw [Sa.o,qT,nU Ro];rfl);clear qT;exact GM
      ·have aaT:((c.toNat:Int)==125)=false:=aw (c:=c) (k:=125) qT;have HV:=Hd (show F1=false by rw [Sa.o,nA.2 qT,Bool.and_false]);clear qT;exact GM
    case rest=>
     obtain⟨rfl,rfl⟩:=hcut;cases F1 with
     | true=>
      have Fd:=Hd (show res=.ok (raw,rest s I) by
       rw [ay.o,pp.o];exact xD raw (by unfold xm;rw [←Sa.o];rfl))
      exact WJ
     | false=>
      go_upto_region 6 with fail;go_cut [41] from 32 to 41 (λ b wx=>b=.bool F2∧wx=wc)
      case first=>
       cases wh with
       | true=>
        have HV:=Hd (show F2=false by rw [Un.o];rfl);exact GM
       | false=>
        rcases Nat.eq_zero_or_pos d with Ro | Ro
        ·have k1:((d:Int)==0)=true:=by rw [nH];omega
         have HV:=Hd (show F2=bY c by rw [Un.o,Ro];rfl);clear Ro;go_wp2_with fail;refine (DD c _).mono ?_;rintro e wy ⟨rfl,rfl⟩;exact GM
        ·have k1:((d:Int)==0)=false:=by rw [nA];omega
         have HV:=Hd (show F2=false by rw [Un.o,nV oM];rfl);exact GM
      case rest=>
       obtain⟨rfl,rfl⟩:=hcut;cases F2 with
       | true=>
        have Fd:=Hd (show res=.ok (raw,rest s I) by
         rw [ay.o,pp.o];exact xD raw (by unfold xm;rw [←Sa.o,←Un.o];rfl))
        exact WJ
       | false=>
        have Dh:=Hd (show res=iN wh d q raw (d7 (.one q) d (rest s I)) by
         rw [ay.o,pp.o];exact MR raw (by unfold xm;rw [←Sa.o,←Un.o];rfl))
        clear Sa Un ay c0 c1 c2 f1 f2;cases q with
        | true=>
         have fi:=IN w.heap.size cs s I d (.slice va R0 vc) raw wc sr.o.scan aW hs hd sr.o.row iy sr.o.size Zh oM;have dv:=Hd fi;clear fi;go_wp2_with fail;refine dv.o.mono ?_;intro e w6 hp;obtain⟨a,n,cc,g',rfl,AE,e9⟩:=MT sr.o hp aW mI hd (λ l r h=>by have:=cS _ _ _ _ _ _ h;simp only [Md.least,aO] at this;omega) Dh.o;exact P7
        | false=>
         rw [pp.o] at Dh;by_cases IP:c=39
         ·have f39:((c.toNat:Int)==39)=true:=aE (c:=c) (k:=39) IP
          as_aux_lemma=>
           have sJ:=Hd (show res=iN wh d false raw (match bX 39 (rest s (I+1)) with
            | none=>.error 2
            | some k=>.ok ([cq ((rest s (I+1)).take k)],(rest s (I+1)).drop (k+1))) by
            rw [Dh.o,k9,IP];rfl)
           clear IP Dh;obtain⟨d0,d1,d2,g1,g2⟩:=sr.o.scan.cells;obtain⟨W5,hW⟩:∃Z:World,Z=(wc.setCell ⟨cs,1,none⟩ (.int .i64 ((I:Int)+1))):=⟨_,rfl⟩;have fc:=Hd (show c9 w W5 cs s (I+1) _ _ by rw [hW];exact sr.o.moved (J:=I+1) oM iy);have uP:=Hd hW;clear hW;go_wp2_with fail;rw [←uP.o];go_loopg [] (s.size+3 - (I+1)) (λ g wr=>∃K:Nat,g=s.size+3 - K∧I+1≤K∧K≤s.size∧Hid (c9 w wr cs s K (.slice va R0 vc) raw)∧Hid (kT s (I+1) K))
           case atStart=>exact⟨I+1,oM,oM,oM,fc,Hd (kT.start _ _)⟩
           case round=>
            obtain⟨K,tQ,Xe,YZ,oB,HU⟩:=hrel;have Bq:=Hd tQ;clear tQ;by_cases eC:K<s.size
            ·have pk:=Hd (show decide (s.size≤K)=false from nV oM);obtain⟨x,hx⟩:∃x,x=au s K:=⟨_,rfl⟩;have HX:=Hd hx.symm;clear hx;obtain⟨wq,TP⟩:∃Z:World,Z=wr:=⟨_,rfl⟩;by_cases tx:x=39
             ·have fx:((x.toNat:Int) != 39)=false:=by rw [bne,show ((x.toNat:Int)==39)=true from aE (c:=x) (k:=39) tx];rfl
              have Uu:=Hd (HU.o.at eC (HX.o.trans tx));clear tx TP;go_wp2_with fail;refine (bk cs s K _ _ oB.o.scan).mono ?_;rintro e wy ⟨rfl,q8,rfl⟩;rw [pk.o];obtain⟨W8,hW⟩:∃Z:World,Z=wr.drewN q8:=⟨_,rfl⟩;rw [←hW];have oq:=Hd (show c9 w W8 cs s K (.slice va R0 vc) raw by rw [hW];exact oB.o.drewN _);clear hW;go_wp2_with fail;refine (aR cs s K _ _ oq.o.scan oM oM).mono ?_
              rintro e wy ⟨rfl,q9,rfl⟩;rw [HX.o];obtain⟨W9,hW⟩:∃Z:World,Z=W8.drewN q9:=⟨_,rfl⟩;rw [←hW];have lX:=Hd (show c9 w W9 cs s K (.slice va R0 vc) raw by rw [hW];exact oq.o.drewN _);clear hW;go_wp2_with fail;refine (bk cs s K _ _ lX.o.scan).mono ?_;rintro e wy ⟨rfl,q10,rfl⟩;rw [pk.o];obtain⟨PA,hW⟩:∃Z:World,Z=W9.drewN q10:=⟨_,rfl⟩;rw [←hW];have JK:=Hd (show c9 w PA cs s K (.slice va R0 vc) raw by rw [hW];exact lX.o.drewN _)
              clear hW;have Bt:=Hd (show res=iN wh d false raw (.ok ([cq (s.extract (I+1) K).data.toList],rest s (K+1))) by
               rw [sJ.o,Uu.o];dsimp only;rw [b8,Lib.extract_data,show I+1+(K - (I+1)+1)=K+1 by omega];rfl)
              have ki:=Hd (show (s.extract (I+1) K).data.toList.length=K - (I+1) by
               rw [←nT,ByteArray.size_extract];omega)
              obtain⟨d0,d1,d2,g1,g2⟩:=JK.o.scan.cells;have p1:((I:Int)+1).toNat=I+1:=oM
              have p2:(0:Int)≤(I:Int)+1:=oM
              have p3:(I:Int)+1≤(K:Int):=oM
              have p4:(K:Int)≤(s.size:Int):=oM
              clear HU Uu sJ;go_wp2_with fail;go_still_tail 12,kR;change wpList _ _ _ _ _ PA.drew;obtain⟨wd,hW⟩:∃Z:World,Z=PA.drew:=⟨_,rfl⟩;rw [←hW];have sS:c9 w wd cs s (K) (.slice va R0 vc) raw:=by rw [hW];exact JK.o.drew
              have ji:=iX w.heap.size 2 (s.extract (I+1) K) (.slice va R0 vc) raw wd sS.row sS.size oM (.inl rfl);have mn:=Hd ji;have pm:=Hd sS;clear ji sS hW;go_wp2_with fail;refine mn.o.mono ?_;intro e W11 hp;obtain⟨a7,n7,c7,rfl,Lq⟩:=pm.o.put hp iy;have Vf:=Hd Lq;clear hp Lq mn pm;obtain⟨d0,d1,d2,g1,g2⟩:=Vf.o.scan.cells;obtain⟨we,hW⟩:∃Z:World,Z=(W11.setCell ⟨cs,1,none⟩ (.int .i64 ((K:Int)+1))):=⟨_,rfl⟩
              have zQ:=Hd (show c9 w we cs s (K+1) _ _ by rw [hW];exact Vf.o.moved (J:=K+1) oM iy);have J7:=Hd hW;clear hW;go_wp2_with fail;rw [←J7.o];go_roundg (s.size+2 - (K+1))
              case measure=>have:=xS.o;omega
              case rel=>exact pQ zQ.o oM oM (by rw [bv];have h9:=ki.o;simp only [er,Pt.text];omega) Bt.o
             ·have fx:((x.toNat:Int) != 39)=true:=by rw [bne,show ((x.toNat:Int)==39)=false from aw (c:=x) (k:=39) tx];rfl
              have Uu:=Hd (HU.o.on eC (by rw [HX.o];exact nA.2 tx));clear tx TP;go_wp2_with fail;refine (bk cs s K _ _ oB.o.scan).mono ?_;rintro e wy ⟨rfl,q8,rfl⟩;rw [pk.o];obtain⟨W8,hW⟩:∃Z:World,Z=wr.drewN q8:=⟨_,rfl⟩;rw [←hW];have oq:=Hd (show c9 w W8 cs s K (.slice va R0 vc) raw by rw [hW];exact oB.o.drewN _);clear hW;go_wp2_with fail;refine (aR cs s K _ _ oq.o.scan oM oM).mono ?_
              rintro e wy ⟨rfl,q9,rfl⟩;rw [HX.o];obtain⟨W9,hW⟩:∃Z:World,Z=W8.drewN q9:=⟨_,rfl⟩;rw [←hW];have lX:=Hd (show c9 w W9 cs s K (.slice va R0 vc) raw by rw [hW];exact oq.o.drewN _);clear hW;obtain⟨d0,d1,d2,g1,g2⟩:=lX.o.scan.cells;obtain⟨we,hW⟩:∃Z:World,Z=(W9.setCell ⟨cs,1,none⟩ (.int .i64 ((K:Int)+1))):=⟨_,rfl⟩;have zQ:=Hd (show c9 w we cs s (K+1) _ _ by rw [hW];exact lX.o.moved (J:=K+1) oM iy)
              have J7:=Hd hW;clear hW;go_wp2_with fail;rw [←J7.o];go_roundg (s.size+3 - (K+1))
              case measure=>have:=Bq.o;omega
              case rel=>exact⟨K+1,rfl,oM,oM,zQ,Uu⟩
            ·have pk:=Hd (show decide (s.size≤K)=true from nU oM);have NH:=Hd (show res=.error 2 by rw [sJ.o,HU.o.over oM];rfl);clear HU sJ;go_wp2_with fail;refine (bk cs s K _ _ oB.o.scan).mono ?_;rintro e wy ⟨rfl,q8,rfl⟩;rw [pk.o];obtain⟨W8,hW⟩:∃Z:World,Z=wr.drewN q8:=⟨_,rfl⟩;rw [←hW];have oq:=Hd (show c9 w W8 cs s K (.slice va R0 vc) raw by rw [hW];exact oB.o.drewN _)
             clear hW;go_wp2_with fail;refine (bk cs s K _ _ oq.o.scan).mono ?_;rintro e wy ⟨rfl,q9,rfl⟩;rw [pk.o];obtain⟨W9,hW⟩:∃Z:World,Z=W8.drewN q9:=⟨_,rfl⟩;rw [←hW];have lX:=Hd (show c9 w W9 cs s K (.slice va R0 vc) raw by rw [hW];exact oq.o.drewN _);clear hW;go_wp2_with fail;refine (fl cs s K 0 2 _ lX.o.scan).mono ?_;rintro e Pb ⟨rfl,om,rO⟩;have HB:=Hd (lX.o.fail (x:=2) (bd:=101 - d) dC om rO iy oM oM)
             clear om rO;go_wp2_with fail;go_ret;exact zu HB.o NH.o (az.nil _ _ 0) (ae.refl _ _)
         have f39:((c.toNat:Int)==39)=false:=aw (c:=c) (k:=39) IP;have RY:=Hd (show (c==39)=false from nA.2 IP);clear IP;by_cases zC:c=34
         ·have WW:((c.toNat:Int)==34)=true:=aE (c:=c) (k:=34) zC
          as_aux_lemma=>
           have sJ:=Hd (show res=iN wh d false (raw++[cq []]) (d7 .dq d (rest s (I+1))) by
            rw [Dh.o,k9,RY.out,zC,←tG];rfl)
           clear zC Dh;obtain⟨d0,d1,d2,g1,g2⟩:=sr.o.scan.cells;obtain⟨W5,hW⟩:∃Z:World,Z=(wc.setCell ⟨cs,1,none⟩ (.int .i64 ((I:Int)+1))):=⟨_,rfl⟩;have fc:=Hd (show c9 w W5 cs s (I+1) _ _ by rw [hW];exact sr.o.moved (J:=I+1) oM iy);have uP:=Hd hW;clear hW;have ji:=iX w.heap.size 2 ⟨#[]⟩ _ raw W5 fc.o.row fc.o.size oM (.inl rfl);have mn:=Hd ji;clear ji
           go_wp2_with fail;rw [←uP.o];refine mn.o.mono ?_;intro e W6 hp;obtain⟨a6,n6,c6,rfl,sS⟩:=fc.o.put hp iy;have pm:=Hd sS;clear hp sS mn;go_wp2_with fail;go_loopg [9] (s.size+2 - (I+1)) (λ g l' wr=>DSt w wr cs s (I+1) d wh false res g l')
           case atStart=>exact .inl ⟨I+1,_,rfl,nC _,oM,by rw [bv];show er raw+(1+0+0)≤_;omega,pm.o,sJ.o⟩
           case round=>
            rcases hrel with ⟨K,raw,tQ,Xe,YZ,ab0,rN,ag⟩ | ⟨x,tQ,ag,Lt⟩
            ·have Bq:=Hd tQ;have cJ:=Hd ag;obtain⟨va,R0,vc,rfl⟩:∃(a:OA) (n c:Nat),_=Value.slice a n c:=by obtain⟨a,c,e,_⟩:=rN.row.shape;exact⟨a,_,c,e⟩
             have oB:=Hd rN;obtain⟨c0,c1,c2,f1,f2⟩:=rN.scan.cells;clear tQ ag rN;by_cases eC:K<s.size
             ·have pk:=Hd (show decide (s.size≤K)=false from nV oM);obtain⟨x,hx⟩:∃x,x=au s K:=⟨_,rfl⟩;have HX:=Hd hx.symm;clear hx;by_cases tx:x=34
              ·have fx:((x.toNat:Int) != 34)=false:=by rw [bne,show ((x.toNat:Int)==34)=true from aE (c:=x) (k:=34) tx];rfl
               have Bt:=Hd (show res=iN wh d false raw (.ok ([],rest s (K+1))) by
                rw [cJ.o,uV,ak eC,HX.o,tx];rfl)
               clear tx;go_wp2_with fail;refine (bk cs s K _ _ oB.o.scan).mono ?_;rintro e wy ⟨rfl,q8,rfl⟩;rw [pk.o];obtain⟨W8,hW⟩:∃Z:World,Z=wr.drewN q8:=⟨_,rfl⟩;rw [←hW];have oq:=Hd (show c9 w W8 cs s K (.slice va R0 vc) raw by rw [hW];exact oB.o.drewN _);clear hW;go_wp2_with fail;refine (aR cs s K _ _ oq.o.scan oM oM).mono ?_;rintro e wy ⟨rfl,q9,rfl⟩;rw [HX.o]
               obtain⟨W9,hW⟩:∃Z:World,Z=W8.drewN q9:=⟨_,rfl⟩;rw [←hW];have lX:=Hd (show c9 w W9 cs s K (.slice va R0 vc) raw by rw [hW];exact oq.o.drewN _);clear hW;go_wp2_with fail;refine (bk cs s K _ _ lX.o.scan).mono ?_;rintro e wy ⟨rfl,q10,rfl⟩;rw [pk.o];obtain⟨PA,hW⟩:∃Z:World,Z=W9.drewN q10:=⟨_,rfl⟩;rw [←hW];have JK:=Hd (show c9 w PA cs s K (.slice va R0 vc) raw by rw [hW];exact lX.o.drewN _)
               clear hW;obtain⟨d0,d1,d2,g1,g2⟩:=JK.o.scan.cells;obtain⟨we,hW⟩:∃Z:World,Z=(PA.setCell ⟨cs,1,none⟩ (.int .i64 ((K:Int)+1))):=⟨_,rfl⟩;have zQ:=Hd (show c9 w we cs s (K+1) _ _ by rw [hW];exact JK.o.moved (J:=K+1) oM iy);have J7:=Hd hW;clear hW;go_wp2_with fail;rw [←J7.o];go_roundg (s.size+2 - (K+1))
               case measure=>have:=xS.o;omega
               case rel=>exact pQ (l:=[]) (by rw [List.append_nil];exact zQ.o) oM oM (by rw [List.append_nil];omega) Bt.o
              ·have fx:((x.toNat:Int) != 34)=true:=by rw [bne,show ((x.toNat:Int)==34)=false from aw (c:=x) (k:=34) tx];rfl
               have HQ:=Hd (show (au s K==34)=false by rw [HX.o];exact nA.2 tx);clear tx;go_wp2_with fail;refine (bk cs s K _ _ oB.o.scan).mono ?_;rintro e wy ⟨rfl,q8,rfl⟩;rw [pk.o];obtain⟨W8,hW⟩:∃Z:World,Z=wr.drewN q8:=⟨_,rfl⟩;rw [←hW];have oq:=Hd (show c9 w W8 cs s K (.slice va R0 vc) raw by rw [hW];exact oB.o.drewN _);clear hW;go_wp2_with fail;refine (aR cs s K _ _ oq.o.scan oM oM).mono ?_
               rintro e wy ⟨rfl,q9,rfl⟩;rw [HX.o];obtain⟨W9,hW⟩:∃Z:World,Z=W8.drewN q9:=⟨_,rfl⟩;rw [←hW];have lX:=Hd (show c9 w W9 cs s K (.slice va R0 vc) raw by rw [hW];exact oq.o.drewN _);clear hW;have fi:=IN w.heap.size cs s K d (.slice va R0 vc) raw W9 lX.o.scan eC hs hd lX.o.row iy lX.o.size ab0 oM;have dv:=Hd fi;clear fi;go_wp2_with fail;refine dv.o.mono ?_
               intro e Pb hp;obtain⟨a,n,cc,g',rfl,AE,e9⟩:=Tc lX.o hp eC Xe hd HQ.o cJ.o;have eI:=Hd e9;clear hp e9;go_wp2_with fail;go_roundg g'
               case measure=>have:=Bq.o;omega
               case rel=>exact eI.o
             ·have pk:=Hd (show decide (s.size≤K)=true from nU oM);have NH:=Hd (show res=.error 2 by rw [cJ.o,aX oM,uV];rfl);go_wp2_with fail;refine (bk cs s K _ _ oB.o.scan).mono ?_;rintro e wy ⟨rfl,q8,rfl⟩;rw [pk.o];obtain⟨W8,hW⟩:∃Z:World,Z=wr.drewN q8:=⟨_,rfl⟩;rw [←hW];have oq:=Hd (show c9 w W8 cs s K (.slice va R0 vc) raw by rw [hW];exact oB.o.drewN _)
              clear hW;go_wp2_with fail;refine (bk cs s K _ _ oq.o.scan).mono ?_;rintro e wy ⟨rfl,q9,rfl⟩;rw [pk.o];obtain⟨W9,hW⟩:∃Z:World,Z=W8.drewN q9:=⟨_,rfl⟩;rw [←hW];have lX:=Hd (show c9 w W9 cs s K (.slice va R0 vc) raw by rw [hW];exact oq.o.drewN _);clear hW;go_wp2_with fail;refine (fl cs s K 0 2 _ lX.o.scan).mono ?_;rintro e Pb ⟨rfl,om,rO⟩;have HB:=Hd (lX.o.fail (x:=2) (bd:=100 - d) dC om rO iy oM oM)
              have LH:ah Pb cs s K ((2:Nat):Int):=om;obtain⟨d0,d1,d2,g1,g2⟩:=LH.cells;obtain⟨B6,B2⟩:=dl LH (j:=(K:Int)+1) (J:=K+1) oM;have kQ:=Hd (HB.o.keep (bd':=101 - d) B2 iy (λ J hJ _=>⟨K+1,oM,B6⟩));clear om rO LH B6 B2;go_wp2_with fail;go_roundg 0
              case measure=>have:=xS.o;omega
              case rel=>exact .inr ⟨2,rfl,NH.o,kQ.o⟩
            ·have HB:=Hd Lt;have HXR:=Hd ag;obtain⟨Hn,K,uO,hK,eY,cv,_,_⟩:=Lt;obtain⟨va,R0,vc,rfl⟩:∃(a:OA) (n c:Nat),_=Value.slice a n c:=by obtain⟨a,c,e,_⟩:=cv.shape;exact⟨a,_,c,e⟩
             have b0:((x:Int)==0)=false:=by rw [nA];omega
             have HS:=Hd eY;obtain⟨c0,c1,c2,f1,f2⟩:=eY.cells;clear tQ ag cv eY;by_cases lv:s.size≤K
             ·have pk:=Hd (show decide (s.size≤K)=true from nU lv);go_wp2_with fail;refine (bk cs s K _ _ HS.o).mono ?_;rintro e wy ⟨rfl,q8,rfl⟩;rw [pk.o];go_wp2_with fail;refine (fl cs s K x 2 _ (HS.o.drewN _)).mono ?_;rintro e Pb ⟨rfl,om,rO⟩;rw [nF Hn] at om;have ZP:=Hd (((ae.refl _ _).drewN q8).trans rO (λ_ _ e=>e));obtain⟨d0,d1,d2,g1,g2⟩:=om.cells
              obtain⟨B6,B2⟩:=dl om (j:=(K:Int)+1) (J:=K+1) oM;have kQ:=Hd (HB.o.keep (bd':=101 - d) (ZP.o.trans B2 (λ_ _ e=>e)) iy (λ J hJ _=>⟨K+1,oM,B6⟩));clear om rO B6 B2 c0 c1 c2 f1 f2;exact Qh
             ·have pk:=Hd (show decide (s.size≤K)=false from nV lv);go_wp2_with fail;refine (bk cs s K _ _ HS.o).mono ?_;rintro e Pb ⟨rfl,q8,rfl⟩;rw [pk.o];obtain⟨Pb,hW⟩:∃Z:World,Z=wr.drewN q8:=⟨_,rfl⟩;have om:ah Pb cs s K (x:Int):=by rw [hW];exact HS.o.drewN _
              have rO:ae (λ b=>b=cs) wr Pb:=by rw [hW];exact (ae.refl _ _).drewN _
              rw [←hW];obtain⟨d0,d1,d2,g1,g2⟩:=om.cells;obtain⟨B6,B2⟩:=dl om (j:=(K:Int)+1) (J:=K+1) oM;have kQ:=Hd (HB.o.keep (bd':=101 - d) (rO.trans B2 (λ_ _ e=>e)) iy (λ J hJ _=>⟨K+1,oM,B6⟩));clear om rO B6 B2 c0 c1 c2 f1 f2 hW;exact Qh
         have WW:((c.toNat:Int)==34)=false:=aw (c:=c) (k:=34) zC;have M3:=Hd (show (c==34)=false from nA.2 zC);clear zC;by_cases lS:c=92
         ·have Tf:((c.toNat:Int)==92)=true:=aE (c:=c) (k:=92) lS
          as_aux_lemma=>
           have sJ:=Hd (show res=iN wh d false raw (match rest s (I+1) with
            | []=>.ok ([cq [92]],[])
            | x::t'=>if x==10 then .ok ([],t') else .ok ([cq [x]],t')) by
            rw [Dh.o,k9,RY.out,M3.out,lS];rfl)
           have ZB:=Hd (show au s I=92 from HC.o.trans lS);clear lS Dh;obtain⟨d0,d1,d2,g1,g2⟩:=sr.o.scan.cells;obtain⟨W5,hW⟩:∃Z:World,Z=(wc.setCell ⟨cs,1,none⟩ (.int .i64 ((I:Int)+1))):=⟨_,rfl⟩;have fc:=Hd (show c9 w W5 cs s (I+1) _ _ by rw [hW];exact sr.o.moved (J:=I+1) oM iy);have uP:=Hd hW;clear hW;obtain⟨J,hJ⟩:∃J,J=I+1:=⟨_,rfl⟩;rw [←hJ] at fc sJ;have Lr:1≤J:=oM
           by_cases eC:J<s.size
           ·have pk:=Hd (show decide (s.size≤J)=false from nV oM);obtain⟨x,hx⟩:∃x,x=au s J:=⟨_,rfl⟩;have HX:=Hd hx.symm;clear hx;go_wp2_with fail;rw [←uP.o];by_cases oz:x=10
            ·have WV:((x.toNat:Int)==10)=true:=aE (c:=x) (k:=10) oz;have Bt:=Hd (show res=iN wh d false raw (.ok ([],rest s (J+1))) by
              rw [sJ.o,ak eC,HX.o,oz];rfl)
             have HJ:=Hd hJ;clear oz d0 d1 d2 g1 g2 hJ;refine (bk cs s J _ _ fc.o.scan).mono ?_;rintro e wy ⟨rfl,q6,rfl⟩;rw [pk.o];obtain⟨W6,hW⟩:∃Z:World,Z=W5.drewN q6:=⟨_,rfl⟩;rw [←hW];have pm:=Hd (show c9 w W6 cs s J (.slice va R0 vc) raw by rw [hW];exact fc.o.drewN _);clear hW;go_wp2_with fail;refine (aR cs s J _ _ pm.o.scan oM oM).mono ?_;rintro e wy ⟨rfl,q7,rfl⟩
             rw [HX.o];obtain⟨W7,hW⟩:∃Z:World,Z=W6.drewN q7:=⟨_,rfl⟩;rw [←hW];have oB:=Hd (show c9 w W7 cs s J (.slice va R0 vc) raw by rw [hW];exact pm.o.drewN _);clear hW;obtain⟨d0,d1,d2,g1,g2⟩:=oB.o.scan.cells;obtain⟨we,hW⟩:∃Z:World,Z=(W7.setCell ⟨cs,1,none⟩ (.int .i64 ((J:Int)+1))):=⟨_,rfl⟩;have zQ:=Hd (show c9 w we cs s (J+1) _ _ by rw [hW];exact oB.o.moved (J:=J+1) oM iy)
             have J7:=Hd hW;clear hW;go_wp2_with fail;rw [←J7.o];go_roundg (s.size+2 - (J+1))
             case measure=>have:=xS.o;have:=HJ.o;omega
             case rel=>have:=HJ.o;exact pQ (l:=[]) (by rw [List.append_nil];exact zQ.o) oM oM (by rw [List.append_nil];omega) Bt.o
            ·have WV:((x.toNat:Int)==10)=false:=aw (c:=x) (k:=10) oz;have sy:=Hd (show (s.extract J (J+1)).data.toList=[x] by
              rw [Lib.extract_data];have h1:s.data.toList.drop J=rest s J:=rfl;rw [h1,ak eC,show J+1 - J=1 by omega,HX.o];rfl)
             have Bt:=Hd (show res=iN wh d false raw (.ok ([cq (s.extract J (J+1)).data.toList],rest s (J+1))) by
              rw [sy.o,sJ.o,ak eC,HX.o];show iN wh d false raw (if x==10 then _ else _)=_;rw [nA.2 oz,nF sI])
             have HJ:=Hd hJ;clear oz d0 d1 d2 g1 g2 hJ;refine (bk cs s J _ _ fc.o.scan).mono ?_;rintro e wy ⟨rfl,q6,rfl⟩;rw [pk.o];obtain⟨W6,hW⟩:∃Z:World,Z=W5.drewN q6:=⟨_,rfl⟩;rw [←hW];have pm:=Hd (show c9 w W6 cs s J (.slice va R0 vc) raw by rw [hW];exact fc.o.drewN _);clear hW;go_wp2_with fail;refine (aR cs s J _ _ pm.o.scan oM oM).mono ?_;rintro e wy ⟨rfl,q7,rfl⟩
             rw [HX.o];obtain⟨W7,hW⟩:∃Z:World,Z=W6.drewN q7:=⟨_,rfl⟩;rw [←hW];have oB:=Hd (show c9 w W7 cs s J (.slice va R0 vc) raw by rw [hW];exact pm.o.drewN _);clear hW;obtain⟨d0,d1,d2,g1,g2⟩:=oB.o.scan.cells;have p1:((J:Int)+1).toNat=J+1:=oM
             have p2:(0:Int)≤(J:Int)+1:=oM
             have p3:(J:Int)≤(J:Int)+1:=oM
             have p4:(J:Int)+1≤(s.size:Int):=oM
             have ew:IntKind.i64.wrap ((J:Int)+1)=(J:Int)+1:=nL _ oM;go_wp2_with fail;go_still_tail 16,kR;change wpList _ _ _ _ _ W7.drew;obtain⟨wd,hW⟩:∃Z:World,Z=W7.drew:=⟨_,rfl⟩;rw [←hW];have sS:c9 w wd cs s (J) (.slice va R0 vc) raw:=by rw [hW];exact oB.o.drew
             have ji:=iX w.heap.size 2 (s.extract J (J+1)) (.slice va R0 vc) raw wd sS.row sS.size oM (.inl rfl);have mn:=Hd ji;have pm:=Hd sS;clear ji sS hW;go_wp2_with fail;refine mn.o.mono ?_;intro e W8 hp;obtain⟨a7,n7,c7,rfl,Lq⟩:=pm.o.put hp iy;have oq:=Hd Lq;clear hp Lq mn pm;obtain⟨d0,d1,d2,g1,g2⟩:=oq.o.scan.cells;obtain⟨we,hW⟩:∃Z:World,Z=(W8.setCell ⟨cs,1,none⟩ (.int .i64 ((J:Int)+1))):=⟨_,rfl⟩
             have zQ:=Hd (show c9 w we cs s (J+1) _ _ by rw [hW];exact oq.o.moved (J:=J+1) oM iy);have J7:=Hd hW;clear hW;go_wp2_with fail;rw [←J7.o];go_roundg (s.size+2 - (J+1))
             case measure=>have:=xS.o;have:=HJ.o;omega
             case rel=>exact pQ zQ.o (by have:=HJ.o;omega) oM (by rw [bv];rw [sy.o];show er raw+(1+1+0)≤_;have:=HJ.o;omega) Bt.o
           ·have pk:=Hd (show decide (s.size≤J)=true from nU oM);go_wp2_with fail;rw [←uP.o];have sy:=Hd (show (s.extract (J - 1) J).data.toList=[92] by
             rw [Lib.extract_data];have h1:s.data.toList.drop (J - 1)=rest s (J - 1):=rfl;rw [h1,show J - 1=I by omega,ak aW,show J - I=1 by omega,ZB.o];rfl)
            have Bt:=Hd (show res=iN wh d false raw (.ok ([cq (s.extract (J - 1) J).data.toList],rest s J)) by
             rw [sy.o,sJ.o,aX oM])
            have HJ:=Hd hJ;have Xf:J≤s.size:=oM
            clear d0 d1 d2 g1 g2 hJ;refine (bk cs s J _ _ fc.o.scan).mono ?_;rintro e wy ⟨rfl,q6,rfl⟩;rw [pk.o];obtain⟨W6,hW⟩:∃Z:World,Z=W5.drewN q6:=⟨_,rfl⟩;rw [←hW];have pm:=Hd (show c9 w W6 cs s J (.slice va R0 vc) raw by rw [hW];exact fc.o.drewN _);clear hW;obtain⟨d0,d1,d2,g1,g2⟩:=pm.o.scan.cells;have p1:((J:Int) - 1).toNat=J - 1:=oM
            have p2:(0:Int)≤(J:Int) - 1:=oM
            have p2':(1:Int)≤(J:Int):=oM
            have p3:(J:Int) - 1≤(J:Int):=oM
            have p4:(J:Int)≤(s.size:Int):=oM
            have ew:IntKind.i64.wrap ((J:Int) - 1)=(J:Int) - 1:=nL _ oM;go_wp2_with fail;go_still_tail 16,kR;change wpList _ _ _ _ _ W6.drew;obtain⟨wd,hW⟩:∃Z:World,Z=W6.drew:=⟨_,rfl⟩;rw [←hW];have sS:c9 w wd cs s (J) (.slice va R0 vc) raw:=by rw [hW];exact pm.o.drew
            have ji:=iX w.heap.size 2 (s.extract (J - 1) J) (.slice va R0 vc) raw wd sS.row sS.size oM (.inl rfl);have mn:=Hd ji;have pm:=Hd sS;clear ji sS hW;go_wp2_with fail;refine mn.o.mono ?_;intro e W8 hp;obtain⟨a7,n7,c7,rfl,Lq⟩:=pm.o.put hp iy;have oq:=Hd Lq;clear hp Lq mn pm;go_wp2_with fail;go_roundg (s.size+2 - J)
            case measure=>have:=xS.o;have:=HJ.o;omega
            case rel=>exact pQ oq.o (by have:=HJ.o;omega) Xf (by rw [bv];rw [sy.o];show er raw+(1+1+0)≤_;have:=HJ.o;omega) Bt.o
         have Tf:((c.toNat:Int)==92)=false:=aw (c:=c) (k:=92) lS;have RZ:=Hd (show (c==92)=false from nA.2 lS);clear lS;by_cases Dc:c=96
         ·have f96:((c.toNat:Int)==96)=true:=aE (c:=c) (k:=96) Dc
          as_aux_lemma=>
           have NH:=Hd (show res=.error 2 by rw [Dh.o,k9,RY.out,M3.out,RZ.out,Dc];rfl);clear Dc Dh;go_wp2_with fail;refine (fl cs s I 0 2 _ sr.o.scan).mono ?_;rintro e Pb ⟨rfl,om,rO⟩;have HB:=Hd (sr.o.fail (x:=2) (bd:=101 - d) dC om rO iy oM oM);clear om rO;go_wp2_with fail;go_roundg 0
           case measure=>have:=xS.o;omega
           case rel=>exact .inr ⟨2,rfl,NH.o,HB.o⟩
         have f96:((c.toNat:Int)==96)=false:=aw (c:=c) (k:=96) Dc;have Ul:=Hd (show (c==96)=false from nA.2 Dc);clear Dc;by_cases Db:c=36
         ·have f36:((c.toNat:Int)==36)=true:=aE (c:=c) (k:=36) Db
          as_aux_lemma=>
           have Bt:=Hd (show res=iN wh d false raw (d7 (.dol false) d (rest s (I+1))) by
            rw [Dh.o,k9,RY.out,M3.out,RZ.out,Ul.out,Db];rfl)
           clear Db Dh;have fi:=DN w.heap.size cs s I d false (.slice va R0 vc) raw wc sr.o.scan aW hs hd sr.o.row iy sr.o.size Zh oM;have dv:=Hd fi;clear fi;go_wp2_with fail;refine dv.o.mono ?_;intro e w6 hp;obtain⟨a,n,cc,g',rfl,AE,e9⟩:=MT sr.o hp aW mI hd (λ l r h=>by have:=cS _ _ _ _ _ _ h;simp only [Md.least,aO] at this;omega) Bt.o
           exact P7
         have f36:((c.toNat:Int)==36)=false:=aw (c:=c) (k:=36) Db;have Yq:=Hd (show (c==36)=false from nA.2 Db);clear Db
         as_aux_lemma=>
          have sy:=Hd (show (s.extract I (I+1)).data.toList=[c] by
           rw [Lib.extract_data];have h1:s.data.toList.drop I=rest s I:=rfl;rw [h1,pp.o,show I+1 - I=1 by omega];rfl)
          have Bt:=Hd (show res=iN wh d false raw (.ok ([dD (s.extract I (I+1)).data.toList],rest s (I+1))) by
           rw [sy.o,Dh.o,k9,RY.out,M3.out,RZ.out,Ul.out,Yq.out];rfl)
          obtain⟨d0,d1,d2,g1,g2⟩:=sr.o.scan.cells;have p1:((I:Int)+1).toNat=I+1:=oM
          have p2:(0:Int)≤(I:Int)+1:=oM
          have p3:(I:Int)≤(I:Int)+1:=oM
          have p4:(I:Int)+1≤(s.size:Int):=oM
          have ew:IntKind.i64.wrap ((I:Int)+1)=(I:Int)+1:=nL _ oM;go_wp2_with fail;go_still_tail 16,kR;change wpList _ _ _ _ _ wc.drew;obtain⟨wd,hW⟩:∃Z:World,Z=wc.drew:=⟨_,rfl⟩;rw [←hW];have sS:c9 w wd cs s (I) (.slice va R0 vc) raw:=by rw [hW];exact sr.o.drew
          have ji:=iX w.heap.size 1 (s.extract I (I+1)) (.slice va R0 vc) raw wd sS.row sS.size oM (.inr ⟨rfl,by rw [sy.o];simp⟩);have mn:=Hd ji;have pm:=Hd sS;clear ji sS hW;go_wp2_with fail;refine mn.o.mono ?_;intro e W8 hp;obtain⟨a7,n7,c7,rfl,Lq⟩:=pm.o.put hp iy;have oq:=Hd Lq;clear hp Lq mn pm;obtain⟨d0,d1,d2,g1,g2⟩:=oq.o.scan.cells;obtain⟨we,hW⟩:∃Z:World,Z=(W8.setCell ⟨cs,1,none⟩ (.int .i64 ((I:Int)+1))):=⟨_,rfl⟩
          have zQ:=Hd (show c9 w we cs s (I+1) _ _ by rw [hW];exact oq.o.moved (J:=I+1) oM iy);have J7:=Hd hW;clear hW;go_wp2_with fail;rw [←J7.o];go_roundg (s.size+2 - (I+1))
          case measure=>have:=xS.o;omega
          case rel=>exact pQ zQ.o oM oM (by rw [bv];rw [sy.o];show er raw+(1+1+0)≤_;omega) Bt.o
   ·have HE:=Hd (show decide (s.size≤I)=true from nU oM);have Fd:=Hd (show res=.ok (raw,rest s I) by
     rw [ay.o,aX oM,qX];show Except.ok (raw++[],[])=_;rw [List.append_nil])
    go_wp2_with fail;refine (bk cs s I _ _ iD.o.scan).mono ?_;rintro e wy ⟨rfl,q1,rfl⟩;rw [HE.o];obtain⟨W1,hW⟩:∃Z:World,Z=wr.drewN q1:=⟨_,rfl⟩;rw [←hW];have sq:=Hd (show c9 w W1 cs s I (.slice va R0 vc) raw by rw [hW];exact iD.o.drewN _);clear hW;go_wp2_with fail;refine (ti w.heap.size _ raw _ sq.o.row sq.o.size oM).mono ?_;rintro e wt ⟨v2,n2,rfl,hp,hk⟩;have HP:=Hd hp
    have cA:=Hd hk;clear hp hk;go_wp2_with fail;go_ret;exact CG sq.o oM Fd.o HP.o cA.o
  ·have HB:=Hd Lt;have HXR:=Hd ag;obtain⟨Hn,I,raw,hI,eY,cv,Zh,_⟩:=Lt;obtain⟨va,R0,vc,rfl⟩:∃(a:OA) (n c:Nat),_=Value.slice a n c:=by obtain⟨a,c,e,_⟩:=cv.shape;exact⟨a,_,c,e⟩
   have b0:((x:Int)==0)=false:=by rw [nA];omega
   have fi:=ti w.heap.size _ raw _ cv (by obtain⟨_,_,_,_,_,_,_,hk⟩:=HB.o;exact hk.size) Zh;have dv:=Hd fi;obtain⟨c0,c1,c2,f1,f2⟩:=eY.cells;clear ag cv eY fi;go_wp2_with fail;refine dv.o.mono ?_;rintro e wt ⟨v2,n2,rfl,hp,hk⟩;have HP:=Hd hp;have cA:=Hd hk;clear hp hk;go_wp2_with fail;go_ret;exact zu HB.o HXR.o HP.o cA.o
end Go.Proofs.YtiihpbccabeoeaaGreatDoor
