/- The walk: a part. -/
import Derived.Test.YtiihpbccabeoeaaGreatDoorVM
import Derived.Test.YtiihpbccabeoeaaGreatDoorVPkR
import Derived.Deep.CutBlock
namespace Go.Proofs.YtiihpbccabeoeaaGreatDoor
open Go.RowKit
set_option linter.unusedVariables false
set_option maxRecDepth 100000
set_option maxHeartbeats 16000000
abbrev l7 (name:ByteArray) (op:ByteArray) (wv:Value) (q:Bool):List Value:=[.int .i64 3,.string ⟨#[]⟩,.string name,.string op,wv,.bool q]
def Zl (L:Bool):ByteArray:=if L then⟨#[76]⟩ else⟨#[]⟩
theorem zK (wh:Bool) (d:Nat) (q:Bool):∀(k:Nat) (r:List UInt8) (l:List Pt) (r1:List UInt8),so wh d q k r=.ok (l,r1)→r1.length≤r.length
 | 0,r,l,r1,h=>by cases h
 | n+1,[],l,r1,h=>by
  unfold so at h;exact Fw
 | n+1,c::t,l,r1,h=>by
  unfold so at h;dsimp only at h;split at h
  ·exact Fw
  ·cases h2:d7 (.one q) d (c::t) with
   | error e=>rw [h2] at h;cases h
   | ok x=>
    obtain⟨l2,r2⟩:=x;rw [h2] at h;obtain⟨m',h3,_⟩:=gY h;have h4:=cS _ _ _ _ _ _ h2;have h5:=zK wh d q n _ _ _ h3;omega
theorem AU {r:List UInt8} (h:lF r≠[]):aP 125 r=false:=by
 cases r with
 | nil=>rfl
 | cons c t=>
  show (c==125)=false;rw [nA];rintro rfl;apply h;unfold lF eO it;simp [List.find?,aI]
theorem EJ (N:Nat) (IH:Dx N):zL (N+1):=by
 intro B cs s i d q v raw w h hi hs hd hr Rm hB hl hN;obtain⟨res,ag⟩:∃res,res=d7 (.brace q) d (rest s i):=⟨_,rfl⟩;rw [←ag];rw [wu,y9] at ag;have uy:=FV hi;obtain⟨L,hL⟩:∃L,L=bu (rest s i):=⟨_,rfl⟩;rw [←hL] at ag uy;obtain⟨j,hj⟩:∃j,j=i+L.toNat:=⟨_,rfl⟩;rw [←hj] at ag uy;obtain⟨k,hk⟩:∃k,k=bQ true (rest s j):=⟨_,rfl⟩;rw [←hk,b8] at ag;have oU:k≤s.size - j:=by rw [hk,←aO];exact iU _ _
 have vR:i≤j:=oM
 obtain⟨va,vc,rfl,_,_⟩:=hr.shape;obtain⟨R0,vN⟩:∃R0,R0=raw.length:=⟨_,rfl⟩;have Hb:=iq raw;rw [←vN] at hr Hb ⊢;obtain⟨i0,fo,fC,fp,fq⟩:=info_parts ef;have yT:=bW;have cK:=Lib.hid h;have l5:=Hd hr;have HL:=Hd hL;have HJ:=Hd hj;have HK:=Hd hk;have re:=Hd vN;have ay:=Hd ag;have L4:=h.lt;clear h hr hL hj hk ag vN;go_enter Tryz.func71,Tryz.ntmps71;go_upto_if 15 with (go_at_call 39;refine (aR cs s i _ _ (cK.o.alloc _) oM oM).mono ?_;rintro e w1 ⟨rfl,q1,rfl⟩)
 go_cut [] from 10 to 46 (λ wx=>ah wx cs s j ((0:Nat):Int)∧af wx w.heap.size (l7 ⟨#[]⟩ (Zl L) (.slice none 0 0) q)∧ae (λ b=>b=cs) w wx)
 case first=>
  obtain⟨W1,tM⟩:∃W1,W1=(w.alloc (.cells #[.int .i64 3,eS,eS,eS,(),q] 67)).drewN q1:=⟨_,rfl⟩;rw [←tM];have dL:ah W1 cs s i ((0:Nat):Int):=by rw [tM];exact (cK.o.alloc _).drewN _
  have pC:af W1 w.heap.size (l7 ⟨#[]⟩ ⟨#[]⟩ (.slice none 0 0) q):=by rw [tM];exact (show af (w.alloc _) w.heap.size _ from⟨_,nG w _⟩).keep (S:=λ_=>False) ((ae.refl _ _).drewN _) (λ h=>h)
  have dp:=Hd (show ae (λ b=>b=cs) w W1 by rw [tM];exact ((ae.refl _ _).alloc _).drewN _);have ot:=Hd pC;obtain⟨pb,qD⟩:∃pb,pb=w.heap.size:=⟨_,rfl⟩;rw [←qD] at ot;rw [←qD];have xV:=Hd qD;have cM:cs≠pb:=oM
  clear tM pC qD;obtain⟨c,hc⟩:∃c,c=au s i:=⟨_,rfl⟩;have HC:=Hd hc.symm;clear hc;by_cases EX:c=35
  ·have YQ:((c.toNat:Int)==35)=true:=aE (c:=c) (k:=35) EX;have aW:i<s.size:=by
    rcases nP i s.size with h | h
    ·exact h
    ·have h0:c=0:=by
      rw [←HC.o];unfold au;exact vy
     rw [h0] at EX;exact nQ EX dC
   have hLv:L=(!aP 125 (rest s (i+1)) && (lF (rest s (i+1))).isEmpty):=by
    rw [HL.o];unfold bu;rw [ak aW,HC.o,EX];rfl
   obtain⟨x,hx⟩:∃x,x=au s (i+1):=⟨_,rfl⟩;have HX:=Hd hx.symm;have Nj:aP 125 (rest s (i+1))=(x==125):=by
    rw [hx];rcases nP (i+1) s.size with h | h
    ·rw [ak h];rfl
    ·rw [aX h];unfold au;exact vy
   rw [Nj] at hLv;have ZS:=Hd hLv;rw [HC.o];clear EX hLv hx Nj;obtain⟨d0,d1,d2,g1,g2⟩:=dL.cells;obtain⟨w2,aQ,cj,aS⟩:=eb dL ((i:Int)+1);go_wp2_with fail;rw [←aQ];refine (F9 cs s (i+1) _ _ cj oM).mono ?_;rintro e w3 ⟨O,rfl,hO,d6,aV⟩;have HO:=Hd hO;obtain⟨e0,e1,e2,g3,g4⟩:=d6.cells;obtain⟨w4,fU,dR,be⟩:=eb d6 ((i:Int)+1 - 1);have eU:=Hd (((dp.o.trans aS (λ_ _ e=>e)).trans aV (λ_ _ e=>e.elim)).trans be (λ_ _ e=>e))
   have tq:=Hd (((ot.o.keep aS (λ e=>cM e.symm)).keep aV (λ e=>e)).keep be (λ e=>cM e.symm));have TD:ah w4 cs s (i:Int) ((0:Nat):Int):=by rw [show (i:Int)+1 - 1=(i:Int) by omega] at dR;exact dR
   rw [show (i:Int)+1 - 1=(i:Int) by omega] at fU;clear aQ cj aS aV be hO dR;go_wp2_with fail;rw [←fU];clear fU e0 e1 e2 g3 g4 d0 d1 d2 g1 g2 d6;refine (b9 cs s i _ _ TD oM oM).mono ?_;rintro e w5 ⟨rfl,q5,rfl⟩;rw [HX.o];obtain⟨w5,jk⟩:∃w5,w5=w4.drewN q5:=⟨_,rfl⟩;rw [←jk];have dV:ah w5 cs s i ((0:Nat):Int):=by rw [jk];exact TD.drewN _
   have fL:=Hd (show ae (λ b=>b=cs) w w5 by rw [jk];exact eU.o.drewN _);have I6:=Hd (show af w5 pb (l7 ⟨#[]⟩ ⟨#[]⟩ (.slice none 0 0) q) by rw [jk];exact tq.o.keep (S:=λ_=>False) ((ae.refl _ _).drewN _) (λ h=>h));clear jk TD;by_cases tx:x=125
   ·have fx:((x.toNat:Int) != 125)=false:=by rw [bne,show ((x.toNat:Int)==125)=true from aE (c:=x) (k:=125) tx];rfl
    have Ur:=Hd (show L=false by rw [ZS.o,tx];rfl);clear tx;exact PY
   ·have fx:((x.toNat:Int) != 125)=true:=by rw [bne,show ((x.toNat:Int)==125)=false from aw (c:=x) (k:=125) tx];rfl
    by_cases tO:O.data.toList=[]
    ·obtain⟨u1,u2⟩:=eN tO;have HLT:=Hd (show L=true by rw [ZS.o,nA.2 tx,←HO.o,tO];rfl);clear tx tO;obtain⟨d0,d1,d2,g1,g2⟩:=dV.cells;obtain⟨w6,im,lM,cu⟩:=eb dV ((i:Int)+1);have pU:=I6.o.keep cu (λ e=>cM e.symm);obtain⟨w7,Ca,LJ,UV,i5⟩:=dh lM pU cM 3 (.string ⟨#[76]⟩);obtain⟨b0,_,_,b3,b4,b5⟩:=pU.six.1;obtain⟨⟨r0,r1,r2,r3,r4,r5⟩,z0,z1,z2,z3,z4⟩:=I6.o.six
     have Bi:=Hd LJ;have C4:=Hd UV;have YI:=Hd Ca;have C1:=Hd ((fL.o.trans cu (λ_ _ e=>e)).trans i5 (λ b hb e=>by have:=xV.o;omega));have Nb:=Hd im;clear im Ca lM LJ pU UV cu i5 b0 b3 b4 b5;go_wp2_with fail;rw [←Nb.o,←YI.o];have qD:=xV.o;subst qD;go_meet
     case rel=>exact⟨by rw [HJ.o,HLT.o];exact Bi.o,by rw [HLT.o];exact C4.o,C1.o⟩
    ·obtain⟨u1,u2⟩:=fd tO;have Ur:=Hd (show L=false by
      rw [ZS.o,←HO.o];cases h:O.data.toList with
      | nil=>exact nQ h tO
      | cons a b=>simp)
     clear tx tO;exact PY
  ·have YQ:((c.toNat:Int)==35)=false:=aw (c:=c) (k:=35) EX;have Ur:=Hd (show L=false by
    rw [HL.o];unfold bu;rcases nP i s.size with h | h
    ·rw [ak h,HC.o];show ((c==35) && _ && _)=false;rw [nA.2 EX];rfl
    ·rw [aX h];rfl)
   rw [HC.o];clear EX;go_wp2_with fail;have qD:=xV.o;subst qD;go_meet
   case rel=>exact⟨by rw [HJ.o,Ur.o];exact dL,by rw [Ur.o];exact ot.o,dp.o⟩
 case rest=>
  obtain⟨dL,pC,bt⟩:=hcut;obtain⟨pb,qD⟩:∃pb,pb=w.heap.size:=⟨_,rfl⟩;rw [←qD] at pC ⊢;have xV:=Hd qD;have cM:cs≠pb:=oM
  have dF:=Hd dL;have ot:=Hd pC;have dp:=Hd bt;clear dL pC bt qD;go_wp2_with fail;refine (IA cs s j _ _ dF.o oM uy k HK.o.symm).mono ?_;rintro e w2 ⟨R,rfl,hR,cj,aS⟩;have dU:=ot.o.keep aS (λ e=>cM e.symm);have qj:=Hd (dp.o.trans aS (λ_ _ e=>e));obtain⟨w3,kh,d6,hr3,aV⟩:=dh cj dU cM 2 (.string R);obtain⟨⟨r0,r1,r2,r3,r4,r5⟩,z0,z1,z2,z3,z4⟩:=dU.six
  have JX:=Hd hR;have eF:=Hd d6;have eV:=Hd (show af w3 pb (l7 R (Zl L) (.slice none 0 0) q) from hr3);have YH:=Hd kh;have xT:=Hd (qj.o.trans aV (λ b hb e=>by have:=xV.o;omega));have FK:R.data.toList.length=k:=by rw [hR,List.length_take,aO];omega
  have gG:=Hd FK;clear hR cj aS dU kh d6 hr3 aV FK;rcases Nat.eq_zero_or_pos k with dt | dt
  ·have UJ:R.data.toList=[]:=nO (by rw [gG.o];exact dt);obtain⟨u1,u2⟩:=eN UJ;have pk:=Hd (show res=.error 2 by rw [ay.o,nE dt]);clear UJ;go_wp2_with fail;rw [←YH.o];refine (fl cs s (j+k) 0 2 _ eF.o).mono ?_;rintro e w4 ⟨rfl,dR,be⟩;have iG:=Hd dR;have eU:=Hd (xT.o.trans be (λ_ _ e=>e));clear dR be;go_wp2_with fail;go_ret;rw [pk.o]
   exact⟨dC,_,j+k,raw,rfl,oM,iG.o,l5.o.keep eU.o (λ_ _ e=>oM),oM,eU.o.mono λ_ _ e=>.inl e⟩
  obtain⟨u1,u2⟩:=fd (s:=R) (by intro h;rw [h] at gG;have:=gG.o;simp at this;omega);have cJ:=Hd (show res=_ by rw [ay.o,nF oM]);go_wp2_with fail;rw [←YH.o];refine (bk cs s (j+k) _ _ eF.o).mono ?_;rintro e w4 ⟨rfl,q4,rfl⟩;obtain⟨W4,gL⟩:∃W4,W4=w3.drewN q4:=⟨_,rfl⟩;rw [←gL];have dR:ah W4 cs s ((j+k:Nat):Int) ((0:Nat):Int):=by rw [gL];exact eF.o.drewN _
  have eU:=Hd (show ae (λ b=>b=cs) w W4 by rw [gL];exact xT.o.drewN _);have qb:af W4 pb (l7 R (Zl L) (.slice none 0 0) q):=by rw [gL];exact eV.o.keep (S:=λ_=>False) ((ae.refl _ _).drewN _) (λ h=>h)
  have iG:=Hd dR;have tq:=Hd qb;obtain⟨P,hP⟩:∃P,P=Zl L:=⟨_,rfl⟩;rw [←hP] at tq qb;have HP:=Hd hP;clear hP gL r0 r1 r2 r3 r4 r5 z0 z1 z2 z3 z4;by_cases lv:s.size≤j+k
  ·have ZY:=Hd (show decide (s.size≤j+k)=true from nU lv);have pk:=Hd (show res=.error 2 by
    rw [cJ.o,aX lv];rfl)
   rw [ZY.o];go_wp2_with fail;refine (fl cs s (j+k) 0 2 _ iG.o).mono ?_;rintro e w5 ⟨rfl,dV,bi⟩;have l6:=Hd dV;have fL:=Hd (eU.o.trans bi (λ_ _ e=>e));clear dV bi;go_wp2_with fail;go_ret;rw [pk.o];exact⟨dC,_,j+k,raw,rfl,oM,l6.o,l5.o.keep fL.o (λ_ _ e=>oM),oM,fL.o.mono λ_ _ e=>.inl e⟩
  have aW:j+k<s.size:=oM
  have ZY:=Hd (show decide (s.size≤j+k)=false from nV oM);rw [ZY.o];obtain⟨⟨r0,r1,r2,r3,r4,r5⟩,z0,z1,z2,z3,z4⟩:=qb.six;clear dR qb;go_upto_if 62 with fail;go_cut [] from 57 to 90 (λ wx=>∃(I n SU:Nat) (O:ByteArray) (wd:List Pt) (xv:Value),ah wx cs s I (SU:Int)∧af wx pb (l7 R O xv q)∧az wx (λ b=>w.heap.size≤b) n wd xv∧ae (λ b=>b=cs) w wx∧((SU=0∧j+k≤I∧I≤s.size∧res=if aP 125 (rest s I) then .ok ([.mk 3 [] ((rest s j).take k) O.data.toList wd q],rest s (I+1)) else .error 2)∨(SU≠0∧I≤s.size+(100 - d)∧res=.error SU)))
  case first=>
   cases L with
   | true=>
    obtain⟨u4,u3⟩:=fd (s:=P) (by rw [HP.o];decide);rw [u4];have pZ:=Hd (show res=if aP 125 (rest s (j+k)) then .ok ([.mk 3 [] ((rest s j).take k) P.data.toList [] q],rest s (j+k+1)) else .error 2 by
     rw [cJ.o,fW,Bool.or_true,HP.o];rfl)
    go_wp2_with fail;go_meet
    case rel=>exact⟨j+k,0,0,P,[],_,iG.o,tq.o,az.nil _ _ 0,eU.o,.inl ⟨rfl,nC _,oM,pZ.o⟩⟩
   | false=>
    obtain⟨u4,u3⟩:=eN (s:=P) (by rw [HP.o];rfl);rw [u4];go_wp2_with fail;refine (F9 cs s (j+k) _ _ iG.o oM).mono ?_;rintro e w5 ⟨O,rfl,hO,dV,bi⟩;have lD:=tq.o.keep bi (λ e=>e);have JS:=Hd (eU.o.trans bi (λ_ _ e=>e.elim));obtain⟨w6,im,lM,pU,cu⟩:=dh dV lD cM 3 (.string O);clear r0 r1 r2 r3 r4 r5 z0 z1 z2 z3 z4;obtain⟨⟨r0,r1,r2,r3,r4,r5⟩,z0,z1,z2,z3,z4⟩:=lD.six
    have kt:=Hd hO;have xW:=Hd lM;have Pp:=Hd (show af w6 pb (l7 R O (.slice none 0 0) q) from pU);have Nb:=Hd im;have Vj:=Hd (JS.o.trans cu (λ b hb e=>by have:=xV.o;omega));have acD:O.data.toList.length≤s.size - (j+k):=by rw [hO,←aO];exact Er _
    clear hO dV bi lD im lM pU cu;by_cases Rl:O.data.toList=[]
    ·obtain⟨u5,u6⟩:=eN Rl;have pZ:=Hd (show res=if aP 125 (rest s (j+k)) then .ok ([.mk 3 [] ((rest s j).take k) O.data.toList [] q],rest s (j+k+1)) else .error 2 by
      rw [cJ.o,fW,←kt.o,Rl];rfl)
     clear Rl;go_wp2_with fail;rw [←Nb.o];have qD:=xV.o;go_meet
     case rel=>exact⟨j+k,0,0,O,[],_,xW.o,Pp.o,az.nil _ _ 0,Vj.o,.inl ⟨rfl,nC _,oM,pZ.o⟩⟩
    ·obtain⟨u5,u6⟩:=fd Rl;have Xh:0<O.data.toList.length:=List.length_pos_iff.2 Rl;have HOZ:=Hd (nT O);have Lp:aP 125 (rest s (j+k))=false:=AU (by rw [←kt.o];exact Rl);obtain⟨J,hJ⟩:∃J,J=j+k+O.size:=⟨_,rfl⟩;have pZ:=Hd (show res=if d=40 then .error 3 else match d7 (.br q) (d+1) (rest s J) with
      | .error e=>.error e
      | .ok (l,r3)=>.ok ([.mk 3 [] ((rest s j).take k) O.data.toList (eh l) q],r3) by
      rw [cJ.o,Lp,←kt.o];simp only [Bool.false_eq_true,if_false,Bool.or_false];rw [nF (by simpa using Rl),b8,←HOZ.o,hJ];rfl)
     have aa0:O.size=O.data.toList.length:=HOZ.o;have Xf:J≤s.size:=oM
     have hJI:j+k<J:=oM
     have ew:((j+k:Nat):Int)+(O.size:Int)=(J:Int):=oM
     have HJJ:=Hd hJ;have HEW:=Hd ew;clear Rl Lp Xh hJ aa0 ew;go_wp2_with fail;rw [←Nb.o];clear r0 r1 r2 r3 r4 r5 z0 z1 z2 z3 z4;obtain⟨⟨r0,r1,r2,r3,r4,r5⟩,z0,z1,z2,z3,z4⟩:=Pp.o.six;obtain⟨c0,c1,c2,f1,f2⟩:=xW.o.cells;have lt6:=xW.o.lt;have abT:=Pp.o.lt;go_region;have gU:wrap64 ((j:Int)+(k:Int)+(O.size:Int))=(J:Int):=(IntWalk.wrap64_in _ (by have:=HJJ.o;omega)).trans (by have:=HJJ.o;omega)
     rw [gU];obtain⟨w7,Ca⟩:∃w7,w7=(w6.setCell ⟨cs,1,none⟩ (.int .i64 (J:Int))).drew:=⟨_,rfl⟩;rw [←Ca];obtain⟨X0,XE⟩:=dl xW.o (j:=(J:Int)) (J:=J) rfl;have LJ:ah w7 cs s J ((0:Nat):Int):=by rw [Ca];exact X0.keep (S:=λ_=>False) (ae.refl _ _).drew (λ h=>h)
     have i5:ae (λ b=>b=cs) w6 w7:=by rw [Ca];exact XE.drew
     have C4:=Hd (Pp.o.keep i5 (λ e=>cM e.symm));have Gq:=Hd (Vj.o.trans i5 (λ_ _ e=>e));have Bi:=Hd LJ;clear r0 r1 r2 r3 r4 r5 z0 z1 z2 z3 z4 c0 c1 c2 f1 f2 gU Ca X0 XE LJ i5;by_cases tK:d=40
     ·have HE3:=Hd (show res=.error 3 by rw [pZ.o,nE tK]);have Zm:(40:Int)≤(d:Int):=oM
      clear tK;go_wp2_with fail;refine (fl cs s J 0 3 _ Bi.o).mono ?_;rintro e w8 ⟨rfl,C9,lz⟩;have HS8:=Hd C9;have Up:=Hd (Gq.o.trans lz (λ_ _ e=>e));clear C9 lz;go_wp2_with fail;go_ret;rw [HE3.o];exact⟨dC,_,J,raw,rfl,oM,HS8.o,l5.o.keep Up.o (λ_ _ e=>oM),oM,Up.o.mono λ_ _ e=>.inl e⟩
     ·have Zm:¬(40:Int)≤(d:Int):=oM
      have VA:=Hd (show res=_ by rw [pZ.o,nF tK]);obtain⟨jD,qz⟩:=Ft (d+1) q oM (rest s J).length (rest s J) (nC _);have fi:=IH cs s J (d+1) true q w7 Bi.o Xf hs oM (by have:=Gq.o.size;omega) oM;rw [show ((d+1:Nat):Int)=(d:Int)+1 from oM] at fi;have dv:=Hd fi;have sp:=Hd jD;have kQ:=Hd qz;clear tK fi jD qz;go_wp2_with fail
      refine dv.o.mono ?_;intro e w8 hp;cases Jo:fJ true (d+1) q (rest s J) with
      | error x=>
       rw [Jo] at hp;obtain⟨Hn,v,n,I,l,he,hI,C9,Ow,lz⟩:=hp;obtain⟨xa,xc,rfl,_,_⟩:=Ow.shape;subst he;have bO:=Hd (show res=.error x by rw [VA.o,sp.o,Jo]);obtain⟨xl,sE⟩:∃xl,xl=l.length:=⟨_,rfl⟩;rw [←sE] at Ow ⊢;have Eh:=C4.o.keep lz (λ e=>cM e.symm);have abS:=C4.o.lt;obtain⟨w9,xN,B7,Rz,iQ⟩:=dh C9 Eh cM 4 (.slice xa xl xc);obtain⟨⟨r0,r1,r2,r3,r4,r5⟩,z0,z1,z2,z3,z4⟩:=Eh.six
       have Gt:=Hd B7;have Vs:=Hd (show af w9 pb (l7 R O (.slice xa xl xc) q) from Rz);have SF:=Hd xN;have Sf:=Hd ((Gq.o.trans lz (λ_ _ e=>e)).trans iQ (λ b hb e=>by have:=xV.o;omega));have Vq:=Hd (show az w9 (λ b=>w.heap.size≤b) n l (.slice xa xl xc) from (Ow.keep iQ (λ b hb h e=>oM)).mono (λ b hb h=>by have:=Gq.o.size;omega));clear C9 Ow lz xN B7 Rz iQ sE Eh
       go_wp2_with fail;rw [←SF.o];go_meet
       case rel=>exact⟨I,n,x,O,l,_,Gt.o,Vs.o,Vq.o,Sf.o,.inr ⟨Hn,oM,bO.o⟩⟩
      | ok lr=>
       obtain⟨l,r1⟩:=lr;rw [Jo] at hp;obtain⟨v,n,I,he,hI,Eh,C9,Ow,lz⟩:=hp;obtain⟨xa,xc,rfl,_,_⟩:=Ow.shape;subst he;have aaZ:j+k≤I:=by
        have h1:=zK _ _ _ _ _ _ _ Jo;rw [←Eh,aO,aO] at h1;omega
       have bO:=Hd (show res=if aP 125 (rest s I) then .ok ([.mk 3 [] ((rest s j).take k) O.data.toList (eh l) q],rest s (I+1)) else .error 2 by
        rw [VA.o,sp.o,Jo];dsimp only;cases pC:r1 with
        | nil=>rw [Eh,pC];rfl
        | cons c t=>
         have hc:=kQ.o l c t (by rw [Jo,pC]);rw [Eh,pC,hc];have ht:rest s (I+1)=t:=by rw [←fW,Eh,pC];rfl
         rw [ht];rfl)
       obtain⟨xl,sE⟩:∃xl,xl=(eh l).length:=⟨_,rfl⟩;rw [←sE] at Ow ⊢;have Tz:=C4.o.keep lz (λ e=>cM e.symm);have abS:=C4.o.lt;obtain⟨w9,xN,B7,Rz,iQ⟩:=dh C9 Tz cM 4 (.slice xa xl xc);obtain⟨⟨r0,r1x,r2,r3,r4,r5⟩,z0,z1,z2,z3,z4⟩:=Tz.six;have Gt:=Hd B7;have Vs:=Hd (show af w9 pb (l7 R O (.slice xa xl xc) q) from Rz);have SF:=Hd xN;have Sf:=Hd ((Gq.o.trans lz (λ_ _ e=>e)).trans iQ (λ b hb e=>by have:=xV.o;omega))
       have Vq:=Hd (show az w9 (λ b=>w.heap.size≤b) n (eh l) (.slice xa xl xc) from (Ow.keep iQ (λ b hb h e=>oM)).mono (λ b hb h=>by have:=Gq.o.size;omega));clear C9 Ow lz xN B7 Rz iQ sE Tz;go_wp2_with fail;rw [←SF.o];go_meet
       case rel=>exact⟨I,n,0,O,eh l,_,Gt.o,Vs.o,Vq.o,Sf.o,.inl ⟨rfl,aaZ,hI,bO.o⟩⟩
  case rest=>
   obtain⟨I,n,SU,O,wd,xv,dL,pC,FP,bt,cm⟩:=hcut;obtain⟨xa,xc,rfl,_,_⟩:=FP.shape;obtain⟨xl,sE⟩:∃xl,xl=wd.length:=⟨_,rfl⟩;rw [←sE] at FP pC;have Ng:I≤s.size+100:=by rcases cm with ⟨_,_,h,_⟩ | ⟨_,h,_⟩<;>omega
   obtain⟨c,hc⟩:∃c,c=au s I:=⟨_,rfl⟩;have HC:=Hd hc.symm;have HH:=Hd (show aP 125 (rest s I)=(c==125) by
    rw [hc];rcases nP I s.size with h | h
    ·rw [ak h];rfl
    ·rw [aX h];unfold au;rw [List.getD_eq_getElem?_getD,List.getElem?_eq_none (by rw [←nT];omega)];rfl)
   have gR:=Hd cm;have HS:=Hd dL;have HR:=Hd pC;have HP:=Hd FP;have Yx:=Hd bt;clear hc cm dL pC FP bt sE r0 r1 r2 r3 r4 r5 z0 z1 z2 z3 z4;go_wp2_with fail;refine (aR cs s I _ _ HS.o oM oM).mono ?_;rintro e w5 ⟨rfl,q5,rfl⟩;rw [HC.o];obtain⟨W,hW⟩:∃W,W=wc.drewN q5:=⟨_,rfl⟩;rw [←hW];have oo:ah W cs s I (SU:Int):=by rw [hW];exact HS.o.drewN _
   have NE:=Hd (show af W pb (l7 R O (.slice xa xl xc) q) by rw [hW];exact HR.o.keep (S:=λ_=>False) ((ae.refl _ _).drewN _) (λ h=>h));have Z3:=Hd (show az W (λ b=>w.heap.size≤b) n wd (.slice xa xl xc) by rw [hW];exact HP.o.keep (S:=λ_=>False) ((ae.refl _ _).drewN _) (λ_ _ _ h=>h));have dO:=Hd (show ae (λ b=>b=cs) w W by rw [hW];exact Yx.o.drewN _);clear hW
   by_cases qT:c=125
   ·have fx:((c.toNat:Int) != 125)=false:=by rw [bne,show ((c.toNat:Int)==125)=true from aE (c:=c) (k:=125) qT];rfl
    have hIs:I<s.size:=by
     rcases nP I s.size with h | h
     ·exact h
     ·have h0:c=0:=by
       rw [←HC.o];unfold au;exact vy
      rw [h0] at qT;exact nQ qT dC
    have HHT:=Hd (show aP 125 (rest s I)=true by rw [HH.o,qT];rfl);obtain⟨c0,c1,c2,f1,f2⟩:=oo.cells;have ltW:=oo.lt;have abT:=NE.o.lt;obtain⟨dR,be⟩:=dl oo (j:=(I:Int)+1) (J:=I+1) oM;have qb:=NE.o.keep be (λ e=>cM e.symm);have eU:=Hd (dO.o.trans be (λ_ _ e=>e));have Xc:B≤(W.setCell ⟨cs,1,none⟩ (.int .i64 ((I:Int)+1))).heap.size:=nY hB eU.o.size
    have Bk:=l5.o.keep eU.o (λ_ _ e=>oM);have xM:az (W.setCell ⟨cs,1,none⟩ (.int .i64 ((I:Int)+1))) (λ b=>B≤b∧(Value.slice va R0 vc).ownBlock≠some b) n wd (.slice xa xl xc):=(Z3.o.keep be (λ b hb h e=>oM)).mono (λ b hb h=>⟨oM,λ e=>by have:=l5.o.1.lt e;omega⟩);obtain⟨xs,aU,hF⟩:=Bk.more (x:=.mk 3 [] ((rest s j).take k) O.data.toList wd q) Xc (ae.refl _ _) xM
    have e1:dj ((rest s j).take k)=.string R:=jH JX.o;have e2:dj O.data.toList=.string O:=jH rfl;simp only [cH,Pt.kind,Pt.text,Pt.name,Pt.op,Pt.quoted,e1,e2] at hF;have HF:=Hd hF;have iG:=Hd dR;rw [←re.o] at aU HF;obtain⟨⟨r0,r1,r2,r3,r4,r5⟩,z0,z1,z2,z3,z4⟩:=NE.o.six;have acE:R0≤1000000:=oM
    have sG:(W.setCell ⟨cs,1,none⟩ (.int .i64 ((I:Int)+1))).heap.size=W.heap.size:=wC
    have qz:=nG (W.setCell ⟨cs,1,none⟩ (.int .i64 ((I:Int)+1))) (.cells #[.int .i64 3,eS,R,O,.slice xa xl xc,q] 67);rw [sG] at qz;have kQ:=Hd qz;clear qT dR be qb Bk xM hF e1 e2 qz sG;go_wp2_with (at_builtin;refine nR _ rfl (.tmp 104) (.tmp 106) _ rfl 0 67 i0 _ 6 88 Tryz.underlying29 fo fC fp fq rfl oM (.slice va R0 vc) R0 xs rfl (aU.alloc _) ⟨W.heap.size,0,none⟩ 1 1 [.int .i64 3,eS,R,O,.slice xa xl xc,q] rfl rfl (nK (cs:=#[.int .i64 3,.string ⟨#[]⟩,.string R,.string O,.slice xa xl xc,.bool q]) (t:=67) (fr:=(0,0)) kQ.o) oC oM uM oM sI (W.heap.size+1) wC ?_;intro gg aC w5 aK ao bf eC)
    go_ret;obtain⟨cv,eP⟩:=HF.o gg aC w5 _ aK ao (by simpa [World.setCell] using bf);rcases gR.o with ⟨rfl,_,_,ag⟩ | ⟨Y5,_,ag⟩
    ·rw [ag,HHT.o];exact⟨_,I+1,rfl,oM,rfl,iG.o.keep eP (λ e=>oM),cv,by rw [bv];simp only [er,Pt.text,lN];omega,(eU.o.mono λ_ _ e=>.inl e).trans eP (λ_ _ e=>.inr e)⟩
    ·rw [ag];exact⟨Y5,_,I+1,_,rfl,oM,iG.o.keep eP (λ e=>oM),cv,by rw [bv];simp only [er,Pt.text,lN];omega,(eU.o.mono λ_ _ e=>.inl e).trans eP (λ_ _ e=>.inr e)⟩
   ·have fx:((c.toNat:Int) != 125)=true:=by rw [bne,show ((c.toNat:Int)==125)=false from aw (c:=c) (k:=125) qT];rfl
    have HHF:=Hd (show aP 125 (rest s I)=false by rw [HH.o];exact nA.2 qT);clear qT;go_wp2_with fail;refine (fl cs s I SU 2 _ oo).mono ?_;rintro e w6 ⟨rfl,lM,cu⟩;have xW:=Hd lM;have st:=Hd (dO.o.trans cu (λ_ _ e=>e));clear lM cu;go_wp2_with fail;go_ret;rcases gR.o with ⟨rfl,_,Jb,ag⟩ | ⟨Y5,Jb,ag⟩
    ·rw [ag,HHF.o];exact⟨dC,_,I,raw,rfl,oM,xW.o,l5.o.keep st.o (λ_ _ e=>oM),oM,st.o.mono λ_ _ e=>.inl e⟩
    ·rw [ag];have lM:=xW.o;rw [nF Y5] at lM;exact⟨Y5,_,I,raw,rfl,Jb,lM,l5.o.keep st.o (λ_ _ e=>oM),oM,st.o.mono λ_ _ e=>.inl e⟩
theorem oH.from {w w1 w':World} {B cs bd:Nat} {s:ByteArray} {raw:List Pt} {res:mH} {e:Ending} (h:oH w1 B cs s bd raw res e w') (hk:ae (λ b=>b=cs) w w1):∃(a:OA) (n c:Nat),e=.returned (.slice a n c)∧oH w B cs s bd raw res (.returned (.slice a n c)) w':=by
 cases res with
 | error x=>
  obtain⟨h0,v,i,uO,he,h1,h2,h3,h4,h5⟩:=h;obtain⟨a,c,rfl,_,_⟩:=h3.shape;exact⟨a,_,c,he,h0,_,i,uO,rfl,h1,h2,h3,h4,(hk.mono λ_ _ e=>.inl e).trans h5 λ_ _ e=>e⟩
 | ok lr=>
  obtain⟨l,r⟩:=lr;obtain⟨v,i,he,h1,h2,h3,h4,h5,h6⟩:=h;obtain⟨a,c,rfl,_,_⟩:=h4.shape;exact⟨a,_,c,he,_,i,rfl,h1,h2,h3,h4,h5,(hk.mono λ_ _ e=>.inl e).trans h6 λ_ _ e=>e⟩
theorem ub (N:Nat) (IH:zL N):JG N:=by
 intro B cs s I d q v raw w h hI hs hd hr Rm hB hl hN;obtain⟨res,ag⟩:∃res,res=d7 (.dol q) d (rest s (I+1)):=⟨_,rfl⟩;rw [←ag];rw [Ce,fW] at ag;obtain⟨va,vc,rfl,_,_⟩:=hr.shape;obtain⟨R0,vN⟩:∃R0,R0=raw.length:=⟨_,rfl⟩;have Hb:=iq raw;rw [←vN] at hr Hb ⊢;obtain⟨i0,fo,fC,fp,fq⟩:=info_parts ef;have yT:=bW;have L4:=h.lt;obtain⟨c0,c1,c2,f1,f2⟩:=h.cells;obtain⟨w1,dM,dL,bt⟩:=eb h ((I:Int)+1)
 have I8:=Hd dM;have dF:=Hd (show ah w1 cs s ((I+1:Nat):Int) ((0:Nat):Int) from dL);have dp:=Hd bt;have l5:=Hd hr;have re:=Hd vN;have ay:=Hd ag;obtain⟨c,hc⟩:∃c,c=au s (I+1):=⟨_,rfl⟩;have HC:=Hd hc.symm;obtain⟨K,hK⟩:∃K,K=cU (rest s (I+1)):=⟨_,rfl⟩;have mK:=Hd hK.symm;have hKl:K≤s.size - (I+1):=by rw [hK,←aO];exact Gb _
 have zR:=Hd (show ∀k:UInt8,k≠0→aP k (rest s (I+1))=(c==k) from λ k hk=>by
  rw [hc];rcases nP (I+1) s.size with h | h
  ·rw [ak h];rfl
  ·rw [aX h];unfold au;rw [List.getD_eq_getElem?_getD,List.getElem?_eq_none (by rw [←nT];omega)];exact (nA.2 (λ e=>hk e.symm)).symm)
 have JU:=Hd (show bQ false (rest s (I+1))=if K > 0 then K else if bR c then 1 else if cV c then 1 else 0 by
  unfold bQ;rw [←hK];split
  ·rfl
  ·rcases nP (I+1) s.size with h | h
   ·rw [ak h,←hc];rfl
   ·rw [aX h];have h0:c=0:=by
     rw [hc];unfold au;exact vy
    rw [h0];rfl)
 have VB:=Hd (show 0<K→bG c=true from λ fa=>by
  rw [hc];rcases nP (I+1) s.size with h | h
  ·rw [hK,ak h,tj] at fa;cases hl2:bG (au s (I+1)) with
   | true=>rfl
   | false=>rw [hl2] at fa;simp at fa
  ·rw [hK,aX h] at fa;exact nQ fa dC)
 have I4:=Hd (show c≠0→I+1<s.size from λ hc0=>by
  rcases nP (I+1) s.size with h | h
  ·exact h
  ·exfalso;apply hc0;rw [hc];unfold au;rw [List.getD_eq_getElem?_getD,List.getElem?_eq_none (by rw [←nT];omega)];rfl)
 have Pw:=Hd (show (bG c || bR c || cV c)=true→∀k,k=bQ false (rest s (I+1))→k≠0→res=.ok ([.mk 3 [] ((rest s (I+1)).take k) [] [] q],(rest s (I+1)).drop k) from λ mj k hk dt=>by
  have Rn:=Kg (P:=λ c=>!(bG c || bR c || cV c) || (!(c==123) && !(c==40))) (by decide +kernel) c;rw [mj] at Rn;simp only [Bool.not_true,Bool.false_or,nW,Bool.not_eq_true'] at Rn;rw [ay.o,zR.o 123 dC,Rn.1,nF sI,nF,zR.o 40 dC,Rn.2,nF sI,←hk,nF dt];intro h2;have h3:aP 40 (rest s (I+1))=true:=by
   cases dU:rest s (I+1) with
   | nil=>rw [dU] at h2;cases h2
   | cons a b=>
    rw [dU] at h2;unfold aI at h2;simp only [nW,nH] at h2;rw [←h2.1];rfl
  rw [zR.o 40 dC,Rn.2] at h3;cases h3)
 clear h hr ag vN dM dL bt hc hK;by_cases fa:0<K
 ·have SC:=Hd (Pw.o (by rw [VB.o fa];rfl) K (by rw [JU.o,nE fa]) oM);have p1:(0:Int)<(K:Int):=oM
  have p2:(I:Int)+1+(K:Int)≤(s.size:Int):=oM
  have p3:(I:Int)+1≤(I:Int)+1+(K:Int):=oM
  have p4:((I:Int)+1+(K:Int)).toNat=I+1+K:=oM
  have p5:((I:Int)+1).toNat=I+1:=oM
  go_enter Tryz.func45,Tryz.ntmps45;go_wp2_with fail;rw [←I8.o];refine (aR cs s (I+1) _ _ dF.o oM oM).mono ?_;rintro e w2 ⟨rfl,q2,rfl⟩;rw [HC.o];obtain⟨W2,et⟩:∃W2,W2=w1.drewN q2:=⟨_,rfl⟩;rw [←et];have cj:ah W2 cs s ((I+1:Nat):Int) ((0:Nat):Int):=by rw [et];exact dF.o.drewN _
  have cA:=Hd (show ae (λ b=>b=cs) w W2 by rw [et];exact dp.o.drewN _);obtain⟨d0,d1,d2,g1,g2⟩:=cj.cells;clear et;go_wp2_with fail;go_quiet ((go_at_call 69;exact nX ((dK s (I+1) _ oM oM).mono (λ e w' hh=>⟨by rw [hh.1,mK.o],hh.2.symm⟩))));obtain⟨W3,ft⟩:∃W3,W3=W2.drewN nq:=⟨_,rfl⟩;rw [←ft];have d6:ah W3 cs s ((I+1:Nat):Int) ((0:Nat):Int):=by rw [ft];exact cj.drewN _
  have bZ:=Hd (show ae (λ b=>b=cs) w W3 by rw [ft];exact cA.o.drewN _);clear ft d0 d1 d2 g1 g2 cj;have Bu:=Hd (show res=.ok ([.mk 3 [] ((rest s (I+1)).take K) [] [] q],rest s (I+1+K)) by rw [SC.o,b8]);obtain⟨c0,c1,c2,f1,f2⟩:=d6.cells;go_wp2_with fail;go_quiet (fail);obtain⟨W4,gL⟩:∃W4,W4=W3.drewN nq:=⟨_,rfl⟩;rw [←gL];have dR:ah W4 cs s ((I+1:Nat):Int) ((0:Nat):Int):=by rw [gL];exact d6.drewN _
  have eU:=Hd (show ae (λ b=>b=cs) w W4 by rw [gL];exact bZ.o.drewN _);clear gL c0 c1 c2 f1 f2;obtain⟨c0,c1,c2,f1,f2⟩:=dR.cells;have ltW:=dR.lt;obtain⟨dV,bi⟩:=dl dR (j:=(I:Int)+1+(K:Int)) (J:=I+1+K) oM;have fL:=Hd (eU.o.trans bi (λ_ _ e=>e));have hB5:B≤(W4.setCell ⟨cs,1,none⟩ (.int .i64 ((I:Int)+1+(K:Int)))).heap.size:=nY hB fL.o.size;have BZ:=l5.o.keep fL.o (λ_ _ e=>oM)
  obtain⟨xs,aU,hF⟩:=BZ.more0 hB5 (ae.refl _ _) (x:=.mk 3 [] ((rest s (I+1)).take K) [] [] q) rfl;have e1:dj ((rest s (I+1)).take K)=.string (s.extract (I+1) (I+1+K)):=jH (by rw [Lib.extract_data];unfold rest;rw [show I+1+K - (I+1)=K by omega]);simp only [cH,Pt.kind,Pt.text,Pt.name,Pt.op,Pt.quoted,e1] at hF;have HF:=Hd hF;have l6:=Hd dV;rw [←re.o] at aU HF;have sG:(W4.setCell ⟨cs,1,none⟩ (.int .i64 ((I:Int)+1+(K:Int)))).heap.size=W4.heap.size:=wC
  have qz:=nG (W4.setCell ⟨cs,1,none⟩ (.int .i64 ((I:Int)+1+(K:Int)))) (.cells #[.int .i64 3,eS,.string (s.extract (I+1) (I+1+K)),eS,(),q] 67);rw [sG] at qz;have kQ:=Hd qz;clear dV bi BZ hF e1 qz sG;go_wp2_with (at_builtin;refine nR _ rfl (.tmp 131) (.tmp 135) _ rfl 0 67 i0 _ 6 88 Tryz.underlying29 fo fC fp fq rfl oM (.slice va R0 vc) R0 xs rfl (aU.alloc _) ⟨W4.heap.size,0,none⟩ 1 1 [.int .i64 3,eS,.string (s.extract (I+1) (I+1+K)),eS,(),q] rfl rfl (nK (cs:=#[.int .i64 3,.string ⟨#[]⟩,.string (s.extract (I+1) (I+1+K)),.string ⟨#[]⟩,.slice none 0 0,.bool q]) (t:=67) (fr:=(0,0)) kQ.o) oC oM uM oM sI (W4.heap.size+1) wC ?_;intro gg aC w5 aK ao bf eC)
  go_ret;obtain⟨cv,eP⟩:=HF.o gg aC w5 _ aK ao (by simpa [World.setCell] using bf);rw [Bu.o];exact⟨_,I+1+K,rfl,oM,rfl,l6.o.keep eP (λ e=>oM),cv,by rw [bv];simp only [er,Pt.text,lN];omega,(fL.o.mono λ_ _ e=>.inl e).trans eP (λ_ _ e=>.inr e)⟩
 have YY:K=0:=oM
 subst YY;clear fa;by_cases oy:(bR c || cV c)=true
 ·have SC:=Hd (Pw.o (by rw [Bool.or_assoc,oy,Bool.or_true]) 1 (by
   rw [JU.o,nF oM];cases hd2:bR c with
   | true=>rfl
   | false=>
    rw [hd2] at oy;rw [show cV c=true by simpa using oy];rfl) oM)
  have mY:=I4.o (by rintro rfl;exact nQ oy dC);have p2:(I:Int)+1+1≤(s.size:Int):=oM
  have p4:((I:Int)+1+1).toNat=I+1+1:=oM
  have p5:((I:Int)+1).toNat=I+1:=oM
  cases pz:bR c with
  | true=>
   have HD:=Hd pz;clear pz oy;exact c7x
  | false=>
   have Ej:cV c=true:=by rw [pz] at oy;simpa using oy
   have iy:((c.toNat:Int)==63)=true∨(((c.toNat:Int)==63)=false∧((c.toNat:Int)==35)=true)∨(((c.toNat:Int)==63)=false∧((c.toNat:Int)==35)=false∧((c.toNat:Int)==64)=true)∨(((c.toNat:Int)==63)=false∧((c.toNat:Int)==35)=false∧((c.toNat:Int)==64)=false∧((c.toNat:Int)==42)=true):=by
    simp only [cV,Bool.or_eq_true,nH] at Ej;rcases Ej with ((h | h) | h) | h<;>rw [h]
    ·exact .inl rfl
    ·exact .inr (.inl ⟨rfl,rfl⟩)
    ·exact .inr (.inr (.inl ⟨rfl,rfl,rfl⟩))
    ·exact .inr (.inr (.inr ⟨rfl,rfl,rfl,rfl⟩))
   have HD:=Hd pz;clear pz oy Ej;rcases iy with x1 | ⟨x1,x2⟩ | ⟨x1,x2,x3⟩ | ⟨x1,x2,x3,x4⟩
   all_goals
    exact c7x
 ·have pz:bR c=false:=by cases h:bR c with | false=>rfl | true=>rw [h] at oy;simp at oy
  have Ej:cV c=false:=by cases h:cV c with | false=>rfl | true=>rw [h] at oy;simp at oy
  obtain⟨x1,x2,x3,x4⟩:=xk Ej;have HD:=Hd pz;have yx:=Hd (show bQ false (rest s (I+1))=0 by rw [JU.o,nF oM,pz,Ej];rfl);clear oy pz Ej;by_cases EW:c=123
  ·have aaR:((c.toNat:Int)==123)=true:=aE (c:=c) (k:=123) EW;have mY:=I4.o (by rw [EW];decide);have oD:=Hd (show res=d7 (.brace q) d (rest s (I+2)) by rw [ay.o,zR.o 123 dC,EW];rfl);clear EW;go_enter Tryz.func45,Tryz.ntmps45;go_wp2_with fail;rw [←I8.o];refine (aR cs s (I+1) _ _ dF.o oM oM).mono ?_;rintro e w2 ⟨rfl,q2,rfl⟩;rw [HC.o]
   obtain⟨W2,et⟩:∃W2,W2=w1.drewN q2:=⟨_,rfl⟩;rw [←et];have cj:ah W2 cs s ((I+1:Nat):Int) ((0:Nat):Int):=by rw [et];exact dF.o.drewN _
   have cA:=Hd (show ae (λ b=>b=cs) w W2 by rw [et];exact dp.o.drewN _);obtain⟨d0,d1,d2,g1,g2⟩:=cj.cells;clear et;go_wp2_with fail;go_quiet ((go_at_call 69;exact nX ((dK s (I+1) _ oM oM).mono (λ e w' hh=>⟨by rw [hh.1,mK.o],hh.2.symm⟩))));obtain⟨W3,ft⟩:∃W3,W3=W2.drewN nq:=⟨_,rfl⟩;rw [←ft];have d6:ah W3 cs s ((I+1:Nat):Int) ((0:Nat):Int):=by rw [ft];exact cj.drewN _
   have bZ:=Hd (show ae (λ b=>b=cs) w W3 by rw [ft];exact cA.o.drewN _);clear ft d0 d1 d2 g1 g2 cj;go_wp2_with fail;refine (ep c _).mono ?_;rintro e w4 ⟨rfl,fU⟩;rw [HD.o,fU];clear fU;obtain⟨d0,d1,d2,g1,g2⟩:=d6.cells;obtain⟨w5,jk,dV,bi⟩:=eb d6 ((I:Int)+1+1);have fL:=Hd (bZ.o.trans bi (λ_ _ e=>e));have fi:=IH B cs s (I+2) d q (.slice va R0 vc) raw w5 (by have h:=dV;rwa [show (I:Int)+1+1=((I+2:Nat):Int) by omega] at h) oM hs hd (l5.o.keep fL.o (λ_ _ e=>oM)) Rm (nY hB fL.o.size) oM oM
   exact S2
  have aaR:((c.toNat:Int)==123)=false:=aw (c:=c) (k:=123) EW;have RX:=Hd (show aP 123 (rest s (I+1))=false by rw [zR.o 123 dC];exact nA.2 EW);clear EW;by_cases qU:c=40
  ·have Te:((c.toNat:Int)==40)=true:=aE (c:=c) (k:=40) qU;have mY:=I4.o (by rw [qU];decide);obtain⟨x,hx⟩:∃x,x=au s (I+1+1):=⟨_,rfl⟩;have HX:=Hd hx.symm;have eI:=Hd (show aI [40,40] (rest s (I+1))=(x==40) by
    rw [ak mY,HC.o,qU,hx];rcases nP (I+1+1) s.size with h | h
    ·rw [ak h];show ((40:UInt8)==40 && ((40:UInt8)==au s (I+1+1) && true))=(au s (I+1+1)==40);rw [Bool.eq_iff_iff];simp only [beq_self_eq_true,Bool.true_and,Bool.and_true,nH];exact⟨Eq.symm,Eq.symm⟩
    ·rw [aX h];unfold au;rw [List.getD_eq_getElem?_getD,List.getElem?_eq_none (by rw [←nT];omega)];rfl)
   have ZI:=Hd (show aP 40 (rest s (I+1))=true by rw [zR.o 40 dC,qU];rfl);clear qU hx;by_cases tx:x=40
   ·have fx:((x.toNat:Int)==40)=true:=aE (c:=x) (k:=40) tx;have AF:I+3≤s.size:=by
     rcases nP (I+1+1) s.size with h | h
     ·omega
     ·exfalso;have h0:x=0:=by
       rw [←HX.o];unfold au;exact vy
      rw [h0] at tx;exact nQ tx dC
    have oD:=Hd (show res=pw q (rest s (I+3)) by
     rw [ay.o,RX.out,nF sI,eI.o,tx,nE rF,b8];rfl)
    clear tx;go_enter Tryz.func45,Tryz.ntmps45;go_wp2_with fail;rw [←I8.o];refine (aR cs s (I+1) _ _ dF.o oM oM).mono ?_;rintro e w2 ⟨rfl,q2,rfl⟩;rw [HC.o];obtain⟨W2,et⟩:∃W2,W2=w1.drewN q2:=⟨_,rfl⟩;rw [←et];have cj:ah W2 cs s ((I+1:Nat):Int) ((0:Nat):Int):=by rw [et];exact dF.o.drewN _
    have cA:=Hd (show ae (λ b=>b=cs) w W2 by rw [et];exact dp.o.drewN _);obtain⟨d0,d1,d2,g1,g2⟩:=cj.cells;clear et;go_wp2_with fail;go_quiet ((go_at_call 69;exact nX ((dK s (I+1) _ oM oM).mono (λ e w' hh=>⟨by rw [hh.1,mK.o],hh.2.symm⟩))));obtain⟨W3,ft⟩:∃W3,W3=W2.drewN nq:=⟨_,rfl⟩;rw [←ft];have d6:ah W3 cs s ((I+1:Nat):Int) ((0:Nat):Int):=by rw [ft];exact cj.drewN _
    have bZ:=Hd (show ae (λ b=>b=cs) w W3 by rw [ft];exact cA.o.drewN _);clear ft d0 d1 d2 g1 g2 cj;go_wp2_with fail;refine (ep c _).mono ?_;rintro e w4 ⟨rfl,fU⟩;rw [HD.o,fU];clear fU;go_wp2_with fail;refine (b9 cs s (I+1) _ _ d6 oM oM).mono ?_;rintro e w4 ⟨rfl,q4,rfl⟩;rw [HX.o];obtain⟨W4,gL⟩:∃W4,W4=W3.drewN q4:=⟨_,rfl⟩;rw [←gL];have dR:ah W4 cs s ((I+1:Nat):Int) ((0:Nat):Int):=by rw [gL];exact d6.drewN _
    have eU:=Hd (show ae (λ b=>b=cs) w W4 by rw [gL];exact bZ.o.drewN _);clear gL;obtain⟨d0,d1,d2,g1,g2⟩:=dR.cells;obtain⟨w5,jk,dV,bi⟩:=eb dR ((I:Int)+1+2);have fL:=Hd (eU.o.trans bi (λ_ _ e=>e));have fi:=Iu B cs s (I+3) q (.slice va R0 vc) raw w5 (by have h:=dV;rwa [show (I:Int)+1+2=((I+3:Nat):Int) by omega] at h) hs oM (l5.o.keep fL.o (λ_ _ e=>oM)) Rm (nY hB fL.o.size) oM (100 - d)
    exact S2
   ·have fx:((x.toNat:Int)==40)=false:=aw (c:=x) (k:=40) tx;have oD:=Hd (show res=xo q (rest s (I+2)) by
     rw [ay.o,RX.out,nF sI,eI.o,nA.2 tx,nF sI,ZI.o,nE rF];rfl)
    clear tx;go_enter Tryz.func45,Tryz.ntmps45;go_wp2_with fail;rw [←I8.o];refine (aR cs s (I+1) _ _ dF.o oM oM).mono ?_;rintro e w2 ⟨rfl,q2,rfl⟩;rw [HC.o];obtain⟨W2,et⟩:∃W2,W2=w1.drewN q2:=⟨_,rfl⟩;rw [←et];have cj:ah W2 cs s ((I+1:Nat):Int) ((0:Nat):Int):=by rw [et];exact dF.o.drewN _
    have cA:=Hd (show ae (λ b=>b=cs) w W2 by rw [et];exact dp.o.drewN _);obtain⟨d0,d1,d2,g1,g2⟩:=cj.cells;clear et;go_wp2_with fail;go_quiet ((go_at_call 69;exact nX ((dK s (I+1) _ oM oM).mono (λ e w' hh=>⟨by rw [hh.1,mK.o],hh.2.symm⟩))));obtain⟨W3,ft⟩:∃W3,W3=W2.drewN nq:=⟨_,rfl⟩;rw [←ft];have d6:ah W3 cs s ((I+1:Nat):Int) ((0:Nat):Int):=by rw [ft];exact cj.drewN _
    have bZ:=Hd (show ae (λ b=>b=cs) w W3 by rw [ft];exact cA.o.drewN _);clear ft d0 d1 d2 g1 g2 cj;go_wp2_with fail;refine (ep c _).mono ?_;rintro e w4 ⟨rfl,fU⟩;rw [HD.o,fU];clear fU;go_wp2_with fail;refine (b9 cs s (I+1) _ _ d6 oM oM).mono ?_;rintro e w4 ⟨rfl,q4,rfl⟩;rw [HX.o];obtain⟨W4,gL⟩:∃W4,W4=W3.drewN q4:=⟨_,rfl⟩;rw [←gL];have dR:ah W4 cs s ((I+1:Nat):Int) ((0:Nat):Int):=by rw [gL];exact d6.drewN _
    have eU:=Hd (show ae (λ b=>b=cs) w W4 by rw [gL];exact bZ.o.drewN _);clear gL;obtain⟨d0,d1,d2,g1,g2⟩:=dR.cells;obtain⟨w5,jk,dV,bi⟩:=eb dR ((I:Int)+1+1);have fL:=Hd (eU.o.trans bi (λ_ _ e=>e));have fi:=MB B cs s (I+2) q (.slice va R0 vc) raw w5 (by have h:=dV;rwa [show (I:Int)+1+1=((I+2:Nat):Int) by omega] at h) hs oM (l5.o.keep fL.o (λ_ _ e=>oM)) Rm (nY hB fL.o.size) oM (100 - d) oM
    exact S2
  ·have Te:((c.toNat:Int)==40)=false:=aw (c:=c) (k:=40) qU;have oD:=Hd (show res=.ok ([if q then cq [36] else dD [36]],rest s (I+1)) by
    have tK:aP 40 (rest s (I+1))=false:=by rw [zR.o 40 dC];exact nA.2 qU
    have h44:aI [40,40] (rest s (I+1))=false:=by
     cases dU:rest s (I+1) with
     | nil=>rfl
     | cons a b=>
      rw [dU] at tK;unfold aI;rw [show ((40:UInt8)==a)=false by rw [nA];have:(a==40)=false:=tK;rw [nA] at this;exact λ e=>this e.symm];rfl
    rw [ay.o,RX.out,nF sI,h44,nF sI,tK,nF sI,yx.o,nE rfl])
   clear qU;cases q with
   | true=>
    go_enter Tryz.func45,Tryz.ntmps45;go_wp2_with fail;rw [←I8.o];refine (aR cs s (I+1) _ _ dF.o oM oM).mono ?_;rintro e w2 ⟨rfl,q2,rfl⟩;rw [HC.o];obtain⟨W2,et⟩:∃W2,W2=w1.drewN q2:=⟨_,rfl⟩;rw [←et];have cj:ah W2 cs s ((I+1:Nat):Int) ((0:Nat):Int):=by rw [et];exact dF.o.drewN _
    have cA:=Hd (show ae (λ b=>b=cs) w W2 by rw [et];exact dp.o.drewN _);obtain⟨d0,d1,d2,g1,g2⟩:=cj.cells;clear et;go_wp2_with fail;go_quiet ((go_at_call 69;exact nX ((dK s (I+1) _ oM oM).mono (λ e w' hh=>⟨by rw [hh.1,mK.o],hh.2.symm⟩))));obtain⟨W3,ft⟩:∃W3,W3=W2.drewN nq:=⟨_,rfl⟩;rw [←ft];have d6:ah W3 cs s ((I+1:Nat):Int) ((0:Nat):Int):=by rw [ft];exact cj.drewN _
    have bZ:=Hd (show ae (λ b=>b=cs) w W3 by rw [ft];exact cA.o.drewN _);clear ft d0 d1 d2 g1 g2 cj;go_wp2_with fail;refine (ep c _).mono ?_;rintro e w4 ⟨rfl,fU⟩;rw [HD.o,fU];clear fU;have Y2:=l5.o.keep bZ.o (λ_ _ e=>oM);have ji:=iX B 2 ⟨#[36]⟩ _ raw W3 Y2 (nY hB bZ.o.size) (by have:=re.o;omega) (.inl rfl);exact Wp
   | false=>
    go_enter Tryz.func45,Tryz.ntmps45;go_wp2_with fail;rw [←I8.o];refine (aR cs s (I+1) _ _ dF.o oM oM).mono ?_;rintro e w2 ⟨rfl,q2,rfl⟩;rw [HC.o];obtain⟨W2,et⟩:∃W2,W2=w1.drewN q2:=⟨_,rfl⟩;rw [←et];have cj:ah W2 cs s ((I+1:Nat):Int) ((0:Nat):Int):=by rw [et];exact dF.o.drewN _
    have cA:=Hd (show ae (λ b=>b=cs) w W2 by rw [et];exact dp.o.drewN _);obtain⟨d0,d1,d2,g1,g2⟩:=cj.cells;clear et;go_wp2_with fail;go_quiet ((go_at_call 69;exact nX ((dK s (I+1) _ oM oM).mono (λ e w' hh=>⟨by rw [hh.1,mK.o],hh.2.symm⟩))));obtain⟨W3,ft⟩:∃W3,W3=W2.drewN nq:=⟨_,rfl⟩;rw [←ft];have d6:ah W3 cs s ((I+1:Nat):Int) ((0:Nat):Int):=by rw [ft];exact cj.drewN _
    have bZ:=Hd (show ae (λ b=>b=cs) w W3 by rw [ft];exact cA.o.drewN _);clear ft d0 d1 d2 g1 g2 cj;go_wp2_with fail;refine (ep c _).mono ?_;rintro e w4 ⟨rfl,fU⟩;rw [HD.o,fU];clear fU;have Y2:=l5.o.keep bZ.o (λ_ _ e=>oM);have ji:=iX B 1 ⟨#[36]⟩ _ raw W3 Y2 (nY hB bZ.o.size) (by have:=re.o;omega) (.inr ⟨rfl,dC⟩);exact Wp
theorem EL (N:Nat) (IH:JG N):Py N:=by
 intro B cs s I d v raw w h hI hs hd hr Rm hB hl hN;obtain⟨res,ag⟩:∃res,res=d7 (.one true) d (rest s I):=⟨_,rfl⟩;rw [←ag];obtain⟨c,hc⟩:∃c,c=au s I:=⟨_,rfl⟩;obtain⟨x,hx⟩:∃x,x=au s (I+1):=⟨_,rfl⟩;have Jg:(rest s (I+1)).headD 0=x:=by
  exact KL
 have Xy:aP 10 (rest s (I+1))=(x==10):=by
  exact KL
 rw [ak hI,←hc,Cf,Jg,Xy,fW] at ag;have I4:=Hd (show x≠0→I+1<s.size from λ hc0=>by
  rcases nP (I+1) s.size with h | h
  ·exact h
  ·exfalso;apply hc0;rw [hx];unfold au;rw [List.getD_eq_getElem?_getD,List.getElem?_eq_none (by rw [←nT];omega)];rfl)
 obtain⟨va,vc,rfl,_,_⟩:=hr.shape;obtain⟨R0,vN⟩:∃R0,R0=raw.length:=⟨_,rfl⟩;have Hb:=iq raw;rw [←vN] at hr Hb ⊢;have l5:=Hd hr;have re:=Hd vN;have ay:=Hd ag;have HC:=Hd hc.symm;have HX:=Hd hx.symm;have L4:=h.lt;clear hr ag vN hc hx Jg Xy;by_cases zC:c=34
 ·have WW:((c.toNat:Int)==34)=true:=aE (c:=c) (k:=34) zC;have pk:=Hd (show res=.error 2 by rw [ay.o,zC];rfl);clear zC;exact Wi
 have WW:((c.toNat:Int)==34)=false:=aw (c:=c) (k:=34) zC;have M3:=Hd (show (c==34)=false from nA.2 zC);clear zC;by_cases Dc:c=96
 ·have f96:((c.toNat:Int)==96)=true:=aE (c:=c) (k:=96) Dc;have pk:=Hd (show res=.error 2 by rw [ay.o,Dc];rfl);clear Dc;exact Wi
 have f96:((c.toNat:Int)==96)=false:=aw (c:=c) (k:=96) Dc;have Ul:=Hd (show (c==96)=false from nA.2 Dc);clear Dc;by_cases Db:c=36
 ·have f36:((c.toNat:Int)==36)=true:=aE (c:=c) (k:=36) Db;have oD:=Hd (show res=d7 (.dol true) d (rest s (I+1)) by
   rw [ay.o,M3.out,Ul.out,Db];rfl)
  clear Db;go_enter Tryz.func42,Tryz.ntmps42;go_wp2_with fail;refine (aR cs s I _ _ h oM oM).mono ?_;rintro e w1 ⟨rfl,q1,rfl⟩;rw [HC.o];obtain⟨W0,hW⟩:∃W0,W0=w.drewN q1:=⟨_,rfl⟩;rw [←hW];have kC:ah W0 cs s I ((0:Nat):Int):=by rw [hW];exact h.drewN _
  have ky:=Hd (show ae (λ b=>b=cs) w W0 by rw [hW];exact (ae.refl _ _).drewN _);clear hW;have fi:=IH B cs s I d true (.slice va R0 vc) raw W0 kC hI hs hd (l5.o.keep ky.o (λ_ _ e=>oM)) Rm (nY hB ky.o.size) hl hN;have dv:=Hd fi;clear fi;go_wp2_with fail;refine dv.o.mono ?_;intro e w6 hp;rw [←oD.o] at hp;obtain⟨a,n,cc,rfl,uL⟩:=hp.from ky.o
  have HP:=Hd uL;clear hp uL;go_wp2_with fail;go_ret;exact HP.o
 have f36:((c.toNat:Int)==36)=false:=aw (c:=c) (k:=36) Db;have Yq:=Hd (show (c==36)=false from nA.2 Db);clear Db;by_cases lS:c=92
 ·have Tf:((c.toNat:Int)==92)=true:=aE (c:=c) (k:=92) lS;have Gr:=Hd (show res=if x==10 then .ok ([],rest s (I+1+1)) else if Aw x then .ok ([cq [x]],rest s (I+1+1)) else .ok ([cq [c]],rest s (I+1)) by
   rw [ay.o,M3.out,Ul.out,Yq.out,lS];rfl)
  clear lS;by_cases oz:x=10
  ·have x10:((x.toNat:Int)==10)=true:=aE (c:=x) (k:=10) oz;have mY:=I4.o (by rw [oz];decide);have Bu:=Hd (show res=.ok ([],rest s (I+2)) by rw [Gr.o,oz];rfl);clear oz;go_enter Tryz.func42,Tryz.ntmps42;go_wp2_with fail;refine (aR cs s I _ _ h oM oM).mono ?_;rintro e w1 ⟨rfl,q1,rfl⟩;rw [HC.o];obtain⟨W0,hW⟩:∃W0,W0=w.drewN q1:=⟨_,rfl⟩;rw [←hW];have kC:ah W0 cs s I ((0:Nat):Int):=by rw [hW];exact h.drewN _
   have ky:=Hd (show ae (λ b=>b=cs) w W0 by rw [hW];exact (ae.refl _ _).drewN _);clear hW;go_wp2_with fail;refine (b9 cs s I _ _ kC oM oM).mono ?_;rintro e w2 ⟨rfl,q2,rfl⟩;rw [HX.o];obtain⟨W1,hW⟩:∃Z:World,Z=W0.drewN q2:=⟨_,rfl⟩;rw [←hW];have oY:ah W1 cs s I ((0:Nat):Int):=by rw [hW];exact kC.drewN _
   have vg:=Hd (show ae (λ b=>b=cs) w W1 by rw [hW];exact ky.o.drewN _);clear hW;obtain⟨d0,d1,d2,g1,g2⟩:=oY.cells;obtain⟨dV,bi⟩:=dl oY (j:=(I:Int)+2) (J:=I+2) oM;have l6:=Hd dV;have fL:=Hd (vg.o.trans bi (λ_ _ e=>e));clear dV bi;go_wp2_with fail;go_ret;rw [Bu.o];exact⟨_,I+2,rfl,oM,rfl,l6.o,by rw [List.append_nil];exact l5.o.keep fL.o (λ_ _ e=>oM),by rw [List.append_nil];omega,fL.o.mono λ_ _ e=>.inl e⟩
  have x10:((x.toNat:Int)==10)=false:=aw (c:=x) (k:=10) oz;have RW:=Hd (show (x==10)=false from nA.2 oz);clear oz;by_cases Uh:x=36
  ·have x36:((x.toNat:Int)==36)=true:=aE (c:=x) (k:=36) Uh;have mY:=I4.o (by rw [Uh];decide);have Bu:=Hd (show res=.ok ([cq [x]],rest s (I+2)) by rw [Gr.o,RW.out,Uh];rfl);clear Uh;go_enter Tryz.func42,Tryz.ntmps42;go_wp2_with fail;refine (aR cs s I _ _ h oM oM).mono ?_;rintro e w1 ⟨rfl,q1,rfl⟩;rw [HC.o];obtain⟨W0,hW⟩:∃W0,W0=w.drewN q1:=⟨_,rfl⟩;rw [←hW]
   have kC:ah W0 cs s I ((0:Nat):Int):=by rw [hW];exact h.drewN _
   have ky:=Hd (show ae (λ b=>b=cs) w W0 by rw [hW];exact (ae.refl _ _).drewN _);clear hW;go_wp2_with fail;refine (b9 cs s I _ _ kC oM oM).mono ?_;rintro e w2 ⟨rfl,q2,rfl⟩;rw [HX.o];obtain⟨W1,hW⟩:∃Z:World,Z=W0.drewN q2:=⟨_,rfl⟩;rw [←hW];have oY:ah W1 cs s I ((0:Nat):Int):=by rw [hW];exact kC.drewN _
   have vg:=Hd (show ae (λ b=>b=cs) w W1 by rw [hW];exact ky.o.drewN _);clear hW;go_wp2_with fail;refine (b9 cs s I _ _ oY oM oM).mono ?_;rintro e w2 ⟨rfl,q2,rfl⟩;rw [HX.o];obtain⟨W2,hW⟩:∃Z:World,Z=W1.drewN q2:=⟨_,rfl⟩;rw [←hW];have rR:ah W2 cs s I ((0:Nat):Int):=by rw [hW];exact oY.drewN _
   have qj:=Hd (show ae (λ b=>b=cs) w W2 by rw [hW];exact vg.o.drewN _);clear hW;obtain⟨d0,d1,d2,g1,g2⟩:=rR.cells;obtain⟨w5,jk⟩:∃w5,w5=(W2.setCell ⟨cs,1,none⟩ (.int .i64 ((I:Int)+1))).setCell ⟨cs,1,none⟩ (.int .i64 ((I:Int)+1+1)):=⟨_,rfl⟩;obtain⟨Ei,Ec⟩:=dl rR (j:=(I:Int)+1) (J:=I+1) oM;obtain⟨dV,Ed⟩:=dl Ei (j:=(I:Int)+1+1) (J:=I+2) oM;have bi:=Ec.trans Ed (λ_ _ e=>e)
   rw [←jk] at dV bi;obtain⟨J,hJ⟩:∃J,J=I+2:=⟨_,rfl⟩;rw [←hJ] at dV;have Lr:1≤J:=oM
   have FJ:J≤s.size:=oM
   have uP:=Hd jk;have l6:=Hd dV;have fL:=Hd (qj.o.trans bi (λ_ _ e=>e));exact c4x
  have x36:((x.toNat:Int)==36)=false:=aw (c:=x) (k:=36) Uh;have K36:=Hd (show (x==36)=false from nA.2 Uh);clear Uh;by_cases Ug:x=34
  ·have x34:((x.toNat:Int)==34)=true:=aE (c:=x) (k:=34) Ug;have mY:=I4.o (by rw [Ug];decide);have Bu:=Hd (show res=.ok ([cq [x]],rest s (I+2)) by rw [Gr.o,RW.out,Ug];rfl);clear Ug;go_enter Tryz.func42,Tryz.ntmps42;go_wp2_with fail;refine (aR cs s I _ _ h oM oM).mono ?_;rintro e w1 ⟨rfl,q1,rfl⟩;rw [HC.o];obtain⟨W0,hW⟩:∃W0,W0=w.drewN q1:=⟨_,rfl⟩;rw [←hW]
   have kC:ah W0 cs s I ((0:Nat):Int):=by rw [hW];exact h.drewN _
   have ky:=Hd (show ae (λ b=>b=cs) w W0 by rw [hW];exact (ae.refl _ _).drewN _);clear hW;go_wp2_with fail;refine (b9 cs s I _ _ kC oM oM).mono ?_;rintro e w2 ⟨rfl,q2,rfl⟩;rw [HX.o];obtain⟨W1,hW⟩:∃Z:World,Z=W0.drewN q2:=⟨_,rfl⟩;rw [←hW];have oY:ah W1 cs s I ((0:Nat):Int):=by rw [hW];exact kC.drewN _
   have vg:=Hd (show ae (λ b=>b=cs) w W1 by rw [hW];exact ky.o.drewN _);clear hW;go_wp2_with fail;refine (b9 cs s I _ _ oY oM oM).mono ?_;rintro e w2 ⟨rfl,q2,rfl⟩;rw [HX.o];obtain⟨W2,hW⟩:∃Z:World,Z=W1.drewN q2:=⟨_,rfl⟩;rw [←hW];have rR:ah W2 cs s I ((0:Nat):Int):=by rw [hW];exact oY.drewN _
   have qj:=Hd (show ae (λ b=>b=cs) w W2 by rw [hW];exact vg.o.drewN _);clear hW;go_wp2_with fail;refine (b9 cs s I _ _ rR oM oM).mono ?_;rintro e w2 ⟨rfl,q2,rfl⟩;rw [HX.o];obtain⟨W3,hW⟩:∃Z:World,Z=W2.drewN q2:=⟨_,rfl⟩;rw [←hW];have vV:ah W3 cs s I ((0:Nat):Int):=by rw [hW];exact rR.drewN _
   have xT:=Hd (show ae (λ b=>b=cs) w W3 by rw [hW];exact qj.o.drewN _);clear hW;obtain⟨d0,d1,d2,g1,g2⟩:=vV.cells;obtain⟨w5,jk⟩:∃w5,w5=(W3.setCell ⟨cs,1,none⟩ (.int .i64 ((I:Int)+1))).setCell ⟨cs,1,none⟩ (.int .i64 ((I:Int)+1+1)):=⟨_,rfl⟩;obtain⟨Ei,Ec⟩:=dl vV (j:=(I:Int)+1) (J:=I+1) oM;obtain⟨dV,Ed⟩:=dl Ei (j:=(I:Int)+1+1) (J:=I+2) oM;have bi:=Ec.trans Ed (λ_ _ e=>e)
   rw [←jk] at dV bi;obtain⟨J,hJ⟩:∃J,J=I+2:=⟨_,rfl⟩;rw [←hJ] at dV;have Lr:1≤J:=oM
   have FJ:J≤s.size:=oM
   have uP:=Hd jk;have l6:=Hd dV;have fL:=Hd (xT.o.trans bi (λ_ _ e=>e));exact c4x
  have x34:((x.toNat:Int)==34)=false:=aw (c:=x) (k:=34) Ug;have K34:=Hd (show (x==34)=false from nA.2 Ug);clear Ug;by_cases Ui:x=92
  ·have x92:((x.toNat:Int)==92)=true:=aE (c:=x) (k:=92) Ui;have mY:=I4.o (by rw [Ui];decide);have Bu:=Hd (show res=.ok ([cq [x]],rest s (I+2)) by rw [Gr.o,RW.out,Ui];rfl);clear Ui;go_enter Tryz.func42,Tryz.ntmps42;go_wp2_with fail;refine (aR cs s I _ _ h oM oM).mono ?_;rintro e w1 ⟨rfl,q1,rfl⟩;rw [HC.o];obtain⟨W0,hW⟩:∃W0,W0=w.drewN q1:=⟨_,rfl⟩;rw [←hW]
   have kC:ah W0 cs s I ((0:Nat):Int):=by rw [hW];exact h.drewN _
   have ky:=Hd (show ae (λ b=>b=cs) w W0 by rw [hW];exact (ae.refl _ _).drewN _);clear hW;go_wp2_with fail;refine (b9 cs s I _ _ kC oM oM).mono ?_;rintro e w2 ⟨rfl,q2,rfl⟩;rw [HX.o];obtain⟨W1,hW⟩:∃Z:World,Z=W0.drewN q2:=⟨_,rfl⟩;rw [←hW];have oY:ah W1 cs s I ((0:Nat):Int):=by rw [hW];exact kC.drewN _
   have vg:=Hd (show ae (λ b=>b=cs) w W1 by rw [hW];exact ky.o.drewN _);clear hW;go_wp2_with fail;refine (b9 cs s I _ _ oY oM oM).mono ?_;rintro e w2 ⟨rfl,q2,rfl⟩;rw [HX.o];obtain⟨W2,hW⟩:∃Z:World,Z=W1.drewN q2:=⟨_,rfl⟩;rw [←hW];have rR:ah W2 cs s I ((0:Nat):Int):=by rw [hW];exact oY.drewN _
   have qj:=Hd (show ae (λ b=>b=cs) w W2 by rw [hW];exact vg.o.drewN _);clear hW;go_wp2_with fail;refine (b9 cs s I _ _ rR oM oM).mono ?_;rintro e w2 ⟨rfl,q2,rfl⟩;rw [HX.o];obtain⟨W3,hW⟩:∃Z:World,Z=W2.drewN q2:=⟨_,rfl⟩;rw [←hW];have vV:ah W3 cs s I ((0:Nat):Int):=by rw [hW];exact rR.drewN _
   have xT:=Hd (show ae (λ b=>b=cs) w W3 by rw [hW];exact qj.o.drewN _);clear hW;go_wp2_with fail;refine (b9 cs s I _ _ vV oM oM).mono ?_;rintro e w2 ⟨rfl,q2,rfl⟩;rw [HX.o];obtain⟨W4,hW⟩:∃Z:World,Z=W3.drewN q2:=⟨_,rfl⟩;rw [←hW];have B8:ah W4 cs s I ((0:Nat):Int):=by rw [hW];exact vV.drewN _
   have JR:=Hd (show ae (λ b=>b=cs) w W4 by rw [hW];exact xT.o.drewN _);clear hW;obtain⟨d0,d1,d2,g1,g2⟩:=B8.cells;obtain⟨w5,jk⟩:∃w5,w5=(W4.setCell ⟨cs,1,none⟩ (.int .i64 ((I:Int)+1))).setCell ⟨cs,1,none⟩ (.int .i64 ((I:Int)+1+1)):=⟨_,rfl⟩;obtain⟨Ei,Ec⟩:=dl B8 (j:=(I:Int)+1) (J:=I+1) oM;obtain⟨dV,Ed⟩:=dl Ei (j:=(I:Int)+1+1) (J:=I+2) oM;have bi:=Ec.trans Ed (λ_ _ e=>e)
   rw [←jk] at dV bi;obtain⟨J,hJ⟩:∃J,J=I+2:=⟨_,rfl⟩;rw [←hJ] at dV;have Lr:1≤J:=oM
   have FJ:J≤s.size:=oM
   have uP:=Hd jk;have l6:=Hd dV;have fL:=Hd (JR.o.trans bi (λ_ _ e=>e));exact c4x
  have x92:((x.toNat:Int)==92)=false:=aw (c:=x) (k:=92) Ui;have K92:=Hd (show (x==92)=false from nA.2 Ui);clear Ui;by_cases Uj:x=96
  ·have x96:((x.toNat:Int)==96)=true:=aE (c:=x) (k:=96) Uj;have mY:=I4.o (by rw [Uj];decide);have Bu:=Hd (show res=.ok ([cq [x]],rest s (I+2)) by rw [Gr.o,RW.out,Uj];rfl);clear Uj;go_enter Tryz.func42,Tryz.ntmps42;go_wp2_with fail;refine (aR cs s I _ _ h oM oM).mono ?_;rintro e w1 ⟨rfl,q1,rfl⟩;rw [HC.o];obtain⟨W0,hW⟩:∃W0,W0=w.drewN q1:=⟨_,rfl⟩;rw [←hW]
   have kC:ah W0 cs s I ((0:Nat):Int):=by rw [hW];exact h.drewN _
   have ky:=Hd (show ae (λ b=>b=cs) w W0 by rw [hW];exact (ae.refl _ _).drewN _);clear hW;go_wp2_with fail;refine (b9 cs s I _ _ kC oM oM).mono ?_;rintro e w2 ⟨rfl,q2,rfl⟩;rw [HX.o];obtain⟨W1,hW⟩:∃Z:World,Z=W0.drewN q2:=⟨_,rfl⟩;rw [←hW];have oY:ah W1 cs s I ((0:Nat):Int):=by rw [hW];exact kC.drewN _
   have vg:=Hd (show ae (λ b=>b=cs) w W1 by rw [hW];exact ky.o.drewN _);clear hW;go_wp2_with fail;refine (b9 cs s I _ _ oY oM oM).mono ?_;rintro e w2 ⟨rfl,q2,rfl⟩;rw [HX.o];obtain⟨W2,hW⟩:∃Z:World,Z=W1.drewN q2:=⟨_,rfl⟩;rw [←hW];have rR:ah W2 cs s I ((0:Nat):Int):=by rw [hW];exact oY.drewN _
   have qj:=Hd (show ae (λ b=>b=cs) w W2 by rw [hW];exact vg.o.drewN _);clear hW;go_wp2_with fail;refine (b9 cs s I _ _ rR oM oM).mono ?_;rintro e w2 ⟨rfl,q2,rfl⟩;rw [HX.o];obtain⟨W3,hW⟩:∃Z:World,Z=W2.drewN q2:=⟨_,rfl⟩;rw [←hW];have vV:ah W3 cs s I ((0:Nat):Int):=by rw [hW];exact rR.drewN _
   have xT:=Hd (show ae (λ b=>b=cs) w W3 by rw [hW];exact qj.o.drewN _);clear hW;go_wp2_with fail;refine (b9 cs s I _ _ vV oM oM).mono ?_;rintro e w2 ⟨rfl,q2,rfl⟩;rw [HX.o];obtain⟨W4,hW⟩:∃Z:World,Z=W3.drewN q2:=⟨_,rfl⟩;rw [←hW];have B8:ah W4 cs s I ((0:Nat):Int):=by rw [hW];exact vV.drewN _
   have JR:=Hd (show ae (λ b=>b=cs) w W4 by rw [hW];exact xT.o.drewN _);clear hW;go_wp2_with fail;refine (b9 cs s I _ _ B8 oM oM).mono ?_;rintro e w2 ⟨rfl,q2,rfl⟩;rw [HX.o];obtain⟨W5,hW⟩:∃Z:World,Z=W4.drewN q2:=⟨_,rfl⟩;rw [←hW];have LK:ah W5 cs s I ((0:Nat):Int):=by rw [hW];exact B8.drewN _
   have JS:=Hd (show ae (λ b=>b=cs) w W5 by rw [hW];exact JR.o.drewN _);clear hW;obtain⟨d0,d1,d2,g1,g2⟩:=LK.cells;obtain⟨w5,jk⟩:∃w5,w5=(W5.setCell ⟨cs,1,none⟩ (.int .i64 ((I:Int)+1))).setCell ⟨cs,1,none⟩ (.int .i64 ((I:Int)+1+1)):=⟨_,rfl⟩;obtain⟨Ei,Ec⟩:=dl LK (j:=(I:Int)+1) (J:=I+1) oM;obtain⟨dV,Ed⟩:=dl Ei (j:=(I:Int)+1+1) (J:=I+2) oM;have bi:=Ec.trans Ed (λ_ _ e=>e)
   rw [←jk] at dV bi;obtain⟨J,hJ⟩:∃J,J=I+2:=⟨_,rfl⟩;rw [←hJ] at dV;have Lr:1≤J:=oM
   have FJ:J≤s.size:=oM
   have uP:=Hd jk;have l6:=Hd dV;have fL:=Hd (JS.o.trans bi (λ_ _ e=>e));exact c4x
  have x96:((x.toNat:Int)==96)=false:=aw (c:=x) (k:=96) Uj;have K96:=Hd (show (x==96)=false from nA.2 Uj);clear Uj;have Bu:=Hd (show res=.ok ([cq [c]],rest s (I+1)) by
   rw [Gr.o,RW.out];unfold Aw;rw [K36.out,K34.out,K92.out,K96.out];rfl)
  go_enter Tryz.func42,Tryz.ntmps42;go_wp2_with fail;refine (aR cs s I _ _ h oM oM).mono ?_;rintro e w1 ⟨rfl,q1,rfl⟩;rw [HC.o];obtain⟨W0,hW⟩:∃W0,W0=w.drewN q1:=⟨_,rfl⟩;rw [←hW];have kC:ah W0 cs s I ((0:Nat):Int):=by rw [hW];exact h.drewN _
  have ky:=Hd (show ae (λ b=>b=cs) w W0 by rw [hW];exact (ae.refl _ _).drewN _);clear hW;go_wp2_with fail;refine (b9 cs s I _ _ kC oM oM).mono ?_;rintro e w2 ⟨rfl,q2,rfl⟩;rw [HX.o];obtain⟨W1,hW⟩:∃Z:World,Z=W0.drewN q2:=⟨_,rfl⟩;rw [←hW];have oY:ah W1 cs s I ((0:Nat):Int):=by rw [hW];exact kC.drewN _
  have vg:=Hd (show ae (λ b=>b=cs) w W1 by rw [hW];exact ky.o.drewN _);clear hW;go_wp2_with fail;refine (b9 cs s I _ _ oY oM oM).mono ?_;rintro e w2 ⟨rfl,q2,rfl⟩;rw [HX.o];obtain⟨W2,hW⟩:∃Z:World,Z=W1.drewN q2:=⟨_,rfl⟩;rw [←hW];have rR:ah W2 cs s I ((0:Nat):Int):=by rw [hW];exact oY.drewN _
  have qj:=Hd (show ae (λ b=>b=cs) w W2 by rw [hW];exact vg.o.drewN _);clear hW;go_wp2_with fail;refine (b9 cs s I _ _ rR oM oM).mono ?_;rintro e w2 ⟨rfl,q2,rfl⟩;rw [HX.o];obtain⟨W3,hW⟩:∃Z:World,Z=W2.drewN q2:=⟨_,rfl⟩;rw [←hW];have vV:ah W3 cs s I ((0:Nat):Int):=by rw [hW];exact rR.drewN _
  have xT:=Hd (show ae (λ b=>b=cs) w W3 by rw [hW];exact qj.o.drewN _);clear hW;go_wp2_with fail;refine (b9 cs s I _ _ vV oM oM).mono ?_;rintro e w2 ⟨rfl,q2,rfl⟩;rw [HX.o];obtain⟨W4,hW⟩:∃Z:World,Z=W3.drewN q2:=⟨_,rfl⟩;rw [←hW];have B8:ah W4 cs s I ((0:Nat):Int):=by rw [hW];exact vV.drewN _
  have JR:=Hd (show ae (λ b=>b=cs) w W4 by rw [hW];exact xT.o.drewN _);clear hW;go_wp2_with fail;refine (b9 cs s I _ _ B8 oM oM).mono ?_;rintro e w2 ⟨rfl,q2,rfl⟩;rw [HX.o];obtain⟨W5,hW⟩:∃Z:World,Z=W4.drewN q2:=⟨_,rfl⟩;rw [←hW];have LK:ah W5 cs s I ((0:Nat):Int):=by rw [hW];exact B8.drewN _
  have JS:=Hd (show ae (λ b=>b=cs) w W5 by rw [hW];exact JR.o.drewN _);clear hW;obtain⟨d0,d1,d2,g1,g2⟩:=LK.cells;obtain⟨w5,jk⟩:∃w5,w5=W5.setCell ⟨cs,1,none⟩ (.int .i64 ((I:Int)+1)):=⟨_,rfl⟩;obtain⟨dV,bi⟩:=dl LK (j:=(I:Int)+1) (J:=I+1) oM;rw [←jk] at dV bi;obtain⟨J,hJ⟩:∃J,J=I+1:=⟨_,rfl⟩;rw [←hJ] at dV;have Lr:1≤J:=oM
  have FJ:J≤s.size:=oM
  have uP:=Hd jk;have l6:=Hd dV;have fL:=Hd (JS.o.trans bi (λ_ _ e=>e));exact VY
 ·have Tf:((c.toNat:Int)==92)=false:=aw (c:=c) (k:=92) lS;have Bu:=Hd (show res=.ok ([cq [c]],rest s (I+1)) by
   rw [ay.o,M3.out,Ul.out,Yq.out,nA.2 lS];rfl)
  clear lS;go_enter Tryz.func42,Tryz.ntmps42;go_wp2_with fail;refine (aR cs s I _ _ h oM oM).mono ?_;rintro e w1 ⟨rfl,q1,rfl⟩;rw [HC.o];obtain⟨W0,hW⟩:∃W0,W0=w.drewN q1:=⟨_,rfl⟩;rw [←hW];have kC:ah W0 cs s I ((0:Nat):Int):=by rw [hW];exact h.drewN _
  have ky:=Hd (show ae (λ b=>b=cs) w W0 by rw [hW];exact (ae.refl _ _).drewN _);clear hW;obtain⟨d0,d1,d2,g1,g2⟩:=kC.cells;obtain⟨w5,jk⟩:∃w5,w5=W0.setCell ⟨cs,1,none⟩ (.int .i64 ((I:Int)+1)):=⟨_,rfl⟩;obtain⟨dV,bi⟩:=dl kC (j:=(I:Int)+1) (J:=I+1) oM;rw [←jk] at dV bi;obtain⟨J,hJ⟩:∃J,J=I+1:=⟨_,rfl⟩;rw [←hJ] at dV;have Lr:1≤J:=oM
  have FJ:J≤s.size:=oM
  have uP:=Hd jk;have l6:=Hd dV;have fL:=Hd (ky.o.trans bi (λ_ _ e=>e));exact VY
end Go.Proofs.YtiihpbccabeoeaaGreatDoor
