/- The walk: a part. -/
import Derived.Test.YtiihpbccabeoeaaGreatDoorVM
import Derived.Test.YtiihpbccabeoeaaGreatDoorVPkH
import Derived.Defers
import Derived.Recover
import Derived.Laws.Pointers
import Derived.Deep.RegionHeld3
import Derived.Test.YtiihpbccabeoeaaGreatDoorVPkE
import Derived.Test.YtiihpbccabeoeaaGreatDoorRows
import Derived.Test.YtiihpbccabeoeaaGreatDoorVPkD
import Derived.Lib.LaidTab
namespace Go.Proofs.YtiihpbccabeoeaaGreatDoor
open Go.RowKit
set_option linter.unusedVariables false
set_option maxRecDepth 100000
set_option maxHeartbeats 16000000
theorem At (K:Nat) (bw:iI K) (cR:oI K) (w:World) (B cs n i d:Nat) (tv:Value) (T:List Tk) (h:RS w B cs tv n T i d) (hd:d+K=40) :
 Calls Tryz.prog 175 #[.pointer (some ⟨cs,0,none⟩)] w (JF w B cs tv n T i d (cw (ab K) (av (ab K)) (T.drop i))):=by
 obtain⟨res,ag⟩:∃res,res=cw (ab K) (av (ab K)) (T.drop i):=⟨_,rfl⟩;rw [←ag];obtain⟨nm,yW⟩:∃nm,nm=aJ (ch (T.drop i)):=⟨_,rfl⟩;have oW:nm.length≤140737488351232:=by
  exact PM
 have JX:=Hd yW;have Nu:=Hd oW;have ov:=aT;have tN:=tC;obtain⟨i0,fo,fC,fp,fq⟩:=info_parts vY;have oE:=Hd ag;have HH:=Lib.hid h;have HC:=Hd bw;have cK:=Hd cR;have HD:=Hd hd;have cF:=Hd h.lt;clear ag h bw hd cR yW oW;go_enter Tryz.func175,Tryz.ntmps175;go_wp2_with fail;obtain⟨N,hN⟩:∃N,N=w.heap.size+1:=⟨_,rfl⟩;obtain⟨W1,tM⟩:∃W1,W1=w.alloc (.cells #[.int .i64 0,false,eS,(),(),(),(),()] 44):=⟨_,rfl⟩
 have bt:K0 w W1:=by rw [tM];exact (ae.refl _ _).alloc _
 have dL:W1.heap.size=N:=by rw [tM,hN];simp
 obtain⟨W,hW⟩:∃W,W=W1.alloc (.cells #[.int .i64 0,false,eS,(),(),(),(),()] 44):=⟨_,rfl⟩;have aS:K0 W1 W:=by rw [hW];exact (ae.refl _ _).alloc _
 obtain⟨X,hX⟩:∃X,X=W.heap.size:=⟨_,rfl⟩;have oo:W.heap.size=N+1:=by rw [hW,←dL];simp
 have HR:=Hd (show af W w.heap.size [.int .i64 0,false,eS,(),(),(),(),()] from af.keep (by rw [tM];exact aD _ _ _ _ _ _ _ _ _ _) aS (λ h=>h));have yx:=Hd (show af W N [.int .i64 0,false,eS,(),(),(),(),()] by rw [hW,←dL];exact aD _ _ _ _ _ _ _ _ _ _)
 have dO:=Hd (bt.trans aS k3);have HS:=Hd (HH.o.keep0 (bt.trans aS k3));have sz:=Hd hX;have qk:=Hd (show N=w.heap.size+1∧X=N+1∧W.heap.size=X by omega);have ct:=Hd (show w.heap.size<X∧w.heap.size<N by omega);have mG:=Hd (show X≤N+1 by omega);rw [←hN,←tM,←hW];clear bt aS dL oo hN hX hW tM;refine (jf W B cs n i d tv T HS.o).mono ?_;rintro e wa ⟨a,c,rfl,hp,hk⟩
 have HP:=Hd hp;have HSa:=Hd (HS.o.keep0 hk);have HKa:=Hd (hk.mono (T:=λ b=>b=cs) (λ_ _ h=>h.elim));clear hk hp;go_wp2_with fail;refine (fV _ _ _ _ _ _ HP.o).mono ?_;rintro e wa0 ⟨rfl,hk⟩;rw [←JX.o];obtain⟨Jr,Op⟩:∃Jr,Jr=i:=⟨_,rfl⟩;have C5:=Hd (show RS wa0 B cs tv n T Jr d by rw [Op];exact HSa.o.keep0 hk);have mF:=Hd (HKa.o.trans hk (λ_ _ h=>h.elim));have Ut:=Hd (show T.drop Jr=T.drop i by rw [Op])
 have acW:i≤Jr:=oM
 rw [←Op] at oE;clear hk Op;go_wp2_with fail;cases p9:aj [40] (T.drop Jr) with
 | true=>
  have ol:res=some (aM (av (ab K)) (fu (ab K) 13 (en [41]) (T.drop Jr).tail)):=by rw [oE.o,tF];rw [p9,nE rfl]
  refine (cP wa0 B cs n Jr d tv T [40] true C5.o p9).mono ?_;rintro e wb ⟨rfl,jb,rj,rS,iS,kf⟩;have vh:=Hd iS;have ur:=Hd (mF.o.trans kf k3);rw [←show T.drop jb=(T.drop Jr).tail from rS] at ol;have oD:=Hd ol;clear iS kf rS ol p9;go_wp2_with fail;refine (gn K HC.o wb B cs n jb d tv T vh.o HD.o).mono ?_;intro e w2 hp;cases bo:bz (ab K) (T.drop jb) with
  | error y=>
   exact Rf
  | ok dr=>
   obtain⟨l9,r⟩:=dr;rw [bo] at hp;obtain⟨vs,⟨rfl,j2,hj2,il,ee,aS⟩,_,eJ,eo⟩:=hp;obtain⟨k,b,s,a0,n0,c0,a1,n1,c1,a2,n2,c2,a3,n3,c3,a4,n4,c4,rfl⟩:=cC eJ eo;have iJ:=Hd (show res=some (aM (av (ab K)) (if aj [41] (T.drop j2) then .ok ((cE 13 false [] [] [] [] l9 []),(T.drop j2).tail) else .error 2)) by
    rw [oD.o];unfold fu en;rw [bo];dsimp only;rw [←il];cases aj [41] (T.drop j2)<;>rfl)
   obtain⟨lk,Os⟩:∃lk,lk=some (⟨w2.heap.size,0,none⟩:Addr):=⟨_,rfl⟩;obtain⟨wz,Jp⟩:∃wz,wz=((((((((w2.setCell ⟨N,0,none⟩ (.int .i64 13)).setCell ⟨N,1,none⟩ (.bool false)).setCell ⟨N,2,none⟩ (.string ⟨#[]⟩)).setCell ⟨N,3,none⟩ (.slice none 0 0)).setCell ⟨N,4,none⟩ (.slice none 0 0)).setCell ⟨N,5,none⟩ (.slice none 0 0)).setCell ⟨N,6,none⟩ (.slice lk 1 1)).setCell ⟨N,7,none⟩ (.slice none 0 0)):=⟨_,rfl⟩
   have tR:ae (λ b=>b=N) w2 wz:=by rw [Jp];exact ap _ _ _ _ _ _ _ _ _ _
   have Ye:wz.heap.size=w2.heap.size:=by rw [Jp];simp
   obtain⟨wr,gU⟩:∃wr,wr=wz.alloc (.cells #[k,b,s,.slice a0 n0 c0,.slice a1 n1 c1,.slice a2 n2 c2,.slice a3 n3 c3,.slice a4 n4 c4] 44):=⟨_,rfl⟩;have uz:K0 wz wr:=by rw [gU];exact (ae.refl _ _).alloc _
   have bp:=ur.o.trans aS k3;have Jq:=ct.o;have i8:=sz.o;have cM:=qk.o;have qA:=cF.o;have OC:=ur.o.size;have hB:=ee.cs;have cj:=bp.size;have rQ:=yx.o.keep bp (λ e=>oM);have cv:=fk (k:=8) (m:=1) (Ty:=44) (D:=λ b=>X≤b) ((eo.keep tR (λ b _ hb e=>oM)).mono (λ b _ hb=>oM)) eJ.len dC gU oM;rw [Ye,←Os] at cv
   have me:bV wr (λ b=>X≤b) (cE 13 false [] [] [] [] l9 []) [.int .i64 13,false,eS,(),(),(),.slice lk 1 1,()]:=⟨.int _,.bool _,.str _,.nil _ _ _ (nB _),.nil _ _ _ (nB _),.nil _ _ _ (nB _),cv,.nil _ _ _ (nB _),trivial⟩;obtain⟨⟨z0,z1,z2,z3,z4,z5,z6,z7⟩,y0,y1,y2,y3,y4,y5,y6,y7⟩:=rQ.eight
   have fT:=rQ.lt;have On:i≤j2:=oM
   obtain⟨p0,p1,p2,p3,p4,q6,q7,uN,B3,Rr⟩:=Av (w:=w) (N:=N) (X:=X) (Z:=[.int .i64 0,.bool false,.string ⟨#[]⟩,.slice none 0 0,.slice none 0 0,.slice none 0 0,.slice none 0 0,.slice none 0 0]) (ds:=(cE 13 false [] [] [] [] l9 [])) ⟨_,_,_,_,_,_,_,_,rfl⟩ me ((ee.keep tR (λ b hb e=>oM) (λ e=>oM)).keep0 uz) ((((dO.o.mono (λ_ _ h=>h.elim)).trans bp k3).fresh tR (λ b e=>oM)).trans uz (λ_ _ h=>h.elim)) (((HR.o.keep bp (λ e=>oM)).keep tR (λ e=>oM)).keep uz (λ h=>h)) ((by rw [Jp];exact lo rQ _ _ _ _ _ _ _ _:af wz N _).keep uz (λ h=>h)) oM
   have iD:=Hd Rr;have Dq:=Hd uN;have JV:=Hd B3;have rg:=Hd gU;have VM:=Hd Jp;have Bf:=Hd Os;clear bo aS ee eJ eo il tR uz bp Jq i8 cM qA OC hB cj rQ me uN B3 Rr gU Jp Ye cv Os;go_wp2_with fail;rw [←Bf.o,←VM.o,←rg.o];clear rg VM Bf z0 z1 z2 z3 z4 z5 z6 z7 y0 y1 y2 y3 y4 y5 y6 y7 fT;cases dy:aj [41] (T.drop j2) with
   | false=>
    have bO:=Hd (show res=some (.error 2) by rw [iJ.o,dy];rfl);refine (cP wr B cs n j2 d tv T [41] false iD.o.rs dy).mono ?_;exact Rg
   | true=>
    refine (cP wr B cs n j2 d tv T [41] true iD.o.rs dy).mono ?_;rintro e w3 ⟨rfl,j3,ow,iT,cX,aV⟩;have sq:=Hd (iD.o.move cF.o ct.o.1 ct.o.2 aV cX);have gG:=Hd (show res=some (gw (cE 13 false [] [] [] [] l9 []) (bm (av (ab K)) (T.length - j3+1) [] (T.drop j3))) by rw [iJ.o,dy,nE rfl,A9,←show T.drop j3=(T.drop j2).tail from iT,nI])
    clear cX aV iT dy iD iJ;go_wp2_with fail;refine (df _).mono ?_;rintro e w4 ⟨rfl,rfl⟩;go_wp2_with fail;go_loopg [] (T.length - j3) (λ g wr=>∃(I M m:Nat) (la:OA) (lc:Nat) (acc:List Dt),g=T.length - I∧i≤I∧m≤I∧T.length - I+1≤M∧Hid (GI w wr B cs tv n T d X N [.int .i64 0,false,eS,(),(),(),(),()] [p0,p1,p2,p3,p4] [q6,q7] [.int .i64 13,false,eS,(),()] [.slice lk 1 1,()] 2 86 I m la lc acc)∧Hid (res=some (gw (cE 13 false [] [] [] [] l9 []) (bm (av (ab K)) M acc (T.drop I)))))
    case atStart=>exact⟨j3,_,0,none,0,[],rfl,oM,nB _,nC _,sq,gG⟩
    case round=>
     obtain⟨I,M,m,la,lc,acc,eH,mI,yj,hM,HG,oG⟩:=hrel;have fK:=Hd eH;have p8:=HG.o.rs.i;have vO:=HG.o.rs.sm.1;obtain⟨M,rfl⟩:∃M',M=M'+1:=⟨M - 1,oM⟩;clear eH sq gG;cases hq:bP (T.drop I) with
     | true=>
      have lZ:=Hd (mB hq);have gh:=Hd (show res=some (gw (cE 13 false [] [] [] [] l9 []) (match dN (av (ab K)) (T.drop I) with
       | .error e=>.error e
       | .ok (d,r)=>bm (av (ab K)) M (acc++d) r)) by rw [oG.o,iC,hq,nE rfl];all_goals rfl)
      have HQ:=Hd hq;clear hq oG;go_wp2_with fail;refine (cT _ B cs n I d tv T true HG.o.rs HQ.o).mono ?_;rintro e Gj ⟨rfl,hk⟩;have fM:=Hd (HG.o.keep0 hk);clear hk HG;go_wp2_with fail;have sB:=ct.o.1;have pR:=Hd (show X≤Gj.heap.size by have h1:=fM.o.rc.lt;have h2:=mG.o;omega);obtain⟨⟨x0,x1,x2,x3,x4,x5,x6,x7⟩,⟨f8,gf,hC,hU,hV,hY,hZ,ia⟩⟩:=(show af Gj N [.int .i64 13,false,eS,(),(),.slice la m lc,.slice lk 1 1,()] from fM.o.rc).eight
      have fR:=fM.o.rc.lt;cases bo:dN (av (ab K)) (T.drop I) with
      | error y=>
       have bO:=Hd (show res=some (.error y) by rw [gh.o,bo];rfl);have kS:=Hd bo;clear bo;go_wp2_with fail;refine uF (S:=(λ w'=>af w' N [.int .i64 13,false,eS,(),(),.slice la m lc,.slice lk 1 1,()])) kR (fM.o.rc.keep (S:=λ_=>False) (ae.refl _ _).drew (λ h=>h)) (λ dJ=>?_);exact c3x
      | ok dr=>
       obtain⟨d2,r2⟩:=dr;have bO:=Hd (show res=some (gw (cE 13 false [] [] [] [] l9 []) (bm (av (ab K)) M (acc++d2) r2)) by rw [gh.o,bo]);have kS:=Hd bo;clear bo;have dv:=Hd (show ∀e w4,mL Gj.drew B cs tv n T I d GA (.ok (d2,r2)) e w4→∃(j4:Nat) (sv:ByteArray) (a5:OA) (m5 c5:Nat) (xs:List Value),e=.returned (.agg #[sv,.slice a5 m5 c5])∧(I≤j4∧j4≤T.length∧T.drop j4=r2∧True)∧w4.ownsRow 0 86 2 (.slice la m lc) m xs∧af w4 N [.int .i64 13,false,eS,(),(),.slice la m lc,.slice lk 1 1,()]∧
        (∀(gg aC:Nat) (w5:World) (o:Obj),w5.ownsRow 0 86 2 (.slice (some ⟨gg,0,none⟩) (m+1) aC) (m+1) (xs++[.string sv,.slice a5 m5 c5])→(w4.alloc o).grownBy w5 (Value.slice la m lc).ownBlock→((Value.slice la m lc).ownBlock=some gg∨gg=w4.heap.size+1)→
         af w5 N [.int .i64 13,false,eS,(),(),.slice la m lc,.slice lk 1 1,()]∧GI w (w5.setCell ⟨N,5,none⟩ (.slice (some ⟨gg,0,none⟩) (m+1) aC)) B cs tv n T d X N [.int .i64 0,false,eS,(),(),(),(),()] [p0,p1,p2,p3,p4] [q6,q7] [.int .i64 13,false,eS,(),()] [.slice lk 1 1,()] 2 86 j4 (m+1) (some ⟨gg,0,none⟩) aC (acc++d2)) from λ e w4 hp=>by
        obtain⟨vs,⟨he,j4,kB,iY,cG,be⟩,⟨sv,a5,m5,c5,rfl⟩,f7⟩:=hp;obtain⟨xs,ho,cQ,hF⟩:=fM.o.more cF.o ct.o.1 ct.o.2 pR.o ((ae.refl (λ b=>b=cs) Gj).drew.trans be k3) cG f7;exact⟨j4,sv,a5,m5,c5,xs,he,⟨kB,cG.i,iY,trivial⟩,ho,cQ,hF⟩)
       go_wp2_with fail;go_region_law (first
        | (
         refine step_append_lies _ rF _ _ _ rF 0 86 i0 _ 2 40 Tryz.underlying41 fo fC fp fq rfl oM (.slice la m lc) m xs rF (hown4.alloc _)
          ⟨w4.heap.size,0,none⟩ 1 1 [sv,.slice a5 m5 c5] rF rF (nK (cs:=#[.string sv,.slice a5 m5 c5]) (t:=86) (fr:=(0,0)) (nG w4 _)) oC
          oM uM oM sI (w4.heap.size+1) sI ?_;intro gg aC w5 aK ao bf gT
         obtain⟨aH,gA⟩:=HF.o gg aC w5 _ aK ao bf;obtain⟨⟨z0,z1,z2,z3,z4,z5,z6,z7⟩,⟨gO,gP,ib,ic,ie,ig,ii,ij⟩⟩:=af.eight aH;have qy:=aH.lt;have fc:=Hd gA;clear aH gA aK ao bf)
        | (go_simp;go_at_call 197;refine (mA K cK.o _ B cs n I d tv T (fM.o.rs.keep0 (ae.refl _ _).drew) HD.o lZ.o).mono ?_;rw [kS.o];intro e w4 hp;obtain⟨j4,sv,a5,m5,c5,xs,he,mc,hown4,aL,hF⟩:=dv.o e w4 hp;subst he;obtain⟨⟨y0,y1,y2,y3,y4,y5,y6,y7⟩,⟨JC,JD,MW,MX,MY,MZ,M0,M1⟩⟩:=af.eight aL;have Jc:=aL.lt;have HF:=Hd hF;have kJ:=Hd mc;clear hp hF mc aL))
       all_goals
        obtain⟨w3,kh⟩:∃w3,w3=w5.setCell ⟨N,5,none⟩ (.slice (some ⟨gg,0,none⟩) (m+1) aC):=⟨_,rfl⟩;rw [←kh] at fc;rw [←kh];have qn:=Hd (show res=some (gw (cE 13 false [] [] [] [] l9 []) (bm (av (ab K)) M (acc++d2) (T.drop j4))) by rw [bO.o,kJ.o.2.2.1]);exact SW
     | false=>
      have bO:=Hd (show res=some (.ok ((cE 13 false [] [] [] [] l9 []).set 5 (.sl 2 acc),T.drop I)) by rw [oG.o,iC,hq];rfl);have HQ:=Hd hq;clear hq oG;go_wp2_with fail;refine (cT _ B cs n I d tv T false HG.o.rs HQ.o).mono ?_;rintro e wy ⟨rfl,hk⟩;have rr:=Hd (HG.o.keep0 hk);clear hk HG;have cQ:=(show af wy N [.int .i64 13,false,eS,(),(),.slice la m lc,.slice lk 1 1,()] from rr.o.rc)
      obtain⟨⟨v0,v1,v2,v3,v4,v5,v6,v7⟩,_⟩:=cQ.eight;have oW:=cQ.lt;have eV:=Hd rr.o.zr;have bZ:=Hd rr.o.kp;have eF:=Hd rr.o.rs;have eW:=Hd (show bV wy (λ b=>X≤b) ((cE 13 false [] [] [] [] l9 []).set 5 (.sl 2 acc)) [.int .i64 13,false,eS,(),(),.slice la m lc,.slice lk 1 1,()] by rw [Dq.o];exact rr.o.all);have lY:=Hd (JV.o acc)
      clear cQ;obtain⟨⟨z0,z1,z2,z3,z4,z5,z6,z7⟩,y0,y1,y2,y3,y4,y5,y6,y7⟩:=eV.o.eight;have fT:=eV.o.lt;go_wp2_with fail;refine nJ (v:=.tuple #[.agg #[.int .i64 13,false,eS,(),(),.slice la m lc,.slice lk 1 1,()],true]) (by simp [results,Tryz.results175,go_sem,z0,z1,z2,z3,z4,z5,z6,z7]) rfl ?_;obtain⟨f1,f2,f3⟩:=eK bZ.o eF.o ct.o.1 cF.o eW.o (ap wy w.heap.size (.int .i64 13) (.bool false) (.string ⟨#[]⟩) (.slice none 0 0) (.slice none 0 0) (.slice la m lc) (.slice lk 1 1) (.slice none 0 0))
      rw [bO.o];exact⟨[.int .i64 13,false,eS,(),(),.slice la m lc,.slice lk 1 1,()],⟨rfl,_,mI,rfl,f1,f2⟩,lY.o,f3⟩
 | false=>
 refine (cP wa0 B cs n Jr d tv T [40] false C5.o p9).mono ?_;rintro e wa1 ⟨rfl,Js,ku,ko,jj,bt⟩;have dF:=Hd jj;have dp:=Hd (mF.o.trans bt k3);have Bj:=Hd (show T.drop Js=T.drop i by rw [show T.drop Js=T.drop Jr from ko];exact Ut.o);have acX:i≤Js:=oM
 have fN:=Hd (show res=Ae (ab K) (av (ab K)) (T.drop Js) by rw [show T.drop Js=T.drop Jr from ko];rw [oE.o,tF];rw [p9];rfl);clear jj bt ko p9;go_wp2_with fail;cases dy:aF [123] (T.drop Js) with
 | true=>
  have ol:res=some (aM (av (ab K)) (fu (ab K) 12 (cO [125]) (T.drop Js).tail)):=by rw [fN.o];unfold Ae;rw [dy,nE rfl]
  refine (cn wa1 B cs n Js d tv T [123] true dF.o dC dy).mono ?_;rintro e wb ⟨rfl,jb,rj,rS,iS,kf⟩;have vh:=Hd iS;have ur:=Hd (dp.o.trans kf k3);rw [←show T.drop jb=(T.drop Js).tail from rS] at ol;have oD:=Hd ol;clear iS kf rS ol dy;go_wp2_with fail;refine (gn K HC.o wb B cs n jb d tv T vh.o HD.o).mono ?_;intro e w2 hp;cases bo:bz (ab K) (T.drop jb) with
  | error y=>
   exact Rf
  | ok dr=>
   obtain⟨l9,r⟩:=dr;rw [bo] at hp;obtain⟨vs,⟨rfl,j2,hj2,il,ee,aS⟩,_,eJ,eo⟩:=hp;obtain⟨k,b,s,a0,n0,c0,a1,n1,c1,a2,n2,c2,a3,n3,c3,a4,n4,c4,rfl⟩:=cC eJ eo;have iJ:=Hd (show res=some (aM (av (ab K)) (if aF [125] (T.drop j2) then .ok ((cE 12 false [] [] [] [] l9 []),(T.drop j2).tail) else .error 2)) by
    rw [oD.o];unfold fu cO;rw [bo];dsimp only;rw [←il];cases aF [125] (T.drop j2)<;>rfl)
   obtain⟨lk,Os⟩:∃lk,lk=some (⟨w2.heap.size,0,none⟩:Addr):=⟨_,rfl⟩;obtain⟨wz,Jp⟩:∃wz,wz=((((((((w2.setCell ⟨N,0,none⟩ (.int .i64 12)).setCell ⟨N,1,none⟩ (.bool false)).setCell ⟨N,2,none⟩ (.string ⟨#[]⟩)).setCell ⟨N,3,none⟩ (.slice none 0 0)).setCell ⟨N,4,none⟩ (.slice none 0 0)).setCell ⟨N,5,none⟩ (.slice none 0 0)).setCell ⟨N,6,none⟩ (.slice lk 1 1)).setCell ⟨N,7,none⟩ (.slice none 0 0)):=⟨_,rfl⟩
   have tR:ae (λ b=>b=N) w2 wz:=by rw [Jp];exact ap _ _ _ _ _ _ _ _ _ _
   have Ye:wz.heap.size=w2.heap.size:=by rw [Jp];simp
   obtain⟨wr,gU⟩:∃wr,wr=wz.alloc (.cells #[k,b,s,.slice a0 n0 c0,.slice a1 n1 c1,.slice a2 n2 c2,.slice a3 n3 c3,.slice a4 n4 c4] 44):=⟨_,rfl⟩;have uz:K0 wz wr:=by rw [gU];exact (ae.refl _ _).alloc _
   have bp:=ur.o.trans aS k3;have Jq:=ct.o;have i8:=sz.o;have cM:=qk.o;have qA:=cF.o;have OC:=ur.o.size;have hB:=ee.cs;have cj:=bp.size;have rQ:=yx.o.keep bp (λ e=>oM);have cv:=fk (k:=8) (m:=1) (Ty:=44) (D:=λ b=>X≤b) ((eo.keep tR (λ b _ hb e=>oM)).mono (λ b _ hb=>oM)) eJ.len dC gU oM;rw [Ye,←Os] at cv
   have me:bV wr (λ b=>X≤b) (cE 12 false [] [] [] [] l9 []) [.int .i64 12,false,eS,(),(),(),.slice lk 1 1,()]:=⟨.int _,.bool _,.str _,.nil _ _ _ (nB _),.nil _ _ _ (nB _),.nil _ _ _ (nB _),cv,.nil _ _ _ (nB _),trivial⟩;obtain⟨⟨z0,z1,z2,z3,z4,z5,z6,z7⟩,y0,y1,y2,y3,y4,y5,y6,y7⟩:=rQ.eight
   have fT:=rQ.lt;have On:i≤j2:=oM
   obtain⟨p0,p1,p2,p3,p4,q6,q7,uN,B3,Rr⟩:=Av (w:=w) (N:=N) (X:=X) (Z:=[.int .i64 0,.bool false,.string ⟨#[]⟩,.slice none 0 0,.slice none 0 0,.slice none 0 0,.slice none 0 0,.slice none 0 0]) (ds:=(cE 12 false [] [] [] [] l9 [])) ⟨_,_,_,_,_,_,_,_,rfl⟩ me ((ee.keep tR (λ b hb e=>oM) (λ e=>oM)).keep0 uz) ((((dO.o.mono (λ_ _ h=>h.elim)).trans bp k3).fresh tR (λ b e=>oM)).trans uz (λ_ _ h=>h.elim)) (((HR.o.keep bp (λ e=>oM)).keep tR (λ e=>oM)).keep uz (λ h=>h)) ((by rw [Jp];exact lo rQ _ _ _ _ _ _ _ _:af wz N _).keep uz (λ h=>h)) oM
   have iD:=Hd Rr;have Dq:=Hd uN;have JV:=Hd B3;have rg:=Hd gU;have VM:=Hd Jp;have Bf:=Hd Os;clear bo aS ee eJ eo il tR uz bp Jq i8 cM qA OC hB cj rQ me uN B3 Rr gU Jp Ye cv Os;go_wp2_with fail;rw [←Bf.o,←VM.o,←rg.o];clear rg VM Bf z0 z1 z2 z3 z4 z5 z6 z7 y0 y1 y2 y3 y4 y5 y6 y7 fT;cases dy:aF [125] (T.drop j2) with
   | false=>
    have bO:=Hd (show res=some (.error 2) by rw [iJ.o,dy];rfl);refine (cn wr B cs n j2 d tv T [125] false iD.o.rs dC dy).mono ?_;exact Rg
   | true=>
    refine (cn wr B cs n j2 d tv T [125] true iD.o.rs dC dy).mono ?_;rintro e w3 ⟨rfl,j3,ow,iT,cX,aV⟩;have sq:=Hd (iD.o.move cF.o ct.o.1 ct.o.2 aV cX);have gG:=Hd (show res=some (gw (cE 12 false [] [] [] [] l9 []) (bm (av (ab K)) (T.length - j3+1) [] (T.drop j3))) by rw [iJ.o,dy,nE rfl,A9,←show T.drop j3=(T.drop j2).tail from iT,nI])
    clear cX aV iT dy iD iJ;go_wp2_with fail;refine (df _).mono ?_;rintro e w4 ⟨rfl,rfl⟩;go_wp2_with fail;go_loopg [] (T.length - j3) (λ g wr=>∃(I M m:Nat) (la:OA) (lc:Nat) (acc:List Dt),g=T.length - I∧i≤I∧m≤I∧T.length - I+1≤M∧Hid (GI w wr B cs tv n T d X N [.int .i64 0,false,eS,(),(),(),(),()] [p0,p1,p2,p3,p4] [q6,q7] [.int .i64 12,false,eS,(),()] [.slice lk 1 1,()] 2 86 I m la lc acc)∧Hid (res=some (gw (cE 12 false [] [] [] [] l9 []) (bm (av (ab K)) M acc (T.drop I)))))
    case atStart=>exact⟨j3,_,0,none,0,[],rfl,oM,nB _,nC _,sq,gG⟩
    case round=>
     obtain⟨I,M,m,la,lc,acc,eH,mI,yj,hM,HG,oG⟩:=hrel;have fK:=Hd eH;have p8:=HG.o.rs.i;have vO:=HG.o.rs.sm.1;obtain⟨M,rfl⟩:∃M',M=M'+1:=⟨M - 1,oM⟩;clear eH sq gG;cases hq:bP (T.drop I) with
     | true=>
      have lZ:=Hd (mB hq);have gh:=Hd (show res=some (gw (cE 12 false [] [] [] [] l9 []) (match dN (av (ab K)) (T.drop I) with
       | .error e=>.error e
       | .ok (d,r)=>bm (av (ab K)) M (acc++d) r)) by rw [oG.o,iC,hq,nE rfl];all_goals rfl)
      have HQ:=Hd hq;clear hq oG;go_wp2_with fail;refine (cT _ B cs n I d tv T true HG.o.rs HQ.o).mono ?_;rintro e Gj ⟨rfl,hk⟩;have fM:=Hd (HG.o.keep0 hk);clear hk HG;go_wp2_with fail;have sB:=ct.o.1;have pR:=Hd (show X≤Gj.heap.size by have h1:=fM.o.rc.lt;have h2:=mG.o;omega);obtain⟨⟨x0,x1,x2,x3,x4,x5,x6,x7⟩,⟨f8,gf,hC,hU,hV,hY,hZ,ia⟩⟩:=(show af Gj N [.int .i64 12,false,eS,(),(),.slice la m lc,.slice lk 1 1,()] from fM.o.rc).eight
      have fR:=fM.o.rc.lt;cases bo:dN (av (ab K)) (T.drop I) with
      | error y=>
       have bO:=Hd (show res=some (.error y) by rw [gh.o,bo];rfl);have kS:=Hd bo;clear bo;go_wp2_with fail;refine uF (S:=(λ w'=>af w' N [.int .i64 12,false,eS,(),(),.slice la m lc,.slice lk 1 1,()])) kR (fM.o.rc.keep (S:=λ_=>False) (ae.refl _ _).drew (λ h=>h)) (λ dJ=>?_);exact c3x
      | ok dr=>
       obtain⟨d2,r2⟩:=dr;have bO:=Hd (show res=some (gw (cE 12 false [] [] [] [] l9 []) (bm (av (ab K)) M (acc++d2) r2)) by rw [gh.o,bo]);have kS:=Hd bo;clear bo;have dv:=Hd (show ∀e w4,mL Gj.drew B cs tv n T I d GA (.ok (d2,r2)) e w4→∃(j4:Nat) (sv:ByteArray) (a5:OA) (m5 c5:Nat) (xs:List Value),e=.returned (.agg #[sv,.slice a5 m5 c5])∧(I≤j4∧j4≤T.length∧T.drop j4=r2∧True)∧w4.ownsRow 0 86 2 (.slice la m lc) m xs∧af w4 N [.int .i64 12,false,eS,(),(),.slice la m lc,.slice lk 1 1,()]∧
        (∀(gg aC:Nat) (w5:World) (o:Obj),w5.ownsRow 0 86 2 (.slice (some ⟨gg,0,none⟩) (m+1) aC) (m+1) (xs++[.string sv,.slice a5 m5 c5])→(w4.alloc o).grownBy w5 (Value.slice la m lc).ownBlock→((Value.slice la m lc).ownBlock=some gg∨gg=w4.heap.size+1)→
         af w5 N [.int .i64 12,false,eS,(),(),.slice la m lc,.slice lk 1 1,()]∧GI w (w5.setCell ⟨N,5,none⟩ (.slice (some ⟨gg,0,none⟩) (m+1) aC)) B cs tv n T d X N [.int .i64 0,false,eS,(),(),(),(),()] [p0,p1,p2,p3,p4] [q6,q7] [.int .i64 12,false,eS,(),()] [.slice lk 1 1,()] 2 86 j4 (m+1) (some ⟨gg,0,none⟩) aC (acc++d2)) from λ e w4 hp=>by
        obtain⟨vs,⟨he,j4,kB,iY,cG,be⟩,⟨sv,a5,m5,c5,rfl⟩,f7⟩:=hp;obtain⟨xs,ho,cQ,hF⟩:=fM.o.more cF.o ct.o.1 ct.o.2 pR.o ((ae.refl (λ b=>b=cs) Gj).drew.trans be k3) cG f7;exact⟨j4,sv,a5,m5,c5,xs,he,⟨kB,cG.i,iY,trivial⟩,ho,cQ,hF⟩)
       go_wp2_with fail;go_region_law (first
        | (
         refine step_append_lies _ rF _ _ _ rF 0 86 i0 _ 2 40 Tryz.underlying41 fo fC fp fq rfl oM (.slice la m lc) m xs rF (hown4.alloc _)
          ⟨w4.heap.size,0,none⟩ 1 1 [sv,.slice a5 m5 c5] rF rF (nK (cs:=#[.string sv,.slice a5 m5 c5]) (t:=86) (fr:=(0,0)) (nG w4 _)) oC
          oM uM oM sI (w4.heap.size+1) sI ?_;intro gg aC w5 aK ao bf gT
         obtain⟨aH,gA⟩:=HF.o gg aC w5 _ aK ao bf;obtain⟨⟨z0,z1,z2,z3,z4,z5,z6,z7⟩,⟨gO,gP,ib,ic,ie,ig,ii,ij⟩⟩:=af.eight aH;have qy:=aH.lt;have fc:=Hd gA;clear aH gA aK ao bf)
        | (go_simp;go_at_call 197;refine (mA K cK.o _ B cs n I d tv T (fM.o.rs.keep0 (ae.refl _ _).drew) HD.o lZ.o).mono ?_;rw [kS.o];intro e w4 hp;obtain⟨j4,sv,a5,m5,c5,xs,he,mc,hown4,aL,hF⟩:=dv.o e w4 hp;subst he;obtain⟨⟨y0,y1,y2,y3,y4,y5,y6,y7⟩,⟨JC,JD,MW,MX,MY,MZ,M0,M1⟩⟩:=af.eight aL;have Jc:=aL.lt;have HF:=Hd hF;have kJ:=Hd mc;clear hp hF mc aL))
       all_goals
        obtain⟨w3,kh⟩:∃w3,w3=w5.setCell ⟨N,5,none⟩ (.slice (some ⟨gg,0,none⟩) (m+1) aC):=⟨_,rfl⟩;rw [←kh] at fc;rw [←kh];have qn:=Hd (show res=some (gw (cE 12 false [] [] [] [] l9 []) (bm (av (ab K)) M (acc++d2) (T.drop j4))) by rw [bO.o,kJ.o.2.2.1]);exact SW
     | false=>
      have bO:=Hd (show res=some (.ok ((cE 12 false [] [] [] [] l9 []).set 5 (.sl 2 acc),T.drop I)) by rw [oG.o,iC,hq];rfl);have HQ:=Hd hq;clear hq oG;go_wp2_with fail;refine (cT _ B cs n I d tv T false HG.o.rs HQ.o).mono ?_;rintro e wy ⟨rfl,hk⟩;have rr:=Hd (HG.o.keep0 hk);clear hk HG;have cQ:=(show af wy N [.int .i64 12,false,eS,(),(),.slice la m lc,.slice lk 1 1,()] from rr.o.rc)
      obtain⟨⟨v0,v1,v2,v3,v4,v5,v6,v7⟩,_⟩:=cQ.eight;have oW:=cQ.lt;have eV:=Hd rr.o.zr;have bZ:=Hd rr.o.kp;have eF:=Hd rr.o.rs;have eW:=Hd (show bV wy (λ b=>X≤b) ((cE 12 false [] [] [] [] l9 []).set 5 (.sl 2 acc)) [.int .i64 12,false,eS,(),(),.slice la m lc,.slice lk 1 1,()] by rw [Dq.o];exact rr.o.all);have lY:=Hd (JV.o acc)
      clear cQ;obtain⟨⟨z0,z1,z2,z3,z4,z5,z6,z7⟩,y0,y1,y2,y3,y4,y5,y6,y7⟩:=eV.o.eight;have fT:=eV.o.lt;go_wp2_with fail;refine nJ (v:=.tuple #[.agg #[.int .i64 12,false,eS,(),(),.slice la m lc,.slice lk 1 1,()],true]) (by simp [results,Tryz.results175,go_sem,z0,z1,z2,z3,z4,z5,z6,z7]) rfl ?_;obtain⟨f1,f2,f3⟩:=eK bZ.o eF.o ct.o.1 cF.o eW.o (ap wy w.heap.size (.int .i64 12) (.bool false) (.string ⟨#[]⟩) (.slice none 0 0) (.slice none 0 0) (.slice la m lc) (.slice lk 1 1) (.slice none 0 0))
      rw [bO.o];exact⟨[.int .i64 12,false,eS,(),(),.slice la m lc,.slice lk 1 1,()],⟨rfl,_,mI,rfl,f1,f2⟩,lY.o,f3⟩
 | false=>
 refine (cn wa1 B cs n Js d tv T [123] false dF.o dC dy).mono ?_;rintro e wa2 ⟨rfl,Jt,hj2,il,ee,aS⟩;have gS:=Hd ee;have cA:=Hd (dp.o.trans aS k3);have Fe:=Hd (show T.drop Jt=T.drop i by rw [show T.drop Jt=T.drop Js from il];exact Bj.o);have acY:i≤Jt:=oM
 have cJ:=Hd (show res=Af (ab K) (av (ab K)) (T.drop Jt) by rw [show T.drop Jt=T.drop Js from il];rw [fN.o];unfold Ae;rw [dy];rfl);clear ee aS il dy;go_wp2_with fail;cases rn:aF [105,102] (T.drop Jt) with
 | true=>
  have ol:res=some (aM (av (ab K)) (dx (ab K) (T.drop Jt).tail)):=by rw [cJ.o];unfold Af;rw [rn,nE rfl]
  refine (cn wa2 B cs n Jt d tv T [105,102] true gS.o dC rn).mono ?_;rintro e wb ⟨rfl,jb,rj,rS,iS,kf⟩;have vh:=Hd iS;have ur:=Hd (cA.o.trans kf k3);rw [←show T.drop jb=(T.drop Jt).tail from rS] at ol;have oD:=Hd ol;clear iS kf rS ol rn;go_wp2_with fail;refine (DP K HC.o wb B cs n jb d tv T vh.o HD.o).mono ?_;intro e w2 hp;cases bo:dx (ab K) (T.drop jb) with
  | error y=>
   exact BI
  | ok dr=>
   exact c0x
 | false=>
 refine (cn wa2 B cs n Jt d tv T [105,102] false gS.o dC rn).mono ?_;rintro e wa3 ⟨rfl,Ju,ow,iT,cX,aV⟩;have eF:=Hd cX;have bZ:=Hd (cA.o.trans aV k3);have uu:=Hd (show T.drop Ju=T.drop i by rw [show T.drop Ju=T.drop Jt from iT];exact Fe.o);have acZ:i≤Ju:=oM
 have lG:=Hd (show res=Ag (ab K) (av (ab K)) (T.drop Ju) by rw [show T.drop Ju=T.drop Jt from iT];rw [cJ.o];unfold Af;rw [rn];rfl);clear cX aV iT rn;go_wp2_with fail;cases Oy:aF [119,104,105,108,101] (T.drop Ju) with
 | true=>
  have ol:res=some (aM (av (ab K)) (dE (ab K) 7 (T.drop Ju).tail)):=by rw [lG.o];unfold Ag;rw [Oy,nE rfl]
  refine (cn wa3 B cs n Ju d tv T [119,104,105,108,101] true eF.o dC Oy).mono ?_;rintro e wb ⟨rfl,jb,rj,rS,iS,kf⟩;have vh:=Hd iS;have ur:=Hd (bZ.o.trans kf k3);rw [←show T.drop jb=(T.drop Ju).tail from rS] at ol;have oD:=Hd ol;clear iS kf rS ol Oy;go_wp2_with fail;refine (Ch K HC.o wb B cs n jb d 7 tv T vh.o HD.o).mono ?_;intro e w2 hp
  cases bo:dE (ab K) 7 (T.drop jb) with
  | error y=>
   exact BI
  | ok dr=>
   exact c0x
 | false=>
 refine (cn wa3 B cs n Ju d tv T [119,104,105,108,101] false eF.o dC Oy).mono ?_;rintro e wa4 ⟨rfl,Jv,kB,iY,cG,be⟩;have iG:=Hd cG;have eU:=Hd (bZ.o.trans be k3);have Bx:=Hd (show T.drop Jv=T.drop i by rw [show T.drop Jv=T.drop Ju from iY];exact uu.o);have ac0:i≤Jv:=oM
 have oF:=Hd (show res=Ah (ab K) (av (ab K)) (T.drop Jv) by rw [show T.drop Jv=T.drop Ju from iY];rw [lG.o];unfold Ag;rw [Oy];rfl);clear cG be iY Oy;go_wp2_with fail;cases lB:aF [117,110,116,105,108] (T.drop Jv) with
 | true=>
  have ol:res=some (aM (av (ab K)) (dE (ab K) 8 (T.drop Jv).tail)):=by rw [oF.o];unfold Ah;rw [lB,nE rfl]
  refine (cn wa4 B cs n Jv d tv T [117,110,116,105,108] true iG.o dC lB).mono ?_;rintro e wb ⟨rfl,jb,rj,rS,iS,kf⟩;have vh:=Hd iS;have ur:=Hd (eU.o.trans kf k3);rw [←show T.drop jb=(T.drop Jv).tail from rS] at ol;have oD:=Hd ol;clear iS kf rS ol lB;go_wp2_with fail;refine (Ch K HC.o wb B cs n jb d 8 tv T vh.o HD.o).mono ?_;intro e w2 hp
  cases bo:dE (ab K) 8 (T.drop jb) with
  | error y=>
   exact BI
  | ok dr=>
   exact c0x
 | false=>
 refine (cn wa4 B cs n Jv d tv T [117,110,116,105,108] false iG.o dC lB).mono ?_;rintro e wa5 ⟨rfl,Jw,Y9,El,mf,bi⟩;have l6:=Hd mf;have fL:=Hd (eU.o.trans bi k3);have YF:=Hd (show T.drop Jw=T.drop i by rw [show T.drop Jw=T.drop Jv from El];exact Bx.o);have ac1:i≤Jw:=oM
 have tr:=Hd (show res=Ai (ab K) (av (ab K)) (T.drop Jw) by rw [show T.drop Jw=T.drop Jv from El];rw [oF.o];unfold Ah;rw [lB];rfl);clear mf bi El lB;go_wp2_with fail;cases UT:aF [102,111,114] (T.drop Jw) with
 | true=>
  have ol:res=some (aM (av (ab K)) (fh (ab K) (av (ab K)) (T.drop Jw).tail)):=by rw [tr.o];unfold Ai;rw [UT,nE rfl]
  refine (cn wa5 B cs n Jw d tv T [102,111,114] true l6.o dC UT).mono ?_;rintro e wb ⟨rfl,jb,rj,rS,iS,kf⟩;have vh:=Hd iS;have ur:=Hd (fL.o.trans kf k3);rw [←show T.drop jb=(T.drop Jw).tail from rS] at ol;have oD:=Hd ol;clear iS kf rS ol UT;go_wp2_with fail;refine (K7 K HC.o cK.o wb B cs n jb d tv T vh.o HD.o (λ h=>Mf h)).mono ?_
  intro e w2 hp;cases bo:fh (ab K) (av (ab K)) (T.drop jb) with
  | error y=>
   exact BI
  | ok dr=>
   exact c0x
 | false=>
 refine (cn wa5 B cs n Jw d tv T [102,111,114] false l6.o dC UT).mono ?_;rintro e wa6 ⟨rfl,Jx,hj6,OG,B4,cu⟩;have xW:=Hd B4;have st:=Hd (fL.o.trans cu k3);have HT6:=Hd (show T.drop Jx=T.drop i by rw [show T.drop Jx=T.drop Jw from OG];exact YF.o);have ac2:i≤Jx:=oM
 have Pq:=Hd (show res=Aj (ab K) (av (ab K)) (T.drop Jx) by rw [show T.drop Jx=T.drop Jw from OG];rw [tr.o];unfold Ai;rw [UT];rfl);clear B4 cu OG UT;go_wp2_with fail;cases UU:aF [99,97,115,101] (T.drop Jx) with
 | true=>
  have ol:res=some (aM (av (ab K)) (eA (ab K) (av (ab K)) (T.drop Jx).tail)):=by rw [Pq.o];unfold Aj;rw [UU,nE rfl]
  refine (cn wa6 B cs n Jx d tv T [99,97,115,101] true xW.o dC UU).mono ?_;rintro e wb ⟨rfl,jb,rj,rS,iS,kf⟩;have vh:=Hd iS;have ur:=Hd (st.o.trans kf k3);rw [←show T.drop jb=(T.drop Jx).tail from rS] at ol;have oD:=Hd ol;clear iS kf rS ol UU;go_wp2_with fail;refine (GN K HC.o cK.o wb B cs n jb d tv T vh.o HD.o).mono ?_;intro e w2 hp
  cases bo:eA (ab K) (av (ab K)) (T.drop jb) with
  | error y=>
   exact BI
  | ok dr=>
   exact c0x
 | false=>
 refine (cn wa6 B cs n Jx d tv T [99,97,115,101] false xW.o dC UU).mono ?_;rintro e wa7 ⟨rfl,Hs,hj7,OH,B5,i5⟩;have Bi:=Hd B5;have C1:=Hd (st.o.trans i5 k3);have Sz:=Hd (show T.drop Hs=T.drop i by rw [show T.drop Hs=T.drop Jx from OH];exact HT6.o);have XD:i≤Hs:=oM
 have Vv:=Hd (show res=DK (ab K) (T.drop Hs) by rw [show T.drop Hs=T.drop Jx from OH];rw [Pq.o];unfold Aj;rw [UU];rfl);clear B5 i5 OH UU;go_wp2_with fail;have R6:=Hd (show res=if bK nm && fF (T.drop Hs) then some (cy (ab K) nm (T.drop Hs)) else none by rw [Vv.o];unfold DK;rw [JX.o,Sz.o]);cases pT:bK nm with
 | false=>
  have bO:=Hd (show res=none by rw [R6.o,pT];rfl);refine (kO nm wa7 false Nu.o pT).mono ?_;rintro e wc ⟨rfl,G8⟩;have Gu:=Hd (Bi.o.keep0 G8);have JP:=Hd (C1.o.trans G8 (λ_ _ h=>h.elim));clear G8 pT;have eV:=Hd (HR.o.keep JP.o (λ e=>by have:=cF.o;omega));obtain⟨⟨z0,z1,z2,z3,z4,z5,z6,z7⟩,y0,y1,y2,y3,y4,y5,y6,y7⟩:=eV.o.eight;have fT:=eV.o.lt;go_wp2_with fail
  refine nJ (v:=.tuple #[.agg #[.int .i64 0,false,eS,(),(),(),(),()],false]) (by simp [results,Tryz.results175,go_sem,z0,z1,z2,z3,z4,z5,z6,z7]) rfl ?_;obtain⟨f1,f2,_⟩:=eK (X:=X) (ds:=[]) (vs:=[]) ((dO.o.mono (λ_ _ h=>h.elim)).trans JP.o k3) Gu.o ct.o.1 cF.o trivial (ap wc w.heap.size (.int .i64 0) (.bool false) (.string ⟨#[]⟩) (.slice none 0 0) (.slice none 0 0) (.slice none 0 0) (.slice none 0 0) (.slice none 0 0))
  rw [bO.o];exact⟨rfl,_,XD,Sz.o,f1,f2⟩
 | true=>
  refine (kO nm wa7 true Nu.o pT).mono ?_;rintro e wc ⟨rfl,G8⟩;have Gu:=Hd (Bi.o.keep0 G8);have JP:=Hd (C1.o.trans G8 (λ_ _ h=>h.elim));clear G8;go_wp2_with fail;cases kZ:fF (T.drop Hs) with
  | false=>
   have bO:=Hd (show res=none by rw [R6.o,pT,kZ];rfl);refine (zf wc B cs n Hs d tv T false Gu.o kZ).mono ?_;rintro e wd ⟨rfl,kn⟩;have Su:=Hd (Gu.o.keep0 kn);have Pl:=Hd (JP.o.trans kn (λ_ _ h=>h.elim));clear kn pT kZ;have eV:=Hd (HR.o.keep Pl.o (λ e=>by have:=cF.o;omega));obtain⟨⟨z0,z1,z2,z3,z4,z5,z6,z7⟩,y0,y1,y2,y3,y4,y5,y6,y7⟩:=eV.o.eight;have fT:=eV.o.lt
   go_wp2_with fail;refine nJ (v:=.tuple #[.agg #[.int .i64 0,false,eS,(),(),(),(),()],false]) (by simp [results,Tryz.results175,go_sem,z0,z1,z2,z3,z4,z5,z6,z7]) rfl ?_;obtain⟨f1,f2,_⟩:=eK (X:=X) (ds:=[]) (vs:=[]) ((dO.o.mono (λ_ _ h=>h.elim)).trans Pl.o k3) Su.o ct.o.1 cF.o trivial (ap wd w.heap.size (.int .i64 0) (.bool false) (.string ⟨#[]⟩) (.slice none 0 0) (.slice none 0 0) (.slice none 0 0) (.slice none 0 0) (.slice none 0 0))
   rw [bO.o];exact⟨rfl,_,XD,Sz.o,f1,f2⟩
  | true=>
   have Bh:=Hd (show res=some (cy (ab K) nm (T.drop Hs)) by rw [R6.o,pT,kZ];rfl);have Vr:=Hd (Ia kZ);refine (zf wc B cs n Hs d tv T true Gu.o kZ).mono ?_;rintro e wd ⟨rfl,kn⟩;have Su:=Hd (Gu.o.keep0 kn);have Pl:=Hd (JP.o.trans kn (λ_ _ h=>h.elim));clear kn pT kZ;go_wp2_with fail;refine (Ay K HC.o wd B cs n Hs d tv T nm Su.o HD.o Vr.o).mono ?_
   intro e w2 hp;cases bo:cy (ab K) nm (T.drop Hs) with
   | error y=>
    rw [bo] at hp;obtain⟨rfl,aS⟩:=hp;have bO:=Hd (show res=some (.error y) by rw [Bh.o,bo]);have bZ:=Hd (((dO.o.mono (λ_ _ h=>h.elim)).trans Pl.o k3).trans aS k3);exact BJ
   | ok dr=>
    obtain⟨ds,r⟩:=dr;rw [bo] at hp;obtain⟨vs,⟨rfl,j2,hj2,il,ee,aS⟩,_,eJ,eo⟩:=hp;obtain⟨k,b,s,a0,n0,c0,a1,n1,c1,a2,n2,c2,a3,n3,c3,a4,n4,c4,rfl⟩:=cC eJ eo;have bO:=Hd (show res=some (.ok (ds,r)) by rw [Bh.o,bo]);have bp:=Pl.o.trans aS k3;have hsd:=Pl.o.size;have i8:=sz.o;have eV:=Hd (HR.o.keep bp (λ e=>by have:=cF.o;omega));have bZ:=Hd ((dO.o.mono (λ_ _ h=>h.elim)).trans bp k3)
    have eF:=Hd ee;have eW:=Hd (eo.mono (D':=λ b=>X≤b) (λ b _ hb=>oM));have lY:=Hd eJ;have Fe:=Hd il;have On:i≤j2:=oM
    clear bo aS ee eJ eo il bp hsd i8;obtain⟨⟨z0,z1,z2,z3,z4,z5,z6,z7⟩,y0,y1,y2,y3,y4,y5,y6,y7⟩:=eV.o.eight;have fT:=eV.o.lt;go_wp2_with fail;refine nJ (v:=.tuple #[.agg #[k,b,s,.slice a0 n0 c0,.slice a1 n1 c1,.slice a2 n2 c2,.slice a3 n3 c3,.slice a4 n4 c4],true]) (by simp [results,Tryz.results175,go_sem,z0,z1,z2,z3,z4,z5,z6,z7]) rfl ?_;obtain⟨f1,f2,f3⟩:=eK bZ.o eF.o ct.o.1 cF.o eW.o (ap w2 w.heap.size (.int .i64 k) (.bool b) (.string s) (.slice a0 n0 c0) (.slice a1 n1 c1) (.slice a2 n2 c2) (.slice a3 n3 c3) (.slice a4 n4 c4))
    rw [bO.o];exact⟨[k,b,s,.slice a0 n0 c0,.slice a1 n1 c1,.slice a2 n2 c2,.slice a3 n3 c3,.slice a4 n4 c4],⟨rfl,_,On,Fe.o,f1,f2⟩,lY.o,f3⟩
theorem As:iI 0:=by
 intro w B cs n i d tv T h hd;obtain⟨res,ag⟩:∃res,res=ab 0 (T.drop i):=⟨_,rfl⟩;rw [←ag];have ov:=aT;have ay:=Hd ag;have HH:=Lib.hid h;have HD:=Hd hd;have cF:=Hd h.lt;clear ag h hd;go_enter Tryz.func154,Tryz.ntmps154;go_wp2_with fail;obtain⟨W,hW⟩:∃W,W=w.alloc (.cells #[.int .i64 0,false,eS,(),(),(),(),()] 44):=⟨_,rfl⟩
 have eG:K0 w W:=by rw [hW];exact (ae.refl _ _).alloc _
 have HR:=Hd (show af W w.heap.size [.int .i64 0,false,eS,(),(),(),(),()] by rw [hW];exact aD _ _ _ _ _ _ _ _ _ _);rw [←hW];have dO:=Hd eG;have HX:=Hd (show w.heap.size<W.heap.size by rw [hW];simp);have HS:=Hd (HH.o.keep0 eG);clear eG hW;cases hb:bB (T.drop i) with
 | false=>
  exact QV
 | true=>
  refine (iB W B cs n i d tv T true HS.o hb).mono ?_;rintro e w1 ⟨rfl,bt⟩;have dF:=Hd (HS.o.keep0 bt);have dp:=Hd bt;obtain⟨c0,c1,c2,Nd,Nf⟩:=dF.o.cells;have mj:=dF.o.lt;clear bt;go_wp2_with fail;refine (df _).mono ?_;rintro e w2 ⟨rfl,rfl⟩;have bO:=Hd (show res=.error 3 by rw [ay.o];unfold ab;rw [hb];rfl);have bZ:=Hd ((dO.o.mono (T:=λ b=>b=cs) (λ_ _ h=>h.elim)).trans dp.o (λ_ _ h=>h.elim))
  have t0:((d:Int)==40)=true:=by rw [nH];have:=HD.o;omega
  clear hb;go_wp2_with fail;refine (s7 3 _).mono ?_;rintro e w3 ⟨rfl,rfl⟩;exact yL
theorem Ar (K:Nat) (bw:iI K) (cR:oI K):iI (K+1):=by
 intro w B cs n i d tv T h hd;obtain⟨res,ag⟩:∃res,res=ab (K+1) (T.drop i):=⟨_,rfl⟩;rw [←ag];have ov:=aT;have ay:=Hd ag;have HH:=Lib.hid h;have HD:=Hd hd;have cF:=Hd h.lt;clear ag h hd;go_enter Tryz.func154,Tryz.ntmps154;go_wp2_with fail;obtain⟨W,hW⟩:∃W,W=w.alloc (.cells #[.int .i64 0,false,eS,(),(),(),(),()] 44):=⟨_,rfl⟩
 have eG:K0 w W:=by rw [hW];exact (ae.refl _ _).alloc _
 have HR:=Hd (show af W w.heap.size [.int .i64 0,false,eS,(),(),(),(),()] by rw [hW];exact aD _ _ _ _ _ _ _ _ _ _);rw [←hW];have dO:=Hd eG;have HX:=Hd (show w.heap.size<W.heap.size by rw [hW];simp);have HS:=Hd (HH.o.keep0 eG);clear eG hW;cases hb:bB (T.drop i) with
 | false=>
  exact QV
 | true=>
  refine (iB W B cs n i d tv T true HS.o hb).mono ?_;rintro e w1 ⟨rfl,bt⟩;have dF:=Hd (HS.o.keep0 bt);have dp:=Hd bt;obtain⟨c0,c1,c2,Nd,Nf⟩:=dF.o.cells;have mj:=dF.o.lt;clear bt;go_wp2_with fail;refine (df _).mono ?_;rintro e w2 ⟨rfl,rfl⟩;have fN:=Hd (show res=gV (ab K) (av (ab K)) (T.drop i) by rw [ay.o];unfold ab;rw [hb];rfl);have FO:=HD.o
  have t0:((d:Int)==40)=false:=by rw [nA];omega
  have p0:(0:Int)≤(d:Int):=oM
  have p1:(d:Int)≤39:=oM
  obtain⟨cj,aS⟩:=dF.o.set2 (j:=d+1) oM;rw [show ((d+1:Nat):Int)=(d:Int)+1 by omega] at cj aS;obtain⟨w2,aQ⟩:∃w2,w2=w1.setCell ⟨cs,2,none⟩ (.int .i64 ((d:Int)+1)):=⟨_,rfl⟩;rw [←aQ] at cj aS;have gS:=Hd cj;have cA:=Hd ((dp.o.mono (T:=λ b=>b=cs) (λ_ _ h=>h.elim)).trans aS k3);have SE:=Hd aQ;clear hb FO cj aS aQ ay;go_wp2_with fail;rw [←SE.o];clear SE c0 c1 c2 Nd Nf mj t0 p0 p1
  refine (At K bw cR w2 B cs n i (d+1) tv T gS.o (by have:=HD.o;omega)).mono ?_;intro e w3 hp;cases bo:cw (ab K) (av (ab K)) (T.drop i) with
  | some q=>
   have yX:res=q:=by rw [fN.o];unfold gV;rw [bo]
   rw [bo] at hp;clear bo;cases q with
   | error y=>
    obtain⟨rfl,aV⟩:=hp;have bO:=Hd yX;have bZ:=Hd (((dO.o.mono (T:=λ b=>b=cs) (λ_ _ h=>h.elim)).trans cA.o k3).trans aV k3);clear aV yX;exact yL
   | ok dr=>
    obtain⟨ds,r⟩:=dr;obtain⟨vs,⟨rfl,j3,ow,iT,cX,aV⟩,eJ,eo⟩:=hp;obtain⟨k,b,s,a0,n0,c0,a1,n1,c1,a2,n2,c2,a3,n3,c3,a4,n4,c4,rfl⟩:=cC eJ eo;have bO:=Hd yX;obtain⟨N,hN⟩:∃N,N=w3.heap.size:=⟨_,rfl⟩;obtain⟨wr,gU⟩:∃wr,wr=w3.alloc (.cells #[k,b,s,.slice a0 n0 c0,.slice a1 n1 c1,.slice a2 n2 c2,.slice a3 n3 c3,.slice a4 n4 c4] 44):=⟨_,rfl⟩;have tR:K0 w3 wr:=by rw [gU];exact (ae.refl _ _).alloc _
    have bp:=(cA.o.trans aV k3).trans tR (λ_ _ h=>h.elim);have Dn:=Hd (show af wr N [k,b,s,.slice a0 n0 c0,.slice a1 n1 c1,.slice a2 n2 c2,.slice a3 n3 c3,.slice a4 n4 c4] by rw [gU,hN];exact aD _ _ _ _ _ _ _ _ _ _);have C2:=Hd (show cs<N by rw [hN];exact cX.lt);have Ps:=Hd (cX.keep0 tR);have cj:=cA.o.size;have hx:=HX.o;have qA:=cF.o
    have gW:=Hd ((dO.o.mono (T:=λ b=>b=cs) (λ_ _ h=>h.elim)).trans bp k3);have Sr:=Hd ((eo.keep tR (λ_ _ _ h=>h)).mono (D':=λ b=>W.heap.size≤b) (λ b _ hb=>oM));have Sk:=Hd eJ;have pZ:=Hd (HR.o.keep bp (λ e=>oM));have uu:=Hd iT;have HN:=Hd hN;have rg:=Hd gU;clear aV cX eJ eo iT tR bp cj hx qA hN gU yX;go_upto_region 6 with fail;rw [←rg.o,←HN.o]
    obtain⟨d0,d1,d2,g1,g2⟩:=Ps.o.cells;have hdl:=Ps.o.lt;have FO:=HD.o;have q0:((d:Int)+1) - 1=(d:Int):=oM
    have q1:(0:Int)≤(d:Int):=oM
    have q2:(d:Int)≤40:=oM
    rw [show ((d+1:Nat):Int)=(d:Int)+1 by omega] at d2;obtain⟨B7,iQ⟩:=Ps.o.set2 (j:=d) oM;obtain⟨w9,xN⟩:∃w9,w9=wr.setCell ⟨cs,2,none⟩ (.int .i64 (d:Nat)):=⟨_,rfl⟩;rw [←xN] at B7 iQ;have qA:=cF.o;have hx:=HX.o;have Gt:=Hd B7;have cM:=C2.o;have JO:=Hd (gW.o.trans iQ k3);have J0:=Hd (Sr.o.keep iQ (λ b _ hb e=>oM));obtain⟨⟨v0,v1,v2,v3,v4,v5,v6,v7⟩,_⟩:=(show af w9 N [k,b,s,.slice a0 n0 c0,.slice a1 n1 c1,.slice a2 n2 c2,.slice a3 n3 c3,.slice a4 n4 c4] from Dn.o.keep iQ (λ e=>oM)).eight
    have oW:=(Dn.o.keep iQ (λ e=>oM)).lt;have TS:=pZ.o.keep iQ (λ e=>oM);obtain⟨⟨z0,z1,z2,z3,z4,z5,z6,z7⟩,y0,y1,y2,y3,y4,y5,y6,y7⟩:=TS.eight;have fT:=TS.lt;have SF:=Hd xN;clear B7 iQ qA TS xN FO;go_upto_region 9 with fail;rw [←SF.o];go_wp2_with fail;refine nJ (v:=.agg #[k,b,s,.slice a0 n0 c0,.slice a1 n1 c1,.slice a2 n2 c2,.slice a3 n3 c3,.slice a4 n4 c4]) (by simp [results,Tryz.results154,go_sem,z0,z1,z2,z3,z4,z5,z6,z7]) rfl ?_
    obtain⟨f1,f2,f3⟩:=eK JO.o Gt.o HX.o cF.o J0.o (ap w9 w.heap.size (.int .i64 k) (.bool b) (.string s) (.slice a0 n0 c0) (.slice a1 n1 c1) (.slice a2 n2 c2) (.slice a3 n3 c3) (.slice a4 n4 c4));rw [bO.o];exact⟨[k,b,s,.slice a0 n0 c0,.slice a1 n1 c1,.slice a2 n2 c2,.slice a3 n3 c3,.slice a4 n4 c4],⟨rfl,_,oM,uu.o,f1,f2⟩,trivial,Sk.o,f3⟩
  | none=>
   have yX:res=bj (av (ab K)) ((T.drop i).length+1) [] [] [] (T.drop i):=by rw [fN.o];unfold gV;rw [bo]
   rw [bo] at hp;obtain⟨rfl,j3,ow,iT,cX,aV⟩:=hp;rw [←iT] at yX;have HRQ:=Hd yX;obtain⟨N,hN⟩:∃N,N=w3.heap.size:=⟨_,rfl⟩;obtain⟨wr,gU⟩:∃wr,wr=w3.alloc (.cells #[.int .i64 0,false,eS,(),(),(),(),()] 44):=⟨_,rfl⟩;have tR:K0 w3 wr:=by rw [gU];exact (ae.refl _ _).alloc _
   have bp:=(cA.o.trans aV k3).trans tR (λ_ _ h=>h.elim);have yx:=Hd (show af wr N [.int .i64 0,false,eS,(),(),(),(),()] by rw [gU,hN];exact aD _ _ _ _ _ _ _ _ _ _);have C2:=Hd (show cs<N∧w.heap.size<N by
    have h1:=cX.lt;have h2:=HX.o;have h3:=(cA.o.trans aV k3).size;omega)
   have Ps:=Hd (cX.keep0 tR);have HKK:=Hd bp;have HNS:=Hd (show N<wr.heap.size by rw [gU,hN];simp);have HN:=Hd hN;have rg:=Hd gU;clear bo aV cX iT tR bp hN gU yX;go_upto_region 6 with fail;rw [←rg.o,←HN.o];go_wp2_with fail;refine (EO K bw cR wr B cs n j3 (d+1) tv T Ps.o (by have:=HD.o;omega)).mono ?_;intro e w4 hp;cases bo:bj (av (ab K)) ((T.drop j3).length+1) [] [] [] (T.drop j3) with
   | error y=>
    rw [bo] at hp;obtain⟨rfl,be⟩:=hp;have bO:=Hd (show res=.error y by rw [HRQ.o,bo]);have bZ:=Hd (((dO.o.mono (T:=λ b=>b=cs) (λ_ _ h=>h.elim)).trans HKK.o k3).trans be k3);clear be bo;exact yL
   | ok dr=>
    obtain⟨ds,r⟩:=dr;rw [bo] at hp;obtain⟨vs,⟨rfl,j4,kB,iY,cG,be⟩,_,eJ,eo⟩:=hp;obtain⟨k,b,s,a0,n0,c0,a1,n1,c1,a2,n2,c2,a3,n3,c3,a4,n4,c4,rfl⟩:=cC eJ eo;have bO:=Hd (show res=.ok (ds,r) by rw [HRQ.o,bo]);obtain⟨w5,jk⟩:∃w5,w5=((((((((w4.setCell ⟨N,0,none⟩ (.int .i64 k)).setCell ⟨N,1,none⟩ (.bool b)).setCell ⟨N,2,none⟩ (.string s)).setCell ⟨N,3,none⟩ (.slice a0 n0 c0)).setCell ⟨N,4,none⟩ (.slice a1 n1 c1)).setCell ⟨N,5,none⟩ (.slice a2 n2 c2)).setCell ⟨N,6,none⟩ (.slice a3 n3 c3)).setCell ⟨N,7,none⟩ (.slice a4 n4 c4)):=⟨_,rfl⟩
    have bi:ae (λ b=>b=N) w4 w5:=by rw [jk];exact ap _ _ _ _ _ _ _ _ _ _
    have bp:=HKK.o.trans be k3;have UR:=C2.o;have hns:=HNS.o;have hx:=HX.o;have qA:=cF.o;have hB:=cG.cs;have d6:=HKK.o.size;have Zc:=yx.o.keep be (λ e=>oM);have Dn:=Hd (show af w5 N [k,b,s,.slice a0 n0 c0,.slice a1 n1 c1,.slice a2 n2 c2,.slice a3 n3 c3,.slice a4 n4 c4] by rw [jk];exact lo Zc _ _ _ _ _ _ _ _);have Sw:=Hd (cG.keep bi (λ b hb e=>oM) (λ e=>oM))
    have gW:=Hd (((dO.o.mono (T:=λ b=>b=cs) (λ_ _ h=>h.elim)).trans bp k3).fresh bi (λ b e=>oM));have Sr:=Hd ((eo.keep bi (λ b _ hb e=>oM)).mono (D':=λ b=>W.heap.size≤b) (λ b _ hb=>oM));have Sk:=Hd eJ;have pZ:=Hd ((HR.o.keep bp (λ e=>oM)).keep bi (λ e=>oM));have Bx:=Hd iY;have C2:=Hd UR.1;obtain⟨⟨u0,u1,u2,u3,u4,u5,u6,u7⟩,e0,e1,e2,e3,e4,e5,e6,e7⟩:=Zc.eight
    have LS:=Zc.lt;have uP:=Hd jk;clear be cG eJ eo iY bi bp UR hns hx qA hB d6 Zc jk bo;go_upto_region 8 with fail;rw [←uP.o];clear u0 u1 u2 u3 u4 u5 u6 u7 e0 e1 e2 e3 e4 e5 e6 e7 LS;obtain⟨d0,d1,d2,g1,g2⟩:=Sw.o.cells;have hdl:=Sw.o.lt;have FO:=HD.o;have q0:((d:Int)+1) - 1=(d:Int):=oM
    have q1:(0:Int)≤(d:Int):=oM
    have q2:(d:Int)≤40:=oM
    rw [show ((d+1:Nat):Int)=(d:Int)+1 by omega] at d2;obtain⟨B7,iQ⟩:=Sw.o.set2 (j:=d) oM;obtain⟨w9,xN⟩:∃w9,w9=w5.setCell ⟨cs,2,none⟩ (.int .i64 (d:Nat)):=⟨_,rfl⟩;rw [←xN] at B7 iQ;have qA:=cF.o;have hx:=HX.o;have Gt:=Hd B7;have cM:=C2.o;have JO:=Hd (gW.o.trans iQ k3);have J0:=Hd (Sr.o.keep iQ (λ b _ hb e=>oM));obtain⟨⟨v0,v1,v2,v3,v4,v5,v6,v7⟩,_⟩:=(show af w9 N [k,b,s,.slice a0 n0 c0,.slice a1 n1 c1,.slice a2 n2 c2,.slice a3 n3 c3,.slice a4 n4 c4] from Dn.o.keep iQ (λ e=>oM)).eight
    have oW:=(Dn.o.keep iQ (λ e=>oM)).lt;have TS:=pZ.o.keep iQ (λ e=>oM);obtain⟨⟨z0,z1,z2,z3,z4,z5,z6,z7⟩,y0,y1,y2,y3,y4,y5,y6,y7⟩:=TS.eight;have fT:=TS.lt;have SF:=Hd xN;clear B7 iQ qA TS xN FO;go_upto_region 9 with fail;rw [←SF.o];go_wp2_with fail;refine nJ (v:=.agg #[k,b,s,.slice a0 n0 c0,.slice a1 n1 c1,.slice a2 n2 c2,.slice a3 n3 c3,.slice a4 n4 c4]) (by simp [results,Tryz.results154,go_sem,z0,z1,z2,z3,z4,z5,z6,z7]) rfl ?_
    obtain⟨f1,f2,f3⟩:=eK JO.o Gt.o HX.o cF.o J0.o (ap w9 w.heap.size (.int .i64 k) (.bool b) (.string s) (.slice a0 n0 c0) (.slice a1 n1 c1) (.slice a2 n2 c2) (.slice a3 n3 c3) (.slice a4 n4 c4));rw [bO.o];exact⟨[k,b,s,.slice a0 n0 c0,.slice a1 n1 c1,.slice a2 n2 c2,.slice a3 n3 c3,.slice a4 n4 c4],⟨rfl,_,oM,Bx.o,f1,f2⟩,trivial,Sk.o,f3⟩
theorem mD (p q:Addr) (w:World) :
 CallsD Tryz.prog 88 #[.pointer (some p),.pointer (some q)] .returning w λ e u' w'=>e=.returned (.tuple #[])∧u'=.returning∧w'=w:=by
 refine callsD_of_wpS Tryz.func88 rfl λ c₀ cs hu=>?_;apply wpS_seq;apply wpS_region;simp [wpOpsS,go_sem,recoverD,hu,Tryz.ntmps88,Exit.thenS];apply wpS_seq;apply wpS_region;simp [wpOpsS,go_sem,Exit.thenS];refine wpS_cond (t:=false) (by simp [Act.eval,Array.replicate]) ?_;simp only [Bool.false_eq_true,if_false];refine wpS_of_wp (wp_skip ?_);cases c₀
 simp_all [bodyPostS,results,Tryz.results88]
theorem uj (a b:Nat) (x:Nat) (u0 u1:Value) (Ck:List PanicEntry) (w:World) (hp:w.cell? ⟨a,0,none⟩=some u0) (hq:w.cell? ⟨b,0,none⟩=some u1) (hpf:w.frozen? ⟨a,0,none⟩=false) (hqf:w.frozen? ⟨b,0,none⟩=false) (hpq:a≠b) (la:a<w.heap.size) (lb:b<w.heap.size) :
 CallsD Tryz.prog 88 #[.pointer (some ⟨a,0,none⟩),.pointer (some ⟨b,0,none⟩)] (.panicking ({ v:=.iface 131 (.agg #[x]),recovered:=false }::Ck)) w λ e u' w'=>
  e=.returned (.tuple #[])∧u'=.panicking ({ v:=.iface 131 (.agg #[x]),recovered:=true }::Ck)∧w'=(((w.setCell ⟨a,0,none⟩ (.slice none 0 0)).setCell ⟨b,0,none⟩ (.int .i64 x)).alloc (.cells #[x] 131)).drew:=by
 have ha:∀(v:Value) (W:World),(Instr.typeAssert (.iface 131 v) 20 131 true).run Tryz.prog W=.ok (.tuple #[v,.bool true]) W:=λ v W=>kR
 refine callsD_of_wpS Tryz.func88 rfl λ c₀ cs hu=>?_;apply wpS_seq;apply wpS_region;simp [wpOpsS,go_sem,recoverD,hu,Tryz.ntmps88,Exit.thenS];apply wpS_seq;apply wpS_region;simp [wpOpsS,go_sem,Exit.thenS];refine wpS_cond (t:=true) (by simp [Act.eval,Array.replicate]) ?_;simp only [if_true];refine wpS_of_wp ?_;rw [show (#[Value.pointer (some ⟨a,0,none⟩),Value.pointer (some ⟨b,0,none⟩)]++((((Array.replicate 16 undef).setIfInBounds 3 (Value.iface 131 (Value.agg #[Value.int IntKind.i64 (x:Int)]))).setIfInBounds 0 (Value.iface 131 (Value.agg #[Value.int IntKind.i64 (x:Int)]))).setIfInBounds 4 (Value.iface 131 (Value.agg #[Value.int IntKind.i64 (x:Int)]))).setIfInBounds 5 (Value.bool true)) =
  #[Value.pointer (some ⟨a,0,none⟩),Value.pointer (some ⟨b,0,none⟩),(Value.iface 131 (Value.agg #[Value.int IntKind.i64 (x:Int)])),undef,undef,(Value.iface 131 (Value.agg #[Value.int IntKind.i64 (x:Int)])),(Value.iface 131 (Value.agg #[Value.int IntKind.i64 (x:Int)])),Value.bool true,undef,undef,undef,undef,undef,undef,undef,undef,undef,undef] from rfl]
 go_wp2_with fail;go_region;go_wp2_with fail;cases c₀
 simp_all [bodyPostS,results,Tryz.results88]
theorem zI (K:Nat) (bw:iI K) (w:World) (B n d:Nat) (tv:Value) (T:List Tk) (vQ:Ev w B) (ht:fO w (λ b=>b<B) n T tv) (gM:NM T) (hd:d+K=40) :
 Calls Tryz.prog 60 #[tv,.int .i64 (d:Nat)] w λ e w'=>jC w (og (ab K) T) e w'∧(T=[]→e=.returned (.tuple #[(),.int .i64 0])):=by
 obtain⟨res,ag⟩:∃res,res=og (ab K) T:=⟨_,rfl⟩;rw [←ag];unfold og at ag;have hmf:∀(fn:Fn) (first aC:Array Value) (w:World),(Instr.makeFunc fn first aC).run Tryz.prog w=.ok (.func fn first aC) w:=λ_ _ _ _=>rfl;have ov:=aT;have ay:=Hd ag;have HC:=Hd bw;have HD:=Hd hd;have zO:=Hd vQ;have yz:=Hd ht;have Bw:=Hd gM;obtain⟨ta,tc,rfl,ko,il⟩:=ht.shape;clear ag bw hd vQ ht gM
 obtain⟨L,hL⟩:∃L,L=T.length:=⟨_,rfl⟩;have HL:=Hd hL;have hLm:L≤9223372036854775807:=by unfold maxLen at il;omega
 rw [←hL];rw [←hL] at yz;clear hL ko il;go_enter_defers Tryz.func60,Tryz.ntmps60;go_wp2_with fail;obtain⟨W,hW⟩:∃W,W=((w.alloc (.cells #[()] 23)).alloc (.cells #[.int .i64 0] 35)).alloc (.cells #[.slice ta L tc,.int .i64 0,.int .i64 (d:Nat)] 135):=⟨_,rfl⟩;rw [←hW];have ek:W.heap.size=w.heap.size+1+1+1:=by rw [hW];simp
 obtain⟨cs,iy⟩:∃cs,cs=w.heap.size+1+1:=⟨_,rfl⟩;have eG:K0 w W:=by rw [hW];exact (((ae.refl _ _).alloc _).alloc _).alloc _
 have hR:af W w.heap.size [()]∧af W (w.heap.size+1) [.int .i64 0]∧af W cs [.slice ta L tc,.int .i64 ((0:Nat):Int),.int .i64 (d:Nat)]:=by
  have k1:K0 (w.alloc (.cells #[()] 23)) W:=by rw [hW];exact ((ae.refl _ _).alloc _).alloc _
  have k2:K0 ((w.alloc (.cells #[()] 23)).alloc (.cells #[.int .i64 0] 35)) W:=by rw [hW];exact (ae.refl _ _).alloc _
  have a1:=nG w (.cells #[()] 23);have a2:=nG (w.alloc (.cells #[()] 23)) (.cells #[.int .i64 0] 35);have a3:=nG ((w.alloc (.cells #[()] 23)).alloc (.cells #[.int .i64 0] 35)) (.cells #[.slice ta L tc,.int .i64 0,.int .i64 (d:Nat)] 135);rw [show (w.alloc (.cells #[()] 23)).heap.size=w.heap.size+1 by simp] at a2
  rw [show ((w.alloc (.cells #[()] 23)).alloc (.cells #[.int .i64 0] 35)).heap.size=w.heap.size+1+1 by simp,←hW,←iy] at a3;exact⟨⟨_,(k1.block _ sI (λ h=>h)).trans a1⟩,⟨_,(k2.block _ sI (λ h=>h)).trans a2⟩,⟨_,a3⟩⟩
 have hB:=zO.o.low;have du:RS W B cs (.slice ta L tc) n T 0 d:=⟨hR.2.2,zO.o.keep eG k3,yz.o.keep eG (λ_ _ _ h=>h),oM,nB _,Bw.o,by have:=HD.o;omega⟩;rw [←iy];have tt:=Hd du;have re:=Hd hR.1;have ot:=Hd hR.2.1;have cF:=Hd iy;have xK:=Hd ek;have dO:=Hd eG;clear du hR eG hW hB iy ek;refine (dH W B cs n 0 d _ T tt.o).mono ?_;rintro e w1 ⟨rfl,j1,ku,ko,jj,bt⟩
 obtain⟨r0,r1,r2,f1,f2⟩:=jj.cells;have rlt:=jj.lt;rw [List.drop_zero] at ko;have aa6:=jj.i;have dF:=Hd jj;have dp:=Hd bt;have Nx:=Hd (re.o.keep bt (λ e=>by have:=cF.o;omega));have JZ:=Hd (ot.o.keep bt (λ e=>by have:=cF.o;omega));have uy:(ai T).length=T.length - j1:=by rw [←ko,nI]
 have Bj:=Hd ko;clear jj bt ko re ot tt;obtain⟨d0,e0⟩:=Nx.o.one;obtain⟨d1,e1⟩:=JZ.o.one;have WX:=JZ.o.lt;by_cases rh:(ai T).isEmpty=true
 ·have Ji:(ai T).length=0:=by rw [List.isEmpty_iff] at rh;rw [rh];rfl
  have t0:((j1:Int)==(L:Int))=true:=by rw [nH];have:=HL.o;omega
  have bO:=Hd (show res=.ok [] by rw [ay.o,nE rh]);clear rh Ji uy;go_wp2_with fail;refine leaves_cons (f:=88) (args:=#[.pointer (some ⟨w.heap.size,0,none⟩),.pointer (some ⟨w.heap.size+1,0,none⟩)]) sI (by simp [go_sem]) ?_;refine (mD _ _ _).mono ?_;rintro e u' Yn ⟨rfl,rfl,rfl⟩;obtain⟨W5,ou,k0,k1,bi⟩:=oP (u:=.slice none 0 0) Nx.o JZ.o;rw [←ou];refine⟨.tuple #[(),.int .i64 0],by simp [results,Tryz.results60,go_sem,k0,k1],?_⟩
  rw [bO.o];have ek:=xK.o;have iy:=cF.o;exact⟨⟨none,0,0,rfl,.nil _ _ _ (nB _),(dO.o.trans dp.o (λ b hb e=>oM)).trans bi (λ b hb e=>oM)⟩,λ_=>rfl⟩
 ·have hT:T≠[]:=λ h=>rh (by rw [h];rfl);have Ji:(ai T).length≠0:=λ h=>rh (by rw [List.isEmpty_iff];exact nO h);have t0:((j1:Int)==(L:Int))=false:=by rw [nA];have:=HL.o;omega
  have qk:=Hd hT;have bO:=Hd (show res=match mM (ab K) (ai T) with
   | .error e=>.error e
   | .ok (l,r)=>if r.isEmpty then .ok (mi l) else .error 2 by rw [ay.o,nF rh];rfl)
  clear rh Ji uy hT ay;go_wp2_with fail;refine (Fj K HC.o w1 B cs n j1 d _ T dF.o HD.o).mono ?_;intro e w2 hp;rw [Bj.o] at hp;cases bo:mM (ab K) (ai T) with
  | error y=>
   rw [bo] at hp;obtain⟨rfl,aS⟩:=hp;have HR:=Hd (show res=.error y by rw [bO.o,bo]);have hA:=Nx.o.keep aS (λ e=>by have:=cF.o;omega);have hB:=JZ.o.keep aS (λ e=>by have:=cF.o;omega);have HA:=Hd hA;have HB:=Hd hB;have cA:=Hd aS;clear hA hB aS bo;go_wp2_with fail;refine leaves_cons (f:=88) (args:=#[.pointer (some ⟨w.heap.size,0,none⟩),.pointer (some ⟨w.heap.size+1,0,none⟩)]) sI (by simp [go_sem]) ?_
   refine (uj _ _ y _ _ [] _ HA.o.one.1 HB.o.one.1 HA.o.one.2 HB.o.one.2 oM HA.o.lt HB.o.lt).mono ?_;rintro e u' Yn ⟨rfl,rfl,rfl⟩;obtain⟨W4,gL,k0,k1,be⟩:=ma (x:=y) (o:=.cells #[y] 131) HA.o HB.o;rw [←gL];have Yf:W4.drew.cell? ⟨w.heap.size,0,none⟩=some (.slice none 0 0):=k0;have Yg:W4.drew.cell? ⟨w.heap.size+1,0,none⟩=some (.int .i64 y):=k1
   simp [Leaves,settle,results,Tryz.results60,go_sem,Yf,Yg];refine⟨?_,λ h=>nQ h qk.o⟩;rw [HR.o];have ek:=xK.o;have iy:=cF.o;exact⟨rfl,((((dO.o.trans dp.o (λ b hb e=>oM)).trans cA.o (λ b hb e=>oM)).trans be (λ b hb e=>oM)).trans ((ae.refl (λ_=>False) W4).drew) k3)⟩
  | ok dr=>
   obtain⟨ds,r⟩:=dr;rw [bo] at hp;obtain⟨a,m,c,⟨rfl,j2,hj2,il,ee,aS⟩,Y4,eo⟩:=hp;have HR:=Hd (show res=if r.isEmpty then .ok (mi ds) else .error 2 by rw [bO.o,bo]);have gS:=Hd ee;have cA:=Hd aS;have zV:=Hd eo;have HAL:=Hd Y4;have C8:r.length=T.length - j2:=by rw [←il,nI]
   have Om:=ee.i;have Z6:=Hd (Nx.o.keep aS (λ e=>by have:=cF.o;omega));have Z7:=Hd (JZ.o.keep aS (λ e=>by have:=cF.o;omega));clear bo ee aS eo Y4 il r0 r1 r2 f1 f2 rlt d0 e0 d1 e1 WX;go_wp2_with fail;refine (Gd w2 _ ds a m c zV.o HAL.o).mono ?_;rintro e w3 ⟨vs,rfl,eJ,me,aV⟩;obtain⟨kd,bb,ss,a0,n0,c0,a1,n1,c1,a2,n2,c2,a3,n3,c3,a4,n4,c4,rfl⟩:=cC eJ me
   have lY:=Hd eJ;have eW:=Hd me;have bZ:=Hd aV;obtain⟨W4,gL⟩:∃W4,W4=w3.alloc (.cells #[kd,bb,ss,.slice a0 n0 c0,.slice a1 n1 c1,.slice a2 n2 c2,.slice a3 n3 c3,.slice a4 n4 c4] 44):=⟨_,rfl⟩;have be:K0 w2 W4:=by rw [gL];exact (bZ.o.trans ((ae.refl _ _).alloc _) k3)
   obtain⟨r0,r1,r2,f1,f2⟩:=(gS.o.keep0 be).cells;have rlt:=(gS.o.keep0 be).lt;have HA:=Hd (Z6.o.keep be (λ h=>h));have HB:=Hd (Z7.o.keep be (λ h=>h));have HN:=Hd (show af W4 w3.heap.size [kd,bb,ss,.slice a0 n0 c0,.slice a1 n1 c1,.slice a2 n2 c2,.slice a3 n3 c3,.slice a4 n4 c4] by rw [gL];exact aD _ _ _ _ _ _ _ _ _ _);have eU:=Hd be;have NG:=Hd gL
   clear eJ me aV be gL;by_cases rh:r.isEmpty=true
   ·have Ji:r.length=0:=by rw [List.isEmpty_iff] at rh;rw [rh];rfl
    have t1:((j2:Int)==(L:Int))=true:=by rw [nH];have:=HL.o;omega
    have HF:=Hd (show res=.ok (mi ds) by rw [HR.o,nE rh]);clear rh Ji C8;go_wp2_with (rw [←NG.o]);refine (df W4).mono ?_;rintro e w5 ⟨rfl,rfl⟩;obtain⟨⟨q0,q1,q2,q3,q4,q5,q6,q7⟩,_⟩:=HN.o.eight;have qlt:=HN.o.lt;obtain⟨d0,e0⟩:=HA.o.one;obtain⟨d1,e1⟩:=HB.o.one;have WX:=HB.o.lt;have acA:=HA.o.lt;go_wp2_with fail;refine leaves_cons (f:=88) (args:=#[.pointer (some ⟨w.heap.size,0,none⟩),.pointer (some ⟨w.heap.size+1,0,none⟩)]) sI (by simp [go_sem]) ?_
    refine (mD _ _ _).mono ?_;rintro e u' Yn ⟨rfl,rfl,rfl⟩;obtain⟨W5,ou,k0,k1,bi⟩:=oP (u:=.slice (some ⟨W4.heap.size,0,none⟩) 1 1) HA.o HB.o;rw [←ou];obtain⟨W6,i4⟩:∃W6,W6=W5.alloc (.cells #[kd,bb,ss,.slice a0 n0 c0,.slice a1 n1 c1,.slice a2 n2 c2,.slice a3 n3 c3,.slice a4 n4 c4] 44):=⟨_,rfl⟩;rw [←i4];have cu:K0 W5 W6:=by rw [i4];exact (ae.refl _ _).alloc _
    have dV:W5.heap.size=W4.heap.size:=by rw [ou];simp
    have Yf:=(uH (a:=⟨w.heap.size,0,none⟩) (cu.block w.heap.size (by rw [dV];exact HA.o.lt) (λ h=>h))).trans k0;have Yg:=(uH (a:=⟨w.heap.size+1,0,none⟩) (cu.block (w.heap.size+1) (by rw [dV];exact HB.o.lt) (λ h=>h))).trans k1;refine⟨.tuple #[.slice (some ⟨W4.heap.size,0,none⟩) 1 1,.int .i64 0],by simp [results,Tryz.results60,go_sem,Yf,Yg],?_⟩;refine⟨?_,λ h=>nQ h qk.o⟩
    rw [HF.o];have ek:=xK.o;have iy:=cF.o;have dL:=dp.o.size;have abE:ae (λ b=>b=w.heap.size∨b=w.heap.size+1) w3 W5:=by
     have yd:K0 w3 W4:=by rw [NG.o];exact (ae.refl _ _).alloc _
     exact (yd.mono (λ_ _ h=>h.elim)).trans bi k3
    have lD:=eW.o.keep abE (λ b hb h1 e=>oM);have Oz:=fk (w1:=W6) (k:=8) (m:=1) (lD.mono (D':=λ b=>w.heap.size≤b) (λ b _ h=>oM)) lY.o.len dC i4 (by have:=HA.o.lt;omega);rw [dV] at Oz;exact⟨_,1,1,rfl,Oz,((((dO.o.trans dp.o (λ b hb e=>oM)).trans cA.o (λ b hb e=>oM)).trans eU.o k3).trans bi (λ b hb e=>oM)).trans cu k3⟩
   ·have Ji:r.length≠0:=λ h=>rh (by rw [List.isEmpty_iff];exact nO h);have t1:((j2:Int)==(L:Int))=false:=by rw [nA];have:=HL.o;omega
    have HF:=Hd (show res=.error 2 by rw [HR.o,nF rh]);clear rh Ji C8;go_wp2_with (rw [←NG.o]);refine (jE W4).mono ?_;rintro e w5 ⟨rfl,rfl⟩;go_wp2_with fail;refine leaves_cons (f:=88) (args:=#[.pointer (some ⟨w.heap.size,0,none⟩),.pointer (some ⟨w.heap.size+1,0,none⟩)]) sI (by simp [go_sem]) ?_;refine (uj _ _ 2 _ _ [] _ HA.o.one.1 HB.o.one.1 HA.o.one.2 HB.o.one.2 oM HA.o.lt HB.o.lt).mono ?_
    rintro e u' Yn ⟨rfl,rfl,rfl⟩;obtain⟨W5,ou,k0,k1,bi⟩:=ma (x:=2) (o:=.cells #[.int .i64 ((2:Nat):Int)] 131) HA.o HB.o;rw [←ou];have Yf:W5.drew.cell? ⟨w.heap.size,0,none⟩=some (.slice none 0 0):=k0;have Yg:W5.drew.cell? ⟨w.heap.size+1,0,none⟩=some (.int .i64 ((2:Nat):Int)):=k1;simp [Leaves,settle,results,Tryz.results60,go_sem,Yf,Yg];refine⟨?_,λ h=>nQ h qk.o⟩;rw [HF.o]
    have ek:=xK.o;have iy:=cF.o;exact⟨rfl,(((((dO.o.trans dp.o (λ b hb e=>oM)).trans cA.o (λ b hb e=>oM)).trans eU.o k3).trans bi (λ b hb e=>oM)).trans ((ae.refl (λ_=>False) W5).drew) k3)⟩
theorem jC.below {w w1 w':World} {res:Except Nat (List Dt)} {e:Ending} (hk:K0 w w1) (h:jC w1 res e w'):jC w res e w':=by
 have hs:=hk.size;cases res with
 | ok ds=>
  obtain⟨a,m,c,he,hr,aS⟩:=h;exact⟨a,m,c,he,hr.mono (λ b _ hb=>oM),hk.trans aS k3⟩
 | error x=>exact⟨h.1,hk.trans h.2 k3⟩
theorem zv {w w':World} {res:Except Nat (List Dt)} {e:Ending} (h:jC w res e w'):∃(a:OA) (m c:Nat) (x:Nat),e=.returned (.tuple #[.slice a m c,.int .i64 (x:Nat)]):=by
 exact Qj
theorem zw (K:Nat) (bw:iI K):oI K:=by
 intro w B s d vQ hs hd;have HC:=Hd bw;have zO:=Hd vQ;have HD:=Hd hd;obtain⟨res,ag⟩:∃res,res=eQ (ab K) s.data.toList:=⟨_,rfl⟩;rw [←ag];unfold eQ at ag;have ay:=Hd ag;clear bw vQ hd ag;go_enter Tryz.func31,Tryz.ntmps31;go_wp2_with fail;refine (E0 s w hs).mono ?_;intro e w1 hp;cases gB:ff s.data.toList with
 | error x=>
  rw [gB] at hp;obtain⟨rfl,bt⟩:=hp;have bO:=Hd (show res=.error x by rw [ay.o,gB]);have HK:=Hd bt;by_cases h0:x=0
  ·subst h0;have R8:=Hd (zO.o.keep bt k3);clear bt gB;go_wp2_with fail;refine (zI K HC.o w1 B 0 d (.slice none 0 0) [] R8.o (fO.nil _ _ _) ⟨dC,λ t ht=>by cases ht⟩ HD.o).mono ?_;rintro e w2 ⟨hp,he⟩;have he:=he rfl;subst he;have cA:=Hd (HK.o.trans (show K0 w1 w2 by
    obtain⟨_,_,_,_,_,h⟩:=hp;exact h) k3)
   clear hp;go_wp2_with fail;go_ret2;rw [bO.o];exact⟨rfl,cA.o⟩
  ·exact P2
 | ok T=>
  rw [gB] at hp;obtain⟨v,n,rfl,hT,bt⟩:=hp;obtain⟨ta,tc,rfl,_,_⟩:=hT.shape;have bO:=Hd (show res=og (ab K) T by rw [ay.o,gB]);have Bw:=Hd (xy gB);have HK:=Hd bt;have HT:=Hd (show fO w1 (λ b=>w.heap.size≤b∧b<w1.heap.size) n T _ from hT.mono λ b hb h=>⟨h,hb⟩);have R8:=Hd ((zO.o.keep bt k3).mono (B':=w1.heap.size) (by have:=zO.o.low;have:=bt.size;omega) (nC _))
  clear bt gB hT;go_wp2_with fail;refine (zI K HC.o w1 w1.heap.size n d _ T R8.o (HT.o.mono λ b hb h=>h.2) Bw.o HD.o).mono ?_;rintro e w2 ⟨hp,_⟩;rw [←bO.o] at hp;have uL:=hp.below HK.o;have HP:=Hd uL;obtain⟨a,m,c,x,rfl⟩:=zv uL;clear hp uL;exact FC
theorem An:∀K,iI K
 | 0=>As
 | K+1=>Ar K (An K) (zw K (An K))
theorem Ic (w:World) (B:Nat) (s:ByteArray) (vQ:Ev w B) (hs:s.size≤140737488351232) :
 Calls Tryz.prog 17 #[s] w (jC w (o6 s.data.toList)):=by
 obtain⟨res,ag⟩:∃res,res=o6 s.data.toList:=⟨_,rfl⟩;rw [←ag];have ay:=Hd ag;have zO:=Hd vQ;clear ag vQ;go_enter Tryz.func17,Tryz.ntmps17;go_wp2_with fail;refine (zw 40 (An 40) w B s 0 zO.o hs rfl).mono ?_;intro e w2 hp;rw [show eQ (ab 40) s.data.toList=res from ay.o.symm] at hp;have HP:=Hd hp;obtain⟨a,m,c,x,rfl⟩:=zv hp;clear hp;exact FC
def SN:List Dt:=cE 5 false [] [] [] [] (cE 3 false [] [] [] [] (cE 1 false [] [aB [dD [97]]] [] [] [] []++cE 1 false [] [aB [dD [98]]] [] [] [] []) []++cE 1 false [] [aB [dD [99]]] [] [] [] []) []
theorem BB:o6 [97,32,38,38,32,98,59,32,99]=.ok SN:=rF
def T5:List (List UInt8):=[[105,102],[116,104,101,110],[101,108,105,102],[101,108,115,101],[102,105],[119,104,105,108,101],[117,110,116,105,108],[100,111],[100,111,110,101],[102,111,114],[105,110],[99,97,115,101],[101,115,97,99],[123],[125],[33]]
theorem ae.below0 {S:Nat→Prop} {a b:World} (h:ae S a b) (hS:∀x,S x→a.heap.size≤x):Below a.heap.size a b:=(h.mono λ x _ s=>hS x s).below (nC _)
theorem IU {P:Program} {W:World} {x:String×DataW Unit} {rest:List (String×DataW Unit)} {ps:List MemPlace} (h:DataW.LaidVars P W (x::rest) ps):∃q,DataW.LaidVars P W rest q:=by
 obtain⟨nm,d⟩:=x;obtain⟨g',t',cs,aaU,p,q,_,_,_,_,h2,_⟩:=h;exact⟨q,h2⟩
theorem CS {P:Program} {W:World} {name:String} {k:IntKind} {zs:List Int} {rest:List (String×DataW Unit)} {ps:List MemPlace} {g:Nat} {t e:TypeId} {n:Nat}
 (hg:P.globalNamed name=some g) (hty:(P.globals[g]?).map (·.type)=some t) (ht:P.underlying t=some (.array n e)) (he:P.underlying e=some (.int k)) (hce:P.cellsOf e=1) (hct:P.cellsOf t=n)
 (h:DataW.LaidVars P W ((name,Lib.tabData k zs)::rest) ps):Lib.TabIs P W name k zs:=by
 obtain⟨g',t',cs,aaU,p,q,AE,ht',abZ,hd,_,_⟩:=h;obtain rfl:=nD (hg.symm.trans AE);obtain rfl:=nD (hty.symm.trans ht');unfold Lib.TabIs;rw [abZ,←Lib.cells_of_tab ht he hce hct hd]
theorem Eo (w:World) (h:w.ShapedOpen Tryz.prog):∃m,w.cell? ⟨0,0,none⟩=some (.int .i64 m):=Go.Proofs.cell_of_shapedOpen_int (zero:=#[.int .i64 0]) (t:=3) h (of_decide_eq_true kR) kR rfl kR kR Tryz.underlying3
theorem ev_of {l : List (String × DataW Unit)} (hl : l = [("unicode.White_Space", Rows.laid_unicode_White_Space), ("strings.asciiSpace", Rows.laid_strings_asciiSpace)])
 {W:World} (h:laidMetH Tryz.prog l W) (Zd:W.ShapedOpen Tryz.prog):Ev W W.heap.size:=by
 subst hl;have h1 : laidMet Tryz.prog [("unicode.White_Space", Rows.laid_unicode_White_Space), ("strings.asciiSpace", Rows.laid_strings_asciiSpace)] W := h
 have h0:(Rows.laid_strings_asciiSpace:DataW Unit)=Lib.tabData .u8 Lib.asciiSpaceTab:=kR
 rw [h0] at h1;obtain⟨ps,h2,_⟩:=h1;obtain⟨q,h3⟩:=IU h2;have t1:=CS (g:=3) (t:=168) (e:=5) (n:=256) kR kR kR kR kR kR h3;have hm:=Eo W Zd;refine⟨t1,hm,?_,?_,nC _⟩
 ·have:=t1.cell (g:=3) kR 0 dC;exact FF this
 ·obtain⟨m,hm⟩:=hm;exact FF hm
theorem Mn (x:Int) (w:World):Calls Tryz.prog 18 #[x] w λ e w'=>e=.returned (.int .i64 x)∧w'=w:=by
 go_enter Tryz.func18,Tryz.ntmps18;exact xY
theorem Rd.base {w:World} {D:Nat→Prop} {k:Nat} {cs:List Dt} {a:OA} {m c:Nat} (h:Rd w D (.sl k cs) (.slice a m c)) (h0:0<cs.length) :
 ∃b gQ,a=some ⟨b,gQ,none⟩∧b<w.heap.size∧D b∧∀j (hj:j<cs.length),∃u,w.cell? ⟨b,gQ+j,none⟩=some u∧Rd w D cs[j] u:=by
 cases h with
 | nil _ c a hc=>exact nQ h0 (uC _)
 | sl _ _ b gQ m c vs hm Ot hc hb hD hv h=>exact⟨b,gQ,rfl,hb,hD,λ j hj=>⟨vs j,hv j hj,h j hj⟩⟩
theorem Rd.int_v {w:World} {D:Nat→Prop} {n:Int} {v:Value} (h:Rd w D (.int n) v):v=.int .i64 n:=by cases h;rfl
theorem TX (w:World) (B:Nat) (vQ:Ev w B):Calls Tryz.prog 16 #[] w λ e w'=>e=.returned (.bool true)∧K0 w w':=by
 have ov:=aT;have zO:=Hd vQ;clear vQ;go_enter Tryz.func16,Tryz.ntmps16;go_wp2_with fail;refine (Ic w B ⟨#[97,32,38,38,32,98,59,32,99]⟩ zO.o dC).mono ?_;show ∀e w',jC w (o6 [97,32,38,38,32,98,59,32,99]) e w'→_;rw [BB];rintro e w1 ⟨a,m,c,rfl,eo,hk⟩;obtain⟨hl,_⟩:=eo.len8;obtain rfl:m=1:=by have:(8:Nat)=m*8:=hl;omega
 obtain⟨b,o,rfl,hb,_,hF⟩:=eo.base dC;obtain⟨u0,c0,r0⟩:=hF 0 dC;obtain⟨u6,c6,r6⟩:=hF 6 dC;obtain rfl:=Rd.int_v (n:=5) r0;obtain⟨ka,km,kc,rfl,oU,_,_⟩:=Rd.shape (k:=8) dC (show Rd w1 _ (.sl 8 (cE 3 false [] [] [] [] (cE 1 false [] [aB [dD [97]]] [] [] [] []++cE 1 false [] [aB [dD [98]]] [] [] [] []) []++cE 1 false [] [aB [dD [99]]] [] [] [] [])) u6 from r6)
 obtain rfl:km=2:=by have:(16:Nat)=km*8:=oU;omega
 obtain⟨b2,o2,rfl,qz,_,UI⟩:=Rd.base (show Rd w1 _ (.sl 8 (cE 3 false [] [] [] [] (cE 1 false [] [aB [dD [97]]] [] [] [] []++cE 1 false [] [aB [dD [98]]] [] [] [] []) []++cE 1 false [] [aB [dD [99]]] [] [] [] [])) (.slice ka 2 kc) from r6) dC;obtain⟨v0,d0,s0⟩:=UI 0 dC;obtain⟨v8,d8,s8⟩:=UI 8 dC;obtain rfl:=Rd.int_v (n:=3) s0;obtain rfl:=Rd.int_v (n:=1) s8
 have HK:=Hd hk;rw [Nat.add_zero] at c0 d0;clear hk eo hF UI r0 r6 s0 s8;go_wp2_with fail;refine (Mn 0 _).mono ?_;rintro e w2 ⟨rfl,aQ⟩;subst aQ;exact Fu
end Go.Proofs.YtiihpbccabeoeaaGreatDoor
