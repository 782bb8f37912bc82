/- The walk: a part. -/
import Derived.Test.YtiihpbccabeoeaaGreatDoorVM
import Derived.Test.YtiihpbccabeoeaaGreatDoorVPkF
import Derived.WalkMore
namespace Go.Proofs.YtiihpbccabeoeaaGreatDoor
open Go.RowKit
set_option linter.unusedVariables false
set_option maxRecDepth 100000
set_option maxHeartbeats 16000000
theorem rD (K:Nat) (bw:iI K) (w:World) (B cs n i d:Nat) (tv:Value) (T:List Tk) (h:RS w B cs tv n T i d) (hd:d+K=40) :
 Calls Tryz.prog 202 #[.pointer (some ⟨cs,0,none⟩)] w (eu w B cs tv n T i d vd (cL (ab K) (T.drop i))):=by
 obtain⟨res,ag⟩:∃res,res=cL (ab K) (T.drop i):=⟨_,rfl⟩;rw [←ag];unfold cL cO at ag;have ov:=aT;have ay:=Hd ag;have HH:=Lib.hid h;have HC:=Hd bw;have HD:=Hd hd;have cF:=Hd h.lt;clear ag h bw hd;go_enter Tryz.func202,Tryz.ntmps202;go_wp2_with fail;obtain⟨W,hW⟩:∃W,W=w.alloc (.cells #[.int .i64 0,false,eS,(),(),(),(),()] 44):=⟨_,rfl⟩
 have eG:K0 w W:=by rw [hW];exact (ae.refl _ _).alloc _
 have HR:=Hd (show af W w.heap.size [.int .i64 0,false,eS,(),(),(),(),()] by rw [hW];exact aD _ _ _ _ _ _ _ _ _ _);rw [←hW];have dO:=Hd eG;have HX:=Hd (show w.heap.size<W.heap.size by rw [hW];simp);have sz:=Hd (show W.heap.size=w.heap.size+1 by rw [hW];simp);have HS:=Hd (HH.o.keep0 eG);clear eG hW;cases hq:aF [100,111] (T.drop i) with
 | false=>
  have bO:=Hd (show res=.error 2 by rw [ay.o,hq];rfl);have jJ:=Hd (cn W B cs n i d tv T [100,111] false HS.o dC hq);clear hq;refine jJ.o.mono ?_;rintro e w1 ⟨rfl,j1,ku,ko,jj,bt⟩;have bZ:=Hd ((dO.o.mono (λ_ _ h=>h.elim)).trans bt k3);clear jj bt ko jJ;exact KM
 | true=>
  have fN:=Hd (show res=match bz (ab K) (T.drop i).tail with
   | .error e=>.error e
   | .ok (d,r2)=>match (if aF [100,111,110,101] r2 then (.ok ((),r2.tail):PR Unit) else .error 2) with
    | .error e=>.error e
    | .ok (_,r3)=>.ok (d,r3) by rw [ay.o,hq,nE rfl];rfl)
  have jJ:=Hd (cn W B cs n i d tv T [100,111] true HS.o dC hq);clear hq ay;refine jJ.o.mono ?_;rintro e w1 ⟨rfl,j1,ku,ko,jj,bt⟩;have dF:=Hd jj;have dp:=Hd bt;have Bj:=Hd (show T.drop j1=(T.drop i).tail from ko);clear jj bt ko jJ;go_wp2_with fail;refine (df _).mono ?_;rintro e w2 ⟨rfl,rfl⟩;go_wp2_with fail;refine (gn K HC.o w1 B cs n j1 d tv T dF.o HD.o).mono ?_
  intro e w2 hp;rw [Bj.o] at hp;cases bo:bz (ab K) (T.drop i).tail with
  | error y=>
   exact KI
  | ok dr=>
   obtain⟨dd,r⟩:=dr;rw [bo] at hp;obtain⟨vs,⟨rfl,j2,hj2,il,ee,aS⟩,_,eJ,eo⟩:=hp;obtain⟨k,b,s,a0,n0,c0,a1,n1,c1,a2,n2,c2,a3,n3,c3,a4,n4,c4,rfl⟩:=cC eJ eo;have cJ:=Hd (show res=match (if aF [100,111,110,101] r then (.ok ((),r.tail):PR Unit) else .error 2) with
    | .error e=>.error e
    | .ok (_,r3)=>.ok (dd,r3) by rw [fN.o,bo])
   obtain⟨W2,et⟩:∃W2,W2=w2.alloc (.cells #[k,b,s,.slice a0 n0 c0,.slice a1 n1 c1,.slice a2 n2 c2,.slice a3 n3 c3,.slice a4 n4 c4] 44):=⟨_,rfl⟩;have aV:K0 w2 W2:=by rw [et];exact (ae.refl _ _).alloc _
   obtain⟨N,hN⟩:∃N,N=w2.heap.size:=⟨_,rfl⟩;have qZ:=Hd (show af W2 N [k,b,s,.slice a0 n0 c0,.slice a1 n1 c1,.slice a2 n2 c2,.slice a3 n3 c3,.slice a4 n4 c4] by rw [et,hN];exact aD _ _ _ _ _ _ _ _ _ _);have bp:=(dp.o.trans aS k3).trans aV (λ_ _ h=>h.elim);have HKK:=Hd bp;have gS:=Hd (ee.keep0 aV);have ek:=dp.o.size;have zV:=Hd ((eo.keep aV (λ_ _ _ h=>h)).mono (D':=λ b=>W.heap.size≤b) (λ b _ hb=>nY ek hb))
   have lY:=Hd eJ;have Fe:=Hd il;have C2:=Hd (show cs<N by rw [hN];exact ee.lt);have HN:=Hd hN;have SE:=Hd et;clear bo aS ee eo eJ il aV bp hN et;go_wp2_with fail;rw [←SE.o,←HN.o];cases dy:aF [100,111,110,101] (T.drop j2) with
   | false=>
    have bO:=Hd (show res=.error 2 by rw [cJ.o,←Fe.o,dy];rfl);have jJ:=Hd (cn W2 B cs n j2 d tv T [100,111,110,101] false gS.o dC dy);clear dy;refine jJ.o.mono ?_;rintro e w3 ⟨rfl,j3,ow,iT,cX,aV⟩;have bZ:=Hd (((dO.o.mono (λ_ _ h=>h.elim)).trans HKK.o k3).trans aV k3);clear cX aV iT jJ;exact FD
   | true=>
    have bO:=Hd (show res=.ok (dd,(T.drop j2).tail) by rw [cJ.o,←Fe.o,dy];rfl);have jJ:=Hd (cn W2 B cs n j2 d tv T [100,111,110,101] true gS.o dC dy);clear dy;refine jJ.o.mono ?_;rintro e w3 ⟨rfl,j3,ow,iT,cX,aV⟩;have qA:=cF.o;have sF:=HX.o;have UR:=C2.o;have bp:=HKK.o.trans aV k3;have bZ:=Hd ((dO.o.mono (λ_ _ h=>h.elim)).trans bp k3)
    have eF:=Hd cX;have uu:=Hd (show T.drop j3=(T.drop j2).tail from iT);have eV:=Hd (HR.o.keep bp (λ e=>oM));have eW:=Hd (zV.o.keep aV (λ b _ hb e=>oM));obtain⟨⟨x0,x1,x2,x3,x4,x5,x6,x7⟩,_⟩:=(qZ.o.keep aV (λ e=>oM)).eight;have oW:=(qZ.o.keep aV (λ e=>oM)).lt;clear cX aV iT bp jJ;go_wp2_with fail;refine (df _).mono ?_;rintro e w4 ⟨rfl,rfl⟩
    obtain⟨⟨z0,z1,z2,z3,z4,z5,z6,z7⟩,y0,y1,y2,y3,y4,y5,y6,y7⟩:=eV.o.eight;have fT:=eV.o.lt;go_wp2_with fail;refine nJ (v:=.agg #[k,b,s,.slice a0 n0 c0,.slice a1 n1 c1,.slice a2 n2 c2,.slice a3 n3 c3,.slice a4 n4 c4]) (by simp [results,Tryz.results202,go_sem,z0,z1,z2,z3,z4,z5,z6,z7]) rfl ?_;exact S0
theorem Ch (K:Nat) (bw:iI K) (w:World) (B cs n i d kind:Nat) (tv:Value) (T:List Tk) (h:RS w B cs tv n T i d) (hd:d+K=40) :
 Calls Tryz.prog 191 #[.pointer (some ⟨cs,0,none⟩),.int .i64 (kind:Nat)] w (eu w B cs tv n T i d Bp (dE (ab K) kind (T.drop i))):=by
 obtain⟨res,ag⟩:∃res,res=dE (ab K) kind (T.drop i):=⟨_,rfl⟩;rw [←ag];unfold dE at ag;have ov:=aT;obtain⟨i0,fo,fC,fp,fq⟩:=info_parts jm;have ay:=Hd ag;have HH:=Lib.hid h;have HC:=Hd bw;have HD:=Hd hd;have cF:=Hd h.lt;clear ag h bw hd;go_enter Tryz.func191,Tryz.ntmps191;go_wp2_with fail;obtain⟨W,hW⟩:∃W,W=w.alloc (.cells #[.int .i64 0,false,eS,(),(),(),(),()] 44):=⟨_,rfl⟩
 have eG:K0 w W:=by rw [hW];exact (ae.refl _ _).alloc _
 have HR:=Hd (show af W w.heap.size [.int .i64 0,false,eS,(),(),(),(),()] by rw [hW];exact aD _ _ _ _ _ _ _ _ _ _);rw [←hW];have dO:=Hd eG;have HX:=Hd (show w.heap.size<W.heap.size by rw [hW];simp);have sz:=Hd (show W.heap.size=w.heap.size+1 by rw [hW];simp);have HS:=Hd (HH.o.keep0 eG);clear eG hW;refine (gn K HC.o W B cs n i d tv T HS.o HD.o).mono ?_
 intro e w2 hp;cases bo:bz (ab K) (T.drop i) with
 | error y=>
  exact KJ
 | ok dr=>
  obtain⟨acc,r⟩:=dr;rw [bo] at hp;obtain⟨vs,⟨rfl,j2,hj2,il,ee,aS⟩,_,eJ,eo⟩:=hp;obtain⟨k,b,s,a0,n0,c0,a1,n1,c1,a2,n2,c2,a3,n3,c3,a4,n4,c4,rfl⟩:=cC eJ eo;have fN:=Hd (show res=match cL (ab K) (T.drop j2) with
   | .error e=>.error e
   | .ok (b,r2)=>.ok (cE kind false [] [] [] [] (acc++b) [],r2) by rw [ay.o,bo];dsimp only;rw [il];rfl)
  obtain⟨wa,rp⟩:∃wa,wa=w2.alloc (.cells #[k,b,s,.slice a0 n0 c0,.slice a1 n1 c1,.slice a2 n2 c2,.slice a3 n3 c3,.slice a4 n4 c4] 44):=⟨_,rfl⟩;have Ha:=LI.one (w0:=W) (k:=8) (Ty:=44) (w1:=wa) ee eo aS rfl rp;obtain⟨wr,gU⟩:∃wr,wr=wa.alloc (.cells #[.int .i64 (kind:Nat),false,eS,(),(),(),.slice (some ⟨w2.heap.size,0,none⟩) 1 1,()] 44):=⟨_,rfl⟩
  have aV:K0 wa wr:=by rw [gU];exact (ae.refl _ _).alloc _
  have hza:wa.heap.size=w2.heap.size+1:=by rw [rp];simp
  obtain⟨N,hN⟩:∃N,N=w2.heap.size+1:=⟨_,rfl⟩;obtain⟨X,hX⟩:∃X,X=W.heap.size:=⟨_,rfl⟩;have qB:=Ha.keep0 aV;have qA:=cF.o;have sF:=HX.o;have ek:=aS.size;have HG:=Hd (show GI w wr B cs tv n T d X N [.int .i64 0,false,eS,(),(),(),(),()] [.int (kind:Nat),.bool false,.str [],.sl 1 [],.sl 2 [],.sl 2 []] [.sl 2 []] [.int .i64 (kind:Nat),false,eS,(),(),()] [()] 8 44 j2 1 (some ⟨w2.heap.size,0,none⟩) 1 acc from
   ⟨qB.rs,(dO.o.mono (λ_ _ h=>h.elim)).trans qB.kp k3,HR.o.keep qB.kp (λ e=>oM),by rw [gU,hN,←hza];exact aD _ _ _ _ _ _ _ _ _ _,
    ((
     by
     obtain⟨us,hu,ho⟩:=Ha.own;exact⟨us,(hu.lt.keep aV (λ_ _ _ e=>e)).mono λ b _ hb=>⟨⟨by have:=hb.1.1;omega,by have:=hb.2;omega⟩,hb.1.2⟩,by rw [gU];exact ho.alloc _⟩):eM wr (λ b=>X≤b∧b≠N) (.slice (some ⟨w2.heap.size,0,none⟩) 1 1) 8 44 1 acc),
    λ g hg=>by have h3:w2.heap.size=g:=nD hg;omega,⟨.int _,.bool _,.str _,.nil _ _ _ (nB _),.nil _ _ _ (nB _),.nil _ _ _ (nB _),trivial⟩,⟨.nil _ _ _ (nB _),trivial⟩⟩)
  have ct:=Hd (show w.heap.size<X∧w.heap.size<N by omega);have mG:=Hd (show X≤w.heap.size+1 by have:=sz.o;omega);have rg:=Hd gU;have VJ:=Hd rp;have HN:=Hd hN;have HJ:=Hd hj2;clear bo aS ee eo eJ il aV hN hX gU rp hza qB Ha ek sF qA ay;go_wp2_with fail;rw [←VJ.o,←rg.o,←HN.o];obtain⟨la,rk⟩:∃la,la=some (⟨w2.heap.size,0,none⟩:Addr):=⟨_,rfl⟩;rw [←rk] at HG;clear rk rg VJ
  have sB:=ct.o.1;have pR:=Hd (show X≤wr.heap.size by have h1:=HG.o.zr.lt;have h2:=mG.o;omega);obtain⟨⟨x0,x1,x2,x3,x4,x5,x6,x7⟩,⟨f8,gf,hC,hU,hV,hY,hZ,ia⟩⟩:=(show af wr N [.int .i64 (kind:Nat),false,eS,(),(),(),.slice la 1 1,()] from HG.o.rc).eight;have fR:=HG.o.rc.lt;cases bo:cL (ab K) (T.drop j2) with
  | error y=>
   have bO:=Hd (show res=.error y by rw [fN.o,bo]);have kS:=Hd bo;clear bo;go_wp2_with fail;refine uF (S:=(λ w'=>af w' N [.int .i64 (kind:Nat),false,eS,(),(),(),.slice la 1 1,()])) kR (HG.o.rc.keep (S:=λ_=>False) (ae.refl _ _).drew (λ h=>h)) (λ dJ=>?_);refine nS (i:=0) (v:=.pointer (some ⟨N,6,none⟩)) rfl kR kR kR (λ_ _ _ h=>h) (Or.inl ⟨rF,?_⟩) dJ ?_
   ·(intro ww jP;have ⟨⟨g0,g1,g2,g3,g4,g5,g6,g7⟩,_⟩:=af.eight jP;go_simp;all_goals (first | done | with_reducible rfl))
   refine nS (i:=1) (v:=.slice la 1 1) rfl kR kR kR (λ_ _ _ h=>h) (Or.inl ⟨rF,?_⟩) dJ ?_
   ·(intro ww jP;have ⟨⟨g0,g1,g2,g3,g4,g5,g6,g7⟩,_⟩:=af.eight jP;go_simp;all_goals (first | done | with_reducible rfl))
   refine nS (i:=2) (v:=.pointer (some ⟨cs,0,none⟩)) rfl kR kR kR (λ_ _ _ h=>h) (Or.inl ⟨rF,?_⟩) dJ ?_
   ·(intro ww jP;have ⟨⟨g0,g1,g2,g3,g4,g5,g6,g7⟩,_⟩:=af.eight jP;go_simp;all_goals (first | done | with_reducible rfl))
   refine uE (rs:=[3]) kR sI ?_;refine AllReadyH.cons rfl (λ KK hK=>?_) AllReadyH.nil;go_simp;go_at_call 202;refine (rD K HC.o _ B cs n j2 d tv T (HG.o.rs.keep0 (ae.refl _ _).drew) HD.o).mono ?_;exact Q7
  | ok dr=>
   obtain⟨d2,r2⟩:=dr;have bO:=Hd (show res=.ok (cE kind false [] [] [] [] (acc++d2) [],r2) by rw [fN.o,bo]);have kS:=Hd bo;clear bo;have dv:=Hd (show ∀e w4,eu wr.drew B cs tv n T j2 d vd (.ok (d2,r2)) e w4→∃(j4:Nat) (k:Int) (b:Bool) (s:ByteArray) (a0:OA) (n0 c0:Nat) (a1:OA) (n1 c1:Nat) (a2:OA) (n2 c2:Nat) (a3:OA) (n3 c3:Nat) (a4:OA) (n4 c4:Nat) (xs:List Value),e=.returned (.agg #[k,b,s,.slice a0 n0 c0,.slice a1 n1 c1,.slice a2 n2 c2,.slice a3 n3 c3,.slice a4 n4 c4])∧(j2≤j4∧j4≤T.length∧T.drop j4=r2∧jA d2)∧w4.ownsRow 0 44 8 (.slice la 1 1) 1 xs∧af w4 N [.int .i64 (kind:Nat),false,eS,(),(),(),.slice la 1 1,()]∧
    (∀(gg aC:Nat) (w5:World) (o:Obj),w5.ownsRow 0 44 8 (.slice (some ⟨gg,0,none⟩) (1+1) aC) (1+1) (xs++[.int .i64 k,.bool b,.string s,.slice a0 n0 c0,.slice a1 n1 c1,.slice a2 n2 c2,.slice a3 n3 c3,.slice a4 n4 c4])→(w4.alloc o).grownBy w5 (Value.slice la 1 1).ownBlock→((Value.slice la 1 1).ownBlock=some gg∨gg=w4.heap.size+1)→
     af w5 N [.int .i64 (kind:Nat),false,eS,(),(),(),.slice la 1 1,()]∧GI w (w5.setCell ⟨N,6,none⟩ (.slice (some ⟨gg,0,none⟩) (1+1) aC)) B cs tv n T d X N [.int .i64 0,false,eS,(),(),(),(),()] [.int (kind:Nat),.bool false,.str [],.sl 1 [],.sl 2 [],.sl 2 []] [.sl 2 []] [.int .i64 (kind:Nat),false,eS,(),(),()] [()] 8 44 j4 (1+1) (some ⟨gg,0,none⟩) aC (acc++d2)) from λ e w4 hp=>by
    obtain⟨vs,⟨he,j4,kB,iY,cG,be⟩,_,oV,f7⟩:=hp;obtain⟨k,b,s,a0,n0,c0,a1,n1,c1,a2,n2,c2,a3,n3,c3,a4,n4,c4,rfl⟩:=cC oV f7;obtain⟨xs,ho,cQ,hF⟩:=HG.o.more cF.o ct.o.1 ct.o.2 pR.o ((ae.refl (λ b=>b=cs) wr).drew.trans be k3) cG f7;exact⟨j4,k,b,s,a0,n0,c0,a1,n1,c1,a2,n2,c2,a3,n3,c3,a4,n4,c4,xs,he,⟨kB,cG.i,iY,oV⟩,ho,cQ,hF⟩)
   go_wp2_with fail;go_region_law (first
    | (
     refine step_append_lies _ rF _ _ _ rF 0 44 i0 _ 8 152 Tryz.underlying23 fo fC fp fq rfl oM (.slice la 1 1) 1 xs rF (hown4.alloc _)
      ⟨w4.heap.size,0,none⟩ 1 1 [k,b,s,.slice a0 n0 c0,.slice a1 n1 c1,.slice a2 n2 c2,.slice a3 n3 c3,.slice a4 n4 c4] rF rF (nK (cs:=#[.int .i64 k,.bool b,.string s,.slice a0 n0 c0,.slice a1 n1 c1,.slice a2 n2 c2,.slice a3 n3 c3,.slice a4 n4 c4]) (t:=44) (fr:=(0,0)) (nG w4 _)) oC
      oM uM oM sI (w4.heap.size+1) sI ?_;intro gg aC w5 aK ao bf gT
     obtain⟨aH,gA⟩:=HF.o gg aC w5 _ aK ao bf;obtain⟨⟨z0,z1,z2,z3,z4,z5,z6,z7⟩,⟨gO,gP,ib,ic,ie,ig,ii,ij⟩⟩:=af.eight aH;have qy:=aH.lt;have fc:=Hd gA;clear aH gA aK ao bf)
    | (go_simp;go_at_call 202;refine (rD K HC.o _ B cs n j2 d tv T (HG.o.rs.keep0 (ae.refl _ _).drew) HD.o).mono ?_;rw [kS.o];intro e w4 hp;obtain⟨j4,k,b,s,a0,n0,c0,a1,n1,c1,a2,n2,c2,a3,n3,c3,a4,n4,c4,xs,he,mc,hown4,aL,hF⟩:=dv.o e w4 hp;subst he;obtain⟨⟨y0,y1,y2,y3,y4,y5,y6,y7⟩,⟨JC,JD,MW,MX,MY,MZ,M0,M1⟩⟩:=af.eight aL;have Jc:=aL.lt;have HF:=Hd hF;have kJ:=Hd mc;clear hp hF mc aL))
   all_goals
    obtain⟨w3,kh⟩:∃w3,w3=w5.setCell ⟨N,6,none⟩ (.slice (some ⟨gg,0,none⟩) (1+1) aC):=⟨_,rfl⟩;rw [←kh] at fc;have cQ:=(show af w3 N [.int .i64 (kind:Nat),false,eS,(),(),(),.slice (some ⟨gg,0,none⟩) (1+1) aC,()] from fc.o.rc);obtain⟨⟨v0,v1,v2,v3,v4,v5,v6,v7⟩,_⟩:=cQ.eight;have oW:=cQ.lt;have eV:=Hd fc.o.zr;have bZ:=Hd fc.o.kp
    have eF:=Hd fc.o.rs;have eW:=Hd fc.o.all;have uQ:=Hd ct.o.1;have lY:=Hd (show jA (cE kind false [] [] [] [] (acc++d2) []) from⟨_,_,_,_,_,_,_,_,rfl⟩);have Bx:=Hd kJ.o.2.2.1;rw [←kh];clear kh cQ;obtain⟨⟨z0,z1,z2,z3,z4,z5,z6,z7⟩,y0,y1,y2,y3,y4,y5,y6,y7⟩:=eV.o.eight;have fT:=eV.o.lt;go_wp2_with fail;refine nJ (v:=.agg #[.int .i64 (kind:Nat),false,eS,(),(),(),.slice (some ⟨gg,0,none⟩) (1+1) aC,()]) (by simp [results,Tryz.results191,go_sem,z0,z1,z2,z3,z4,z5,z6,z7]) rfl ?_
    obtain⟨f1,f2,f3⟩:=eK bZ.o eF.o uQ.o cF.o eW.o (ap w3 w.heap.size (.int .i64 (kind:Nat)) (.bool false) (.string ⟨#[]⟩) (.slice none 0 0) (.slice none 0 0) (.slice none 0 0) (.slice (some ⟨gg,0,none⟩) (1+1) aC) (.slice none 0 0));rw [bO.o];exact⟨[.int .i64 (kind:Nat),false,eS,(),(),(),.slice (some ⟨gg,0,none⟩) (1+1) aC,()],⟨rfl,_,by have h1:=HJ.o;have h2:=kJ.o.1;omega,Bx.o,f1,f2⟩,rfl,lY.o,f3⟩
def cf (p:PR (List Dt)):PR (List Dt):=match p with
 | .error e=>.error e
 | .ok (l,r)=>match cO [102,105] r with
  | .error e=>.error e
  | .ok (_,r2)=>.ok (cE 6 false [] [] [] [] l [],r2)
def Rj (cmd:List Tk→PR (List Dt)) (M:Nat) (acc:List Dt) (r:List Tk):PR (List Dt):=
 if aF [101,108,105,102] r then bD cmd M acc r.tail
 else if aF [101,108,115,101] r then (match bz cmd r.tail with
  | .error e=>.error e
  | .ok (x,r3)=>.ok (acc++x,r3))
 else .ok (acc,r)
def UC (cmd:List Tk→PR (List Dt)) (M:Nat) (acc:List Dt) (r:List Tk):PR (List Dt):=match cO [116,104,101,110] r with
 | .error e=>.error e
 | .ok (_,r1)=>match bz cmd r1 with
  | .error e=>.error e
  | .ok (b,r2)=>Rj cmd M (acc++b) r2
theorem tD (cmd:List Tk→PR (List Dt)) (M:Nat) (acc:List Dt) (ts:List Tk):bD cmd (M+1) acc ts=match bz cmd ts with
 | .error e=>.error e
 | .ok (c,r)=>UC cmd M (acc++c) r:=by
 conv=>lhs;unfold bD
 unfold UC Rj;cases bz cmd ts with
 | error y=>rfl
 | ok x=>
  obtain⟨c,r⟩:=x;dsimp only;cases cO [116,104,101,110] r with
  | error y=>rfl
  | ok z=>
   obtain⟨u,r1⟩:=z;dsimp only;cases bz cmd r1 with
   | error y=>rfl
   | ok b=>rfl
theorem GQ (cmd:List Tk→PR (List Dt)) (ts:List Tk):dx cmd ts=cf (bD cmd (ts.length+1) [] ts):=by
 unfold dx cf;cases bD cmd (ts.length+1) [] ts with
 | error y=>rfl
 | ok x=>
  obtain⟨c,r⟩:=x;dsimp only;cases cO [102,105] r with
  | error y=>rfl
  | ok z=>rfl
theorem DP (K:Nat) (bw:iI K) (w:World) (B cs n i d:Nat) (tv:Value) (T:List Tk) (h:RS w B cs tv n T i d) (hd:d+K=40) :
 Calls Tryz.prog 190 #[.pointer (some ⟨cs,0,none⟩)] w (eu w B cs tv n T i d Bp (dx (ab K) (T.drop i))):=by
 obtain⟨res,ag⟩:∃res,res=dx (ab K) (T.drop i):=⟨_,rfl⟩;rw [←ag];rw [GQ,nI] at ag;have ov:=aT;obtain⟨i0,fo,fC,fp,fq⟩:=info_parts jm;have ay:=Hd ag;have HH:=Lib.hid h;have HC:=Hd bw;have HD:=Hd hd;have cF:=Hd h.lt;clear ag h bw hd;go_enter Tryz.func190,Tryz.ntmps190;go_wp2_with fail;obtain⟨W,hW⟩:∃W,W=w.alloc (.cells #[.int .i64 0,false,eS,(),(),(),(),()] 44):=⟨_,rfl⟩
 have eG:K0 w W:=by rw [hW];exact (ae.refl _ _).alloc _
 have HR:=Hd (show af W w.heap.size [.int .i64 0,false,eS,(),(),(),(),()] by rw [hW];exact aD _ _ _ _ _ _ _ _ _ _);rw [←hW];have dO:=Hd eG;have HX:=Hd (show w.heap.size<W.heap.size by rw [hW];simp);have sz:=Hd (show W.heap.size=w.heap.size+1 by rw [hW];simp);have HS:=Hd (HH.o.keep0 eG);obtain⟨wr,gU⟩:∃wr,wr=W.alloc (.cells #[.int .i64 6,false,eS,(),(),(),(),()] 44):=⟨_,rfl⟩
 have aV:K0 W wr:=by rw [gU];exact (ae.refl _ _).alloc _
 obtain⟨N,hN⟩:∃N,N=W.heap.size:=⟨_,rfl⟩;obtain⟨X,hX⟩:∃X,X=W.heap.size:=⟨_,rfl⟩;have sF:=HX.o;have iD:=Hd (show GI w wr B cs tv n T d X N [.int .i64 0,false,eS,(),(),(),(),()] [.int ((6:Nat):Int),.bool false,.str [],.sl 1 [],.sl 2 [],.sl 2 []] [.sl 2 []] [.int .i64 6,false,eS,(),(),()] [()] 8 44 i 0 none 0 [] from
  ⟨HS.o.keep0 aV,(dO.o.mono (λ_ _ h=>h.elim)).trans aV (λ_ _ h=>h.elim),HR.o.keep aV (λ h=>h),by rw [gU,hN];exact aD _ _ _ _ _ _ _ _ _ _,eM.nil _ _ _ _,λ g hg=>(by cases hg),⟨.int _,.bool _,.str _,.nil _ _ _ (nB _),.nil _ _ _ (nB _),.nil _ _ _ (nB _),trivial⟩,⟨.nil _ _ _ (nB _),trivial⟩⟩)
 have ct:=Hd (show w.heap.size<X∧w.heap.size<N by omega);have mG:=Hd (show X≤w.heap.size+1 by rw [hX,hW];simp);have HN:=Hd hN;have rg:=Hd gU;clear eG hW aV hN hX gU sF;go_step3;go_wp2_with fail;rw [←rg.o,←HN.o];clear rg;go_step3;go_wp2_with fail;go_loopg [] (T.length - i) (λ g wr=>∃(I M m:Nat) (la:OA) (lc:Nat) (acc:List Dt),g=T.length - I∧i≤I∧m≤I∧T.length - I+1≤M∧Hid (GI w wr B cs tv n T d X N [.int .i64 0,false,eS,(),(),(),(),()] [.int ((6:Nat):Int),.bool false,.str [],.sl 1 [],.sl 2 [],.sl 2 []] [.sl 2 []] [.int .i64 6,false,eS,(),(),()] [()] 8 44 I m la lc acc)∧Hid (res=cf (bD (ab K) M acc (T.drop I))))
 case atStart=>exact⟨i,_,0,none,0,[],rfl,nC _,nB _,nC _,iD,ay⟩
 case round=>
  obtain⟨I,M,m,la,lc,acc,eH,mI,yj,hM,HG,gG⟩:=hrel;have fK:=Hd eH;have p8:=HG.o.rs.i;have vO:=HG.o.rs.sm.1;obtain⟨M,rfl⟩:∃M',M=M'+1:=⟨M - 1,oM⟩;clear eH iD ay;have sB:=ct.o.1;have pR:=Hd (show X≤wr.heap.size by have h1:=HG.o.zr.lt;have h2:=mG.o;omega);obtain⟨⟨x0,x1,x2,x3,x4,x5,x6,x7⟩,⟨f8,gf,hC,hU,hV,hY,hZ,ia⟩⟩:=(show af wr N [.int .i64 6,false,eS,(),(),(),.slice la m lc,()] from HG.o.rc).eight
  have fR:=HG.o.rc.lt;cases bo:bz (ab K) (T.drop I) with
  | error y=>
   have bO:=Hd (show res=.error y by rw [gG.o,tD,bo];rfl);have kS:=Hd bo;clear bo;go_wp2_with fail;refine uF (S:=(λ w'=>af w' N [.int .i64 6,false,eS,(),(),(),.slice la m lc,()])) kR (HG.o.rc.keep (S:=λ_=>False) (ae.refl _ _).drew (λ h=>h)) (λ dJ=>?_);refine nS (i:=0) (v:=.pointer (some ⟨N,6,none⟩)) rfl kR kR kR (λ_ _ _ h=>h) (Or.inl ⟨rF,?_⟩) dJ ?_
   ·(intro ww jP;have ⟨⟨g0,g1,g2,g3,g4,g5,g6,g7⟩,_⟩:=af.eight jP;go_simp;all_goals (first | done | with_reducible rfl))
   refine nS (i:=1) (v:=.slice la m lc) rfl kR kR kR (λ_ _ _ h=>h) (Or.inl ⟨rF,?_⟩) dJ ?_
   ·(intro ww jP;have ⟨⟨g0,g1,g2,g3,g4,g5,g6,g7⟩,_⟩:=af.eight jP;go_simp;all_goals (first | done | with_reducible rfl))
   refine nS (i:=2) (v:=.pointer (some ⟨cs,0,none⟩)) rfl kR kR kR (λ_ _ _ h=>h) (Or.inl ⟨rF,?_⟩) dJ ?_
   ·(intro ww jP;have ⟨⟨g0,g1,g2,g3,g4,g5,g6,g7⟩,_⟩:=af.eight jP;go_simp;all_goals (first | done | with_reducible rfl))
   refine uE (rs:=[3]) kR sI ?_;refine AllReadyH.cons rfl (λ KK hK=>?_) AllReadyH.nil;go_simp;go_at_call 189;refine (gn K HC.o _ B cs n I d tv T (HG.o.rs.keep0 (ae.refl _ _).drew) HD.o).mono ?_;exact Q7
  | ok dr=>
   obtain⟨d2,r2⟩:=dr;have bO:=Hd (show res=cf (UC (ab K) M (acc++d2) r2) by rw [gG.o,tD,bo]);have kS:=Hd bo;clear bo;have dv:=Hd (show ∀e w4,eu wr.drew B cs tv n T I d vd (.ok (d2,r2)) e w4→∃(j4:Nat) (k:Int) (b:Bool) (s:ByteArray) (a0:OA) (n0 c0:Nat) (a1:OA) (n1 c1:Nat) (a2:OA) (n2 c2:Nat) (a3:OA) (n3 c3:Nat) (a4:OA) (n4 c4:Nat) (xs:List Value),e=.returned (.agg #[k,b,s,.slice a0 n0 c0,.slice a1 n1 c1,.slice a2 n2 c2,.slice a3 n3 c3,.slice a4 n4 c4])∧(I≤j4∧j4≤T.length∧T.drop j4=r2∧jA d2)∧w4.ownsRow 0 44 8 (.slice la m lc) m xs∧af w4 N [.int .i64 6,false,eS,(),(),(),.slice la m lc,()]∧
    (∀(gg aC:Nat) (w5:World) (o:Obj),w5.ownsRow 0 44 8 (.slice (some ⟨gg,0,none⟩) (m+1) aC) (m+1) (xs++[.int .i64 k,.bool b,.string s,.slice a0 n0 c0,.slice a1 n1 c1,.slice a2 n2 c2,.slice a3 n3 c3,.slice a4 n4 c4])→(w4.alloc o).grownBy w5 (Value.slice la m lc).ownBlock→((Value.slice la m lc).ownBlock=some gg∨gg=w4.heap.size+1)→
     af w5 N [.int .i64 6,false,eS,(),(),(),.slice la m lc,()]∧GI w (w5.setCell ⟨N,6,none⟩ (.slice (some ⟨gg,0,none⟩) (m+1) aC)) B cs tv n T d X N [.int .i64 0,false,eS,(),(),(),(),()] [.int ((6:Nat):Int),.bool false,.str [],.sl 1 [],.sl 2 [],.sl 2 []] [.sl 2 []] [.int .i64 6,false,eS,(),(),()] [()] 8 44 j4 (m+1) (some ⟨gg,0,none⟩) aC (acc++d2)) from λ e w4 hp=>by
    obtain⟨vs,⟨he,j4,kB,iY,cG,be⟩,_,oV,f7⟩:=hp;obtain⟨k,b,s,a0,n0,c0,a1,n1,c1,a2,n2,c2,a3,n3,c3,a4,n4,c4,rfl⟩:=cC oV f7;obtain⟨xs,ho,cQ,hF⟩:=HG.o.more cF.o ct.o.1 ct.o.2 pR.o ((ae.refl (λ b=>b=cs) wr).drew.trans be k3) cG f7;exact⟨j4,k,b,s,a0,n0,c0,a1,n1,c1,a2,n2,c2,a3,n3,c3,a4,n4,c4,xs,he,⟨kB,cG.i,iY,oV⟩,ho,cQ,hF⟩)
   go_upto_region 2 with fail;go_cut [] from 5 to 11 (λ wx=>∃(j4:Nat) (Cd:OA) (Ht:Nat) (wy:World),wy=wx∧(I≤j4∧j4≤T.length∧T.drop j4=r2)∧Hid (GI w wy B cs tv n T d X N [.int .i64 0,false,eS,(),(),(),(),()] [.int ((6:Nat):Int),.bool false,.str [],.sl 1 [],.sl 2 [],.sl 2 []] [.sl 2 []] [.int .i64 6,false,eS,(),(),()] [()] 8 44 j4 (m+1) Cd Ht (acc++d2)))
   case first=>
    go_wp2_with fail;go_region_law (first
     | (
      refine step_append_lies _ rF _ _ _ rF 0 44 i0 _ 8 152 Tryz.underlying23 fo fC fp fq rfl oM (.slice la m lc) m xs rF (hown4.alloc _)
       ⟨w4.heap.size,0,none⟩ 1 1 [k,b,s,.slice a0 n0 c0,.slice a1 n1 c1,.slice a2 n2 c2,.slice a3 n3 c3,.slice a4 n4 c4] rF rF (nK (cs:=#[.int .i64 k,.bool b,.string s,.slice a0 n0 c0,.slice a1 n1 c1,.slice a2 n2 c2,.slice a3 n3 c3,.slice a4 n4 c4]) (t:=44) (fr:=(0,0)) (nG w4 _)) oC
       oM uM oM sI (w4.heap.size+1) sI ?_;intro gg aC w5 aK ao bf gT
      obtain⟨aH,gA⟩:=HF.o gg aC w5 _ aK ao bf;obtain⟨⟨z0,z1,z2,z3,z4,z5,z6,z7⟩,⟨gO,gP,ib,ic,ie,ig,ii,ij⟩⟩:=af.eight aH;have qy:=aH.lt;have fc:=Hd gA;clear aH gA aK ao bf)
     | (go_simp;go_at_call 189;refine (gn K HC.o _ B cs n I d tv T (HG.o.rs.keep0 (ae.refl _ _).drew) HD.o).mono ?_;rw [kS.o];intro e w4 hp;obtain⟨j4,k,b,s,a0,n0,c0,a1,n1,c1,a2,n2,c2,a3,n3,c3,a4,n4,c4,xs,he,mc,hown4,aL,hF⟩:=dv.o e w4 hp;subst he;obtain⟨⟨y0,y1,y2,y3,y4,y5,y6,y7⟩,⟨JC,JD,MW,MX,MY,MZ,M0,M1⟩⟩:=af.eight aL;have Jc:=aL.lt;have HF:=Hd hF;have kJ:=Hd mc;clear hp hF mc aL))
    all_goals
     exact Qk
   case rest=>
    obtain⟨j5,Cd,Ht,wx,Jo,mc,sr⟩:=hcut;subst Jo;obtain⟨Dy,oc⟩:∃x,x=acc++d2:=⟨_,rfl⟩;rw [←oc] at sr;have Df:=Hd oc;have kJ:=Hd mc;clear oc mc;have acJ:=kJ.o.1;have Ts:=kJ.o.2.1;have iJ:=Hd (show res=cf (UC (ab K) M Dy (T.drop j5)) by rw [bO.o,kJ.o.2.2,Df.o]);clear kJ bO Df;cases hq:aF [116,104,101,110] (T.drop j5) with
    | false=>
     have bO:=Hd (show res=.error 2 by rw [iJ.o];unfold UC cO;rw [hq];rfl);have jJ:=Hd (cn wx B cs n j5 d tv T [116,104,101,110] false sr.o.rs dC hq);clear hq;go_wp2_with fail;refine jJ.o.mono ?_;rintro e wz ⟨rfl,jz,hjz,htz,iF,kg⟩;have bZ:=Hd (sr.o.kp.trans kg k3);exact Rh
    | true=>
     have su:=Hd (show res=cf (match bz (ab K) (T.drop j5).tail with
      | .error e=>.error e
      | .ok (b,r2)=>Rj (ab K) M (Dy++b) r2) by rw [iJ.o];unfold UC cO;rw [hq,nE rfl])
     have jJ:=Hd (cn wx B cs n j5 d tv T [116,104,101,110] true sr.o.rs dC hq);have Hh:=eT (cY dC hq);clear hq;go_wp2_with fail;refine jJ.o.mono ?_;rintro e w6 ⟨rfl,j6,hj6,X8,iF,kg⟩;have pm:=Hd (sr.o.move cF.o ct.o.1 ct.o.2 kg iF);have VH:=Hd (show T.drop j6=(T.drop j5).tail from X8);have acK:j5+1≤j6:=by
      have:=congrArg List.length VH.o;exact DF
     have j6T:=iF.i;clear iF kg X8 jJ;go_wp2_with fail;refine (df _).mono ?_;rintro e wy ⟨rfl,rfl⟩;have Vx:=Hd (show res=cf (match bz (ab K) (T.drop j6) with
      | .error e=>.error e
      | .ok (b,r2)=>Rj (ab K) M (Dy++b) r2) by rw [su.o,VH.o])
     clear sr su iJ;have sB:=ct.o.1;have pR:=Hd (show X≤w6.heap.size by have h1:=pm.o.zr.lt;have h2:=mG.o;omega);obtain⟨⟨x0,x1,x2,x3,x4,x5,x6,x7⟩,⟨f8,gf,hC,hU,hV,hY,hZ,ia⟩⟩:=(show af w6 N [.int .i64 6,false,eS,(),(),(),.slice Cd (m+1) Ht,()] from pm.o.rc).eight;have fR:=pm.o.rc.lt;cases bo:bz (ab K) (T.drop j6) with
     | error y=>
      have bO:=Hd (show res=.error y by rw [Vx.o,bo];rfl);have kS:=Hd bo;clear bo;go_wp2_with fail;refine uF (S:=(λ w'=>af w' N [.int .i64 6,false,eS,(),(),(),.slice Cd (m+1) Ht,()])) kR (pm.o.rc.keep (S:=λ_=>False) (ae.refl _ _).drew (λ h=>h)) (λ dJ=>?_);refine nS (i:=0) (v:=.pointer (some ⟨N,6,none⟩)) rfl kR kR kR (λ_ _ _ h=>h) (Or.inl ⟨rF,?_⟩) dJ ?_
      ·(intro ww jP;have ⟨⟨g0,g1,g2,g3,g4,g5,g6,g7⟩,_⟩:=af.eight jP;go_simp;all_goals (first | done | with_reducible rfl))
      refine nS (i:=1) (v:=.slice Cd (m+1) Ht) rfl kR kR kR (λ_ _ _ h=>h) (Or.inl ⟨rF,?_⟩) dJ ?_
      ·(intro ww jP;have ⟨⟨g0,g1,g2,g3,g4,g5,g6,g7⟩,_⟩:=af.eight jP;go_simp;all_goals (first | done | with_reducible rfl))
      refine nS (i:=2) (v:=.pointer (some ⟨cs,0,none⟩)) rfl kR kR kR (λ_ _ _ h=>h) (Or.inl ⟨rF,?_⟩) dJ ?_
      ·(intro ww jP;have ⟨⟨g0,g1,g2,g3,g4,g5,g6,g7⟩,_⟩:=af.eight jP;go_simp;all_goals (first | done | with_reducible rfl))
      refine uE (rs:=[3]) kR sI ?_;refine AllReadyH.cons rfl (λ KK hK=>?_) AllReadyH.nil;go_simp;go_at_call 189;refine (gn K HC.o _ B cs n j6 d tv T (pm.o.rs.keep0 (ae.refl _ _).drew) HD.o).mono ?_;rw [kS.o];rintro e w4 ⟨rfl,be⟩;have eU:=Hd ((pm.o.kp.drew).trans be k3);exact KV
     | ok dr=>
      obtain⟨d2,r2⟩:=dr;have bO:=Hd (show res=cf (Rj (ab K) M (Dy++d2) r2) by rw [Vx.o,bo]);have kS:=Hd bo;clear bo;have dv:=Hd (show ∀e w4,eu w6.drew B cs tv n T j6 d vd (.ok (d2,r2)) e w4→∃(j4:Nat) (k:Int) (b:Bool) (s:ByteArray) (a0:OA) (n0 c0:Nat) (a1:OA) (n1 c1:Nat) (a2:OA) (n2 c2:Nat) (a3:OA) (n3 c3:Nat) (a4:OA) (n4 c4:Nat) (xs:List Value),e=.returned (.agg #[k,b,s,.slice a0 n0 c0,.slice a1 n1 c1,.slice a2 n2 c2,.slice a3 n3 c3,.slice a4 n4 c4])∧(j6≤j4∧j4≤T.length∧T.drop j4=r2∧jA d2)∧w4.ownsRow 0 44 8 (.slice Cd (m+1) Ht) (m+1) xs∧af w4 N [.int .i64 6,false,eS,(),(),(),.slice Cd (m+1) Ht,()]∧
       (∀(gg aC:Nat) (w5:World) (o:Obj),w5.ownsRow 0 44 8 (.slice (some ⟨gg,0,none⟩) ((m+1)+1) aC) ((m+1)+1) (xs++[.int .i64 k,.bool b,.string s,.slice a0 n0 c0,.slice a1 n1 c1,.slice a2 n2 c2,.slice a3 n3 c3,.slice a4 n4 c4])→(w4.alloc o).grownBy w5 (Value.slice Cd (m+1) Ht).ownBlock→((Value.slice Cd (m+1) Ht).ownBlock=some gg∨gg=w4.heap.size+1)→
        af w5 N [.int .i64 6,false,eS,(),(),(),.slice Cd (m+1) Ht,()]∧GI w (w5.setCell ⟨N,6,none⟩ (.slice (some ⟨gg,0,none⟩) ((m+1)+1) aC)) B cs tv n T d X N [.int .i64 0,false,eS,(),(),(),(),()] [.int ((6:Nat):Int),.bool false,.str [],.sl 1 [],.sl 2 [],.sl 2 []] [.sl 2 []] [.int .i64 6,false,eS,(),(),()] [()] 8 44 j4 ((m+1)+1) (some ⟨gg,0,none⟩) aC (Dy++d2)) from λ e w4 hp=>by
       obtain⟨vs,⟨he,j4,kB,iY,cG,be⟩,_,oV,f7⟩:=hp;obtain⟨k,b,s,a0,n0,c0,a1,n1,c1,a2,n2,c2,a3,n3,c3,a4,n4,c4,rfl⟩:=cC oV f7;obtain⟨xs,ho,cQ,hF⟩:=pm.o.more cF.o ct.o.1 ct.o.2 pR.o ((ae.refl (λ b=>b=cs) w6).drew.trans be k3) cG f7;exact⟨j4,k,b,s,a0,n0,c0,a1,n1,c1,a2,n2,c2,a3,n3,c3,a4,n4,c4,xs,he,⟨kB,cG.i,iY,oV⟩,ho,cQ,hF⟩)
      go_upto_region 4 with fail;go_cut [] from 15 to 21 (λ wx=>∃(j4:Nat) (Cd:OA) (Ht:Nat) (wy:World),wy=wx∧(j6≤j4∧j4≤T.length∧T.drop j4=r2)∧Hid (GI w wy B cs tv n T d X N [.int .i64 0,false,eS,(),(),(),(),()] [.int ((6:Nat):Int),.bool false,.str [],.sl 1 [],.sl 2 [],.sl 2 []] [.sl 2 []] [.int .i64 6,false,eS,(),(),()] [()] 8 44 j4 ((m+1)+1) Cd Ht (Dy++d2)))
      case first=>
       go_wp2_with fail;go_region_law (first
        | (
         refine step_append_lies _ rF _ _ _ rF 0 44 i0 _ 8 152 Tryz.underlying23 fo fC fp fq rfl oM (.slice Cd (m+1) Ht) (m+1) xs rF (hown4.alloc _)
          ⟨w4.heap.size,0,none⟩ 1 1 [k,b,s,.slice a0 n0 c0,.slice a1 n1 c1,.slice a2 n2 c2,.slice a3 n3 c3,.slice a4 n4 c4] rF rF (nK (cs:=#[.int .i64 k,.bool b,.string s,.slice a0 n0 c0,.slice a1 n1 c1,.slice a2 n2 c2,.slice a3 n3 c3,.slice a4 n4 c4]) (t:=44) (fr:=(0,0)) (nG w4 _)) oC
          oM uM oM sI (w4.heap.size+1) sI ?_;intro gg aC w5 aK ao bf gT
         obtain⟨aH,gA⟩:=HF.o gg aC w5 _ aK ao bf;obtain⟨⟨z0,z1,z2,z3,z4,z5,z6,z7⟩,⟨gO,gP,ib,ic,ie,ig,ii,ij⟩⟩:=af.eight aH;have qy:=aH.lt;have fc:=Hd gA;clear aH gA aK ao bf)
        | (go_simp;go_at_call 189;refine (gn K HC.o _ B cs n j6 d tv T (pm.o.rs.keep0 (ae.refl _ _).drew) HD.o).mono ?_;rw [kS.o];intro e w4 hp;obtain⟨j4,k,b,s,a0,n0,c0,a1,n1,c1,a2,n2,c2,a3,n3,c3,a4,n4,c4,xs,he,mc,hown4,aL,hF⟩:=dv.o e w4 hp;subst he;obtain⟨⟨y0,y1,y2,y3,y4,y5,y6,y7⟩,⟨JC,JD,MW,MX,MY,MZ,M0,M1⟩⟩:=af.eight aL;have Jc:=aL.lt;have HF:=Hd hF;have kJ:=Hd mc;clear hp hF mc aL))
       all_goals
        exact Qk
      case rest=>
       obtain⟨j7,FSq,FT,wx,Jo,mc,oB⟩:=hcut;subst Jo;obtain⟨qp,oc⟩:∃x,x=Dy++d2:=⟨_,rfl⟩;rw [←oc] at oB;have Df:=Hd oc;have kJ:=Hd mc;clear oc mc;have acM:=kJ.o.1;have acL:=kJ.o.2.1;have Vy:=Hd (show res=cf (Rj (ab K) M qp (T.drop j7)) by rw [bO.o,kJ.o.2.2,Df.o]);clear kJ;cases hq:aF [101,108,105,102] (T.drop j7) with
       | true=>
        have su:=Hd (show res=cf (bD (ab K) M qp (T.drop j7).tail) by rw [Vy.o];unfold Rj;rw [hq,nE rfl]);have jJ:=Hd (cn wx B cs n j7 d tv T [101,108,105,102] true oB.o.rs dC hq);have Hh:=eT (cY dC hq);clear hq;go_wp2_with fail;refine jJ.o.mono ?_;rintro e wa ⟨rfl,ja,hja,LR,iF,kg⟩;have Pj:=Hd (oB.o.move cF.o ct.o.1 ct.o.2 kg iF)
        have J5:=Hd (show T.drop ja=(T.drop j7).tail from LR);have acP:j7+1≤ja:=by
         have:=congrArg List.length J5.o;exact DF
        have jaT:=iF.i;clear iF kg LR jJ;have qn:=Hd (show res=cf (bD (ab K) M qp (T.drop ja)) by rw [su.o,J5.o]);go_wp2_with fail;go_roundg (T.length - ja)
        case measure=>have:=fK.o;omega
        case rel=>exact⟨ja,M,m+1+1,FSq,FT,qp,rfl,oM,oM,oM,Pj,qn⟩
       | false=>
        have Nz:=Hd (show res=cf (if aF [101,108,115,101] (T.drop j7) then (match bz (ab K) (T.drop j7).tail with
         | .error e=>.error e
         | .ok (x,r3)=>.ok (qp++x,r3)) else .ok (qp,T.drop j7)) by rw [Vy.o];unfold Rj;rw [hq,nF sI])
        have jJ:=Hd (cn wx B cs n j7 d tv T [101,108,105,102] false oB.o.rs dC hq);clear hq;go_wp2_with fail;refine jJ.o.mono ?_;rintro e wa ⟨rfl,ja,hja,LR,iF,kg⟩;have Pj:=Hd (oB.o.move cF.o ct.o.1 ct.o.2 kg iF);have J5:=Hd (show T.drop ja=T.drop j7 from LR);have jaT:=iF.i;clear iF kg LR jJ;clear oB;cases hq:aF [101,108,115,101] (T.drop ja) with
        | true=>
         have su:=Hd (show res=cf (match bz (ab K) (T.drop ja).tail with
          | .error e=>.error e
          | .ok (x,r3)=>.ok (qp++x,r3)) by rw [Nz.o,←J5.o,hq,nE rfl])
         have jJ:=Hd (cn wa B cs n ja d tv T [101,108,115,101] true Pj.o.rs dC hq);have Hh:=eT (cY dC hq);clear hq;go_wp2_with fail;refine jJ.o.mono ?_;rintro e w8 ⟨rfl,j8,hj8,X9,iF,kg⟩;have oq:=Hd (Pj.o.move cF.o ct.o.1 ct.o.2 kg iF);have VI:=Hd (show T.drop j8=(T.drop ja).tail from X9);have acN:ja+1≤j8:=by
          have:=congrArg List.length VI.o;exact DF
         have j8T:=iF.i;clear iF kg X9 jJ;have Vz:=Hd (show res=cf (match bz (ab K) (T.drop j8) with
          | .error e=>.error e
          | .ok (x,r3)=>.ok (qp++x,r3)) by rw [su.o,VI.o])
         clear Pj su Nz bO Df;have sB:=ct.o.1;have pR:=Hd (show X≤w8.heap.size by have h1:=oq.o.zr.lt;have h2:=mG.o;omega);obtain⟨⟨x0,x1,x2,x3,x4,x5,x6,x7⟩,⟨f8,gf,hC,hU,hV,hY,hZ,ia⟩⟩:=(show af w8 N [.int .i64 6,false,eS,(),(),(),.slice FSq (m+1+1) FT,()] from oq.o.rc).eight;have fR:=oq.o.rc.lt
         cases bo:bz (ab K) (T.drop j8) with
         | error y=>
          have bO:=Hd (show res=.error y by rw [Vz.o,bo];rfl);have kS:=Hd bo;clear bo;go_wp2_with fail;refine uF (S:=(λ w'=>af w' N [.int .i64 6,false,eS,(),(),(),.slice FSq (m+1+1) FT,()])) kR (oq.o.rc.keep (S:=λ_=>False) (ae.refl _ _).drew (λ h=>h)) (λ dJ=>?_);refine nS (i:=0) (v:=.pointer (some ⟨N,6,none⟩)) rfl kR kR kR (λ_ _ _ h=>h) (Or.inl ⟨rF,?_⟩) dJ ?_
          ·(intro ww jP;have ⟨⟨g0,g1,g2,g3,g4,g5,g6,g7⟩,_⟩:=af.eight jP;go_simp;all_goals (first | done | with_reducible rfl))
          refine nS (i:=1) (v:=.slice FSq (m+1+1) FT) rfl kR kR kR (λ_ _ _ h=>h) (Or.inl ⟨rF,?_⟩) dJ ?_
          ·(intro ww jP;have ⟨⟨g0,g1,g2,g3,g4,g5,g6,g7⟩,_⟩:=af.eight jP;go_simp;all_goals (first | done | with_reducible rfl))
          refine nS (i:=2) (v:=.pointer (some ⟨cs,0,none⟩)) rfl kR kR kR (λ_ _ _ h=>h) (Or.inl ⟨rF,?_⟩) dJ ?_
          ·(intro ww jP;have ⟨⟨g0,g1,g2,g3,g4,g5,g6,g7⟩,_⟩:=af.eight jP;go_simp;all_goals (first | done | with_reducible rfl))
          refine uE (rs:=[3]) kR sI ?_;refine AllReadyH.cons rfl (λ KK hK=>?_) AllReadyH.nil;go_simp;go_at_call 189;refine (gn K HC.o _ B cs n j8 d tv T (oq.o.rs.keep0 (ae.refl _ _).drew) HD.o).mono ?_;rw [kS.o];rintro e w4 ⟨rfl,be⟩;have eU:=Hd ((oq.o.kp.drew).trans be k3);exact KV
         | ok dr=>
          obtain⟨d2,r2⟩:=dr;have bO:=Hd (show res=cf (.ok (qp++d2,r2)) by rw [Vz.o,bo]);have kS:=Hd bo;clear bo;have dv:=Hd (show ∀e w4,eu w8.drew B cs tv n T j8 d vd (.ok (d2,r2)) e w4→∃(j4:Nat) (k:Int) (b:Bool) (s:ByteArray) (a0:OA) (n0 c0:Nat) (a1:OA) (n1 c1:Nat) (a2:OA) (n2 c2:Nat) (a3:OA) (n3 c3:Nat) (a4:OA) (n4 c4:Nat) (xs:List Value),e=.returned (.agg #[k,b,s,.slice a0 n0 c0,.slice a1 n1 c1,.slice a2 n2 c2,.slice a3 n3 c3,.slice a4 n4 c4])∧(j8≤j4∧j4≤T.length∧T.drop j4=r2∧jA d2)∧w4.ownsRow 0 44 8 (.slice FSq (m+1+1) FT) (m+1+1) xs∧af w4 N [.int .i64 6,false,eS,(),(),(),.slice FSq (m+1+1) FT,()]∧
           (∀(gg aC:Nat) (w5:World) (o:Obj),w5.ownsRow 0 44 8 (.slice (some ⟨gg,0,none⟩) ((m+1+1)+1) aC) ((m+1+1)+1) (xs++[.int .i64 k,.bool b,.string s,.slice a0 n0 c0,.slice a1 n1 c1,.slice a2 n2 c2,.slice a3 n3 c3,.slice a4 n4 c4])→(w4.alloc o).grownBy w5 (Value.slice FSq (m+1+1) FT).ownBlock→((Value.slice FSq (m+1+1) FT).ownBlock=some gg∨gg=w4.heap.size+1)→
            af w5 N [.int .i64 6,false,eS,(),(),(),.slice FSq (m+1+1) FT,()]∧GI w (w5.setCell ⟨N,6,none⟩ (.slice (some ⟨gg,0,none⟩) ((m+1+1)+1) aC)) B cs tv n T d X N [.int .i64 0,false,eS,(),(),(),(),()] [.int ((6:Nat):Int),.bool false,.str [],.sl 1 [],.sl 2 [],.sl 2 []] [.sl 2 []] [.int .i64 6,false,eS,(),(),()] [()] 8 44 j4 ((m+1+1)+1) (some ⟨gg,0,none⟩) aC (qp++d2)) from λ e w4 hp=>by
           obtain⟨vs,⟨he,j4,kB,iY,cG,be⟩,_,oV,f7⟩:=hp;obtain⟨k,b,s,a0,n0,c0,a1,n1,c1,a2,n2,c2,a3,n3,c3,a4,n4,c4,rfl⟩:=cC oV f7;obtain⟨xs,ho,cQ,hF⟩:=oq.o.more cF.o ct.o.1 ct.o.2 pR.o ((ae.refl (λ b=>b=cs) w8).drew.trans be k3) cG f7;exact⟨j4,k,b,s,a0,n0,c0,a1,n1,c1,a2,n2,c2,a3,n3,c3,a4,n4,c4,xs,he,⟨kB,cG.i,iY,oV⟩,ho,cQ,hF⟩)
          go_wp2_with fail;go_region_law (first
           | (
            refine step_append_lies _ rF _ _ _ rF 0 44 i0 _ 8 152 Tryz.underlying23 fo fC fp fq rfl oM (.slice FSq (m+1+1) FT) (m+1+1) xs rF (hown4.alloc _)
             ⟨w4.heap.size,0,none⟩ 1 1 [k,b,s,.slice a0 n0 c0,.slice a1 n1 c1,.slice a2 n2 c2,.slice a3 n3 c3,.slice a4 n4 c4] rF rF (nK (cs:=#[.int .i64 k,.bool b,.string s,.slice a0 n0 c0,.slice a1 n1 c1,.slice a2 n2 c2,.slice a3 n3 c3,.slice a4 n4 c4]) (t:=44) (fr:=(0,0)) (nG w4 _)) oC
             oM uM oM sI (w4.heap.size+1) sI ?_;intro gg aC w5 aK ao bf gT
            obtain⟨aH,gA⟩:=HF.o gg aC w5 _ aK ao bf;obtain⟨⟨z0,z1,z2,z3,z4,z5,z6,z7⟩,⟨gO,gP,ib,ic,ie,ig,ii,ij⟩⟩:=af.eight aH;have qy:=aH.lt;have fc:=Hd gA;clear aH gA aK ao bf)
           | (go_simp;go_at_call 189;refine (gn K HC.o _ B cs n j8 d tv T (oq.o.rs.keep0 (ae.refl _ _).drew) HD.o).mono ?_;rw [kS.o];intro e w4 hp;obtain⟨j4,k,b,s,a0,n0,c0,a1,n1,c1,a2,n2,c2,a3,n3,c3,a4,n4,c4,xs,he,mc,hown4,aL,hF⟩:=dv.o e w4 hp;subst he;obtain⟨⟨y0,y1,y2,y3,y4,y5,y6,y7⟩,⟨JC,JD,MW,MX,MY,MZ,M0,M1⟩⟩:=af.eight aL;have Jc:=aL.lt;have HF:=Hd hF;have kJ:=Hd mc;clear hp hF mc aL))
          all_goals
           obtain⟨wb,kh⟩:∃w3,w3=w5.setCell ⟨N,6,none⟩ (.slice (some ⟨gg,0,none⟩) ((m+1+1)+1) aC):=⟨_,rfl⟩;rw [←kh] at fc;rw [←kh];obtain⟨Zj,XJ⟩:∃x,x=some (⟨gg,0,none⟩:Addr):=⟨_,rfl⟩;obtain⟨Zk,XL⟩:∃x,x=aC:=⟨_,rfl⟩;obtain⟨SL,oc⟩:∃x,x=qp++d2:=⟨_,rfl⟩;rw [←XJ,←XL,←oc] at fc;rw [←oc] at bO;have fM:=fc;have Df:=Hd oc;clear XJ XL oc kh fc;have su:=Hd (show res=cf (.ok (SL,T.drop j4)) by rw [bO.o,kJ.o.2.2.1])
           have aa8:=kJ.o.1;have ux:=kJ.o.2.1;cases hq:aF [102,105] (T.drop j4) with
           | false=>
            have bO:=Hd (show res=.error 2 by rw [su.o];unfold cf cO;dsimp only;rw [hq];rfl);have jJ:=Hd (cn wb B cs n j4 d tv T [102,105] false fM.o.rs dC hq);exact QZ
           | true=>
            have bO:=Hd (show res=.ok (cE 6 false [] [] [] [] SL [],(T.drop j4).tail) by rw [su.o];unfold cf cO;dsimp only;rw [hq];rfl);have jJ:=Hd (cn wb B cs n j4 d tv T [102,105] true fM.o.rs dC hq);have Hh:=eT (cY dC hq);clear hq;go_wp2_with fail;refine jJ.o.mono ?_;rintro e w9 ⟨rfl,j9,XC,LQ,iF,kg⟩;have lX:=Hd (fM.o.move cF.o ct.o.1 ct.o.2 kg iF)
            have J4:=Hd (show T.drop j9=(T.drop j4).tail from LQ);have aa9:j4+1≤j9:=by
             have:=congrArg List.length J4.o;exact DF
            have j9T:=iF.i;clear iF kg LQ jJ;go_wp2_with fail;refine (df _).mono ?_;rintro e wy ⟨rfl,rfl⟩;have cQ:=(show af w9 N [.int .i64 6,false,eS,(),(),(),.slice Zj (m+1+1+1) Zk,()] from lX.o.rc);obtain⟨⟨v0,v1,v2,v3,v4,v5,v6,v7⟩,_⟩:=cQ.eight;have oW:=cQ.lt;have eV:=Hd lX.o.zr;have bZ:=Hd lX.o.kp
            have eF:=Hd lX.o.rs;have eW:=Hd lX.o.all;have uQ:=Hd ct.o.1;have lY:=Hd (show jA (cE 6 false [] [] [] [] SL []) from⟨_,_,_,_,_,_,_,_,rfl⟩);clear cQ;obtain⟨⟨z0,z1,z2,z3,z4,z5,z6,z7⟩,y0,y1,y2,y3,y4,y5,y6,y7⟩:=eV.o.eight;have fT:=eV.o.lt;go_wp2_with fail;refine nJ (v:=.agg #[.int .i64 6,false,eS,(),(),(),.slice Zj (m+1+1+1) Zk,()]) (by simp [results,Tryz.results190,go_sem,z0,z1,z2,z3,z4,z5,z6,z7]) rfl ?_
            obtain⟨f1,f2,f3⟩:=eK bZ.o eF.o uQ.o cF.o eW.o (ap w9 w.heap.size (.int .i64 6) (.bool false) (.string ⟨#[]⟩) (.slice none 0 0) (.slice none 0 0) (.slice none 0 0) (.slice Zj (m+1+1+1) Zk) (.slice none 0 0));rw [bO.o];exact⟨[.int .i64 6,false,eS,(),(),(),.slice Zj (m+1+1+1) Zk,()],⟨rfl,_,oM,J4.o,f1,f2⟩,rfl,lY.o,f3⟩
        | false=>
         have Bh:=Hd (show res=cf (.ok (qp,T.drop ja)) by rw [Nz.o,←J5.o,hq,nF sI]);have jJ:=Hd (cn wa B cs n ja d tv T [101,108,115,101] false Pj.o.rs dC hq);clear hq;go_wp2_with fail;refine jJ.o.mono ?_;rintro e wb ⟨rfl,jb,rj,Ya,iF,kg⟩;have fM:=Hd (Pj.o.move cF.o ct.o.1 ct.o.2 kg iF);have aaH:=Hd (show T.drop jb=T.drop ja from Ya)
         have jbT:=iF.i;clear iF kg Ya jJ;have su:=Hd (show res=cf (.ok (qp,T.drop jb)) by rw [Bh.o,aaH.o]);clear Pj Bh Nz bO Df;cases hq:aF [102,105] (T.drop jb) with
         | false=>
          have bO:=Hd (show res=.error 2 by rw [su.o];unfold cf cO;dsimp only;rw [hq];rfl);have jJ:=Hd (cn wb B cs n jb d tv T [102,105] false fM.o.rs dC hq);exact QZ
         | true=>
          have bO:=Hd (show res=.ok (cE 6 false [] [] [] [] qp [],(T.drop jb).tail) by rw [su.o];unfold cf cO;dsimp only;rw [hq];rfl);have jJ:=Hd (cn wb B cs n jb d tv T [102,105] true fM.o.rs dC hq);have Hh:=eT (cY dC hq);clear hq;go_wp2_with fail;refine jJ.o.mono ?_;rintro e w9 ⟨rfl,j9,XC,LQ,iF,kg⟩;have lX:=Hd (fM.o.move cF.o ct.o.1 ct.o.2 kg iF)
          have J4:=Hd (show T.drop j9=(T.drop jb).tail from LQ);have aa9:jb+1≤j9:=by
           have:=congrArg List.length J4.o;exact DF
          have j9T:=iF.i;clear iF kg LQ jJ;go_wp2_with fail;refine (df _).mono ?_;rintro e wy ⟨rfl,rfl⟩;have cQ:=(show af w9 N [.int .i64 6,false,eS,(),(),(),.slice FSq (m+1+1) FT,()] from lX.o.rc);obtain⟨⟨v0,v1,v2,v3,v4,v5,v6,v7⟩,_⟩:=cQ.eight;have oW:=cQ.lt;have eV:=Hd lX.o.zr;have bZ:=Hd lX.o.kp
          have eF:=Hd lX.o.rs;have eW:=Hd lX.o.all;have uQ:=Hd ct.o.1;have lY:=Hd (show jA (cE 6 false [] [] [] [] qp []) from⟨_,_,_,_,_,_,_,_,rfl⟩);clear cQ;obtain⟨⟨z0,z1,z2,z3,z4,z5,z6,z7⟩,y0,y1,y2,y3,y4,y5,y6,y7⟩:=eV.o.eight;have fT:=eV.o.lt;go_wp2_with fail;refine nJ (v:=.agg #[.int .i64 6,false,eS,(),(),(),.slice FSq (m+1+1) FT,()]) (by simp [results,Tryz.results190,go_sem,z0,z1,z2,z3,z4,z5,z6,z7]) rfl ?_
          obtain⟨f1,f2,f3⟩:=eK bZ.o eF.o uQ.o cF.o eW.o (ap w9 w.heap.size (.int .i64 6) (.bool false) (.string ⟨#[]⟩) (.slice none 0 0) (.slice none 0 0) (.slice none 0 0) (.slice FSq (m+1+1) FT) (.slice none 0 0));rw [bO.o];exact⟨[.int .i64 6,false,eS,(),(),(),.slice FSq (m+1+1) FT,()],⟨rfl,_,oM,J4.o,f1,f2⟩,rfl,lY.o,f3⟩
theorem GI.all2 {w wr:World} {B cs:Nat} {tv:Value} {n:Nat} {T:List Tk} {d X N:Nat} {Z:List Value} {pre post:List Dt} {vpre vpost:List Value} {k:Nat} {Ty:TypeId} {I m:Nat} {la:OA} {lc:Nat} {ds:List Dt}
 (h:GI w wr B cs tv n T d X N Z pre post vpre vpost k Ty I m la lc ds):bV wr (λ b=>X≤b∧b≠N) (pre++.sl k ds::post) (vpre++.slice la m lc::vpost):=by
 have h1:=h.own.reads (λ g hg=>h.low g hg);exact (h.pr.mono λ b _ hb=>hb.1).app ⟨h1,h.po.mono λ b _ hb=>hb.1⟩
theorem sW:(Tryz.prog.info? 29).map (λ i=>(i.zero,i.size,i.bytes))=some (some (.slice none 0 0),1,24):=kR
theorem mS:Tryz.prog.cellsOf 29=1:=kR
def lK (cmd:List Tk→PR (List Dt)) (nm:Bs) (ws:List Dt) (r:List Tk):PR (List Dt):=match cL cmd (ai r) with
 | .error e=>.error e
 | .ok (b,r2)=>.ok (cE 9 false nm ws [] [] b [],r2)
def p7 (cmd:List Tk→PR (List Dt)) (nm:Bs) (p:PR (List Dt)):PR (List Dt):=match p with
 | .error e=>.error e
 | .ok (ws,r)=>if aj [59] r || aj [10] r then lK cmd nm ws r.tail else .error 2
theorem Ob (cmd:List Tk→PR (List Dt)) (scr:Bs→Except Nat Unit) (ts:List Tk):fh cmd scr ts=if bK (aJ (ch ts)) then
 (if aF [105,110] (ai ts.tail) then p7 cmd (aJ (ch ts)) (bC scr ((ai ts.tail).tail.length+1) [] (ai ts.tail).tail)
  else lK cmd (aJ (ch ts)) [aB [.mk 3 [] [64] [] [] true]] (G0 (aj [59] (ai ts.tail)) (ai ts.tail)))
 else .error 2:=by
 unfold fh p7 lK;have e:G0 (aj [59] (ai ts.tail)) (ai ts.tail)=if aj [59] (ai ts.tail) then (ai ts.tail).tail else ai ts.tail:=by cases aj [59] (ai ts.tail)<;>rfl
 rw [e];cases bC scr ((ai ts.tail).tail.length+1) [] (ai ts.tail).tail with
 | error y=>rfl
 | ok x=>rfl
theorem xF (scr:Bs→Except Nat Unit) (n:Nat) (acc:List Dt) (ts:List Tk):bC scr (n+1) acc ts=if (ch ts).kind==1 then (match ca scr ts with
 | .error e=>.error e
 | .ok (w,r)=>bC scr n (acc++[aB w]) r) else .ok (acc,ts):=rfl
def Nc:Pt:=.mk 3 [] [64] [] [] true
theorem Lj {w wr Wa Wb Wc:World} {B cs:Nat} {tv:Value} {n:Nat} {T:List Tk} {d X N:Nat} {Z:List Value} {pre post:List Dt} {vpre vpost:List Value} {I lc:Nat}
 (h:GI w wr B cs tv n T d X N Z pre post vpre vpost 1 29 I 0 none lc []) (hc:cs<w.heap.size) (hX:w.heap.size<X) (hN:w.heap.size<N) (sB:X≤wr.heap.size)
 (ha:Wa=wr.setCell ⟨N,vpre.length,none⟩ (.slice (some ⟨wr.heap.size+1,0,none⟩) 1 1)) (hb:Wb=Wa.alloc (.cells #[.int .i64 3,eS,.string ⟨#[64]⟩,eS,(),true] 67)) (Rn:Wc=Wb.alloc (.cells #[.slice (some ⟨wr.heap.size,0,none⟩) 1 1] 29)) :
 GI w Wc B cs tv n T d X N Z pre post vpre vpost 1 29 I 1 (some ⟨wr.heap.size+1,0,none⟩) 1 [aB [Nc]]:=by
 have fR:=h.rc.lt;have hB:=h.rs.cs;have ka:ae (λ b=>b=N) wr Wa:=by rw [ha];exact (ae.refl _ _).setCell _ _ λ_=>rfl
 have za:Wa.heap.size=wr.heap.size:=by rw [ha];simp
 have kb:K0 Wa Wb:=by rw [hb];exact (ae.refl _ _).alloc _
 have zb:Wb.heap.size=wr.heap.size+1:=by rw [hb];simp [za]
 have kc:K0 Wb Wc:=by rw [Rn];exact (ae.refl _ _).alloc _
 have Yh:=kb.trans kc k3;have hp:bV Wa (λ b=>X≤b∧b≠N) (cg [Nc]) [.int .i64 3,eS,.string ⟨#[64]⟩,eS,(),true]:=by
  rw [iA,gp,List.append_nil,rX];exact⟨.int _,.str _,.str _,.str _,by rw [show (Nc.word)=[] from rfl,aB,gp];exact .nil _ _ _ (nB _),.bool _,trivial⟩
 have cv:=fk (k:=6) (m:=1) (Ty:=67) hp (by rw [li];rfl) dC hb ⟨oM,oM⟩;rw [za] at cv;have FQ:bV Wb (λ b=>(X≤b∧b≠N)) [aB [Nc]] [.slice (some ⟨wr.heap.size,0,none⟩) 1 1]:=⟨cv,trivial⟩;have qC:∀{dd:List Dt} {vv:List Value},bV wr (λ b=>(X≤b∧b≠N)∧(Value.slice none 0 lc).ownBlock≠some b) dd vv→
  bV Wc (λ b=>(X≤b∧b≠N)∧(Value.slice (some ⟨wr.heap.size+1,0,none⟩) 1 1).ownBlock≠some b) dd vv:=λ hh=>
  ((hh.lt.keep ka (λ b _ hb e=>hb.1.1.2 e)).keep Yh (λ_ _ _ h=>h)).mono λ b _ hb=>⟨hb.1.1,λ e=>by have h3:wr.heap.size+1=b:=nD e;have:=hb.2;omega⟩
 refine⟨(h.rs.keep ka (λ b hb e=>oM) (λ e=>oM)).keep0 Yh,(h.kp.fresh ka (λ b e=>oM)).trans Yh (λ_ _ h=>h.elim),(h.zr.keep ka (λ e=>oM)).keep Yh (λ h=>h),?_,?_,?_,qC h.pr,qC h.po⟩
 ·have:=h.rc.set vpre.length (.slice (some ⟨wr.heap.size+1,0,none⟩) 1 1);rw [A7,←ha] at this;exact this.keep Yh (λ h=>h)
 ·refine⟨[.slice (some ⟨wr.heap.size,0,none⟩) 1 1],(FQ.lt.keep kc (λ_ _ _ h=>h)).mono λ b _ hb=>⟨hb.1,λ e=>by have h3:wr.heap.size+1=b:=nD e;have:=hb.2;omega⟩,?_⟩;rw [Rn];have:=World.ownsRow_lit (base:=0) (e:=29) (size:=1) Wb #[.slice (some ⟨wr.heap.size,0,none⟩) 1 1] 1 (nB _) dC rfl;rw [zb] at this;exact this
 ·intro g hg;have h3:wr.heap.size+1=g:=nD hg;exact vx
theorem K7 (K:Nat) (bw:iI K) (cR:oI K) (w:World) (B cs n i d:Nat) (tv:Value) (T:List Tk) (h:RS w B cs tv n T i d) (hd:d+K=40) (fa:bK (aJ (ch (T.drop i)))=true→1≤(T.drop i).length) :
 Calls Tryz.prog 192 #[.pointer (some ⟨cs,0,none⟩)] w (eu w B cs tv n T i d Bp (fh (ab K) (av (ab K)) (T.drop i))):=by
 obtain⟨res,ag⟩:∃res,res=fh (ab K) (av (ab K)) (T.drop i):=⟨_,rfl⟩;rw [←ag];rw [Ob] at ag;obtain⟨nm,yW⟩:∃nm,nm=aJ (ch (T.drop i)):=⟨_,rfl⟩;rw [←yW] at ag fa;have oW:nm.length≤140737488351232:=by
  exact PM
 have lZ:=Hd fa;have JX:=Hd yW;have Nu:=Hd oW;have cK:=Hd cR;clear fa yW oW cR;have D7:=mS;have ov:=aT;obtain⟨i0,fo,fC,fp,fq⟩:=info_parts sW;have ay:=Hd ag;have HH:=Lib.hid h;have HC:=Hd bw;have HD:=Hd hd;have cF:=Hd h.lt;clear ag h bw hd;go_enter Tryz.func192,Tryz.ntmps192;go_wp2_with fail;obtain⟨W,hW⟩:∃W,W=w.alloc (.cells #[.int .i64 0,false,eS,(),(),(),(),()] 44):=⟨_,rfl⟩
 have eG:K0 w W:=by rw [hW];exact (ae.refl _ _).alloc _
 have HR:=Hd (show af W w.heap.size [.int .i64 0,false,eS,(),(),(),(),()] by rw [hW];exact aD _ _ _ _ _ _ _ _ _ _);rw [←hW];have dO:=Hd eG;have HX:=Hd (show w.heap.size<W.heap.size by rw [hW];simp);have sz:=Hd (show W.heap.size=w.heap.size+1 by rw [hW];simp);have HS:=Hd (HH.o.keep0 eG);clear eG hW;refine (jf W B cs n i d tv T HS.o).mono ?_
 rintro e w1 ⟨a,c,rfl,hp,hk⟩;have dp:=Hd hk;have ZZ:=Hd hp;clear hp hk;go_wp2_with fail;refine (fV _ _ _ _ _ _ ZZ.o).mono ?_;rintro e w2 ⟨rfl,aS⟩;rw [←JX.o];have cA:=Hd (dp.o.trans aS k3);obtain⟨wr,gU⟩:∃wr,wr=w2.alloc (.cells #[.int .i64 9,false,.string ⟨nm.toArray⟩,(),(),(),(),()] 44):=⟨_,rfl⟩
 have aV:K0 w2 wr:=by rw [gU];exact (ae.refl _ _).alloc _
 obtain⟨N,hN⟩:∃N,N=w2.heap.size:=⟨_,rfl⟩;obtain⟨X,hX⟩:∃X,X=W.heap.size:=⟨_,rfl⟩;have sF:=HX.o;have AM:=cA.o.size;have bp:=cA.o.trans aV k3;have iD:=Hd (show GI w wr B cs tv n T d X N [.int .i64 0,false,eS,(),(),(),(),()] [.int ((9:Nat):Int),.bool false,.str nm] [.sl 2 [],.sl 2 [],.sl 8 [],.sl 2 []] [.int .i64 9,false,.string ⟨nm.toArray⟩] [(),(),(),()] 1 29 i 0 none 0 [] from
  ⟨HS.o.keep0 bp,((dO.o.trans bp k3).mono (λ_ _ h=>h.elim)),HR.o.keep bp (λ h=>h),by rw [gU,hN];exact aD _ _ _ _ _ _ _ _ _ _,eM.nil _ _ _ _,λ g hg=>(by cases hg),⟨.int _,.bool _,.str _,trivial⟩,⟨.nil _ _ _ (nB _),.nil _ _ _ (nB _),.nil _ _ _ (nB _),.nil _ _ _ (nB _),trivial⟩⟩)
 have ct:=Hd (show w.heap.size<X∧w.heap.size<N by omega);have mG:=Hd (show X≤w.heap.size+1 by have:=sz.o;omega);obtain⟨⟨v0,v1,v2,v3,v4,v5,v6,v7⟩,_⟩:=(show af wr N [.int .i64 9,false,.string ⟨nm.toArray⟩,(),(),(),(),()] from iD.o.rc).eight;have ac5:=iD.o.rc.lt;have HN:=Hd hN;have rg:=Hd gU;clear aS gU aV hN hX sF AM bp
 go_wp2_with fail;rw [←rg.o];clear rg;cases pT:bK nm with
 | false=>
  have bO:=Hd (show res=.error 2 by rw [ay.o,pT,nF sI]);refine (kO nm wr false Nu.o pT).mono ?_;rintro e w3 ⟨rfl,aV⟩;have bZ:=Hd (iD.o.kp.trans aV (λ_ _ h=>h.elim));clear pT aV;exact FD
 | true=>
  have fN:=Hd (show res=if aF [105,110] (ai (T.drop (i+1))) then p7 (ab K) nm (bC (av (ab K)) ((ai (T.drop (i+1))).tail.length+1) [] (ai (T.drop (i+1))).tail)
   else lK (ab K) nm [aB [.mk 3 [] [64] [] [] true]] (G0 (aj [59] (ai (T.drop (i+1)))) (ai (T.drop (i+1)))) by rw [ay.o,pT,nE rfl,aG])
  have Vr:=Hd (lZ.o pT);refine (kO nm wr true Nu.o pT).mono ?_;rintro e w3 ⟨rfl,aV⟩;have up:=Hd (iD.o.keep0 aV);clear pT aV ay v0 v1 v2 v3 v4 v5 v6 v7;go_wp2_with fail;refine (df _).mono ?_;rintro e w4 ⟨rfl,rfl⟩;rw [←HN.o];obtain⟨c0,c1,c2,Nd,Nf⟩:=up.o.rs.cells;have hI1:=up.o.rs.i;have hT1:=up.o.rs.sm.1;have Hh:1≤(T.drop i).length:=Vr.o;have p0:(i:Int)≤20000:=oM
  have Yi:(0:Int)≤(i:Int):=oM
  obtain⟨Bl,hn2⟩:=up.o.rs.next Hh;have Dg:=Hd (up.o.move cF.o ct.o.1 ct.o.2 hn2 Bl);have XX:=eT Hh;clear Bl hn2;go_wp2_with fail;obtain⟨w4,fU⟩:∃w4,w4=w3.setCell ⟨cs,1,none⟩ (.int .i64 ((i:Int)+1)):=⟨_,rfl⟩;rw [←fU] at Dg;rw [←fU];clear fU c0 c1 c2 Nd Nf;refine (dH w4 B cs n (i+1) d tv T Dg.o.rs).mono ?_;rintro e w5 ⟨rfl,j5,Y9,El,mf,bi⟩;have fc:=Hd (Dg.o.move cF.o ct.o.1 ct.o.2 bi mf)
  have YF:=Hd El;have Ts:=mf.i;clear mf bi El;go_wp2_with fail;cases mY:aF [105,110] (T.drop j5) with
  | true=>
   have jJ:=Hd (cn w5 B cs n j5 d tv T [105,110] true fc.o.rs dC mY);have cJ:=Hd (show res=p7 (ab K) nm (bC (av (ab K)) ((T.drop j5).tail.length+1) [] (T.drop j5).tail) by rw [fN.o,←YF.o,mY,nE rfl]);clear mY;refine jJ.o.mono ?_;rintro e w6 ⟨rfl,j6,hj6,OG,B4,cu⟩;have pm:=Hd (fc.o.move cF.o ct.o.1 ct.o.2 cu B4);have lG:=Hd (show res=p7 (ab K) nm (bC (av (ab K)) (T.length - j6+1) [] (T.drop j6)) by rw [cJ.o,←show T.drop j6=(T.drop j5).tail from OG,nI])
   clear B4 cu OG jJ fN cJ;go_wp2_with fail;go_loopg [] (T.length - j6) (λ g wr=>∃(I M m:Nat) (la:OA) (lc:Nat) (acc:List Dt),g=T.length - I∧i≤I∧m≤I∧T.length - I+1≤M∧Hid (GI w wr B cs tv n T d X N [.int .i64 0,false,eS,(),(),(),(),()] [.int ((9:Nat):Int),.bool false,.str nm] [.sl 2 [],.sl 2 [],.sl 8 [],.sl 2 []] [.int .i64 9,false,.string ⟨nm.toArray⟩] [(),(),(),()] 1 29 I m la lc acc)∧Hid (res=p7 (ab K) nm (bC (av (ab K)) M acc (T.drop I))))
   case atStart=>exact⟨j6,_,0,none,0,[],rfl,oM,nB _,nC _,pm,lG⟩
   case round=>
    obtain⟨I,M,m,la,lc,acc,eH,mI,yj,hM,HG,gG⟩:=hrel;have fK:=Hd eH;have p8:=HG.o.rs.i;have vO:=HG.o.rs.sm.1;obtain⟨M,rfl⟩:∃M',M=M'+1:=⟨M - 1,oM⟩;clear eH iD up Dg fc pm lG;have bf:=jf wr B cs n I d tv T HG.o.rs;have Y7:=qu;obtain⟨tk,gB⟩:∃tk,tk=ch (T.drop I):=⟨_,rfl⟩;rw [←gB] at bf;have kP:=Hd bf;have C7:=xF (av (ab K)) M acc (T.drop I)
    rw [←gB] at C7;clear bf gB;by_cases bt:tk.kind=1
    ·have t0:((tk.kind:Int)==1)=true:=by rw [nH];omega
     have gh:=Hd (show res=p7 (ab K) nm (match ca (av (ab K)) (T.drop I) with
      | .error e=>.error e
      | .ok (w,r)=>bC (av (ab K)) M (acc++[aB w]) r) by rw [gG.o,C7,bt,nE rF])
     clear C7 bt gG;go_wp2_with fail;refine kP.o.mono ?_;rintro e wb ⟨a,c,rfl,hp,hk⟩;have fM:=Hd (HG.o.keep0 hk);clear hp hk HG kP;have sB:=ct.o.1;have pR:=Hd (show X≤wb.heap.size by have h1:=fM.o.zr.lt;have h2:=mG.o;omega);obtain⟨⟨x0,x1,x2,x3,x4,x5,x6,x7⟩,⟨f8,gf,hC,hU,hV,hY,hZ,ia⟩⟩:=(show af wb N [.int .i64 9,false,.string ⟨nm.toArray⟩,.slice la m lc,(),(),(),()] from fM.o.rc).eight
     have fR:=fM.o.rc.lt;cases bo:ca (av (ab K)) (T.drop I) with
     | error y=>
      have bO:=Hd (show res=.error y by rw [gh.o,bo];rfl);have kS:=Hd bo;clear bo;go_wp2_with fail;refine uF (S:=(λ w'=>af w' N [.int .i64 9,false,.string ⟨nm.toArray⟩,.slice la m lc,(),(),(),()])) kR (fM.o.rc.keep (S:=λ_=>False) (ae.refl _ _).drew (λ h=>h)) (λ dJ=>?_);refine nS (i:=0) (v:=.pointer (some ⟨N,3,none⟩)) rfl kR kR kR (λ_ _ _ h=>h) (Or.inl ⟨rF,?_⟩) dJ ?_
      ·(intro ww jP;have ⟨⟨g0,g1,g2,g3,g4,g5,g6,g7⟩,_⟩:=af.eight jP;go_simp;all_goals (first | done | with_reducible rfl))
      refine nS (i:=1) (v:=.slice la m lc) rfl kR kR kR (λ_ _ _ h=>h) (Or.inl ⟨rF,?_⟩) dJ ?_
      ·(intro ww jP;have ⟨⟨g0,g1,g2,g3,g4,g5,g6,g7⟩,_⟩:=af.eight jP;go_simp;all_goals (first | done | with_reducible rfl))
      refine nS (i:=2) (v:=.pointer (some ⟨cs,0,none⟩)) rfl kR kR kR (λ_ _ _ h=>h) (Or.inl ⟨rF,?_⟩) dJ ?_
      ·(intro ww jP;have ⟨⟨g0,g1,g2,g3,g4,g5,g6,g7⟩,_⟩:=af.eight jP;go_simp;all_goals (first | done | with_reducible rfl))
      refine uE (rs:=[3]) kR sI ?_;refine AllReadyH.cons rfl (λ KK hK=>?_) AllReadyH.nil;go_simp;go_at_call 198;refine (jY K cK.o _ B cs n I d tv T (fM.o.rs.keep0 (ae.refl _ _).drew) HD.o).mono ?_;exact SY
     | ok dr=>
      obtain⟨x,r2⟩:=dr;have bO:=Hd (show res=p7 (ab K) nm (bC (av (ab K)) M (acc++[aB x]) r2) by rw [gh.o,bo]);have kS:=Hd bo;clear bo;have dv:=Hd (show ∀e w4,sL wb.drew B cs tv n T I d (.ok (x,r2)) e w4→∃(j4:Nat) (wa:OA) (wl wc:Nat) (xs:List Value),e=.returned (.slice wa wl wc)∧(I≤j4∧j4≤T.length∧T.drop j4=r2∧True)∧w4.ownsRow 0 29 1 (.slice la m lc) m xs∧af w4 N [.int .i64 9,false,.string ⟨nm.toArray⟩,.slice la m lc,(),(),(),()]∧
       (∀(gg aC:Nat) (w5:World) (o:Obj),w5.ownsRow 0 29 1 (.slice (some ⟨gg,0,none⟩) (m+1) aC) (m+1) (xs++[.slice wa wl wc])→(w4.alloc o).grownBy w5 (Value.slice la m lc).ownBlock→((Value.slice la m lc).ownBlock=some gg∨gg=w4.heap.size+1)→
        af w5 N [.int .i64 9,false,.string ⟨nm.toArray⟩,.slice la m lc,(),(),(),()]∧GI w (w5.setCell ⟨N,3,none⟩ (.slice (some ⟨gg,0,none⟩) (m+1) aC)) B cs tv n T d X N [.int .i64 0,false,eS,(),(),(),(),()] [.int ((9:Nat):Int),.bool false,.str nm] [.sl 2 [],.sl 2 [],.sl 8 [],.sl 2 []] [.int .i64 9,false,.string ⟨nm.toArray⟩] [(),(),(),()] 1 29 j4 (m+1) (some ⟨gg,0,none⟩) aC (acc++[aB x])) from λ e w4 hp=>by
       obtain⟨wa,wc,mm,⟨he,j4,kB,iY,cG,be⟩,xM,B9⟩:=hp;have f7:bV w4 (λ b=>wb.heap.size≤b) [aB x] [.slice wa x.length wc]:=⟨gv xM,trivial⟩;obtain⟨wl,iZ⟩:∃wl,wl=x.length:=⟨_,rfl⟩;rw [←iZ] at he f7;obtain⟨xs,ho,cQ,hF⟩:=fM.o.more cF.o ct.o.1 ct.o.2 pR.o ((ae.refl (λ b=>b=cs) wb).drew.trans be k3) cG f7;exact⟨j4,wa,wl,wc,xs,he,⟨kB,cG.i,iY,trivial⟩,ho,cQ,hF⟩)
      go_wp2_with fail;go_region_law (first
       | (
        refine step_append_lies _ rF _ _ _ rF 0 29 i0 _ 1 24 Tryz.underlying39 fo fC fp fq rfl oM (.slice la m lc) m xs rF (hown4.alloc _)
         ⟨w4.heap.size,0,none⟩ 1 1 [.slice wa wl wc] rF rF (nK (cs:=#[.slice wa wl wc]) (t:=29) (fr:=(0,0)) (nG w4 _)) oC
         oM uM oM sI (w4.heap.size+1) sI ?_;intro gg aC w5 aK ao bf gT
        obtain⟨aH,gA⟩:=HF.o gg aC w5 _ aK ao bf;obtain⟨⟨z0,z1,z2,z3,z4,z5,z6,z7⟩,⟨gO,gP,ib,ic,ie,ig,ii,ij⟩⟩:=af.eight aH;have qy:=aH.lt;have fc:=Hd gA;clear aH gA aK ao bf)
       | (go_simp;go_at_call 198;refine (jY K cK.o _ B cs n I d tv T (fM.o.rs.keep0 (ae.refl _ _).drew) HD.o).mono ?_;rw [kS.o];intro e w4 hp;obtain⟨j4,wa,wl,wc,xs,he,mc,hown4,aL,hF⟩:=dv.o e w4 hp;subst he;obtain⟨⟨y0,y1,y2,y3,y4,y5,y6,y7⟩,⟨JC,JD,MW,MX,MY,MZ,M0,M1⟩⟩:=af.eight aL;have Jc:=aL.lt;have HF:=Hd hF;have kJ:=Hd mc;clear hp hF mc aL))
      all_goals
       obtain⟨w3,kh⟩:∃w3,w3=w5.setCell ⟨N,3,none⟩ (.slice (some ⟨gg,0,none⟩) (m+1) aC):=⟨_,rfl⟩;rw [←kh] at fc;rw [←kh];have qn:=Hd (show res=p7 (ab K) nm (bC (av (ab K)) M (acc++[aB x]) (T.drop j4)) by rw [bO.o,kJ.o.2.2.1]);have Tr:I+1≤j4:=by
        have h1:=g9 kS.o;exact S1
       exact PF
    ·have t0:((tk.kind:Int)==1)=false:=by rw [nA];omega
     have gh:=Hd (show res=if aj [59] (T.drop I) || aj [10] (T.drop I) then lK (ab K) nm acc (T.drop (I+1)) else .error 2 by rw [gG.o,C7,nF (by simpa using bt)];unfold p7;dsimp only;rw [aG]);clear C7 bt gG;go_wp2_with fail;refine kP.o.mono ?_;rintro e wb ⟨a,c,rfl,hp,hk⟩;have fM:=Hd (HG.o.keep0 hk);clear hp hk HG kP;go_wp2_with fail;cases p9:aj [59] (T.drop I) with
     | true=>
      have iJ:=Hd (show res=lK (ab K) nm acc (T.drop (I+1)) by rw [gh.o,p9];rfl);have Z2:=Hd (dA p9);refine (jT wb B cs n I d tv T [59] true fM.o.rs p9).mono ?_;rintro e wc ⟨rfl,hk⟩;have zP:=Hd (fM.o.keep0 hk);clear hk p9;go_wp2_with fail;refine (df _).mono ?_;rintro e wd ⟨rfl,rfl⟩;obtain⟨c0,c1,c2,Nd,Nf⟩:=zP.o.rs.cells;have hI1:=zP.o.rs.i;have hT1:=zP.o.rs.sm.1
      have Hh:1≤(T.drop I).length:=Z2.o;have p0:(I:Int)≤20000:=oM
      have Yi:(0:Int)≤(I:Int):=oM
      obtain⟨Bl,hn2⟩:=zP.o.rs.next Hh;have uq:=Hd (zP.o.move cF.o ct.o.1 ct.o.2 hn2 Bl);have XX:=eT Hh;clear Bl hn2;go_wp2_with fail;obtain⟨wd,LV⟩:∃wd,wd=wc.setCell ⟨cs,1,none⟩ (.int .i64 ((I:Int)+1)):=⟨_,rfl⟩;rw [←LV] at uq;rw [←LV];clear LV c0 c1 c2 Nd Nf;have Ut:=Hd (show res=lK (ab K) nm acc (T.drop (I+1)) by exact iJ.o);go_wp2_with fail;refine (dH wd B cs n (I+1) d tv T uq.o.rs).mono ?_
      rintro e wl ⟨rfl,jl,uy,lE,pV,oU⟩;have Br:=Hd (uq.o.move cF.o ct.o.1 ct.o.2 oU pV);exact c5x
     | false=>
     refine (jT wb B cs n I d tv T [59] false fM.o.rs p9).mono ?_;rintro e wc ⟨rfl,hk⟩;have zP:=Hd (fM.o.keep0 hk);clear hk;go_wp2_with fail;cases dy:aj [10] (T.drop I) with
     | true=>
      have iJ:=Hd (show res=lK (ab K) nm acc (T.drop (I+1)) by rw [gh.o,p9,dy];rfl);have Z2:=Hd (dA dy);refine (jT wc B cs n I d tv T [10] true zP.o.rs dy).mono ?_;rintro e wd ⟨rfl,hk⟩;have uq:=Hd (zP.o.keep0 hk);clear hk p9 dy;go_wp2_with fail;refine (df _).mono ?_;rintro e we ⟨rfl,rfl⟩;obtain⟨c0,c1,c2,Nd,Nf⟩:=uq.o.rs.cells;have hI1:=uq.o.rs.i;have hT1:=uq.o.rs.sm.1
      have Hh:1≤(T.drop I).length:=Z2.o;have p0:(I:Int)≤20000:=oM
      have Yi:(0:Int)≤(I:Int):=oM
      obtain⟨Bl,hn2⟩:=uq.o.rs.next Hh;have zQ:=Hd (uq.o.move cF.o ct.o.1 ct.o.2 hn2 Bl);have XX:=eT Hh;clear Bl hn2;go_wp2_with fail;obtain⟨we,Bo⟩:∃we,we=wd.setCell ⟨cs,1,none⟩ (.int .i64 ((I:Int)+1)):=⟨_,rfl⟩;rw [←Bo] at zQ;rw [←Bo];clear Bo c0 c1 c2 Nd Nf;have Ut:=Hd (show res=lK (ab K) nm acc (T.drop (I+1)) by exact iJ.o);go_wp2_with fail;refine (dH we B cs n (I+1) d tv T zQ.o.rs).mono ?_
      rintro e wl ⟨rfl,jl,uy,lE,pV,oU⟩;have Br:=Hd (zQ.o.move cF.o ct.o.1 ct.o.2 oU pV);exact c5x
     | false=>
      have bO:=Hd (show res=.error 2 by rw [gh.o,p9,dy];rfl);refine (jT wc B cs n I d tv T [10] false zP.o.rs dy).mono ?_;rintro e wd ⟨rfl,hk⟩;have bZ:=Hd (zP.o.kp.trans hk (λ_ _ h=>h.elim));clear hk p9 dy;go_wp2_with fail;refine (jE _).mono ?_;rintro e we ⟨rfl,rfl⟩;exact yL
  | false=>
   have jJ:=Hd (cn w5 B cs n j5 d tv T [105,110] false fc.o.rs dC mY);have cJ:=Hd (show res=lK (ab K) nm [aB [Nc]] (G0 (aj [59] (T.drop j5)) (T.drop j5)) by rw [fN.o,←YF.o,mY,nF sI];rfl);clear mY;refine jJ.o.mono ?_;rintro e w6 ⟨rfl,j6,hj6,OG,B4,cu⟩;have sS:=fc.o.move cF.o ct.o.1 ct.o.2 cu B4;have HT6:=Hd (show T.drop j6=T.drop j5 from OG)
   have LE:=(show af w6 N [.int .i64 9,false,.string ⟨nm.toArray⟩,(),(),(),(),()] from sS.rc);obtain⟨⟨x0,x1,x2,x3,x4,x5,x6,x7⟩,f8,gf,hC,hU,hV,hY,hZ,ia⟩:=LE.eight;have fR:=LE.lt;obtain⟨Wa,hWa⟩:∃Wa,Wa=w6.setCell ⟨N,3,none⟩ (.slice (some ⟨w6.heap.size+1,0,none⟩) 1 1):=⟨_,rfl⟩;obtain⟨Wb,hWb⟩:∃Wb,Wb=Wa.alloc (.cells #[.int .i64 3,eS,.string ⟨#[64]⟩,eS,(),true] 67):=⟨_,rfl⟩
   obtain⟨Wc,hWc⟩:∃Wc,Wc=Wb.alloc (.cells #[.slice (some ⟨w6.heap.size,0,none⟩) 1 1] 29):=⟨_,rfl⟩;have zP:=Hd (Lj sS cF.o ct.o.1 ct.o.2 (by have h1:=mG.o;have h2:=sS.zr.lt;omega) (by rw [hWa];rfl) hWb hWc);have VJ:=Hd hWa;have SG:=Hd hWb;have HWC:=Hd hWc;clear B4 cu OG jJ fN sS LE hWa hWb hWc;go_wp2_with fail;rw [←VJ.o,←SG.o,←HWC.o];obtain⟨la,rk⟩:∃la,la=some (⟨w6.heap.size+1,0,none⟩:Addr):=⟨_,rfl⟩
   rw [←rk] at zP;clear rk VJ SG HWC x0 x1 x2 x3 x4 x5 x6 x7 f8 gf hC hU hV hY hZ ia;obtain⟨q,hq⟩:∃q,aj [59] (T.drop j6)=q:=⟨_,rfl⟩;refine (cP Wc B cs n j6 d tv T [59] q zP.o.rs hq).mono ?_;rintro e wd ⟨rfl,jd,hjd,UW,TA,kn⟩;have uq:=Hd (zP.o.move cF.o ct.o.1 ct.o.2 kn TA);have iJ:=Hd (show res=lK (ab K) nm [aB [Nc]] (T.drop jd) by rw [cJ.o,←HT6.o,hq,UW])
   have acV:=TA.i;clear TA kn UW zP cJ hq;have gC:∀(Q:Prop),(q=true→Q)→(q=false→Q)→Q:=λ Q h1 h2=>by cases q;exact h2 rfl;exact h1 rfl
   refine gC _ (λ hq=>?_) (λ hq=>?_)
   all_goals
    subst hq;have Ut:=Hd (show res=lK (ab K) nm [aB [Nc]] (T.drop jd) by exact iJ.o);go_wp2_with fail;refine (dH wd B cs n jd d tv T uq.o.rs).mono ?_;rintro e wl ⟨rfl,jl,uy,lE,pV,oU⟩;have Br:=Hd (uq.o.move cF.o ct.o.1 ct.o.2 oU pV);have sy:=Hd lE;clear pV oU lE;go_wp2_with fail;refine (rD K HC.o wl B cs n jl d tv T Br.o.rs HD.o).mono ?_
    intro e w4 hp;rw [sy.o] at hp;have od:=Ut.o;unfold lK at od;cases bo:cL (ab K) (ai (T.drop jd)) with
    | error y=>
     exact Re
    | ok dr=>
     obtain⟨dd,r⟩:=dr;rw [bo] at hp od;obtain⟨vs,⟨rfl,j4,kB,iY,cG,be⟩,_,eJ,eo⟩:=hp;obtain⟨k,b,s,a0,n0,c0,a1,n1,c1,a2,n2,c2,a3,n3,c3,a4,n4,c4,rfl⟩:=cC eJ eo;have bO:=Hd (show res=.ok (cE 9 false nm [aB [Nc]] [] [] dd [],r) from od);have tL:=Br.o.move cF.o ct.o.1 ct.o.2 be cG;have Bx:=Hd iY;have aL:=(show af w4 N [.int .i64 9,false,.string ⟨nm.toArray⟩,.slice la 1 1,(),(),(),()] from tL.rc)
     obtain⟨⟨x0,x1,x2,x3,x4,x5,x6,x7⟩,f8,gf,hC,hU,hV,hY,hZ,ia⟩:=aL.eight;have fR:=aL.lt;obtain⟨W5,ou⟩:∃W5,W5=w4.setCell ⟨N,6,none⟩ (.slice (some ⟨w4.heap.size,0,none⟩) 1 1):=⟨_,rfl⟩;have bi:ae (λ b=>b=N) w4 W5:=by rw [ou];exact (ae.refl _ _).setCell _ _ λ_=>rfl
     have sG:W5.heap.size=w4.heap.size:=by rw [ou];simp
     have BZ:af W5 N [.int .i64 9,false,.string ⟨nm.toArray⟩,.slice la 1 1,(),(),.slice (some ⟨w4.heap.size,0,none⟩) 1 1,()]:=by rw [ou];exact aL.set 6 _
     obtain⟨W6,i4⟩:∃W6,W6=W5.alloc (.cells #[k,b,s,.slice a0 n0 c0,.slice a1 n1 c1,.slice a2 n2 c2,.slice a3 n3 c3,.slice a4 n4 c4] 44):=⟨_,rfl⟩;have cu:K0 W5 W6:=by rw [i4];exact (ae.refl _ _).alloc _
     have Jq:=ct.o;have Xl:X≤w4.heap.size:=by have h1:=mG.o;have h2:=tL.zr.lt;omega
     have Hb:X≤wl.heap.size:=by have h1:=mG.o;have h2:=Br.o.zr.lt;omega
     have FO:bV w4 (λ b=>X≤b∧b≠N) dd [k,b,s,.slice a0 n0 c0,.slice a1 n1 c1,.slice a2 n2 c2,.slice a3 n3 c3,.slice a4 n4 c4]:=eo.mono λ b _ hb=>by
      have h1:=Br.o.rc.lt;have h2:wl.heap.size≤b:=hb;exact vx
     have cv:=fk (k:=8) (m:=1) (Ty:=44) (FO.keep bi (λ b _ hb e=>hb.2 e)) (by have h1:=eJ.len;omega) dC i4 ⟨oM,oM⟩;rw [sG] at cv;have yf:=(tL.all2.keep bi (λ b _ hb e=>hb.2 e)).keep cu (λ_ _ _ h=>h);have eW:=Hd (show bV W6 (λ b=>X≤b) (cE 9 false nm [aB [Nc]] [] [] dd []) [.int .i64 9,false,.string ⟨nm.toArray⟩,.slice la 1 1,(),(),.slice (some ⟨w4.heap.size,0,none⟩) 1 1,()] from by
      obtain⟨a0,a1,a2,a3,a4,a5,_,a7,_⟩:=yf;exact bV.mono (λ b _ hb=>hb.1) (D:=λ b=>X≤b∧b≠N) ⟨a0,a1,a2,a3,a4,a5,cv,a7,trivial⟩)
     have bp:=(tL.kp.fresh bi (λ b e=>oM)).trans cu (λ_ _ h=>h.elim);have bZ:=Hd bp;have eF:=Hd ((tL.rs.keep bi (λ b hb e=>by have h1:=tL.rs.cs;have h2:=cF.o;omega) (λ e=>by have h2:=cF.o;omega)).keep0 cu);have eV:=Hd ((tL.zr.keep bi (λ e=>oM)).keep cu (λ h=>h));obtain⟨⟨q0,q1,q2,q3,q4,q5,q6,q7⟩,_⟩:=(BZ.keep cu (λ h=>h)).eight;have XR:=(BZ.keep cu (λ h=>h)).lt
     have uQ:=Hd ct.o.1;have lY:=Hd (show jA (cE 9 false nm [aB [Nc]] [] [] dd []) from⟨_,_,_,_,_,_,_,_,rfl⟩);have uP:=Hd ou;have Nb:=Hd i4;clear bo od cG be eJ eo iY tL aL ou bi sG BZ i4 cu FO cv yf bp;go_upto_region 14 with fail;rw [←uP.o,←Nb.o];obtain⟨⟨z0,z1,z2,z3,z4,z5,z6,z7⟩,y0,y1,y2,y3,y4,y5,y6,y7⟩:=eV.o.eight;have fT:=eV.o.lt;go_wp2_with fail
     refine nJ (v:=.agg #[.int .i64 9,false,.string ⟨nm.toArray⟩,.slice la 1 1,(),(),.slice (some ⟨w4.heap.size,0,none⟩) 1 1,()]) (by simp [results,Tryz.results192,go_sem,z0,z1,z2,z3,z4,z5,z6,z7]) rfl ?_;obtain⟨f1,f2,f3⟩:=eK bZ.o eF.o uQ.o cF.o eW.o (ap W6 w.heap.size (.int .i64 9) (.bool false) (.string ⟨nm.toArray⟩) (.slice la 1 1) (.slice none 0 0) (.slice none 0 0) (.slice (some ⟨w4.heap.size,0,none⟩) 1 1) (.slice none 0 0))
     rw [bO.o];exact⟨[.int .i64 9,false,.string ⟨nm.toArray⟩,.slice la 1 1,(),(),.slice (some ⟨w4.heap.size,0,none⟩) 1 1,()],⟨rfl,_,oM,Bx.o,f1,f2⟩,rfl,lY.o,f3⟩
def Zs (vs:List Value):Prop:=∃(a:OA) (m c:Nat) (a2:OA) (m2 c2:Nat),vs=[.slice a m c,.slice a2 m2 c2]
def Ki (cmd:List Tk→PR (List Dt)) (ps:List Dt) (r:List Tk):PR (List Dt):=if fj (ai r) then (match bz cmd (ai r) with
 | .error e=>.error e
 | .ok (b,r3)=>.ok ([.sl 1 ps,.sl 8 b],r3))
 else .ok ([.sl 1 ps,.sl 8 []],ai r)
def mQ (cmd:List Tk→PR (List Dt)) (p:PR (List Dt)):PR (List Dt):=match p with
 | .error e=>.error e
 | .ok (ps,r1)=>if aj [41] r1 then Ki cmd ps r1.tail else .error 2
theorem SR (cmd:List Tk→PR (List Dt)) (scr:Bs→Except Nat Unit) (ts:List Tk):lu cmd scr ts=match ca scr (G0 (aj [40] ts) ts) with
 | .error e=>.error e
 | .ok (w,r)=>mQ cmd (bT scr (r.length+1) [aB w] r):=by
 unfold lu mQ Ki en;have e:G0 (aj [40] ts) ts=if aj [40] ts then ts.tail else ts:=by cases aj [40] ts<;>rfl
 rw [e];cases ca scr (if aj [40] ts=true then ts.tail else ts) with
 | error y=>rfl
 | ok x=>
  obtain⟨w,r⟩:=x;dsimp only;cases bT scr (r.length+1) [aB w] r with
  | error y=>rfl
  | ok z=>
   obtain⟨ps,r1⟩:=z;dsimp only;cases aj [41] r1<;>rfl
theorem qf (scr:Bs→Except Nat Unit) (n:Nat) (acc:List Dt) (ts:List Tk):bT scr (n+1) acc ts=if aj [124] ts then (match ca scr ts.tail with
 | .error e=>.error e
 | .ok (w,r)=>bT scr n (acc++[aB w]) r) else .ok (acc,ts):=rfl
theorem rW (w:World) (v0 v1:Value) (t:TypeId):af (w.alloc (.cells #[v0,v1] t)) w.heap.size [v0,v1]:=⟨t,nG w _⟩
theorem NQ (K:Nat) (bw:iI K) (cR:oI K) (w:World) (B cs n i d:Nat) (tv:Value) (T:List Tk) (h:RS w B cs tv n T i d) (hd:d+K=40) :
 Calls Tryz.prog 203 #[.pointer (some ⟨cs,0,none⟩)] w (mL w B cs tv n T i d Zs (lu (ab K) (av (ab K)) (T.drop i))):=by
 obtain⟨res,ag⟩:∃res,res=lu (ab K) (av (ab K)) (T.drop i):=⟨_,rfl⟩;rw [←ag];rw [SR] at ag;obtain⟨q,hq⟩:∃q,aj [40] (T.drop i)=q:=⟨_,rfl⟩;rw [hq] at ag;have ov:=aT;have D7:=mS;obtain⟨i0,fo,fC,fp,fq⟩:=info_parts sW;have ay:=Hd ag;have HH:=Lib.hid h;have HC:=Hd bw;have cK:=Hd cR;have HD:=Hd hd;have HQ:=Hd hq;have cF:=Hd h.lt;clear ag h bw hd cR hq
 go_enter Tryz.func203,Tryz.ntmps203;go_wp2_with fail;obtain⟨W,hW⟩:∃W,W=w.alloc (.cells #[(),()] 49):=⟨_,rfl⟩;have eG:K0 w W:=by rw [hW];exact (ae.refl _ _).alloc _
 have HR:=Hd (show af W w.heap.size [(),()] by rw [hW];exact rW _ _ _ _);rw [←hW];have dO:=Hd eG;have HX:=Hd (show w.heap.size<W.heap.size by rw [hW];simp);have sz:=Hd (show W.heap.size=w.heap.size+1 by rw [hW];simp);have HS:=Hd (HH.o.keep0 eG);clear eG hW;refine (cP W B cs n i d tv T [40] q HS.o HQ.o).mono ?_;rintro e w1 ⟨rfl,j1,ku,ko,jj,bt⟩
 have dF:=Hd jj;have dp:=Hd bt;have fN:=Hd (show res=match ca (av (ab K)) (T.drop j1) with
  | .error e=>.error e
  | .ok (w,r)=>mQ (ab K) (bT (av (ab K)) (r.length+1) [aB w] r) by rw [ay.o,ko])
 clear jj bt ko ay;have gC:∀(Q:Prop),(q=true→Q)→(q=false→Q)→Q:=λ Q h1 h2=>by cases q;exact h2 rfl;exact h1 rfl
 refine gC _ (λ hq=>?_) (λ hq=>?_)
 all_goals
  subst hq;go_wp2_with fail;refine (jY K cK.o w1 B cs n j1 d tv T dF.o HD.o).mono ?_;intro e w2 hp;cases bo:ca (av (ab K)) (T.drop j1) with
  | error y=>
   exact KI
  | ok xr=>
   obtain⟨x,r⟩:=xr;rw [bo] at hp;obtain⟨wa,wc,mm,⟨rfl,j2,hj2,il,ee,aS⟩,xM,B9⟩:=hp;obtain⟨wl,iZ⟩:∃wl,wl=x.length:=⟨_,rfl⟩;rw [←iZ] at xM;rw [←iZ];have cJ:=Hd (show res=mQ (ab K) (bT (av (ab K)) (T.length - j2+1) [aB x] (T.drop j2)) by rw [fN.o,bo];dsimp only;rw [←il,nI]);have OE:=dp.o.size;obtain⟨wi,xO⟩:∃wi,wi=w2.alloc (.cells #[.slice wa wl wc] 29):=⟨_,rfl⟩
   have XY:bV w2 (λ b=>W.heap.size≤b) [aB x] [.slice wa wl wc]:=⟨(gv xM).mono (λ b _ hb=>nY OE hb),trivial⟩;have Ha:=LI.one (w0:=W) (k:=1) (Ty:=29) (w1:=wi) ee XY (dp.o.trans aS k3) rfl xO;obtain⟨wr,gU⟩:∃wr,wr=wi.alloc (.cells #[.slice (some ⟨w2.heap.size,0,none⟩) 1 1,()] 49):=⟨_,rfl⟩;have aV:K0 wi wr:=by rw [gU];exact (ae.refl _ _).alloc _
   have Yc:wi.heap.size=w2.heap.size+1:=by rw [xO];simp
   obtain⟨N,hN⟩:∃N,N=w2.heap.size+1:=⟨_,rfl⟩;obtain⟨X,hX⟩:∃X,X=W.heap.size:=⟨_,rfl⟩;have qB:=Ha.keep0 aV;have qA:=cF.o;have sF:=HX.o;have ek:=aS.size;have iD:=Hd (show GI w wr B cs tv n T d X N [(),()] [] [.sl 8 []] [] [()] 1 29 j2 1 (some ⟨w2.heap.size,0,none⟩) 1 [aB x] from
    ⟨qB.rs,(dO.o.mono (λ_ _ h=>h.elim)).trans qB.kp k3,HR.o.keep qB.kp (λ e=>oM),by rw [gU,hN,←Yc];exact rW _ _ _ _,
     ((
      by
      obtain⟨us,hu,ho⟩:=Ha.own;exact⟨us,(hu.lt.keep aV (λ_ _ _ e=>e)).mono λ b _ hb=>⟨⟨by have:=hb.1.1;omega,by have:=hb.2;omega⟩,hb.1.2⟩,by rw [gU];exact ho.alloc _⟩):eM wr (λ b=>X≤b∧b≠N) (.slice (some ⟨w2.heap.size,0,none⟩) 1 1) 1 29 1 [aB x]),
     λ g hg=>by have h3:w2.heap.size=g:=nD hg;omega,trivial,⟨.nil _ _ _ (nB _),trivial⟩⟩)
   have ct:=Hd (show w.heap.size<X∧w.heap.size<N by omega);have mG:=Hd (show X≤w.heap.size+1 by have:=sz.o;omega);have HN:=Hd hN;have rg:=Hd gU;have VK:=Hd xO;have HJ:=Hd (show i≤j2 by omega);have dM:=g9 bo;rw [nI,←il,nI] at dM;have Om:=ee.i;clear bo aS ee xM B9 il aV hN hX gU xO Yc qB Ha ek sF qA XY iZ OE;go_wp2_with fail;rw [←VK.o,←rg.o,←HN.o]
   obtain⟨la,rk⟩:∃la,la=some (⟨w2.heap.size,0,none⟩:Addr):=⟨_,rfl⟩;rw [←rk] at iD;clear rk rg VK;go_loopg [] (T.length - j2) (λ g wr=>∃(I M m:Nat) (la:OA) (lc:Nat) (acc:List Dt),g=T.length - I∧i≤I∧m≤I∧T.length - I+1≤M∧Hid (GI w wr B cs tv n T d X N [(),()] [] [.sl 8 []] [] [()] 1 29 I m la lc acc)∧Hid (res=mQ (ab K) (bT (av (ab K)) M acc (T.drop I))))
   case atStart=>exact⟨j2,_,1,la,1,[aB x],rfl,HJ.o,oM,nC _,iD,cJ⟩
   case round=>
    obtain⟨I,M,m,la,lc,acc,eH,mI,yj,hM,HG,gG⟩:=hrel;have fK:=Hd eH;have p8:=HG.o.rs.i;have vO:=HG.o.rs.sm.1;obtain⟨M,rfl⟩:∃M',M=M'+1:=⟨M - 1,oM⟩;clear eH iD cJ;cases ho:aj [124] (T.drop I) with
    | true=>
     have fa:=eT (dA ho);have kt:=Hd (cP wr B cs n I d tv T [124] true HG.o.rs ho);have oG:=Hd (show res=mQ (ab K) (match ca (av (ab K)) (T.drop I).tail with
      | .error e=>.error e
      | .ok (w,r)=>bT (av (ab K)) M (acc++[aB w]) r) by rw [gG.o,qf,ho,nE rfl])
     clear ho gG;go_wp2_with fail;refine kt.o.mono ?_;rintro e wb ⟨rfl,jb,rj,rS,iS,kf⟩;have TI:T.drop jb=(T.drop I).tail:=rS;have gh:=Hd (show res=mQ (ab K) (match ca (av (ab K)) (T.drop jb) with
      | .error e=>.error e
      | .ok (w,r)=>bT (av (ab K)) M (acc++[aB w]) r) by rw [oG.o,TI])
     have acT:I+1≤jb:=by
      have:=congrArg List.length TI;exact DF
     have fM:=Hd (HG.o.move cF.o ct.o.1 ct.o.2 kf iS);clear iS kf rS TI kt HG oG;have sB:=ct.o.1;have pR:=Hd (show X≤wb.heap.size by have h1:=fM.o.zr.lt;have h2:=mG.o;omega);obtain⟨⟨x0,x1⟩,⟨f8,gf⟩⟩:=(show af wb N [.slice la m lc,()] from fM.o.rc).two;have fR:=fM.o.rc.lt;cases bo:ca (av (ab K)) (T.drop jb) with
     | error y=>
      have bO:=Hd (show res=.error y by rw [gh.o,bo];rfl);have kS:=Hd bo;clear bo;go_wp2_with fail;refine uF (S:=(λ w'=>af w' N [.slice la m lc,()])) kR (fM.o.rc.keep (S:=λ_=>False) (ae.refl _ _).drew (λ h=>h)) (λ dJ=>?_);refine nS (i:=0) (v:=.pointer (some ⟨N,0,none⟩)) rfl kR kR kR (λ_ _ _ h=>h) (Or.inl ⟨rF,?_⟩) dJ ?_
      ·(intro ww jP;have ⟨⟨g0,g1⟩,_⟩:=af.two jP;go_simp;all_goals (first | done | with_reducible rfl))
      refine nS (i:=1) (v:=.slice la m lc) rfl kR kR kR (λ_ _ _ h=>h) (Or.inl ⟨rF,?_⟩) dJ ?_
      ·(intro ww jP;have ⟨⟨g0,g1⟩,_⟩:=af.two jP;go_simp;all_goals (first | done | with_reducible rfl))
      refine nS (i:=2) (v:=.pointer (some ⟨cs,0,none⟩)) rfl kR kR kR (λ_ _ _ h=>h) (Or.inl ⟨rF,?_⟩) dJ ?_
      ·(intro ww jP;have ⟨⟨g0,g1⟩,_⟩:=af.two jP;go_simp;all_goals (first | done | with_reducible rfl))
      refine uE (rs:=[3]) kR sI ?_;refine AllReadyH.cons rfl (λ KK hK=>?_) AllReadyH.nil;go_simp;go_at_call 198;refine (jY K cK.o _ B cs n jb d tv T (fM.o.rs.keep0 (ae.refl _ _).drew) HD.o).mono ?_;exact SY
     | ok dr=>
      obtain⟨x,r2⟩:=dr;have bO:=Hd (show res=mQ (ab K) (bT (av (ab K)) M (acc++[aB x]) r2) by rw [gh.o,bo]);have kS:=Hd bo;clear bo;have dv:=Hd (show ∀e w4,sL wb.drew B cs tv n T jb d (.ok (x,r2)) e w4→∃(j4:Nat) (wa:OA) (wl wc:Nat) (xs:List Value),e=.returned (.slice wa wl wc)∧(jb≤j4∧j4≤T.length∧T.drop j4=r2∧True)∧w4.ownsRow 0 29 1 (.slice la m lc) m xs∧af w4 N [.slice la m lc,()]∧
       (∀(gg aC:Nat) (w5:World) (o:Obj),w5.ownsRow 0 29 1 (.slice (some ⟨gg,0,none⟩) (m+1) aC) (m+1) (xs++[.slice wa wl wc])→(w4.alloc o).grownBy w5 (Value.slice la m lc).ownBlock→((Value.slice la m lc).ownBlock=some gg∨gg=w4.heap.size+1)→
        af w5 N [.slice la m lc,()]∧GI w (w5.setCell ⟨N,0,none⟩ (.slice (some ⟨gg,0,none⟩) (m+1) aC)) B cs tv n T d X N [(),()] [] [.sl 8 []] [] [()] 1 29 j4 (m+1) (some ⟨gg,0,none⟩) aC (acc++[aB x])) from λ e w4 hp=>by
       obtain⟨wa,wc,mm,⟨he,j4,kB,iY,cG,be⟩,xM,B9⟩:=hp;have f7:bV w4 (λ b=>wb.heap.size≤b) [aB x] [.slice wa x.length wc]:=⟨gv xM,trivial⟩;obtain⟨wl,iZ⟩:∃wl,wl=x.length:=⟨_,rfl⟩;rw [←iZ] at he f7;obtain⟨xs,ho,cQ,hF⟩:=fM.o.more cF.o ct.o.1 ct.o.2 pR.o ((ae.refl (λ b=>b=cs) wb).drew.trans be k3) cG f7;exact⟨j4,wa,wl,wc,xs,he,⟨kB,cG.i,iY,trivial⟩,ho,cQ,hF⟩)
      go_wp2_with fail;go_region_law (first
       | (
        refine step_append_lies _ rF _ _ _ rF 0 29 i0 _ 1 24 Tryz.underlying39 fo fC fp fq rfl oM (.slice la m lc) m xs rF (hown4.alloc _)
         ⟨w4.heap.size,0,none⟩ 1 1 [.slice wa wl wc] rF rF (nK (cs:=#[.slice wa wl wc]) (t:=29) (fr:=(0,0)) (nG w4 _)) oC
         oM uM oM sI (w4.heap.size+1) sI ?_;intro gg aC w5 aK ao bf gT
        obtain⟨aH,gA⟩:=HF.o gg aC w5 _ aK ao bf;obtain⟨⟨z0,z1⟩,⟨gO,gP⟩⟩:=af.two aH;have qy:=aH.lt;have fc:=Hd gA;clear aH gA aK ao bf)
       | (go_simp;go_at_call 198;refine (jY K cK.o _ B cs n jb d tv T (fM.o.rs.keep0 (ae.refl _ _).drew) HD.o).mono ?_;rw [kS.o];intro e w4 hp;obtain⟨j4,wa,wl,wc,xs,he,mc,hown4,aL,hF⟩:=dv.o e w4 hp;subst he;obtain⟨⟨y0,y1⟩,⟨JC,JD⟩⟩:=af.two aL;have Jc:=aL.lt;have HF:=Hd hF;have kJ:=Hd mc;clear hp hF mc aL))
      all_goals
       obtain⟨w3,kh⟩:∃w3,w3=w5.setCell ⟨N,0,none⟩ (.slice (some ⟨gg,0,none⟩) (m+1) aC):=⟨_,rfl⟩;rw [←kh] at fc;rw [←kh];have qn:=Hd (show res=mQ (ab K) (bT (av (ab K)) M (acc++[aB x]) (T.drop j4)) by rw [bO.o,kJ.o.2.2.1]);have aa8:=kJ.o.1;exact PF
    | false=>
     have kt:=Hd (cP wr B cs n I d tv T [124] false HG.o.rs ho);have gh:=Hd (show res=if aj [41] (T.drop I) then Ki (ab K) acc (T.drop I).tail else .error 2 by rw [gG.o,qf,ho,nF sI];rfl);clear ho gG;go_wp2_with fail;refine kt.o.mono ?_;rintro e wb ⟨rfl,jb,rj,rS,iS,kf⟩;have YG:=Hd (show T.drop jb=T.drop I from rS);have fM:=Hd (HG.o.move cF.o ct.o.1 ct.o.2 kf iS)
     clear iS kf rS kt HG;go_wp2_with fail;cases dy:aj [41] (T.drop jb) with
     | false=>
      have bO:=Hd (show res=.error 2 by rw [gh.o,←YG.o,dy];rfl);refine (cP wb B cs n jb d tv T [41] false fM.o.rs dy).mono ?_;rintro e wc2 ⟨rfl,jc,hjc,Zf,OB,G8⟩;have bZ:=Hd (fM.o.kp.trans G8 k3);clear OB G8 Zf dy;go_wp2_with fail;refine (jE _).mono ?_;rintro e wd ⟨rfl,rfl⟩;exact yL
     | true=>
      have iJ:=Hd (show res=Ki (ab K) acc (T.drop jb).tail by rw [gh.o,←YG.o,dy];rfl);refine (cP wb B cs n jb d tv T [41] true fM.o.rs dy).mono ?_;rintro e wc2 ⟨rfl,jc,hjc,Zf,OB,G8⟩;have HTC:=Hd (show T.drop jc=(T.drop jb).tail from Zf);have zP:=Hd (fM.o.move cF.o ct.o.1 ct.o.2 G8 OB);clear OB G8 Zf dy fM;go_wp2_with fail;refine (df _).mono ?_
      rintro e wd ⟨rfl,rfl⟩;go_wp2_with fail;refine (dH wc2 B cs n jc d tv T zP.o.rs).mono ?_;rintro e wl2 ⟨rfl,jl,uy,lE,pV,oU⟩;have Br:=Hd (zP.o.move cF.o ct.o.1 ct.o.2 oU pV);have Do:=Hd (show res=if fj (T.drop jl) then (match bz (ab K) (T.drop jl) with
       | .error e=>.error e
       | .ok (b,r3)=>.ok ([.sl 1 acc,.sl 8 b],r3))
       else .ok ([.sl 1 acc,.sl 8 []],T.drop jl) by rw [iJ.o,←HTC.o];unfold Ki;rw [lE])
      clear pV oU lE zP;go_wp2_with fail;cases Hc:fj (T.drop jl) with
      | false=>
       have bO:=Hd (show res=.ok ([.sl 1 acc,.sl 8 []],T.drop jl) by rw [Do.o,Hc];rfl);refine (rV wl2 B cs n jl d tv T false Br.o.rs Hc).mono ?_;rintro e w3 ⟨rfl,hk⟩;have up:=Hd (Br.o.keep0 hk);clear hk Hc;obtain⟨⟨v0,v1⟩,_⟩:=(show af w3 N [.slice la m lc,()] from up.o.rc).two;have oW:=up.o.rc.lt;have eV:=Hd up.o.zr;have bZ:=Hd up.o.kp;have eF:=Hd up.o.rs
       have eW:=Hd up.o.all;have uQ:=Hd ct.o.1;obtain⟨⟨z0,z1⟩,y0,y1⟩:=eV.o.two;have fT:=eV.o.lt;go_wp2_with fail;refine nJ (v:=.agg #[.slice la m lc,()]) (by simp [results,Tryz.results203,go_sem,z0,z1]) rfl ?_;obtain⟨f1,f2,f3⟩:=eK bZ.o eF.o uQ.o cF.o eW.o (ej w3 w.heap.size (.slice la m lc) (.slice none 0 0));rw [bO.o];exact⟨[.slice la m lc,()],⟨rfl,_,oM,rfl,f1,f2⟩,⟨_,_,_,_,_,_,rfl⟩,f3⟩
      | true=>
       have J1:=Hd (show res=match bz (ab K) (T.drop jl) with
        | .error e=>.error e
        | .ok (b,r3)=>.ok ([.sl 1 acc,.sl 8 b],r3) by rw [Do.o,Hc,nE rfl])
       refine (rV wl2 B cs n jl d tv T true Br.o.rs Hc).mono ?_;rintro e w3 ⟨rfl,hk⟩;have up:=Hd (Br.o.keep0 hk);clear hk Hc Br;go_wp2_with fail;refine (gn K HC.o w3 B cs n jl d tv T up.o.rs HD.o).mono ?_;intro e w4 hp;cases bo:bz (ab K) (T.drop jl) with
       | error y=>
        rw [bo] at hp;obtain⟨rfl,be⟩:=hp;have bO:=Hd (show res=.error y by rw [J1.o,bo]);have bZ:=Hd (up.o.kp.trans be k3);clear bo be;exact yL
       | ok dr=>
        obtain⟨dd,r⟩:=dr;rw [bo] at hp;obtain⟨vs,⟨rfl,j4,kB,iY,cG,be⟩,_,eJ,eo⟩:=hp;obtain⟨k,b,s,a0,n0,c0,a1,n1,c1,a2,n2,c2,a3,n3,c3,a4,n4,c4,rfl⟩:=cC eJ eo;have bO:=Hd (show res=.ok ([.sl 1 acc,.sl 8 dd],r) by rw [J1.o,bo]);have tL:=up.o.move cF.o ct.o.1 ct.o.2 be cG;have Bx:=Hd iY;have aL:=(show af w4 N [.slice la m lc,()] from tL.rc);obtain⟨⟨x0,x1⟩,f8,gf⟩:=aL.two
        have fR:=aL.lt;obtain⟨W5,ou⟩:∃W5,W5=w4.setCell ⟨N,1,none⟩ (.slice (some ⟨w4.heap.size,0,none⟩) 1 1):=⟨_,rfl⟩;have bi:ae (λ b=>b=N) w4 W5:=by rw [ou];exact (ae.refl _ _).setCell _ _ λ_=>rfl
        have sG:W5.heap.size=w4.heap.size:=by rw [ou];simp
        have BZ:af W5 N [.slice la m lc,.slice (some ⟨w4.heap.size,0,none⟩) 1 1]:=by rw [ou];exact aL.set 1 _
        obtain⟨W6,i4⟩:∃W6,W6=W5.alloc (.cells #[k,b,s,.slice a0 n0 c0,.slice a1 n1 c1,.slice a2 n2 c2,.slice a3 n3 c3,.slice a4 n4 c4] 44):=⟨_,rfl⟩;have cu:K0 W5 W6:=by rw [i4];exact (ae.refl _ _).alloc _
        have Jq:=ct.o;have Xl:X≤w4.heap.size:=by have h1:=mG.o;have h2:=tL.zr.lt;omega
        have Hb:X≤w3.heap.size:=by have h1:=mG.o;have h2:=up.o.zr.lt;omega
        have FO:bV w4 (λ b=>X≤b∧b≠N) dd [k,b,s,.slice a0 n0 c0,.slice a1 n1 c1,.slice a2 n2 c2,.slice a3 n3 c3,.slice a4 n4 c4]:=eo.mono λ b _ hb=>by
         have h1:=up.o.rc.lt;have h2:w3.heap.size≤b:=hb;exact vx
        have cv:=fk (k:=8) (m:=1) (Ty:=44) (FO.keep bi (λ b _ hb e=>hb.2 e)) (by have h1:=eJ.len;omega) dC i4 ⟨oM,oM⟩;rw [sG] at cv;have yf:=(tL.all2.keep bi (λ b _ hb e=>hb.2 e)).keep cu (λ_ _ _ h=>h);have eW:=Hd (show bV W6 (λ b=>X≤b) [.sl 1 acc,.sl 8 dd] [.slice la m lc,.slice (some ⟨w4.heap.size,0,none⟩) 1 1] from by
         obtain⟨a0,a1,_⟩:=yf;exact bV.mono (λ b _ hb=>hb.1) (D:=λ b=>X≤b∧b≠N) ⟨a0,cv,trivial⟩)
        have bp:=(tL.kp.fresh bi (λ b e=>oM)).trans cu (λ_ _ h=>h.elim);have bZ:=Hd bp;have eF:=Hd ((tL.rs.keep bi (λ b hb e=>by have h1:=tL.rs.cs;have h2:=cF.o;omega) (λ e=>by have h2:=cF.o;omega)).keep0 cu);have eV:=Hd ((tL.zr.keep bi (λ e=>oM)).keep cu (λ h=>h));obtain⟨⟨q0,q1⟩,_⟩:=(BZ.keep cu (λ h=>h)).two;have XR:=(BZ.keep cu (λ h=>h)).lt
        have uQ:=Hd ct.o.1;have uP:=Hd ou;have Nb:=Hd i4;clear bo cG be eJ eo iY tL aL ou bi sG BZ i4 cu FO cv yf bp;go_upto_region 9 with fail;rw [←uP.o,←Nb.o];obtain⟨⟨z0,z1⟩,y0,y1⟩:=eV.o.two;have fT:=eV.o.lt;go_wp2_with fail;refine nJ (v:=.agg #[.slice la m lc,.slice (some ⟨w4.heap.size,0,none⟩) 1 1]) (by simp [results,Tryz.results203,go_sem,z0,z1]) rfl ?_
        obtain⟨f1,f2,f3⟩:=eK bZ.o eF.o uQ.o cF.o eW.o (ej W6 w.heap.size (.slice la m lc) (.slice (some ⟨w4.heap.size,0,none⟩) 1 1));rw [bO.o];exact⟨[.slice la m lc,.slice (some ⟨w4.heap.size,0,none⟩) 1 1],⟨rfl,_,oM,Bx.o,f1,f2⟩,⟨_,_,_,_,_,_,rfl⟩,f3⟩
theorem GP:Tryz.prog.cellsOf 49=2:=kR
theorem LX:(Tryz.prog.info? 49).map (λ i=>(i.zero,i.size,i.bytes))=some (some (.agg #[(),()]),2,48):=kR
def fP (w:List Pt) (p:PR (List Dt)):PR (List Dt):=match p with
 | .error e=>.error e
 | .ok (l,r2)=>.ok (cE 10 false [] [aB w] [] [] [] l,r2)
theorem KZ (cmd:List Tk→PR (List Dt)) (scr:Bs→Except Nat Unit) (ts:List Tk):eA cmd scr ts=match ca scr ts with
 | .error e=>.error e
 | .ok (w,r)=>if aF [105,110] (ai r) then fP w (bF cmd scr ((ai (ai r).tail).length+1) [] (ai (ai r).tail)) else .error 2:=by
 unfold eA fP cO;cases ca scr ts with
 | error y=>rfl
 | ok x=>
  obtain⟨w,r⟩:=x;dsimp only;cases aF [105,110] (ai r) with
  | false=>rfl
  | true=>
   simp only [if_true];cases bF cmd scr ((ai (ai r).tail).length+1) [] (ai (ai r).tail) with
   | error y=>rfl
   | ok z=>rfl
theorem p6 (cmd:List Tk→PR (List Dt)) (scr:Bs→Except Nat Unit) (n:Nat) (acc:List Dt) (ts:List Tk):bF cmd scr (n+1) acc ts=if aF [101,115,97,99] ts then .ok (acc,ts.tail) else match lu cmd scr ts with
 | .error e=>.error e
 | .ok (a,r)=>if aj [59,59] r then bF cmd scr n (acc++a) (ai r.tail) else if aF [101,115,97,99] r then .ok (acc++a,r.tail) else .error 2:=by
 conv=>lhs;unfold bF cO
 cases aF [101,115,97,99] ts with
 | true=>rfl
 | false=>
  simp only [Bool.false_eq_true,if_false];cases lu cmd scr ts with
  | error y=>rfl
  | ok x=>
   obtain⟨a,r⟩:=x;dsimp only;cases aj [59,59] r with
   | true=>rfl
   | false=>cases aF [101,115,97,99] r<;>rfl
theorem GN (K:Nat) (bw:iI K) (cR:oI K) (w:World) (B cs n i d:Nat) (tv:Value) (T:List Tk) (h:RS w B cs tv n T i d) (hd:d+K=40) :
 Calls Tryz.prog 193 #[.pointer (some ⟨cs,0,none⟩)] w (eu w B cs tv n T i d Bp (eA (ab K) (av (ab K)) (T.drop i))):=by
 obtain⟨res,ag⟩:∃res,res=eA (ab K) (av (ab K)) (T.drop i):=⟨_,rfl⟩;rw [←ag];rw [KZ] at ag;have cK:=Hd cR;clear cR;have D7:=mS;have tN:=GP;have ov:=aT;obtain⟨i0,fo,fC,fp,fq⟩:=info_parts LX;have ay:=Hd ag;have HH:=Lib.hid h;have HC:=Hd bw;have HD:=Hd hd;have cF:=Hd h.lt;clear ag h bw hd;go_enter Tryz.func193,Tryz.ntmps193
 go_wp2_with fail;obtain⟨W,hW⟩:∃W,W=w.alloc (.cells #[.int .i64 0,false,eS,(),(),(),(),()] 44):=⟨_,rfl⟩;have eG:K0 w W:=by rw [hW];exact (ae.refl _ _).alloc _
 have HR:=Hd (show af W w.heap.size [.int .i64 0,false,eS,(),(),(),(),()] by rw [hW];exact aD _ _ _ _ _ _ _ _ _ _);rw [←hW];have dO:=Hd eG;have HX:=Hd (show w.heap.size<W.heap.size by rw [hW];simp);have sz:=Hd (show W.heap.size=w.heap.size+1 by rw [hW];simp);have HS:=Hd (HH.o.keep0 eG);clear eG hW;refine (jY K cK.o W B cs n i d tv T HS.o HD.o).mono ?_
 intro e w2 hp;cases bo:ca (av (ab K)) (T.drop i) with
 | error y=>
  exact KJ
 | ok xr=>
  obtain⟨x0,r⟩:=xr;rw [bo] at hp;obtain⟨wa,wc,mm,⟨rfl,j2,hj2,il,ee,aS⟩,xM,B9⟩:=hp;obtain⟨wl,iZ⟩:∃wl,wl=x0.length:=⟨_,rfl⟩;rw [←iZ] at xM;rw [←iZ];have cJ:=Hd (show res=if aF [105,110] (ai (T.drop j2)) then fP x0 (bF (ab K) (av (ab K)) ((ai (ai (T.drop j2)).tail).length+1) [] (ai (ai (T.drop j2)).tail)) else .error 2 by rw [ay.o,bo];dsimp only;rw [il])
  obtain⟨RB,hRB⟩:∃RB,RB=w2.heap.size:=⟨_,rfl⟩;obtain⟨wi,xO⟩:∃wi,wi=w2.alloc (.cells #[.slice wa wl wc] 29):=⟨_,rfl⟩;have hki:K0 w2 wi:=by rw [xO];exact (ae.refl _ _).alloc _
  have Yc:wi.heap.size=w2.heap.size+1:=by rw [xO];simp
  have ek:=aS.size;have cv:Rd wi (λ b=>W.heap.size≤b) (.sl 1 [aB x0]) (.slice (some ⟨RB,0,none⟩) 1 1):=by
   rw [hRB];exact fk (k:=1) (m:=1) (Ty:=29) (D:=λ b=>W.heap.size≤b) (cs:=[aB x0]) (vs:=[.slice wa wl wc]) ⟨gv xM,trivial⟩ rfl dC xO ek
  obtain⟨N,hN⟩:∃N,N=w2.heap.size+1:=⟨_,rfl⟩;obtain⟨X,hX⟩:∃X,X=W.heap.size:=⟨_,rfl⟩;obtain⟨wr,gU⟩:∃wr,wr=wi.alloc (.cells #[.int .i64 10,false,eS,.slice (some ⟨RB,0,none⟩) 1 1,(),(),(),()] 44):=⟨_,rfl⟩;have aV:K0 wi wr:=by rw [gU];exact (ae.refl _ _).alloc _
  have bp:=(aS.trans hki (λ_ _ h=>h.elim)).trans aV (λ_ _ h=>h.elim);have qA:=cF.o;have sF:=HX.o;have FQ:bV wi (λ b=>W.heap.size≤b) [.sl 1 [aB x0]] [.slice (some ⟨RB,0,none⟩) 1 1]:=⟨cv,trivial⟩;have RC:bV wr (λ b=>(X≤b∧b≠N)∧(Value.slice none 0 0).ownBlock≠some b) [.sl 1 [aB x0]] [.slice (some ⟨RB,0,none⟩) 1 1]:=(FQ.lt.keep aV (λ_ _ _ h=>h)).mono λ b _ hb=>⟨⟨by have:=hb.1;omega,by have:=hb.2;omega⟩,λ e=>(by cases e)⟩
  have iD:=Hd (show GI w wr B cs tv n T d X N [.int .i64 0,false,eS,(),(),(),(),()] [.int ((10:Nat):Int),.bool false,.str [],.sl 1 [aB x0],.sl 2 [],.sl 2 [],.sl 8 []] [] [.int .i64 10,false,eS,.slice (some ⟨RB,0,none⟩) 1 1,(),(),()] [] 2 49 j2 0 none 0 [] from
   ⟨(
    ee.keep0 hki).keep0 aV,(dO.o.mono (λ_ _ h=>h.elim)).trans bp k3,HR.o.keep bp (λ e=>oM),by rw [gU,hN,←Yc];exact aD _ _ _ _ _ _ _ _ _ _,eM.nil _ _ _ _,λ g hg=>(by cases hg),
    ⟨.int _,.bool _,.str _,RC.1,.nil _ _ _ (nB _),.nil _ _ _ (nB _),.nil _ _ _ (nB _),trivial⟩,trivial⟩)
  have ct:=Hd (show w.heap.size<X∧w.heap.size<N by omega);have mG:=Hd (show X≤w.heap.size+1 by have:=sz.o;omega);have HN:=Hd hN;have oD:=Hd hRB;have rg:=Hd gU;have VK:=Hd xO;have HJ:=Hd hj2;have Om:=ee.i;clear bo aS ee xM B9 il aV hN hX gU xO Yc ek sF qA iZ hki cv FQ RC bp ay hRB;go_wp2_with fail;rw [←VK.o,←oD.o,←rg.o,oD.o,←HN.o,←oD.o];clear rg VK
  refine (dH wr B cs n j2 d tv T iD.o.rs).mono ?_;rintro e w3 ⟨rfl,j3,ow,iT,cX,aV⟩;have up:=Hd (iD.o.move cF.o ct.o.1 ct.o.2 aV cX);have lG:=Hd (show res=if aF [105,110] (T.drop j3) then fP x0 (bF (ab K) (av (ab K)) ((ai (T.drop j3).tail).length+1) [] (ai (T.drop j3).tail)) else .error 2 by rw [cJ.o,iT]);clear cX aV iT cJ
  go_wp2_with fail;cases mY:aF [105,110] (T.drop j3) with
  | false=>
   have bO:=Hd (show res=.error 2 by rw [lG.o,mY];rfl);refine (cn w3 B cs n j3 d tv T [105,110] false up.o.rs dC mY).mono ?_;rintro e w4 ⟨rfl,j4,kB,iY,cG,be⟩;have bZ:=Hd (up.o.kp.trans be k3);clear cG be iY mY;go_wp2_with fail;refine (jE _).mono ?_;rintro e w5 ⟨rfl,rfl⟩;exact yL
  | true=>
   have oF:=Hd (show res=fP x0 (bF (ab K) (av (ab K)) ((ai (T.drop j3).tail).length+1) [] (ai (T.drop j3).tail)) by rw [lG.o,mY,nE rfl]);refine (cn w3 B cs n j3 d tv T [105,110] true up.o.rs dC mY).mono ?_;rintro e w4 ⟨rfl,j4,kB,iY,cG,be⟩;have Dg:=Hd (up.o.move cF.o ct.o.1 ct.o.2 be cG);have Bx:=Hd (show T.drop j4=(T.drop j3).tail from iY)
   clear cG be iY mY;go_wp2_with fail;refine (df _).mono ?_;rintro e w5 ⟨rfl,rfl⟩;go_wp2_with fail;refine (dH w4 B cs n j4 d tv T Dg.o.rs).mono ?_;rintro e w5 ⟨rfl,j5,Y9,El,mf,bi⟩;have fc:=Hd (Dg.o.move cF.o ct.o.1 ct.o.2 bi mf);have tr:=Hd (show res=fP x0 (bF (ab K) (av (ab K)) (T.length - j5+1) [] (T.drop j5)) by rw [oF.o,←Bx.o,←El,nI])
   clear mf bi El iD up Dg lG oF;go_wp2_with fail;go_loopg [] (T.length - j5) (λ g wr=>∃(I M m:Nat) (la:OA) (lc:Nat) (acc:List Dt),g=T.length - I∧i≤I∧m≤I∧T.length - I+1≤M∧Hid (GI w wr B cs tv n T d X N [.int .i64 0,false,eS,(),(),(),(),()] [.int ((10:Nat):Int),.bool false,.str [],.sl 1 [aB x0],.sl 2 [],.sl 2 [],.sl 8 []] [] [.int .i64 10,false,eS,.slice (some ⟨RB,0,none⟩) 1 1,(),(),()] [] 2 49 I m la lc acc)∧Hid (res=fP x0 (bF (ab K) (av (ab K)) M acc (T.drop I))))
   case atStart=>exact⟨j5,_,0,none,0,[],rfl,by have:=HJ.o;omega,nB _,nC _,fc,tr⟩
   case round=>
    obtain⟨I,M,m,la,lc,acc,eH,mI,yj,hM,HG,gG⟩:=hrel;have fK:=Hd eH;have p8:=HG.o.rs.i;have vO:=HG.o.rs.sm.1;obtain⟨M,rfl⟩:∃M',M=M'+1:=⟨M - 1,oM⟩;clear eH fc tr;cases hq:aF [101,115,97,99] (T.drop I) with
    | true=>
     have bO:=Hd (show res=.ok (cE 10 false [] [aB x0] [] [] [] acc,(T.drop I).tail) by rw [gG.o,p6,hq,nE rfl];rfl);have jJ:=Hd (cn wr B cs n I d tv T [101,115,97,99] true HG.o.rs dC hq);clear hq gG;go_wp2_with fail;refine jJ.o.mono ?_;rintro e w9 ⟨rfl,j9,XC,OI,AL,iQ⟩;have VF:=Hd (show T.drop j9=(T.drop I).tail from OI);have lX:=Hd (HG.o.move cF.o ct.o.1 ct.o.2 iQ AL)
     clear AL iQ OI jJ HG;have cQ:=(show af w9 N [.int .i64 10,false,eS,.slice (some ⟨RB,0,none⟩) 1 1,(),(),(),.slice la m lc] from lX.o.rc);obtain⟨⟨v0,v1,v2,v3,v4,v5,v6,v7⟩,_⟩:=cQ.eight;have oW:=cQ.lt;have eV:=Hd lX.o.zr;have bZ:=Hd lX.o.kp;have eF:=Hd lX.o.rs;have eW:=Hd lX.o.all;have uQ:=Hd ct.o.1;have lY:=Hd (show jA (cE 10 false [] [aB x0] [] [] [] acc) from⟨_,_,_,_,_,_,_,_,rfl⟩)
     clear cQ;obtain⟨⟨z0,z1,z2,z3,z4,z5,z6,z7⟩,y0,y1,y2,y3,y4,y5,y6,y7⟩:=eV.o.eight;have fT:=eV.o.lt;go_wp2_with fail;refine nJ (v:=.agg #[.int .i64 10,false,eS,.slice (some ⟨RB,0,none⟩) 1 1,(),(),(),.slice la m lc]) (by simp [results,Tryz.results193,go_sem,z0,z1,z2,z3,z4,z5,z6,z7]) rfl ?_;obtain⟨f1,f2,f3⟩:=eK bZ.o eF.o uQ.o cF.o eW.o (ap w9 w.heap.size (.int .i64 10) (.bool false) (.string ⟨#[]⟩) (.slice (some ⟨RB,0,none⟩) 1 1) (.slice none 0 0) (.slice none 0 0) (.slice none 0 0) (.slice la m lc))
     rw [bO.o];exact⟨[.int .i64 10,false,eS,.slice (some ⟨RB,0,none⟩) 1 1,(),(),(),.slice la m lc],⟨rfl,_,oM,VF.o,f1,f2⟩,rfl,lY.o,f3⟩
    | false=>
     have gh:=Hd (show res=fP x0 (match lu (ab K) (av (ab K)) (T.drop I) with
      | .error e=>.error e
      | .ok (a,r)=>if aj [59,59] r then bF (ab K) (av (ab K)) M (acc++a) (ai r.tail) else if aF [101,115,97,99] r then .ok (acc++a,r.tail) else .error 2) by rw [gG.o,p6,hq,nF sI])
     have jJ:=Hd (cn wr B cs n I d tv T [101,115,97,99] false HG.o.rs dC hq);clear hq gG;go_wp2_with fail;refine jJ.o.mono ?_;rintro e wb ⟨rfl,jb,rj,rS,iS,kf⟩;have YG:=Hd (show T.drop jb=T.drop I from rS);have fM:=Hd (HG.o.move cF.o ct.o.1 ct.o.2 kf iS);clear iS kf rS jJ HG;go_wp2_with fail;refine (NQ K HC.o cK.o wb B cs n jb d tv T fM.o.rs HD.o).mono ?_
     intro e w4 hp;rw [YG.o] at hp;cases bo:lu (ab K) (av (ab K)) (T.drop I) with
     | error y=>
      rw [bo] at hp;obtain⟨rfl,be⟩:=hp;have bO:=Hd (show res=.error y by rw [gh.o,bo];rfl);exact Rb
     | ok dr=>
      obtain⟨d2,r2⟩:=dr;rw [bo] at hp;obtain⟨vs,⟨rfl,j4,kB,iY,cG,be⟩,⟨a,m2,c,a2,m3,c2,rfl⟩,f7⟩:=hp;have iJ:=Hd (show res=fP x0 (if aj [59,59] (T.drop j4) then bF (ab K) (av (ab K)) M (acc++d2) (ai (T.drop j4).tail) else if aF [101,115,97,99] (T.drop j4) then .ok (acc++d2,(T.drop j4).tail) else .error 2) by rw [gh.o,bo,iY]);have Y4:=Fm (lJ K) bo
      rw [nI,←iY,nI] at Y4;have ux:=cG.i;obtain⟨we,Bo⟩:∃we,we=w4.alloc (.cells #[.slice a m2 c,.slice a2 m3 c2] 49):=⟨_,rfl⟩;have Jh:K0 w4 we:=by rw [Bo];exact (ae.refl _ _).alloc _
      have UG:=Hd (show af we w4.heap.size [.slice a m2 c,.slice a2 m3 c2] by rw [Bo];exact rW _ _ _ _);obtain⟨xs,hown4,aL,hF⟩:=fM.o.more cF.o ct.o.1 ct.o.2 (by have h1:=mG.o;have h2:=fM.o.zr.lt;omega) (be.trans Jh (λ_ _ h=>h.elim)) (cG.keep0 Jh) (f7.keep Jh (λ_ _ _ h=>h));have dz:=(show af we N [.int .i64 10,false,eS,.slice (some ⟨RB,0,none⟩) 1 1,(),(),(),.slice la m lc] from aL)
      obtain⟨⟨x0a,x1,x2,x3,x4,x5,x6,x7⟩,f8,gf,hC,hU,hV,hY,hZ,ia⟩:=dz.eight;have fR:=aL.lt;have HF:=Hd (show ∀(gg aC:Nat) (w5:World) (o:Obj),w5.ownsRow 0 49 2 (.slice (some ⟨gg,0,none⟩) (m+1) aC) (m+1) (xs++[.slice a m2 c,.slice a2 m3 c2])→(we.alloc o).grownBy w5 (Value.slice la m lc).ownBlock→((Value.slice la m lc).ownBlock=some gg∨gg=we.heap.size+1)→
       af w5 N [.int .i64 10,false,eS,.slice (some ⟨RB,0,none⟩) 1 1,(),(),(),.slice la m lc]∧GI w (w5.setCell ⟨N,7,none⟩ (.slice (some ⟨gg,0,none⟩) (m+1) aC)) B cs tv n T d X N [.int .i64 0,false,eS,(),(),(),(),()] [.int ((10:Nat):Int),.bool false,.str [],.sl 1 [aB x0],.sl 2 [],.sl 2 [],.sl 8 []] [] [.int .i64 10,false,eS,.slice (some ⟨RB,0,none⟩) 1 1,(),(),()] [] 2 49 j4 (m+1) (some ⟨gg,0,none⟩) aC (acc++d2) from λ gg aC w5 o=>hF gg aC w5 o)
      have SH:=Hd Bo;obtain⟨⟨r0,r1⟩,_⟩:=UG.out.two;have hAl:=UG.out.lt;clear bo be cG f7 iY hF Bo Jh aL dz fM gh;go_upto_region 7 with fail;rw [←SH.o];go_wp2_with (at_builtin;refine nR _ rfl (.tmp 22) (.tmp 24) _ rfl 0 49 i0 _ 2 48 Tryz.underlying42 fo fC fp fq rfl oM (.slice la m lc) m xs rfl (hown4.alloc _) ⟨we.heap.size,0,none⟩ 1 1 [.slice a m2 c,.slice a2 m3 c2] rfl rfl (nK (cs:=#[.slice a m2 c,.slice a2 m3 c2]) (t:=49) (fr:=(0,0)) (nG we _)) oC oM uM oM sI (we.heap.size+1) sI ?_;intro gg aC w5 aK ao bf gT;obtain⟨aH,gA⟩:=HF.o gg aC w5 _ aK ao bf;obtain⟨⟨z0,z1,z2,z3,z4,z5,z6,z7⟩,gO,gP,ib,ic,ie,ig,ii,ij⟩:=af.eight aH;have qy:=aH.lt;have fc:=Hd gA;clear aH gA aK ao bf)
      obtain⟨w6,im⟩:∃w6,w6=w5.setCell ⟨N,7,none⟩ (.slice (some ⟨gg,0,none⟩) (m+1) aC):=⟨_,rfl⟩;rw [←im] at fc;rw [←im];clear im z0 z1 z2 z3 z4 z5 z6 z7 gO gP ib ic ie ig ii ij HF x0a x1 x2 x3 x4 x5 x6 x7 f8 gf hC hU hV hY hZ ia r0 r1 qy fR hAl;cases dy:aj [59,59] (T.drop j4) with
      | true=>
       have Do:=Hd (show res=fP x0 (bF (ab K) (av (ab K)) M (acc++d2) (ai (T.drop j4).tail)) by rw [iJ.o,dy,nE rfl]);refine (cP w6 B cs n j4 d tv T [59,59] true fc.o.rs dy).mono ?_;rintro e w7 ⟨rfl,j7,hj7,OH,B5,i5⟩;have Sz:=Hd (show T.drop j7=(T.drop j4).tail from OH);have oB:=Hd (fc.o.move cF.o ct.o.1 ct.o.2 i5 B5);clear B5 i5 OH dy fc
       go_wp2_with fail;refine (dH w7 B cs n j7 d tv T oB.o.rs).mono ?_;rintro e w8 ⟨rfl,j8,hj8,Ze,LF,lz⟩;have oq:=Hd (oB.o.move cF.o ct.o.1 ct.o.2 lz LF);have qn:=Hd (show res=fP x0 (bF (ab K) (av (ab K)) M (acc++d2) (T.drop j8)) by rw [Do.o,←Sz.o,Ze]);have acO:=LF.i;clear LF lz Ze;go_wp2_with fail;go_roundg (T.length - j8)
       case measure=>have:=fK.o;omega
       case rel=>exact⟨j8,M,m+1,_,aC,acc++d2,rfl,oM,oM,oM,oq,qn⟩
      | false=>
       refine (cP w6 B cs n j4 d tv T [59,59] false fc.o.rs dy).mono ?_;rintro e w7 ⟨rfl,j7,hj7,OH,B5,i5⟩;have Sz:=Hd (show T.drop j7=T.drop j4 from OH);have oB:=Hd (fc.o.move cF.o ct.o.1 ct.o.2 i5 B5);have Do:=Hd (show res=fP x0 (if aF [101,115,97,99] (T.drop j7) then .ok (acc++d2,(T.drop j7).tail) else .error 2) by rw [iJ.o,dy,Sz.o];rfl);clear B5 i5 OH dy fc
       go_wp2_with fail;cases rn:aF [101,115,97,99] (T.drop j7) with
       | false=>
        have bO:=Hd (show res=.error 2 by rw [Do.o,rn];rfl);refine (cn w7 B cs n j7 d tv T [101,115,97,99] false oB.o.rs dC rn).mono ?_;rintro e w8 ⟨rfl,j8,hj8,Ze,LF,lz⟩;have bZ:=Hd (oB.o.kp.trans lz k3);clear LF lz Ze rn;go_wp2_with fail;refine (jE _).mono ?_;rintro e w9 ⟨rfl,rfl⟩;exact yL
       | true=>
        have bO:=Hd (show res=.ok (cE 10 false [] [aB x0] [] [] [] (acc++d2),(T.drop j7).tail) by rw [Do.o,rn];rfl);refine (cn w7 B cs n j7 d tv T [101,115,97,99] true oB.o.rs dC rn).mono ?_;rintro e w9 ⟨rfl,j9,XC,OI,AL,iQ⟩;have VF:=Hd (show T.drop j9=(T.drop j7).tail from OI);have lX:=Hd (oB.o.move cF.o ct.o.1 ct.o.2 iQ AL);clear AL iQ OI rn oB
        go_wp2_with fail;refine (df _).mono ?_;rintro e wy ⟨rfl,rfl⟩;have cQ:=(show af w9 N [.int .i64 10,false,eS,.slice (some ⟨RB,0,none⟩) 1 1,(),(),(),.slice (some ⟨gg,0,none⟩) (m+1) aC] from lX.o.rc);obtain⟨⟨v0,v1,v2,v3,v4,v5,v6,v7⟩,_⟩:=cQ.eight;have oW:=cQ.lt;have eV:=Hd lX.o.zr;have bZ:=Hd lX.o.kp;have eF:=Hd lX.o.rs
        have eW:=Hd lX.o.all;have uQ:=Hd ct.o.1;have lY:=Hd (show jA (cE 10 false [] [aB x0] [] [] [] (acc++d2)) from⟨_,_,_,_,_,_,_,_,rfl⟩);clear cQ;obtain⟨⟨z0,z1,z2,z3,z4,z5,z6,z7⟩,y0,y1,y2,y3,y4,y5,y6,y7⟩:=eV.o.eight;have fT:=eV.o.lt;go_wp2_with fail;refine nJ (v:=.agg #[.int .i64 10,false,eS,.slice (some ⟨RB,0,none⟩) 1 1,(),(),(),.slice (some ⟨gg,0,none⟩) (m+1) aC]) (by simp [results,Tryz.results193,go_sem,z0,z1,z2,z3,z4,z5,z6,z7]) rfl ?_
        obtain⟨f1,f2,f3⟩:=eK bZ.o eF.o uQ.o cF.o eW.o (ap w9 w.heap.size (.int .i64 10) (.bool false) (.string ⟨#[]⟩) (.slice (some ⟨RB,0,none⟩) 1 1) (.slice none 0 0) (.slice none 0 0) (.slice none 0 0) (.slice (some ⟨gg,0,none⟩) (m+1) aC));rw [bO.o];exact⟨[.int .i64 10,false,eS,.slice (some ⟨RB,0,none⟩) 1 1,(),(),(),.slice (some ⟨gg,0,none⟩) (m+1) aC],⟨rfl,_,oM,VF.o,f1,f2⟩,rfl,lY.o,f3⟩
end Go.Proofs.YtiihpbccabeoeaaGreatDoor
