/- The walk: a part. -/
import Derived.Test.YtiihpbccabeoeaaGreatDoorVM
import Derived.Test.YtiihpbccabeoeaaGreatDoorVPxAA
import Derived.Deep.CutBlock
namespace Go.Proofs.YtiihpbccabeoeaaGreatDoor
open Go.RowKit
set_option linter.unusedVariables false
set_option maxRecDepth 100000
set_option maxHeartbeats 16000000
def CA (gd:Prop) (K:Nat) (wd:List Pt) (acc:List Dt) (T:List Tk) (I x:Nat) (res:PR (List Dt)):Prop:=(gd∧x=0∧I≤T.length∧∃M,T.length - I+1≤M∧res=mz wd (bF (ab K) (av (ab K)) M acc (T.drop I)))∨(x≠0∧res=.error x)
theorem Cs (K:Nat) (bw:ez K) (cR:iK K) (w:World) (Lo B ps n i aN:Nat) (tv:Value) (T:List Tk) (h:QS w Lo B ps tv n T i 0) (hi:i≤T.length) (hd:aN+1+K=41) :
 Calls Tryz.prog 183 #[.pointer (some ⟨ps,0,none⟩),.int .i64 (aN:Nat)] w (iw w Lo B ps tv n T i (2*K+2) false (eA (ab K) (av (ab K)) (T.drop i))):=by
 obtain⟨res,ag⟩:∃res,res=eA (ab K) (av (ab K)) (T.drop i):=⟨_,rfl⟩;rw [←ag];rw [Io] at ag;have D7:Tryz.prog.cellsOf 29=1:=kR
 have tN:Tryz.prog.cellsOf 49=2:=kR
 have ov:=aT;have Lw:(Tryz.prog.info? 49).map (λ i=>(i.zero,i.size,i.bytes))=some (some (.agg #[(),()]),2,48):=kR
 have AF:(Tryz.prog.info? 29).map (λ i=>(i.zero,i.size,i.bytes))=some (some (.slice none 0 0),1,24):=kR
 obtain⟨i0,fo,fC,fp,fq⟩:=info_parts Lw;obtain⟨i2,fm,Hn,xP,pX⟩:=info_parts AF;have ay:=Hd ag;have HC:=Hd bw;have cK:=Hd cR;have HD:=Hd hd;have bA:=Hd h.lt;have AK:T.length≤20000:=h.sm.1;have Je:IntKind.i64.wrap ((aN:Int)+1)=(aN:Int)+1:=nL _ oM;have HS:=Lib.hid h;clear ag bw cR h Lw AF;go_enter Tryz.func183,Tryz.ntmps183;go_wp2_with fail;obtain⟨N,hN⟩:∃N,N=w.heap.size+1:=⟨_,rfl⟩
 obtain⟨W,hW⟩:∃W,W=(w.alloc (.cells #[.int .i64 0,false,eS,(),(),(),(),()] 44)).alloc (.cells #[.int .i64 10,false,eS,(),(),(),(),()] 44):=⟨_,rfl⟩;have dt:K0 w W:=by rw [hW];exact ((ae.refl _ _).alloc _).alloc _
 have HZ:=Hd (show af W w.heap.size [.int .i64 0,false,eS,(),(),(),(),()] by rw [hW];exact (aD w _ _ _ _ _ _ _ _ _).keep (S:=λ_=>False) ((ae.refl _ _).alloc _) (λ h=>h));have HR:=Hd (show af W N [.int .i64 10,false,eS,(),(),(),(),()] by rw [hW,hN];have h9:=aD (w.alloc (.cells #[.int .i64 0,false,eS,(),(),(),(),()] 44)) (.int .i64 10) (.bool false) (.string ⟨#[]⟩) (.slice none 0 0) (.slice none 0 0) (.slice none 0 0) (.slice none 0 0) (.slice none 0 0) 44;simpa using h9)
 rw [←hW]
 try rw [←hN]
 have HK:=Hd (dt.mono (T:=λ b=>b=ps) (λ_ _ h=>h.elim));replace HS:=Hd (HS.o.keep0 dt);have gE:=Hd (show w.heap.size<N by omega);have qk:=Hd hN;clear dt hW hN;refine (kM K cK.o W Lo B ps n i aN tv T HD.o HS.o).mono ?_;rintro e w1 ⟨wd,ta,tc,j,y,rfl,iH,gM,ku,hj2,dL,bt,fB⟩;have yi:=hj2 hi;obtain⟨wl,iZ⟩:∃wl,wl=wd.length:=⟨_,rfl⟩;rw [←iZ];replace HZ:=Hd (HZ.o.keep bt (λ e=>by have:=bA.o;omega))
 replace HR:=Hd (HR.o.keep bt (λ e=>by have:=bA.o;have:=gE.o;omega));replace HK:=Hd (HK.o.trans bt k3);have zU:=Hd (show az w1 (λ b=>Lo≤b∧b<B) n wd (.slice ta wl tc) by rw [iZ];exact iH);have dF:=Hd dL;have Bg:=Hd fB;clear iH gM hj2 dL bt fB iZ HS;obtain⟨⟨x0,x1,x2,x3,x4,x5,x6,x7⟩,⟨f8,gf,hC,hU,hV,hY,hZ,ia⟩⟩:=HR.o.eight;have fR:=HR.o.lt;go_upto_region 4 with fail
 obtain⟨NW,Y0⟩:∃NW,NW=w1.heap.size:=⟨_,rfl⟩;obtain⟨W2,et⟩:∃W2,W2=(w1.setCell ⟨N,3,none⟩ (.slice (some ⟨w1.heap.size,0,none⟩) 1 1)).alloc (.cells #[.slice ta wl tc] 29):=⟨_,rfl⟩;rw [←et];have HG:=Hd (show QR (λ_=>False) True w W2 Lo B ps tv n T (w.heap.size+1) N [.int .i64 0,false,eS,(),(),(),(),()] [.int 10,.bool false,.str [],.sl 1 [aB wd],.sl 2 [],.sl 2 [],.sl 8 []] [] [.int .i64 10,false,eS,.slice (some ⟨NW,0,none⟩) 1 1,(),(),()] [] 2 49 j y 0 none 0 [] from by
  obtain⟨w8,Hm⟩:∃w8,w8=w1.setCell ⟨N,3,none⟩ (.slice (some ⟨w1.heap.size,0,none⟩) 1 1):=⟨_,rfl⟩;rw [←Hm] at et;have C9:w8.heap.size=w1.heap.size:=by rw [Hm];simp [World.setCell]
  have lz:ae (λ b=>b=N) w1 w8:=by rw [Hm];exact (ae.refl _ _).setCell _ _ λ_=>rfl
  have aS:K0 w8 W2:=by rw [et];exact (ae.refl _ _).alloc _
  have vS:=gE.o;have Ry:=bA.o;have hbp:=dF.o.ps;have cM:=qk.o;have hr:=fk (D:=λ b=>(Qd Lo B (w.heap.size+1) b∧b≠N)) (w:=w8) (cs:=[aB wd]) (vs:=[.slice ta wl tc]) (k:=1) (m:=1) ⟨(gv (zU.o.keep lz (λ b _ hb e=>oM))).mono (λ b _ hb=>⟨.inl hb,oM⟩),trivial⟩ rfl dC et ⟨.inr oM,oM⟩;rw [C9,←Y0] at hr;refine⟨(dF.o.keep lz (λ b hb e=>oM) (λ e=>oM)).keep0 aS,(HK.o.fresh lz (λ b e=>oM)).trans aS (λ_ _ e=>e.elim),(HZ.o.keep lz (λ e=>oM)).keep aS (λ h=>h),?_,⟨[],λ_=>trivial,World.ownsRow_nil _ _ _ _⟩,λ g hg=>(by cases hg),λ g hg=>(by cases hg),λ_=>⟨.int _,.bool _,.str _,hr.mono (λ b _ hb=>⟨hb,λ e=>by cases e⟩),.nil _ _ _ (nB _),.nil _ _ _ (nB _),.nil _ _ _ (nB _),trivial⟩,λ_=>trivial⟩
  have h9:=(HR.o.set 3 (.slice (some ⟨w1.heap.size,0,none⟩) 1 1));rw [←Hm,←Y0] at h9;exact h9.keep aS (λ h=>h))
 clear et Y0 x0 x1 x2 x3 x4 x5 x6 x7 f8 gf hC hU hV hY hZ ia fR HZ HR HK zU dF;go_wp2_with fail;refine (de W2 Lo B ps n j y tv T HG.o.rs).mono ?_;rintro e wa ⟨rfl,j1,uK,hl2,qB,sC,kD,iE⟩;replace HG:=Hd (HG.o.move bA.o (nM _) gE.o iE kD);have aa6:=hl2 yi;have Uo:=Hd (show i≤j1 by omega);have xI:=Hd sC;clear uK hl2 qB sC kD iE ku;go_wp2_with fail
 refine (eL wa Lo B ps n j1 y tv T [105,110] HG.o.rs oM).mono ?_;rintro e wb ⟨rfl,OC,kf⟩;obtain⟨x1,xP⟩:∃x1,x1=if y=0 then (if aF [105,110] (T.drop j1) then 0 else 2) else y:=⟨_,rfl⟩;rw [←xP] at OC;replace HG:=Hd (HG.o.move bA.o (nM _) gE.o kf OC);clear OC kf;go_wp2_with fail;refine (de wb Lo B ps n (j1+1) x1 tv T HG.o.rs).mono ?_;rintro e wc ⟨rfl,I0,uK,hl2,qB,sC,kD,iE⟩
 replace HG:=Hd (HG.o.move bA.o (nM _) gE.o iE kD);have ZL:=Hd (show i≤I0∧I0≤T.length+1 by have:=Uo.o;refine⟨oM,?_⟩;rcases nP j1 T.length with h | h;have:=hl2 oM;omega;have:=qB oM;omega);have Ph:=Hd (show CA True K wd [] T I0 x1 res from by
  rcases Bg.o with ⟨h1,h2,_,hw⟩ | ⟨h1,hw⟩
  ·rw [nE h1] at xP;have hr:=ay.o;rw [hw] at hr;dsimp only at hr;rw [←h2,←xI.o] at hr;cases mY:aF [105,110] (T.drop j1) with
   | true=>
    rw [mY,nE rfl] at xP;rw [mY,nE rfl,aG,←sC] at hr;have h3:=bL (cY dC mY);exact .inl ⟨trivial,xP,hl2 oM,_,by rw [nI];exact nC _,hr⟩
   | false=>
    rw [mY,nF sI] at xP;rw [mY,nF sI] at hr;exact .inr ⟨oM,by rw [hr,xP]⟩
  ·rw [nF h1] at xP;exact .inr ⟨oM,by rw [ay.o,hw,xP]⟩)
 obtain⟨g0,hg0⟩:∃g0,(x1=0∧g0=T.length+2000 - I0)∨(x1≠0∧g0=0):=by
  by_cases h0:x1=0
  ·exact⟨_,.inl ⟨h0,rfl⟩⟩
  ·exact⟨_,.inr ⟨h0,rfl⟩⟩
 have xS:=Hd hg0;clear hg0;clear uK hl2 qB sC kD iE xP Bg ay xI;go_wp2_with fail;go_loopg [] g0 (λ g wr=>∃(gd:Prop) (I x m:Nat) (la:OA) (lc:Nat) (acc:List Dt),((x=0∧g=T.length+2000 - I)∨(x≠0∧g=0))∧i≤I∧I≤T.length+1∧(x=0→m≤I)∧Hid (QR (λ_=>False) gd w wr Lo B ps tv n T (w.heap.size+1) N [.int .i64 0,false,eS,(),(),(),(),()] [.int 10,.bool false,.str [],.sl 1 [aB wd],.sl 2 [],.sl 2 [],.sl 8 []] [] [.int .i64 10,false,eS,.slice (some ⟨NW,0,none⟩) 1 1,(),(),()] [] 2 49 I x m la lc acc)∧Hid (CA gd K wd acc T I x res))
 case atStart=>exact⟨True,I0,x1,0,none,0,[],xS.o,ZL.o.1,ZL.o.2,λ_=>nB _,HG,Ph⟩
 case round=>
  clear HG Ph ZL;obtain⟨gd,I,x,m,la,lc,acc,eH,mI,Ng,yj,HG,eI⟩:=hrel;have fK:=Hd eH;clear eH;obtain⟨c0,c1,c2,f1,f2⟩:=HG.o.rs.cells;have aW:=HG.o.rs.lt;by_cases hx:x=0
  ·subst hx;obtain⟨g,p8,M,hM,hr⟩:gd∧I≤T.length∧∃M,T.length - I+1≤M∧res=mz wd (bF (ab K) (av (ab K)) M acc (T.drop I)):=by
    exact Ks
   obtain⟨M,rfl⟩:∃M',M=M'+1:=⟨M - 1,oM⟩;have sq:=Hd g;have yj:=yj rfl;rw [Ex] at hr;clear g eI;obtain⟨s,hs⟩:∃s,aJ (ch (T.drop I))=s:=⟨_,rfl⟩;have sw:=Hd hs;have HQ:=Hd (di HG.o.rs s hs 0);clear hs;by_cases he:s=[101,115,97,99]
   ·subst he;have HW:=Hd (show aF [101,115,97,99] (T.drop I)=true by rw [cN sw.o];rfl);have M8:=Hd (show C6 gd (res=.ok (cE 10 false [] [aB wd] [] [] [] acc,(T.drop I).tail)) T I 0 res from .inl ⟨sq.o,rfl,p8,by rw [hr,nE HW.o];rfl⟩);clear hr;go_wp2_with fail;refine HQ.o.mono ?_;rintro e wq ⟨rfl,dq,rfl⟩;obtain⟨wk,aQ⟩:∃wk,wk=wr.drewN dq:=⟨_,rfl⟩;rw [←aQ];have aZ:K0 wr wk:=by rw [aQ];exact (ae.refl _ _).drewN _
    replace HG:=Hd (HG.o.keep0 aZ);clear aQ aZ;clear c0 c1 c2 f1 f2 aW;go_upto_region 29 with fail;obtain⟨xe,i8⟩:∃xe,xe=if 0=0 then (if aF [101,115,97,99] (T.drop I) then 0 else 2) else 0:=⟨_,rfl⟩;have I1:=Hd ((λ i8=>rH (ds:=cE 10 false [] [aB wd] [] [] [] acc) M8.o i8 (λ h=>⟨λ_=>h,λ hw=>by rw [HW.o] at hw;cases hw⟩)) i8);have sz:=Hd i8;have fv:=Hd (show i≤I+1∧I+1≤T.length+(2*K+2) by omega)
    have hI9:I+1≤T.length+900:=by have:=fv.o;have:=HD.o;omega
    clear i8;go_wp2_with fail;refine (eL wk Lo B ps n I 0 tv T [101,115,97,99] HG.o.rs oM).mono ?_;exact V0
   ·have t1:(s==[101,115,97,99])=false:=d9 he;have t2:(s != [101,115,97,99])=true:=by rw [bne,t1];rfl
    have re:=Hd (show res=qK K M wd acc (lu (ab K) (av (ab K)) (T.drop I)) by rw [hr,nF (by rw [cN sw.o,t1];simp)];rfl);clear hr he;go_wp2_with fail;refine HQ.o.mono ?_;rintro e wq ⟨rfl,dq,rfl⟩;obtain⟨wk,aQ⟩:∃wk,wk=wr.drewN dq:=⟨_,rfl⟩;rw [←aQ];have aZ:K0 wr wk:=by rw [aQ];exact (ae.refl _ _).drewN _
    replace HG:=Hd (HG.o.keep0 aZ);clear aQ aZ;clear c0 c1 c2 f1 f2 aW;go_upto_region 9 with fail;obtain⟨NA,xL⟩:∃NA,NA=wk.heap.size:=⟨_,rfl⟩;obtain⟨wA,Zg⟩:∃wA,wA=wk.alloc (.cells #[(),()] 49):=⟨_,rfl⟩;rw [←Zg]
    try rw [←xL]
    have Nk:K0 wk wA:=by rw [Zg];exact (ae.refl _ _).alloc _
    have Xg:=HG.o.rc.lt;have xU:=Hd (show w.heap.size<NA∧wk.heap.size≤NA by have:=gE.o;omega);have ut:=Hd (show N<NA by omega);have HA:=Hd (show QR (λ_=>False) True w wA Lo B ps tv n T NA NA [.int .i64 0,false,eS,(),(),(),(),()] [] [.sl 8 []] [] [()] 1 29 I 0 0 none 0 [] from⟨HG.o.rs.keep0 Nk,HG.o.kp.trans Nk (λ_ _ h=>h.elim),HG.o.zr.keep Nk (λ h=>h),by rw [Zg,xL];exact⟨_,nG wk _⟩,⟨[],λ_=>trivial,World.ownsRow_nil _ _ _ _⟩,λ g hg=>(by cases hg),λ g hg=>(by cases hg),λ_=>trivial,λ_=>⟨.nil _ _ _ (nB _),trivial⟩⟩)
    have gW:=Hd (show ae (λ b=>b=ps) wk wA from Nk.mono (λ_ _ h=>h.elim));clear Nk Zg xL Xg;obtain⟨ob,Ou⟩:∃ob,aj [40] (T.drop I)=ob:=⟨_,rfl⟩;have YA:=Hd Ou;have je:=Hd (aY HA.o.rs [40] ob Ou 0);clear Ou;go_wp2_with fail;refine je.o.mono ?_;rintro e wq ⟨rfl,dq,rfl⟩;obtain⟨wA2,aQ⟩:∃wA2,wA2=wA.drewN dq:=⟨_,rfl⟩;rw [←aQ];have aZ:K0 wA wA2:=by rw [aQ];exact (ae.refl _ _).drewN _
    replace HA:=Hd (HA.o.keep0 aZ);replace gW:=Hd (gW.o.trans aZ (λ_ _ h=>h.elim));clear aQ aZ;go_upto_if 35 with fail;go_cut [] from 24 to 124 (λ wx=>∃(j:Nat) (wy:World),wy=wx∧Hid (I≤j)∧Hid (j≤T.length)∧Hid (T.drop j=(if aj [40] (T.drop I) then (T.drop I).tail else T.drop I))∧Hid (QR (λ_=>False) True w wy Lo B ps tv n T NA NA [.int .i64 0,false,eS,(),(),(),(),()] [] [.sl 8 []] [] [()] 1 29 j 0 0 none 0 [])∧Hid (ae (λ b=>b=ps) wk wy))
    case first=>
     obtain⟨c0,c1,c2,f1,f2⟩:=HA.o.rs.cells;have aW:=HA.o.rs.lt;have RG:IntKind.i64.wrap ((I:Int)+1)=(I:Int)+1:=nL _ oM;cases ob with
     | true=>
      have Ti:=bL (dA YA.o);go_wp2_with fail;go_meet
      case rel=>
       obtain⟨a1,a2⟩:=eE HA.o.rs oM;exact⟨I+1,_,rfl,Hd oM,Hd oM,Hd (by rw [YA.o,nE rfl,aG]),Hd (HA.o.inc bA.o xU.o.1 xU.o.1 oM),Hd (gW.o.trans a2 k3)⟩
     | false=>
      go_wp2_with fail;go_meet
      case rel=>exact⟨I,_,rfl,Hd (nC _),Hd p8,Hd (by rw [YA.o,nF sI]),HA,gW⟩
    case rest=>
    clear HA gW YA je;obtain⟨j,wy,Cb,Pk,HJT,HJD,HA,gW⟩:=hcut;subst Cb;have yi:=HJT.o;have ot:=Hd (show res=qK K M wd acc (match ca (av (ab K)) (T.drop j) with
     | .error e=>.error e
     | .ok (w,r)=>my K (bT (av (ab K)) (r.length+1) [aB w] r)) by
     rw [re.o,OZ,←HJD.o];cases ca (av (ab K)) (T.drop j)<;>rfl)
    obtain⟨ra,rm,rc,hrm,HA⟩:∃(ra:OA) (rm rc:Nat),rm≤5∧Hid (QR (λ_=>False) True w wy Lo B ps tv n T NA NA [.int .i64 0,false,eS,(),(),(),(),()] [] [.sl 8 []] [] [()] 1 29 j 0 rm ra rc []):=⟨none,0,0,oM,HA⟩;go_wp2_with fail;refine (kM K cK.o wy Lo B ps n j aN tv T HD.o HA.o.rs).mono ?_
    rintro e w4 ⟨pd,pa,pc,J,y,rfl,iH,gM,ku,hj2,dR,be,fB⟩;obtain⟨pl,Eg⟩:∃pl,pl=pd.length:=⟨_,rfl⟩;rw [←Eg];have UQ:=HA.o.rc.lt;obtain⟨xs,hown4,aL,hF⟩:=HA.o.more (G':=True) (y:=y) (J:=J) (us:=[.slice pa pl pc]) (d2:=[aB pd]) bA.o xU.o.1 xU.o.1 oM be dR (λ_=>trivial) (λ_=>⟨by rw [Eg];exact (gv iH).mono (λ b _ hb=>.inl hb),trivial⟩) (λ b hb=>hb.elim)
    have HF:=Hd hF;have ZT:=Hd HA.o.low;have Bg:=Hd fB;replace gW:=Hd (gW.o.trans be k3);have HJ:=Hd (show j≤J∧J≤T.length from⟨ku,hj2 oM⟩);have dz:=(show af w4 NA [.slice ra rm rc,()] from aL);obtain⟨⟨x0,x1⟩,f8,gf⟩:=dz.two;have fR:=aL.lt;clear hF aL dz dR be iH gM fB Eg UQ ku hj2;go_upto_block 2 with (at_builtin;refine nR _ rfl (.tmp 47) (.tmp 49) _ rfl 0 29 i2 _ 1 24 Tryz.underlying39 fm Hn xP pX rfl oM (.slice ra rm rc) rm xs rfl (hown4.alloc _) ⟨w4.heap.size,0,none⟩ 1 1 [.slice pa pl pc] rfl rfl (nK (cs:=#[.slice pa pl pc]) (t:=29) (fr:=(0,0)) (nG w4 _)) oC oM uM oM sI (w4.heap.size+1) sI ?_;intro gg aC w5 aK ao bf gT;have gA:=HF.o gg (rm+1) aC w5 _ aK ((ae.refl _ _).alloc _) ao (bf.imp id (λ h=>oM));obtain⟨aH,lB,bi⟩:=gA;have aH:=(show af w5 NA [.slice ra rm rc,()] from aH);obtain⟨⟨z0,z1⟩,gO,gP⟩:=aH.two;have qy:=aH.lt;have HA:=Hd (show QR (λ_=>False) True w (w5.setCell ⟨NA,0,none⟩ (.slice (some ⟨gg,0,none⟩) (rm+1) aC)) Lo B ps tv n T NA NA [.int .i64 0,false,eS,(),(),(),(),()] [] [.sl 8 []] [] [()] 1 29 J y (rm+1) (some ⟨gg,0,none⟩) aC ([]++[aB pd]) from lB);replace gW:=Hd (show ae (λ b=>b=ps) wk (w5.setCell ⟨NA,0,none⟩ (.slice (some ⟨gg,0,none⟩) (rm+1) aC)) from gW.o.fresh bi (λ b e=>by rcases e with e | e;rw [e];exact xU.o.2;exact nY xU.o.2 (ZT.o b e).1));clear aH lB bi;clear aK ao bf)
    have HP:=Hd (show (y=0∧∃M2,T.length - J+1≤M2∧res=qK K M wd acc (my K (bT (av (ab K)) M2 ([]++[aB pd]) (T.drop J))))∨(y≠0∧res=.error y) from by
     rcases Bg.o with ⟨h1,h2,_,hw⟩ | ⟨h1,hw⟩
     ·refine .inl ⟨h1,_,nC _,?_⟩;rw [ot.o,hw];dsimp only;rw [←h2,nI];rfl
     ·exact .inr ⟨h1,by rw [ot.o,hw];rfl⟩)
    have ZO:=Hd (show I≤J∧J≤T.length from by have:=HJ.o;have:=Pk.o;omega);have HJZ:=Hd (show y=0→I+1≤J from λ h=>by
     rcases Bg.o with ⟨_,h2,_,_⟩ | ⟨h1,_⟩
     ·have:=Pk.o;omega
     ·exact nQ h h1)
    obtain⟨wB,hwB⟩:∃wB,wB=w5.setCell ⟨NA,0,none⟩ (.slice (some ⟨gg,0,none⟩) (rm+1) aC):=⟨_,rfl⟩;rw [←hwB];rw [←hwB] at HA gW;clear hwB z0 z1 gO gP qy x0 x1 f8 gf fR gT ot Bg HJ re;go_cut [9] from 24 to 124 (λ v9 wx=>∃(gq:Prop) (I2 x2 qm:Nat) (qa:OA) (qc:Nat) (iV:List Dt) (wy:World),wy=wx∧Hid (I≤I2∧I2≤T.length)∧Hid (x2=0→I+1≤I2)∧Hid (QR (λ_=>False) gq w wy Lo B ps tv n T NA NA [.int .i64 0,false,eS,(),(),(),(),()] [] [.sl 8 []] [] [()] 1 29 I2 x2 qm qa qc iV)∧Hid (ae (λ b=>b=ps) wk wy)∧Hid (IY gq (res=qK K M wd acc (my K (.ok (iV,T.drop I2)))) x2 res))
    case first=>
     obtain⟨gy,hgy⟩:∃gy,(y=0∧gy=T.length+2000 - J)∨(y≠0∧gy=0):=by
      by_cases h0:y=0
      ·exact⟨_,.inl ⟨h0,rfl⟩⟩
      ·exact⟨_,.inr ⟨h0,rfl⟩⟩
     have rr:=Hd hgy;clear hgy;go_wp2_with fail;go_loopg [9] gy (λ g v9 wr=>∃(gq:Prop) (I2 x2 qm:Nat) (qa:OA) (qc:Nat) (iV:List Dt),((x2=0∧g=T.length+2000 - I2)∨(x2≠0∧g=0))∧I≤I2∧I2≤T.length∧(x2=0→I+1≤I2∧qm≤I2+10)∧Hid (QR (λ_=>False) gq w wr Lo B ps tv n T NA NA [.int .i64 0,false,eS,(),(),(),(),()] [] [.sl 8 []] [] [()] 1 29 I2 x2 qm qa qc iV)∧Hid (ae (λ b=>b=ps) wk wr)∧Hid ((gq∧x2=0∧∃M2,T.length - I2+1≤M2∧res=qK K M wd acc (my K (bT (av (ab K)) M2 iV (T.drop I2))))∨(x2≠0∧res=.error x2)))
     case atStart=>exact⟨True,J,y,rm+1,_,_,[]++[aB pd],rr.o,ZO.o.1,ZO.o.2,λ h=>⟨HJZ.o h,oM⟩,HA,gW,Hd (by rcases HP.o with ⟨h1,h2⟩ | h;exact .inl ⟨trivial,h1,h2⟩;exact .inr h)⟩
     case round=>
      clear HA gW HP;obtain⟨gq,I2,x2,qm,qa,qc,iV,Xw,Jb,Th,hqm,HA,gW,NF⟩:=hrel;have Vg:=Hd Xw;clear Xw;obtain⟨c0,c1,c2,f1,f2⟩:=HA.o.rs.cells;have aW:=HA.o.rs.lt;by_cases pX:x2=0
      ·subst pX;obtain⟨aaY,ac8⟩:=hqm rfl;obtain⟨g,M2,hM2,hr⟩:gq∧∃M2,T.length - I2+1≤M2∧res=qK K M wd acc (my K (bT (av (ab K)) M2 iV (T.drop I2))):=by
        rcases NF.o with ⟨g,_,h9⟩ | ⟨h9,_⟩
        ·exact⟨g,h9⟩
        ·exact nQ rfl h9
       obtain⟨M2,rfl⟩:∃M',M2=M'+1:=⟨M2 - 1,oM⟩;have HGQ:=Hd g;rw [EC] at hr;clear g NF;cases ho:aj [124] (T.drop I2) with
       | false=>
        have HE:=Hd (show IY gq (res=qK K M wd acc (my K (.ok (iV,T.drop I2)))) 0 res from .inl ⟨HGQ.o,rfl,by rw [hr,ho,nF sI]⟩);have Sp:=Hd (aY HA.o.rs [124] false ho 0);clear ho hr;go_wp2_with fail;refine Sp.o.mono ?_;rintro e wq ⟨rfl,dq,rfl⟩;obtain⟨RR,aQ⟩:∃RR,RR=wr.drewN dq:=⟨_,rfl⟩;rw [←aQ];have aZ:K0 wr RR:=by rw [aQ];exact (ae.refl _ _).drewN _
        replace HA:=Hd (HA.o.keep0 aZ);replace gW:=Hd (gW.o.trans aZ (λ_ _ h=>h.elim));clear aQ aZ;go_wp2_with fail;go_meet
        case rel=>exact⟨gq,I2,0,qm,qa,qc,iV,_,rfl,Hd ⟨Jb,Th⟩,Hd (λ_=>aaY),HA,gW,HE⟩
       | true=>
        rw [ho,nE rfl,aG] at hr;have gF:=Hd hr;have Ti:=bL (dA ho);have RF:IntKind.i64.wrap ((I2:Int)+1)=(I2:Int)+1:=nL _ oM;have Sp:=Hd (aY HA.o.rs [124] true ho 0);clear ho hr c0 c1 c2 f1 f2 aW;obtain⟨c0,c1,c2,f1,f2⟩:=HA.o.rs.cells;have aW:=HA.o.rs.lt;go_wp2_with fail;refine Sp.o.mono ?_;rintro e wq ⟨rfl,dq,rfl⟩;obtain⟨RR,aQ⟩:∃RR,RR=wr.drewN dq:=⟨_,rfl⟩
        rw [←aQ];have aZ:K0 wr RR:=by rw [aQ];exact (ae.refl _ _).drewN _
        replace HA:=Hd (HA.o.keep0 aZ);replace gW:=Hd (gW.o.trans aZ (λ_ _ h=>h.elim));clear aQ aZ;obtain⟨c0,c1,c2,f1,f2⟩:=HA.o.rs.cells;have aW:=HA.o.rs.lt;go_wp2_with fail;obtain⟨wi,xO⟩:∃wi,wi=RR.setCell ⟨ps,1,none⟩ (.int .i64 ((I2:Int)+1)):=⟨_,rfl⟩;rw [←xO];obtain⟨kY,mZ⟩:=eE HA.o.rs oM;rw [←xO] at kY mZ;replace HA:=Hd (HA.o.move bA.o xU.o.1 xU.o.1 mZ kY)
        replace gW:=Hd (gW.o.trans mZ k3);clear xO mZ kY c0 c1 c2 f1 f2 aW;refine (kM K cK.o wi Lo B ps n (I2+1) aN tv T HD.o HA.o.rs).mono ?_;rintro e w4 ⟨pd,pa,pc,J2,y2,rfl,iH,gM,ku,hj2,dR,be,fB⟩;obtain⟨pl,Eg⟩:∃pl,pl=pd.length:=⟨_,rfl⟩;rw [←Eg];have UQ:=HA.o.rc.lt;obtain⟨xs,hown4,aL,hF⟩:=HA.o.more (G':=True) (y:=y2) (J:=J2) (us:=[.slice pa pl pc]) (d2:=[aB pd]) bA.o xU.o.1 xU.o.1 oM be dR (λ_=>HGQ.o) (λ_=>⟨by rw [Eg];exact (gv iH).mono (λ b _ hb=>.inl hb),trivial⟩) (λ b hb=>hb.elim)
        have HF:=Hd hF;have ZT:=Hd HA.o.low;have Bg:=Hd fB;replace gW:=Hd (gW.o.trans be k3);have HJ:=Hd (show (I2+1)≤J2∧J2≤T.length from⟨ku,hj2 oM⟩);have dz:=(show af w4 NA [.slice qa qm qc,()] from aL);obtain⟨⟨x0,x1⟩,f8,gf⟩:=dz.two;have fR:=aL.lt;clear hF aL dz dR be iH gM fB Eg UQ ku hj2;go_wp2_with (at_builtin;refine nR _ rfl (.tmp 72) (.tmp 74) _ rfl 0 29 i2 _ 1 24 Tryz.underlying39 fm Hn xP pX rfl oM (.slice qa qm qc) qm xs rfl (hown4.alloc _) ⟨w4.heap.size,0,none⟩ 1 1 [.slice pa pl pc] rfl rfl (nK (cs:=#[.slice pa pl pc]) (t:=29) (fr:=(0,0)) (nG w4 _)) oC oM uM oM sI (w4.heap.size+1) sI ?_;intro gg aC w5 aK ao bf gT;have gA:=HF.o gg (qm+1) aC w5 _ aK ((ae.refl _ _).alloc _) ao (bf.imp id (λ h=>oM));obtain⟨aH,lB,bi⟩:=gA;have aH:=(show af w5 NA [.slice qa qm qc,()] from aH);obtain⟨⟨z0,z1⟩,gO,gP⟩:=aH.two;have qy:=aH.lt;have HA:=Hd (show QR (λ_=>False) True w (w5.setCell ⟨NA,0,none⟩ (.slice (some ⟨gg,0,none⟩) (qm+1) aC)) Lo B ps tv n T NA NA [.int .i64 0,false,eS,(),(),(),(),()] [] [.sl 8 []] [] [()] 1 29 J2 y2 (qm+1) (some ⟨gg,0,none⟩) aC (iV++[aB pd]) from lB);replace gW:=Hd (show ae (λ b=>b=ps) wk (w5.setCell ⟨NA,0,none⟩ (.slice (some ⟨gg,0,none⟩) (qm+1) aC)) from gW.o.fresh bi (λ b e=>by rcases e with e | e;rw [e];exact xU.o.2;exact nY xU.o.2 (ZT.o b e).1));clear aH lB bi;clear aK ao bf)
        rcases Bg.o with ⟨h1,h2,_,hw⟩ | ⟨h1,hw⟩
        ·go_roundg (T.length+2000 - J2)
         case measure=>have:=Vg.o;omega
         case rel=>exact⟨True,J2,y2,qm+1,_,_,iV++[aB pd],.inl ⟨h1,rfl⟩,oM,oM,λ_=>oM,HA,gW,Hd (.inl ⟨trivial,h1,M2,oM,by rw [gF.o,hw,h2]⟩)⟩
        ·go_roundg 0
         case measure=>have:=Vg.o;omega
         case rel=>exact⟨True,J2,y2,qm+1,_,_,iV++[aB pd],.inr ⟨h1,rfl⟩,by have:=HJ.o;omega,HJ.o.2,λ h=>nQ h h1,HA,gW,Hd (.inr ⟨h1,by rw [gF.o,hw];rfl⟩)⟩
      ·have t9:((x2:Int)==0)=false:=by rw [nA];omega
       have HE:=Hd (show IY gq (res=qK K M wd acc (my K (.ok (iV,T.drop I2)))) x2 res from .inr ⟨pX,by rcases NF.o with ⟨_,h9,_⟩ | ⟨_,h9⟩;exact nQ h9 pX;exact h9⟩);have ct:=Hd pX;clear pX NF;go_wp2_with fail;go_meet
       case rel=>exact⟨gq,I2,x2,qm,qa,qc,iV,_,rfl,Hd ⟨Jb,Th⟩,Hd (λ h=>nQ h ct.o),HA,gW,HE⟩
    case rest=>
    clear HA gW HP ZO HJZ Pk HJT HJD yi;obtain⟨gq,I2,x2,qm,qa,qc,iV,wy,Cb,Sd,HJ3,HA,gW,yw⟩:=hcut;subst Cb;have Th:=Sd.o.2;cases TV:aj [41] (T.drop I2) with
    | false=>
     obtain⟨xf,sD⟩:∃xf,xf=Ab x2:=⟨_,rfl⟩;have uo:=Hd (show ∀w D us,QF false w D T res us I2 xf from λ_ _ _=>by
      rcases yw.o with ⟨g,h0,hr⟩ | ⟨h0,hr⟩
      ·rw [show Ab x2=2 from nE h0] at sD;exact QF.err oM (by rw [hr,sD,Mq TV];rfl)
      ·rw [show Ab x2=x2 from nF h0] at sD;exact QF.err oM (by rw [hr,sD]))
     have Uw:=Hd sD;have Z4:=Hd (aY HA.o.rs [41] false TV 0);have fv:=Hd (show i≤I2∧I2≤T.length+(2*K+2) by have:=Sd.o;omega);clear TV sD yw;go_wp2_with fail;refine Z4.o.mono ?_;rintro e wq ⟨rfl,dq,rfl⟩;obtain⟨Pc,aQ⟩:∃Pc,Pc=wy.drewN dq:=⟨_,rfl⟩;rw [←aQ];have aZ:K0 wy Pc:=by rw [aQ];exact (ae.refl _ _).drewN _
     replace HA:=Hd (HA.o.keep0 aZ);replace gW:=Hd (gW.o.trans aZ (λ_ _ h=>h.elim));clear aQ aZ;go_wp2_with fail;refine (eg Pc Lo B ps n I2 x2 2 tv T HA.o.rs).mono ?_;rintro e wz ⟨rfl,ek,kg⟩;have ek:=(show QS wz Lo B ps tv n T I2 xf by rw [Uw.o];exact ek);replace HG:=Hd (HG.o.move bA.o (nM _) gE.o (gW.o.trans kg k3) ek);clear ek kg
     obtain⟨⟨x0,x1,x2,x3,x4,x5,x6,x7⟩,⟨f8,gf,hC,hU,hV,hY,hZ,ia⟩⟩:=(show af wz N [.int .i64 10,false,eS,.slice (some ⟨NW,0,none⟩) 1 1,(),(),(),.slice la m lc] from HG.o.rc).eight;have fR:=HG.o.rc.lt;have HF:=Hd (show QF false wz (λ b=>Qd Lo B w.heap.size b∧b≠w.heap.size) T res [.int .i64 10,false,eS,.slice (some ⟨NW,0,none⟩) 1 1,(),(),(),.slice la m lc] I2 xf from o8 HG.o (nM _) bA.o (.inr uo.o))
     have HK:=Hd HG.o.kp;have HS:=Hd HG.o.rs;obtain⟨⟨z0,z1,z2,z3,z4,z5,z6,z7⟩,⟨gO,gP,ib,ic,ie,ig,ii,ij⟩⟩:=HG.o.zr.eight;have fT:=HG.o.zr.lt;go_wp2_with fail;refine nJ (v:=.agg #[.int .i64 10,false,eS,.slice (some ⟨NW,0,none⟩) 1 1,(),(),(),.slice la m lc]) (by simp [results,Tryz.results183,go_sem,z0,z1,z2,z3,z4,z5,z6,z7]) rfl ?_
     obtain⟨f1,f2,f3⟩:=cI HK.o HS.o bA.o HF.o (ap wz w.heap.size (.int .i64 10) (.bool false) (.string ⟨#[]⟩) (.slice (some ⟨NW,0,none⟩) 1 1) (.slice none 0 0) (.slice none 0 0) (.slice none 0 0) (.slice la m lc));exact⟨⟨10,false,⟨#[]⟩,some ⟨NW,0,none⟩,1,1,none,0,0,none,0,0,none,0,0,la,m,lc⟩,I2,xf,rfl,fv.o.1,fv.o.2,f1,f2,f3⟩
    | true=>
     have Z4:=Hd (aY HA.o.rs [41] true TV 0);have acB:=bL (dA TV);have ZX:=Hd TV;have ab8:IntKind.i64.wrap ((I2:Int)+1)=(I2:Int)+1:=nL _ oM;clear TV;go_wp2_with fail;refine Z4.o.mono ?_;rintro e wq ⟨rfl,dq,rfl⟩;obtain⟨Pc,aQ⟩:∃Pc,Pc=wy.drewN dq:=⟨_,rfl⟩;rw [←aQ];have aZ:K0 wy Pc:=by rw [aQ];exact (ae.refl _ _).drewN _
     replace HA:=Hd (HA.o.keep0 aZ);replace gW:=Hd (gW.o.trans aZ (λ_ _ h=>h.elim));clear aQ aZ;obtain⟨c0,c1,c2,f1,f2⟩:=HA.o.rs.cells;have aW:=HA.o.rs.lt;go_wp2_with fail;obtain⟨wi,xO⟩:∃wi,wi=Pc.setCell ⟨ps,1,none⟩ (.int .i64 ((I2:Int)+1)):=⟨_,rfl⟩;rw [←xO];obtain⟨kY,mZ⟩:=eE HA.o.rs oM;rw [←xO] at kY mZ;replace HA:=Hd (HA.o.move bA.o xU.o.1 xU.o.1 mZ kY)
     replace gW:=Hd (gW.o.trans mZ k3);clear xO mZ kY c0 c1 c2 f1 f2 aW;refine (de wi Lo B ps n (I2+1) x2 tv T HA.o.rs).mono ?_;rintro e No ⟨rfl,j4,uK,hl2,qB,sC,kD,iE⟩;replace HA:=Hd (HA.o.move bA.o xU.o.1 xU.o.1 iE kD);replace gW:=Hd (gW.o.trans iE k3);have ux:j4≤T.length:=hl2 oM;have kJ:=Hd (show I2+1≤j4 from uK)
     have JT:=Hd (show ai (T.drop j4)=T.drop j4 by rw [sC,qH]);have R9:=Hd (show IY gq (res=qK K M wd acc (tZ K iV (T.drop j4))) x2 res from by
      rcases yw.o with ⟨g,h0,hr⟩ | h
      ·exact .inl ⟨g,h0,by rw [hr,Ik ZX.o,aG,←sC]⟩
      ·exact .inr h)
     clear uK hl2 qB sC kD iE yw;cases RL:aj [59,59] (T.drop j4) with
     | true=>
      have M8:=Hd (BD R9.o (λ_=>ux) (.inl RL));have vh:=Hd HA.o.rs;have xR:=Hd (show af No NA [.slice qa qm qc,()] from HA.o.rc);have zW:=Hd (show gq→bV No (Qd Lo B wk.heap.size) [.sl 1 iV,.sl 8 []] [.slice qa qm qc,()] from λ g=>⟨(wV HA.o g).mono (λ b _ hb=>by rcases hb.1 with h | h;exact .inl h;exact .inr (nY xU.o.2 h)),.nil _ _ _ (nB _),trivial⟩)
      have xH:=Hd (show I≤j4∧i≤j4 from by have:=kJ.o;have:=Sd.o;omega);have Yw:=Hd (show j4≤T.length+2*K by omega);have YC:=Hd (aY HA.o.rs [59,59] true RL 0);have ho:=RL;have Yz:=Hd RL;clear RL;go_wp2_with fail;refine YC.o.mono ?_;rintro e wq ⟨rfl,dq,rfl⟩;obtain⟨zJ,im⟩:∃zJ,zJ=No.drewN dq:=⟨_,rfl⟩;rw [←im];have aZ:K0 No zJ:=by rw [im];exact (ae.refl _ _).drewN _
      replace gW:=Hd (gW.o.trans aZ (λ_ _ h=>h.elim));replace vh:=Hd (vh.o.keep0 aZ);replace xR:=Hd (xR.o.keep aZ (λ h=>h));replace zW:=Hd (λ g=>(zW.o g).keep aZ (λ_ _ _ h=>h));clear im aZ ho HA;have XT:=HG.o.rc.lt;obtain⟨xs,hown4,aL,hF⟩:=HG.o.more (G':=gq) (y:=x2) (J:=j4) (us:=[.slice qa qm qc,.slice none 0 0]) (d2:=[.sl 1 iV,.sl 8 []]) bA.o (nM _) gE.o (by have:=qk.o;omega) gW.o vh.o (λ_=>sq.o) (λ g=>zW.o g) (λ b hb=>hb.elim)
      have HF:=Hd hF;obtain⟨⟨u0,u1,u2,u3,u4,u5,u6,u7⟩,⟨E1,E2,E3,E4,E5,E6,E7,E8⟩⟩:=(show af zJ N [.int .i64 10,false,eS,.slice (some ⟨NW,0,none⟩) 1 1,(),(),(),.slice la m lc] from aL).eight;obtain⟨⟨n0,n1⟩,Jy,Jz⟩:=xR.o.two;have fR:=aL.lt;have AA:=xR.o.lt;have He:N≠NA:=by have:=ut.o;omega
      clear hF aL XT;go_upto_region 26 with (at_builtin;refine nR _ rfl (.tmp 108) (.tmp 110) _ rfl 0 49 i0 _ 2 48 Tryz.underlying42 fo fC fp fq rfl oM (.slice la m lc) m xs rfl (hown4.alloc _) ⟨zJ.heap.size,0,none⟩ 1 1 [.slice qa qm qc,()] rfl rfl (nK (cs:=#[.slice qa qm qc,.slice none 0 0]) (t:=49) (fr:=(0,0)) (nG zJ _)) oC oM uM oM sI (zJ.heap.size+1) sI ?_;intro gg aC w5 aK ao bf gT;have gA:=HF.o gg (m+1) aC w5 _ aK ((ae.refl _ _).alloc _) ao (bf.imp id (λ h=>oM));obtain⟨aH,lB,bi⟩:=gA;have aH:=(show af w5 N [.int .i64 10,false,eS,.slice (some ⟨NW,0,none⟩) 1 1,(),(),(),.slice la m lc] from aH);obtain⟨⟨z0,z1,z2,z3,z4,z5,z6,z7⟩,⟨gO,gP,ib,ic,ie,ig,ii,ij⟩⟩:=aH.eight;have qy:=aH.lt;have HG:=Hd (show QR (λ_=>False) gq w (w5.setCell ⟨N,7,none⟩ (.slice (some ⟨gg,0,none⟩) (m+1) aC)) Lo B ps tv n T (w.heap.size+1) N [.int .i64 0,false,eS,(),(),(),(),()] [.int 10,.bool false,.str [],.sl 1 [aB wd],.sl 2 [],.sl 2 [],.sl 8 []] [] [.int .i64 10,false,eS,.slice (some ⟨NW,0,none⟩) 1 1,(),(),()] [] 2 49 j4 x2 (m+1) (some ⟨gg,0,none⟩) aC (acc++[.sl 1 iV,.sl 8 []]) from lB);clear aH lB bi;clear aK ao bf)
      obtain⟨wp,Jn⟩:∃wp,wp=w5.setCell ⟨N,7,none⟩ (.slice (some ⟨gg,0,none⟩) (m+1) aC):=⟨_,rfl⟩;rw [←Jn];rw [←Jn] at HG;clear Jn z0 z1 z2 z3 z4 z5 z6 z7 n0 n1 Jy Jz AA He fR qy
      try clear gO gP ib ic ie ig ii ij
      clear u0 u1 u2 u3 u4 u5 u6 u7 E1 E2 E3 E4 E5 E6 E7 E8;have ho:=Yz.o;have HO:=Hd ho;have uy:=bL (dA ho);have X2:IntKind.i64.wrap ((j4:Int)+1)=(j4:Int)+1:=nL _ oM;have HQ:=Hd (aY HG.o.rs [59,59] true ho 0);clear ho;go_wp2_with fail;refine HQ.o.mono ?_;rintro e wq ⟨rfl,dq,rfl⟩;obtain⟨Bb,aQ⟩:∃Bb,Bb=wp.drewN dq:=⟨_,rfl⟩;rw [←aQ];have aZ:K0 wp Bb:=by rw [aQ];exact (ae.refl _ _).drewN _
      replace HG:=Hd (HG.o.keep0 aZ);clear aQ aZ;obtain⟨c0,c1,c2,f1,f2⟩:=HG.o.rs.cells;have aW:=HG.o.rs.lt;go_wp2_with fail;obtain⟨Uk,aQ⟩:∃Uk,Uk=Bb.setCell ⟨ps,1,none⟩ (.int .i64 ((j4:Int)+1)):=⟨_,rfl⟩;rw [←aQ];obtain⟨kY,mZ⟩:=eE HG.o.rs oM;rw [←aQ] at kY mZ;replace HG:=Hd (HG.o.move bA.o (nM _) gE.o mZ kY);clear aQ mZ kY;clear c0 c1 c2 f1 f2 aW
      refine (de Uk Lo B ps n (j4+1) x2 tv T HG.o.rs).mono ?_;rintro e wq3 ⟨rfl,I3,uK,hl2,qB,sC,kD,iE⟩;replace HG:=Hd (HG.o.move bA.o (nM _) gE.o iE kD);have Xd:I3≤T.length:=hl2 oM;have Nt:=Hd uK;have Ph:=Hd (show CA gq K wd (acc++[.sl 1 iV,.sl 8 []]) T I3 x2 res from by
       rcases M8.o with ⟨g,h0,_,hr⟩ | ⟨h0,hr⟩ | ⟨_,ho9,_⟩
       ·exact Qv
       ·exact .inr ⟨h0,hr⟩
       ·rw [lQ ho9 [59,59] dC] at HO;cases HO.o)
      clear uK hl2 qB sC kD iE;go_wp2_with fail;by_cases TQ:x2=0
      ·go_roundg (T.length+2000 - I3)
       case measure=>have:=fK.o;have:=xH.o;have:=Nt.o;omega
       case rel=>exact⟨gq,I3,x2,m+1,_,_,_,.inl ⟨TQ,rfl⟩,by have:=xH.o;have:=Nt.o;omega,oM,λ_=>by have:=xH.o;have:=Nt.o;omega,HG,Ph⟩
      ·go_roundg 0
       case measure=>have:=fK.o;omega
       case rel=>exact⟨gq,I3,x2,m+1,_,_,_,.inr ⟨TQ,rfl⟩,by have:=xH.o;have:=Nt.o;omega,oM,λ h=>nQ h TQ,HG,Ph⟩
     | false=>
      have YC:=Hd (aY HA.o.rs [59,59] false RL 0);obtain⟨s4,dR⟩:∃s4,aJ (ch (T.drop j4))=s4:=⟨_,rfl⟩;have iG:=Hd dR;have HQ6:=Hd (λ q=>di HA.o.rs s4 dR q);have Yz:=Hd RL;clear dR RL;by_cases he:s4=[101,115,97,99]
      ·subst he;have M8:=Hd (BD R9.o (λ_=>ux) (.inr (by rw [cN iG.o];rfl)));have vh:=Hd HA.o.rs;have xR:=Hd (show af No NA [.slice qa qm qc,()] from HA.o.rc);have zW:=Hd (show gq→bV No (Qd Lo B wk.heap.size) [.sl 1 iV,.sl 8 []] [.slice qa qm qc,()] from λ g=>⟨(wV HA.o g).mono (λ b _ hb=>by rcases hb.1 with h | h;exact .inl h;exact .inr (nY xU.o.2 h)),.nil _ _ _ (nB _),trivial⟩)
       have xH:=Hd (show I≤j4∧i≤j4 from by have:=kJ.o;have:=Sd.o;omega);have Yw:=Hd (show j4≤T.length+2*K by omega);go_wp2_with fail;refine YC.o.mono ?_;rintro e wq ⟨rfl,dq,rfl⟩;go_wp2_with fail;refine (HQ6.o dq).mono ?_;rintro e wq ⟨rfl,DV,rfl⟩;obtain⟨zJ,im⟩:∃zJ,zJ=No.drewN DV:=⟨_,rfl⟩;rw [←im];have aZ:K0 No zJ:=by rw [im];exact (ae.refl _ _).drewN _
       replace gW:=Hd (gW.o.trans aZ (λ_ _ h=>h.elim));replace vh:=Hd (vh.o.keep0 aZ);replace xR:=Hd (xR.o.keep aZ (λ h=>h));replace zW:=Hd (λ g=>(zW.o g).keep aZ (λ_ _ _ h=>h));clear im aZ HA;have XT:=HG.o.rc.lt;obtain⟨xs,hown4,aL,hF⟩:=HG.o.more (G':=gq) (y:=x2) (J:=j4) (us:=[.slice qa qm qc,.slice none 0 0]) (d2:=[.sl 1 iV,.sl 8 []]) bA.o (nM _) gE.o (by have:=qk.o;omega) gW.o vh.o (λ_=>sq.o) (λ g=>zW.o g) (λ b hb=>hb.elim)
       have HF:=Hd hF;obtain⟨⟨u0,u1,u2,u3,u4,u5,u6,u7⟩,⟨E1,E2,E3,E4,E5,E6,E7,E8⟩⟩:=(show af zJ N [.int .i64 10,false,eS,.slice (some ⟨NW,0,none⟩) 1 1,(),(),(),.slice la m lc] from aL).eight;obtain⟨⟨n0,n1⟩,Jy,Jz⟩:=xR.o.two;have fR:=aL.lt;have AA:=xR.o.lt;have He:N≠NA:=by have:=ut.o;omega
       clear hF aL XT;go_upto_region 26 with (at_builtin;refine nR _ rfl (.tmp 108) (.tmp 110) _ rfl 0 49 i0 _ 2 48 Tryz.underlying42 fo fC fp fq rfl oM (.slice la m lc) m xs rfl (hown4.alloc _) ⟨zJ.heap.size,0,none⟩ 1 1 [.slice qa qm qc,()] rfl rfl (nK (cs:=#[.slice qa qm qc,.slice none 0 0]) (t:=49) (fr:=(0,0)) (nG zJ _)) oC oM uM oM sI (zJ.heap.size+1) sI ?_;intro gg aC w5 aK ao bf gT;have gA:=HF.o gg (m+1) aC w5 _ aK ((ae.refl _ _).alloc _) ao (bf.imp id (λ h=>oM));obtain⟨aH,lB,bi⟩:=gA;have aH:=(show af w5 N [.int .i64 10,false,eS,.slice (some ⟨NW,0,none⟩) 1 1,(),(),(),.slice la m lc] from aH);obtain⟨⟨z0,z1,z2,z3,z4,z5,z6,z7⟩,⟨gO,gP,ib,ic,ie,ig,ii,ij⟩⟩:=aH.eight;have qy:=aH.lt;have HG:=Hd (show QR (λ_=>False) gq w (w5.setCell ⟨N,7,none⟩ (.slice (some ⟨gg,0,none⟩) (m+1) aC)) Lo B ps tv n T (w.heap.size+1) N [.int .i64 0,false,eS,(),(),(),(),()] [.int 10,.bool false,.str [],.sl 1 [aB wd],.sl 2 [],.sl 2 [],.sl 8 []] [] [.int .i64 10,false,eS,.slice (some ⟨NW,0,none⟩) 1 1,(),(),()] [] 2 49 j4 x2 (m+1) (some ⟨gg,0,none⟩) aC (acc++[.sl 1 iV,.sl 8 []]) from lB);clear aH lB bi;clear aK ao bf)
       obtain⟨wp,Jn⟩:∃wp,wp=w5.setCell ⟨N,7,none⟩ (.slice (some ⟨gg,0,none⟩) (m+1) aC):=⟨_,rfl⟩;rw [←Jn];rw [←Jn] at HG;clear Jn z0 z1 z2 z3 z4 z5 z6 z7 n0 n1 Jy Jz AA He fR qy
       try clear gO gP ib ic ie ig ii ij
       clear u0 u1 u2 u3 u4 u5 u6 u7 E1 E2 E3 E4 E5 E6 E7 E8;have ho:=Yz.o;have HO:=Hd ho;have HQ:=Hd (aY HG.o.rs [59,59] false ho 0);clear ho;go_wp2_with fail;refine HQ.o.mono ?_;rintro e wq ⟨rfl,dq,rfl⟩;obtain⟨Bb,aQ⟩:∃Bb,Bb=wp.drewN dq:=⟨_,rfl⟩;rw [←aQ];have aZ:K0 wp Bb:=by rw [aQ];exact (ae.refl _ _).drewN _
       replace HG:=Hd (HG.o.keep0 aZ);clear aQ aZ;go_upto_region 29 with fail;obtain⟨la,rk⟩:∃Cd,Cd=(some ⟨gg,0,none⟩:OA):=⟨_,rfl⟩;obtain⟨m9,XP⟩:∃m9,m9=m+1:=⟨_,rfl⟩;rw [←rk,←XP] at HG;clear rk XP;obtain⟨xe,i8⟩:∃xe,xe=if x2=0 then (if aF [101,115,97,99] (T.drop j4) then 0 else 2) else x2:=⟨_,rfl⟩;have I1:=Hd ((λ i8=>rH (ds:=cE 10 false [] [aB wd] [] [] [] (acc++[.sl 1 iV,.sl 8 []])) M8.o i8 (λ h=>⟨λ hw=>by rw [h,F6 HO.o hw],λ hw=>by rw [h,F7 HO.o hw]⟩)) i8)
       have sz:=Hd i8;have fv:=Hd (show i≤j4+1∧j4+1≤T.length+(2*K+2) by have:=xH.o;have:=Yw.o;omega);have hI9:j4+1≤T.length+900:=by have:=fv.o;have:=HD.o;omega
       clear i8;go_wp2_with fail;refine (eL Bb Lo B ps n j4 x2 tv T [101,115,97,99] HG.o.rs oM).mono ?_;rintro e wz ⟨rfl,ek,kg⟩;have ek:=(show QS wz Lo B ps tv n T (j4+1) xe by rw [sz.o];exact ek);replace HG:=Hd (HG.o.move bA.o (nM _) gE.o kg ek);clear ek kg;obtain⟨⟨x0,x1,x2,x3,x4,x5,x6,x7⟩,⟨f8,gf,hC,hU,hV,hY,hZ,ia⟩⟩:=(show af wz N [.int .i64 10,false,eS,.slice (some ⟨NW,0,none⟩) 1 1,(),(),(),.slice la m9 aC] from HG.o.rc).eight
       have fR:=HG.o.rc.lt;have HF:=Hd (show QF false wz (λ b=>Qd Lo B w.heap.size b∧b≠w.heap.size) T res [.int .i64 10,false,eS,.slice (some ⟨NW,0,none⟩) 1 1,(),(),(),.slice la m9 aC] (j4+1) xe from o8 HG.o (nM _) bA.o (by rcases I1.o with ⟨g,h0,hj,hr⟩ | ⟨h0,hr⟩;exact .inl ⟨g,h0,hj,⟨_,_,_,_,_,_,_,_,rfl⟩,hr⟩;exact .inr λ_ _ _=>QF.err h0 hr))
       have HK:=Hd HG.o.kp;have HS:=Hd HG.o.rs;obtain⟨⟨z0,z1,z2,z3,z4,z5,z6,z7⟩,⟨gO,gP,ib,ic,ie,ig,ii,ij⟩⟩:=HG.o.zr.eight;have fT:=HG.o.zr.lt;go_wp2_with fail;refine nJ (v:=.agg #[.int .i64 10,false,eS,.slice (some ⟨NW,0,none⟩) 1 1,(),(),(),.slice la m9 aC]) (by simp [results,Tryz.results183,go_sem,z0,z1,z2,z3,z4,z5,z6,z7]) rfl ?_
       obtain⟨f1,f2,f3⟩:=cI HK.o HS.o bA.o HF.o (ap wz w.heap.size (.int .i64 10) (.bool false) (.string ⟨#[]⟩) (.slice (some ⟨NW,0,none⟩) 1 1) (.slice none 0 0) (.slice none 0 0) (.slice none 0 0) (.slice la m9 aC));exact⟨⟨10,false,⟨#[]⟩,some ⟨NW,0,none⟩,1,1,none,0,0,none,0,0,none,0,0,la,m9,aC⟩,(j4+1),xe,rfl,fv.o.1,fv.o.2,f1,f2,f3⟩
      ·have t5:(s4==[101,115,97,99])=false:=d9 he;have t6:(s4 != [101,115,97,99])=true:=by rw [bne,t5];rfl
       have HE5:=Hd (show aF [101,115,97,99] (T.drop j4)=false by rw [cN iG.o];exact t5);clear he;go_wp2_with fail;refine YC.o.mono ?_;rintro e wq ⟨rfl,dq,rfl⟩;go_wp2_with fail;refine (HQ6.o dq).mono ?_;rintro e wq ⟨rfl,DV,rfl⟩;obtain⟨zJ,im⟩:∃zJ,zJ=No.drewN DV:=⟨_,rfl⟩;rw [←im];have aZ:K0 No zJ:=by rw [im];exact (ae.refl _ _).drewN _
       replace gW:=Hd (gW.o.trans aZ (λ_ _ h=>h.elim));replace HA:=Hd (HA.o.keep0 aZ);clear im aZ;go_wp2_with fail;refine (zn K HC.o zJ Lo B ps n j4 x2 (aN+1) tv T HA.o.rs (λ_=>ux) (by have:=HD.o;omega)).mono ?_;rintro e w6 ⟨vb,jb,xb,rfl,acU,Lx,lM,cu,hf6⟩;obtain⟨gb,db,Rp,e9⟩:=Kk R9.o JT.o Yz.o HE5.o hf6;have M8:=Hd e9;go_upto_region 24 with fail
       obtain⟨NB,ke⟩:∃NB,NB=w6.heap.size:=⟨_,rfl⟩;obtain⟨W7,D3⟩:∃W7,W7=w6.alloc (.cells #[vb.k,vb.nt,vb.nm,.slice vb.a0 vb.n0 vb.c0,.slice vb.a1 vb.n1 vb.c1,.slice vb.a2 vb.n2 vb.c2,.slice vb.a3 vb.n3 vb.c3,.slice vb.a4 vb.n4 vb.c4] 44):=⟨_,rfl⟩;rw [←D3]
       try rw [←ke]
       have i5:K0 w6 W7:=by rw [D3];exact (ae.refl _ _).alloc _
       have xJ:=Hd (show af W7 NB [vb.k,vb.nt,vb.nm,.slice vb.a0 vb.n0 vb.c0,.slice vb.a1 vb.n1 vb.c1,.slice vb.a2 vb.n2 vb.c2,.slice vb.a3 vb.n3 vb.c3,.slice vb.a4 vb.n4 vb.c4] by rw [D3,ke];exact aD _ _ _ _ _ _ _ _ _ _);have bp:=cu.trans i5 (λ_ _ h=>h.elim);have abN:=HA.o.rc.lt;have LP:=cu.size;have abW:W7.heap.size=w6.heap.size+1:=by rw [D3];simp
       have M4:=Hd (HA.o.move bA.o xU.o.1 xU.o.1 bp (lM.keep0 i5));replace gW:=Hd (gW.o.trans bp k3);have HDB:=Hd (show gb→gq∧jA db∧bV W7 (λ b=>Qd Lo B (NA+1) b∧b<NB) db vb.vals from λ g=>⟨(Rp g).1,(Rp g).2.1,((Rp g).2.2.lt.keep i5 (λ_ _ _ h=>h)).mono (λ b _ hb=>⟨by rcases hb.1 with h | h;exact .inl h;exact .inr oM,by rw [ke];exact hb.2⟩)⟩);have xK:=Hd (show NA<NB∧NB<W7.heap.size by omega)
       obtain⟨⟨x0,x1⟩,f8,gf⟩:=(show af W7 NA [.slice qa qm qc,()] from M4.o.rc).two;obtain⟨⟨n0,n1,n2,n3,n4,n5,n6,n7⟩,⟨Jy,Jz,nf2,nf3,nf4,nf5,nf6,nf7⟩⟩:=xJ.o.eight;have fR:=M4.o.rc.lt;have AB:=xJ.o.lt;have abP:NA≠NB:=by have:=xK.o;omega
       have xH:=Hd (show I≤jb∧i≤jb from by have:=kJ.o;have:=Sd.o;omega);have Yw:=Hd (show jb≤T.length+2*K by omega);clear lM cu hf6 Rp e9 i5 bp D3 ke abN LP abW HA;go_upto_region 25 with fail;obtain⟨KB,hKB⟩:∃KB,KB=W7.heap.size:=⟨_,rfl⟩;obtain⟨W8,Xk⟩:∃W8,W8=(W7.setCell ⟨NA,1,none⟩ (.slice (some ⟨W7.heap.size,0,none⟩) 1 1)).alloc (.cells #[vb.k,vb.nt,vb.nm,.slice vb.a0 vb.n0 vb.c0,.slice vb.a1 vb.n1 vb.c1,.slice vb.a2 vb.n2 vb.c2,.slice vb.a3 vb.n3 vb.c3,.slice vb.a4 vb.n4 vb.c4] 44):=⟨_,rfl⟩
       rw [←Xk];obtain⟨w8,Hm⟩:∃w8,w8=W7.setCell ⟨NA,1,none⟩ (.slice (some ⟨W7.heap.size,0,none⟩) 1 1):=⟨_,rfl⟩;rw [←Hm] at Xk;have C9:w8.heap.size=W7.heap.size:=by rw [Hm];simp [World.setCell]
       have lz:ae (λ b=>b=NA) W7 w8:=by rw [Hm];exact (ae.refl _ _).setCell _ _ λ_=>rfl
       have iQ:K0 w8 W8:=by rw [Xk];exact (ae.refl _ _).alloc _
       have UQ:=xU.o;have vS:=gE.o;have Ry:=bA.o;have OF:=xK.o;have vh:=Hd ((M4.o.rs.keep lz (λ b hb e=>by have:=M4.o.rs.ps;omega) (λ e=>oM)).keep0 iQ);replace gW:=Hd ((gW.o.fresh lz (λ b e=>by rw [e];exact UQ.2)).trans iQ (λ_ _ h=>h.elim));have xR:=Hd (show af W8 NA [.slice qa qm qc,.slice (some ⟨KB,0,none⟩) 1 1] from by
        have h9:=(show af W7 NA [.slice qa qm qc,()] from M4.o.rc).set 1 (.slice (some ⟨W7.heap.size,0,none⟩) 1 1);rw [←Hm,←hKB] at h9;exact h9.keep iQ (λ h=>h))
       have zW:=Hd (show gb→bV W8 (Qd Lo B wk.heap.size) [.sl 1 iV,.sl 8 db] [.slice qa qm qc,.slice (some ⟨KB,0,none⟩) 1 1] from λ g=>by
        obtain⟨g1,g2,g3⟩:=HDB.o g;have hB:=M4.o.rs.ps;have r1:=((wV M4.o g1).keep lz (λ b _ hb e=>hb.2 e)).keep iQ (λ_ _ _ h=>h);have r2:=fk (D:=Qd Lo B wk.heap.size) (k:=8) (m:=1) ((g3.keep lz (λ b _ hb e=>by rcases hb.1 with h | h<;>omega)).mono (λ b _ hb=>by rcases hb.1 with h | h;exact .inl h;exact .inr oM)) (by rw [g2.len]) dC Xk (.inr oM)
        rw [C9,←hKB] at r2;exact⟨r1.mono (λ b _ hb=>by rcases hb.1 with h | h;exact .inl h;exact .inr oM),r2,trivial⟩)
       clear Xk Hm C9 lz iQ UQ vS Ry OF hKB x0 x1 f8 gf n0 n1 n2 n3 n4 n5 n6 n7 Jy Jz nf2 nf3 nf4 nf5 nf6 nf7 fR AB abP;have XT:=HG.o.rc.lt;obtain⟨xs,hown4,aL,hF⟩:=HG.o.more (G':=gb) (y:=xb) (J:=jb) (us:=[.slice qa qm qc,.slice (some ⟨KB,0,none⟩) 1 1]) (d2:=[.sl 1 iV,.sl 8 db]) bA.o (nM _) gE.o (by have:=qk.o;omega) gW.o vh.o (λ_=>sq.o) (λ g=>zW.o g) (λ b hb=>hb.elim)
       have HF:=Hd hF;obtain⟨⟨u0,u1,u2,u3,u4,u5,u6,u7⟩,⟨E1,E2,E3,E4,E5,E6,E7,E8⟩⟩:=(show af W8 N [.int .i64 10,false,eS,.slice (some ⟨NW,0,none⟩) 1 1,(),(),(),.slice la m lc] from aL).eight;obtain⟨⟨n0,n1⟩,Jy,Jz⟩:=xR.o.two;have fR:=aL.lt;have AA:=xR.o.lt;have He:N≠NA:=by have:=ut.o;omega
       clear hF aL XT;go_upto_region 26 with (at_builtin;refine nR _ rfl (.tmp 108) (.tmp 110) _ rfl 0 49 i0 _ 2 48 Tryz.underlying42 fo fC fp fq rfl oM (.slice la m lc) m xs rfl (hown4.alloc _) ⟨W8.heap.size,0,none⟩ 1 1 [.slice qa qm qc,.slice (some ⟨KB,0,none⟩) 1 1] rfl rfl (nK (cs:=#[.slice qa qm qc,.slice (some ⟨KB,0,none⟩) 1 1]) (t:=49) (fr:=(0,0)) (nG W8 _)) oC oM uM oM sI (W8.heap.size+1) sI ?_;intro gg aC w5 aK ao bf gT;have gA:=HF.o gg (m+1) aC w5 _ aK ((ae.refl _ _).alloc _) ao (bf.imp id (λ h=>oM));obtain⟨aH,lB,bi⟩:=gA;have aH:=(show af w5 N [.int .i64 10,false,eS,.slice (some ⟨NW,0,none⟩) 1 1,(),(),(),.slice la m lc] from aH);obtain⟨⟨z0,z1,z2,z3,z4,z5,z6,z7⟩,⟨gO,gP,ib,ic,ie,ig,ii,ij⟩⟩:=aH.eight;have qy:=aH.lt;have HG:=Hd (show QR (λ_=>False) gb w (w5.setCell ⟨N,7,none⟩ (.slice (some ⟨gg,0,none⟩) (m+1) aC)) Lo B ps tv n T (w.heap.size+1) N [.int .i64 0,false,eS,(),(),(),(),()] [.int 10,.bool false,.str [],.sl 1 [aB wd],.sl 2 [],.sl 2 [],.sl 8 []] [] [.int .i64 10,false,eS,.slice (some ⟨NW,0,none⟩) 1 1,(),(),()] [] 2 49 jb xb (m+1) (some ⟨gg,0,none⟩) aC (acc++[.sl 1 iV,.sl 8 db]) from lB);clear aH lB bi;clear aK ao bf)
       obtain⟨wp,Jn⟩:∃wp,wp=w5.setCell ⟨N,7,none⟩ (.slice (some ⟨gg,0,none⟩) (m+1) aC):=⟨_,rfl⟩;rw [←Jn];rw [←Jn] at HG;clear Jn z0 z1 z2 z3 z4 z5 z6 z7 n0 n1 Jy Jz AA He fR qy
       try clear gO gP ib ic ie ig ii ij
       clear u0 u1 u2 u3 u4 u5 u6 u7 E1 E2 E3 E4 E5 E6 E7 E8;cases ho:aj [59,59] (T.drop jb) with
       | true=>
        have HO:=Hd ho;have uy:=bL (dA ho);have X2:IntKind.i64.wrap ((jb:Int)+1)=(jb:Int)+1:=nL _ oM;have HQ:=Hd (aY HG.o.rs [59,59] true ho 0);clear ho;go_wp2_with fail;refine HQ.o.mono ?_;rintro e wq ⟨rfl,dq,rfl⟩;obtain⟨Bb,aQ⟩:∃Bb,Bb=wp.drewN dq:=⟨_,rfl⟩;rw [←aQ];have aZ:K0 wp Bb:=by rw [aQ];exact (ae.refl _ _).drewN _
        replace HG:=Hd (HG.o.keep0 aZ);clear aQ aZ;obtain⟨c0,c1,c2,f1,f2⟩:=HG.o.rs.cells;have aW:=HG.o.rs.lt;go_wp2_with fail;obtain⟨Uk,aQ⟩:∃Uk,Uk=Bb.setCell ⟨ps,1,none⟩ (.int .i64 ((jb:Int)+1)):=⟨_,rfl⟩;rw [←aQ];obtain⟨kY,mZ⟩:=eE HG.o.rs oM;rw [←aQ] at kY mZ;replace HG:=Hd (HG.o.move bA.o (nM _) gE.o mZ kY);clear aQ mZ kY;clear c0 c1 c2 f1 f2 aW
        refine (de Uk Lo B ps n (jb+1) xb tv T HG.o.rs).mono ?_;rintro e wq3 ⟨rfl,I3,uK,hl2,qB,sC,kD,iE⟩;replace HG:=Hd (HG.o.move bA.o (nM _) gE.o iE kD);have Xd:I3≤T.length:=hl2 oM;have Nt:=Hd uK;have Ph:=Hd (show CA gb K wd (acc++[.sl 1 iV,.sl 8 db]) T I3 xb res from by
         rcases M8.o with ⟨g,h0,_,hr⟩ | ⟨h0,hr⟩ | ⟨_,ho9,_⟩
         ·exact Qv
         ·exact .inr ⟨h0,hr⟩
         ·rw [lQ ho9 [59,59] dC] at HO;cases HO.o)
        clear uK hl2 qB sC kD iE;go_wp2_with fail;by_cases TQ:xb=0
        ·go_roundg (T.length+2000 - I3)
         case measure=>have:=fK.o;have:=xH.o;have:=Nt.o;omega
         case rel=>exact⟨gb,I3,xb,m+1,_,_,_,.inl ⟨TQ,rfl⟩,by have:=xH.o;have:=Nt.o;omega,oM,λ_=>by have:=xH.o;have:=Nt.o;omega,HG,Ph⟩
        ·go_roundg 0
         case measure=>have:=fK.o;omega
         case rel=>exact⟨gb,I3,xb,m+1,_,_,_,.inr ⟨TQ,rfl⟩,by have:=xH.o;have:=Nt.o;omega,oM,λ h=>nQ h TQ,HG,Ph⟩
       | false=>
        have HO:=Hd ho;have HQ:=Hd (aY HG.o.rs [59,59] false ho 0);clear ho;go_wp2_with fail;refine HQ.o.mono ?_;rintro e wq ⟨rfl,dq,rfl⟩;obtain⟨Bb,aQ⟩:∃Bb,Bb=wp.drewN dq:=⟨_,rfl⟩;rw [←aQ];have aZ:K0 wp Bb:=by rw [aQ];exact (ae.refl _ _).drewN _
        replace HG:=Hd (HG.o.keep0 aZ);clear aQ aZ;go_upto_region 29 with fail;obtain⟨la,rk⟩:∃Cd,Cd=(some ⟨gg,0,none⟩:OA):=⟨_,rfl⟩;obtain⟨m9,XP⟩:∃m9,m9=m+1:=⟨_,rfl⟩;rw [←rk,←XP] at HG;clear rk XP;obtain⟨xe,i8⟩:∃xe,xe=if xb=0 then (if aF [101,115,97,99] (T.drop jb) then 0 else 2) else xb:=⟨_,rfl⟩;have I1:=Hd ((λ i8=>rH (ds:=cE 10 false [] [aB wd] [] [] [] (acc++[.sl 1 iV,.sl 8 db])) M8.o i8 (λ h=>⟨λ hw=>by rw [h,F6 HO.o hw],λ hw=>by rw [h,F7 HO.o hw]⟩)) i8)
        have sz:=Hd i8;have fv:=Hd (show i≤jb+1∧jb+1≤T.length+(2*K+2) by have:=xH.o;have:=Yw.o;omega);have hI9:jb+1≤T.length+900:=by have:=fv.o;have:=HD.o;omega
        clear i8;go_wp2_with fail;refine (eL Bb Lo B ps n jb xb tv T [101,115,97,99] HG.o.rs oM).mono ?_;rintro e wz ⟨rfl,ek,kg⟩;have ek:=(show QS wz Lo B ps tv n T (jb+1) xe by rw [sz.o];exact ek);replace HG:=Hd (HG.o.move bA.o (nM _) gE.o kg ek);clear ek kg;obtain⟨⟨x0,x1,x2,x3,x4,x5,x6,x7⟩,⟨f8,gf,hC,hU,hV,hY,hZ,ia⟩⟩:=(show af wz N [.int .i64 10,false,eS,.slice (some ⟨NW,0,none⟩) 1 1,(),(),(),.slice la m9 aC] from HG.o.rc).eight
        have fR:=HG.o.rc.lt;have HF:=Hd (show QF false wz (λ b=>Qd Lo B w.heap.size b∧b≠w.heap.size) T res [.int .i64 10,false,eS,.slice (some ⟨NW,0,none⟩) 1 1,(),(),(),.slice la m9 aC] (jb+1) xe from o8 HG.o (nM _) bA.o (by rcases I1.o with ⟨g,h0,hj,hr⟩ | ⟨h0,hr⟩;exact .inl ⟨g,h0,hj,⟨_,_,_,_,_,_,_,_,rfl⟩,hr⟩;exact .inr λ_ _ _=>QF.err h0 hr))
        have HK:=Hd HG.o.kp;have HS:=Hd HG.o.rs;obtain⟨⟨z0,z1,z2,z3,z4,z5,z6,z7⟩,⟨gO,gP,ib,ic,ie,ig,ii,ij⟩⟩:=HG.o.zr.eight;have fT:=HG.o.zr.lt;go_wp2_with fail;refine nJ (v:=.agg #[.int .i64 10,false,eS,.slice (some ⟨NW,0,none⟩) 1 1,(),(),(),.slice la m9 aC]) (by simp [results,Tryz.results183,go_sem,z0,z1,z2,z3,z4,z5,z6,z7]) rfl ?_
        obtain⟨f1,f2,f3⟩:=cI HK.o HS.o bA.o HF.o (ap wz w.heap.size (.int .i64 10) (.bool false) (.string ⟨#[]⟩) (.slice (some ⟨NW,0,none⟩) 1 1) (.slice none 0 0) (.slice none 0 0) (.slice none 0 0) (.slice la m9 aC));exact⟨⟨10,false,⟨#[]⟩,some ⟨NW,0,none⟩,1,1,none,0,0,none,0,0,none,0,0,la,m9,aC⟩,(jb+1),xe,rfl,fv.o.1,fv.o.2,f1,f2,f3⟩
  ·have t:((x:Int)==0)=false:=by rw [nA];omega
   have M8:=Hd (show C6 gd False T I x res from by
    rcases eI.o with ⟨_,h9,_⟩ | h
    ·exact nQ h9 hx
    ·exact .inr (.inl h))
   clear hx eI;go_upto_region 29 with fail;clear c0 c1 c2 f1 f2 aW;obtain⟨xe,i8⟩:∃xe,xe=if x=0 then (if aF [101,115,97,99] (T.drop I) then 0 else 2) else x:=⟨_,rfl⟩;have I1:=Hd ((λ i8=>rH (ds:=cE 10 false [] [aB wd] [] [] [] acc) M8.o i8 (λ h=>h.elim)) i8);have sz:=Hd i8;have fv:=Hd (show i≤I+1∧I+1≤T.length+(2*K+2) by omega);have hI9:I+1≤T.length+900:=by have:=fv.o;have:=HD.o;omega
   clear i8;go_wp2_with fail;refine (eL wr Lo B ps n I x tv T [101,115,97,99] HG.o.rs oM).mono ?_;exact V0
end Go.Proofs.YtiihpbccabeoeaaGreatDoor
