/- The walk: a part. -/
import Derived.Test.YtiihpbccabeoeaaGreatDoorVM
import Derived.Test.YtiihpbccabeoeaaGreatDoorVPxX
namespace Go.Proofs.YtiihpbccabeoeaaGreatDoor
open Go.RowKit
set_option linter.unusedVariables false
set_option maxRecDepth 100000
set_option maxHeartbeats 16000000
theorem MI {G:Prop} {w wr:World} {Lo B ps:Nat} {tv:Value} {n:Nat} {T:List Tk} {X N I x:Nat} {wa:OA} {wm wc:Nat} {ws:List Dt} {ga:OA} {gm gc:Nat} {gs:List Dt} {ra:OA} {rm rc:Nat} {rd:List Dt} {res:PR (List Dt)}
 (h:SQ G w wr Lo B ps tv n T X N I x wa wm wc ws ga gm gc gs ra rm rc rd) (hX:w.heap.size<X) (Hg:ps<w.heap.size)
 (hq:(G∧x=0∧I≤T.length∧res=.ok (cE 1 false [] ws gs rd [] [],T.drop I))∨(∀w D us,QF false w D T res us I x)) :
 QF false wr (λ b=>Qd Lo B w.heap.size b∧b≠w.heap.size) T res [.int .i64 1,false,eS,.slice wa wm wc,.slice ga gm gc,.slice ra rm rc,(),()] I x:=by
 rcases hq with ⟨g,hx,hI,hr⟩ | hq
 ·have hB:=h.rs.ps;exact QF.good hr hx ⟨_,_,_,_,_,_,_,_,rfl⟩ ((h.all g).mono (λ b _ hb=>by rcases hb with h | h;exact⟨.inl h,oM⟩;exact⟨.inr oM,oM⟩)) rfl hI
 ·exact hq _ _ _
theorem SQ.wlen {G:Prop} {w wr:World} {Lo B ps:Nat} {tv:Value} {n:Nat} {T:List Tk} {X N I x:Nat} {wa:OA} {wm wc:Nat} {ws:List Dt} {ga:OA} {gm gc:Nat} {gs:List Dt} {ra:OA} {rm rc:Nat} {rd:List Dt}
 (h:SQ G w wr Lo B ps tv n T X N I x wa wm wc ws ga gm gc gs ra rm rc rd) (g:G):ws.length=wm:=by
 obtain⟨xs,h1,h2⟩:=h.o1;rw [←(h1 g).len];have:=h2.1;omega
theorem EK {scr:Bs→Except Nat Unit} {n:Nat} {acc:List Dt} {ts:List Tk} {d:List Dt} {r:List Tk} (h:bP ts=true) (hr:bm scr n acc ts=.ok (d,r)):r.length+1≤ts.length:=by
 cases n with
 | zero=>cases hr
 | succ n=>
  rw [kH,h,nE rfl] at hr;cases hq:dN scr ts with
  | error e=>rw [hq] at hr;cases hr
  | ok p=>
   obtain⟨d1,r1⟩:=p;rw [hq] at hr;have h1:=iu hq;have h2:=qP _ _ _ _ _ hr;omega
def SS (K:Nat) (gd:Prop) (ws gs rd:List Dt) (T:List Tk) (I:Nat) (res:PR (List Dt)):Prop:=gd∧∃M,T.length - I+1≤M∧res=bj (av (ab K)) M ws gs rd (T.drop I)
theorem Cm {w:World} {Ty:TypeId} {k:Nat} {a:OA} {m c:Nat} {xs:List Value} (h:w.ownsRow 0 Ty k (.slice a m c) m xs) (hm:0<m):∃g,a=some ⟨g,0,none⟩∧∀j u,xs[j]? = some u→w.cell? ((⟨g,0,none⟩:Addr).add j)=some u:=by
 obtain⟨g,aC,e,_,_⟩:=h.form hm;injection e with e1 e2 e3;subst e1;refine⟨g,rfl,λ j u hu=>?_⟩;have hj:=(List.getElem?_eq_some_iff.1 hu).1;rw [Addr.add_lit,Nat.zero_add,h.cellAt j (by rw [←h.1];exact hj)];exact hu
theorem Cw (K:Nat) (cR:iK K) (w:World) (Lo B ps n i aN:Nat) (tv:Value) (T:List Tk) (h:QS w Lo B ps tv n T i 0) (hi:i≤T.length) (hd:aN+1+K=41) :
 Calls Tryz.prog 166 #[.pointer (some ⟨ps,0,none⟩),.int .i64 (aN:Nat)] w (iw w Lo B ps tv n T i 0 false (bj (av (ab K)) ((T.drop i).length+1) [] [] [] (T.drop i))):=by
 obtain⟨res,ag⟩:∃res,res=bj (av (ab K)) ((T.drop i).length+1) [] [] [] (T.drop i):=⟨_,rfl⟩;rw [←ag];rw [nI] at ag;have D7:Tryz.prog.cellsOf 29=1:=kR
 have tN:Tryz.prog.cellsOf 86=2:=kR
 have Jd:Tryz.prog.cellsOf 84=2:=kR
 have ov:=aT;have Lw:(Tryz.prog.info? 86).map (λ i=>(i.zero,i.size,i.bytes))=some (some (.agg #[eS,()]),2,40):=kR
 have Xz:(Tryz.prog.info? 84).map (λ i=>(i.zero,i.size,i.bytes))=some (some (.agg #[eS,()]),2,40):=kR
 obtain⟨i0,fo,fC,fp,fq⟩:=info_parts Lw;obtain⟨i1,iP,hy0,Da,qG⟩:=info_parts Xz;have AF:(Tryz.prog.info? 29).map (λ i=>(i.zero,i.size,i.bytes))=some (some (.slice none 0 0),1,24):=kR
 obtain⟨i2,fm,Hn,xP,pX⟩:=info_parts AF;have ay:=Hd ag;have cK:=Hd cR;have HD:=Hd hd;have bA:=Hd h.lt;have AK:T.length≤20000:=h.sm.1;have HS:=Lib.hid h;clear ag cR h Lw Xz AF hd;go_enter Tryz.func166,Tryz.ntmps166;go_wp2_with fail;obtain⟨N,hN⟩:∃N,N=w.heap.size+1:=⟨_,rfl⟩;obtain⟨W,hW⟩:∃W,W=(w.alloc (.cells #[.int .i64 0,false,eS,(),(),(),(),()] 44)).alloc (.cells #[.int .i64 1,false,eS,(),(),(),(),()] 44):=⟨_,rfl⟩
 have dt:K0 w W:=by rw [hW];exact ((ae.refl _ _).alloc _).alloc _
 have iD:=Hd (show SQ True w W Lo B ps tv n T (w.heap.size+1) N i 0 none 0 0 [] none 0 0 [] none 0 0 [] from⟨HS.o.keep0 dt,dt.mono (λ_ _ h=>h.elim),by rw [hW];exact (aD w _ _ _ _ _ _ _ _ _).keep (S:=λ_=>False) ((ae.refl _ _).alloc _) (λ h=>h),by rw [hW,hN];have h9:=aD (w.alloc (.cells #[.int .i64 0,false,eS,(),(),(),(),()] 44)) (.int .i64 1) (.bool false) (.string ⟨#[]⟩) (.slice none 0 0) (.slice none 0 0) (.slice none 0 0) (.slice none 0 0) (.slice none 0 0) 44;simpa using h9,ls.nil _ _ _ _ _,ls.nil _ _ _ _ _,ls.nil _ _ _ _ _,λ g hg=>(by cases hg),λ g hg=>(by cases hg),λ g hg=>(by cases hg)⟩)
 try rw [←hW]
 try rw [←hN]
 have gE:=Hd (show w.heap.size<N by omega);have qk:=Hd hN;have VL:=Hd hW;clear dt hW hN HS
 try go_wp2_with fail
 try rw [←VL.o]
 try rw [←qk.o]
 clear VL;go_loopg [] (T.length+2000 - i) (λ g wr=>∃(gd:Prop) (I x:Nat) (wa:OA) (wm wc:Nat) (ws:List Dt) (ga:OA) (gm gc:Nat) (gs:List Dt) (ra:OA) (rm rc:Nat) (rd:List Dt),i≤I∧I≤T.length∧Hid (SQ gd w wr Lo B ps tv n T (w.heap.size+1) N I x wa wm wc ws ga gm gc gs ra rm rc rd)∧((x=0∧g=T.length+2000 - I∧wm≤I∧gm≤I∧rm≤I*20001∧Hid (SS K gd ws gs rd T I res))∨(x≠0∧g=0∧Hid (res=.error x))))
 case atStart=>exact⟨True,i,0,none,0,0,[],none,0,0,[],none,0,0,[],nC _,hi,iD,.inl ⟨rfl,rfl,nB _,nB _,nB _,Hd ⟨trivial,_,nC _,ay.o⟩⟩⟩
 case round=>
  clear iD ay;obtain⟨gd,I,x,wa,wm,wc,ws,ga,gm,gc,gs,ra,rm,rc,rd,mI,p8,HG,⟨rfl,eH,hmw,XO,hmr,eI⟩ | ⟨hx,eH,eI⟩⟩:=hrel
  ·have fK:=Hd eH;obtain⟨g,M,hM,hr⟩:=eI.o;obtain⟨M,rfl⟩:∃M',M=M'+1:=⟨M - 1,oM⟩;have sq:=Hd g;have HR:=Hd hr;clear eH hr g eI;obtain⟨c0,c1,c2,f1,f2⟩:=HG.o.rs.cells;have aW:=HG.o.rs.lt;cases hq:bP (T.drop I) with
   | true=>
    have HQ:=Hd (pI HG.o.rs true hq 0);have oD:=Hd hq;clear hq;go_wp2_with fail;refine HQ.o.mono ?_;rintro e wq ⟨rfl,dq,rfl⟩;obtain⟨wk,aQ⟩:∃wk,wk=wr.drewN dq:=⟨_,rfl⟩;rw [←aQ];have aZ:K0 wr wk:=by rw [aQ];exact (ae.refl _ _).drewN _
    replace HG:=Hd (HG.o.keep0 aZ);clear aQ aZ;clear c0 c1 c2 f1 f2 aW;have ek:=HG.o.ro.lt;have pR:=Hd (show w.heap.size+1≤wk.heap.size by have:=qk.o;omega);have gF:=Hd (show res=(match bm (av (ab K)) ((T.drop I).length+1) [] (T.drop I) with
     | .error e=>.error e
     | .ok (ds,r)=>bj (av (ab K)) (r.length+1) ws gs (rd++ds) r) by
     rw [HR.o];have h9:=o9 (scr:=(av (ab K))) ((T.drop I).length+1) (M+1) [] ws gs rd (T.drop I) (nM _) (by rw [nI];omega);rw [List.append_nil] at h9;exact h9)
    clear HR ek;have dv:=Hd (show ∀e w4,VO wk.drew Lo B ps tv n T I (bm (av (ab K)) ((T.drop I).length+1) [] (T.drop I)) e w4→∃(g2 m2 c2 j y:Nat) (ds:List Dt) (gd2:Prop) (xs ys:List Value),e=.returned (.slice (some ⟨g2,0,none⟩) m2 c2)∧(I≤j∧j≤T.length∧m2≤j∧0<m2∧((gd2∧y=0∧I+1≤j∧res=bj (av (ab K)) ((T.drop j).length+1) ws gs (rd++ds) (T.drop j))∨(y≠0∧res=.error y)))∧
     ys.length=m2*2∧(∀j u,ys[j]? = some u→w4.cell? ((⟨g2,0,none⟩:Addr).add j)=some u)∧(∀u∈ys,u.oneCell'=true)∧w4.ownsRow 0 86 2 (.slice ra rm rc) rm xs∧af w4 N [.int .i64 1,false,eS,.slice wa wm wc,.slice ga gm gc,.slice ra rm rc,(),()]∧
     (∀(gg m' aC:Nat) (w5 wo:World),w5.ownsRow 0 86 2 (.slice (some ⟨gg,0,none⟩) m' aC) m' (xs++ys)→K0 w4 wo→wo.grownBy w5 (Value.slice ra rm rc).ownBlock→((Value.slice ra rm rc).ownBlock=some gg∨w4.heap.size≤gg)→
      af w5 N [.int .i64 1,false,eS,.slice wa wm wc,.slice ga gm gc,.slice ra rm rc,(),()]∧SQ gd2 w (w5.setCell ⟨N,5,none⟩ (.slice (some ⟨gg,0,none⟩) m' aC)) Lo B ps tv n T (w.heap.size+1) N j y wa wm wc ws ga gm gc gs (some ⟨gg,0,none⟩) m' aC (rd++ds)) from λ e w4 hp=>by
     obtain⟨gd2,a2,m2,c2,j,y,ds,rfl,ku,hj2,hmj,Rt,hQ,⟨zs,fp,fq⟩,fB⟩:=hp;have hm:=Rt oD.o;obtain⟨ys,Da,qG⟩:=hQ.own;obtain⟨g2,rfl,Zi⟩:=Cm qG hm;have aZ:ae (λ b=>b=ps) wk w4:=(ae.refl (λ b=>b=ps) wk).drew.trans hQ.kp k3;obtain⟨xs,ho,cQ,hF⟩:=HG.o.moreR (G':=gd2) (y:=y) (J:=j) (us:=ys) (d2:=ds) bA.o (nM _) gE.o pR.o aZ hQ.rs (λ_=>sq.o) (λ g=>(Da g).mono (λ b _ hb=>by rcases hb.1 with h | h;exact .inl h;exact .inr (by simpa using h)))
     refine⟨g2,m2,c2,j,y,ds,gd2,xs,ys,rfl,⟨ku,hj2,hmj,hm,?_⟩,qG.1,Zi,by rw [zg qG fp];exact fq,ho,cQ,hF⟩;rcases fB with ⟨g,h0,hr⟩ | ⟨h0,hr⟩
     ·refine .inl ⟨g,h0,?_,by rw [gF.o,hr]⟩;have bS:=EK oD.o hr;rw [nI,nI] at bS;omega
     ·exact .inr ⟨h0,by rw [gF.o,hr]⟩)
    have acG:=HG.o.ro.lt;obtain⟨⟨x0,x1,x2,x3,x4,x5,x6,x7⟩,⟨f8,gf,hC,hU,hV,hY,hZ,ia⟩⟩:=HG.o.ro.eight;clear gF;go_wp2_with fail;go_region_law (first
     | (
      refine kr rF _ _ _ rF 0 86 i0 _ 2 40 Tryz.underlying41 fo fC fp fq rfl oM (.slice ra rm rc) rm xs rF hown4 ⟨g2,0,none⟩ m2 c2 ys rF HYL.o HYC.o HY1.o uM oM oM ?_;intro va vc w5 rP ao bf;obtain⟨gg,rfl,_⟩:=Cm rP oM;obtain⟨aH,gA⟩:=HF.o gg (rm+m2) vc w5 _ rP (ae.refl _ _) ao (by rcases bf with h | h;exact .inl h.symm;exact .inr (by have h9:gg=w4.heap.size:=nD h;omega))
      obtain⟨⟨z0,z1,z2,z3,z4,z5,z6,z7⟩,⟨gO,gP,ib,ic,ie,ig,ii,ij⟩⟩:=aH.eight;have qy:=aH.lt;have fc:=Hd gA;clear aH gA rP ao bf)
     | (go_simp;go_at_call 164;refine (t8 K cK.o _ Lo B ps n I aN tv T HD.o (HG.o.rs.keep0 (ae.refl _ _).drew) p8).mono ?_;intro e w4 hp;obtain⟨g2,m2,c2,j,y,ds,gd2,xs,ys,he,mc,Hp,Zi,Da,hown4,aL,hF⟩:=dv.o e w4 hp;subst he;obtain⟨⟨y0,y1,y2,y3,y4,y5,y6,y7⟩,⟨JC,JD,MW,MX,MY,MZ,M0,M1⟩⟩:=aL.eight;have Jc:=aL.lt;have HF:=Hd hF;obtain⟨Lr,FJ,YX,hJ0,mc⟩:=mc;have kJ:=Hd mc;have HYL:=Hd Hp;have HYC:=Hd Zi;have HY1:=Hd Da;clear hp hF mc aL Hp Zi Da))
    all_goals
     go_wp2_with fail;rcases kJ.o with ⟨g,h1,h2,hr⟩ | ⟨h1,hr⟩
     ·go_roundg (T.length+2000 - j)
      case measure=>have:=fK.o;omega
      case rel=>exact⟨gd2,j,y,wa,wm,wc,ws,ga,gm,gc,gs,_,rm+m2,_,rd++ds,oM,FJ,fc,.inl ⟨h1,rfl,oM,oM,oM,Hd ⟨g,_,by rw [nI];omega,hr⟩⟩⟩
     ·go_roundg 0
      case measure=>have:=fK.o;omega
      case rel=>exact⟨gd2,j,y,wa,wm,wc,ws,ga,gm,gc,gs,_,rm+m2,_,rd++ds,oM,FJ,fc,.inr ⟨h1,rfl,Hd hr⟩⟩
   | false=>
    have HQ:=Hd (pI HG.o.rs false hq 0);have oD:=Hd hq;clear hq;cases hk:((ch (T.drop I)).kind==1) with
    | false=>
     have je:=Hd (λ q=>ll HG.o.rs false hk q);have gR:=Hd (show res=.ok (cE 1 false [] ws gs rd [] [],T.drop I) by rw [HR.o,fH,oD.o,nF sI,hk,nF sI]);clear hk;go_wp2_with fail;refine HQ.o.mono ?_;rintro e wq ⟨rfl,dq,rfl⟩;go_wp2_with fail;refine (je.o dq).mono ?_;rintro e wq ⟨rfl,DV,rfl⟩;obtain⟨wf,qF⟩:∃wf,wf=wr.drewN DV:=⟨_,rfl⟩;rw [←qF];replace HG:=Hd (HG.o.keep0 (show K0 wr wf by rw [qF];exact (ae.refl _ _).drewN _))
     clear qF c0 c1 c2 f1 f2 aW;obtain⟨⟨x0,x1,x2,x3,x4,x5,x6,x7⟩,⟨f8,gf,hC,hU,hV,hY,hZ,ia⟩⟩:=HG.o.ro.eight;have fR:=HG.o.ro.lt;have HF:=Hd (show QF false wf (λ b=>Qd Lo B w.heap.size b∧b≠w.heap.size) T res [.int .i64 1,false,eS,.slice wa wm wc,.slice ga gm gc,.slice ra rm rc,(),()] I 0 from MI HG.o (nM _) bA.o (.inl ⟨sq.o,rfl,p8,gR.o⟩))
     have HK:=Hd HG.o.kp;have HS:=Hd HG.o.rs;obtain⟨⟨z0,z1,z2,z3,z4,z5,z6,z7⟩,⟨gO,gP,ib,ic,ie,ig,ii,ij⟩⟩:=HG.o.zr.eight;have fT:=HG.o.zr.lt;go_wp2_with fail;refine nJ (v:=.agg #[.int .i64 1,false,eS,.slice wa wm wc,.slice ga gm gc,.slice ra rm rc,(),()]) (by simp [results,Tryz.results166,go_sem,z0,z1,z2,z3,z4,z5,z6,z7]) rfl ?_;obtain⟨f1,f2,f3⟩:=cI HK.o HS.o bA.o HF.o (ap wf w.heap.size (.int .i64 1) (.bool false) (.string ⟨#[]⟩) (.slice wa wm wc) (.slice ga gm gc) (.slice ra rm rc) (.slice none 0 0) (.slice none 0 0))
     exact⟨⟨1,false,⟨#[]⟩,wa,wm,wc,ga,gm,gc,ra,rm,rc,none,0,0,none,0,0⟩,I,0,rfl,mI,oM,f1,f2,f3⟩
    | true=>
     have je:=Hd (λ q=>ll HG.o.rs true hk q);have fa:=bL (o4 hk);have gF:=Hd (show res=(match ca (av (ab K)) (T.drop I) with
      | .error e=>.error e
      | .ok (w,r)=>match (if ws.isEmpty then dw w else none) with
       | some (nm,v)=>bj (av (ab K)) M ws (gs++[.str nm,aB v]) rd r
       | none=>bj (av (ab K)) M (ws++[aB w]) gs rd r) by 
      rw [HR.o,fH,oD.o,nF sI,hk,nE rfl];cases ca (av (ab K)) (T.drop I) with
      | error e=>rfl
      | ok p=>
       obtain⟨w9,r9⟩:=p;dsimp only;cases (if ws.isEmpty=true then dw w9 else none)<;>rfl)
     clear hk HR;go_wp2_with fail;refine HQ.o.mono ?_;rintro e wq ⟨rfl,dq,rfl⟩;go_wp2_with fail;refine (je.o dq).mono ?_;rintro e wq ⟨rfl,DV,rfl⟩;obtain⟨wk,TO⟩:∃wk,wk=wr.drewN DV:=⟨_,rfl⟩;rw [←TO];replace HG:=Hd (HG.o.keep0 (show K0 wr wk by rw [TO];exact (ae.refl _ _).drewN _));clear TO c0 c1 c2 f1 f2 aW;go_wp2_with fail;refine (kM K cK.o wk Lo B ps n I aN tv T HD.o HG.o.rs).mono ?_
     rintro e w3 ⟨wd,ta,tc,j,y,rfl,iH,gM,ku,hj2,d6,aV,fB⟩;have yi:=hj2 p8;have Bg:=Hd fB;have M7:=Hd aV;have zU:=Hd iH;have Xg:=HG.o.ro.lt;have pR:=Hd (show w.heap.size+1≤wk.heap.size by have:=qk.o;omega);have eF:=Hd d6;have Uo:=Hd ku;clear fB aV d6 ku hj2;go_wp2_with fail;refine (Cq w3 n (λ b=>Lo≤b∧b<B) wd ta tc iH gM).mono ?_;intro e JB hp;cases FL:dw wd with
     | none=>
      rw [FL] at hp;obtain⟨rfl,kf⟩:=hp;have Nr:=Hd FL;have ur:=Hd kf;clear kf FL iH gM;go_upto_region 9 with fail;obtain⟨NA,xL⟩:∃NA,NA=JB.heap.size:=⟨_,rfl⟩;obtain⟨w4,fU⟩:∃w4,w4=JB.alloc (.cells #[eS,()] 84):=⟨_,rfl⟩;rw [←fU]
      try rw [←xL]
      have be:K0 JB w4:=by rw [fU];exact (ae.refl _ _).alloc _
      have AD:af w4 NA [eS,()]:=by rw [fU,xL];exact⟨_,nG JB _⟩
      have kf:=ur.o.trans be k3;have bp:=M7.o.trans kf (λ_ _ h=>h.elim);obtain⟨wl,iZ⟩:∃wl,wl=wd.length:=⟨_,rfl⟩;have Uv:=Hd iZ
      try rw [←iZ]
      obtain⟨xs,hown4,aL,hF⟩:=HG.o.moreW (G':=True) (y:=y) (J:=j) (us:=[.slice ta wl tc]) (d2:=[aB wd]) bA.o (nM _) gE.o pR.o bp (eF.o.keep0 kf) (λ_=>sq.o) (λ_=>(by rw [iZ];exact⟨(gv (zU.o.keep kf (λ_ _ _ h=>h))).mono (λ b _ hb=>.inl hb),trivial⟩));have HF:=Hd hF;obtain⟨⟨x0,x1,x2,x3,x4,x5,x6,x7⟩,⟨f8,gf,hC,hU,hV,hY,hZ,ia⟩⟩:=aL.eight
      obtain⟨⟨n0,n1⟩,Jy,Jz⟩:=AD.two;have fR:=aL.lt;have AA:=AD.lt;have cM:N≠NA:=by have:=bp.size;have:=M7.o.size;have:=ur.o.size;omega
      have Hi:NA+1=w4.heap.size:=by rw [fU,xL];simp
      have Nv:=Hd (show (y=0∧j=I+1∧res=bj (av (ab K)) M (ws++[aB wd]) gs rd (T.drop (I+1)))∨(y≠0∧res=.error y) from by
       rcases Bg.o with ⟨h1,h2,_,hw⟩ | ⟨h1,hw⟩
       ·refine .inl ⟨h1,h2,?_⟩;rw [gF.o,hw];dsimp only;rw [show (if ws.isEmpty=true then dw wd else none)=none by rw [Nr.o];cases ws.isEmpty<;>rfl]
        try rfl
       ·exact .inr ⟨h1,by rw [gF.o,hw]⟩)
      clear hF aL AD be kf bp fU xL Xg iZ;exact V1
     | some nv=>
      obtain⟨nm,va⟩:=nv;rw [FL] at hp;obtain⟨aa,ac,am,rfl,Rx,kf⟩:=hp;have Nr:=Hd FL;have ur:=Hd kf;have C3:=Hd Rx;clear kf FL Rx iH gM;by_cases Hk:wm=0
      ·have t1:((wm:Int)==0)=true:=by rw [nH];omega
       go_upto_region 9 with fail;obtain⟨NA,xL⟩:∃NA,NA=JB.heap.size:=⟨_,rfl⟩;obtain⟨w4,fU⟩:∃w4,w4=JB.alloc (.cells #[.string ⟨nm.toArray⟩,.slice aa va.length ac] 84):=⟨_,rfl⟩;rw [←fU]
       try rw [←xL]
       have be:K0 JB w4:=by rw [fU];exact (ae.refl _ _).alloc _
       have AD:af w4 NA [.string ⟨nm.toArray⟩,.slice aa va.length ac]:=by rw [fU,xL];exact⟨_,nG JB _⟩
       have kf:=ur.o.trans be k3;have bp:=M7.o.trans kf (λ_ _ h=>h.elim);obtain⟨wl,iZ⟩:∃wl,wl=wd.length:=⟨_,rfl⟩;have Uv:=Hd iZ
       try rw [←iZ]
       obtain⟨vl,nc⟩:∃vl,vl=va.length:=⟨_,rfl⟩
       try rw [←nc]
       rw [←nc] at AD;have XV:=C3.o;obtain⟨xs,hown4,aL,hF⟩:=HG.o.moreA (G':=True) (y:=y) (J:=j) (us:=[.string ⟨nm.toArray⟩,.slice aa vl ac]) (d2:=[.str nm,aB va]) bA.o (nM _) gE.o pR.o bp (eF.o.keep0 kf) (λ_=>sq.o) (λ_=>(by rw [nc];exact⟨.str _,(gv (XV.keep be (λ_ _ _ h=>h))).mono (λ b _ hb=>by rcases hb with h | h;exact .inl h;exact .inr (by have:=M7.o.size;omega)),trivial⟩))
       have HF:=Hd hF;obtain⟨⟨x0,x1,x2,x3,x4,x5,x6,x7⟩,⟨f8,gf,hC,hU,hV,hY,hZ,ia⟩⟩:=aL.eight;obtain⟨⟨n0,n1⟩,Jy,Jz⟩:=AD.two;have fR:=aL.lt;have AA:=AD.lt;have cM:N≠NA:=by have:=bp.size;have:=M7.o.size;have:=ur.o.size;omega
       have Hi:NA+1=w4.heap.size:=by rw [fU,xL];simp
       have Nv:=Hd (show (y=0∧j=I+1∧res=bj (av (ab K)) M ws (gs++[.str nm,aB va]) rd (T.drop (I+1)))∨(y≠0∧res=.error y) from by
        rcases Bg.o with ⟨h1,h2,_,hw⟩ | ⟨h1,hw⟩
        ·refine .inl ⟨h1,h2,?_⟩;rw [gF.o,hw];dsimp only;rw [nE (by have:=HG.o.wlen sq.o;rw [List.isEmpty_iff];exact nO oM),Nr.o]
         try rfl
        ·exact .inr ⟨h1,by rw [gF.o,hw]⟩)
       clear hF aL AD be kf bp fU xL Xg XV iZ nc;go_wp2_with (at_builtin;refine nR _ rfl (.tmp 44) (.tmp 46) _ rfl 0 84 i1 _ 2 40 Tryz.underlying40 iP hy0 Da qG rfl oM (.slice ga gm gc) gm xs rfl (hown4.alloc _) ⟨w4.heap.size,0,none⟩ 1 1 [.string ⟨nm.toArray⟩,.slice aa vl ac] rfl rfl (nK (cs:=#[.string ⟨nm.toArray⟩,.slice aa vl ac]) (t:=84) (fr:=(0,0)) (nG w4 _)) oC oM uM oM sI (w4.heap.size+1) sI ?_;intro gg aC w5 aK ao bf gT;have gA:=HF.o gg (gm+1) aC w5 _ aK ((ae.refl _ _).alloc _) ao (bf.imp id (λ h=>oM));obtain⟨aH,lB⟩:=gA;have aH:=(show af w5 N [.int .i64 1,false,eS,.slice wa wm wc,.slice ga gm gc,.slice ra rm rc,(),()] from aH);obtain⟨⟨z0,z1,z2,z3,z4,z5,z6,z7⟩,⟨gO,gP,ib,ic,ie,ig,ii,ij⟩⟩:=aH.eight;have qy:=aH.lt;have fc:=Hd (show SQ True w (w5.setCell ⟨N,4,none⟩ (.slice (some ⟨gg,0,none⟩) (gm+1) aC)) Lo B ps tv n T (w.heap.size+1) N j y wa wm wc ws (some ⟨gg,0,none⟩) (gm+1) aC (gs++[.str nm,aB va]) ra rm rc rd from lB);clear aH lB;clear aK ao bf)
       rcases Nv.o with ⟨h1,h2,hr⟩ | ⟨h1,hr⟩
       ·go_roundg (T.length+2000 - j)
        case measure=>have:=fK.o;omega
        case rel=>exact⟨True,j,y,wa,wm,wc,ws,_,gm+1,_,_,ra,rm,rc,rd,oM,yi,fc,.inl ⟨h1,rfl,oM,oM,oM,Hd ⟨trivial,M,oM,by rw [h2];exact hr⟩⟩⟩
       ·go_roundg 0
        case measure=>have:=fK.o;omega
        case rel=>exact⟨True,j,y,wa,wm,wc,ws,_,gm+1,_,_,ra,rm,rc,rd,by have:=Uo.o;omega,yi,fc,.inr ⟨h1,rfl,Hd hr⟩⟩
      ·have t1:((wm:Int)==0)=false:=by rw [nA];omega
       go_upto_region 9 with fail;obtain⟨NA,xL⟩:∃NA,NA=JB.heap.size:=⟨_,rfl⟩;obtain⟨w4,fU⟩:∃w4,w4=JB.alloc (.cells #[.string ⟨nm.toArray⟩,.slice aa va.length ac] 84):=⟨_,rfl⟩;rw [←fU]
       try rw [←xL]
       have be:K0 JB w4:=by rw [fU];exact (ae.refl _ _).alloc _
       have AD:af w4 NA [.string ⟨nm.toArray⟩,.slice aa va.length ac]:=by rw [fU,xL];exact⟨_,nG JB _⟩
       have kf:=ur.o.trans be k3;have bp:=M7.o.trans kf (λ_ _ h=>h.elim);obtain⟨wl,iZ⟩:∃wl,wl=wd.length:=⟨_,rfl⟩;have Uv:=Hd iZ
       try rw [←iZ]
       obtain⟨vl,nc⟩:∃vl,vl=va.length:=⟨_,rfl⟩
       try rw [←nc]
       rw [←nc] at AD;obtain⟨xs,hown4,aL,hF⟩:=HG.o.moreW (G':=True) (y:=y) (J:=j) (us:=[.slice ta wl tc]) (d2:=[aB wd]) bA.o (nM _) gE.o pR.o bp (eF.o.keep0 kf) (λ_=>sq.o) (λ_=>(by rw [iZ];exact⟨(gv (zU.o.keep kf (λ_ _ _ h=>h))).mono (λ b _ hb=>.inl hb),trivial⟩));have HF:=Hd hF;obtain⟨⟨x0,x1,x2,x3,x4,x5,x6,x7⟩,⟨f8,gf,hC,hU,hV,hY,hZ,ia⟩⟩:=aL.eight
       obtain⟨⟨n0,n1⟩,Jy,Jz⟩:=AD.two;have fR:=aL.lt;have AA:=AD.lt;have cM:N≠NA:=by have:=bp.size;have:=M7.o.size;have:=ur.o.size;omega
       have Hi:NA+1=w4.heap.size:=by rw [fU,xL];simp
       have Nv:=Hd (show (y=0∧j=I+1∧res=bj (av (ab K)) M (ws++[aB wd]) gs rd (T.drop (I+1)))∨(y≠0∧res=.error y) from by
        rcases Bg.o with ⟨h1,h2,_,hw⟩ | ⟨h1,hw⟩
        ·refine .inl ⟨h1,h2,?_⟩;rw [gF.o,hw];dsimp only;rw [show (if ws.isEmpty=true then dw wd else none)=none from nF (by have:=HG.o.wlen sq.o;rw [Bool.not_eq_true,List.isEmpty_eq_false_iff];intro e;rw [e] at this;exact Hk this.symm)]
         try rfl
        ·exact .inr ⟨h1,by rw [gF.o,hw]⟩)
       clear hF aL AD be kf bp fU xL Xg iZ nc;exact V1
  ·have t:((x:Int)==0)=false:=by rw [nA];omega
   obtain⟨c0,c1,c2,f1,f2⟩:=HG.o.rs.cells;have aW:=HG.o.rs.lt;have uo:=Hd (show ∀w D us,QF false w D T res us I x from λ_ _ _=>QF.err hx eI.o);clear hx eH eI;obtain⟨⟨x0,x1,x2,x3,x4,x5,x6,x7⟩,⟨f8,gf,hC,hU,hV,hY,hZ,ia⟩⟩:=HG.o.ro.eight;have fR:=HG.o.ro.lt;have HF:=Hd (show QF false wr (λ b=>Qd Lo B w.heap.size b∧b≠w.heap.size) T res [.int .i64 1,false,eS,.slice wa wm wc,.slice ga gm gc,.slice ra rm rc,(),()] I x from MI HG.o (nM _) bA.o (.inr uo.o))
   have HK:=Hd HG.o.kp;have HS:=Hd HG.o.rs;obtain⟨⟨z0,z1,z2,z3,z4,z5,z6,z7⟩,⟨gO,gP,ib,ic,ie,ig,ii,ij⟩⟩:=HG.o.zr.eight;have fT:=HG.o.zr.lt;go_wp2_with fail;refine nJ (v:=.agg #[.int .i64 1,false,eS,.slice wa wm wc,.slice ga gm gc,.slice ra rm rc,(),()]) (by simp [results,Tryz.results166,go_sem,z0,z1,z2,z3,z4,z5,z6,z7]) rfl ?_;obtain⟨f1,f2,f3⟩:=cI HK.o HS.o bA.o HF.o (ap wr w.heap.size (.int .i64 1) (.bool false) (.string ⟨#[]⟩) (.slice wa wm wc) (.slice ga gm gc) (.slice ra rm rc) (.slice none 0 0) (.slice none 0 0))
   exact⟨⟨1,false,⟨#[]⟩,wa,wm,wc,ga,gm,gc,ra,rm,rc,none,0,0,none,0,0⟩,I,x,rfl,mI,oM,f1,f2,f3⟩
end Go.Proofs.YtiihpbccabeoeaaGreatDoor
