/- The walk: a part. -/
import Derived.Test.YtiihpbccabeoeaaGreatDoorWPxX
namespace Go.Proofs.YtiihpbccabeoeaaGreatDoor
open Go.RowKit
set_option linter.unusedVariables false
set_option maxRecDepth 100000
set_option maxHeartbeats 16000000
theorem Mh {G:Prop} {w wr:World} {Lo B ps:Nat} {tv:Value} {n:Nat} {T:List Tk} {X N I x:Nat} {wa:OA} {wm wc:Nat} {ws:List Dt} {ga:OA} {gm gc:Nat} {gs:List Dt} {ra:OA} {rm rc:Nat} {rd:List Dt} {res:PR (List Dt)}
 (h:SQ G w wr Lo B ps tv n T X N I x wa wm wc ws ga gm gc gs ra rm rc rd) (hX:w.heap.size<X) (hps:ps<w.heap.size)
 (hq:(G∧x=0∧I≤T.length∧res=.ok (ndR 1 false [] ws gs rd [] [],T.drop I))∨(∀w D us,QF false w D T res us I x)) :
 QF false wr (fun b=>Qd Lo B w.heap.size b∧b≠w.heap.size) T res [.int .i64 1,.bool false,.string ⟨#[]⟩,.slice wa wm wc,.slice ga gm gc,.slice ra rm rc,.slice none 0 0,.slice none 0 0] I x:=by
 rcases hq with ⟨g,hx,hI,hr⟩ | hq
 ·have hB:=h.rs.ps;exact QF.good hr hx ⟨_,_,_,_,_,_,_,_,rfl⟩ ((h.all g).mono (fun b _ hb=>by rcases hb with h | h;exact⟨.inl h,by omega⟩;exact⟨.inr (by omega),by omega⟩)) rfl hI
 ·exact hq _ _ _
theorem SQ.wlen {G:Prop} {w wr:World} {Lo B ps:Nat} {tv:Value} {n:Nat} {T:List Tk} {X N I x:Nat} {wa:OA} {wm wc:Nat} {ws:List Dt} {ga:OA} {gm gc:Nat} {gs:List Dt} {ra:OA} {rm rc:Nat} {rd:List Dt}
 (h:SQ G w wr Lo B ps tv n T X N I x wa wm wc ws ga gm gc gs ra rm rc rd) (g:G):ws.length=wm:=by
 obtain⟨xs,h1,h2⟩:=h.o1;rw [←(h1 g).len];have:=h2.1;omega
theorem Ez {scr:Bs→Except Nat Unit} {n:Nat} {acc:List Dt} {ts:List Tk} {d:List Dt} {r:List Tk} (h:bX ts=true) (hr:cN scr n acc ts=.ok (d,r)):r.length+1≤ts.length:=by
 cases n with
 | zero=>cases hr
 | succ n=>
  rw [kB,h,if_pos rfl] at hr;cases hq:gZ scr ts with
  | error e=>rw [hq] at hr;cases hr
  | ok p=>
   obtain⟨d1,r1⟩:=p;rw [hq] at hr;have h1:=kU hq;have h2:=pT _ _ _ _ _ hr;omega
def SS (K:Nat) (gd:Prop) (ws gs rd:List Dt) (T:List Tk) (I:Nat) (res:PR (List Dt)):Prop:=gd∧∃M,T.length - I+1≤M∧res=bL (bC (aC K)) M ws gs rd (T.drop I)
theorem Bg {w:World} {Ty:TypeId} {k:Nat} {a:OA} {m c:Nat} {xs:List Value} (h:w.ownsRow 0 Ty k (.slice a m c) m xs) (hm:0<m):∃g,a=some ⟨g,0,none⟩∧∀j u,xs[j]? = some u→w.cell? ((⟨g,0,none⟩:Addr).add j)=some u:=by
 obtain⟨g,cap,e,_,_⟩:=h.form hm;injection e with e1 e2 e3;subst e1;refine⟨g,rfl,fun j u hu=>?_⟩;have hj:=(List.getElem?_eq_some_iff.1 hu).1;rw [Addr.add_lit,Nat.zero_add,h.cellAt j (by rw [←h.1];exact hj)];exact hu
theorem Bc (K:Nat) (hscr:iP K) (w:World) (Lo B ps n i deep:Nat) (tv:Value) (T:List Tk) (h:QS w Lo B ps tv n T i 0) (hi:i≤T.length) (hd:deep+1+K=41) :
 Calls Tryz.prog 166 #[.pointer (some ⟨ps,0,none⟩),.int .i64 (deep:Nat)] w (iJ w Lo B ps tv n T i 0 false (bL (bC (aC K)) ((T.drop i).length+1) [] [] [] (T.drop i))):=by
 obtain⟨res,hres⟩:∃res,res=bL (bC (aC K)) ((T.drop i).length+1) [] [] [] (T.drop i):=⟨_,rfl⟩;rw [←hres];rw [List.length_drop] at hres;have hc1:Tryz.prog.cellsOf 29=1:=by kernel_rfl
 have hc2:Tryz.prog.cellsOf 86=2:=by kernel_rfl
 have hc3:Tryz.prog.cellsOf 84=2:=by kernel_rfl
 have hc8:=bV;have hin0:(Tryz.prog.info? 86).map (fun i=>(i.zero,i.size,i.bytes))=some (some (.agg #[.string ⟨#[]⟩,.slice none 0 0]),2,40):=by kernel_rfl
 have hin1:(Tryz.prog.info? 84).map (fun i=>(i.zero,i.size,i.bytes))=some (some (.agg #[.string ⟨#[]⟩,.slice none 0 0]),2,40):=by kernel_rfl
 obtain⟨i0,hi0,hz0,hz1,hz2⟩:=info_parts hin0;obtain⟨i1,hi1,hy0,hy1,hy2⟩:=info_parts hin1;have hin2:(Tryz.prog.info? 29).map (fun i=>(i.zero,i.size,i.bytes))=some (some (.slice none 0 0),1,24):=by kernel_rfl
 obtain⟨i2,hi2,hx0,hx1,hx2⟩:=info_parts hin2;have HRES:=Hd hres;have HSC:=Hd hscr;have HD:=Hd hd;have HPS:=Hd h.lt;have hmT:T.length≤20000:=h.sm.1;have HS:=Lib.hid h;clear hres hscr h hin0 hin1 hin2 hd;go_enter Tryz.func166,Tryz.ntmps166;go_wp2_with fail;obtain⟨N,hN⟩:∃N,N=w.heap.size+1:=⟨_,rfl⟩;obtain⟨W,hW⟩:∃W,W=(w.alloc (.cells #[.int .i64 0,.bool false,.string ⟨#[]⟩,.slice none 0 0,.slice none 0 0,.slice none 0 0,.slice none 0 0,.slice none 0 0] 44)).alloc (.cells #[.int .i64 1,.bool false,.string ⟨#[]⟩,.slice none 0 0,.slice none 0 0,.slice none 0 0,.slice none 0 0,.slice none 0 0] 44):=⟨_,rfl⟩
 have hk0:K0 w W:=by rw [hW];exact ((aB.refl _ _).alloc _).alloc _
 have HG0:=Hd (show SQ True w W Lo B ps tv n T (w.heap.size+1) N i 0 none 0 0 [] none 0 0 [] none 0 0 [] from⟨HS.o.keep0 hk0,hk0.mono (fun _ _ h=>h.elim),by rw [hW];exact (aK w _ _ _ _ _ _ _ _ _).keep (S:=fun _=>False) ((aB.refl _ _).alloc _) (fun h=>h),by rw [hW,hN];have h9:=aK (w.alloc (.cells #[.int .i64 0,.bool false,.string ⟨#[]⟩,.slice none 0 0,.slice none 0 0,.slice none 0 0,.slice none 0 0,.slice none 0 0] 44)) (.int .i64 1) (.bool false) (.string ⟨#[]⟩) (.slice none 0 0) (.slice none 0 0) (.slice none 0 0) (.slice none 0 0) (.slice none 0 0) 44;simpa using h9,lE.nil _ _ _ _ _,lE.nil _ _ _ _ _,lE.nil _ _ _ _ _,fun g hg=>(by cases hg),fun g hg=>(by cases hg),fun g hg=>(by cases hg)⟩)
 try rw [←hW]
 try rw [←hN]
 have HNX:=Hd (show w.heap.size<N by omega);have HNE:=Hd hN;have HWW:=Hd hW;clear hk0 hW hN HS
 try go_wp2_with fail
 try rw [←HWW.o]
 try rw [←HNE.o]
 clear HWW;go_loopg [] (T.length+2000 - i) (fun g wr=>∃(gd:Prop) (I x:Nat) (wa:OA) (wm wc:Nat) (ws:List Dt) (ga:OA) (gm gc:Nat) (gs:List Dt) (ra:OA) (rm rc:Nat) (rd:List Dt),i≤I∧I≤T.length∧Hid (SQ gd w wr Lo B ps tv n T (w.heap.size+1) N I x wa wm wc ws ga gm gc gs ra rm rc rd)∧((x=0∧g=T.length+2000 - I∧wm≤I∧gm≤I∧rm≤I*20001∧Hid (SS K gd ws gs rd T I res))∨(x≠0∧g=0∧Hid (res=.error x))))
 case atStart=>exact⟨True,i,0,none,0,0,[],none,0,0,[],none,0,0,[],Nat.le_refl _,hi,HG0,.inl ⟨rfl,rfl,Nat.zero_le _,Nat.zero_le _,Nat.zero_le _,Hd ⟨trivial,_,Nat.le_refl _,HRES.o⟩⟩⟩
 case round=>
  clear HG0 HRES;obtain⟨gd,I,x,wa,wm,wc,ws,ga,gm,gc,gs,ra,rm,rc,rd,hiI,hIT,HG,⟨rfl,hgk,hmw,hmg,hmr,HST⟩ | ⟨hx,hgk,HST⟩⟩:=hrel
  ·have HGK:=Hd hgk;obtain⟨g,M,hM,hr⟩:=HST.o;obtain⟨M,rfl⟩:∃M',M=M'+1:=⟨M - 1,by omega⟩;have HG1:=Hd g;have HR:=Hd hr;clear hgk hr g HST;obtain⟨c0,c1,c2,f1,f2⟩:=HG.o.rs.cells;have hlt:=HG.o.rs.lt;cases hq:bX (T.drop I) with
   | true=>
    have HQ:=Hd (oU HG.o.rs true hq 0);have HRB:=Hd hq;clear hq;go_wp2_with fail;refine HQ.o.mono ?_;rintro e wq ⟨rfl,dq,rfl⟩;obtain⟨wk,hw2⟩:∃wk,wk=wr.drewN dq:=⟨_,rfl⟩;rw [←hw2];have hkw:K0 wr wk:=by rw [hw2];exact (aB.refl _ _).drewN _
    replace HG:=Hd (HG.o.keep0 hkw);clear hw2 hkw;clear c0 c1 c2 f1 f2 hlt;have hsz:=HG.o.ro.lt;have HXW:=Hd (show w.heap.size+1≤wk.heap.size by have:=HNE.o;omega);have HR2:=Hd (show res=(match cN (bC (aC K)) ((T.drop I).length+1) [] (T.drop I) with
     | .error e=>.error e
     | .ok (ds,r)=>bL (bC (aC K)) (r.length+1) ws gs (rd++ds) r) by
     rw [HR.o];have h9:=nW (scr:=(bC (aC K))) ((T.drop I).length+1) (M+1) [] ws gs rd (T.drop I) (Nat.lt_succ_self _) (by rw [List.length_drop];omega);rw [List.append_nil] at h9;exact h9)
    clear HR hsz;have HCALL:=Hd (show ∀e w4,Qs wk.drew Lo B ps tv n T I (cN (bC (aC K)) ((T.drop I).length+1) [] (T.drop I)) e w4→∃(g2 m2 c2 j y:Nat) (ds:List Dt) (gd2:Prop) (xs ys:List Value),e=.returned (.slice (some ⟨g2,0,none⟩) m2 c2)∧(I≤j∧j≤T.length∧m2≤j∧0<m2∧((gd2∧y=0∧I+1≤j∧res=bL (bC (aC K)) ((T.drop j).length+1) ws gs (rd++ds) (T.drop j))∨(y≠0∧res=.error y)))∧
     ys.length=m2*2∧(∀j u,ys[j]? = some u→w4.cell? ((⟨g2,0,none⟩:Addr).add j)=some u)∧(∀u∈ys,u.oneCell'=true)∧w4.ownsRow 0 86 2 (.slice ra rm rc) rm xs∧aH w4 N [.int .i64 1,.bool false,.string ⟨#[]⟩,.slice wa wm wc,.slice ga gm gc,.slice ra rm rc,.slice none 0 0,.slice none 0 0]∧
     (∀(gg m' cap:Nat) (w5 wo:World),w5.ownsRow 0 86 2 (.slice (some ⟨gg,0,none⟩) m' cap) m' (xs++ys)→K0 w4 wo→wo.grownBy w5 (Value.slice ra rm rc).ownBlock→((Value.slice ra rm rc).ownBlock=some gg∨w4.heap.size≤gg)→
      aH w5 N [.int .i64 1,.bool false,.string ⟨#[]⟩,.slice wa wm wc,.slice ga gm gc,.slice ra rm rc,.slice none 0 0,.slice none 0 0]∧SQ gd2 w (w5.setCell ⟨N,5,none⟩ (.slice (some ⟨gg,0,none⟩) m' cap)) Lo B ps tv n T (w.heap.size+1) N j y wa wm wc ws ga gm gc gs (some ⟨gg,0,none⟩) m' cap (rd++ds)) from fun e w4 hp=>by
     obtain⟨gd2,a2,m2,c2,j,y,ds,rfl,hj1,hj2,hmj,hm0,hQ,⟨zs,hz1,hz2⟩,hor⟩:=hp;have hm:=hm0 HRB.o;obtain⟨ys,hy1,hy2⟩:=hQ.own;obtain⟨g2,rfl,hyc⟩:=Bg hy2 hm;have hkw:aB (fun b=>b=ps) wk w4:=(aB.refl (fun b=>b=ps) wk).drew.trans hQ.kp k3;obtain⟨xs,ho,hrec,hF⟩:=HG.o.moreR (G':=gd2) (y:=y) (J:=j) (us:=ys) (d2:=ds) HPS.o (Nat.lt_succ_self _) HNX.o HXW.o hkw hQ.rs (fun _=>HG1.o) (fun g=>(hy1 g).mono (fun b _ hb=>by rcases hb.1 with h | h;exact .inl h;exact .inr (by simpa using h)))
     refine⟨g2,m2,c2,j,y,ds,gd2,xs,ys,rfl,⟨hj1,hj2,hmj,hm,?_⟩,hy2.1,hyc,by rw [yW hy2 hz1];exact hz2,ho,hrec,hF⟩;rcases hor with ⟨g,h0,hr⟩ | ⟨h0,hr⟩
     ·refine .inl ⟨g,h0,?_,by rw [HR2.o,hr]⟩;have hlen:=Ez HRB.o hr;rw [List.length_drop,List.length_drop] at hlen;omega
     ·exact .inr ⟨h0,by rw [HR2.o,hr]⟩)
    have hXNl:=HG.o.ro.lt;obtain⟨⟨x0,x1,x2,x3,x4,x5,x6,x7⟩,⟨xf0,xf1,xf2,xf3,xf4,xf5,xf6,xf7⟩⟩:=HG.o.ro.eight;clear HR2;go_wp2_with fail;go_region_law (first
     | (
      refine jZ (by rfl) _ _ _ (by rfl) 0 86 i0 _ 2 40 Tryz.underlying41 hi0 hz0 hz1 hz2 rfl (by omega) (.slice ra rm rc) rm xs (by rfl) hown4 ⟨g2,0,none⟩ m2 c2 ys (by rfl) HYL.o HYC.o HY1.o (by unfold maxLen;omega) (by omega) (by omega) ?_;intro va vc w5 hown5 hgrow hat;obtain⟨gg,rfl,_⟩:=Bg hown5 (by omega);obtain⟨hrec5,hG5⟩:=HF.o gg (rm+m2) vc w5 _ hown5 (aB.refl _ _) hgrow (by rcases hat with h | h;exact .inl h.symm;exact .inr (by have h9:gg=w4.heap.size:=Option.some.inj h;omega))
      obtain⟨⟨z0,z1,z2,z3,z4,z5,z6,z7⟩,⟨zf0,zf1,zf2,zf3,zf4,zf5,zf6,zf7⟩⟩:=hrec5.eight;have hN5:=hrec5.lt;have HG5:=Hd hG5;clear hrec5 hG5 hown5 hgrow hat)
     | (go_simp;go_at_call 164;refine (tT K HSC.o _ Lo B ps n I deep tv T HD.o (HG.o.rs.keep0 (aB.refl _ _).drew) hIT).mono ?_;intro e w4 hp;obtain⟨g2,m2,c2,j,y,ds,gd2,xs,ys,he,hJ4,hyl,hyc,hy1,hown4,hrec4,hF⟩:=HCALL.o e w4 hp;subst he;obtain⟨⟨y0,y1,y2,y3,y4,y5,y6,y7⟩,⟨yf0,yf1,yf2,yf3,yf4,yf5,yf6,yf7⟩⟩:=hrec4.eight;have hN4:=hrec4.lt;have HF:=Hd hF;obtain⟨hJ1,hJ2,hJ3,hJ0,hJ4⟩:=hJ4;have HJ4:=Hd hJ4;have HYL:=Hd hyl;have HYC:=Hd hyc;have HY1:=Hd hy1;clear hp hF hJ4 hrec4 hyl hyc hy1))
    all_goals
     go_wp2_with fail;rcases HJ4.o with ⟨g,h1,h2,hr⟩ | ⟨h1,hr⟩
     ·go_roundg (T.length+2000 - j)
      case measure=>have:=HGK.o;omega
      case rel=>exact⟨gd2,j,y,wa,wm,wc,ws,ga,gm,gc,gs,_,rm+m2,_,rd++ds,by omega,hJ2,HG5,.inl ⟨h1,rfl,by omega,by omega,by omega,Hd ⟨g,_,by rw [List.length_drop];omega,hr⟩⟩⟩
     ·go_roundg 0
      case measure=>have:=HGK.o;omega
      case rel=>exact⟨gd2,j,y,wa,wm,wc,ws,ga,gm,gc,gs,_,rm+m2,_,rd++ds,by omega,hJ2,HG5,.inr ⟨h1,rfl,Hd hr⟩⟩
   | false=>
    have HQ:=Hd (oU HG.o.rs false hq 0);have HRB:=Hd hq;clear hq;cases hk:((atF (T.drop I)).kind==1) with
    | false=>
     have HQ2:=Hd (fun q=>lB HG.o.rs false hk q);have HFIN:=Hd (show res=.ok (ndR 1 false [] ws gs rd [] [],T.drop I) by rw [HR.o,f6,HRB.o,if_neg (by simp),hk,if_neg (by simp)]);clear hk;go_wp2_with fail;refine HQ.o.mono ?_;rintro e wq ⟨rfl,dq,rfl⟩;go_wp2_with fail;refine (HQ2.o dq).mono ?_;rintro e wq ⟨rfl,dq2,rfl⟩;obtain⟨wf,hwf⟩:∃wf,wf=wr.drewN dq2:=⟨_,rfl⟩;rw [←hwf];replace HG:=Hd (HG.o.keep0 (show K0 wr wf by rw [hwf];exact (aB.refl _ _).drewN _))
     clear hwf c0 c1 c2 f1 f2 hlt;obtain⟨⟨x0,x1,x2,x3,x4,x5,x6,x7⟩,⟨xf0,xf1,xf2,xf3,xf4,xf5,xf6,xf7⟩⟩:=HG.o.ro.eight;have hNl:=HG.o.ro.lt;have HF:=Hd (show QF false wf (fun b=>Qd Lo B w.heap.size b∧b≠w.heap.size) T res [.int .i64 1,.bool false,.string ⟨#[]⟩,.slice wa wm wc,.slice ga gm gc,.slice ra rm rc,.slice none 0 0,.slice none 0 0] I 0 from Mh HG.o (Nat.lt_succ_self _) HPS.o (.inl ⟨HG1.o,rfl,hIT,HFIN.o⟩))
     have HK:=Hd HG.o.kp;have HS:=Hd HG.o.rs;obtain⟨⟨z0,z1,z2,z3,z4,z5,z6,z7⟩,⟨zf0,zf1,zf2,zf3,zf4,zf5,zf6,zf7⟩⟩:=HG.o.zr.eight;have hzl:=HG.o.zr.lt;go_wp2_with fail;refine bodyPost_ret (v:=.agg #[.int .i64 1,.bool false,.string ⟨#[]⟩,.slice wa wm wc,.slice ga gm gc,.slice ra rm rc,.slice none 0 0,.slice none 0 0]) (by simp [results,Tryz.results166,go_sem,z0,z1,z2,z3,z4,z5,z6,z7]) rfl ?_;obtain⟨f1,f2,f3⟩:=bS HK.o HS.o HPS.o HF.o (aJ wf w.heap.size (.int .i64 1) (.bool false) (.string ⟨#[]⟩) (.slice wa wm wc) (.slice ga gm gc) (.slice ra rm rc) (.slice none 0 0) (.slice none 0 0))
     exact⟨⟨1,false,⟨#[]⟩,wa,wm,wc,ga,gm,gc,ra,rm,rc,none,0,0,none,0,0⟩,I,0,rfl,hiI,by omega,f1,f2,f3⟩
    | true=>
     have HQ2:=Hd (fun q=>lB HG.o.rs true hk q);have hpos:=bQ (nR hk);have HR2:=Hd (show res=(match eC (bC (aC K)) (T.drop I) with
      | .error e=>.error e
      | .ok (w,r)=>match (if ws.isEmpty then c8 w else none) with
       | some (nm,v)=>bL (bC (aC K)) M ws (gs++[.str nm,bG v]) rd r
       | none=>bL (bC (aC K)) M (ws++[bG w]) gs rd r) by 
      rw [HR.o,f6,HRB.o,if_neg (by simp),hk,if_pos rfl];cases eC (bC (aC K)) (T.drop I) with
      | error e=>rfl
      | ok p=>
       obtain⟨w9,r9⟩:=p;dsimp only;cases (if ws.isEmpty=true then c8 w9 else none)<;>rfl)
     clear hk HR;go_wp2_with fail;refine HQ.o.mono ?_;rintro e wq ⟨rfl,dq,rfl⟩;go_wp2_with fail;refine (HQ2.o dq).mono ?_;rintro e wq ⟨rfl,dq2,rfl⟩;obtain⟨wk,hwk⟩:∃wk,wk=wr.drewN dq2:=⟨_,rfl⟩;rw [←hwk];replace HG:=Hd (HG.o.keep0 (show K0 wr wk by rw [hwk];exact (aB.refl _ _).drewN _));clear hwk c0 c1 c2 f1 f2 hlt;go_wp2_with fail;refine (kI K HSC.o wk Lo B ps n I deep tv T HD.o HG.o.rs).mono ?_
     rintro e w3 ⟨wd,ta,tc,j,y,rfl,hpt,hsm,hj1,hj2,hs3,hk3,hor⟩;have hjT:=hj2 hIT;have HOR:=Hd hor;have HKT:=Hd hk3;have HPT:=Hd hpt;have hNk:=HG.o.ro.lt;have HXW:=Hd (show w.heap.size+1≤wk.heap.size by have:=HNE.o;omega);have HS3:=Hd hs3;have HJ1:=Hd hj1;clear hor hk3 hs3 hj1 hj2;go_wp2_with fail;refine (Cj w3 n (fun b=>Lo≤b∧b<B) wd ta tc hpt hsm).mono ?_;intro e w3b hp;cases has:c8 wd with
     | none=>
      rw [has] at hp;obtain⟨rfl,hkb⟩:=hp;have HAS:=Hd has;have HKB:=Hd hkb;clear hkb has hpt hsm;go_upto_region 9 with fail;obtain⟨NA,hNA⟩:∃NA,NA=w3b.heap.size:=⟨_,rfl⟩;obtain⟨w4,hw4⟩:∃w4,w4=w3b.alloc (.cells #[.string ⟨#[]⟩,.slice none 0 0] 84):=⟨_,rfl⟩;rw [←hw4]
      try rw [←hNA]
      have hk4:K0 w3b w4:=by rw [hw4];exact (aB.refl _ _).alloc _
      have hNR:aH w4 NA [.string ⟨#[]⟩,.slice none 0 0]:=by rw [hw4,hNA];exact⟨_,heap_alloc_new w3b _⟩
      have hkb:=HKB.o.trans hk4 k3;have hkk:=HKT.o.trans hkb (fun _ _ h=>h.elim);obtain⟨wl,hwl⟩:∃wl,wl=wd.length:=⟨_,rfl⟩;have HWL:=Hd hwl
      try rw [←hwl]
      obtain⟨xs,hown4,hrec4,hF⟩:=HG.o.moreW (G':=True) (y:=y) (J:=j) (us:=[.slice ta wl tc]) (d2:=[bG wd]) HPS.o (Nat.lt_succ_self _) HNX.o HXW.o hkk (HS3.o.keep0 hkb) (fun _=>HG1.o) (fun _=>(by rw [hwl];exact⟨(nC (HPT.o.keep hkb (fun _ _ _ h=>h))).mono (fun b _ hb=>.inl hb),trivial⟩));have HF:=Hd hF;obtain⟨⟨x0,x1,x2,x3,x4,x5,x6,x7⟩,⟨xf0,xf1,xf2,xf3,xf4,xf5,xf6,xf7⟩⟩:=hrec4.eight
      obtain⟨⟨n0,n1⟩,nf0,nf1⟩:=hNR.two;have hNl:=hrec4.lt;have hNAl:=hNR.lt;have hne:N≠NA:=by have:=hkk.size;have:=HKT.o.size;have:=HKB.o.size;omega
      have hsz4:NA+1=w4.heap.size:=by rw [hw4,hNA];simp
      have HOR2:=Hd (show (y=0∧j=I+1∧res=bL (bC (aC K)) M (ws++[bG wd]) gs rd (T.drop (I+1)))∨(y≠0∧res=.error y) from by
       rcases HOR.o with ⟨h1,h2,_,hw⟩ | ⟨h1,hw⟩
       ·refine .inl ⟨h1,h2,?_⟩;rw [HR2.o,hw];dsimp only;rw [show (if ws.isEmpty=true then c8 wd else none)=none by rw [HAS.o];cases ws.isEmpty<;>rfl]
        try rfl
       ·exact .inr ⟨h1,by rw [HR2.o,hw]⟩)
      clear hF hrec4 hNR hk4 hkb hkk hw4 hNA hNk hwl;go_wp2_with (at_builtin;refine wpList_append_lies _ rfl (.tmp 50) (.tmp 52) _ rfl 0 29 i2 _ 1 24 Tryz.underlying39 hi2 hx0 hx1 hx2 rfl (by omega) (.slice wa wm wc) wm xs rfl (hown4.alloc _) ⟨w4.heap.size,0,none⟩ 1 1 [.slice ta wl tc] rfl rfl (World.news_of_block (cs:=#[.slice ta wl tc]) (t:=29) (fr:=(0,0)) (heap_alloc_new w4 _)) (by simp [Value.oneCell']) (by omega) (by unfold maxLen;omega) (by omega) (by simp) (w4.heap.size+1) (by simp) ?_;intro gg cap w5 hown2 hgrow hat hlt5;have hG5:=HF.o gg (wm+1) cap w5 _ hown2 ((aB.refl _ _).alloc _) hgrow (hat.imp id (fun h=>by omega));obtain⟨hrec5,hq5⟩:=hG5;have hrec5:=(show aH w5 N [.int .i64 1,.bool false,.string ⟨#[]⟩,.slice wa wm wc,.slice ga gm gc,.slice ra rm rc,.slice none 0 0,.slice none 0 0] from hrec5);obtain⟨⟨z0,z1,z2,z3,z4,z5,z6,z7⟩,⟨zf0,zf1,zf2,zf3,zf4,zf5,zf6,zf7⟩⟩:=hrec5.eight;have hN5:=hrec5.lt;have HG5:=Hd (show SQ True w (w5.setCell ⟨N,3,none⟩ (.slice (some ⟨gg,0,none⟩) (wm+1) cap)) Lo B ps tv n T (w.heap.size+1) N j y (some ⟨gg,0,none⟩) (wm+1) cap (ws++[bG wd]) ga gm gc gs ra rm rc rd from hq5);clear hrec5 hq5;clear hown2 hgrow hat)
      rcases HOR2.o with ⟨h1,h2,hr⟩ | ⟨h1,hr⟩
      ·go_roundg (T.length+2000 - j)
       case measure=>have:=HGK.o;omega
       case rel=>exact⟨True,j,y,_,wm+1,_,_,ga,gm,gc,gs,ra,rm,rc,rd,by omega,hjT,HG5,.inl ⟨h1,rfl,by omega,by omega,by omega,Hd ⟨trivial,M,by omega,by rw [h2];exact hr⟩⟩⟩
      ·go_roundg 0
       case measure=>have:=HGK.o;omega
       case rel=>exact⟨True,j,y,_,wm+1,_,_,ga,gm,gc,gs,ra,rm,rc,rd,by have:=HJ1.o;omega,hjT,HG5,.inr ⟨h1,rfl,Hd hr⟩⟩
     | some nv=>
      obtain⟨nm,va⟩:=nv;rw [has] at hp;obtain⟨aa,ac,am,rfl,hpa,hkb⟩:=hp;have HAS:=Hd has;have HKB:=Hd hkb;have HPA:=Hd hpa;clear hkb has hpa hpt hsm;by_cases hw0:wm=0
      ·have t1:((wm:Int)==0)=true:=by rw [beq_iff_eq];omega
       go_upto_region 9 with fail;obtain⟨NA,hNA⟩:∃NA,NA=w3b.heap.size:=⟨_,rfl⟩;obtain⟨w4,hw4⟩:∃w4,w4=w3b.alloc (.cells #[.string ⟨nm.toArray⟩,.slice aa va.length ac] 84):=⟨_,rfl⟩;rw [←hw4]
       try rw [←hNA]
       have hk4:K0 w3b w4:=by rw [hw4];exact (aB.refl _ _).alloc _
       have hNR:aH w4 NA [.string ⟨nm.toArray⟩,.slice aa va.length ac]:=by rw [hw4,hNA];exact⟨_,heap_alloc_new w3b _⟩
       have hkb:=HKB.o.trans hk4 k3;have hkk:=HKT.o.trans hkb (fun _ _ h=>h.elim);obtain⟨wl,hwl⟩:∃wl,wl=wd.length:=⟨_,rfl⟩;have HWL:=Hd hwl
       try rw [←hwl]
       obtain⟨vl,hvl⟩:∃vl,vl=va.length:=⟨_,rfl⟩
       try rw [←hvl]
       rw [←hvl] at hNR;have hpa4:=HPA.o;obtain⟨xs,hown4,hrec4,hF⟩:=HG.o.moreA (G':=True) (y:=y) (J:=j) (us:=[.string ⟨nm.toArray⟩,.slice aa vl ac]) (d2:=[.str nm,bG va]) HPS.o (Nat.lt_succ_self _) HNX.o HXW.o hkk (HS3.o.keep0 hkb) (fun _=>HG1.o) (fun _=>(by rw [hvl];exact⟨.str _,(nC (hpa4.keep hk4 (fun _ _ _ h=>h))).mono (fun b _ hb=>by rcases hb with h | h;exact .inl h;exact .inr (by have:=HKT.o.size;omega)),trivial⟩))
       have HF:=Hd hF;obtain⟨⟨x0,x1,x2,x3,x4,x5,x6,x7⟩,⟨xf0,xf1,xf2,xf3,xf4,xf5,xf6,xf7⟩⟩:=hrec4.eight;obtain⟨⟨n0,n1⟩,nf0,nf1⟩:=hNR.two;have hNl:=hrec4.lt;have hNAl:=hNR.lt;have hne:N≠NA:=by have:=hkk.size;have:=HKT.o.size;have:=HKB.o.size;omega
       have hsz4:NA+1=w4.heap.size:=by rw [hw4,hNA];simp
       have HOR2:=Hd (show (y=0∧j=I+1∧res=bL (bC (aC K)) M ws (gs++[.str nm,bG va]) rd (T.drop (I+1)))∨(y≠0∧res=.error y) from by
        rcases HOR.o with ⟨h1,h2,_,hw⟩ | ⟨h1,hw⟩
        ·refine .inl ⟨h1,h2,?_⟩;rw [HR2.o,hw];dsimp only;rw [if_pos (by have:=HG.o.wlen HG1.o;rw [List.isEmpty_iff];exact List.eq_nil_of_length_eq_zero (by omega)),HAS.o]
         try rfl
        ·exact .inr ⟨h1,by rw [HR2.o,hw]⟩)
       clear hF hrec4 hNR hk4 hkb hkk hw4 hNA hNk hpa4 hwl hvl;go_wp2_with (at_builtin;refine wpList_append_lies _ rfl (.tmp 44) (.tmp 46) _ rfl 0 84 i1 _ 2 40 Tryz.underlying40 hi1 hy0 hy1 hy2 rfl (by omega) (.slice ga gm gc) gm xs rfl (hown4.alloc _) ⟨w4.heap.size,0,none⟩ 1 1 [.string ⟨nm.toArray⟩,.slice aa vl ac] rfl rfl (World.news_of_block (cs:=#[.string ⟨nm.toArray⟩,.slice aa vl ac]) (t:=84) (fr:=(0,0)) (heap_alloc_new w4 _)) (by simp [Value.oneCell']) (by omega) (by unfold maxLen;omega) (by omega) (by simp) (w4.heap.size+1) (by simp) ?_;intro gg cap w5 hown2 hgrow hat hlt5;have hG5:=HF.o gg (gm+1) cap w5 _ hown2 ((aB.refl _ _).alloc _) hgrow (hat.imp id (fun h=>by omega));obtain⟨hrec5,hq5⟩:=hG5;have hrec5:=(show aH w5 N [.int .i64 1,.bool false,.string ⟨#[]⟩,.slice wa wm wc,.slice ga gm gc,.slice ra rm rc,.slice none 0 0,.slice none 0 0] from hrec5);obtain⟨⟨z0,z1,z2,z3,z4,z5,z6,z7⟩,⟨zf0,zf1,zf2,zf3,zf4,zf5,zf6,zf7⟩⟩:=hrec5.eight;have hN5:=hrec5.lt;have HG5:=Hd (show SQ True w (w5.setCell ⟨N,4,none⟩ (.slice (some ⟨gg,0,none⟩) (gm+1) cap)) Lo B ps tv n T (w.heap.size+1) N j y wa wm wc ws (some ⟨gg,0,none⟩) (gm+1) cap (gs++[.str nm,bG va]) ra rm rc rd from hq5);clear hrec5 hq5;clear hown2 hgrow hat)
       rcases HOR2.o with ⟨h1,h2,hr⟩ | ⟨h1,hr⟩
       ·go_roundg (T.length+2000 - j)
        case measure=>have:=HGK.o;omega
        case rel=>exact⟨True,j,y,wa,wm,wc,ws,_,gm+1,_,_,ra,rm,rc,rd,by omega,hjT,HG5,.inl ⟨h1,rfl,by omega,by omega,by omega,Hd ⟨trivial,M,by omega,by rw [h2];exact hr⟩⟩⟩
       ·go_roundg 0
        case measure=>have:=HGK.o;omega
        case rel=>exact⟨True,j,y,wa,wm,wc,ws,_,gm+1,_,_,ra,rm,rc,rd,by have:=HJ1.o;omega,hjT,HG5,.inr ⟨h1,rfl,Hd hr⟩⟩
      ·have t1:((wm:Int)==0)=false:=by rw [beq_eq_false_iff_ne];omega
       go_upto_region 9 with fail;obtain⟨NA,hNA⟩:∃NA,NA=w3b.heap.size:=⟨_,rfl⟩;obtain⟨w4,hw4⟩:∃w4,w4=w3b.alloc (.cells #[.string ⟨nm.toArray⟩,.slice aa va.length ac] 84):=⟨_,rfl⟩;rw [←hw4]
       try rw [←hNA]
       have hk4:K0 w3b w4:=by rw [hw4];exact (aB.refl _ _).alloc _
       have hNR:aH w4 NA [.string ⟨nm.toArray⟩,.slice aa va.length ac]:=by rw [hw4,hNA];exact⟨_,heap_alloc_new w3b _⟩
       have hkb:=HKB.o.trans hk4 k3;have hkk:=HKT.o.trans hkb (fun _ _ h=>h.elim);obtain⟨wl,hwl⟩:∃wl,wl=wd.length:=⟨_,rfl⟩;have HWL:=Hd hwl
       try rw [←hwl]
       obtain⟨vl,hvl⟩:∃vl,vl=va.length:=⟨_,rfl⟩
       try rw [←hvl]
       rw [←hvl] at hNR;obtain⟨xs,hown4,hrec4,hF⟩:=HG.o.moreW (G':=True) (y:=y) (J:=j) (us:=[.slice ta wl tc]) (d2:=[bG wd]) HPS.o (Nat.lt_succ_self _) HNX.o HXW.o hkk (HS3.o.keep0 hkb) (fun _=>HG1.o) (fun _=>(by rw [hwl];exact⟨(nC (HPT.o.keep hkb (fun _ _ _ h=>h))).mono (fun b _ hb=>.inl hb),trivial⟩));have HF:=Hd hF;obtain⟨⟨x0,x1,x2,x3,x4,x5,x6,x7⟩,⟨xf0,xf1,xf2,xf3,xf4,xf5,xf6,xf7⟩⟩:=hrec4.eight
       obtain⟨⟨n0,n1⟩,nf0,nf1⟩:=hNR.two;have hNl:=hrec4.lt;have hNAl:=hNR.lt;have hne:N≠NA:=by have:=hkk.size;have:=HKT.o.size;have:=HKB.o.size;omega
       have hsz4:NA+1=w4.heap.size:=by rw [hw4,hNA];simp
       have HOR2:=Hd (show (y=0∧j=I+1∧res=bL (bC (aC K)) M (ws++[bG wd]) gs rd (T.drop (I+1)))∨(y≠0∧res=.error y) from by
        rcases HOR.o with ⟨h1,h2,_,hw⟩ | ⟨h1,hw⟩
        ·refine .inl ⟨h1,h2,?_⟩;rw [HR2.o,hw];dsimp only;rw [show (if ws.isEmpty=true then c8 wd else none)=none from if_neg (by have:=HG.o.wlen HG1.o;rw [Bool.not_eq_true,List.isEmpty_eq_false_iff];intro e;rw [e] at this;exact hw0 this.symm)]
         try rfl
        ·exact .inr ⟨h1,by rw [HR2.o,hw]⟩)
       clear hF hrec4 hNR hk4 hkb hkk hw4 hNA hNk hwl hvl;go_wp2_with (at_builtin;refine wpList_append_lies _ rfl (.tmp 50) (.tmp 52) _ rfl 0 29 i2 _ 1 24 Tryz.underlying39 hi2 hx0 hx1 hx2 rfl (by omega) (.slice wa wm wc) wm xs rfl (hown4.alloc _) ⟨w4.heap.size,0,none⟩ 1 1 [.slice ta wl tc] rfl rfl (World.news_of_block (cs:=#[.slice ta wl tc]) (t:=29) (fr:=(0,0)) (heap_alloc_new w4 _)) (by simp [Value.oneCell']) (by omega) (by unfold maxLen;omega) (by omega) (by simp) (w4.heap.size+1) (by simp) ?_;intro gg cap w5 hown2 hgrow hat hlt5;have hG5:=HF.o gg (wm+1) cap w5 _ hown2 ((aB.refl _ _).alloc _) hgrow (hat.imp id (fun h=>by omega));obtain⟨hrec5,hq5⟩:=hG5;have hrec5:=(show aH w5 N [.int .i64 1,.bool false,.string ⟨#[]⟩,.slice wa wm wc,.slice ga gm gc,.slice ra rm rc,.slice none 0 0,.slice none 0 0] from hrec5);obtain⟨⟨z0,z1,z2,z3,z4,z5,z6,z7⟩,⟨zf0,zf1,zf2,zf3,zf4,zf5,zf6,zf7⟩⟩:=hrec5.eight;have hN5:=hrec5.lt;have HG5:=Hd (show SQ True w (w5.setCell ⟨N,3,none⟩ (.slice (some ⟨gg,0,none⟩) (wm+1) cap)) Lo B ps tv n T (w.heap.size+1) N j y (some ⟨gg,0,none⟩) (wm+1) cap (ws++[bG wd]) ga gm gc gs ra rm rc rd from hq5);clear hrec5 hq5;clear hown2 hgrow hat)
       rcases HOR2.o with ⟨h1,h2,hr⟩ | ⟨h1,hr⟩
       ·go_roundg (T.length+2000 - j)
        case measure=>have:=HGK.o;omega
        case rel=>exact⟨True,j,y,_,wm+1,_,_,ga,gm,gc,gs,ra,rm,rc,rd,by omega,hjT,HG5,.inl ⟨h1,rfl,by omega,by omega,by omega,Hd ⟨trivial,M,by omega,by rw [h2];exact hr⟩⟩⟩
       ·go_roundg 0
        case measure=>have:=HGK.o;omega
        case rel=>exact⟨True,j,y,_,wm+1,_,_,ga,gm,gc,gs,ra,rm,rc,rd,by have:=HJ1.o;omega,hjT,HG5,.inr ⟨h1,rfl,Hd hr⟩⟩
  ·have t:((x:Int)==0)=false:=by rw [beq_eq_false_iff_ne];omega
   obtain⟨c0,c1,c2,f1,f2⟩:=HG.o.rs.cells;have hlt:=HG.o.rs.lt;have HBAD:=Hd (show ∀w D us,QF false w D T res us I x from fun _ _ _=>QF.err hx HST.o);clear hx hgk HST;obtain⟨⟨x0,x1,x2,x3,x4,x5,x6,x7⟩,⟨xf0,xf1,xf2,xf3,xf4,xf5,xf6,xf7⟩⟩:=HG.o.ro.eight;have hNl:=HG.o.ro.lt;have HF:=Hd (show QF false wr (fun b=>Qd Lo B w.heap.size b∧b≠w.heap.size) T res [.int .i64 1,.bool false,.string ⟨#[]⟩,.slice wa wm wc,.slice ga gm gc,.slice ra rm rc,.slice none 0 0,.slice none 0 0] I x from Mh HG.o (Nat.lt_succ_self _) HPS.o (.inr HBAD.o))
   have HK:=Hd HG.o.kp;have HS:=Hd HG.o.rs;obtain⟨⟨z0,z1,z2,z3,z4,z5,z6,z7⟩,⟨zf0,zf1,zf2,zf3,zf4,zf5,zf6,zf7⟩⟩:=HG.o.zr.eight;have hzl:=HG.o.zr.lt;go_wp2_with fail;refine bodyPost_ret (v:=.agg #[.int .i64 1,.bool false,.string ⟨#[]⟩,.slice wa wm wc,.slice ga gm gc,.slice ra rm rc,.slice none 0 0,.slice none 0 0]) (by simp [results,Tryz.results166,go_sem,z0,z1,z2,z3,z4,z5,z6,z7]) rfl ?_;obtain⟨f1,f2,f3⟩:=bS HK.o HS.o HPS.o HF.o (aJ wr w.heap.size (.int .i64 1) (.bool false) (.string ⟨#[]⟩) (.slice wa wm wc) (.slice ga gm gc) (.slice ra rm rc) (.slice none 0 0) (.slice none 0 0))
   exact⟨⟨1,false,⟨#[]⟩,wa,wm,wc,ga,gm,gc,ra,rm,rc,none,0,0,none,0,0⟩,I,x,rfl,hiI,by omega,f1,f2,f3⟩
end Go.Proofs.YtiihpbccabeoeaaGreatDoor
