/- The walk: a part. -/
import Derived.Test.YtiihpbccabeoeaaGreatDoorWPsA
namespace Go.Proofs.YtiihpbccabeoeaaGreatDoor
open Go.RowKit
set_option linter.unusedVariables false
set_option maxRecDepth 100000
set_option maxHeartbeats 16000000
theorem Qy (N n m:Nat) (hn:n<N) (hsame:F7 N) (w:World) (D E:Nat→Prop) (x y:Ny) (hx:Aq n x) (hy:Aq m y) (wa:OA) (wl wc:Nat) (ga:OA) (gl gc:Nat) (ra:OA) (rl rcp:Nat) (ka:OA) (kl kc:Nat) (aa:OA) (al ac:Nat) (wa':OA) (wl' wc':Nat) (ga':OA) (gl' gc':Nat) (ra':OA) (rl' rcp':Nat) (ka':OA) (kl' kc':Nat) (aa':OA) (al' ac':Nat)
 (ha:NyR w D x wa wl wc ga gl gc ra rl rcp ka kl kc aa al ac) (hb:NyR w E y wa' wl' wc' ga' gl' gc' ra' rl' rcp' ka' kl' kc' aa' al' ac') :
 Calls Tryz.prog 22 #[.agg #[.int .i64 x.kind,.bool x.nt,.string ⟨x.nm.toArray⟩,.slice wa wl wc,.slice ga gl gc,.slice ra rl rcp,.slice ka kl kc,.slice aa al ac],.agg #[.int .i64 y.kind,.bool y.nt,.string ⟨y.nm.toArray⟩,.slice wa' wl' wc',.slice ga' gl' gc',.slice ra' rl' rcp',.slice ka' kl' kc',.slice aa' al' ac']] w (bY w (x=y)):=by
 have hcA:Tryz.prog.cellsOf 84=2:=by kernel_rfl
 have hcR:Tryz.prog.cellsOf 86=2:=by kernel_rfl
 have hcM:Tryz.prog.cellsOf 49=2:=by kernel_rfl
 have hg2:=cR (by decide) ha.gs;have hr2:=cR (by decide) ha.rs;have ha2:=cR (by decide) ha.ar;have HLG:=Hd (cK (k:=2) (fun _=>rfl) (by decide) ha.gs).1;have HLG':=Hd (cK (k:=2) (fun _=>rfl) (by decide) hb.gs).1;have HLR:=Hd (cK (k:=2) (fun _=>rfl) (by decide) ha.rs).1;have HLR':=Hd (cK (k:=2) (fun _=>rfl) (by decide) hb.rs).1;have HLA:=Hd (cK (k:=2) (fun _=>rfl) (by decide) ha.ar).1
 have HLA':=Hd (cK (k:=2) (fun _=>rfl) (by decide) hb.ar).1;have HW:=Hd (fun W (h:K0 w W)=>M0 W D E n m x.ws y.ws hx.1 hy.1 _ _ (aE ha.ws h) (aE hb.ws h));have HS:=Hd (fun W (h:K0 w W)=>hsame n m hn W D E x.ks y.ks _ _ _ _ _ _ hx.2.2.2.1 hy.2.2.2.1 (aE ha.ks h) (aE hb.ks h));have HSA:=Hd hsame;have HX:=Hd hx;have HY:=Hd hy;have HA:=Hd ha
 have HB:=Hd hb;obtain⟨kx,hkx⟩:∃l,l=x.kind:=⟨_,rfl⟩;obtain⟨tx,htx⟩:∃l,l=x.nt:=⟨_,rfl⟩;obtain⟨ky,hky⟩:∃l,l=y.kind:=⟨_,rfl⟩;obtain⟨ty,hty⟩:∃l,l=y.nt:=⟨_,rfl⟩;rw [←hkx,←htx,←hky,←hty];clear ha hb hx hy hsame;obtain⟨W,hW⟩:∃W,W=((w.alloc (.cells #[.int .i64 kx,.bool tx,.string ⟨x.nm.toArray⟩,.slice wa wl wc,.slice ga gl gc,.slice ra rl rcp,.slice ka kl kc,.slice aa al ac] 44)).alloc (.cells #[.int .i64 ky,.bool ty,.string ⟨y.nm.toArray⟩,.slice wa' wl' wc',.slice ga' gl' gc',.slice ra' rl' rcp',.slice ka' kl' kc',.slice aa' al' ac'] 44)):=⟨_,rfl⟩
 have hkW:K0 w W:=by rw [hW];exact ((aB.refl _ _).alloc _).alloc _
 have hR1:aH W w.heap.size [.int .i64 kx,.bool tx,.string ⟨x.nm.toArray⟩,.slice wa wl wc,.slice ga gl gc,.slice ra rl rcp,.slice ka kl kc,.slice aa al ac]:=by
  rw [hW];exact (aK w _ _ _ _ _ _ _ _ _).keep (S:=fun _=>False) ((aB.refl _ _).alloc _) (fun h=>h)
 have hR2:aH W (w.heap.size+1) [.int .i64 ky,.bool ty,.string ⟨y.nm.toArray⟩,.slice wa' wl' wc',.slice ga' gl' gc',.slice ra' rl' rcp',.slice ka' kl' kc',.slice aa' al' ac']:=by
  rw [hW];have h:=aK (w.alloc (.cells #[.int .i64 kx,.bool tx,.string ⟨x.nm.toArray⟩,.slice wa wl wc,.slice ga gl gc,.slice ra rl rcp,.slice ka kl kc,.slice aa al ac] 44)) (.int .i64 ky) (.bool ty) (.string ⟨y.nm.toArray⟩) (.slice wa' wl' wc') (.slice ga' gl' gc') (.slice ra' rl' rcp') (.slice ka' kl' kc') (.slice aa' al' ac') 44;rw [show (w.alloc (.cells #[.int .i64 kx,.bool tx,.string ⟨x.nm.toArray⟩,.slice wa wl wc,.slice ga gl gc,.slice ra rl rcp,.slice ka kl kc,.slice aa al ac] 44)).heap.size=w.heap.size+1 by simp] at h
  exact h
 have HR1:=Hd hR1;have HR2:=Hd hR2;have HKW:=Hd hkW;have HWE:=Hd hW;clear hW hR1 hR2 hkW;by_cases c0:kx=ky;rotate_left
 ·have t0:(kx != ky)=true:=by rw [bne_iff_ne];exact c0
  have C0:=Hd (show x.kind≠y.kind by rw [←hkx,←hky];exact c0);clear c0 hkx hky htx hty;go_enter Tryz.func22,Tryz.ntmps22;go_wp2_with fail;go_ret;exact⟨false,rfl,⟨fun h=>(by cases h),fun h=>absurd (by rw [h]) C0.out⟩,by rw [HWE.o] at HKW;exact HKW.o⟩
 have HC0:=Hd (hkx.symm.trans (c0.trans hky));have t0:(ky != ky)=false:=by simp
 clear hkx hky;subst c0;by_cases c1:tx=ty;rotate_left
 ·have C1:=Hd (show x.nt≠y.nt by rw [←htx,←hty];exact c1);clear htx hty;go_enter Tryz.func22,Tryz.ntmps22;cases tx<;>cases ty
  ·exact absurd rfl c1
  ·clear c1;go_wp2_with fail;go_ret;exact⟨false,rfl,⟨fun h=>(by cases h),fun h=>absurd (by rw [h]) C1.out⟩,by rw [HWE.o] at HKW;exact HKW.o⟩
  ·clear c1;go_wp2_with fail;go_ret;exact⟨false,rfl,⟨fun h=>(by cases h),fun h=>absurd (by rw [h]) C1.out⟩,by rw [HWE.o] at HKW;exact HKW.o⟩
  ·exact absurd rfl c1
 have HC1:=Hd (htx.symm.trans (c1.trans hty));clear htx hty;subst c1;cases t2:(x.nm==y.nm) with
 | false=>
  have C2:=Hd (ne_of_beq_false t2);go_enter Tryz.func22,Tryz.ntmps22;go_wp2_with fail;go_ret;exact⟨false,rfl,⟨fun h=>(by cases h),fun h=>absurd (by rw [h]) C2.out⟩,by rw [HWE.o] at HKW;exact HKW.o⟩
 | true=>
 have HC2:=Hd (eq_of_beq t2);go_enter Tryz.func22,Tryz.ntmps22;go_wp2_with fail;rw [←HWE.o];refine (HW.o W HKW.o).mono ?_;rintro e w1 ⟨r,rfl,hr,hk1⟩;have HK1:=Hd hk1;cases r with
 | false=>
  have HC3:=Hd (show x.ws≠y.ws from fun h=>by have:=hr.2 h;cases this);obtain⟨⟨x0,x1,x2,x3,x4,x5,x6,x7⟩,_⟩:=(HR1.o.keep hk1 (fun h=>h)).eight;obtain⟨⟨y0,y1,y2,y3,y4,y5,y6,y7⟩,_⟩:=(HR2.o.keep hk1 (fun h=>h)).eight;have lx:=(HR1.o.keep hk1 (fun h=>h)).lt;have ly:=(HR2.o.keep hk1 (fun h=>h)).lt;clear hk1 hr;go_wp2_with fail;go_ret;exact⟨false,rfl,⟨fun h=>(by cases h),fun h=>absurd (by rw [h]) HC3.o⟩,HKW.o.trans HK1.o k3⟩
 | true=>
 have HC3:=Hd (hr.1 rfl);obtain⟨⟨x0,x1,x2,x3,x4,x5,x6,x7⟩,_⟩:=(HR1.o.keep hk1 (fun h=>h)).eight;obtain⟨⟨y0,y1,y2,y3,y4,y5,y6,y7⟩,_⟩:=(HR2.o.keep hk1 (fun h=>h)).eight;have lx:=(HR1.o.keep hk1 (fun h=>h)).lt;have ly:=(HR2.o.keep hk1 (fun h=>h)).lt;clear hk1 hr;by_cases dgl:gl=gl';rotate_left
 ·have e1:((gl:Int) != (gl':Int))=true:=by rw [bne_iff_ne];omega
  have HD:=Hd (show x.gs.length≠y.gs.length by rw [←HLG.o,←HLG'.o];exact dgl);clear dgl;go_wp2_with fail;go_ret;exact⟨false,rfl,⟨fun h=>(by cases h),fun h=>absurd (by rw [h]) HD.o⟩,HKW.o.trans HK1.o k3⟩
 subst dgl;by_cases drl:rl=rl';rotate_left
 ·have e1:((rl:Int) != (rl':Int))=true:=by rw [bne_iff_ne];omega
  have HD:=Hd (show x.rs.length≠y.rs.length by rw [←HLR.o,←HLR'.o];exact drl);clear drl;go_wp2_with fail;go_ret;exact⟨false,rfl,⟨fun h=>(by cases h),fun h=>absurd (by rw [h]) HD.o⟩,HKW.o.trans HK1.o k3⟩
 subst drl;by_cases dal:al=al';rotate_left
 ·have e1:((al:Int) != (al':Int))=true:=by rw [bne_iff_ne];omega
  have HD:=Hd (show x.ar.length≠y.ar.length by rw [←HLA.o,←HLA'.o];exact dal);clear dal;go_wp2_with fail;go_ret;exact⟨false,rfl,⟨fun h=>(by cases h),fun h=>absurd (by rw [h]) HD.o⟩,HKW.o.trans HK1.o k3⟩
 subst dal;go_wp2_with fail;clear x0 x1 x2 x3 x4 x5 x6 x7 y0 y1 y2 y3 y4 y5 y6 y7 lx ly;go_loopw [5] (fun k' wr=>∃k:Nat,k'=.int .i64 k∧k≤gl∧Hid (x.gs.take k=y.gs.take k)∧Hid (K0 W wr)) (fun k' _=>gl - (intOf k').toNat)
 case atStart=>exact⟨0,rfl,Nat.zero_le _,Hd rfl,HK1⟩
 case round=>
  obtain⟨k,rfl,hk,HT,HK⟩:=hrel;obtain⟨⟨x0,x1,x2,x3,x4,x5,x6,x7⟩,_⟩:=(HR1.o.keep HK.o (fun h=>h)).eight;obtain⟨⟨y0,y1,y2,y3,y4,y5,y6,y7⟩,_⟩:=(HR2.o.keep HK.o (fun h=>h)).eight;have lx:=(HR1.o.keep HK.o (fun h=>h)).lt;have ly:=(HR2.o.keep HK.o (fun h=>h)).lt;by_cases hlt:k<gl
  ·have hlta:k<x.gs.length:=by rw [←HLG.o];exact hlt
   have hltb:k<y.gs.length:=by rw [←HLG'.o];exact hlt
   have p1:(k:Int)<(gl:Int):=by omega
   obtain⟨g,o,xa,xl,xc,h1,hg,q0,q1,hp⟩:=jL (aE (aE HA.o.gs HKW.o) HK.o) hlta;obtain⟨g',o',ya,yl,yc,h2,hg',r0,r1,hp'⟩:=jL (aE (aE HB.o.gs HKW.o) HK.o) hltb;subst h1 h2;have HP:=Hd (fun V (h:K0 wr V)=>Dr n m D E x.gs[k].2 y.gs[k].2 _ _ V (HX.o.2.1 _ (List.getElem_mem hlta)) (HY.o.2.1 _ (List.getElem_mem hltb)) (aE hp h) (aE hp' h))
   have HTK:=Hd (fun e:x.gs[k]=y.gs[k]=>fG hlta hltb HT.o e);have HNE:=Hd (show x=y→x.gs[k]=y.gs[k] from fun h=>by simp only [h]);obtain⟨p,hpe⟩:∃p,p=x.gs[k]:=⟨_,rfl⟩;obtain⟨q,hqe⟩:∃q,q=y.gs[k]:=⟨_,rfl⟩;rw [←hpe] at q0 HP HTK HNE;rw [←hqe] at r0 HP HTK HNE;clear hp hp' hpe hqe hlta hltb HT;cases t9:(p.1==q.1) with
   | false=>
    have HN1:=Hd (ne_of_beq_false t9);go_wp2_with fail;go_quiet (fail);go_wp2_with fail;go_ret;exact⟨false,rfl,⟨fun h=>(by cases h),fun h=>absurd (by rw [HNE.o h]) HN1.o⟩,(HKW.o.trans HK.o k3).drewN _⟩
   | true=>
   have HN1:=Hd (eq_of_beq t9);go_wp2_with fail;go_still_tail 26,(by kernel_rfl);change wpList _ _ _ _ _ wr.drew;go_wp2_with fail;refine (HP.o _ ((aB.refl _ _).drew)).mono ?_;rintro e w2 ⟨r,rfl,hr,hk2⟩;have HK2:=Hd ((HK.o.trans ((aB.refl (fun _=>False) wr).drew) k3).trans hk2 k3);cases r with
   | true=>
    have HWD:=Hd (hr.1 rfl);clear hr hk2 HP;go_wp2_with fail;go_roundw
    case rel=>exact⟨k+1,by go_num,by omega,Hd (HTK.o (Prod.ext HN1.o HWD.o)),HK2⟩
    case measure=>simp [intOf];omega
   | false=>
    have HWD:=Hd (show p.2≠q.2 from fun h=>by have:=hr.2 h;cases this);clear hr hk2 HP;go_wp2_with fail;go_ret;exact⟨false,rfl,⟨fun h=>(by cases h),fun h=>absurd (by rw [HNE.o h]) HWD.o⟩,HKW.o.trans HK2.o k3⟩
  obtain rfl:k=gl:=by omega
  have HC4:=Hd (g7 HLG.o HLG'.o HT.o);have p1:¬(k:Int)<(k:Int):=by omega
  go_wp2_with fail;clear p1 hlt HT;clear x0 x1 x2 x3 x4 x5 x6 x7 y0 y1 y2 y3 y4 y5 y6 y7 lx ly;go_loopw [6] (fun k' wr=>∃k:Nat,k'=.int .i64 k∧k≤rl∧Hid (x.rs.take k=y.rs.take k)∧Hid (K0 W wr)) (fun k' _=>rl - (intOf k').toNat)
  case atStart=>exact⟨0,rfl,Nat.zero_le _,Hd rfl,HK⟩
  case round=>
   obtain⟨k,rfl,hk,HT,HK⟩:=hrel;obtain⟨⟨x0,x1,x2,x3,x4,x5,x6,x7⟩,_⟩:=(HR1.o.keep HK.o (fun h=>h)).eight;obtain⟨⟨y0,y1,y2,y3,y4,y5,y6,y7⟩,_⟩:=(HR2.o.keep HK.o (fun h=>h)).eight;have lx:=(HR1.o.keep HK.o (fun h=>h)).lt;have ly:=(HR2.o.keep HK.o (fun h=>h)).lt;by_cases hlt:k<rl
   ·have hlta:k<x.rs.length:=by rw [←HLR.o];exact hlt
    have hltb:k<y.rs.length:=by rw [←HLR'.o];exact hlt
    have p1:(k:Int)<(rl:Int):=by omega
    obtain⟨g,o,xa,xl,xc,h1,hg,q0,q1,hp⟩:=jL (aE (aE HA.o.rs HKW.o) HK.o) hlta;obtain⟨g',o',ya,yl,yc,h2,hg',r0,r1,hp'⟩:=jL (aE (aE HB.o.rs HKW.o) HK.o) hltb;subst h1 h2;have HP:=Hd (fun V (h:K0 wr V)=>Dr n m D E x.rs[k].2 y.rs[k].2 _ _ V (HX.o.2.2.1 _ (List.getElem_mem hlta)) (HY.o.2.2.1 _ (List.getElem_mem hltb)) (aE hp h) (aE hp' h))
    have HTK:=Hd (fun e:x.rs[k]=y.rs[k]=>fG hlta hltb HT.o e);have HNE:=Hd (show x=y→x.rs[k]=y.rs[k] from fun h=>by simp only [h]);obtain⟨p,hpe⟩:∃p,p=x.rs[k]:=⟨_,rfl⟩;obtain⟨q,hqe⟩:∃q,q=y.rs[k]:=⟨_,rfl⟩;rw [←hpe] at q0 HP HTK HNE;rw [←hqe] at r0 HP HTK HNE;clear hp hp' hpe hqe hlta hltb HT;cases t9:(p.1==q.1) with
    | false=>
     have HN1:=Hd (ne_of_beq_false t9);go_wp2_with fail;go_quiet (fail);go_wp2_with fail;go_ret;exact⟨false,rfl,⟨fun h=>(by cases h),fun h=>absurd (by rw [HNE.o h]) HN1.o⟩,(HKW.o.trans HK.o k3).drewN _⟩
    | true=>
    have HN1:=Hd (eq_of_beq t9);go_wp2_with fail;go_still_tail 26,(by kernel_rfl);change wpList _ _ _ _ _ wr.drew;go_wp2_with fail;refine (HP.o _ ((aB.refl _ _).drew)).mono ?_;rintro e w2 ⟨r,rfl,hr,hk2⟩;have HK2:=Hd ((HK.o.trans ((aB.refl (fun _=>False) wr).drew) k3).trans hk2 k3);cases r with
    | true=>
     have HWD:=Hd (hr.1 rfl);clear hr hk2 HP;go_wp2_with fail;go_roundw
     case rel=>exact⟨k+1,by go_num,by omega,Hd (HTK.o (Prod.ext HN1.o HWD.o)),HK2⟩
     case measure=>simp [intOf];omega
    | false=>
     have HWD:=Hd (show p.2≠q.2 from fun h=>by have:=hr.2 h;cases this);clear hr hk2 HP;go_wp2_with fail;go_ret;exact⟨false,rfl,⟨fun h=>(by cases h),fun h=>absurd (by rw [HNE.o h]) HWD.o⟩,HKW.o.trans HK2.o k3⟩
   obtain rfl:k=rl:=by omega
   have HC5:=Hd (g7 HLR.o HLR'.o HT.o);have p1:¬(k:Int)<(k:Int):=by omega
   go_wp2_with fail;clear p1 hlt HT;clear x0 x1 x2 x3 x4 x5 x6 x7 y0 y1 y2 y3 y4 y5 y6 y7 lx ly;go_loopw [7] (fun k' wr=>∃k:Nat,k'=.int .i64 k∧k≤al∧Hid (x.ar.take k=y.ar.take k)∧Hid (K0 W wr)) (fun k' _=>al - (intOf k').toNat)
   case atStart=>exact⟨0,rfl,Nat.zero_le _,Hd rfl,HK⟩
   case round=>
    clear HK;obtain⟨k,rfl,hk,HT,HK⟩:=hrel;obtain⟨⟨x0,x1,x2,x3,x4,x5,x6,x7⟩,_⟩:=(HR1.o.keep HK.o (fun h=>h)).eight;obtain⟨⟨y0,y1,y2,y3,y4,y5,y6,y7⟩,_⟩:=(HR2.o.keep HK.o (fun h=>h)).eight;have lx:=(HR1.o.keep HK.o (fun h=>h)).lt;have ly:=(HR2.o.keep HK.o (fun h=>h)).lt;by_cases hlt:k<al
    ·have hlta:k<x.ar.length:=by rw [←HLA.o];exact hlt
     have hltb:k<y.ar.length:=by rw [←HLA'.o];exact hlt
     have p1:(k:Int)<(al:Int):=by omega
     obtain⟨g,o,pa,pn,pc,ba,bn,bc,h1,hg,q0,q1,hp,hbd⟩:=vK (aE (aE HA.o.ar HKW.o) HK.o) hlta;obtain⟨g',o',pa',pn',pc',ba',bn',bc',h2,hg',r0,r1,hp',hbd'⟩:=vK (aE (aE HB.o.ar HKW.o) HK.o) hltb;subst h1 h2;have hxa:=HX.o.2.2.2.2 _ (List.getElem_mem hlta);have hya:=HY.o.2.2.2.2 _ (List.getElem_mem hltb);have HP:=Hd (fun V (h:K0 wr V)=>M0 V D E n m x.ar[k].1 y.ar[k].1 hxa.1 hya.1 _ _ (aE hp h) (aE hp' h))
     have HQ:=Hd (fun V (h:K0 wr V)=>HSA.o n m hn V D E x.ar[k].2 y.ar[k].2 _ _ _ _ _ _ hxa.2 hya.2 (aE hbd h) (aE hbd' h));have HTK:=Hd (fun e:x.ar[k]=y.ar[k]=>fG hlta hltb HT.o e);have HNE:=Hd (show x=y→x.ar[k]=y.ar[k] from fun h=>by simp only [h]);obtain⟨p,hpe⟩:∃p,p=x.ar[k]:=⟨_,rfl⟩;obtain⟨q,hqe⟩:∃q,q=y.ar[k]:=⟨_,rfl⟩;rw [←hpe,←hqe] at HP HQ HTK HNE;clear hp hp' hbd hbd' hpe hqe hlta hltb HT hxa hya
     have HSS:=Hd (show ∀w',K0 wr w'→(fun w'=>w'.cell? ⟨w.heap.size,7,none⟩=some (.slice (some ⟨g,o,none⟩) al ac)∧w'.cell? ⟨w.heap.size+1,7,none⟩=some (.slice (some ⟨g',o',none⟩) al ac')∧w'.cell? ⟨g,o+k*2,none⟩=some (.slice pa pn pc)∧w'.cell? ⟨g,o+k*2+1,none⟩=some (.slice ba bn bc)∧w'.cell? ⟨g',o'+k*2,none⟩=some (.slice pa' pn' pc')∧w'.cell? ⟨g',o'+k*2+1,none⟩=some (.slice ba' bn' bc')∧K0 wr w') w' from fun w' hk=>⟨(World.cell?_of_block (a:=⟨w.heap.size,7,none⟩) (hk.block _ lx (fun h=>h))).trans x7,(World.cell?_of_block (a:=⟨w.heap.size+1,7,none⟩) (hk.block _ ly (fun h=>h))).trans y7,(World.cell?_of_block (a:=⟨g,o+k*2,none⟩) (hk.block _ hg (fun h=>h))).trans q0,(World.cell?_of_block (a:=⟨g,o+k*2+1,none⟩) (hk.block _ hg (fun h=>h))).trans q1,(World.cell?_of_block (a:=⟨g',o'+k*2,none⟩) (hk.block _ hg' (fun h=>h))).trans r0,(World.cell?_of_block (a:=⟨g',o'+k*2+1,none⟩) (hk.block _ hg' (fun h=>h))).trans r1,hk⟩)
     by_cases c9:p.1=q.1;rotate_left
     ·have HWD:=Hd c9;clear c9;go_wp2_with fail;refine wp_region_held_drew (S:=(fun w'=>w'.cell? ⟨w.heap.size,7,none⟩=some (.slice (some ⟨g,o,none⟩) al ac)∧w'.cell? ⟨w.heap.size+1,7,none⟩=some (.slice (some ⟨g',o',none⟩) al ac')∧w'.cell? ⟨g,o+k*2,none⟩=some (.slice pa pn pc)∧w'.cell? ⟨g,o+k*2+1,none⟩=some (.slice ba bn bc)∧w'.cell? ⟨g',o'+k*2,none⟩=some (.slice pa' pn' pc')∧w'.cell? ⟨g',o'+k*2+1,none⟩=some (.slice ba' bn' bc')∧K0 wr w')) (by kernel_rfl) (HSS.o _ ((aB.refl (fun _=>False) _).drew)) (fun hHeld=>?_)
      refine wpAnyH_take (i:=0) (v:=?_) rfl (by kernel_rfl) (by kernel_rfl) (by kernel_rfl) (fun _ _ _ h=>h) (Or.inl ⟨by rfl,?_⟩) (by assumption) ?_;rotate_left
      ·intro w hSw;(try dsimp only at hSw);go_simp;(try with_reducible rfl)
      (try simp only [Act.put,List.setIfInBounds_toArray,List.set_cons_zero,List.set_cons_succ,List.getElem_toArray,List.getElem_cons_zero])
      refine wpAnyH_take (i:=1) (v:=?_) rfl (by kernel_rfl) (by kernel_rfl) (by kernel_rfl) (fun _ _ _ h=>h) (Or.inl ⟨by rfl,?_⟩) (by assumption) ?_;rotate_left
      ·intro w hSw;(try dsimp only at hSw);go_simp;(try with_reducible rfl)
      (try simp only [Act.put,List.setIfInBounds_toArray,List.set_cons_zero,List.set_cons_succ,List.getElem_toArray,List.getElem_cons_succ,List.getElem_cons_zero])
      refine wpAnyH_take (i:=2) (v:=?_) rfl (by kernel_rfl) (by kernel_rfl) (by kernel_rfl) (fun _ _ _ h=>h) (Or.inl ⟨by rfl,?_⟩) (by assumption) ?_;rotate_left
      ·intro w hSw;(try dsimp only at hSw);go_simp;(try with_reducible rfl)
      (try simp only [Act.put,List.setIfInBounds_toArray,List.set_cons_zero,List.set_cons_succ,List.getElem_toArray,List.getElem_cons_succ,List.getElem_cons_zero])
      refine wpAnyH_take (i:=3) (v:=?_) rfl (by kernel_rfl) (by kernel_rfl) (by kernel_rfl) (fun _ _ _ h=>h) (Or.inl ⟨by rfl,?_⟩) (by assumption) ?_;rotate_left
      ·intro w hSw;(try dsimp only at hSw);go_simp;(try with_reducible rfl)
      (try simp only [Act.put,List.setIfInBounds_toArray,List.set_cons_zero,List.set_cons_succ,List.getElem_toArray,List.getElem_cons_succ,List.getElem_cons_zero])
      refine wpAnyH_take (i:=4) (v:=?_) rfl (by kernel_rfl) (by kernel_rfl) (by kernel_rfl) (fun _ _ _ h=>h) (Or.inl ⟨by rfl,?_⟩) (by assumption) ?_;rotate_left
      ·intro w hSw;(try dsimp only at hSw);go_simp;(try with_reducible rfl)
      (try simp only [Act.put,List.setIfInBounds_toArray,List.set_cons_zero,List.set_cons_succ,List.getElem_toArray,List.getElem_cons_succ,List.getElem_cons_zero])
      refine wpAnyH_take (i:=5) (v:=?_) rfl (by kernel_rfl) (by kernel_rfl) (by kernel_rfl) (fun _ _ _ h=>h) (Or.inl ⟨by rfl,?_⟩) (by assumption) ?_;rotate_left
      ·intro w hSw;(try dsimp only at hSw);go_simp;(try with_reducible rfl)
      (try simp only [Act.put,List.setIfInBounds_toArray,List.set_cons_zero,List.set_cons_succ,List.getElem_toArray,List.getElem_cons_succ,List.getElem_cons_zero])
      refine wpAnyH_take (i:=6) (v:=?_) rfl (by kernel_rfl) (by kernel_rfl) (by kernel_rfl) (fun _ _ _ h=>h) (Or.inl ⟨by rfl,?_⟩) (by assumption) ?_;rotate_left
      ·intro w hSw;(try dsimp only at hSw);go_simp;(try with_reducible rfl)
      (try simp only [Act.put,List.setIfInBounds_toArray,List.set_cons_zero,List.set_cons_succ,List.getElem_toArray,List.getElem_cons_succ,List.getElem_cons_zero])
      refine wpAnyH_take (i:=7) (v:=?_) rfl (by kernel_rfl) (by kernel_rfl) (by kernel_rfl) (fun _ _ _ h=>h) (Or.inl ⟨by rfl,?_⟩) (by assumption) ?_;rotate_left
      ·intro w hSw;(try dsimp only at hSw);go_simp;(try with_reducible rfl)
      (try simp only [Act.put,List.setIfInBounds_toArray,List.set_cons_zero,List.set_cons_succ,List.getElem_toArray,List.getElem_cons_succ,List.getElem_cons_zero])
      refine wpAnyH_take (i:=8) (v:=?_) rfl (by kernel_rfl) (by kernel_rfl) (by kernel_rfl) (fun _ _ _ h=>h) (Or.inl ⟨by rfl,?_⟩) (by assumption) ?_;rotate_left
      ·intro w hSw;(try dsimp only at hSw);go_simp;(try with_reducible rfl)
      (try simp only [Act.put,List.setIfInBounds_toArray,List.set_cons_zero,List.set_cons_succ,List.getElem_toArray,List.getElem_cons_succ,List.getElem_cons_zero])
      refine wpAnyH_take (i:=9) (v:=?_) rfl (by kernel_rfl) (by kernel_rfl) (by kernel_rfl) (fun _ _ _ h=>h) (Or.inl ⟨by rfl,?_⟩) (by assumption) ?_;rotate_left
      ·intro w hSw;(try dsimp only at hSw);go_simp;(try with_reducible rfl)
      (try simp only [Act.put,List.setIfInBounds_toArray,List.set_cons_zero,List.set_cons_succ,List.getElem_toArray,List.getElem_cons_succ,List.getElem_cons_zero])
      refine wpAnyH_take (i:=10) (v:=?_) rfl (by kernel_rfl) (by kernel_rfl) (by kernel_rfl) (fun _ _ _ h=>h) (Or.inl ⟨by rfl,?_⟩) (by assumption) ?_;rotate_left
      ·intro w hSw;(try dsimp only at hSw);go_simp;(try with_reducible rfl)
      (try simp only [Act.put,List.setIfInBounds_toArray,List.set_cons_zero,List.set_cons_succ,List.getElem_toArray,List.getElem_cons_succ,List.getElem_cons_zero])
      refine wpAnyH_take (i:=11) (v:=?_) rfl (by kernel_rfl) (by kernel_rfl) (by kernel_rfl) (fun _ _ _ h=>h) (Or.inl ⟨by rfl,?_⟩) (by assumption) ?_;rotate_left
      ·intro w hSw;(try dsimp only at hSw);go_simp;(try with_reducible rfl)
      (try simp only [Act.put,List.setIfInBounds_toArray,List.set_cons_zero,List.set_cons_succ,List.getElem_toArray,List.getElem_cons_succ,List.getElem_cons_zero])
      refine wpAnyH_ready (rs:=[12]) (by kernel_rfl) (by simp) (AllReadyH.cons rfl (fun K hK=>?_) AllReadyH.nil);go_simp;go_at_call 36;refine (HP.o _ ((aB.refl _ _).drew)).mono ?_;rintro e w2 ⟨r1,rfl,hr,hk2⟩;obtain rfl:r1=false:=(by cases r1 with | false=>rfl | true=>exact absurd (hr.1 rfl) HWD.o);have HKK:=(((aB.refl (fun _=>False) wr).drew).trans hk2 k3);have HK2:=Hd (HK.o.trans HKK k3)
      clear hr hk2;refine hK.out _ _ (HSS.o _ HKK) (fun hHeld2=>?_);clear hK K hHeld
      (try simp only [Act.put,List.setIfInBounds_toArray,List.set_cons_zero,List.set_cons_succ,List.getElem_toArray,List.getElem_cons_succ,List.getElem_cons_zero])
      refine wpAnyH_take (i:=13) (v:=?_) rfl (by kernel_rfl) (by kernel_rfl) (by kernel_rfl) (fun _ _ _ h=>h) (Or.inl ⟨by rfl,?_⟩) (by assumption) ?_;rotate_left
      ·intro w hSw;(try dsimp only at hSw);go_simp;(try with_reducible rfl)
      (try simp only [Act.put,List.setIfInBounds_toArray,List.set_cons_zero,List.set_cons_succ,List.getElem_toArray,List.getElem_cons_succ,List.getElem_cons_zero])
      refine wpAnyH_take (i:=14) (v:=?_) rfl (by kernel_rfl) (by kernel_rfl) (by kernel_rfl) (fun _ _ _ h=>h) (Or.inl ⟨by rfl,?_⟩) (by assumption) ?_;rotate_left
      ·intro w hSw;(try dsimp only at hSw);go_simp;(try with_reducible rfl)
      (try simp only [Act.put,List.setIfInBounds_toArray,List.set_cons_zero,List.set_cons_succ,List.getElem_toArray,List.getElem_cons_succ,List.getElem_cons_zero])
      refine wpAnyH_take (i:=15) (v:=undef) rfl (by kernel_rfl) (by kernel_rfl) (by kernel_rfl) (fun _ _ _ h=>h) (Or.inr ⟨by rfl,rfl⟩) (by assumption) ?_
      (try simp only [Act.put,List.setIfInBounds_toArray,List.set_cons_zero,List.set_cons_succ,List.getElem_toArray,List.getElem_cons_succ,List.getElem_cons_zero])
      refine wpAnyH_take (i:=16) (v:=undef) rfl (by kernel_rfl) (by kernel_rfl) (by kernel_rfl) (fun _ _ _ h=>h) (Or.inr ⟨by rfl,rfl⟩) (by assumption) ?_
      (try simp only [Act.put,List.setIfInBounds_toArray,List.set_cons_zero,List.set_cons_succ,List.getElem_toArray,List.getElem_cons_succ,List.getElem_cons_zero])
      refine wpAnyH_take (i:=17) (v:=undef) rfl (by kernel_rfl) (by kernel_rfl) (by kernel_rfl) (fun _ _ _ h=>h) (Or.inr ⟨by rfl,rfl⟩) (by assumption) ?_
      (try simp only [Act.put,List.setIfInBounds_toArray,List.set_cons_zero,List.set_cons_succ,List.getElem_toArray,List.getElem_cons_succ,List.getElem_cons_zero])
      refine wpAnyH_take (i:=18) (v:=undef) rfl (by kernel_rfl) (by kernel_rfl) (by kernel_rfl) (fun _ _ _ h=>h) (Or.inr ⟨by rfl,rfl⟩) (by assumption) ?_
      (try simp only [Act.put,List.setIfInBounds_toArray,List.set_cons_zero,List.set_cons_succ,List.getElem_toArray,List.getElem_cons_succ,List.getElem_cons_zero])
      refine wpAnyH_take (i:=19) (v:=undef) rfl (by kernel_rfl) (by kernel_rfl) (by kernel_rfl) (fun _ _ _ h=>h) (Or.inr ⟨by rfl,rfl⟩) (by assumption) ?_
      (try simp only [Act.put,List.setIfInBounds_toArray,List.set_cons_zero,List.set_cons_succ,List.getElem_toArray,List.getElem_cons_succ,List.getElem_cons_zero])
      refine wpAnyH_take (i:=20) (v:=undef) rfl (by kernel_rfl) (by kernel_rfl) (by kernel_rfl) (fun _ _ _ h=>h) (Or.inr ⟨by rfl,rfl⟩) (by assumption) ?_
      (try simp only [Act.put,List.setIfInBounds_toArray,List.set_cons_zero,List.set_cons_succ,List.getElem_toArray,List.getElem_cons_succ,List.getElem_cons_zero])
      refine wpAnyH_take (i:=21) (v:=undef) rfl (by kernel_rfl) (by kernel_rfl) (by kernel_rfl) (fun _ _ _ h=>h) (Or.inr ⟨by rfl,rfl⟩) (by assumption) ?_
      (try simp only [Act.put,List.setIfInBounds_toArray,List.set_cons_zero,List.set_cons_succ,List.getElem_toArray,List.getElem_cons_succ,List.getElem_cons_zero])
      refine wpAnyH_take (i:=22) (v:=undef) rfl (by kernel_rfl) (by kernel_rfl) (by kernel_rfl) (fun _ _ _ h=>h) (Or.inr ⟨by rfl,rfl⟩) (by assumption) ?_
      (try simp only [Act.put,List.setIfInBounds_toArray,List.set_cons_zero,List.set_cons_succ,List.getElem_toArray,List.getElem_cons_succ,List.getElem_cons_zero])
      refine wpAnyH_take (i:=23) (v:=undef) rfl (by kernel_rfl) (by kernel_rfl) (by kernel_rfl) (fun _ _ _ h=>h) (Or.inr ⟨by rfl,rfl⟩) (by assumption) ?_
      (try simp only [Act.put,List.setIfInBounds_toArray,List.set_cons_zero,List.set_cons_succ,List.getElem_toArray,List.getElem_cons_succ,List.getElem_cons_zero])
      refine wpAnyH_take (i:=24) (v:=undef) rfl (by kernel_rfl) (by kernel_rfl) (by kernel_rfl) (fun _ _ _ h=>h) (Or.inr ⟨by rfl,rfl⟩) (by assumption) ?_
      (try simp only [Act.put,List.setIfInBounds_toArray,List.set_cons_zero,List.set_cons_succ,List.getElem_toArray,List.getElem_cons_succ,List.getElem_cons_zero])
      refine wpAnyH_take (i:=25) (v:=undef) rfl (by kernel_rfl) (by kernel_rfl) (by kernel_rfl) (fun _ _ _ h=>h) (Or.inr ⟨by rfl,rfl⟩) (by assumption) ?_
      (try simp only [Act.put,List.setIfInBounds_toArray,List.set_cons_zero,List.set_cons_succ,List.getElem_toArray,List.getElem_cons_succ,List.getElem_cons_zero])
      refine wpAnyH_take (i:=26) (v:=undef) rfl (by kernel_rfl) (by kernel_rfl) (by kernel_rfl) (fun _ _ _ h=>h) (Or.inr ⟨by rfl,rfl⟩) (by assumption) ?_
      (try simp only [Act.put,List.setIfInBounds_toArray,List.set_cons_zero,List.set_cons_succ,List.getElem_toArray,List.getElem_cons_succ,List.getElem_cons_zero])
      refine wpAnyH_take (i:=27) (v:=undef) rfl (by kernel_rfl) (by kernel_rfl) (by kernel_rfl) (fun _ _ _ h=>h) (Or.inr ⟨by rfl,rfl⟩) (by assumption) ?_
      (try simp only [Act.put,List.setIfInBounds_toArray,List.set_cons_zero,List.set_cons_succ,List.getElem_toArray,List.getElem_cons_succ,List.getElem_cons_zero])
      refine wpAnyH_take (i:=28) (v:=undef) rfl (by kernel_rfl) (by kernel_rfl) (by kernel_rfl) (fun _ _ _ h=>h) (Or.inr ⟨by rfl,rfl⟩) (by assumption) ?_
      (try simp only [Act.put,List.setIfInBounds_toArray,List.set_cons_zero,List.set_cons_succ,List.getElem_toArray,List.getElem_cons_succ,List.getElem_cons_zero])
      refine wpAnyH_take (i:=29) (v:=?_) rfl (by kernel_rfl) (by kernel_rfl) (by kernel_rfl) (fun _ _ _ h=>h) (Or.inl ⟨by rfl,?_⟩) (by assumption) ?_;rotate_left
      ·intro w hSw;(try dsimp only at hSw);go_simp;(try with_reducible rfl)
      (try simp only [Act.put,List.setIfInBounds_toArray,List.set_cons_zero,List.set_cons_succ,List.getElem_toArray,List.getElem_cons_succ,List.getElem_cons_zero])
      refine wpAnyH_done (by kernel_rfl) ?_ _
      all_goals (
       go_wp2_with fail;go_ret;exact⟨false,rfl,⟨fun h=>(by cases h),fun h=>absurd (by rw [HNE.o h]) HWD.o⟩,HKW.o.trans HK2.o k3⟩)
     have HWD:=Hd c9;clear c9;go_wp2_with fail;go_region_held3 (fun w'=>w'.cell? ⟨w.heap.size,7,none⟩=some (.slice (some ⟨g,o,none⟩) al ac)∧w'.cell? ⟨w.heap.size+1,7,none⟩=some (.slice (some ⟨g',o',none⟩) al ac')∧w'.cell? ⟨g,o+k*2,none⟩=some (.slice pa pn pc)∧w'.cell? ⟨g,o+k*2+1,none⟩=some (.slice ba bn bc)∧w'.cell? ⟨g',o'+k*2,none⟩=some (.slice pa' pn' pc')∧w'.cell? ⟨g',o'+k*2+1,none⟩=some (.slice ba' bn' bc')∧K0 wr w') (first | exact HSS.o _ HKK | exact HSS.o _ ((aB.refl (fun _=>False) _).drew)) (first | (go_at_call 36;refine (HP.o _ ((aB.refl _ _).drew)).mono ?_;rintro e w2 ⟨r1,rfl,hr,hk2⟩;obtain rfl:r1=true:=hr.2 HWD.o;have HKK:=(((aB.refl (fun _=>False) wr).drew).trans hk2 k3);clear hr hk2) | (go_at_call 11;refine (HQ.o _ HKK).mono ?_;rintro e w3 ⟨r,rfl,hr3,hk3⟩;have HKK3:=HKK.trans hk3 k3;clear HKK;have HKK:=HKK3;have HK3:=Hd (HK.o.trans HKK k3);have HRR:=Hd hr3;clear hr3 hk3 HKK3))
     all_goals (
      cases r with
      | true=>
       have HWE2:=Hd (HRR.o.1 rfl);go_wp2_with fail;go_roundw
       case rel=>exact⟨k+1,by go_num,by omega,Hd (HTK.o (Prod.ext HWD.o HWE2.o)),HK3⟩
       case measure=>simp [intOf];omega
      | false=>
       have HWE2:=Hd (show p.2≠q.2 from fun h=>by have:=HRR.o.2 h;cases this);go_wp2_with fail;go_ret;exact⟨false,rfl,⟨fun h=>(by cases h),fun h=>absurd (by rw [HNE.o h]) HWE2.o⟩,HKW.o.trans HK3.o k3⟩)
    obtain rfl:k=al:=by omega
    have HC6:=Hd (g7 HLA.o HLA'.o HT.o);have p1:¬(k:Int)<(k:Int):=by omega
    go_wp2_with fail;refine (HS.o wr (HKW.o.trans HK.o k3)).mono ?_;rintro e w2 ⟨r,rfl,hr,hk2⟩;have HK2:=Hd ((HKW.o.trans HK.o k3).trans hk2 k3);have HRR:=Hd hr;clear hr hk2;go_wp2_with fail;go_ret;refine⟨r,rfl,⟨fun h=>?_,fun h=>HRR.o.2 (by rw [h])⟩,HK2.o⟩;exact Ny.ext' HC0.o HC1.o HC2.o HC3.o HC4.o HC5.o (HRR.o.1 h) HC6.o
theorem Ji:∀N,F7 N:=by
 intro N;induction N with
 | zero=>intro n m hn;omega
 | succ N ih=>
  intro n m hn w D E ds es aa ba an ac bn bc hds hes ha hb;obtain⟨xs,rfl,hxs⟩:=hds.out;obtain⟨ys,rfl,hys⟩:=hes.out;rw [Lb];have hc8:=bV;have hmx:=cR (by decide) ha;have hmy:=cR (by decide) hb;have HLA:=Hd (cK (k:=8) (fun _=>rfl) (by decide) ha).1;have HLB:=Hd (cK (k:=8) (fun _=>rfl) (by decide) hb).1;have HA:=Hd ha;have HB:=Hd hb;have HXS:=Hd hxs;have HYS:=Hd hys;have HIH:=Hd ih
  clear ha hb hxs hys hds hes ih;by_cases hl:an=bn
  ·subst hl;go_enter Tryz.func11,Tryz.ntmps11;go_wp2_with fail;go_loopw [5] (fun k' wr=>∃k:Nat,k'=.int .i64 k∧k≤an∧Hid (xs.take k=ys.take k)∧Hid (K0 w wr)) (fun k' _=>an - (intOf k').toNat)
   case atStart=>exact⟨0,rfl,Nat.zero_le _,Hd rfl,Hd (aB.refl _ _)⟩
   case round=>
    obtain⟨k,rfl,hk,HT,HK⟩:=hrel;by_cases hlt:k<an
    ·have hlta:k<xs.length:=by rw [←HLA.o];exact hlt
     have hltb:k<ys.length:=by rw [←HLB.o];exact hlt
     obtain⟨g,o,wa,wl,wc,ga,gl,gc,ra,rl,rcp,ka,kl,kc,aa,al,ac,h,hg,⟨q0,q1,q2,q3,q4,q5,q6,q7⟩,hx⟩:=iO (aE HA.o HK.o) hlta;obtain⟨g',o',wa',wl',wc',ga',gl',gc',ra',rl',rcp',ka',kl',kc',aa',al',ac',h',hg',⟨r0,r1,r2,r3,r4,r5,r6,r7⟩,hy⟩:=iO (aE HB.o HK.o) hltb;subst h h';have HP:=Hd (fun W (hw:K0 wr W)=>Qy N (n - 1) (m - 1) (by have:=(HXS.o _ (List.getElem_mem hlta)).1;omega) HIH.o W D E xs[k] ys[k] (HXS.o _ (List.getElem_mem hlta)).2 (HYS.o _ (List.getElem_mem hltb)).2 _ _ _ _ _ _ _ _ _ _ _ _ _ _ _ _ _ _ _ _ _ _ _ _ _ _ _ _ _ _ (hx.keep0 hw) (hy.keep0 hw))
     have HTK:=Hd (fun e:xs[k]=ys[k]=>fG hlta hltb HT.o e);have HNE:=Hd (show xs=ys→xs[k]=ys[k] from fun h=>by simp only [h]);obtain⟨x,hxe⟩:∃x,x=xs[k]:=⟨_,rfl⟩;obtain⟨y,hye⟩:∃y,y=ys[k]:=⟨_,rfl⟩;rw [←hxe,←hye] at HP HTK HNE;rw [←hxe] at q0 q1 q2;rw [←hye] at r0 r1 r2;obtain⟨kx,hkx⟩:∃l,l=x.kind:=⟨_,rfl⟩;obtain⟨tx,htx⟩:∃l,l=x.nt:=⟨_,rfl⟩;obtain⟨ky,hky⟩:∃l,l=y.kind:=⟨_,rfl⟩;obtain⟨ty,hty⟩:∃l,l=y.nt:=⟨_,rfl⟩
     obtain⟨nx,hnx⟩:∃l:ByteArray,l=⟨x.nm.toArray⟩:=⟨_,rfl⟩;obtain⟨ny,hny⟩:∃l:ByteArray,l=⟨y.nm.toArray⟩:=⟨_,rfl⟩;rw [←hkx,←htx,←hnx,←hky,←hty,←hny] at HP;rw [←hkx] at q0;rw [←htx] at q1;rw [←hnx] at q2;rw [←hky] at r0;rw [←hty] at r1;rw [←hny] at r2;clear hx hy hxe hye hlta hltb HT hkx htx hky hty hnx hny;have p1:(k:Int)<(an:Int):=by omega
     go_wp2_with fail;go_still_tail 8,(by kernel_rfl);change wpList _ _ _ _ _ wr.drew;go_wp2_with fail;refine (HP.o _ ((aB.refl _ _).drew)).mono ?_;rintro e w2 ⟨r,rfl,hr,hk2⟩;have HK2:=Hd ((HK.o.trans ((aB.refl (fun _=>False) wr).drew) k3).trans hk2 k3);cases r with
     | true=>
      have HWD:=Hd (hr.1 rfl);clear hr hk2 HP;go_wp2_with fail;go_roundw
      case rel=>exact⟨k+1,by go_num,by omega,Hd (HTK.o HWD.o),HK2⟩
      case measure=>simp [intOf];omega
     | false=>
      have HWD:=Hd (show x≠y from fun h=>by have:=hr.2 h;cases this);clear hr hk2 HP;go_wp2_with fail;go_ret;exact⟨false,rfl,⟨fun h=>(by cases h),fun h=>absurd (HNE.o h) HWD.o⟩,HK2.o⟩
    ·obtain rfl:k=an:=by omega
     have HF:=Hd (g7 HLA.o HLB.o HT.o);have p1:¬(k:Int)<(k:Int):=by omega
     go_wp2_with fail;go_ret;exact⟨true,rfl,⟨fun _=>HF.o,fun _=>rfl⟩,HK.o⟩
  ·have e1:((an:Int) != (bn:Int))=true:=by rw [bne_iff_ne];omega
   have HL:=Hd (show xs.length≠ys.length by rw [←HLA.o,←HLB.o];exact hl);clear hl;go_enter Tryz.func11,Tryz.ntmps11;go_wp2_with fail;go_ret;exact⟨false,rfl,⟨fun h=>(by cases h),fun h=>absurd (by rw [h]) HL.o⟩,aB.refl _ _⟩
end Go.Proofs.YtiihpbccabeoeaaGreatDoor
