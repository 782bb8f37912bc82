/- The walk: a part. -/
import Derived.Test.YtiihpbccabeoeaaGreatDoorYPsA
namespace Go.Proofs.YtiihpbccabeoeaaGreatDoor
open Go.RowKit
set_option linter.unusedVariables false
set_option maxRecDepth 100000
set_option maxHeartbeats 16000000
theorem sameN (N n m:Nat) (hn:n<N) (hsame:SameOKx N) (w:World) (D E:Nat→Prop) (x y:Ny) (hx:NyOK n x) (hy:NyOK m y) (wa:Option Addr) (wl wc:Nat) (ga:Option Addr) (gl gc:Nat) (ra:Option Addr) (rl rcp:Nat) (ka:Option Addr) (kl kc:Nat) (aa:Option Addr) (al ac:Nat) (wa':Option Addr) (wl' wc':Nat) (ga':Option Addr) (gl' gc':Nat) (ra':Option Addr) (rl' rcp':Nat) (ka':Option Addr) (kl' kc':Nat) (aa':Option Addr) (al' ac':Nat)
 (ha:NyR w D x wa wl wc ga gl gc ra rl rcp ka kl kc aa al ac) (hb:NyR w E y wa' wl' wc' ga' gl' gc' ra' rl' rcp' ka' kl' kc' aa' al' ac') :
 Calls Tryz.prog 22 #[.agg #[.int .i64 x.kind,.bool x.nt,.string ⟨x.nm.toArray⟩,.slice wa wl wc,.slice ga gl gc,.slice ra rl rcp,.slice ka kl kc,.slice aa al ac],.agg #[.int .i64 y.kind,.bool y.nt,.string ⟨y.nm.toArray⟩,.slice wa' wl' wc',.slice ga' gl' gc',.slice ra' rl' rcp',.slice ka' kl' kc',.slice aa' al' ac']] w (SamePost w (x=y)):=by
 have hcA:Tryz.prog.cellsOf 84=2:=by kernel_rfl
 have hcR:Tryz.prog.cellsOf 86=2:=by kernel_rfl
 have hcM:Tryz.prog.cellsOf 49=2:=by kernel_rfl
 have hg2:=rdBound (by decide) ha.gs;have hr2:=rdBound (by decide) ha.rs;have ha2:=rdBound (by decide) ha.ar;have HLG:=Hd (rdRecs (k:=2) (fun _=>rfl) (by decide) ha.gs).1;have HLG':=Hd (rdRecs (k:=2) (fun _=>rfl) (by decide) hb.gs).1;have HLR:=Hd (rdRecs (k:=2) (fun _=>rfl) (by decide) ha.rs).1;have HLR':=Hd (rdRecs (k:=2) (fun _=>rfl) (by decide) hb.rs).1;have HLA:=Hd (rdRecs (k:=2) (fun _=>rfl) (by decide) ha.ar).1
 have HLA':=Hd (rdRecs (k:=2) (fun _=>rfl) (by decide) hb.ar).1;have HW:=Hd (fun W (h:Keeps (fun _=>False) w W)=>sameWx W D E n m x.ws y.ws hx.1 hy.1 _ _ (rdKeep0 ha.ws h) (rdKeep0 hb.ws h));have HS:=Hd (fun W (h:Keeps (fun _=>False) w W)=>hsame n m hn W D E x.ks y.ks _ _ _ _ _ _ hx.2.2.2.1 hy.2.2.2.1 (rdKeep0 ha.ks h) (rdKeep0 hb.ks h));have HSA:=Hd hsame;have HX:=Hd hx;have HY:=Hd hy;have HA:=Hd ha
 have HB:=Hd hb;obtain⟨kx,hkx⟩:∃l,l=x.kind:=⟨_,rfl⟩;obtain⟨tx,htx⟩:∃l,l=x.nt:=⟨_,rfl⟩;obtain⟨ky,hky⟩:∃l,l=y.kind:=⟨_,rfl⟩;obtain⟨ty,hty⟩:∃l,l=y.nt:=⟨_,rfl⟩;rw [←hkx,←htx,←hky,←hty];clear ha hb hx hy hsame;obtain⟨W,hW⟩:∃W,W=((w.alloc (.cells #[.int .i64 kx,.bool tx,.string ⟨x.nm.toArray⟩,.slice wa wl wc,.slice ga gl gc,.slice ra rl rcp,.slice ka kl kc,.slice aa al ac] 44)).alloc (.cells #[.int .i64 ky,.bool ty,.string ⟨y.nm.toArray⟩,.slice wa' wl' wc',.slice ga' gl' gc',.slice ra' rl' rcp',.slice ka' kl' kc',.slice aa' al' ac'] 44)):=⟨_,rfl⟩
 have hkW:Keeps (fun _=>False) w W:=by rw [hW];exact ((Keeps.refl _ _).alloc _).alloc _
 have hR1:RecAt W w.heap.size [.int .i64 kx,.bool tx,.string ⟨x.nm.toArray⟩,.slice wa wl wc,.slice ga gl gc,.slice ra rl rcp,.slice ka kl kc,.slice aa al ac]:=by
  rw [hW];exact (new_rec8 w _ _ _ _ _ _ _ _ _).keep (S:=fun _=>False) ((Keeps.refl _ _).alloc _) (fun h=>h)
 have hR2:RecAt W (w.heap.size+1) [.int .i64 ky,.bool ty,.string ⟨y.nm.toArray⟩,.slice wa' wl' wc',.slice ga' gl' gc',.slice ra' rl' rcp',.slice ka' kl' kc',.slice aa' al' ac']:=by
  rw [hW];have h:=new_rec8 (w.alloc (.cells #[.int .i64 kx,.bool tx,.string ⟨x.nm.toArray⟩,.slice wa wl wc,.slice ga gl gc,.slice ra rl rcp,.slice ka kl kc,.slice aa al ac] 44)) (.int .i64 ky) (.bool ty) (.string ⟨y.nm.toArray⟩) (.slice wa' wl' wc') (.slice ga' gl' gc') (.slice ra' rl' rcp') (.slice ka' kl' kc') (.slice aa' al' ac') 44;rw [show (w.alloc (.cells #[.int .i64 kx,.bool tx,.string ⟨x.nm.toArray⟩,.slice wa wl wc,.slice ga gl gc,.slice ra rl rcp,.slice ka kl kc,.slice aa al ac] 44)).heap.size=w.heap.size+1 by simp] at h
  exact h
 have HR1:=Hd hR1;have HR2:=Hd hR2;have HKW:=Hd hkW;have HWE:=Hd hW;clear hW hR1 hR2 hkW;by_cases c0:kx=ky;rotate_left
 ·have t0:(kx != ky)=true:=by rw [bne_iff_ne];exact c0
  have C0:=Hd (show x.kind≠y.kind by rw [←hkx,←hky];exact c0);clear c0 hkx hky htx hty;go_enter Tryz.func22,Tryz.ntmps22;go_wp2_with fail;go_ret;exact⟨false,rfl,⟨fun h=>(by cases h),fun h=>absurd (by rw [h]) C0.out⟩,by rw [HWE.out] at HKW;exact HKW.out⟩
 have HC0:=Hd (hkx.symm.trans (c0.trans hky));have t0:(ky != ky)=false:=by simp
 clear hkx hky;subst c0;by_cases c1:tx=ty;rotate_left
 ·have C1:=Hd (show x.nt≠y.nt by rw [←htx,←hty];exact c1);clear htx hty;go_enter Tryz.func22,Tryz.ntmps22;cases tx<;>cases ty
  ·exact absurd rfl c1
  ·clear c1;go_wp2_with fail;go_ret;exact⟨false,rfl,⟨fun h=>(by cases h),fun h=>absurd (by rw [h]) C1.out⟩,by rw [HWE.out] at HKW;exact HKW.out⟩
  ·clear c1;go_wp2_with fail;go_ret;exact⟨false,rfl,⟨fun h=>(by cases h),fun h=>absurd (by rw [h]) C1.out⟩,by rw [HWE.out] at HKW;exact HKW.out⟩
  ·exact absurd rfl c1
 have HC1:=Hd (htx.symm.trans (c1.trans hty));clear htx hty;subst c1;cases t2:(x.nm==y.nm) with
 | false=>
  have C2:=Hd (ne_of_beq_false t2);go_enter Tryz.func22,Tryz.ntmps22;go_wp2_with fail;go_ret;exact⟨false,rfl,⟨fun h=>(by cases h),fun h=>absurd (by rw [h]) C2.out⟩,by rw [HWE.out] at HKW;exact HKW.out⟩
 | true=>
 have HC2:=Hd (eq_of_beq t2);go_enter Tryz.func22,Tryz.ntmps22;go_wp2_with fail;rw [←HWE.out];refine (HW.out W HKW.out).mono ?_;rintro e w1 ⟨r,rfl,hr,hk1⟩;have HK1:=Hd hk1;cases r with
 | false=>
  have HC3:=Hd (show x.ws≠y.ws from fun h=>by have:=hr.2 h;cases this);obtain⟨⟨x0,x1,x2,x3,x4,x5,x6,x7⟩,_⟩:=(HR1.out.keep hk1 (fun h=>h)).eight;obtain⟨⟨y0,y1,y2,y3,y4,y5,y6,y7⟩,_⟩:=(HR2.out.keep hk1 (fun h=>h)).eight;have lx:=(HR1.out.keep hk1 (fun h=>h)).lt;have ly:=(HR2.out.keep hk1 (fun h=>h)).lt;clear hk1 hr;go_wp2_with fail;go_ret;exact⟨false,rfl,⟨fun h=>(by cases h),fun h=>absurd (by rw [h]) HC3.out⟩,HKW.out.trans HK1.out (fun _ _ h=>h)⟩
 | true=>
 have HC3:=Hd (hr.1 rfl);obtain⟨⟨x0,x1,x2,x3,x4,x5,x6,x7⟩,_⟩:=(HR1.out.keep hk1 (fun h=>h)).eight;obtain⟨⟨y0,y1,y2,y3,y4,y5,y6,y7⟩,_⟩:=(HR2.out.keep hk1 (fun h=>h)).eight;have lx:=(HR1.out.keep hk1 (fun h=>h)).lt;have ly:=(HR2.out.keep hk1 (fun h=>h)).lt;clear hk1 hr;by_cases dgl:gl=gl';rotate_left
 ·have e1:((gl:Int) != (gl':Int))=true:=by rw [bne_iff_ne];omega
  have HD:=Hd (show x.gs.length≠y.gs.length by rw [←HLG.out,←HLG'.out];exact dgl);clear dgl;go_wp2_with fail;go_ret;exact⟨false,rfl,⟨fun h=>(by cases h),fun h=>absurd (by rw [h]) HD.out⟩,HKW.out.trans HK1.out (fun _ _ h=>h)⟩
 subst dgl;by_cases drl:rl=rl';rotate_left
 ·have e1:((rl:Int) != (rl':Int))=true:=by rw [bne_iff_ne];omega
  have HD:=Hd (show x.rs.length≠y.rs.length by rw [←HLR.out,←HLR'.out];exact drl);clear drl;go_wp2_with fail;go_ret;exact⟨false,rfl,⟨fun h=>(by cases h),fun h=>absurd (by rw [h]) HD.out⟩,HKW.out.trans HK1.out (fun _ _ h=>h)⟩
 subst drl;by_cases dal:al=al';rotate_left
 ·have e1:((al:Int) != (al':Int))=true:=by rw [bne_iff_ne];omega
  have HD:=Hd (show x.ar.length≠y.ar.length by rw [←HLA.out,←HLA'.out];exact dal);clear dal;go_wp2_with fail;go_ret;exact⟨false,rfl,⟨fun h=>(by cases h),fun h=>absurd (by rw [h]) HD.out⟩,HKW.out.trans HK1.out (fun _ _ h=>h)⟩
 subst dal;go_wp2_with fail;clear x0 x1 x2 x3 x4 x5 x6 x7 y0 y1 y2 y3 y4 y5 y6 y7 lx ly;go_loopw [5] (fun k' wr=>∃k:Nat,k'=.int .i64 k∧k≤gl∧Hid (x.gs.take k=y.gs.take k)∧Hid (Keeps (fun _=>False) W wr)) (fun k' _=>gl - (intOf k').toNat)
 case atStart=>exact⟨0,rfl,Nat.zero_le _,Hd rfl,HK1⟩
 case round=>
  obtain⟨k,rfl,hk,HT,HK⟩:=hrel;obtain⟨⟨x0,x1,x2,x3,x4,x5,x6,x7⟩,_⟩:=(HR1.out.keep HK.out (fun h=>h)).eight;obtain⟨⟨y0,y1,y2,y3,y4,y5,y6,y7⟩,_⟩:=(HR2.out.keep HK.out (fun h=>h)).eight;have lx:=(HR1.out.keep HK.out (fun h=>h)).lt;have ly:=(HR2.out.keep HK.out (fun h=>h)).lt;by_cases hlt:k<gl
  ·have hlta:k<x.gs.length:=by rw [←HLG.out];exact hlt
   have hltb:k<y.gs.length:=by rw [←HLG'.out];exact hlt
   have p1:(k:Int)<(gl:Int):=by omega
   obtain⟨g,o,xa,xl,xc,h1,hg,q0,q1,hp⟩:=pairsAt (rdKeep0 (rdKeep0 HA.out.gs HKW.out) HK.out) hlta;obtain⟨g',o',ya,yl,yc,h2,hg',r0,r1,hp'⟩:=pairsAt (rdKeep0 (rdKeep0 HB.out.gs HKW.out) HK.out) hltb;subst h1 h2;have HP:=Hd (fun V (h:Keeps (fun _=>False) wr V)=>samePx n m D E x.gs[k].2 y.gs[k].2 _ _ V (HX.out.2.1 _ (List.getElem_mem hlta)) (HY.out.2.1 _ (List.getElem_mem hltb)) (rdKeep0 hp h) (rdKeep0 hp' h))
   have HTK:=Hd (fun e:x.gs[k]=y.gs[k]=>take_same hlta hltb HT.out e);have HNE:=Hd (show x=y→x.gs[k]=y.gs[k] from fun h=>by simp only [h]);obtain⟨p,hpe⟩:∃p,p=x.gs[k]:=⟨_,rfl⟩;obtain⟨q,hqe⟩:∃q,q=y.gs[k]:=⟨_,rfl⟩;rw [←hpe] at q0 HP HTK HNE;rw [←hqe] at r0 HP HTK HNE;clear hp hp' hpe hqe hlta hltb HT;cases t9:(p.1==q.1) with
   | false=>
    have HN1:=Hd (ne_of_beq_false t9);go_wp2_with fail;go_quiet (fail);go_wp2_with fail;go_ret;exact⟨false,rfl,⟨fun h=>(by cases h),fun h=>absurd (by rw [HNE.out h]) HN1.out⟩,(HKW.out.trans HK.out (fun _ _ h=>h)).drewN _⟩
   | true=>
   have HN1:=Hd (eq_of_beq t9);go_wp2_with fail;go_still_tail 26,(by kernel_rfl);change wpList _ _ _ _ _ wr.drew;go_wp2_with fail;refine (HP.out _ ((Keeps.refl _ _).drew)).mono ?_;rintro e w2 ⟨r,rfl,hr,hk2⟩;have HK2:=Hd ((HK.out.trans ((Keeps.refl (fun _=>False) wr).drew) (fun _ _ h=>h)).trans hk2 (fun _ _ h=>h));cases r with
   | true=>
    have HWD:=Hd (hr.1 rfl);clear hr hk2 HP;go_wp2_with fail;go_roundw
    case rel=>exact⟨k+1,by go_num,by omega,Hd (HTK.out (Prod.ext HN1.out HWD.out)),HK2⟩
    case measure=>simp [intOf];omega
   | false=>
    have HWD:=Hd (show p.2≠q.2 from fun h=>by have:=hr.2 h;cases this);clear hr hk2 HP;go_wp2_with fail;go_ret;exact⟨false,rfl,⟨fun h=>(by cases h),fun h=>absurd (by rw [HNE.out h]) HWD.out⟩,HKW.out.trans HK2.out (fun _ _ h=>h)⟩
  obtain rfl:k=gl:=by omega
  have HC4:=Hd (take_all HLG.out HLG'.out HT.out);have p1:¬(k:Int)<(k:Int):=by omega
  go_wp2_with fail;clear p1 hlt HT;clear x0 x1 x2 x3 x4 x5 x6 x7 y0 y1 y2 y3 y4 y5 y6 y7 lx ly;go_loopw [6] (fun k' wr=>∃k:Nat,k'=.int .i64 k∧k≤rl∧Hid (x.rs.take k=y.rs.take k)∧Hid (Keeps (fun _=>False) W wr)) (fun k' _=>rl - (intOf k').toNat)
  case atStart=>exact⟨0,rfl,Nat.zero_le _,Hd rfl,HK⟩
  case round=>
   obtain⟨k,rfl,hk,HT,HK⟩:=hrel;obtain⟨⟨x0,x1,x2,x3,x4,x5,x6,x7⟩,_⟩:=(HR1.out.keep HK.out (fun h=>h)).eight;obtain⟨⟨y0,y1,y2,y3,y4,y5,y6,y7⟩,_⟩:=(HR2.out.keep HK.out (fun h=>h)).eight;have lx:=(HR1.out.keep HK.out (fun h=>h)).lt;have ly:=(HR2.out.keep HK.out (fun h=>h)).lt;by_cases hlt:k<rl
   ·have hlta:k<x.rs.length:=by rw [←HLR.out];exact hlt
    have hltb:k<y.rs.length:=by rw [←HLR'.out];exact hlt
    have p1:(k:Int)<(rl:Int):=by omega
    obtain⟨g,o,xa,xl,xc,h1,hg,q0,q1,hp⟩:=pairsAt (rdKeep0 (rdKeep0 HA.out.rs HKW.out) HK.out) hlta;obtain⟨g',o',ya,yl,yc,h2,hg',r0,r1,hp'⟩:=pairsAt (rdKeep0 (rdKeep0 HB.out.rs HKW.out) HK.out) hltb;subst h1 h2;have HP:=Hd (fun V (h:Keeps (fun _=>False) wr V)=>samePx n m D E x.rs[k].2 y.rs[k].2 _ _ V (HX.out.2.2.1 _ (List.getElem_mem hlta)) (HY.out.2.2.1 _ (List.getElem_mem hltb)) (rdKeep0 hp h) (rdKeep0 hp' h))
    have HTK:=Hd (fun e:x.rs[k]=y.rs[k]=>take_same hlta hltb HT.out e);have HNE:=Hd (show x=y→x.rs[k]=y.rs[k] from fun h=>by simp only [h]);obtain⟨p,hpe⟩:∃p,p=x.rs[k]:=⟨_,rfl⟩;obtain⟨q,hqe⟩:∃q,q=y.rs[k]:=⟨_,rfl⟩;rw [←hpe] at q0 HP HTK HNE;rw [←hqe] at r0 HP HTK HNE;clear hp hp' hpe hqe hlta hltb HT;cases t9:(p.1==q.1) with
    | false=>
     have HN1:=Hd (ne_of_beq_false t9);go_wp2_with fail;go_quiet (fail);go_wp2_with fail;go_ret;exact⟨false,rfl,⟨fun h=>(by cases h),fun h=>absurd (by rw [HNE.out h]) HN1.out⟩,(HKW.out.trans HK.out (fun _ _ h=>h)).drewN _⟩
    | true=>
    have HN1:=Hd (eq_of_beq t9);go_wp2_with fail;go_still_tail 26,(by kernel_rfl);change wpList _ _ _ _ _ wr.drew;go_wp2_with fail;refine (HP.out _ ((Keeps.refl _ _).drew)).mono ?_;rintro e w2 ⟨r,rfl,hr,hk2⟩;have HK2:=Hd ((HK.out.trans ((Keeps.refl (fun _=>False) wr).drew) (fun _ _ h=>h)).trans hk2 (fun _ _ h=>h));cases r with
    | true=>
     have HWD:=Hd (hr.1 rfl);clear hr hk2 HP;go_wp2_with fail;go_roundw
     case rel=>exact⟨k+1,by go_num,by omega,Hd (HTK.out (Prod.ext HN1.out HWD.out)),HK2⟩
     case measure=>simp [intOf];omega
    | false=>
     have HWD:=Hd (show p.2≠q.2 from fun h=>by have:=hr.2 h;cases this);clear hr hk2 HP;go_wp2_with fail;go_ret;exact⟨false,rfl,⟨fun h=>(by cases h),fun h=>absurd (by rw [HNE.out h]) HWD.out⟩,HKW.out.trans HK2.out (fun _ _ h=>h)⟩
   obtain rfl:k=rl:=by omega
   have HC5:=Hd (take_all HLR.out HLR'.out HT.out);have p1:¬(k:Int)<(k:Int):=by omega
   go_wp2_with fail;clear p1 hlt HT;clear x0 x1 x2 x3 x4 x5 x6 x7 y0 y1 y2 y3 y4 y5 y6 y7 lx ly;go_loopw [7] (fun k' wr=>∃k:Nat,k'=.int .i64 k∧k≤al∧Hid (x.ar.take k=y.ar.take k)∧Hid (Keeps (fun _=>False) W wr)) (fun k' _=>al - (intOf k').toNat)
   case atStart=>exact⟨0,rfl,Nat.zero_le _,Hd rfl,HK⟩
   case round=>
    clear HK;obtain⟨k,rfl,hk,HT,HK⟩:=hrel;obtain⟨⟨x0,x1,x2,x3,x4,x5,x6,x7⟩,_⟩:=(HR1.out.keep HK.out (fun h=>h)).eight;obtain⟨⟨y0,y1,y2,y3,y4,y5,y6,y7⟩,_⟩:=(HR2.out.keep HK.out (fun h=>h)).eight;have lx:=(HR1.out.keep HK.out (fun h=>h)).lt;have ly:=(HR2.out.keep HK.out (fun h=>h)).lt;by_cases hlt:k<al
    ·have hlta:k<x.ar.length:=by rw [←HLA.out];exact hlt
     have hltb:k<y.ar.length:=by rw [←HLA'.out];exact hlt
     have p1:(k:Int)<(al:Int):=by omega
     obtain⟨g,o,pa,pn,pc,ba,bn,bc,h1,hg,q0,q1,hp,hbd⟩:=armsAt (rdKeep0 (rdKeep0 HA.out.ar HKW.out) HK.out) hlta;obtain⟨g',o',pa',pn',pc',ba',bn',bc',h2,hg',r0,r1,hp',hbd'⟩:=armsAt (rdKeep0 (rdKeep0 HB.out.ar HKW.out) HK.out) hltb;subst h1 h2;have hxa:=HX.out.2.2.2.2 _ (List.getElem_mem hlta);have hya:=HY.out.2.2.2.2 _ (List.getElem_mem hltb);have HP:=Hd (fun V (h:Keeps (fun _=>False) wr V)=>sameWx V D E n m x.ar[k].1 y.ar[k].1 hxa.1 hya.1 _ _ (rdKeep0 hp h) (rdKeep0 hp' h))
     have HQ:=Hd (fun V (h:Keeps (fun _=>False) wr V)=>HSA.out n m hn V D E x.ar[k].2 y.ar[k].2 _ _ _ _ _ _ hxa.2 hya.2 (rdKeep0 hbd h) (rdKeep0 hbd' h));have HTK:=Hd (fun e:x.ar[k]=y.ar[k]=>take_same hlta hltb HT.out e);have HNE:=Hd (show x=y→x.ar[k]=y.ar[k] from fun h=>by simp only [h]);obtain⟨p,hpe⟩:∃p,p=x.ar[k]:=⟨_,rfl⟩;obtain⟨q,hqe⟩:∃q,q=y.ar[k]:=⟨_,rfl⟩;rw [←hpe,←hqe] at HP HQ HTK HNE;clear hp hp' hbd hbd' hpe hqe hlta hltb HT hxa hya
     have HSS:=Hd (show ∀w',Keeps (fun _=>False) wr w'→(fun w'=>w'.cell? ⟨w.heap.size,7,none⟩=some (.slice (some ⟨g,o,none⟩) al ac)∧w'.cell? ⟨w.heap.size+1,7,none⟩=some (.slice (some ⟨g',o',none⟩) al ac')∧w'.cell? ⟨g,o+k*2,none⟩=some (.slice pa pn pc)∧w'.cell? ⟨g,o+k*2+1,none⟩=some (.slice ba bn bc)∧w'.cell? ⟨g',o'+k*2,none⟩=some (.slice pa' pn' pc')∧w'.cell? ⟨g',o'+k*2+1,none⟩=some (.slice ba' bn' bc')∧Keeps (fun _=>False) wr w') w' from fun w' hk=>⟨(World.cell?_of_block (a:=⟨w.heap.size,7,none⟩) (hk.block _ lx (fun h=>h))).trans x7,(World.cell?_of_block (a:=⟨w.heap.size+1,7,none⟩) (hk.block _ ly (fun h=>h))).trans y7,(World.cell?_of_block (a:=⟨g,o+k*2,none⟩) (hk.block _ hg (fun h=>h))).trans q0,(World.cell?_of_block (a:=⟨g,o+k*2+1,none⟩) (hk.block _ hg (fun h=>h))).trans q1,(World.cell?_of_block (a:=⟨g',o'+k*2,none⟩) (hk.block _ hg' (fun h=>h))).trans r0,(World.cell?_of_block (a:=⟨g',o'+k*2+1,none⟩) (hk.block _ hg' (fun h=>h))).trans r1,hk⟩)
     by_cases c9:p.1=q.1;rotate_left
     ·have HWD:=Hd c9;clear c9;go_wp2_with fail;refine wp_region_held_drew (S:=(fun w'=>w'.cell? ⟨w.heap.size,7,none⟩=some (.slice (some ⟨g,o,none⟩) al ac)∧w'.cell? ⟨w.heap.size+1,7,none⟩=some (.slice (some ⟨g',o',none⟩) al ac')∧w'.cell? ⟨g,o+k*2,none⟩=some (.slice pa pn pc)∧w'.cell? ⟨g,o+k*2+1,none⟩=some (.slice ba bn bc)∧w'.cell? ⟨g',o'+k*2,none⟩=some (.slice pa' pn' pc')∧w'.cell? ⟨g',o'+k*2+1,none⟩=some (.slice ba' bn' bc')∧Keeps (fun _=>False) wr w')) (by kernel_rfl) (HSS.out _ ((Keeps.refl (fun _=>False) _).drew)) (fun hHeld=>?_)
      refine wpAnyH_take (i:=0) (v:=?_) rfl (by kernel_rfl) (by kernel_rfl) (by kernel_rfl) (fun _ _ _ h=>h) (Or.inl ⟨by rfl,?_⟩) (by assumption) ?_;rotate_left
      ·intro w hSw;(try dsimp only at hSw);go_simp;(try with_reducible rfl)
      (try simp only [Act.put,List.setIfInBounds_toArray,List.set_cons_zero,List.set_cons_succ,List.getElem_toArray,List.getElem_cons_zero])
      refine wpAnyH_take (i:=1) (v:=?_) rfl (by kernel_rfl) (by kernel_rfl) (by kernel_rfl) (fun _ _ _ h=>h) (Or.inl ⟨by rfl,?_⟩) (by assumption) ?_;rotate_left
      ·intro w hSw;(try dsimp only at hSw);go_simp;(try with_reducible rfl)
      (try simp only [Act.put,List.setIfInBounds_toArray,List.set_cons_zero,List.set_cons_succ,List.getElem_toArray,List.getElem_cons_succ,List.getElem_cons_zero])
      refine wpAnyH_take (i:=2) (v:=?_) rfl (by kernel_rfl) (by kernel_rfl) (by kernel_rfl) (fun _ _ _ h=>h) (Or.inl ⟨by rfl,?_⟩) (by assumption) ?_;rotate_left
      ·intro w hSw;(try dsimp only at hSw);go_simp;(try with_reducible rfl)
      (try simp only [Act.put,List.setIfInBounds_toArray,List.set_cons_zero,List.set_cons_succ,List.getElem_toArray,List.getElem_cons_succ,List.getElem_cons_zero])
      refine wpAnyH_take (i:=3) (v:=?_) rfl (by kernel_rfl) (by kernel_rfl) (by kernel_rfl) (fun _ _ _ h=>h) (Or.inl ⟨by rfl,?_⟩) (by assumption) ?_;rotate_left
      ·intro w hSw;(try dsimp only at hSw);go_simp;(try with_reducible rfl)
      (try simp only [Act.put,List.setIfInBounds_toArray,List.set_cons_zero,List.set_cons_succ,List.getElem_toArray,List.getElem_cons_succ,List.getElem_cons_zero])
      refine wpAnyH_take (i:=4) (v:=?_) rfl (by kernel_rfl) (by kernel_rfl) (by kernel_rfl) (fun _ _ _ h=>h) (Or.inl ⟨by rfl,?_⟩) (by assumption) ?_;rotate_left
      ·intro w hSw;(try dsimp only at hSw);go_simp;(try with_reducible rfl)
      (try simp only [Act.put,List.setIfInBounds_toArray,List.set_cons_zero,List.set_cons_succ,List.getElem_toArray,List.getElem_cons_succ,List.getElem_cons_zero])
      refine wpAnyH_take (i:=5) (v:=?_) rfl (by kernel_rfl) (by kernel_rfl) (by kernel_rfl) (fun _ _ _ h=>h) (Or.inl ⟨by rfl,?_⟩) (by assumption) ?_;rotate_left
      ·intro w hSw;(try dsimp only at hSw);go_simp;(try with_reducible rfl)
      (try simp only [Act.put,List.setIfInBounds_toArray,List.set_cons_zero,List.set_cons_succ,List.getElem_toArray,List.getElem_cons_succ,List.getElem_cons_zero])
      refine wpAnyH_take (i:=6) (v:=?_) rfl (by kernel_rfl) (by kernel_rfl) (by kernel_rfl) (fun _ _ _ h=>h) (Or.inl ⟨by rfl,?_⟩) (by assumption) ?_;rotate_left
      ·intro w hSw;(try dsimp only at hSw);go_simp;(try with_reducible rfl)
      (try simp only [Act.put,List.setIfInBounds_toArray,List.set_cons_zero,List.set_cons_succ,List.getElem_toArray,List.getElem_cons_succ,List.getElem_cons_zero])
      refine wpAnyH_take (i:=7) (v:=?_) rfl (by kernel_rfl) (by kernel_rfl) (by kernel_rfl) (fun _ _ _ h=>h) (Or.inl ⟨by rfl,?_⟩) (by assumption) ?_;rotate_left
      ·intro w hSw;(try dsimp only at hSw);go_simp;(try with_reducible rfl)
      (try simp only [Act.put,List.setIfInBounds_toArray,List.set_cons_zero,List.set_cons_succ,List.getElem_toArray,List.getElem_cons_succ,List.getElem_cons_zero])
      refine wpAnyH_take (i:=8) (v:=?_) rfl (by kernel_rfl) (by kernel_rfl) (by kernel_rfl) (fun _ _ _ h=>h) (Or.inl ⟨by rfl,?_⟩) (by assumption) ?_;rotate_left
      ·intro w hSw;(try dsimp only at hSw);go_simp;(try with_reducible rfl)
      (try simp only [Act.put,List.setIfInBounds_toArray,List.set_cons_zero,List.set_cons_succ,List.getElem_toArray,List.getElem_cons_succ,List.getElem_cons_zero])
      refine wpAnyH_take (i:=9) (v:=?_) rfl (by kernel_rfl) (by kernel_rfl) (by kernel_rfl) (fun _ _ _ h=>h) (Or.inl ⟨by rfl,?_⟩) (by assumption) ?_;rotate_left
      ·intro w hSw;(try dsimp only at hSw);go_simp;(try with_reducible rfl)
      (try simp only [Act.put,List.setIfInBounds_toArray,List.set_cons_zero,List.set_cons_succ,List.getElem_toArray,List.getElem_cons_succ,List.getElem_cons_zero])
      refine wpAnyH_take (i:=10) (v:=?_) rfl (by kernel_rfl) (by kernel_rfl) (by kernel_rfl) (fun _ _ _ h=>h) (Or.inl ⟨by rfl,?_⟩) (by assumption) ?_;rotate_left
      ·intro w hSw;(try dsimp only at hSw);go_simp;(try with_reducible rfl)
      (try simp only [Act.put,List.setIfInBounds_toArray,List.set_cons_zero,List.set_cons_succ,List.getElem_toArray,List.getElem_cons_succ,List.getElem_cons_zero])
      refine wpAnyH_take (i:=11) (v:=?_) rfl (by kernel_rfl) (by kernel_rfl) (by kernel_rfl) (fun _ _ _ h=>h) (Or.inl ⟨by rfl,?_⟩) (by assumption) ?_;rotate_left
      ·intro w hSw;(try dsimp only at hSw);go_simp;(try with_reducible rfl)
      (try simp only [Act.put,List.setIfInBounds_toArray,List.set_cons_zero,List.set_cons_succ,List.getElem_toArray,List.getElem_cons_succ,List.getElem_cons_zero])
      refine wpAnyH_ready (rs:=[12]) (by kernel_rfl) (by simp) (AllReadyH.cons rfl (fun K hK=>?_) AllReadyH.nil);go_simp;go_at_call 36;refine (HP.out _ ((Keeps.refl _ _).drew)).mono ?_;rintro e w2 ⟨r1,rfl,hr,hk2⟩;obtain rfl:r1=false:=(by cases r1 with | false=>rfl | true=>exact absurd (hr.1 rfl) HWD.out);have HKK:=(((Keeps.refl (fun _=>False) wr).drew).trans hk2 (fun _ _ h=>h));have HK2:=Hd (HK.out.trans HKK (fun _ _ h=>h))
      clear hr hk2;refine hK.out _ _ (HSS.out _ HKK) (fun hHeld2=>?_);clear hK K hHeld
      (try simp only [Act.put,List.setIfInBounds_toArray,List.set_cons_zero,List.set_cons_succ,List.getElem_toArray,List.getElem_cons_succ,List.getElem_cons_zero])
      refine wpAnyH_take (i:=13) (v:=?_) rfl (by kernel_rfl) (by kernel_rfl) (by kernel_rfl) (fun _ _ _ h=>h) (Or.inl ⟨by rfl,?_⟩) (by assumption) ?_;rotate_left
      ·intro w hSw;(try dsimp only at hSw);go_simp;(try with_reducible rfl)
      (try simp only [Act.put,List.setIfInBounds_toArray,List.set_cons_zero,List.set_cons_succ,List.getElem_toArray,List.getElem_cons_succ,List.getElem_cons_zero])
      refine wpAnyH_take (i:=14) (v:=?_) rfl (by kernel_rfl) (by kernel_rfl) (by kernel_rfl) (fun _ _ _ h=>h) (Or.inl ⟨by rfl,?_⟩) (by assumption) ?_;rotate_left
      ·intro w hSw;(try dsimp only at hSw);go_simp;(try with_reducible rfl)
      (try simp only [Act.put,List.setIfInBounds_toArray,List.set_cons_zero,List.set_cons_succ,List.getElem_toArray,List.getElem_cons_succ,List.getElem_cons_zero])
      refine wpAnyH_take (i:=15) (v:=undef) rfl (by kernel_rfl) (by kernel_rfl) (by kernel_rfl) (fun _ _ _ h=>h) (Or.inr ⟨by rfl,rfl⟩) (by assumption) ?_
      (try simp only [Act.put,List.setIfInBounds_toArray,List.set_cons_zero,List.set_cons_succ,List.getElem_toArray,List.getElem_cons_succ,List.getElem_cons_zero])
      refine wpAnyH_take (i:=16) (v:=undef) rfl (by kernel_rfl) (by kernel_rfl) (by kernel_rfl) (fun _ _ _ h=>h) (Or.inr ⟨by rfl,rfl⟩) (by assumption) ?_
      (try simp only [Act.put,List.setIfInBounds_toArray,List.set_cons_zero,List.set_cons_succ,List.getElem_toArray,List.getElem_cons_succ,List.getElem_cons_zero])
      refine wpAnyH_take (i:=17) (v:=undef) rfl (by kernel_rfl) (by kernel_rfl) (by kernel_rfl) (fun _ _ _ h=>h) (Or.inr ⟨by rfl,rfl⟩) (by assumption) ?_
      (try simp only [Act.put,List.setIfInBounds_toArray,List.set_cons_zero,List.set_cons_succ,List.getElem_toArray,List.getElem_cons_succ,List.getElem_cons_zero])
      refine wpAnyH_take (i:=18) (v:=undef) rfl (by kernel_rfl) (by kernel_rfl) (by kernel_rfl) (fun _ _ _ h=>h) (Or.inr ⟨by rfl,rfl⟩) (by assumption) ?_
      (try simp only [Act.put,List.setIfInBounds_toArray,List.set_cons_zero,List.set_cons_succ,List.getElem_toArray,List.getElem_cons_succ,List.getElem_cons_zero])
      refine wpAnyH_take (i:=19) (v:=undef) rfl (by kernel_rfl) (by kernel_rfl) (by kernel_rfl) (fun _ _ _ h=>h) (Or.inr ⟨by rfl,rfl⟩) (by assumption) ?_
      (try simp only [Act.put,List.setIfInBounds_toArray,List.set_cons_zero,List.set_cons_succ,List.getElem_toArray,List.getElem_cons_succ,List.getElem_cons_zero])
      refine wpAnyH_take (i:=20) (v:=undef) rfl (by kernel_rfl) (by kernel_rfl) (by kernel_rfl) (fun _ _ _ h=>h) (Or.inr ⟨by rfl,rfl⟩) (by assumption) ?_
      (try simp only [Act.put,List.setIfInBounds_toArray,List.set_cons_zero,List.set_cons_succ,List.getElem_toArray,List.getElem_cons_succ,List.getElem_cons_zero])
      refine wpAnyH_take (i:=21) (v:=undef) rfl (by kernel_rfl) (by kernel_rfl) (by kernel_rfl) (fun _ _ _ h=>h) (Or.inr ⟨by rfl,rfl⟩) (by assumption) ?_
      (try simp only [Act.put,List.setIfInBounds_toArray,List.set_cons_zero,List.set_cons_succ,List.getElem_toArray,List.getElem_cons_succ,List.getElem_cons_zero])
      refine wpAnyH_take (i:=22) (v:=undef) rfl (by kernel_rfl) (by kernel_rfl) (by kernel_rfl) (fun _ _ _ h=>h) (Or.inr ⟨by rfl,rfl⟩) (by assumption) ?_
      (try simp only [Act.put,List.setIfInBounds_toArray,List.set_cons_zero,List.set_cons_succ,List.getElem_toArray,List.getElem_cons_succ,List.getElem_cons_zero])
      refine wpAnyH_take (i:=23) (v:=undef) rfl (by kernel_rfl) (by kernel_rfl) (by kernel_rfl) (fun _ _ _ h=>h) (Or.inr ⟨by rfl,rfl⟩) (by assumption) ?_
      (try simp only [Act.put,List.setIfInBounds_toArray,List.set_cons_zero,List.set_cons_succ,List.getElem_toArray,List.getElem_cons_succ,List.getElem_cons_zero])
      refine wpAnyH_take (i:=24) (v:=undef) rfl (by kernel_rfl) (by kernel_rfl) (by kernel_rfl) (fun _ _ _ h=>h) (Or.inr ⟨by rfl,rfl⟩) (by assumption) ?_
      (try simp only [Act.put,List.setIfInBounds_toArray,List.set_cons_zero,List.set_cons_succ,List.getElem_toArray,List.getElem_cons_succ,List.getElem_cons_zero])
      refine wpAnyH_take (i:=25) (v:=undef) rfl (by kernel_rfl) (by kernel_rfl) (by kernel_rfl) (fun _ _ _ h=>h) (Or.inr ⟨by rfl,rfl⟩) (by assumption) ?_
      (try simp only [Act.put,List.setIfInBounds_toArray,List.set_cons_zero,List.set_cons_succ,List.getElem_toArray,List.getElem_cons_succ,List.getElem_cons_zero])
      refine wpAnyH_take (i:=26) (v:=undef) rfl (by kernel_rfl) (by kernel_rfl) (by kernel_rfl) (fun _ _ _ h=>h) (Or.inr ⟨by rfl,rfl⟩) (by assumption) ?_
      (try simp only [Act.put,List.setIfInBounds_toArray,List.set_cons_zero,List.set_cons_succ,List.getElem_toArray,List.getElem_cons_succ,List.getElem_cons_zero])
      refine wpAnyH_take (i:=27) (v:=undef) rfl (by kernel_rfl) (by kernel_rfl) (by kernel_rfl) (fun _ _ _ h=>h) (Or.inr ⟨by rfl,rfl⟩) (by assumption) ?_
      (try simp only [Act.put,List.setIfInBounds_toArray,List.set_cons_zero,List.set_cons_succ,List.getElem_toArray,List.getElem_cons_succ,List.getElem_cons_zero])
      refine wpAnyH_take (i:=28) (v:=undef) rfl (by kernel_rfl) (by kernel_rfl) (by kernel_rfl) (fun _ _ _ h=>h) (Or.inr ⟨by rfl,rfl⟩) (by assumption) ?_
      (try simp only [Act.put,List.setIfInBounds_toArray,List.set_cons_zero,List.set_cons_succ,List.getElem_toArray,List.getElem_cons_succ,List.getElem_cons_zero])
      refine wpAnyH_take (i:=29) (v:=?_) rfl (by kernel_rfl) (by kernel_rfl) (by kernel_rfl) (fun _ _ _ h=>h) (Or.inl ⟨by rfl,?_⟩) (by assumption) ?_;rotate_left
      ·intro w hSw;(try dsimp only at hSw);go_simp;(try with_reducible rfl)
      (try simp only [Act.put,List.setIfInBounds_toArray,List.set_cons_zero,List.set_cons_succ,List.getElem_toArray,List.getElem_cons_succ,List.getElem_cons_zero])
      refine wpAnyH_done (by kernel_rfl) ?_ _
      all_goals (
       go_wp2_with fail;go_ret;exact⟨false,rfl,⟨fun h=>(by cases h),fun h=>absurd (by rw [HNE.out h]) HWD.out⟩,HKW.out.trans HK2.out (fun _ _ h=>h)⟩)
     have HWD:=Hd c9;clear c9;go_wp2_with fail;go_region_held3 (fun w'=>w'.cell? ⟨w.heap.size,7,none⟩=some (.slice (some ⟨g,o,none⟩) al ac)∧w'.cell? ⟨w.heap.size+1,7,none⟩=some (.slice (some ⟨g',o',none⟩) al ac')∧w'.cell? ⟨g,o+k*2,none⟩=some (.slice pa pn pc)∧w'.cell? ⟨g,o+k*2+1,none⟩=some (.slice ba bn bc)∧w'.cell? ⟨g',o'+k*2,none⟩=some (.slice pa' pn' pc')∧w'.cell? ⟨g',o'+k*2+1,none⟩=some (.slice ba' bn' bc')∧Keeps (fun _=>False) wr w') (first | exact HSS.out _ HKK | exact HSS.out _ ((Keeps.refl (fun _=>False) _).drew)) (first | (go_at_call 36;refine (HP.out _ ((Keeps.refl _ _).drew)).mono ?_;rintro e w2 ⟨r1,rfl,hr,hk2⟩;obtain rfl:r1=true:=hr.2 HWD.out;have HKK:=(((Keeps.refl (fun _=>False) wr).drew).trans hk2 (fun _ _ h=>h));clear hr hk2) | (go_at_call 11;refine (HQ.out _ HKK).mono ?_;rintro e w3 ⟨r,rfl,hr3,hk3⟩;have HKK3:=HKK.trans hk3 (fun _ _ h=>h);clear HKK;have HKK:=HKK3;have HK3:=Hd (HK.out.trans HKK (fun _ _ h=>h));have HRR:=Hd hr3;clear hr3 hk3 HKK3))
     all_goals (
      cases r with
      | true=>
       have HWE2:=Hd (HRR.out.1 rfl);go_wp2_with fail;go_roundw
       case rel=>exact⟨k+1,by go_num,by omega,Hd (HTK.out (Prod.ext HWD.out HWE2.out)),HK3⟩
       case measure=>simp [intOf];omega
      | false=>
       have HWE2:=Hd (show p.2≠q.2 from fun h=>by have:=HRR.out.2 h;cases this);go_wp2_with fail;go_ret;exact⟨false,rfl,⟨fun h=>(by cases h),fun h=>absurd (by rw [HNE.out h]) HWE2.out⟩,HKW.out.trans HK3.out (fun _ _ h=>h)⟩)
    obtain rfl:k=al:=by omega
    have HC6:=Hd (take_all HLA.out HLA'.out HT.out);have p1:¬(k:Int)<(k:Int):=by omega
    go_wp2_with fail;refine (HS.out wr (HKW.out.trans HK.out (fun _ _ h=>h))).mono ?_;rintro e w2 ⟨r,rfl,hr,hk2⟩;have HK2:=Hd ((HKW.out.trans HK.out (fun _ _ h=>h)).trans hk2 (fun _ _ h=>h));have HRR:=Hd hr;clear hr hk2;go_wp2_with fail;go_ret;refine⟨r,rfl,⟨fun h=>?_,fun h=>HRR.out.2 (by rw [h])⟩,HK2.out⟩;exact Ny.ext' HC0.out HC1.out HC2.out HC3.out HC4.out HC5.out (HRR.out.1 h) HC6.out
theorem same_allx:∀N,SameOKx N:=by
 intro N;induction N with
 | zero=>intro n m hn;omega
 | succ N ih=>
  intro n m hn w D E ds es aa ba an ac bn bc hds hes ha hb;obtain⟨xs,rfl,hxs⟩:=hds.out;obtain⟨ys,rfl,hys⟩:=hes.out;rw [ny_iff];have hc8:=cells_node;have hmx:=rdBound (by decide) ha;have hmy:=rdBound (by decide) hb;have HLA:=Hd (rdRecs (k:=8) (fun _=>rfl) (by decide) ha).1;have HLB:=Hd (rdRecs (k:=8) (fun _=>rfl) (by decide) hb).1;have HA:=Hd ha;have HB:=Hd hb;have HXS:=Hd hxs;have HYS:=Hd hys;have HIH:=Hd ih
  clear ha hb hxs hys hds hes ih;by_cases hl:an=bn
  ·subst hl;go_enter Tryz.func11,Tryz.ntmps11;go_wp2_with fail;go_loopw [5] (fun k' wr=>∃k:Nat,k'=.int .i64 k∧k≤an∧Hid (xs.take k=ys.take k)∧Hid (Keeps (fun _=>False) w wr)) (fun k' _=>an - (intOf k').toNat)
   case atStart=>exact⟨0,rfl,Nat.zero_le _,Hd rfl,Hd (Keeps.refl _ _)⟩
   case round=>
    obtain⟨k,rfl,hk,HT,HK⟩:=hrel;by_cases hlt:k<an
    ·have hlta:k<xs.length:=by rw [←HLA.out];exact hlt
     have hltb:k<ys.length:=by rw [←HLB.out];exact hlt
     obtain⟨g,o,wa,wl,wc,ga,gl,gc,ra,rl,rcp,ka,kl,kc,aa,al,ac,h,hg,⟨q0,q1,q2,q3,q4,q5,q6,q7⟩,hx⟩:=nodesAt2 (rdKeep0 HA.out HK.out) hlta;obtain⟨g',o',wa',wl',wc',ga',gl',gc',ra',rl',rcp',ka',kl',kc',aa',al',ac',h',hg',⟨r0,r1,r2,r3,r4,r5,r6,r7⟩,hy⟩:=nodesAt2 (rdKeep0 HB.out HK.out) hltb;subst h h';have HP:=Hd (fun W (hw:Keeps (fun _=>False) wr W)=>sameN N (n - 1) (m - 1) (by have:=(HXS.out _ (List.getElem_mem hlta)).1;omega) HIH.out W D E xs[k] ys[k] (HXS.out _ (List.getElem_mem hlta)).2 (HYS.out _ (List.getElem_mem hltb)).2 _ _ _ _ _ _ _ _ _ _ _ _ _ _ _ _ _ _ _ _ _ _ _ _ _ _ _ _ _ _ (hx.keep0 hw) (hy.keep0 hw))
     have HTK:=Hd (fun e:xs[k]=ys[k]=>take_same hlta hltb HT.out e);have HNE:=Hd (show xs=ys→xs[k]=ys[k] from fun h=>by simp only [h]);obtain⟨x,hxe⟩:∃x,x=xs[k]:=⟨_,rfl⟩;obtain⟨y,hye⟩:∃y,y=ys[k]:=⟨_,rfl⟩;rw [←hxe,←hye] at HP HTK HNE;rw [←hxe] at q0 q1 q2;rw [←hye] at r0 r1 r2;obtain⟨kx,hkx⟩:∃l,l=x.kind:=⟨_,rfl⟩;obtain⟨tx,htx⟩:∃l,l=x.nt:=⟨_,rfl⟩;obtain⟨ky,hky⟩:∃l,l=y.kind:=⟨_,rfl⟩;obtain⟨ty,hty⟩:∃l,l=y.nt:=⟨_,rfl⟩
     obtain⟨nx,hnx⟩:∃l:ByteArray,l=⟨x.nm.toArray⟩:=⟨_,rfl⟩;obtain⟨ny,hny⟩:∃l:ByteArray,l=⟨y.nm.toArray⟩:=⟨_,rfl⟩;rw [←hkx,←htx,←hnx,←hky,←hty,←hny] at HP;rw [←hkx] at q0;rw [←htx] at q1;rw [←hnx] at q2;rw [←hky] at r0;rw [←hty] at r1;rw [←hny] at r2;clear hx hy hxe hye hlta hltb HT hkx htx hky hty hnx hny;have p1:(k:Int)<(an:Int):=by omega
     go_wp2_with fail;go_still_tail 8,(by kernel_rfl);change wpList _ _ _ _ _ wr.drew;go_wp2_with fail;refine (HP.out _ ((Keeps.refl _ _).drew)).mono ?_;rintro e w2 ⟨r,rfl,hr,hk2⟩;have HK2:=Hd ((HK.out.trans ((Keeps.refl (fun _=>False) wr).drew) (fun _ _ h=>h)).trans hk2 (fun _ _ h=>h));cases r with
     | true=>
      have HWD:=Hd (hr.1 rfl);clear hr hk2 HP;go_wp2_with fail;go_roundw
      case rel=>exact⟨k+1,by go_num,by omega,Hd (HTK.out HWD.out),HK2⟩
      case measure=>simp [intOf];omega
     | false=>
      have HWD:=Hd (show x≠y from fun h=>by have:=hr.2 h;cases this);clear hr hk2 HP;go_wp2_with fail;go_ret;exact⟨false,rfl,⟨fun h=>(by cases h),fun h=>absurd (HNE.out h) HWD.out⟩,HK2.out⟩
    ·obtain rfl:k=an:=by omega
     have HF:=Hd (take_all HLA.out HLB.out HT.out);have p1:¬(k:Int)<(k:Int):=by omega
     go_wp2_with fail;go_ret;exact⟨true,rfl,⟨fun _=>HF.out,fun _=>rfl⟩,HK.out⟩
  ·have e1:((an:Int) != (bn:Int))=true:=by rw [bne_iff_ne];omega
   have HL:=Hd (show xs.length≠ys.length by rw [←HLA.out,←HLB.out];exact hl);clear hl;go_enter Tryz.func11,Tryz.ntmps11;go_wp2_with fail;go_ret;exact⟨false,rfl,⟨fun h=>(by cases h),fun h=>absurd (by rw [h]) HL.out⟩,Keeps.refl _ _⟩
end Go.Proofs.YtiihpbccabeoeaaGreatDoor
