/- The walk: a part. -/
import Derived.Test.YtiihpbccabeoeaaGreatDoorWPxS
namespace Go.Proofs.YtiihpbccabeoeaaGreatDoor
open Go.RowKit
set_option linter.unusedVariables false
set_option maxRecDepth 100000
set_option maxHeartbeats 16000000
theorem J6 {w:World} {D:Nat→Prop} {T:List Tk} {res:PR (List Dt)} {us:List Value} {j x:Nat} {cl:Bool} (h:QF cl w D T res us j x) (hx:x=0):j≤T.length:=by
 cases res with
 | error y=>
  rcases h with ⟨h1,h2⟩ | ⟨_,_,ho⟩
  ·omega
  ·have:=bQ (dO ho);omega
 | ok p=>
  obtain⟨ds,r⟩:=p;rcases h with ⟨_,_,_,_,hj⟩ | ⟨_,_,h9 | ⟨_,ho⟩⟩
  ·exact hj
  ·omega
  ·have:=bQ (dO ho);omega
theorem yL {K kind:Nat} {ts:List Tk} {wl w5 w6:World} {Dl D5 D:Nat→Prop} {T:List Tk} {res:PR (List Dt)} {us1 us2:List Value} {j bd j2 x2:Nat} (hl:QF true wl Dl T (cU (aC K) ts) us1 j bd) (hres:res=qB (aC K) kind (cU (aC K) ts))
 (hcase:(bd=0∧QF false w5 D5 T (dQ (aC K) (T.drop j)) us2 j2 x2)∨(bd≠0∧x2=bd)) (t1:∀ds,RdL wl Dl ds us1→RdL w6 D ds us1) (t2:∀ds,RdL w5 D5 ds us2→RdL w6 D ds us2) :
 (∃ds,res=.ok (ndR kind false [] [] [] [] ds [],T.drop j2)∧x2=0∧j2≤T.length∧ds.length=2*8∧RdL w6 D ds (us1++us2))∨QF false w6 (fun _=>False) T res [] j2 x2:=by
 have hno:∀ds r,cZ r=false→qB (aC K) kind (.ok (ds,r))=.error 2:=fun ds r h=>by
  unfold qB;dsimp only;rw [yU];cases hw:aT [100,111] r with
  | false=>rfl
  | true=>rw [Fe (s:=[100,111]) (by decide) r hw] at h;cases h
 rcases hcase with ⟨hb,hq⟩ | ⟨hb,rfl⟩
 ·rcases hl.split (qB (aC K) kind) (fun e=>rfl) (fun _=>hno) with ⟨ds,r,hr,_,hn,hd,hj,_⟩ | ⟨h9,_⟩ | ⟨_,ho,hr⟩
  ·have hr2:res=(match dQ (aC K) (T.drop j) with
    | .error e=>.error e
    | .ok (b,r2)=>.ok (ndR kind false [] [] [] [] (ds++b) [],r2)):=by rw [hres,hr,hj];rfl
   rcases hq.split (fun p=>(match p with
    | .error e=>.error e
    | .ok (b,r2)=>.ok (ndR kind false [] [] [] [] (ds++b) [],r2):PR (List Dt))) (fun e=>rfl) (fun h=>by cases h) with ⟨d2,r2,hr3,hx,hn2,hd2,hj2,hl2⟩ | ⟨hx,hr3⟩ | ⟨hx,ho,hr3⟩
   ·refine .inl ⟨ds++d2,?_,hx,hl2,by rw [lA,hn.len,hn2.len],(t1 ds hd).app (t2 d2 hd2)⟩;rw [hr2,hr3,hj2]
   ·exact .inr (QF.err hx (hr2.trans hr3))
   ·exact .inr (QF.stk ho hx (hr2.trans hr3))
  ·exact absurd hb h9
  ·rw [yU (xM (by decide) _ ho)] at hq;rw [hres,hr];exact .inr hq
 ·rcases hl.split (qB (aC K) kind) (fun e=>rfl) (fun _=>hno) with ⟨ds,r,hr,h0,_⟩ | ⟨_,hr⟩ | ⟨h0,_⟩
  ·exact absurd h0 hb
  ·exact .inr (QF.err hb (by rw [hres,hr]))
  ·exact absurd h0 hb
theorem rZ (K:Nat) (hcmd:eU K) (w:World) (Lo B ps n i x deep:Nat) (tv:Value) (T:List Tk) (h:QS w Lo B ps tv n T i x) (hi:x=0→i≤T.length) (hi2:i+1≤T.length+1000) (hd:deep+1+K=41) :
 Calls Tryz.prog 184 #[.pointer (some ⟨ps,0,none⟩),.int .i64 (deep:Nat)] w fun e w'=>∃(v:NV) (j y:Nat),e=.returned (.agg #[.int .i64 v.k,.bool v.nt,.string v.nm,.slice v.a0 v.n0 v.c0,.slice v.a1 v.n1 v.c1,.slice v.a2 v.n2 v.c2,.slice v.a3 v.n3 v.c3,.slice v.a4 v.n4 v.c4])∧i≤j∧(j≤T.length+(2*K+1)∨j=i+1)∧QS w' Lo B ps tv n T j y∧aB (fun b=>b=ps) w w'∧((x=0∧QF false w' (Qd Lo B w.heap.size) T (dQ (aC K) (T.drop i)) v.vals j y)∨(x≠0∧y=x)):=by
 by_cases hx:x=0
 ·subst hx;refine (Iu K hcmd w Lo B ps n i deep tv T h (hi rfl) hd).mono ?_;rintro e w' ⟨v,j,y,he,h1,h2,h3,h4,h5⟩;exact⟨v,j,y,he,h1,.inl h2,h3,h4,.inl ⟨rfl,h5⟩⟩
 ·refine (Iq w Lo B ps n i x deep tv T h hx hi2).mono ?_;rintro e w' ⟨he,h3,h4⟩;exact⟨⟨0,false,⟨#[]⟩,none,0,0,none,0,0,none,0,0,none,0,0,none,0,0⟩,i+1,x,he,by omega,.inr rfl,h3,h4,.inr ⟨hx,rfl⟩⟩
theorem Dv (K:Nat) (hcmd:eU K) (w:World) (Lo B ps n i deep:Nat) (tv:Value) (T:List Tk) (h:QS w Lo B ps tv n T i 0) (hi:i≤T.length) (hd:deep+1+K=41) (ho:aT [119,104,105,108,101] (T.drop i)=true) :
 Calls Tryz.prog 163 #[.pointer (some ⟨ps,0,none⟩),.int .i64 (deep:Nat)] w (iJ w Lo B ps tv n T i (2*K+1) false (fB (aC K) 7 (T.drop i).tail)):=by
 obtain⟨res,hres⟩:∃res,res=fB (aC K) 7 (T.drop i).tail:=⟨_,rfl⟩;rw [←hres];rw [B0,aS] at hres;have HPS:=Hd h.lt;have HS:=Lib.hid h;have HC:=Hd hcmd;have HD:=Hd hd;have HRES:=Hd hres;have hmT:T.length≤20000:=h.sm.1;have hdw:IntKind.i64.wrap ((deep:Int)+1)=(deep:Int)+1:=IntWalk.i64_in _ (by omega);have hsum:IntKind.i64.wrap ((i:Int)+1)=(i:Int)+1:=IntWalk.i64_in _ (by omega);have hc8:=bV
 have HO:=Hd (beq_iff_eq.1 ho);have HOP:=Hd (iE ho (by decide));have hpos:=bQ (cJ (by decide) ho);clear h hcmd hd hres ho;go_enter Tryz.func163,Tryz.ntmps163;go_wp2_with fail;obtain⟨W,hW⟩:∃W,W=w.alloc (.cells #[.int .i64 0,.bool false,.string ⟨#[]⟩,.slice none 0 0,.slice none 0 0,.slice none 0 0,.slice none 0 0,.slice none 0 0] 44):=⟨_,rfl⟩;have hk0:K0 w W:=by rw [hW];exact (aB.refl _ _).alloc _
 have HZ:=Hd (show aH W w.heap.size [.int .i64 0,.bool false,.string ⟨#[]⟩,.slice none 0 0,.slice none 0 0,.slice none 0 0,.slice none 0 0,.slice none 0 0] by rw [hW];exact aK w _ _ _ _ _ _ _ _ _);rw [←hW];have HK:=Hd (hk0.mono (T:=fun b=>b=ps) (fun _ _ h=>h.elim));replace HS:=Hd (HS.o.keep0 hk0);clear hk0 hW;have HQ:=Hd (a8 HS.o [40] false HOP.o 0);refine HQ.o.mono ?_;rintro e wq ⟨rfl,dq,rfl⟩
 obtain⟨Wa,hw2⟩:∃Wa,Wa=W.drewN dq:=⟨_,rfl⟩;rw [←hw2];have hkw:K0 W Wa:=by rw [hw2];exact (aB.refl _ _).drewN _
 replace HS:=Hd (HS.o.keep0 hkw);replace HZ:=Hd (HZ.o.keep hkw (fun h=>h));replace HK:=Hd (HK.o.trans hkw (fun _ _ h=>h.elim));clear hw2 hkw;have HQ2:=Hd (dH HS.o [119,104,105,108,101] HO.o 0);go_wp2_with fail;refine HQ2.o.mono ?_;rintro e wq ⟨rfl,dq,rfl⟩;obtain⟨W1,hw2⟩:∃W1,W1=Wa.drewN dq:=⟨_,rfl⟩;rw [←hw2];have hkw:K0 Wa W1:=by rw [hw2];exact (aB.refl _ _).drewN _
 replace HS:=Hd (HS.o.keep0 hkw);replace HZ:=Hd (HZ.o.keep hkw (fun h=>h));replace HK:=Hd (HK.o.trans hkw (fun _ _ h=>h.elim));clear hw2 hkw;obtain⟨c0,c1,c2,f1,f2⟩:=HS.o.cells;have hlt:=HS.o.lt;go_wp2_with fail;obtain⟨W2,hw2⟩:∃W2,W2=W1.setCell ⟨ps,1,none⟩ (.int .i64 ((i:Int)+1)):=⟨_,rfl⟩;rw [←hw2];obtain⟨hi1,hi2⟩:=eM HS.o (by omega);rw [←hw2] at hi1 hi2;replace HS:=Hd hi1;replace HZ:=Hd (HZ.o.keep hi2 (fun e=>by have:=HPS.o;omega))
 replace HK:=Hd (HK.o.trans hi2 k3);clear hw2 hi1 hi2;clear c0 c1 c2 f1 f2 hlt HO HOP;refine (gR K HC.o W2 Lo B ps n (i+1) (deep+1) tv T HS.o (by omega) (by have:=HD.o;omega)).mono ?_;rintro e w3 ⟨v,j,bd,rfl,hij,hjb,hs3,hk3,hf3⟩;go_upto_region 25 with fail;obtain⟨NB,hNB⟩:∃NB,NB=w3.heap.size:=⟨_,rfl⟩;obtain⟨W4,hW4⟩:∃W4,W4=w3.alloc (.cells #[.int .i64 v.k,.bool v.nt,.string v.nm,.slice v.a0 v.n0 v.c0,.slice v.a1 v.n1 v.c1,.slice v.a2 v.n2 v.c2,.slice v.a3 v.n3 v.c3,.slice v.a4 v.n4 v.c4] 44):=⟨_,rfl⟩
 rw [←hW4]
 try rw [←hNB]
 have hk4:K0 w3 W4:=by rw [hW4];exact (aB.refl _ _).alloc _
 have hkk:=hk3.trans hk4 (fun _ _ h=>h.elim);replace HS:=Hd (hs3.keep0 hk4);have hnb:NB≠ps:=by have:=hs3.lt;omega
 have HN:=Hd (show aH W4 NB [.int .i64 v.k,.bool v.nt,.string v.nm,.slice v.a0 v.n0 v.c0,.slice v.a1 v.n1 v.c1,.slice v.a2 v.n2 v.c2,.slice v.a3 v.n3 v.c3,.slice v.a4 v.n4 v.c4] by rw [hW4,hNB];exact aK _ _ _ _ _ _ _ _ _ _);have hwc:=HZ.o.lt;replace HZ:=Hd (HZ.o.keep hkk (fun e=>by have:=HPS.o;omega));replace HK:=Hd (HK.o.trans hkk k3);have HQF:=Hd hf3;have HTO:=Hd (show ∀ds,RdL w3 (Qd Lo B W2.heap.size) ds v.vals→RdL W4 (fun b=>Qd Lo B w.heap.size b∧b≠w.heap.size) ds v.vals from fun ds hr=>(hr.keep hk4 (fun _ _ _ h=>h)).mono (fun b _ hb=>by have:=hs3.ps;have:=HPS.o;rcases hb with h | h;exact⟨.inl h,by omega⟩;exact⟨.inr (by omega),by omega⟩))
 have HIB:=Hd (show i≤j+1∧j+1≤T.length+(2*K+1) by omega);have HIB0:=Hd (show i+1≤j from hij);have hjb2:j+1≤T.length+500:=by have:=HD.o;omega
 clear hs3 hk3 hf3 hk4 hkk hNB hW4 hij hjb hwc;go_wp2_with fail;refine (rZ K HC.o W4 Lo B ps n j bd deep tv T HS.o (fun h=>J6 HQF.o h) (by omega) HD.o).mono ?_;rintro e w5 ⟨v2,j2,xb,rfl,hij2,hjb3,hs5,hk5,hf5⟩;have HIB2:=Hd (show i≤j2∧j2≤T.length+(2*K+1) by have:=HIB0.o;have:=HIB.o;omega);clear hij2 hjb3;go_upto_region 26 with fail;obtain⟨NC,hNC⟩:∃NC,NC=w5.heap.size:=⟨_,rfl⟩;obtain⟨W6,hW6⟩:∃W6,W6=w5.alloc (.cells #[.int .i64 v2.k,.bool v2.nt,.string v2.nm,.slice v2.a0 v2.n0 v2.c0,.slice v2.a1 v2.n1 v2.c1,.slice v2.a2 v2.n2 v2.c2,.slice v2.a3 v2.n3 v2.c3,.slice v2.a4 v2.n4 v2.c4] 44):=⟨_,rfl⟩
 rw [←hW6]
 try rw [←hNC]
 have hk6:K0 w5 W6:=by rw [hW6];exact (aB.refl _ _).alloc _
 have HNC:=Hd (show aH W6 NC [.int .i64 v2.k,.bool v2.nt,.string v2.nm,.slice v2.a0 v2.n0 v2.c0,.slice v2.a1 v2.n1 v2.c1,.slice v2.a2 v2.n2 v2.c2,.slice v2.a3 v2.n3 v2.c3,.slice v2.a4 v2.n4 v2.c4] by rw [hW6,hNC];exact aK _ _ _ _ _ _ _ _ _ _);have hkk:=hk5.trans hk6 (fun _ _ h=>h.elim);have hwc:=HZ.o.lt;replace HS:=Hd (hs5.keep0 hk6);replace HZ:=Hd (HZ.o.keep hkk (fun e=>by have:=HPS.o;omega))
 replace HK:=Hd (HK.o.trans hkk k3);replace HN:=Hd (HN.o.keep hkk hnb);have HFIN:=Hd (yL (w6:=W6) (D:=fun b=>Qd Lo B w.heap.size b∧b≠w.heap.size) HQF.o HRES.o hf5 (fun ds hr=>(HTO.o ds hr).keep hkk (fun b _ hb e=>iX (X:=w.heap.size) hs5.ps HPS.o hb.1 e)) (fun ds hr=>(hr.keep hk6 (fun _ _ _ h=>h)).mono (fun b _ hb=>by have:=hs5.ps;have:=HPS.o;rcases hb with h | h;exact⟨.inl h,by omega⟩;exact⟨.inr (by omega),by omega⟩)))
 clear hs5 hk5 hk6 hkk hNC hW6 hwc hf5;obtain⟨⟨x0,x1,x2,x3,x4,x5,x6,x7⟩,⟨xf0,xf1,xf2,xf3,xf4,xf5,xf6,xf7⟩⟩:=HN.o.eight;obtain⟨⟨u0,u1,u2,u3,u4,u5,u6,u7⟩,⟨uf0,uf1,uf2,uf3,uf4,uf5,uf6,uf7⟩⟩:=HNC.o.eight;have hNl:=HN.o.lt;have hNCl:=HNC.o.lt;obtain⟨⟨z0,z1,z2,z3,z4,z5,z6,z7⟩,⟨zf0,zf1,zf2,zf3,zf4,zf5,zf6,zf7⟩⟩:=HZ.o.eight;have hzl:=HZ.o.lt;go_wp2_with fail;refine bodyPost_ret (v:=.agg #[.int .i64 7,.bool false,.string ⟨#[]⟩,.slice none 0 0,.slice none 0 0,.slice none 0 0,.slice (some ⟨W6.heap.size,0,none⟩) 2 2,.slice none 0 0]) (by simp [results,Tryz.results163,go_sem,z0,z1,z2,z3,z4,z5,z6,z7,hzl]) rfl ?_
 exact⟨⟨7,false,⟨#[]⟩,none,0,0,none,0,0,none,0,0,some ⟨W6.heap.size,0,none⟩,2,2,none,0,0⟩,j2,xb,rfl,HIB2.o.1,HIB2.o.2,mI (kind:=7) (m:=2) (vv:=v.vals++v2.vals) HK.o HS.o HPS.o HZ.o.lt (aJ W6 w.heap.size (.int .i64 7) (.bool false) (.string ⟨#[]⟩) (.slice none 0 0) (.slice none 0 0) (.slice none 0 0) (.slice (some ⟨W6.heap.size,0,none⟩) 2 2) (.slice none 0 0)) (by simp [World.setCell]) rfl (by decide) HFIN.o⟩
theorem Ft (K:Nat) (hcmd:eU K) (w:World) (Lo B ps n i deep:Nat) (tv:Value) (T:List Tk) (h:QS w Lo B ps tv n T i 0) (hi:i≤T.length) (hd:deep+1+K=41) (ho:aT [117,110,116,105,108] (T.drop i)=true) :
 Calls Tryz.prog 163 #[.pointer (some ⟨ps,0,none⟩),.int .i64 (deep:Nat)] w (iJ w Lo B ps tv n T i (2*K+1) false (fB (aC K) 8 (T.drop i).tail)):=by
 obtain⟨res,hres⟩:∃res,res=fB (aC K) 8 (T.drop i).tail:=⟨_,rfl⟩;rw [←hres];rw [B0,aS] at hres;have HPS:=Hd h.lt;have HS:=Lib.hid h;have HC:=Hd hcmd;have HD:=Hd hd;have HRES:=Hd hres;have hmT:T.length≤20000:=h.sm.1;have hdw:IntKind.i64.wrap ((deep:Int)+1)=(deep:Int)+1:=IntWalk.i64_in _ (by omega);have hsum:IntKind.i64.wrap ((i:Int)+1)=(i:Int)+1:=IntWalk.i64_in _ (by omega);have hc8:=bV
 have HO:=Hd (beq_iff_eq.1 ho);have HOP:=Hd (iE ho (by decide));have hpos:=bQ (cJ (by decide) ho);clear h hcmd hd hres ho;go_enter Tryz.func163,Tryz.ntmps163;go_wp2_with fail;obtain⟨W,hW⟩:∃W,W=w.alloc (.cells #[.int .i64 0,.bool false,.string ⟨#[]⟩,.slice none 0 0,.slice none 0 0,.slice none 0 0,.slice none 0 0,.slice none 0 0] 44):=⟨_,rfl⟩;have hk0:K0 w W:=by rw [hW];exact (aB.refl _ _).alloc _
 have HZ:=Hd (show aH W w.heap.size [.int .i64 0,.bool false,.string ⟨#[]⟩,.slice none 0 0,.slice none 0 0,.slice none 0 0,.slice none 0 0,.slice none 0 0] by rw [hW];exact aK w _ _ _ _ _ _ _ _ _);rw [←hW];have HK:=Hd (hk0.mono (T:=fun b=>b=ps) (fun _ _ h=>h.elim));replace HS:=Hd (HS.o.keep0 hk0);clear hk0 hW;have HQ:=Hd (a8 HS.o [40] false HOP.o 0);refine HQ.o.mono ?_;rintro e wq ⟨rfl,dq,rfl⟩
 obtain⟨Wa,hw2⟩:∃Wa,Wa=W.drewN dq:=⟨_,rfl⟩;rw [←hw2];have hkw:K0 W Wa:=by rw [hw2];exact (aB.refl _ _).drewN _
 replace HS:=Hd (HS.o.keep0 hkw);replace HZ:=Hd (HZ.o.keep hkw (fun h=>h));replace HK:=Hd (HK.o.trans hkw (fun _ _ h=>h.elim));clear hw2 hkw;have HQ2:=Hd (dH HS.o [117,110,116,105,108] HO.o 0);go_wp2_with fail;refine HQ2.o.mono ?_;rintro e wq ⟨rfl,dq,rfl⟩;obtain⟨W1,hw2⟩:∃W1,W1=Wa.drewN dq:=⟨_,rfl⟩;rw [←hw2];have hkw:K0 Wa W1:=by rw [hw2];exact (aB.refl _ _).drewN _
 replace HS:=Hd (HS.o.keep0 hkw);replace HZ:=Hd (HZ.o.keep hkw (fun h=>h));replace HK:=Hd (HK.o.trans hkw (fun _ _ h=>h.elim));clear hw2 hkw;obtain⟨c0,c1,c2,f1,f2⟩:=HS.o.cells;have hlt:=HS.o.lt;go_wp2_with fail;obtain⟨W2,hw2⟩:∃W2,W2=W1.setCell ⟨ps,1,none⟩ (.int .i64 ((i:Int)+1)):=⟨_,rfl⟩;rw [←hw2];obtain⟨hi1,hi2⟩:=eM HS.o (by omega);rw [←hw2] at hi1 hi2;replace HS:=Hd hi1;replace HZ:=Hd (HZ.o.keep hi2 (fun e=>by have:=HPS.o;omega))
 replace HK:=Hd (HK.o.trans hi2 k3);clear hw2 hi1 hi2;clear c0 c1 c2 f1 f2 hlt HO HOP;refine (gR K HC.o W2 Lo B ps n (i+1) (deep+1) tv T HS.o (by omega) (by have:=HD.o;omega)).mono ?_;rintro e w3 ⟨v,j,bd,rfl,hij,hjb,hs3,hk3,hf3⟩;go_upto_region 25 with fail;obtain⟨NB,hNB⟩:∃NB,NB=w3.heap.size:=⟨_,rfl⟩;obtain⟨W4,hW4⟩:∃W4,W4=w3.alloc (.cells #[.int .i64 v.k,.bool v.nt,.string v.nm,.slice v.a0 v.n0 v.c0,.slice v.a1 v.n1 v.c1,.slice v.a2 v.n2 v.c2,.slice v.a3 v.n3 v.c3,.slice v.a4 v.n4 v.c4] 44):=⟨_,rfl⟩
 rw [←hW4]
 try rw [←hNB]
 have hk4:K0 w3 W4:=by rw [hW4];exact (aB.refl _ _).alloc _
 have hkk:=hk3.trans hk4 (fun _ _ h=>h.elim);replace HS:=Hd (hs3.keep0 hk4);have hnb:NB≠ps:=by have:=hs3.lt;omega
 have HN:=Hd (show aH W4 NB [.int .i64 v.k,.bool v.nt,.string v.nm,.slice v.a0 v.n0 v.c0,.slice v.a1 v.n1 v.c1,.slice v.a2 v.n2 v.c2,.slice v.a3 v.n3 v.c3,.slice v.a4 v.n4 v.c4] by rw [hW4,hNB];exact aK _ _ _ _ _ _ _ _ _ _);have hwc:=HZ.o.lt;replace HZ:=Hd (HZ.o.keep hkk (fun e=>by have:=HPS.o;omega));replace HK:=Hd (HK.o.trans hkk k3);have HQF:=Hd hf3;have HTO:=Hd (show ∀ds,RdL w3 (Qd Lo B W2.heap.size) ds v.vals→RdL W4 (fun b=>Qd Lo B w.heap.size b∧b≠w.heap.size) ds v.vals from fun ds hr=>(hr.keep hk4 (fun _ _ _ h=>h)).mono (fun b _ hb=>by have:=hs3.ps;have:=HPS.o;rcases hb with h | h;exact⟨.inl h,by omega⟩;exact⟨.inr (by omega),by omega⟩))
 have HIB:=Hd (show i≤j+1∧j+1≤T.length+(2*K+1) by omega);have HIB0:=Hd (show i+1≤j from hij);have hjb2:j+1≤T.length+500:=by have:=HD.o;omega
 clear hs3 hk3 hf3 hk4 hkk hNB hW4 hij hjb hwc;go_wp2_with fail;refine (rZ K HC.o W4 Lo B ps n j bd deep tv T HS.o (fun h=>J6 HQF.o h) (by omega) HD.o).mono ?_;rintro e w5 ⟨v2,j2,xb,rfl,hij2,hjb3,hs5,hk5,hf5⟩;have HIB2:=Hd (show i≤j2∧j2≤T.length+(2*K+1) by have:=HIB0.o;have:=HIB.o;omega);clear hij2 hjb3;go_upto_region 26 with fail;obtain⟨NC,hNC⟩:∃NC,NC=w5.heap.size:=⟨_,rfl⟩;obtain⟨W6,hW6⟩:∃W6,W6=w5.alloc (.cells #[.int .i64 v2.k,.bool v2.nt,.string v2.nm,.slice v2.a0 v2.n0 v2.c0,.slice v2.a1 v2.n1 v2.c1,.slice v2.a2 v2.n2 v2.c2,.slice v2.a3 v2.n3 v2.c3,.slice v2.a4 v2.n4 v2.c4] 44):=⟨_,rfl⟩
 rw [←hW6]
 try rw [←hNC]
 have hk6:K0 w5 W6:=by rw [hW6];exact (aB.refl _ _).alloc _
 have HNC:=Hd (show aH W6 NC [.int .i64 v2.k,.bool v2.nt,.string v2.nm,.slice v2.a0 v2.n0 v2.c0,.slice v2.a1 v2.n1 v2.c1,.slice v2.a2 v2.n2 v2.c2,.slice v2.a3 v2.n3 v2.c3,.slice v2.a4 v2.n4 v2.c4] by rw [hW6,hNC];exact aK _ _ _ _ _ _ _ _ _ _);have hkk:=hk5.trans hk6 (fun _ _ h=>h.elim);have hwc:=HZ.o.lt;replace HS:=Hd (hs5.keep0 hk6);replace HZ:=Hd (HZ.o.keep hkk (fun e=>by have:=HPS.o;omega))
 replace HK:=Hd (HK.o.trans hkk k3);replace HN:=Hd (HN.o.keep hkk hnb);have HFIN:=Hd (yL (w6:=W6) (D:=fun b=>Qd Lo B w.heap.size b∧b≠w.heap.size) HQF.o HRES.o hf5 (fun ds hr=>(HTO.o ds hr).keep hkk (fun b _ hb e=>iX (X:=w.heap.size) hs5.ps HPS.o hb.1 e)) (fun ds hr=>(hr.keep hk6 (fun _ _ _ h=>h)).mono (fun b _ hb=>by have:=hs5.ps;have:=HPS.o;rcases hb with h | h;exact⟨.inl h,by omega⟩;exact⟨.inr (by omega),by omega⟩)))
 clear hs5 hk5 hk6 hkk hNC hW6 hwc hf5;obtain⟨⟨x0,x1,x2,x3,x4,x5,x6,x7⟩,⟨xf0,xf1,xf2,xf3,xf4,xf5,xf6,xf7⟩⟩:=HN.o.eight;obtain⟨⟨u0,u1,u2,u3,u4,u5,u6,u7⟩,⟨uf0,uf1,uf2,uf3,uf4,uf5,uf6,uf7⟩⟩:=HNC.o.eight;have hNl:=HN.o.lt;have hNCl:=HNC.o.lt;obtain⟨⟨z0,z1,z2,z3,z4,z5,z6,z7⟩,⟨zf0,zf1,zf2,zf3,zf4,zf5,zf6,zf7⟩⟩:=HZ.o.eight;have hzl:=HZ.o.lt;go_wp2_with fail;refine bodyPost_ret (v:=.agg #[.int .i64 8,.bool false,.string ⟨#[]⟩,.slice none 0 0,.slice none 0 0,.slice none 0 0,.slice (some ⟨W6.heap.size,0,none⟩) 2 2,.slice none 0 0]) (by simp [results,Tryz.results163,go_sem,z0,z1,z2,z3,z4,z5,z6,z7,hzl]) rfl ?_
 exact⟨⟨8,false,⟨#[]⟩,none,0,0,none,0,0,none,0,0,some ⟨W6.heap.size,0,none⟩,2,2,none,0,0⟩,j2,xb,rfl,HIB2.o.1,HIB2.o.2,mI (kind:=8) (m:=2) (vv:=v.vals++v2.vals) HK.o HS.o HPS.o HZ.o.lt (aJ W6 w.heap.size (.int .i64 8) (.bool false) (.string ⟨#[]⟩) (.slice none 0 0) (.slice none 0 0) (.slice none 0 0) (.slice (some ⟨W6.heap.size,0,none⟩) 2 2) (.slice none 0 0)) (by simp [World.setCell]) rfl (by decide) HFIN.o⟩
theorem mU {E:Nat→Prop} {gd:Prop} {w wr:World} {Lo B ps:Nat} {tv:Value} {n:Nat} {T:List Tk} {X N:Nat} {Z:List Value} {pre post:List Dt} {vpre vpost:List Value} {k:Nat} {Ty:TypeId} {I x m:Nat} {la:OA} {lc:Nat} {ds:List Dt} {res:PR (List Dt)}
 (h:QR E gd w wr Lo B ps tv n T X N Z pre post vpre vpost k Ty I x m la lc ds) (hX:w.heap.size<X) (hps:ps<w.heap.size)
 (hq:(gd∧x=0∧I≤T.length∧NdD (pre++.sl k ds::post)∧res=.ok (pre++.sl k ds::post,T.drop I))∨(∀w D us,QF false w D T res us I x)) :
 QF false wr (fun b=>Qd Lo B w.heap.size b∧b≠w.heap.size) T res (vpre++.slice la m lc::vpost) I x:=by
 rcases hq with ⟨g,hx,hI,hn,hr⟩ | hq
 ·have hB:=h.rs.ps;exact QF.good hr hx hn ((h.all g).mono (fun b _ hb=>by rcases hb with h | h;exact⟨.inl h,by omega⟩;exact⟨.inr (by omega),by omega⟩)) rfl hI
 ·exact hq _ _ _
theorem xS (K:Nat) (hcmd:eU K) (w:World) (Lo B ps n i x deep:Nat) (tv:Value) (T:List Tk) (h:QS w Lo B ps tv n T i x) (hi:x=0→i≤T.length) (hd:deep+K=41) :
 Calls Tryz.prog 63 #[.pointer (some ⟨ps,0,none⟩),.int .i64 (deep:Nat)] w fun e w'=>∃(v:NV) (j y:Nat),e=.returned (.agg #[.int .i64 v.k,.bool v.nt,.string v.nm,.slice v.a0 v.n0 v.c0,.slice v.a1 v.n1 v.c1,.slice v.a2 v.n2 v.c2,.slice v.a3 v.n3 v.c3,.slice v.a4 v.n4 v.c4])∧i≤j∧(j≤T.length+2*K∨j=i)∧QS w' Lo B ps tv n T j y∧aB (fun b=>b=ps) w w'∧((x=0∧QF true w' (Qd Lo B w.heap.size) T (cU (aC K) (T.drop i)) v.vals j y)∨(x≠0∧y=x)):=by
 by_cases hx:x=0
 ·subst hx;refine (gR K hcmd w Lo B ps n i deep tv T h (hi rfl) hd).mono ?_;rintro e w' ⟨v,j,y,he,h1,h2,h3,h4,h5⟩;exact⟨v,j,y,he,h1,.inl h2,h3,h4,.inl ⟨rfl,h5⟩⟩
 ·refine (Hy w Lo B ps n i x deep tv T h hx).mono ?_;rintro e w' ⟨j,he,h1,h2,h3,h4,h5⟩;refine⟨⟨5,false,⟨#[]⟩,none,0,0,none,0,0,none,0,0,none,0,0,none,0,0⟩,j,x,he,h1,?_,h4,h5,.inr ⟨hx,rfl⟩⟩;rcases Nat.le_total i T.length with h9 | h9
  ·exact .inl (by have:=h2 h9;omega)
  ·exact .inr (h3 h9)
def i7 (p:PR (List Dt)):PR (List Dt):=match p with
 | .error e=>.error e
 | .ok (l,r)=>match fA [102,105] r with
  | .error e=>.error e
  | .ok (_,r2)=>.ok (ndR 6 false [] [] [] [] l [],r2)
def gP (K M:Nat) (acc:List Dt) (p:PR (List Dt)):PR (List Dt):=match p with
 | .error e=>.error e
 | .ok (b,r2)=>i7 (if aT [101,108,105,102] r2 then cA (aC K) M (acc++b) r2.tail
  else if aT [101,108,115,101] r2 then (match cU (aC K) r2.tail with
   | .error e=>.error e
   | .ok (x,r3)=>.ok (acc++b++x,r3))
  else .ok (acc++b,r2))
def mN (K M:Nat) (acc:List Dt) (p:PR (List Dt)):PR (List Dt):=match p with
 | .error e=>.error e
 | .ok (c,r)=>match fA [116,104,101,110] r with
  | .error e=>.error e
  | .ok (_,r1)=>gP K M (acc++c) (cU (aC K) r1)
def rF (acc:List Dt) (p:PR (List Dt)):PR (List Dt):=match p with
 | .error e=>.error e
 | .ok (x,r3)=>i7 (.ok (acc++x,r3))
theorem Dm (K:Nat) (ts:List Tk):eZ (aC K) ts=i7 (cA (aC K) (ts.length+1) [] ts):=by
 unfold eZ i7;cases cA (aC K) (ts.length+1) [] ts with
 | error e=>rfl
 | ok p=>rfl
theorem B2 (K M:Nat) (acc:List Dt) (ts:List Tk):i7 (cA (aC K) (M+1) acc ts)=mN K M acc (cU (aC K) ts):=by
 unfold mN;conv=>lhs;unfold cA
 cases cU (aC K) ts with
 | error e=>rfl
 | ok p=>
  obtain⟨c,r⟩:=p;dsimp only;cases fA [116,104,101,110] r with
  | error e=>rfl
  | ok q=>
   obtain⟨_,r1⟩:=q;dsimp only;unfold gP;cases cU (aC K) r1 with
   | error e=>rfl
   | ok p=>rfl
theorem Aw {s:Bs} (hs:kA.contains s=true) {r:List Tk} (h:cZ r=false):aT s r=false:=by
 cases hw:aT s r with
 | false=>rfl
 | true=>rw [Fe hs r hw] at h;cases h
theorem s8 {l:List Dt} {r:List Tk} (h:aT [102,105] r=false):i7 (.ok (l,r))=.error 2:=by
 unfold i7;dsimp only;rw [k8 h]
theorem vV {l:List Dt} {r:List Tk} (h:aT [102,105] r=true):i7 (.ok (l,r))=.ok (ndR 6 false [] [] [] [] l [],r.tail):=by
 unfold i7;dsimp only;rw [kM h]
theorem Fm {K M:Nat} {acc c:List Dt} {r:List Tk} (h:aT [116,104,101,110] r=false):mN K M acc (.ok (c,r))=.error 2:=by
 unfold mN;dsimp only;rw [k8 h]
theorem Dh {K M:Nat} {acc c:List Dt} {r:List Tk} (h:aT [116,104,101,110] r=true):mN K M acc (.ok (c,r))=gP K M (acc++c) (cU (aC K) r.tail):=by
 unfold mN;dsimp only;rw [kM h]
theorem nG {K M:Nat} {acc b:List Dt} {r:List Tk} (h1:aT [101,108,105,102] r=false) (h2:aT [101,108,115,101] r=false):gP K M acc (.ok (b,r))=i7 (.ok (acc++b,r)):=by
 unfold gP;dsimp only;rw [h1,h2];rfl
theorem Al {K M:Nat} {acc b:List Dt} {r:List Tk} (h1:aT [101,108,105,102] r=true):gP K M acc (.ok (b,r))=i7 (cA (aC K) M (acc++b) r.tail):=by
 unfold gP;dsimp only;rw [h1];rfl
theorem zR {K M:Nat} {acc b:List Dt} {r:List Tk} (h1:aT [101,108,105,102] r=false) (h2:aT [101,108,115,101] r=true):gP K M acc (.ok (b,r))=rF (acc++b) (cU (aC K) r.tail):=by
 unfold gP;dsimp only;rw [h1,h2,if_neg (by simp),if_pos rfl];unfold rF;cases cU (aC K) r.tail with
 | error e=>rfl
 | ok p=>rfl
theorem Ec {K M:Nat} {acc b:List Dt} {r:List Tk} (h:cZ r=false):gP K M acc (.ok (b,r))=.error 2:=by
 rw [nG (Aw (by decide) h) (Aw (by decide) h),s8 (Aw (by decide) h)]
def CH (gd:Prop) (K:Nat) (acc:List Dt) (T:List Tk) (I x:Nat) (res:PR (List Dt)):Prop:=(gd∧x=0∧I≤T.length∧∃M,T.length - I+1≤M∧res=i7 (cA (aC K) M acc (T.drop I)))∨(x≠0∧res=.error x)
theorem Fi {acc x:List Dt} {r:List Tk} (h:aT [102,105] r=false):rF acc (.ok (x,r))=.error 2:=s8 h
theorem t7 {K M:Nat} {acc db:List Dt} {T:List Tk} {jb xb jc xc xe:Nat} {res:PR (List Dt)} {gb:Prop} {w:World} {D:Nat→Prop} {us:List Value} (hst:QSt gb (res=gP K M acc (.ok (db,T.drop jb))) T jb xb res) (hel:aT [101,108,115,101] (T.drop jb)=true)
 (hfc:(xb=0∧QF true w D T (cU (aC K) (T.drop (jb+1))) us jc xc)∨(xb≠0∧xc=xb)) (hxe:xe=if xc=0 then (if aT [102,105] (T.drop jc) then 0 else 2) else xc) :
 ∃(gc:Prop) (dc:List Dt),(gc→gb∧NdD dc∧RdL w D dc us)∧((gc∧xe=0∧jc+1≤T.length∧res=.ok (ndR 6 false [] [] [] [] (acc++db++dc) [],T.drop (jc+1)))∨(xe≠0∧res=.error xe)):=by
 have hel2:aT [101,108,105,102] (T.drop jb)=false:=by
  unfold aT at hel ⊢;rw [beq_iff_eq.1 hel];rfl
 rcases hst with ⟨g,hx,hj,hr⟩ | ⟨hx,hr⟩ | ⟨_,ho,_⟩
 ·rw [zR hel2 hel,aS] at hr;rcases hfc with ⟨_,hq⟩ | ⟨h9,_⟩
  ·rcases kJ (P:=aT [102,105]) (Fe (by decide)) (xM (by decide)) hq hxe with ⟨dc,_,hw,h0,hn,hd,hjc,hl⟩ | ⟨h0,hf⟩
   ·have:=bQ (cJ (by decide) hw);refine⟨True,dc,fun _=>⟨g,hn,hd⟩,.inl ⟨trivial,h0,by omega,?_⟩⟩;rw [hr,hl];unfold rF;dsimp only;rw [vV hw,aS]
   ·exact⟨False,[],fun h=>h.elim,.inr ⟨h0,by rw [hr,hf (rF (acc++db)) (fun e=>rfl) (fun ds r h=>Fi h)]⟩⟩
  ·exact absurd hx h9
 ·rcases hfc with ⟨h9,_⟩ | ⟨_,rfl⟩
  ·exact absurd h9 hx
  ·rw [if_neg hx] at hxe;subst hxe;exact⟨False,[],fun h=>h.elim,.inr ⟨hx,hr⟩⟩
 ·rw [xM (by decide) _ ho] at hel;cases hel
theorem cX {s:Bs} {ts:List Tk} (h:aR (atF ts)=s) (t:Bs):aT t ts=(s==t):=by
 unfold aT;rw [h]
end Go.Proofs.YtiihpbccabeoeaaGreatDoor
