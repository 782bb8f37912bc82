/- The walk: a part. -/
import Derived.Test.YtiihpbccabeoeaaGreatDoorWPxR
namespace Go.Proofs.YtiihpbccabeoeaaGreatDoor
open Go.RowKit
set_option linter.unusedVariables false
set_option maxRecDepth 100000
set_option maxHeartbeats 16000000
theorem Fe {s:Bs} (hs:kA.contains s=true) (ts:List Tk) (h:aT s ts=true):cZ ts=true:=by
 unfold aT at h;unfold cZ;rw [beq_iff_eq.1 h,hs,Bool.or_true]
theorem xM {s:Bs} (hs:s≠[]) (ts:List Tk) (h:aG [40] ts=true):aT s ts=false:=by
 unfold aT;rw [wK h,beq_eq_false_iff_ne];exact fun e=>hs e.symm
theorem Re (ts:List Tk) (h:aG [41] ts=true):cZ ts=true:=by
 unfold cZ;rw [h,Bool.or_true,Bool.true_or,Bool.true_or]
theorem Q3 (ts:List Tk) (h:aG [40] ts=true):aG [41] ts=false:=lH h [41] (by decide)
theorem kJ {P:List Tk→Bool} (hP1:∀ts,P ts=true→cZ ts=true) (hP2:∀ts,aG [40] ts=true→P ts=false) {w:World} {D:Nat→Prop} {T:List Tk} {res:PR (List Dt)} {us:List Value} {j x x3:Nat} (h:QF true w D T res us j x) (h3:x3=if x=0 then (if P (T.drop j) then 0 else 2) else x) :
 (∃ds,x=0∧P (T.drop j)=true∧x3=0∧NdD ds∧RdL w D ds us∧j≤T.length∧res=.ok (ds,T.drop j))∨
 (x3≠0∧∀{β:Type} (f:PR (List Dt)→PR β),(∀e,f (.error e)=.error e)→(∀ds r,P r=false→f (.ok (ds,r))=.error 2)→f res=.error x3):=by
 have key:∀{β:Type} (f:PR (List Dt)→PR β),(∀ds r,P r=false→f (.ok (ds,r))=.error 2)→true=true→∀ds r,cZ r=false→f (.ok (ds,r))=.error 2:=fun f hc _ ds r hr=>hc ds r (by
  cases hp:P r with
  | false=>rfl
  | true=>rw [hP1 r hp] at hr;cases hr)
 by_cases hx:x=0
 ·subst hx;rw [if_pos rfl] at h3;cases hp:P (T.drop j) with
  | true=>
   rw [hp,if_pos rfl] at h3;cases res with
   | error y=>
    rcases h with ⟨h1,h2⟩ | ⟨_,_,ho⟩
    ·exact absurd h1.symm h2
    ·rw [hP2 _ ho] at hp;cases hp
   | ok p=>
    obtain⟨ds,r⟩:=p;rcases h with ⟨_,hn,hr,hd,hj⟩ | ⟨_,hr,h9 | ⟨_,ho⟩⟩
    ·exact .inl ⟨ds,rfl,rfl,h3,hn,hr,hj,by rw [hd]⟩
    ·cases h9
    ·rw [hP2 _ ho] at hp;cases hp
  | false=>
   rw [hp,if_neg (by simp)] at h3;refine .inr ⟨by omega,fun f he hc=>?_⟩;rcases h.split f he (key f hc) with ⟨ds,r,hr,_,_,_,hj,_⟩ | ⟨h9,_⟩ | ⟨_,_,hr⟩
   ·rw [hr,h3,hc ds r (by rw [←hj];exact hp)]
   ·exact absurd rfl h9
   ·rw [hr,h3]
 ·rw [if_neg hx] at h3;subst h3;refine .inr ⟨hx,fun f he hc=>?_⟩;rcases h.split f he (key f hc) with ⟨ds,r,hr,h0,_⟩ | ⟨_,hr⟩ | ⟨h0,_⟩
  ·exact absurd h0 hx
  ·exact hr
  ·exact absurd h0 hx
theorem Hj {P:List Tk→Bool} (hP1:∀ts,P ts=true→cZ ts=true) (hP2:∀ts,aG [40] ts=true→P ts=false) (hP3:∀ts,P ts=true→1≤ts.length) {w w2:World} {D D2:Nat→Prop} {T:List Tk} {resL res:PR (List Dt)} {us us2:List Value} {j x x3:Nat} (h:QF true w D T resL us j x) (h3:x3=if x=0 then (if P (T.drop j) then 0 else 2) else x)
 (f:PR (List Dt)→PR (List Dt)) (g:List Dt→List Dt) (hres:res=f resL) (he:∀e,f (.error e)=.error e) (hc:∀ds r,P r=false→f (.ok (ds,r))=.error 2) (hg:∀ds r,P r=true→f (.ok (ds,r))=.ok (g ds,r.tail)) (hr:∀ds,NdD ds→RdL w D ds us→NdD (g ds)∧RdL w2 D2 (g ds) us2):QF false w2 D2 T res us2 (j+1) x3:=by
 rcases kJ hP1 hP2 h h3 with ⟨ds,hx,hp,h0,hn,hd,hj,hres2⟩ | ⟨hx,hf⟩
 ·have:=bQ (hP3 _ hp);refine QF.good (ds:=g ds) (r:=T.drop (j+1)) ?_ h0 (hr ds hn hd).1 (hr ds hn hd).2 rfl (by omega);rw [hres,hres2,hg ds _ hp,aS]
 ·exact QF.err hx (by rw [hres,hf f he hc])
theorem k8 {s:Bs} {r:List Tk} (h:aT s r=false):fA s r=.error 2:=by unfold fA;rw [h];rfl
theorem kM {s:Bs} {r:List Tk} (h:aT s r=true):fA s r=.ok ((),r.tail):=by unfold fA;rw [h];rfl
theorem oT {s:Bs} {r:List Tk} (h:aG s r=false):fK s r=.error 2:=by unfold fK;rw [h];rfl
theorem mZ {s:Bs} {r:List Tk} (h:aG s r=true):fK s r=.ok ((),r.tail):=by unfold fK;rw [h];rfl
def Bq (p:PR (List Dt)):PR (List Dt):=match p with
 | .error e=>.error e
 | .ok (d,r2)=>match fA [100,111,110,101] r2 with
  | .error e=>.error e
  | .ok (_,r3)=>.ok (d,r3)
theorem Ob (K:Nat) (ts:List Tk):dQ (aC K) ts=if aT [100,111] ts then Bq (cU (aC K) ts.tail) else .error 2:=by
 unfold dQ fA;cases aT [100,111] ts with
 | false=>rfl
 | true=>
  rw [if_pos rfl,if_pos rfl];dsimp only;unfold Bq;cases cU (aC K) ts.tail with
  | error e=>rfl
  | ok p=>rfl
theorem Hy (w:World) (Lo B ps n i x deep:Nat) (tv:Value) (T:List Tk) (h:QS w Lo B ps tv n T i x) (hx:x≠0) :
 Calls Tryz.prog 63 #[.pointer (some ⟨ps,0,none⟩),.int .i64 (deep:Nat)] w fun e w'=>∃j,e=.returned (.agg #[.int .i64 5,.bool false,.string ⟨#[]⟩,.slice none 0 0,.slice none 0 0,.slice none 0 0,.slice none 0 0,.slice none 0 0])∧i≤j∧(i≤T.length→j≤T.length)∧(T.length≤i→j=i)∧QS w' Lo B ps tv n T j x∧aB (fun b=>b=ps) w w':=by
 have HPS:=Hd h.lt;have HS:=Lib.hid h;have HXN:=Hd hx;clear h hx;go_enter Tryz.func63,Tryz.ntmps63;go_wp2_with fail;obtain⟨W,hW⟩:∃W,W=w.alloc (.cells #[.int .i64 0,.bool false,.string ⟨#[]⟩,.slice none 0 0,.slice none 0 0,.slice none 0 0,.slice none 0 0,.slice none 0 0] 44):=⟨_,rfl⟩;have hk0:K0 w W:=by rw [hW];exact (aB.refl _ _).alloc _
 have HZ:=Hd (show aH W w.heap.size [.int .i64 0,.bool false,.string ⟨#[]⟩,.slice none 0 0,.slice none 0 0,.slice none 0 0,.slice none 0 0,.slice none 0 0] by rw [hW];exact aK w _ _ _ _ _ _ _ _ _);rw [←hW];have HK0:=Hd hk0;replace HS:=Hd (HS.o.keep0 hk0);clear hk0 hW;refine (cY W Lo B ps n i x tv T HS.o).mono ?_;rintro e w1 ⟨rfl,j0,hj1,hj2,hj3,hj4,hs4,hk4⟩;have HK1:=Hd ((HK0.o.mono (fun _ _ h=>h.elim)).trans hk4 k3)
 have HS1:=Hd hs4;replace HZ:=Hd (HZ.o.keep hk4 (fun e=>by have:=HPS.o;omega));have t:((x:Int)==0)=false:=by have:=HXN.o;rw [beq_eq_false_iff_ne];omega
 clear hs4 hk4 hj4 HS HK0;obtain⟨c0,c1,c2,f1,f2⟩:=HS1.o.cells;have hlt:=HS1.o.lt;go_wp2_with fail;go_loopg [5] 0 (fun g l' wr=>g=0∧l'=.slice none 0 0∧wr=w1)
 case atStart=>exact⟨rfl,rfl,rfl⟩
 case round=>
  obtain⟨_,rfl,rfl⟩:=hrel;obtain⟨⟨z0,z1,z2,z3,z4,z5,z6,z7⟩,⟨zf0,zf1,zf2,zf3,zf4,zf5,zf6,zf7⟩⟩:=HZ.o.eight;have hzl:=HZ.o.lt;go_wp2_with fail;refine bodyPost_ret (v:=.agg #[.int .i64 5,.bool false,.string ⟨#[]⟩,.slice none 0 0,.slice none 0 0,.slice none 0 0,.slice none 0 0,.slice none 0 0]) (by simp [results,Tryz.results63,go_sem,z0,z1,z2,z3,z4,z5,z6,z7]) rfl ?_;have h4:=(aJ wr w.heap.size (.int .i64 5) (.bool false) (.string ⟨#[]⟩) (.slice none 0 0) (.slice none 0 0) (.slice none 0 0) (.slice none 0 0) (.slice none 0 0))
  have hB:=HS1.o.ps;exact⟨j0,rfl,hj1,hj2,hj3,HS1.o.keep h4 (fun b hb e=>by have:=HPS.o;omega) (fun e=>by have:=HPS.o;omega),HK1.o.fresh h4 (fun b e=>by omega)⟩
theorem Iq (w:World) (Lo B ps n i x deep:Nat) (tv:Value) (T:List Tk) (h:QS w Lo B ps tv n T i x) (hx:x≠0) (hi:i+1≤T.length+1000) :
 Calls Tryz.prog 184 #[.pointer (some ⟨ps,0,none⟩),.int .i64 (deep:Nat)] w fun e w'=>e=.returned (.agg #[.int .i64 0,.bool false,.string ⟨#[]⟩,.slice none 0 0,.slice none 0 0,.slice none 0 0,.slice none 0 0,.slice none 0 0])∧QS w' Lo B ps tv n T (i+1) x∧aB (fun b=>b=ps) w w':=by
 have HPS:=Hd h.lt;have HS:=Lib.hid h;have HXN:=Hd hx;clear h hx;go_enter Tryz.func184,Tryz.ntmps184;go_wp2_with fail;obtain⟨W,hW⟩:∃W,W=w.alloc (.cells #[.int .i64 0,.bool false,.string ⟨#[]⟩,.slice none 0 0,.slice none 0 0,.slice none 0 0,.slice none 0 0,.slice none 0 0] 44):=⟨_,rfl⟩;have hk0:K0 w W:=by rw [hW];exact (aB.refl _ _).alloc _
 have HZ:=Hd (show aH W w.heap.size [.int .i64 0,.bool false,.string ⟨#[]⟩,.slice none 0 0,.slice none 0 0,.slice none 0 0,.slice none 0 0,.slice none 0 0] by rw [hW];exact aK w _ _ _ _ _ _ _ _ _);rw [←hW];have HK0:=Hd hk0;replace HS:=Hd (HS.o.keep0 hk0);clear hk0 hW;refine (fF W Lo B ps n i x tv T [100,111] HS.o hi).mono ?_;rintro e w1 ⟨rfl,hs1,hk1⟩;rw [if_neg HXN.o] at hs1;have HK1:=Hd ((HK0.o.mono (fun _ _ h=>h.elim)).trans hk1 k3)
 have HS1:=Hd hs1;replace HZ:=Hd (HZ.o.keep hk1 (fun e=>by have:=HPS.o;omega));have t:((x:Int) != 0)=true:=by have:=HXN.o;rw [bne_iff_ne];omega
 clear hs1 hk1 HS HK0;obtain⟨c0,c1,c2,f1,f2⟩:=HS1.o.cells;have hlt:=HS1.o.lt;obtain⟨⟨z0,z1,z2,z3,z4,z5,z6,z7⟩,⟨zf0,zf1,zf2,zf3,zf4,zf5,zf6,zf7⟩⟩:=HZ.o.eight;have hzl:=HZ.o.lt;go_wp2_with fail;refine bodyPost_ret (v:=.agg #[.int .i64 0,.bool false,.string ⟨#[]⟩,.slice none 0 0,.slice none 0 0,.slice none 0 0,.slice none 0 0,.slice none 0 0]) (by simp [results,Tryz.results184,go_sem,z0,z1,z2,z3,z4,z5,z6,z7]) rfl ?_
 have h4:=(aJ w1 w.heap.size (.int .i64 0) (.bool false) (.string ⟨#[]⟩) (.slice none 0 0) (.slice none 0 0) (.slice none 0 0) (.slice none 0 0) (.slice none 0 0));have hB:=HS1.o.ps;exact⟨rfl,HS1.o.keep h4 (fun b hb e=>by have:=HPS.o;omega) (fun e=>by have:=HPS.o;omega),HK1.o.fresh h4 (fun b e=>by omega)⟩
theorem Iu (K:Nat) (hcmd:eU K) (w:World) (Lo B ps n i deep:Nat) (tv:Value) (T:List Tk) (h:QS w Lo B ps tv n T i 0) (hi:i≤T.length) (hd:deep+1+K=41) :
 Calls Tryz.prog 184 #[.pointer (some ⟨ps,0,none⟩),.int .i64 (deep:Nat)] w (iJ w Lo B ps tv n T i (2*K+1) false (dQ (aC K) (T.drop i))):=by
 obtain⟨res,hres⟩:∃res,res=dQ (aC K) (T.drop i):=⟨_,rfl⟩;rw [←hres];rw [Ob,aS] at hres;have HPS:=Hd h.lt;have HS:=Lib.hid h;have HC:=Hd hcmd;have HRES:=Hd hres;have HD:=Hd hd;have hdw:IntKind.i64.wrap ((deep:Int)+1)=(deep:Int)+1:=IntWalk.i64_in _ (by omega);have hc8:=bV;clear h hcmd hd hres;go_enter Tryz.func184,Tryz.ntmps184;go_wp2_with fail;obtain⟨W,hW⟩:∃W,W=w.alloc (.cells #[.int .i64 0,.bool false,.string ⟨#[]⟩,.slice none 0 0,.slice none 0 0,.slice none 0 0,.slice none 0 0,.slice none 0 0] 44):=⟨_,rfl⟩
 have hk0:K0 w W:=by rw [hW];exact (aB.refl _ _).alloc _
 have HZ:=Hd (show aH W w.heap.size [.int .i64 0,.bool false,.string ⟨#[]⟩,.slice none 0 0,.slice none 0 0,.slice none 0 0,.slice none 0 0,.slice none 0 0] by rw [hW];exact aK w _ _ _ _ _ _ _ _ _);rw [←hW];have HK0:=Hd hk0;replace HS:=Hd (HS.o.keep0 hk0);clear hk0 hW;refine (fF W Lo B ps n i 0 tv T [100,111] HS.o (by omega)).mono ?_;rintro e w1 ⟨rfl,hs1,hk1⟩;rw [if_pos rfl] at hs1
 have HK1:=Hd ((HK0.o.mono (fun _ _ h=>h.elim)).trans hk1 k3);replace HZ:=Hd (HZ.o.keep hk1 (fun e=>by have:=HPS.o;omega));have hres:=HRES.o;cases ho:aT [100,111] (T.drop i) with
 | false=>
  rw [ho,if_neg (by simp)] at hs1 hres;have HS1:=Hd hs1;have HRX:=Hd hres;clear hs1 hk1 HS HK0 hres ho HRES;obtain⟨c0,c1,c2,f1,f2⟩:=HS1.o.cells;have hlt:=HS1.o.lt;obtain⟨⟨z0,z1,z2,z3,z4,z5,z6,z7⟩,⟨zf0,zf1,zf2,zf3,zf4,zf5,zf6,zf7⟩⟩:=HZ.o.eight;have hzl:=HZ.o.lt;go_wp2_with fail;refine bodyPost_ret (v:=.agg #[.int .i64 0,.bool false,.string ⟨#[]⟩,.slice none 0 0,.slice none 0 0,.slice none 0 0,.slice none 0 0,.slice none 0 0]) (by simp [results,Tryz.results184,go_sem,z0,z1,z2,z3,z4,z5,z6,z7]) rfl ?_
  have hB:=HS1.o.ps;obtain⟨f1,f2,f3⟩:=bS HK1.o HS1.o HPS.o (QF.err (cl:=false) (w:=w1) (D:=fun b=>Qd Lo B w.heap.size b∧b≠w.heap.size) (us:=[.int .i64 0,.bool false,.string ⟨#[]⟩,.slice none 0 0,.slice none 0 0,.slice none 0 0,.slice none 0 0,.slice none 0 0]) (by decide) HRX.o) (aJ w1 w.heap.size (.int .i64 0) (.bool false) (.string ⟨#[]⟩) (.slice none 0 0) (.slice none 0 0) (.slice none 0 0) (.slice none 0 0) (.slice none 0 0))
  exact⟨⟨0,false,⟨#[]⟩,none,0,0,none,0,0,none,0,0,none,0,0,none,0,0⟩,i+1,2,rfl,by omega,by omega,f1,f2,f3⟩
 | true=>
  rw [ho,if_pos rfl] at hs1 hres;have HS1:=Hd hs1;have HRX:=Hd hres;have hpos:=bQ (cJ (by decide) ho);clear hs1 hk1 HS HK0 hres ho HRES;obtain⟨c0,c1,c2,f1,f2⟩:=HS1.o.cells;have hlt:=HS1.o.lt;go_wp2_with fail;refine (gR K HC.o w1 Lo B ps n (i+1) (deep+1) tv T HS1.o (by omega) (by have:=HD.o;omega)).mono ?_;rintro e w2 ⟨v,j2,bd,rfl,hij2,hj2b,hs2,hk2,hf2⟩;go_upto_region 5 with fail
  obtain⟨NB,hNB⟩:∃NB,NB=w2.heap.size:=⟨_,rfl⟩;obtain⟨W3,hW3⟩:∃W3,W3=w2.alloc (.cells #[.int .i64 v.k,.bool v.nt,.string v.nm,.slice v.a0 v.n0 v.c0,.slice v.a1 v.n1 v.c1,.slice v.a2 v.n2 v.c2,.slice v.a3 v.n3 v.c3,.slice v.a4 v.n4 v.c4] 44):=⟨_,rfl⟩;rw [←hW3]
  try rw [←hNB]
  have hk3:K0 w2 W3:=by rw [hW3];exact (aB.refl _ _).alloc _
  have hNR:aH W3 NB [.int .i64 v.k,.bool v.nt,.string v.nm,.slice v.a0 v.n0 v.c0,.slice v.a1 v.n1 v.c1,.slice v.a2 v.n2 v.c2,.slice v.a3 v.n3 v.c3,.slice v.a4 v.n4 v.c4]:=by rw [hW3,hNB];exact aK _ _ _ _ _ _ _ _ _ _
  have HS3:=Hd (hs2.keep0 hk3);have hps2:=hs2.lt;have hw1:=HZ.o.lt;have hsz2:=hk2.size;have hnb:NB≠ps:=by omega
  have HNRH:=Hd hNR;have HK3:=Hd hk3;clear hW3 hNB hNR hk3;go_wp2_with fail;refine (fF W3 Lo B ps n j2 bd tv T [100,111,110,101] HS3.o (by have:=HD.o;omega)).mono ?_;rintro e w4 ⟨rfl,hs4,hk4⟩;have hk3:=HK3.o;have hNR:=HNRH.o;obtain⟨bd4,hy4⟩:∃bd4,bd4=if bd=0 then (if aT [100,111,110,101] (T.drop j2) then 0 else 2) else bd:=⟨_,rfl⟩;rw [←hy4] at hs4;have hkk:=(hk2.trans hk3 (fun _ _ h=>h.elim)).trans hk4 k3
  have HS4:=Hd hs4;have HK4:=Hd (HK1.o.trans hkk k3);replace HZ:=Hd (HZ.o.keep hkk (fun e=>by have:=HPS.o;omega));have HN4:=Hd (hNR.keep hk4 hnb);have hf4:=Hj (w2:=w4) (D2:=fun b=>Qd Lo B w.heap.size b∧b≠w.heap.size) (us2:=[.int .i64 v.k,.bool v.nt,.string v.nm,.slice v.a0 v.n0 v.c0,.slice v.a1 v.n1 v.c1,.slice v.a2 v.n2 v.c2,.slice v.a3 v.n3 v.c3,.slice v.a4 v.n4 v.c4]) (Fe (s:=[100,111,110,101]) (by decide)) (xM (by decide)) (fun ts h=>cJ (by decide) h) hf2 hy4 Bq id HRX.o (fun e=>rfl) (fun ds r h=>by unfold Bq;dsimp only;rw [k8 h]) (fun ds r h=>by unfold Bq;dsimp only;rw [kM h];rfl)
   (fun ds hn hr=>⟨hn,((hr.keep hk3 (fun _ _ _ h=>h)).keep hk4 (fun b _ hb e=>iX (X:=w1.heap.size) hs4.ps (by have:=HPS.o;omega) hb e)).mono (fun b _ hb=>by rcases hb with h | h;exact⟨.inl h,by have:=HPS.o;have:=hs4.ps;omega⟩;exact⟨.inr (by omega),by omega⟩)⟩)
  have HF4:=Hd hf4;have HIB:=Hd (show i≤j2+1∧j2+1≤T.length+(2*K+1) by omega);obtain⟨⟨x0,x1,x2,x3,x4,x5,x6,x7⟩,⟨xf0,xf1,xf2,xf3,xf4,xf5,xf6,xf7⟩⟩:=HN4.o.eight;have hNl:=HN4.o.lt;clear hs2 hk2 hf2 hk3 hNR hs4 hk4 hy4 hkk hf4 hps2 hw1 hsz2 c0 c1 c2 f1 f2 hlt hij2 hj2b;obtain⟨⟨z0,z1,z2,z3,z4,z5,z6,z7⟩,⟨zf0,zf1,zf2,zf3,zf4,zf5,zf6,zf7⟩⟩:=HZ.o.eight;have hzl:=HZ.o.lt;go_wp2_with fail;refine bodyPost_ret (v:=.agg #[.int .i64 v.k,.bool v.nt,.string v.nm,.slice v.a0 v.n0 v.c0,.slice v.a1 v.n1 v.c1,.slice v.a2 v.n2 v.c2,.slice v.a3 v.n3 v.c3,.slice v.a4 v.n4 v.c4]) (by simp [results,Tryz.results184,go_sem,z0,z1,z2,z3,z4,z5,z6,z7]) rfl ?_
  obtain⟨f1,f2,f3⟩:=bS HK4.o HS4.o HPS.o HF4.o (aJ w4 w.heap.size (.int .i64 v.k) (.bool v.nt) (.string v.nm) (.slice v.a0 v.n0 v.c0) (.slice v.a1 v.n1 v.c1) (.slice v.a2 v.n2 v.c2) (.slice v.a3 v.n3 v.c3) (.slice v.a4 v.n4 v.c4));exact⟨v,j2+1,bd4,rfl,HIB.o.1,HIB.o.2,f1,f2,f3⟩
def yA (kind:Nat) (close:List Tk→PR Unit) (p:PR (List Dt)):PR (List Dt):=match p with
 | .error e=>.error e
 | .ok (d,r)=>match close r with
  | .error e=>.error e
  | .ok (_,r2)=>.ok (ndR kind false [] [] [] [] d [],r2)
theorem Gu (cmd:List Tk→PR (List Dt)) (kind:Nat) (close:List Tk→PR Unit) (ts:List Tk):f8 cmd kind close ts=yA kind close (cU cmd ts):=by
 unfold f8 yA;cases cU cmd ts with
 | error e=>rfl
 | ok p=>rfl
theorem wH {kind:Nat} {close:List Tk→PR Unit} {ds:List Dt} {r:List Tk} (h:close r=.error 2):yA kind close (.ok (ds,r))=.error 2:=by
 unfold yA;dsimp only;rw [h]
theorem sR {kind:Nat} {close:List Tk→PR Unit} {ds:List Dt} {r:List Tk} (h:close r=.ok ((),r.tail)):yA kind close (.ok (ds,r))=.ok (ndR kind false [] [] [] [] ds [],r.tail):=by
 unfold yA;dsimp only;rw [h]
theorem iE {s:Bs} {ts:List Tk} (h:aT s ts=true) (hs:s≠[]):aG [40] ts=false:=by
 cases ho:aG [40] ts with
 | false=>rfl
 | true=>rw [xM hs ts ho] at h;cases h
def qB (cmd:List Tk→PR (List Dt)) (kind:Nat) (p:PR (List Dt)):PR (List Dt):=match p with
 | .error e=>.error e
 | .ok (d,r)=>match dQ cmd r with
  | .error e=>.error e
  | .ok (b,r2)=>.ok (ndR kind false [] [] [] [] (d++b) [],r2)
theorem B0 (cmd:List Tk→PR (List Dt)) (kind:Nat) (ts:List Tk):fB cmd kind ts=qB cmd kind (cU cmd ts):=by
 unfold fB qB;cases cU cmd ts with
 | error e=>rfl
 | ok p=>rfl
theorem yU {cmd:List Tk→PR (List Dt)} {ts:List Tk} (h:aT [100,111] ts=false):dQ cmd ts=.error 2:=by
 unfold dQ;rw [k8 h]
theorem mI {w w6 w8 wE:World} {Lo B ps:Nat} {tv:Value} {n:Nat} {T:List Tk} {J x kind m:Nat} {res:PR (List Dt)} {vv:List Value} (hk:aB (fun b=>b=ps) w w6) (hs:QS w6 Lo B ps tv n T J x) (hc:ps<w.heap.size) (hw:w.heap.size<w6.heap.size)
 (h8:aB (fun b=>b=w.heap.size) w6 w8) (hsz:w8.heap.size=w6.heap.size) (hE:wE=w8.alloc (.cells vv.toArray 44)) (hm:m≤2)
 (hq:(∃ds,res=.ok (ndR kind false [] [] [] [] ds [],T.drop J)∧x=0∧J≤T.length∧ds.length=m*8∧RdL w6 (fun b=>Qd Lo B w.heap.size b∧b≠w.heap.size) ds vv)∨QF false w6 (fun _=>False) T res [] J x) :
 QS wE Lo B ps tv n T J x∧aB (fun b=>b=ps) w wE∧QF false wE (Qd Lo B w.heap.size) T res (NV.vals ⟨(kind:Nat),false,⟨#[]⟩,none,0,0,none,0,0,none,0,0,some ⟨w6.heap.size,0,none⟩,m,m,none,0,0⟩) J x:=by
 have hB:=hs.ps;have hkE:K0 w8 wE:=by rw [hE];exact (aB.refl _ _).alloc _
 refine⟨(hs.keep h8 (fun b hb e=>by omega) (fun e=>by omega)).keep0 hkE,(hk.fresh h8 (fun b e=>by omega)).trans hkE (fun _ _ e=>e.elim),?_⟩;rcases hq with ⟨ds,hr,hx,hJ,hl,hd⟩ | hq
 ·have h1:=(hd.keep h8 (fun b _ hb e=>hb.2 e)).mono (D':=Qd Lo B w.heap.size) (fun b _ hb=>hb.1);have h2:=mV h1 hl (by unfold maxLen;omega) hE (.inr (by omega));rw [hsz] at h2;exact QF.good hr hx ⟨_,_,_,_,_,_,_,_,rfl⟩ ⟨.int _,.bool _,.str _,.nil _ _ _ (Nat.zero_le _),.nil _ _ _ (Nat.zero_le _),.nil _ _ _ (Nat.zero_le _),h2,.nil _ _ _ (Nat.zero_le _),trivial⟩ rfl hJ
 ·cases res with
  | error y=>exact hq
  | ok p=>
   obtain⟨ds,r⟩:=p;rcases hq with ⟨_,hn,hr,_,_⟩ | ⟨h,_⟩
   ·have:=hr.len;rw [hn.len] at this;cases this
   ·cases h
theorem uI {w w1 w2 w3:World} {Lo B ps:Nat} {tv:Value} {n:Nat} {T:List Tk} {J x:Nat} {res:PR (List Dt)} {us:List Value} (hk1:aB (fun b=>b=ps) w w1) (hw:w.heap.size<w1.heap.size) (hk2:aB (fun b=>b=ps) w1 w2) (hs:QS w2 Lo B ps tv n T J x) (hc:ps<w.heap.size)
 (hf:QF false w2 (Qd Lo B w1.heap.size) T res us J x) (h8:aB (fun b=>b=w.heap.size) w2 w3):QS w3 Lo B ps tv n T J x∧aB (fun b=>b=ps) w w3∧QF false w3 (Qd Lo B w.heap.size) T res us J x:=by
 refine bS (hk1.trans hk2 k3) hs hc ?_ h8;cases res with
 | error y=>exact hf
 | ok p=>
  obtain⟨ds,r⟩:=p;rcases hf with ⟨h0,h1,h2,h3,h5⟩ | h
  ·exact .inl ⟨h0,h1,h2.mono (fun b _ hb=>⟨by rcases hb with h | h;exact .inl h;exact .inr (by omega),by have:=hs.ps;rcases hb with h | h<;>omega⟩),h3,h5⟩
  ·exact .inr h
theorem Fs (K:Nat) (hcmd:eU K) (w:World) (Lo B ps n i deep:Nat) (tv:Value) (T:List Tk) (h:QS w Lo B ps tv n T i 0) (hi:i≤T.length) (hd:deep+1+K=41) (ho:aG [40] (T.drop i)=true) :
 Calls Tryz.prog 163 #[.pointer (some ⟨ps,0,none⟩),.int .i64 (deep:Nat)] w (iJ w Lo B ps tv n T i (2*K+1) false (f8 (aC K) 13 (fK [41]) (T.drop i).tail)):=by
 obtain⟨res,hres⟩:∃res,res=f8 (aC K) 13 (fK [41]) (T.drop i).tail:=⟨_,rfl⟩;rw [←hres];rw [Gu,aS] at hres;have HPS:=Hd h.lt;have HS:=Lib.hid h;have HC:=Hd hcmd;have HD:=Hd hd;have HRES:=Hd hres;have hmT:T.length≤20000:=h.sm.1;have hdw:IntKind.i64.wrap ((deep:Int)+1)=(deep:Int)+1:=IntWalk.i64_in _ (by omega);have hsum:IntKind.i64.wrap ((i:Int)+1)=(i:Int)+1:=IntWalk.i64_in _ (by omega)
 have hc8:=bV;have HO:=Hd ho;have hpos:=bQ (dO ho);clear h hcmd hd hres ho;go_enter Tryz.func163,Tryz.ntmps163;go_wp2_with fail;obtain⟨W,hW⟩:∃W,W=w.alloc (.cells #[.int .i64 0,.bool false,.string ⟨#[]⟩,.slice none 0 0,.slice none 0 0,.slice none 0 0,.slice none 0 0,.slice none 0 0] 44):=⟨_,rfl⟩;have hk0:K0 w W:=by rw [hW];exact (aB.refl _ _).alloc _
 have HZ:=Hd (show aH W w.heap.size [.int .i64 0,.bool false,.string ⟨#[]⟩,.slice none 0 0,.slice none 0 0,.slice none 0 0,.slice none 0 0,.slice none 0 0] by rw [hW];exact aK w _ _ _ _ _ _ _ _ _);rw [←hW];have HK:=Hd (hk0.mono (T:=fun b=>b=ps) (fun _ _ h=>h.elim));replace HS:=Hd (HS.o.keep0 hk0);clear hk0 hW;have HQ:=Hd (a8 HS.o [40] true HO.o 0);refine HQ.o.mono ?_;rintro e wq ⟨rfl,dq,rfl⟩
 obtain⟨W1,hw2⟩:∃W1,W1=W.drewN dq:=⟨_,rfl⟩;rw [←hw2];have hkw:K0 W W1:=by rw [hw2];exact (aB.refl _ _).drewN _
 replace HS:=Hd (HS.o.keep0 hkw);replace HZ:=Hd (HZ.o.keep hkw (fun h=>h));replace HK:=Hd (HK.o.trans hkw (fun _ _ h=>h.elim));clear hw2 hkw;obtain⟨c0,c1,c2,f1,f2⟩:=HS.o.cells;have hlt:=HS.o.lt;go_wp2_with fail;obtain⟨W2,hw2⟩:∃W2,W2=W1.setCell ⟨ps,1,none⟩ (.int .i64 ((i:Int)+1)):=⟨_,rfl⟩;rw [←hw2];obtain⟨hi1,hi2⟩:=eM HS.o (by omega);rw [←hw2] at hi1 hi2;replace HS:=Hd hi1;replace HZ:=Hd (HZ.o.keep hi2 (fun e=>by have:=HPS.o;omega))
 replace HK:=Hd (HK.o.trans hi2 k3);clear hw2 hi1 hi2;clear c0 c1 c2 f1 f2 hlt HO;refine (gR K HC.o W2 Lo B ps n (i+1) (deep+1) tv T HS.o (by omega) (by have:=HD.o;omega)).mono ?_;rintro e w3 ⟨v,j,bd,rfl,hij,hjb,hs3,hk3,hf3⟩;go_upto_region 4 with fail;obtain⟨NB,hNB⟩:∃NB,NB=w3.heap.size:=⟨_,rfl⟩;obtain⟨W4,hW4⟩:∃W4,W4=w3.alloc (.cells #[.int .i64 v.k,.bool v.nt,.string v.nm,.slice v.a0 v.n0 v.c0,.slice v.a1 v.n1 v.c1,.slice v.a2 v.n2 v.c2,.slice v.a3 v.n3 v.c3,.slice v.a4 v.n4 v.c4] 44):=⟨_,rfl⟩
 rw [←hW4]
 try rw [←hNB]
 have hk4:K0 w3 W4:=by rw [hW4];exact (aB.refl _ _).alloc _
 have hkk:=hk3.trans hk4 (fun _ _ h=>h.elim);replace HS:=Hd (hs3.keep0 hk4);have hnb:NB≠ps:=by have:=hs3.lt;omega
 have HN:=Hd (show aH W4 NB [.int .i64 v.k,.bool v.nt,.string v.nm,.slice v.a0 v.n0 v.c0,.slice v.a1 v.n1 v.c1,.slice v.a2 v.n2 v.c2,.slice v.a3 v.n3 v.c3,.slice v.a4 v.n4 v.c4] by rw [hW4,hNB];exact aK _ _ _ _ _ _ _ _ _ _);have hwc:=HZ.o.lt;replace HZ:=Hd (HZ.o.keep hkk (fun e=>by have:=HPS.o;omega));replace HK:=Hd (HK.o.trans hkk k3);have HQF:=Hd hf3;have HTO:=Hd (show ∀ds,RdL w3 (Qd Lo B W2.heap.size) ds v.vals→RdL W4 (fun b=>Qd Lo B w.heap.size b∧b≠w.heap.size) ds v.vals from fun ds hr=>(hr.keep hk4 (fun _ _ _ h=>h)).mono (fun b _ hb=>by have:=hs3.ps;have:=HPS.o;rcases hb with h | h;exact⟨.inl h,by omega⟩;exact⟨.inr (by omega),by omega⟩))
 have HIB:=Hd (show i≤j+1∧j+1≤T.length+(2*K+1) by omega);have hjb2:j+1≤T.length+500:=by have:=HD.o;omega
 clear hs3 hk3 hf3 hk4 hkk hNB hW4 hij hjb hwc;cases hb:aG [41] (T.drop j) with
 | true=>
  have HQ2:=Hd (a8 HS.o [41] true hb 0);obtain⟨xz,hx3⟩:∃xz,xz=bd:=⟨_,rfl⟩;have HX3:=Hd (show xz=if bd=0 then (if aG [41] (T.drop j) then 0 else 2) else bd by rw [hb,hx3];by_cases h:bd=0;rw [if_pos h];exact h;rw [if_neg h]);rw [←hx3] at HS;have hsum2:IntKind.i64.wrap ((j:Int)+1)=(j:Int)+1:=IntWalk.i64_in _ (by omega);clear hb hx3;go_wp2_with fail;refine HQ2.o.mono ?_;rintro e wq ⟨rfl,dq,rfl⟩
  obtain⟨w5,hw2⟩:∃w5,w5=W4.drewN dq:=⟨_,rfl⟩;rw [←hw2];have hkw:K0 W4 w5:=by rw [hw2];exact (aB.refl _ _).drewN _
  replace HS:=Hd (HS.o.keep0 hkw);replace HZ:=Hd (HZ.o.keep hkw (fun h=>h));replace HK:=Hd (HK.o.trans hkw (fun _ _ h=>h.elim));replace HN:=Hd (HN.o.keep hkw (fun h=>h));have HKX:=Hd (hkw.mono (T:=fun b=>b=ps) (fun _ _ h=>h.elim));clear hw2 hkw;replace HTO:=Hd (show ∀ds,RdL w3 (Qd Lo B W2.heap.size) ds v.vals→RdL w5 (fun b=>Qd Lo B w.heap.size b∧b≠w.heap.size) ds v.vals from fun ds hr=>(HTO.o ds hr).keep HKX.o (fun b _ hb e=>iX (X:=w.heap.size) HS.o.ps HPS.o hb.1 e))
  obtain⟨c0,c1,c2,f1,f2⟩:=HS.o.cells;have hlt:=HS.o.lt;go_upto_region 7 with fail;obtain⟨w6,hw2⟩:∃w6,w6=w5.setCell ⟨ps,1,none⟩ (.int .i64 ((j:Int)+1)):=⟨_,rfl⟩;rw [←hw2];obtain⟨hi1,hi2⟩:=eM HS.o (by omega);rw [←hw2] at hi1 hi2;replace HS:=Hd hi1;replace HZ:=Hd (HZ.o.keep hi2 (fun e=>by have:=HPS.o;omega));replace HK:=Hd (HK.o.trans hi2 k3);replace HN:=Hd (HN.o.keep hi2 hnb)
  have HKI:=Hd hi2;clear hw2 hi1 hi2;have HTO6:=Hd (show ∀ds,RdL w3 (Qd Lo B W2.heap.size) ds v.vals→RdL w6 (fun b=>Qd Lo B w.heap.size b∧b≠w.heap.size) ds v.vals from fun ds hr=>(HTO.o ds hr).keep HKI.o (fun b _ hb e=>iX (X:=w.heap.size) HS.o.ps HPS.o hb.1 e));have hcl:=kJ (P:=aG [41]) Re Q3 HQF.o HX3.o;have HFIN:=Hd (show (∃ds,res=.ok (ndR 13 false [] [] [] [] ds [],T.drop (j+1))∧xz=0∧j+1≤T.length∧ds.length=1*8∧RdL w6 (fun b=>Qd Lo B w.heap.size b∧b≠w.heap.size) ds v.vals)∨QF false w6 (fun _=>False) T res [] (j+1) xz from by
   rcases hcl with ⟨ds,hx,hp,h0,hn,hd,hj,hr⟩ | ⟨hx,hf⟩
   ·refine .inl ⟨ds,?_,h0,?_,by rw [hn.len],HTO6.o ds hd⟩
    ·rw [HRES.o,hr,sR (mZ hp),aS]
    ·have:=bQ (dO hp);omega
   ·exact .inr (QF.err hx (by rw [HRES.o,hf _ (fun e=>rfl) (fun ds r h=>wH (oT h))])))
  clear hcl;clear c0 c1 c2 f1 f2 hlt;obtain⟨⟨x0,x1,x2,x3,x4,x5,x6,x7⟩,⟨xf0,xf1,xf2,xf3,xf4,xf5,xf6,xf7⟩⟩:=HN.o.eight;have hNl:=HN.o.lt;obtain⟨⟨z0,z1,z2,z3,z4,z5,z6,z7⟩,⟨zf0,zf1,zf2,zf3,zf4,zf5,zf6,zf7⟩⟩:=HZ.o.eight;have hzl:=HZ.o.lt;go_wp2_with fail;refine bodyPost_ret (v:=.agg #[.int .i64 13,.bool false,.string ⟨#[]⟩,.slice none 0 0,.slice none 0 0,.slice none 0 0,.slice (some ⟨w6.heap.size,0,none⟩) 1 1,.slice none 0 0]) (by simp [results,Tryz.results163,go_sem,z0,z1,z2,z3,z4,z5,z6,z7,hzl]) rfl ?_
  exact⟨⟨13,false,⟨#[]⟩,none,0,0,none,0,0,none,0,0,some ⟨w6.heap.size,0,none⟩,1,1,none,0,0⟩,j+1,xz,rfl,HIB.o.1,HIB.o.2,mI (kind:=13) (m:=1) (vv:=v.vals) HK.o HS.o HPS.o HZ.o.lt (aJ w6 w.heap.size (.int .i64 13) (.bool false) (.string ⟨#[]⟩) (.slice none 0 0) (.slice none 0 0) (.slice none 0 0) (.slice (some ⟨w6.heap.size,0,none⟩) 1 1) (.slice none 0 0)) (by simp [World.setCell]) rfl (by decide) HFIN.o⟩
 | false=>
  have HQ2:=Hd (a8 HS.o [41] false hb 0);obtain⟨xz,hx3⟩:∃xz,xz=(if bd=0 then 2 else bd):=⟨_,rfl⟩;have HX3:=Hd (show xz=if bd=0 then (if aG [41] (T.drop j) then 0 else 2) else bd by rw [hb,hx3];by_cases h:bd=0;rw [if_pos h,if_pos h];rfl;rw [if_neg h,if_neg h]);have HX4:=Hd hx3;have hsum2:IntKind.i64.wrap ((j:Int)+1)=(j:Int)+1:=IntWalk.i64_in _ (by omega);clear hb hx3;go_wp2_with fail;refine HQ2.o.mono ?_
  rintro e wq ⟨rfl,dq,rfl⟩;obtain⟨wa,hw2⟩:∃wa,wa=W4.drewN dq:=⟨_,rfl⟩;rw [←hw2];have hkw:K0 W4 wa:=by rw [hw2];exact (aB.refl _ _).drewN _
  replace HS:=Hd (HS.o.keep0 hkw);replace HZ:=Hd (HZ.o.keep hkw (fun h=>h));replace HK:=Hd (HK.o.trans hkw (fun _ _ h=>h.elim));replace HN:=Hd (HN.o.keep hkw (fun h=>h));have HKA:=Hd (hkw.mono (T:=fun b=>b=ps) (fun _ _ h=>h.elim));clear hw2 hkw;go_wp2_with fail;refine (eD wa Lo B ps n j bd 2 tv T HS.o).mono ?_;rintro e w5 ⟨rfl,hs5,hk5⟩;rw [←HX4.o] at hs5;replace HS:=Hd hs5;replace HZ:=Hd (HZ.o.keep hk5 (fun e=>by have:=HPS.o;omega))
  replace HK:=Hd (HK.o.trans hk5 k3);replace HN:=Hd (HN.o.keep hk5 hnb);have HKX:=Hd (HKA.o.trans hk5 k3);clear hs5 hk5 HX4;replace HTO:=Hd (show ∀ds,RdL w3 (Qd Lo B W2.heap.size) ds v.vals→RdL w5 (fun b=>Qd Lo B w.heap.size b∧b≠w.heap.size) ds v.vals from fun ds hr=>(HTO.o ds hr).keep HKX.o (fun b _ hb e=>iX (X:=w.heap.size) HS.o.ps HPS.o hb.1 e));obtain⟨c0,c1,c2,f1,f2⟩:=HS.o.cells
  have hlt:=HS.o.lt;go_upto_region 7 with fail;obtain⟨w6,hw2⟩:∃w6,w6=w5.setCell ⟨ps,1,none⟩ (.int .i64 ((j:Int)+1)):=⟨_,rfl⟩;rw [←hw2];obtain⟨hi1,hi2⟩:=eM HS.o (by omega);rw [←hw2] at hi1 hi2;replace HS:=Hd hi1;replace HZ:=Hd (HZ.o.keep hi2 (fun e=>by have:=HPS.o;omega));replace HK:=Hd (HK.o.trans hi2 k3);replace HN:=Hd (HN.o.keep hi2 hnb);have HKI:=Hd hi2;clear hw2 hi1 hi2
  have HTO6:=Hd (show ∀ds,RdL w3 (Qd Lo B W2.heap.size) ds v.vals→RdL w6 (fun b=>Qd Lo B w.heap.size b∧b≠w.heap.size) ds v.vals from fun ds hr=>(HTO.o ds hr).keep HKI.o (fun b _ hb e=>iX (X:=w.heap.size) HS.o.ps HPS.o hb.1 e));have hcl:=kJ (P:=aG [41]) Re Q3 HQF.o HX3.o;have HFIN:=Hd (show (∃ds,res=.ok (ndR 13 false [] [] [] [] ds [],T.drop (j+1))∧xz=0∧j+1≤T.length∧ds.length=1*8∧RdL w6 (fun b=>Qd Lo B w.heap.size b∧b≠w.heap.size) ds v.vals)∨QF false w6 (fun _=>False) T res [] (j+1) xz from by
   rcases hcl with ⟨ds,hx,hp,h0,hn,hd,hj,hr⟩ | ⟨hx,hf⟩
   ·refine .inl ⟨ds,?_,h0,?_,by rw [hn.len],HTO6.o ds hd⟩
    ·rw [HRES.o,hr,sR (mZ hp),aS]
    ·have:=bQ (dO hp);omega
   ·exact .inr (QF.err hx (by rw [HRES.o,hf _ (fun e=>rfl) (fun ds r h=>wH (oT h))])))
  clear hcl;clear c0 c1 c2 f1 f2 hlt;obtain⟨⟨x0,x1,x2,x3,x4,x5,x6,x7⟩,⟨xf0,xf1,xf2,xf3,xf4,xf5,xf6,xf7⟩⟩:=HN.o.eight;have hNl:=HN.o.lt;obtain⟨⟨z0,z1,z2,z3,z4,z5,z6,z7⟩,⟨zf0,zf1,zf2,zf3,zf4,zf5,zf6,zf7⟩⟩:=HZ.o.eight;have hzl:=HZ.o.lt;go_wp2_with fail;refine bodyPost_ret (v:=.agg #[.int .i64 13,.bool false,.string ⟨#[]⟩,.slice none 0 0,.slice none 0 0,.slice none 0 0,.slice (some ⟨w6.heap.size,0,none⟩) 1 1,.slice none 0 0]) (by simp [results,Tryz.results163,go_sem,z0,z1,z2,z3,z4,z5,z6,z7,hzl]) rfl ?_
  exact⟨⟨13,false,⟨#[]⟩,none,0,0,none,0,0,none,0,0,some ⟨w6.heap.size,0,none⟩,1,1,none,0,0⟩,j+1,xz,rfl,HIB.o.1,HIB.o.2,mI (kind:=13) (m:=1) (vv:=v.vals) HK.o HS.o HPS.o HZ.o.lt (aJ w6 w.heap.size (.int .i64 13) (.bool false) (.string ⟨#[]⟩) (.slice none 0 0) (.slice none 0 0) (.slice none 0 0) (.slice (some ⟨w6.heap.size,0,none⟩) 1 1) (.slice none 0 0)) (by simp [World.setCell]) rfl (by decide) HFIN.o⟩
theorem D1 (K:Nat) (hcmd:eU K) (w:World) (Lo B ps n i deep:Nat) (tv:Value) (T:List Tk) (h:QS w Lo B ps tv n T i 0) (hi:i≤T.length) (hd:deep+1+K=41) (ho:aT [123] (T.drop i)=true) :
 Calls Tryz.prog 163 #[.pointer (some ⟨ps,0,none⟩),.int .i64 (deep:Nat)] w (iJ w Lo B ps tv n T i (2*K+1) false (f8 (aC K) 12 (fA [125]) (T.drop i).tail)):=by
 obtain⟨res,hres⟩:∃res,res=f8 (aC K) 12 (fA [125]) (T.drop i).tail:=⟨_,rfl⟩;rw [←hres];rw [Gu,aS] at hres;have HPS:=Hd h.lt;have HS:=Lib.hid h;have HC:=Hd hcmd;have HD:=Hd hd;have HRES:=Hd hres;have hmT:T.length≤20000:=h.sm.1;have hdw:IntKind.i64.wrap ((deep:Int)+1)=(deep:Int)+1:=IntWalk.i64_in _ (by omega);have hsum:IntKind.i64.wrap ((i:Int)+1)=(i:Int)+1:=IntWalk.i64_in _ (by omega)
 have hc8:=bV;have HO:=Hd (beq_iff_eq.1 ho);have HOP:=Hd (iE ho (by decide));have hpos:=bQ (cJ (by decide) ho);clear h hcmd hd hres ho;go_enter Tryz.func163,Tryz.ntmps163;go_wp2_with fail;obtain⟨W,hW⟩:∃W,W=w.alloc (.cells #[.int .i64 0,.bool false,.string ⟨#[]⟩,.slice none 0 0,.slice none 0 0,.slice none 0 0,.slice none 0 0,.slice none 0 0] 44):=⟨_,rfl⟩;have hk0:K0 w W:=by rw [hW];exact (aB.refl _ _).alloc _
 have HZ:=Hd (show aH W w.heap.size [.int .i64 0,.bool false,.string ⟨#[]⟩,.slice none 0 0,.slice none 0 0,.slice none 0 0,.slice none 0 0,.slice none 0 0] by rw [hW];exact aK w _ _ _ _ _ _ _ _ _);rw [←hW];have HK:=Hd (hk0.mono (T:=fun b=>b=ps) (fun _ _ h=>h.elim));replace HS:=Hd (HS.o.keep0 hk0);clear hk0 hW;have HQ:=Hd (a8 HS.o [40] false HOP.o 0);refine HQ.o.mono ?_;rintro e wq ⟨rfl,dq,rfl⟩
 obtain⟨Wa,hw2⟩:∃Wa,Wa=W.drewN dq:=⟨_,rfl⟩;rw [←hw2];have hkw:K0 W Wa:=by rw [hw2];exact (aB.refl _ _).drewN _
 replace HS:=Hd (HS.o.keep0 hkw);replace HZ:=Hd (HZ.o.keep hkw (fun h=>h));replace HK:=Hd (HK.o.trans hkw (fun _ _ h=>h.elim));clear hw2 hkw;have HQ2:=Hd (dH HS.o [123] HO.o 0);go_wp2_with fail;refine HQ2.o.mono ?_;rintro e wq ⟨rfl,dq,rfl⟩;obtain⟨W1,hw2⟩:∃W1,W1=Wa.drewN dq:=⟨_,rfl⟩;rw [←hw2];have hkw:K0 Wa W1:=by rw [hw2];exact (aB.refl _ _).drewN _
 replace HS:=Hd (HS.o.keep0 hkw);replace HZ:=Hd (HZ.o.keep hkw (fun h=>h));replace HK:=Hd (HK.o.trans hkw (fun _ _ h=>h.elim));clear hw2 hkw;obtain⟨c0,c1,c2,f1,f2⟩:=HS.o.cells;have hlt:=HS.o.lt;go_wp2_with fail;obtain⟨W2,hw2⟩:∃W2,W2=W1.setCell ⟨ps,1,none⟩ (.int .i64 ((i:Int)+1)):=⟨_,rfl⟩;rw [←hw2];obtain⟨hi1,hi2⟩:=eM HS.o (by omega);rw [←hw2] at hi1 hi2;replace HS:=Hd hi1;replace HZ:=Hd (HZ.o.keep hi2 (fun e=>by have:=HPS.o;omega))
 replace HK:=Hd (HK.o.trans hi2 k3);clear hw2 hi1 hi2;clear c0 c1 c2 f1 f2 hlt HO HOP;refine (gR K HC.o W2 Lo B ps n (i+1) (deep+1) tv T HS.o (by omega) (by have:=HD.o;omega)).mono ?_;rintro e w3 ⟨v,j,bd,rfl,hij,hjb,hs3,hk3,hf3⟩;go_upto_region 13 with fail;obtain⟨NB,hNB⟩:∃NB,NB=w3.heap.size:=⟨_,rfl⟩;obtain⟨W4,hW4⟩:∃W4,W4=w3.alloc (.cells #[.int .i64 v.k,.bool v.nt,.string v.nm,.slice v.a0 v.n0 v.c0,.slice v.a1 v.n1 v.c1,.slice v.a2 v.n2 v.c2,.slice v.a3 v.n3 v.c3,.slice v.a4 v.n4 v.c4] 44):=⟨_,rfl⟩
 rw [←hW4]
 try rw [←hNB]
 have hk4:K0 w3 W4:=by rw [hW4];exact (aB.refl _ _).alloc _
 have hkk:=hk3.trans hk4 (fun _ _ h=>h.elim);replace HS:=Hd (hs3.keep0 hk4);have hnb:NB≠ps:=by have:=hs3.lt;omega
 have HN:=Hd (show aH W4 NB [.int .i64 v.k,.bool v.nt,.string v.nm,.slice v.a0 v.n0 v.c0,.slice v.a1 v.n1 v.c1,.slice v.a2 v.n2 v.c2,.slice v.a3 v.n3 v.c3,.slice v.a4 v.n4 v.c4] by rw [hW4,hNB];exact aK _ _ _ _ _ _ _ _ _ _);have hwc:=HZ.o.lt;replace HZ:=Hd (HZ.o.keep hkk (fun e=>by have:=HPS.o;omega));replace HK:=Hd (HK.o.trans hkk k3);have HQF:=Hd hf3;have HTO:=Hd (show ∀ds,RdL w3 (Qd Lo B W2.heap.size) ds v.vals→RdL W4 (fun b=>Qd Lo B w.heap.size b∧b≠w.heap.size) ds v.vals from fun ds hr=>(hr.keep hk4 (fun _ _ _ h=>h)).mono (fun b _ hb=>by have:=hs3.ps;have:=HPS.o;rcases hb with h | h;exact⟨.inl h,by omega⟩;exact⟨.inr (by omega),by omega⟩))
 have HIB:=Hd (show i≤j+1∧j+1≤T.length+(2*K+1) by omega);have hjb2:j+1≤T.length+500:=by have:=HD.o;omega
 clear hs3 hk3 hf3 hk4 hkk hNB hW4 hij hjb hwc;go_wp2_with fail;refine (fF W4 Lo B ps n j bd tv T [125] HS.o (by omega)).mono ?_;rintro e w6 ⟨rfl,hs6,hk6⟩;obtain⟨xz,hx3⟩:∃xz,xz=if bd=0 then (if aT [125] (T.drop j) then 0 else 2) else bd:=⟨_,rfl⟩;rw [←hx3] at hs6;replace HS:=Hd hs6;replace HZ:=Hd (HZ.o.keep hk6 (fun e=>by have:=HPS.o;omega));replace HK:=Hd (HK.o.trans hk6 k3)
 replace HN:=Hd (HN.o.keep hk6 hnb);have HTO6:=Hd (show ∀ds,RdL w3 (Qd Lo B W2.heap.size) ds v.vals→RdL w6 (fun b=>Qd Lo B w.heap.size b∧b≠w.heap.size) ds v.vals from fun ds hr=>(HTO.o ds hr).keep hk6 (fun b _ hb e=>iX (X:=w.heap.size) HS.o.ps HPS.o hb.1 e));have hcl:=kJ (P:=aT [125]) (Fe (by decide)) (xM (by decide)) HQF.o hx3;have HFIN:=Hd (show (∃ds,res=.ok (ndR 12 false [] [] [] [] ds [],T.drop (j+1))∧xz=0∧j+1≤T.length∧ds.length=1*8∧RdL w6 (fun b=>Qd Lo B w.heap.size b∧b≠w.heap.size) ds v.vals)∨QF false w6 (fun _=>False) T res [] (j+1) xz from by
  rcases hcl with ⟨ds,hx,hp,h0,hn,hd,hj,hr⟩ | ⟨hx,hf⟩
  ·refine .inl ⟨ds,?_,h0,?_,by rw [hn.len],HTO6.o ds hd⟩
   ·rw [HRES.o,hr,sR (kM hp),aS]
   ·have:=bQ (cJ (by decide) hp);omega
  ·exact .inr (QF.err hx (by rw [HRES.o,hf _ (fun e=>rfl) (fun ds r h=>wH (k8 h))])))
 clear hcl;clear hs6 hk6 hx3;obtain⟨⟨x0,x1,x2,x3,x4,x5,x6,x7⟩,⟨xf0,xf1,xf2,xf3,xf4,xf5,xf6,xf7⟩⟩:=HN.o.eight;have hNl:=HN.o.lt;obtain⟨⟨z0,z1,z2,z3,z4,z5,z6,z7⟩,⟨zf0,zf1,zf2,zf3,zf4,zf5,zf6,zf7⟩⟩:=HZ.o.eight;have hzl:=HZ.o.lt;go_wp2_with fail;refine bodyPost_ret (v:=.agg #[.int .i64 12,.bool false,.string ⟨#[]⟩,.slice none 0 0,.slice none 0 0,.slice none 0 0,.slice (some ⟨w6.heap.size,0,none⟩) 1 1,.slice none 0 0]) (by simp [results,Tryz.results163,go_sem,z0,z1,z2,z3,z4,z5,z6,z7,hzl]) rfl ?_
 exact⟨⟨12,false,⟨#[]⟩,none,0,0,none,0,0,none,0,0,some ⟨w6.heap.size,0,none⟩,1,1,none,0,0⟩,j+1,xz,rfl,HIB.o.1,HIB.o.2,mI (kind:=12) (m:=1) (vv:=v.vals) HK.o HS.o HPS.o HZ.o.lt (aJ w6 w.heap.size (.int .i64 12) (.bool false) (.string ⟨#[]⟩) (.slice none 0 0) (.slice none 0 0) (.slice none 0 0) (.slice (some ⟨w6.heap.size,0,none⟩) 1 1) (.slice none 0 0)) (by simp [World.setCell]) rfl (by decide) HFIN.o⟩
end Go.Proofs.YtiihpbccabeoeaaGreatDoor
