/- The walk: a part. -/
import Derived.Test.YtiihpbccabeoeaaGreatDoorVM
import Derived.Test.YtiihpbccabeoeaaGreatDoorVPxS
namespace Go.Proofs.YtiihpbccabeoeaaGreatDoor
open Go.RowKit
set_option linter.unusedVariables false
set_option maxRecDepth 100000
set_option maxHeartbeats 16000000
theorem Ms {w:World} {D:Nat→Prop} {T:List Tk} {res:PR (List Dt)} {us:List Value} {j x:Nat} {cl:Bool} (h:QF cl w D T res us j x) (hx:x=0):j≤T.length:=by
 cases res with
 | error y=>
  rcases h with ⟨h1,h2⟩ | ⟨_,_,ho⟩
  ·omega
  ·have:=bL (dA ho);omega
 | ok p=>
  obtain⟨ds,r⟩:=p;rcases h with ⟨_,_,_,_,hj⟩ | ⟨_,_,h9 | ⟨_,ho⟩⟩
  ·exact hj
  ·omega
  ·have:=bL (dA ho);omega
theorem zG {K kind:Nat} {ts:List Tk} {wl w5 w6:World} {Dl D5 D:Nat→Prop} {T:List Tk} {res:PR (List Dt)} {Zq us2:List Value} {j bd j2 x2:Nat} (hl:QF true wl Dl T (bz (ab K) ts) Zq j bd) (ag:res=qV (ab K) kind (bz (ab K) ts))
 (kW:(bd=0∧QF false w5 D5 T (cL (ab K) (T.drop j)) us2 j2 x2)∨(bd≠0∧x2=bd)) (t1:∀ds,bV wl Dl ds Zq→bV w6 D ds Zq) (t2:∀ds,bV w5 D5 ds us2→bV w6 D ds us2) :
 (∃ds,res=.ok (cE kind false [] [] [] [] ds [],T.drop j2)∧x2=0∧j2≤T.length∧ds.length=2*8∧bV w6 D ds (Zq++us2))∨QF false w6 (λ_=>False) T res [] j2 x2:=by
 have US:∀ds r,dk r=false→qV (ab K) kind (.ok (ds,r))=.error 2:=λ ds r h=>by
  unfold qV;dsimp only;rw [yH];cases hw:aF [100,111] r with
  | false=>rfl
  | true=>rw [E9 (s:=[100,111]) dC r hw] at h;cases h
 rcases kW with ⟨hb,hq⟩ | ⟨hb,rfl⟩
 ·rcases hl.split (qV (ab K) kind) (λ e=>rfl) (λ_=>US) with ⟨ds,r,hr,_,hn,hd,hj,_⟩ | ⟨h9,_⟩ | ⟨_,ho,hr⟩
  ·have dU:res=(match cL (ab K) (T.drop j) with
    | .error e=>.error e
    | .ok (b,r2)=>.ok (cE kind false [] [] [] [] (ds++b) [],r2)):=by rw [ag,hr,hj];rfl
   rcases hq.split (λ p=>(match p with
    | .error e=>.error e
    | .ok (b,r2)=>.ok (cE kind false [] [] [] [] (ds++b) [],r2):PR (List Dt))) (λ e=>rfl) (λ h=>by cases h) with ⟨d2,r2,hr3,hx,hn2,hd2,hj2,hl2⟩ | ⟨hx,hr3⟩ | ⟨hx,ho,hr3⟩
   ·refine .inl ⟨ds++d2,?_,hx,hl2,by rw [lA,hn.len,hn2.len],(t1 ds hd).app (t2 d2 hd2)⟩;rw [dU,hr3,hj2]
   ·exact .inr (QF.err hx (dU.trans hr3))
   ·exact .inr (QF.stk ho hx (dU.trans hr3))
  ·exact nQ hb h9
  ·rw [yH (yt dC _ ho)] at hq;rw [ag,hr];exact .inr hq
 ·rcases hl.split (qV (ab K) kind) (λ e=>rfl) (λ_=>US) with ⟨ds,r,hr,h0,_⟩ | ⟨_,hr⟩ | ⟨h0,_⟩
  ·exact nQ h0 hb
  ·exact .inr (QF.err hb (by rw [ag,hr]))
  ·exact nQ h0 hb
theorem s9 (K:Nat) (bw:ez K) (w:World) (Lo B ps n i x aN:Nat) (tv:Value) (T:List Tk) (h:QS w Lo B ps tv n T i x) (hi:x=0→i≤T.length) (fm:i+1≤T.length+1000) (hd:aN+1+K=41) :
 Calls Tryz.prog 184 #[.pointer (some ⟨ps,0,none⟩),.int .i64 (aN:Nat)] w λ e w'=>∃(v:NV) (j y:Nat),e=.returned (.agg #[v.k,v.nt,v.nm,.slice v.a0 v.n0 v.c0,.slice v.a1 v.n1 v.c1,.slice v.a2 v.n2 v.c2,.slice v.a3 v.n3 v.c3,.slice v.a4 v.n4 v.c4])∧i≤j∧(j≤T.length+(2*K+1)∨j=i+1)∧QS w' Lo B ps tv n T j y∧ae (λ b=>b=ps) w w'∧((x=0∧QF false w' (Qd Lo B w.heap.size) T (cL (ab K) (T.drop i)) v.vals j y)∨(x≠0∧y=x)):=by
 by_cases hx:x=0
 ·subst hx;refine (Il K bw w Lo B ps n i aN tv T h (hi rfl) hd).mono ?_;exact Qt
 ·refine (Im w Lo B ps n i x aN tv T h hx fm).mono ?_;rintro e w' ⟨he,h3,h4⟩;exact⟨⟨0,false,⟨#[]⟩,none,0,0,none,0,0,none,0,0,none,0,0,none,0,0⟩,i+1,x,he,oM,.inr rfl,h3,h4,.inr ⟨hx,rfl⟩⟩
theorem EI (K:Nat) (bw:ez K) (w:World) (Lo B ps n i aN:Nat) (tv:Value) (T:List Tk) (h:QS w Lo B ps tv n T i 0) (hi:i≤T.length) (hd:aN+1+K=41) (ho:aF [119,104,105,108,101] (T.drop i)=true) :
 Calls Tryz.prog 163 #[.pointer (some ⟨ps,0,none⟩),.int .i64 (aN:Nat)] w (iw w Lo B ps tv n T i (2*K+1) false (dE (ab K) 7 (T.drop i).tail)):=by
 obtain⟨res,ag⟩:∃res,res=dE (ab K) 7 (T.drop i).tail:=⟨_,rfl⟩;rw [←ag];rw [CY,aG] at ag;have bA:=Hd h.lt;have HS:=Lib.hid h;have HC:=Hd bw;have HD:=Hd hd;have ay:=Hd ag;have AK:T.length≤20000:=h.sm.1;have Je:IntKind.i64.wrap ((aN:Int)+1)=(aN:Int)+1:=nL _ oM;have pW:IntKind.i64.wrap ((i:Int)+1)=(i:Int)+1:=nL _ oM;have ov:=aT
 have HO:=Hd (nH.1 ho);have kt:=Hd (ip ho dC);have fa:=bL (cY dC ho);clear h bw hd ag ho;go_enter Tryz.func163,Tryz.ntmps163;go_wp2_with fail;obtain⟨W,hW⟩:∃W,W=w.alloc (.cells #[.int .i64 0,false,eS,(),(),(),(),()] 44):=⟨_,rfl⟩;have dt:K0 w W:=by rw [hW];exact (ae.refl _ _).alloc _
 have HZ:=Hd (show af W w.heap.size [.int .i64 0,false,eS,(),(),(),(),()] by rw [hW];exact aD w _ _ _ _ _ _ _ _ _);rw [←hW];have HK:=Hd (dt.mono (T:=λ b=>b=ps) (λ_ _ h=>h.elim));replace HS:=Hd (HS.o.keep0 dt);clear dt hW;have HQ:=Hd (aY HS.o [40] false kt.o 0);refine HQ.o.mono ?_;rintro e wq ⟨rfl,dq,rfl⟩
 obtain⟨Wa,aQ⟩:∃Wa,Wa=W.drewN dq:=⟨_,rfl⟩;rw [←aQ];have aZ:K0 W Wa:=by rw [aQ];exact (ae.refl _ _).drewN _
 replace HS:=Hd (HS.o.keep0 aZ);replace HZ:=Hd (HZ.o.keep aZ (λ h=>h));replace HK:=Hd (HK.o.trans aZ (λ_ _ h=>h.elim));clear aQ aZ;have je:=Hd (di HS.o [119,104,105,108,101] HO.o 0);go_wp2_with fail;refine je.o.mono ?_;rintro e wq ⟨rfl,dq,rfl⟩;obtain⟨W1,aQ⟩:∃W1,W1=Wa.drewN dq:=⟨_,rfl⟩;rw [←aQ];have aZ:K0 Wa W1:=by rw [aQ];exact (ae.refl _ _).drewN _
 replace HS:=Hd (HS.o.keep0 aZ);replace HZ:=Hd (HZ.o.keep aZ (λ h=>h));replace HK:=Hd (HK.o.trans aZ (λ_ _ h=>h.elim));clear aQ aZ;obtain⟨c0,c1,c2,f1,f2⟩:=HS.o.cells;have aW:=HS.o.lt;go_wp2_with fail;obtain⟨W2,aQ⟩:∃W2,W2=W1.setCell ⟨ps,1,none⟩ (.int .i64 ((i:Int)+1)):=⟨_,rfl⟩;rw [←aQ];obtain⟨iP,fm⟩:=eE HS.o oM;rw [←aQ] at iP fm;replace HS:=Hd iP;replace HZ:=Hd (HZ.o.keep fm (λ e=>by have:=bA.o;omega))
 replace HK:=Hd (HK.o.trans fm k3);clear aQ iP fm;clear c0 c1 c2 f1 f2 aW HO kt;refine (gN K HC.o W2 Lo B ps n (i+1) (aN+1) tv T HS.o oM (by have:=HD.o;omega)).mono ?_;rintro e w3 ⟨v,j,bd,rfl,vR,rj,d6,aV,tP⟩;go_upto_region 25 with fail;obtain⟨NB,ke⟩:∃NB,NB=w3.heap.size:=⟨_,rfl⟩;obtain⟨W4,gL⟩:∃W4,W4=w3.alloc (.cells #[v.k,v.nt,v.nm,.slice v.a0 v.n0 v.c0,.slice v.a1 v.n1 v.c1,.slice v.a2 v.n2 v.c2,.slice v.a3 v.n3 v.c3,.slice v.a4 v.n4 v.c4] 44):=⟨_,rfl⟩
 rw [←gL]
 try rw [←ke]
 have be:K0 w3 W4:=by rw [gL];exact (ae.refl _ _).alloc _
 have bp:=aV.trans be (λ_ _ h=>h.elim);replace HS:=Hd (d6.keep0 be);have yk:NB≠ps:=by have:=d6.lt;omega
 have HN:=Hd (show af W4 NB [v.k,v.nt,v.nm,.slice v.a0 v.n0 v.c0,.slice v.a1 v.n1 v.c1,.slice v.a2 v.n2 v.c2,.slice v.a3 v.n3 v.c3,.slice v.a4 v.n4 v.c4] by rw [gL,ke];exact aD _ _ _ _ _ _ _ _ _ _);have FR:=HZ.o.lt;replace HZ:=Hd (HZ.o.keep bp (λ e=>by have:=bA.o;omega));replace HK:=Hd (HK.o.trans bp k3);have Nw:=Hd tP;have Gv:=Hd (show ∀ds,bV w3 (Qd Lo B W2.heap.size) ds v.vals→bV W4 (λ b=>Qd Lo B w.heap.size b∧b≠w.heap.size) ds v.vals from λ ds hr=>(hr.keep be (λ_ _ _ h=>h)).mono (λ b _ hb=>by have:=d6.ps;have:=bA.o;rcases hb with h | h;exact⟨.inl h,oM⟩;exact⟨.inr oM,oM⟩))
 have fv:=Hd (show i≤j+1∧j+1≤T.length+(2*K+1) by omega);have Sc:=Hd (show i+1≤j from vR);have Lx:j+1≤T.length+500:=by have:=HD.o;omega
 clear d6 aV tP be bp ke gL vR rj FR;go_wp2_with fail;refine (s9 K HC.o W4 Lo B ps n j bd aN tv T HS.o (λ h=>Ms Nw.o h) oM HD.o).mono ?_;rintro e w5 ⟨v2,j2,xb,rfl,yh,Tt,dV,bi,G5⟩;have JN:=Hd (show i≤j2∧j2≤T.length+(2*K+1) by have:=Sc.o;have:=fv.o;omega);clear yh Tt;go_upto_region 26 with fail;obtain⟨NC,AC⟩:∃NC,NC=w5.heap.size:=⟨_,rfl⟩;obtain⟨W6,i4⟩:∃W6,W6=w5.alloc (.cells #[v2.k,v2.nt,v2.nm,.slice v2.a0 v2.n0 v2.c0,.slice v2.a1 v2.n1 v2.c1,.slice v2.a2 v2.n2 v2.c2,.slice v2.a3 v2.n3 v2.c3,.slice v2.a4 v2.n4 v2.c4] 44):=⟨_,rfl⟩
 rw [←i4]
 try rw [←AC]
 have cu:K0 w5 W6:=by rw [i4];exact (ae.refl _ _).alloc _
 have C2:=Hd (show af W6 NC [v2.k,v2.nt,v2.nm,.slice v2.a0 v2.n0 v2.c0,.slice v2.a1 v2.n1 v2.c1,.slice v2.a2 v2.n2 v2.c2,.slice v2.a3 v2.n3 v2.c3,.slice v2.a4 v2.n4 v2.c4] by rw [i4,AC];exact aD _ _ _ _ _ _ _ _ _ _);have bp:=bi.trans cu (λ_ _ h=>h.elim);have FR:=HZ.o.lt;replace HS:=Hd (dV.keep0 cu);replace HZ:=Hd (HZ.o.keep bp (λ e=>by have:=bA.o;omega))
 replace HK:=Hd (HK.o.trans bp k3);replace HN:=Hd (HN.o.keep bp yk);have gR:=Hd (zG (w6:=W6) (D:=λ b=>Qd Lo B w.heap.size b∧b≠w.heap.size) Nw.o ay.o G5 (λ ds hr=>(Gv.o ds hr).keep bp (λ b _ hb e=>jV (X:=w.heap.size) dV.ps bA.o hb.1 e)) (λ ds hr=>(hr.keep cu (λ_ _ _ h=>h)).mono (λ b _ hb=>by have:=dV.ps;have:=bA.o;rcases hb with h | h;exact⟨.inl h,oM⟩;exact⟨.inr oM,oM⟩)))
 clear dV bi cu bp AC i4 FR G5;obtain⟨⟨x0,x1,x2,x3,x4,x5,x6,x7⟩,⟨f8,gf,hC,hU,hV,hY,hZ,ia⟩⟩:=HN.o.eight;obtain⟨⟨u0,u1,u2,u3,u4,u5,u6,u7⟩,⟨E1,E2,E3,E4,E5,E6,E7,E8⟩⟩:=C2.o.eight;have fR:=HN.o.lt;have Oh:=C2.o.lt;obtain⟨⟨z0,z1,z2,z3,z4,z5,z6,z7⟩,⟨gO,gP,ib,ic,ie,ig,ii,ij⟩⟩:=HZ.o.eight;have fT:=HZ.o.lt;go_wp2_with fail;refine nJ (v:=.agg #[.int .i64 7,false,eS,(),(),(),.slice (some ⟨W6.heap.size,0,none⟩) 2 2,()]) (by simp [results,Tryz.results163,go_sem,z0,z1,z2,z3,z4,z5,z6,z7,fT]) rfl ?_
 exact⟨⟨7,false,⟨#[]⟩,none,0,0,none,0,0,none,0,0,some ⟨W6.heap.size,0,none⟩,2,2,none,0,0⟩,j2,xb,rfl,JN.o.1,JN.o.2,pF (kind:=7) (m:=2) (vv:=v.vals++v2.vals) HK.o HS.o bA.o HZ.o.lt (ap W6 w.heap.size (.int .i64 7) (.bool false) (.string ⟨#[]⟩) (.slice none 0 0) (.slice none 0 0) (.slice none 0 0) (.slice (some ⟨W6.heap.size,0,none⟩) 2 2) (.slice none 0 0)) wC rfl dC gR.o⟩
theorem EH (K:Nat) (bw:ez K) (w:World) (Lo B ps n i aN:Nat) (tv:Value) (T:List Tk) (h:QS w Lo B ps tv n T i 0) (hi:i≤T.length) (hd:aN+1+K=41) (ho:aF [117,110,116,105,108] (T.drop i)=true) :
 Calls Tryz.prog 163 #[.pointer (some ⟨ps,0,none⟩),.int .i64 (aN:Nat)] w (iw w Lo B ps tv n T i (2*K+1) false (dE (ab K) 8 (T.drop i).tail)):=by
 obtain⟨res,ag⟩:∃res,res=dE (ab K) 8 (T.drop i).tail:=⟨_,rfl⟩;rw [←ag];rw [CY,aG] at ag;have bA:=Hd h.lt;have HS:=Lib.hid h;have HC:=Hd bw;have HD:=Hd hd;have ay:=Hd ag;have AK:T.length≤20000:=h.sm.1;have Je:IntKind.i64.wrap ((aN:Int)+1)=(aN:Int)+1:=nL _ oM;have pW:IntKind.i64.wrap ((i:Int)+1)=(i:Int)+1:=nL _ oM;have ov:=aT
 have HO:=Hd (nH.1 ho);have kt:=Hd (ip ho dC);have fa:=bL (cY dC ho);clear h bw hd ag ho;go_enter Tryz.func163,Tryz.ntmps163;go_wp2_with fail;obtain⟨W,hW⟩:∃W,W=w.alloc (.cells #[.int .i64 0,false,eS,(),(),(),(),()] 44):=⟨_,rfl⟩;have dt:K0 w W:=by rw [hW];exact (ae.refl _ _).alloc _
 have HZ:=Hd (show af W w.heap.size [.int .i64 0,false,eS,(),(),(),(),()] by rw [hW];exact aD w _ _ _ _ _ _ _ _ _);rw [←hW];have HK:=Hd (dt.mono (T:=λ b=>b=ps) (λ_ _ h=>h.elim));replace HS:=Hd (HS.o.keep0 dt);clear dt hW;have HQ:=Hd (aY HS.o [40] false kt.o 0);refine HQ.o.mono ?_;rintro e wq ⟨rfl,dq,rfl⟩
 obtain⟨Wa,aQ⟩:∃Wa,Wa=W.drewN dq:=⟨_,rfl⟩;rw [←aQ];have aZ:K0 W Wa:=by rw [aQ];exact (ae.refl _ _).drewN _
 replace HS:=Hd (HS.o.keep0 aZ);replace HZ:=Hd (HZ.o.keep aZ (λ h=>h));replace HK:=Hd (HK.o.trans aZ (λ_ _ h=>h.elim));clear aQ aZ;have je:=Hd (di HS.o [117,110,116,105,108] HO.o 0);go_wp2_with fail;refine je.o.mono ?_;rintro e wq ⟨rfl,dq,rfl⟩;obtain⟨W1,aQ⟩:∃W1,W1=Wa.drewN dq:=⟨_,rfl⟩;rw [←aQ];have aZ:K0 Wa W1:=by rw [aQ];exact (ae.refl _ _).drewN _
 replace HS:=Hd (HS.o.keep0 aZ);replace HZ:=Hd (HZ.o.keep aZ (λ h=>h));replace HK:=Hd (HK.o.trans aZ (λ_ _ h=>h.elim));clear aQ aZ;obtain⟨c0,c1,c2,f1,f2⟩:=HS.o.cells;have aW:=HS.o.lt;go_wp2_with fail;obtain⟨W2,aQ⟩:∃W2,W2=W1.setCell ⟨ps,1,none⟩ (.int .i64 ((i:Int)+1)):=⟨_,rfl⟩;rw [←aQ];obtain⟨iP,fm⟩:=eE HS.o oM;rw [←aQ] at iP fm;replace HS:=Hd iP;replace HZ:=Hd (HZ.o.keep fm (λ e=>by have:=bA.o;omega))
 replace HK:=Hd (HK.o.trans fm k3);clear aQ iP fm;clear c0 c1 c2 f1 f2 aW HO kt;refine (gN K HC.o W2 Lo B ps n (i+1) (aN+1) tv T HS.o oM (by have:=HD.o;omega)).mono ?_;rintro e w3 ⟨v,j,bd,rfl,vR,rj,d6,aV,tP⟩;go_upto_region 25 with fail;obtain⟨NB,ke⟩:∃NB,NB=w3.heap.size:=⟨_,rfl⟩;obtain⟨W4,gL⟩:∃W4,W4=w3.alloc (.cells #[v.k,v.nt,v.nm,.slice v.a0 v.n0 v.c0,.slice v.a1 v.n1 v.c1,.slice v.a2 v.n2 v.c2,.slice v.a3 v.n3 v.c3,.slice v.a4 v.n4 v.c4] 44):=⟨_,rfl⟩
 rw [←gL]
 try rw [←ke]
 have be:K0 w3 W4:=by rw [gL];exact (ae.refl _ _).alloc _
 have bp:=aV.trans be (λ_ _ h=>h.elim);replace HS:=Hd (d6.keep0 be);have yk:NB≠ps:=by have:=d6.lt;omega
 have HN:=Hd (show af W4 NB [v.k,v.nt,v.nm,.slice v.a0 v.n0 v.c0,.slice v.a1 v.n1 v.c1,.slice v.a2 v.n2 v.c2,.slice v.a3 v.n3 v.c3,.slice v.a4 v.n4 v.c4] by rw [gL,ke];exact aD _ _ _ _ _ _ _ _ _ _);have FR:=HZ.o.lt;replace HZ:=Hd (HZ.o.keep bp (λ e=>by have:=bA.o;omega));replace HK:=Hd (HK.o.trans bp k3);have Nw:=Hd tP;have Gv:=Hd (show ∀ds,bV w3 (Qd Lo B W2.heap.size) ds v.vals→bV W4 (λ b=>Qd Lo B w.heap.size b∧b≠w.heap.size) ds v.vals from λ ds hr=>(hr.keep be (λ_ _ _ h=>h)).mono (λ b _ hb=>by have:=d6.ps;have:=bA.o;rcases hb with h | h;exact⟨.inl h,oM⟩;exact⟨.inr oM,oM⟩))
 have fv:=Hd (show i≤j+1∧j+1≤T.length+(2*K+1) by omega);have Sc:=Hd (show i+1≤j from vR);have Lx:j+1≤T.length+500:=by have:=HD.o;omega
 clear d6 aV tP be bp ke gL vR rj FR;go_wp2_with fail;refine (s9 K HC.o W4 Lo B ps n j bd aN tv T HS.o (λ h=>Ms Nw.o h) oM HD.o).mono ?_;rintro e w5 ⟨v2,j2,xb,rfl,yh,Tt,dV,bi,G5⟩;have JN:=Hd (show i≤j2∧j2≤T.length+(2*K+1) by have:=Sc.o;have:=fv.o;omega);clear yh Tt;go_upto_region 26 with fail;obtain⟨NC,AC⟩:∃NC,NC=w5.heap.size:=⟨_,rfl⟩;obtain⟨W6,i4⟩:∃W6,W6=w5.alloc (.cells #[v2.k,v2.nt,v2.nm,.slice v2.a0 v2.n0 v2.c0,.slice v2.a1 v2.n1 v2.c1,.slice v2.a2 v2.n2 v2.c2,.slice v2.a3 v2.n3 v2.c3,.slice v2.a4 v2.n4 v2.c4] 44):=⟨_,rfl⟩
 rw [←i4]
 try rw [←AC]
 have cu:K0 w5 W6:=by rw [i4];exact (ae.refl _ _).alloc _
 have C2:=Hd (show af W6 NC [v2.k,v2.nt,v2.nm,.slice v2.a0 v2.n0 v2.c0,.slice v2.a1 v2.n1 v2.c1,.slice v2.a2 v2.n2 v2.c2,.slice v2.a3 v2.n3 v2.c3,.slice v2.a4 v2.n4 v2.c4] by rw [i4,AC];exact aD _ _ _ _ _ _ _ _ _ _);have bp:=bi.trans cu (λ_ _ h=>h.elim);have FR:=HZ.o.lt;replace HS:=Hd (dV.keep0 cu);replace HZ:=Hd (HZ.o.keep bp (λ e=>by have:=bA.o;omega))
 replace HK:=Hd (HK.o.trans bp k3);replace HN:=Hd (HN.o.keep bp yk);have gR:=Hd (zG (w6:=W6) (D:=λ b=>Qd Lo B w.heap.size b∧b≠w.heap.size) Nw.o ay.o G5 (λ ds hr=>(Gv.o ds hr).keep bp (λ b _ hb e=>jV (X:=w.heap.size) dV.ps bA.o hb.1 e)) (λ ds hr=>(hr.keep cu (λ_ _ _ h=>h)).mono (λ b _ hb=>by have:=dV.ps;have:=bA.o;rcases hb with h | h;exact⟨.inl h,oM⟩;exact⟨.inr oM,oM⟩)))
 clear dV bi cu bp AC i4 FR G5;obtain⟨⟨x0,x1,x2,x3,x4,x5,x6,x7⟩,⟨f8,gf,hC,hU,hV,hY,hZ,ia⟩⟩:=HN.o.eight;obtain⟨⟨u0,u1,u2,u3,u4,u5,u6,u7⟩,⟨E1,E2,E3,E4,E5,E6,E7,E8⟩⟩:=C2.o.eight;have fR:=HN.o.lt;have Oh:=C2.o.lt;obtain⟨⟨z0,z1,z2,z3,z4,z5,z6,z7⟩,⟨gO,gP,ib,ic,ie,ig,ii,ij⟩⟩:=HZ.o.eight;have fT:=HZ.o.lt;go_wp2_with fail;refine nJ (v:=.agg #[.int .i64 8,false,eS,(),(),(),.slice (some ⟨W6.heap.size,0,none⟩) 2 2,()]) (by simp [results,Tryz.results163,go_sem,z0,z1,z2,z3,z4,z5,z6,z7,fT]) rfl ?_
 exact⟨⟨8,false,⟨#[]⟩,none,0,0,none,0,0,none,0,0,some ⟨W6.heap.size,0,none⟩,2,2,none,0,0⟩,j2,xb,rfl,JN.o.1,JN.o.2,pF (kind:=8) (m:=2) (vv:=v.vals++v2.vals) HK.o HS.o bA.o HZ.o.lt (ap W6 w.heap.size (.int .i64 8) (.bool false) (.string ⟨#[]⟩) (.slice none 0 0) (.slice none 0 0) (.slice none 0 0) (.slice (some ⟨W6.heap.size,0,none⟩) 2 2) (.slice none 0 0)) wC rfl dC gR.o⟩
theorem o8 {E:Nat→Prop} {gd:Prop} {w wr:World} {Lo B ps:Nat} {tv:Value} {n:Nat} {T:List Tk} {X N:Nat} {Z:List Value} {pre post:List Dt} {vpre vpost:List Value} {k:Nat} {Ty:TypeId} {I x m:Nat} {la:OA} {lc:Nat} {ds:List Dt} {res:PR (List Dt)}
 (h:QR E gd w wr Lo B ps tv n T X N Z pre post vpre vpost k Ty I x m la lc ds) (hX:w.heap.size<X) (Hg:ps<w.heap.size)
 (hq:(gd∧x=0∧I≤T.length∧jA (pre++.sl k ds::post)∧res=.ok (pre++.sl k ds::post,T.drop I))∨(∀w D us,QF false w D T res us I x)) :
 QF false wr (λ b=>Qd Lo B w.heap.size b∧b≠w.heap.size) T res (vpre++.slice la m lc::vpost) I x:=by
 rcases hq with ⟨g,hx,hI,hn,hr⟩ | hq
 ·have hB:=h.rs.ps;exact QF.good hr hx hn ((h.all g).mono (λ b _ hb=>by rcases hb with h | h;exact⟨.inl h,oM⟩;exact⟨.inr oM,oM⟩)) rfl hI
 ·exact hq _ _ _
theorem zn (K:Nat) (bw:ez K) (w:World) (Lo B ps n i x aN:Nat) (tv:Value) (T:List Tk) (h:QS w Lo B ps tv n T i x) (hi:x=0→i≤T.length) (hd:aN+K=41) :
 Calls Tryz.prog 63 #[.pointer (some ⟨ps,0,none⟩),.int .i64 (aN:Nat)] w λ e w'=>∃(v:NV) (j y:Nat),e=.returned (.agg #[v.k,v.nt,v.nm,.slice v.a0 v.n0 v.c0,.slice v.a1 v.n1 v.c1,.slice v.a2 v.n2 v.c2,.slice v.a3 v.n3 v.c3,.slice v.a4 v.n4 v.c4])∧i≤j∧(j≤T.length+2*K∨j=i)∧QS w' Lo B ps tv n T j y∧ae (λ b=>b=ps) w w'∧((x=0∧QF true w' (Qd Lo B w.heap.size) T (bz (ab K) (T.drop i)) v.vals j y)∨(x≠0∧y=x)):=by
 by_cases hx:x=0
 ·subst hx;refine (gN K bw w Lo B ps n i aN tv T h (hi rfl) hd).mono ?_;exact Qt
 ·refine (Iq w Lo B ps n i x aN tv T h hx).mono ?_;rintro e w' ⟨j,he,h1,h2,h3,h4,h5⟩;refine⟨⟨5,false,⟨#[]⟩,none,0,0,none,0,0,none,0,0,none,0,0,none,0,0⟩,j,x,he,h1,?_,h4,h5,.inr ⟨hx,rfl⟩⟩;rcases Nat.le_total i T.length with h9 | h9
  ·exact .inl (by have:=h2 h9;omega)
  ·exact .inr (h3 h9)
def js (p:PR (List Dt)):PR (List Dt):=match p with
 | .error e=>.error e
 | .ok (l,r)=>match cO [102,105] r with
  | .error e=>.error e
  | .ok (_,r2)=>.ok (cE 6 false [] [] [] [] l [],r2)
def gJ (K M:Nat) (acc:List Dt) (p:PR (List Dt)):PR (List Dt):=match p with
 | .error e=>.error e
 | .ok (b,r2)=>js (if aF [101,108,105,102] r2 then bD (ab K) M (acc++b) r2.tail
  else if aF [101,108,115,101] r2 then (match bz (ab K) r2.tail with
   | .error e=>.error e
   | .ok (x,r3)=>.ok (acc++b++x,r3))
  else .ok (acc++b,r2))
def mT (K M:Nat) (acc:List Dt) (p:PR (List Dt)):PR (List Dt):=match p with
 | .error e=>.error e
 | .ok (c,r)=>match cO [116,104,101,110] r with
  | .error e=>.error e
  | .ok (_,r1)=>gJ K M (acc++c) (bz (ab K) r1)
def rI (acc:List Dt) (p:PR (List Dt)):PR (List Dt):=match p with
 | .error e=>.error e
 | .ok (x,r3)=>js (.ok (acc++x,r3))
theorem Ez (K:Nat) (ts:List Tk):dx (ab K) ts=js (bD (ab K) (ts.length+1) [] ts):=by
 unfold dx js;cases bD (ab K) (ts.length+1) [] ts with
 | error e=>rfl
 | ok p=>rfl
theorem BM (K M:Nat) (acc:List Dt) (ts:List Tk):js (bD (ab K) (M+1) acc ts)=mT K M acc (bz (ab K) ts):=by
 unfold mT;conv=>lhs;unfold bD
 cases bz (ab K) ts with
 | error e=>rfl
 | ok p=>
  obtain⟨c,r⟩:=p;dsimp only;cases cO [116,104,101,110] r with
  | error e=>rfl
  | ok q=>
   obtain⟨_,r1⟩:=q;dsimp only;unfold gJ;cases bz (ab K) r1 with
   | error e=>rfl
   | ok p=>rfl
theorem Am {s:Bs} (hs:kA.contains s=true) {r:List Tk} (h:dk r=false):aF s r=false:=by
 cases hw:aF s r with
 | false=>rfl
 | true=>rw [E9 hs r hw] at h;cases h
theorem td {l:List Dt} {r:List Tk} (h:aF [102,105] r=false):js (.ok (l,r))=.error 2:=by
 unfold js;dsimp only;rw [lh h]
theorem wT {l:List Dt} {r:List Tk} (h:aF [102,105] r=true):js (.ok (l,r))=.ok (cE 6 false [] [] [] [] l [],r.tail):=by
 unfold js;dsimp only;rw [kL h]
theorem DL {K M:Nat} {acc c:List Dt} {r:List Tk} (h:aF [116,104,101,110] r=false):mT K M acc (.ok (c,r))=.error 2:=by
 unfold mT;dsimp only;rw [lh h]
theorem BK {K M:Nat} {acc c:List Dt} {r:List Tk} (h:aF [116,104,101,110] r=true):mT K M acc (.ok (c,r))=gJ K M (acc++c) (bz (ab K) r.tail):=by
 unfold mT;dsimp only;rw [kL h]
theorem mU {K M:Nat} {acc b:List Dt} {r:List Tk} (h1:aF [101,108,105,102] r=false) (h2:aF [101,108,115,101] r=false):gJ K M acc (.ok (b,r))=js (.ok (acc++b,r)):=by
 unfold gJ;dsimp only;rw [h1,h2];rfl
theorem Ak {K M:Nat} {acc b:List Dt} {r:List Tk} (h1:aF [101,108,105,102] r=true):gJ K M acc (.ok (b,r))=js (bD (ab K) M (acc++b) r.tail):=by
 unfold gJ;dsimp only;rw [h1];rfl
theorem Al {K M:Nat} {acc b:List Dt} {r:List Tk} (h1:aF [101,108,105,102] r=false) (h2:aF [101,108,115,101] r=true):gJ K M acc (.ok (b,r))=rI (acc++b) (bz (ab K) r.tail):=by
 unfold gJ;dsimp only;rw [h1,h2,nF sI,nE rfl];unfold rI;cases bz (ab K) r.tail with
 | error e=>rfl
 | ok p=>rfl
theorem DM {K M:Nat} {acc b:List Dt} {r:List Tk} (h:dk r=false):gJ K M acc (.ok (b,r))=.error 2:=by
 rw [mU (Am dC h) (Am dC h),td (Am dC h)]
def CH (gd:Prop) (K:Nat) (acc:List Dt) (T:List Tk) (I x:Nat) (res:PR (List Dt)):Prop:=(gd∧x=0∧I≤T.length∧∃M,T.length - I+1≤M∧res=js (bD (ab K) M acc (T.drop I)))∨(x≠0∧res=.error x)
theorem DO {acc x:List Dt} {r:List Tk} (h:aF [102,105] r=false):rI acc (.ok (x,r))=.error 2:=td h
theorem uv {K M:Nat} {acc db:List Dt} {T:List Tk} {jb xb jc xc xe:Nat} {res:PR (List Dt)} {gb:Prop} {w:World} {D:Nat→Prop} {us:List Value} (e9:C6 gb (res=gJ K M acc (.ok (db,T.drop jb))) T jb xb res) (Xq:aF [101,108,115,101] (T.drop jb)=true)
 (Xt:(xb=0∧QF true w D T (bz (ab K) (T.drop (jb+1))) us jc xc)∨(xb≠0∧xc=xb)) (i8:xe=if xc=0 then (if aF [102,105] (T.drop jc) then 0 else 2) else xc) :
 ∃(gc:Prop) (dc:List Dt),(gc→gb∧jA dc∧bV w D dc us)∧((gc∧xe=0∧jc+1≤T.length∧res=.ok (cE 6 false [] [] [] [] (acc++db++dc) [],T.drop (jc+1)))∨(xe≠0∧res=.error xe)):=by
 have aa2:aF [101,108,105,102] (T.drop jb)=false:=by
  unfold aF at Xq ⊢;rw [nH.1 Xq];rfl
 rcases e9 with ⟨g,hx,hj,hr⟩ | ⟨hx,hr⟩ | ⟨_,ho,_⟩
 ·rw [Al aa2 Xq,aG] at hr;rcases Xt with ⟨_,hq⟩ | ⟨h9,_⟩
  ·rcases mq (P:=aF [102,105]) (E9 dC) (yt dC) hq i8 with ⟨dc,_,hw,h0,hn,hd,hjc,hl⟩ | ⟨h0,hf⟩
   ·have:=bL (cY dC hw);refine⟨True,dc,λ_=>⟨g,hn,hd⟩,.inl ⟨trivial,h0,oM,?_⟩⟩;rw [hr,hl];unfold rI;dsimp only;rw [wT hw,aG]
   ·exact⟨False,[],λ h=>h.elim,.inr ⟨h0,by rw [hr,hf (rI (acc++db)) (λ e=>rfl) (λ ds r h=>DO h)]⟩⟩
  ·exact nQ hx h9
 ·rcases Xt with ⟨h9,_⟩ | ⟨_,rfl⟩
  ·exact nQ h9 hx
  ·rw [nF hx] at i8;subst i8;exact⟨False,[],λ h=>h.elim,.inr ⟨hx,hr⟩⟩
 ·rw [yt dC _ ho] at Xq;cases Xq
theorem cN {s:Bs} {ts:List Tk} (h:aJ (ch ts)=s) (t:Bs):aF t ts=(s==t):=by
 unfold aF;rw [h]
end Go.Proofs.YtiihpbccabeoeaaGreatDoor
