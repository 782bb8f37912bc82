/- The walk: a part. -/
import Derived.Test.YtiihpbccabeoeaaGreatDoorVM
import Derived.Test.YtiihpbccabeoeaaGreatDoorVPxAD
import Derived.Deep.CutBlock
import Derived.Test.YtiihpbccabeoeaaGreatDoorVPxAF
import Derived.Test.YtiihpbccabeoeaaGreatDoorVPkU
namespace Go.Proofs.YtiihpbccabeoeaaGreatDoor
open Go.RowKit
set_option linter.unusedVariables false
set_option maxRecDepth 100000
set_option maxHeartbeats 16000000
theorem BN {ts:List Tk} (h:bB ts=true):ab 0 ts=.error 3:=by
 show (if bB ts=true then _ else _)=_;rw [nE h]
theorem Ap {ts:List Tk} (h:bB ts=false):ab 0 ts=.error 2:=by
 show (if bB ts=true then _ else _)=_;rw [h];rfl
theorem yq:ez 0:=by
 intro w Lo B ps n i aN tv T h hi hd;obtain⟨res,ag⟩:∃res,res=ab 0 (T.drop i):=⟨_,rfl⟩;rw [←ag];obtain⟨s,hs⟩:∃s,aJ (ch (T.drop i))=s:=⟨_,rfl⟩;obtain⟨kw,aZ⟩:∃kw,((ch (T.drop i)).kind==1)=kw:=⟨_,rfl⟩;obtain⟨rv,TC⟩:∃rv,bJ.contains s=rv:=⟨_,rfl⟩;obtain⟨cb,D9⟩:∃cb,gj (T.drop i)=cb:=⟨_,rfl⟩;obtain⟨rb,ol⟩:∃rb,bP (T.drop i)=rb:=⟨_,rfl⟩;obtain⟨wb,TN⟩:∃wb,wb=(kw && !rv):=⟨_,rfl⟩
 obtain⟨nb,yk⟩:∃nb,nb = !(wb || cb || rb):=⟨_,rfl⟩;have xJ:=Hd yk;have R2:=Hd (show bB (T.drop i) = !nb by rw [rC,hs,aZ,TC,D9,ol,yk,TN,Bool.not_not]);have SG:=Hd TN;have Sv:=Hd hs;have dO:=Hd aZ;have HRV:=Hd TC;have R5:=Hd D9;have oD:=Hd ol;have bA:=Hd h.lt;have HS:=Lib.hid h;have HD:=Hd hd;have ay:=Hd ag;have AK:T.length≤20000:=h.sm.1;have Je:IntKind.i64.wrap ((aN:Int)+1)=(aN:Int)+1:=nL _ oM
 have ov:=aT;clear h hd ag hs aZ TC D9 ol TN yk;have Zm:(40:Int)<(aN:Int):=by have:=HD.o;omega
 have p41:((40:Int)<(aN:Int))=True:=eq_true Zm;go_enter Tryz.func142,Tryz.ntmps142;go_wp2_with fail;obtain⟨W,hW⟩:∃W,W=w.alloc (.cells #[.int .i64 0,false,eS,(),(),(),(),()] 44):=⟨_,rfl⟩;have dt:K0 w W:=by rw [hW];exact (ae.refl _ _).alloc _
 have HZ:=Hd (show af W w.heap.size [.int .i64 0,false,eS,(),(),(),(),()] by rw [hW];exact aD w _ _ _ _ _ _ _ _ _);rw [←hW];have HK:=Hd (dt.mono (T:=λ b=>b=ps) (λ_ _ h=>h.elim));replace HS:=Hd (HS.o.keep0 dt);clear dt hW;have HQ:=Hd (di HS.o s Sv.o 0);refine HQ.o.mono ?_;rintro e wq ⟨rfl,dq,rfl⟩
 obtain⟨w1,aQ⟩:∃w1,w1=W.drewN dq:=⟨_,rfl⟩;rw [←aQ];have aZ:K0 W w1:=by rw [aQ];exact (ae.refl _ _).drewN _
 replace HS:=Hd (HS.o.keep0 aZ);replace HZ:=Hd (HZ.o.keep aZ (λ h=>h));replace HK:=Hd (HK.o.trans aZ (λ_ _ h=>h.elim));clear aQ aZ;clear HQ;go_upto_region 2 with fail;go_cut [6] from 13 to 19 (λ v6 wx=>∃wy:World,wy=wx∧v6=.bool wb∧Hid (QS wy Lo B ps tv n T i 0)∧Hid (af wy w.heap.size [.int .i64 0,false,eS,(),(),(),(),()])∧Hid (ae (λ b=>b=ps) w wy))
 case first=>
  exact V7
 case rest=>
 clear HS HZ HK;obtain⟨wy,Cb,hv,HS,HZ,HK⟩:=hcut;subst Cb hv;have HQ:=Hd (te wy Lo B ps n i 0 tv T HS.o);rw [R5.o] at HQ;go_wp2_with fail;refine HQ.o.mono ?_;rintro e wq ⟨rfl,dq,rfl⟩;obtain⟨w3,aQ⟩:∃w3,w3=wy.drewN dq:=⟨_,rfl⟩;rw [←aQ];have aZ:K0 wy w3:=by rw [aQ];exact (ae.refl _ _).drewN _
 replace HS:=Hd (HS.o.keep0 aZ);replace HZ:=Hd (HZ.o.keep aZ (λ h=>h));replace HK:=Hd (HK.o.trans aZ (λ_ _ h=>h.elim));clear aQ aZ;clear HQ;have HQ:=Hd (qN w3 Lo B ps n i 0 tv T HS.o);rw [oD.o] at HQ;go_wp2_with fail;refine HQ.o.mono ?_;rintro e wq ⟨rfl,dq,rfl⟩;obtain⟨w4,aQ⟩:∃w4,w4=w3.drewN dq:=⟨_,rfl⟩;rw [←aQ];have aZ:K0 w3 w4:=by rw [aQ];exact (ae.refl _ _).drewN _
 replace HS:=Hd (HS.o.keep0 aZ);replace HZ:=Hd (HZ.o.keep aZ (λ h=>h));replace HK:=Hd (HK.o.trans aZ (λ_ _ h=>h.elim));clear aQ aZ;clear HQ;go_upto_region 5 with fail;go_cut [33] from 24 to 33 (λ v6 wx=>∃wy:World,wy=wx∧v6=.bool nb∧Hid (QS wy Lo B ps tv n T i 0)∧Hid (af wy w.heap.size [.int .i64 0,false,eS,(),(),(),(),()])∧Hid (ae (λ b=>b=ps) w wy))
 case first=>
  exact QW
 case rest=>
 clear HS HZ HK;obtain⟨wy,Cb,hv,HS,HZ,HK⟩:=hcut;subst Cb hv;cases nb with
 | true=>
  have gF:=Hd (show res=.error 2 by rw [ay.o];exact Ap R2.o);go_wp2_with fail;refine (eg wy Lo B ps n i 0 2 tv T HS.o).mono ?_;rintro e wz ⟨rfl,ek,kg⟩;have ek:=(show QS wz Lo B ps tv n T i 2 from ek);replace HS:=Hd ek;replace HZ:=Hd (HZ.o.keep kg (λ e=>by have:=bA.o;omega));replace HK:=Hd (HK.o.trans kg k3);have fv:=Hd (show i≤i∧i≤T.length+2*0 by omega)
  exact V8
 | false=>
  have gF:=Hd (show res=.error 3 by rw [ay.o];exact BN R2.o);go_wp2_with fail;refine (eg wy Lo B ps n i 0 3 tv T HS.o).mono ?_;rintro e wz ⟨rfl,ek,kg⟩;have ek:=(show QS wz Lo B ps tv n T i 3 from ek);replace HS:=Hd ek;replace HZ:=Hd (HZ.o.keep kg (λ e=>by have:=bA.o;omega));replace HK:=Hd (HK.o.trans kg k3);have fv:=Hd (show i≤i∧i≤T.length+2*0 by omega)
  clear ek kg;obtain⟨⟨z0,z1,z2,z3,z4,z5,z6,z7⟩,⟨gO,gP,ib,ic,ie,ig,ii,ij⟩⟩:=HZ.o.eight;have fT:=HZ.o.lt;go_wp2_with fail;refine nJ (v:=.agg #[.int .i64 0,false,eS,(),(),(),(),()]) (by simp [results,Tryz.results142,go_sem,z0,z1,z2,z3,z4,z5,z6,z7]) rfl ?_;obtain⟨f1,f2,f3⟩:=cI HK.o HS.o bA.o (show QF false wz (λ b=>Qd Lo B w.heap.size b∧b≠w.heap.size) T res [.int .i64 0,false,eS,(),(),(),(),()] i 3 from QF.err dC gF.o) (ap wz w.heap.size (.int .i64 0) (.bool false) (.string ⟨#[]⟩) (.slice none 0 0) (.slice none 0 0) (.slice none 0 0) (.slice none 0 0) (.slice none 0 0))
  exact⟨⟨0,false,⟨#[]⟩,none,0,0,none,0,0,none,0,0,none,0,0,none,0,0⟩,i,3,rfl,fv.o.1,fv.o.2,f1,f2,f3⟩
def lT (p:PR (List Dt)):Except Nat (List Dt):=match p with
 | .error e=>.error e
 | .ok (d,r)=>if r.isEmpty then .ok d else .error 2
theorem Mv (cmd:List Tk→PR (List Dt)) (ts:List Tk):og cmd ts=if (ai ts).isEmpty then .ok [] else lT (bz cmd (ai ts)):=by
 unfold og bz lT;rw [qH];cases (ai ts).isEmpty with
 | true=>rfl
 | false=>cases mM cmd (ai ts)<;>rfl
theorem MO {w:World} {D:Nat→Prop} {T:List Tk} {res:PR (List Dt)} {us:List Value} {j x y:Nat} (h:QF true w D T res us j x) (hy:y=if x=0 then (if j<T.length then 2 else 0) else x) :
 (y=0∧∃ds,lT res=.ok ds∧bV w D ds us∧jA ds)∨(y≠0∧lT res=.error y):=by
 have kZ:x=0→aj [40] (T.drop j)=true→y=2:=λ hx ho=>by
  rw [nE hx,nE (bL (dA ho))] at hy;exact hy
 cases res with
 | error e=>
  rcases h with ⟨h1,h2⟩ | ⟨h1,hx,ho⟩
  ·rw [nF oM] at hy;exact .inr ⟨oM,by rw [hy,h1];rfl⟩
  ·exact .inr ⟨by rw [kZ hx ho];decide,by rw [kZ hx ho,h1];rfl⟩
 | ok p=>
  obtain⟨ds,r⟩:=p;rcases h with ⟨hx,hn,hr,hd,hj⟩ | ⟨_,hc,hx⟩
  ·rw [nE hx] at hy;rcases nP j T.length with hl | hl
   ·rw [nE hl] at hy;refine .inr ⟨oM,?_⟩;have cM:r.isEmpty=false:=by
     rw [List.isEmpty_eq_false_iff,←hd];exact Qy
    unfold lT;dsimp only;rw [cM,hy];rfl
   ·rw [nF oM] at hy;refine .inl ⟨hy,ds,?_,hr,hn⟩;have he:r=[]:=by rw [←hd];exact List.drop_eq_nil_of_le hl
    unfold lT;dsimp only;rw [he];rfl
  ·have cM:r.isEmpty=false:=by
    cases r with
    | nil=>cases hc
    | cons a l=>rfl
   have qG:y=2:=by
    rcases hx with hx | ⟨hx,ho⟩
    ·rw [hx] at hy;exact hy
    ·exact kZ hx ho
   refine .inr ⟨oM,?_⟩;unfold lT;dsimp only;rw [cM,qG];rfl
def Du (w:World) (Lo:Nat) (res:Except Nat (List Dt)) (e:Ending) (w':World):Prop:=match res with
 | .ok ds=>∃(a:OA) (m c:Nat),e=.returned (.tuple #[.slice a m c,.int .i64 0])∧Rd w' (λ b=>Lo≤b) (.sl 8 ds) (.slice a m c)∧K0 w w'
 | .error x=>e=.returned (.tuple #[(),.int .i64 (x:Nat)])∧K0 w w'
theorem It (K:Nat) (bw:ez K) (w:World) (Lo n aN:Nat) (tv:Value) (T:List Tk) (ht:fO w (λ b=>Lo≤b∧b<w.heap.size) n T tv) (hLo:Lo≤w.heap.size) (gM:NM T) (hd:aN+K=41) :
 Calls Tryz.prog 33 #[tv,.int .i64 (aN:Nat)] w (Du w Lo (og (ab K) T)):=by
 obtain⟨res,ag⟩:∃res,res=og (ab K) T:=⟨_,rfl⟩;rw [←ag];rw [Mv] at ag;have ov:=aT;have AK:T.length≤20000:=gM.1;obtain⟨ta,tc,rfl,ko,il⟩:=ht.shape;have ay:=Hd ag;have HC:=Hd bw;have HD:=Hd hd;have yz:=Hd ht;have Bw:=Hd gM;have Sh:=Hd hLo;clear ag bw hd ht gM hLo ko il;obtain⟨L,hL⟩:∃L,L=T.length:=⟨_,rfl⟩;have HL:=Hd hL;rw [←hL];rw [←hL] at yz AK;clear hL
 go_enter Tryz.func33,Tryz.ntmps33;go_wp2_with fail;obtain⟨W,hW⟩:∃W,W=w.alloc (.cells #[.slice ta L tc,.int .i64 0,.int .i64 0] 112):=⟨_,rfl⟩;rw [←hW];have eG:K0 w W:=by rw [hW];exact (ae.refl _ _).alloc _
 have ek:w.heap.size<W.heap.size:=by rw [hW];simp
 have hR:af W w.heap.size [.slice ta L tc,.int .i64 ((0:Nat):Int),.int .i64 ((0:Nat):Int)]:=by rw [hW];exact⟨_,nG w _⟩
 have HS:=Hd (show QS W Lo w.heap.size w.heap.size (.slice ta L tc) n T 0 0 from⟨hR,yz.o.keep eG (λ_ _ _ h=>h),nC _,nB _,Bw.o⟩);have xK:=Hd ek;have dO:=Hd eG;clear hR eG ek hW;refine (de W Lo w.heap.size w.heap.size n 0 0 _ T HS.o).mono ?_;rintro e w1 ⟨rfl,j1,_,ku,_,ko,dL,bt⟩;replace ku:=ku (nB _);rw [List.drop_zero] at ko;rw [←HL.o] at ku
 obtain⟨c0,c1,c2,f1,f2⟩:=dL.cells;have aW:=dL.lt;have uy:(ai T).length=L - j1:=by rw [←ko,nI,HL.o]
 replace HS:=Hd dL;have dp:=Hd (dO.o.trans bt (λ b hb e=>oM));have Sy:=Hd (uG xK.o bt.size);have Bj:=Hd ko;clear dL bt ko;by_cases rh:(ai T).isEmpty=true
 ·have Ji:(ai T).length=0:=by rw [List.isEmpty_iff] at rh;rw [rh];rfl
  have p1:(L:Int)≤(j1:Int):=oM
  have p2:((L:Int)≤(j1:Int))=True:=eq_true p1;have bO:=Hd (show res=.ok [] by rw [ay.o,nE rh]);clear rh Ji uy;go_wp2_with fail;go_ret2;rw [bO.o];exact⟨none,0,0,rfl,.nil _ _ _ (nB _),dp.o⟩
 ·have Ji:(ai T).length≠0:=λ h=>rh (by rw [List.isEmpty_iff];exact nO h);have hlj:j1<L:=oM
  have p1:¬(L:Int)≤(j1:Int):=oM
  have p2:((L:Int)≤(j1:Int))=False:=eq_false p1;have bO:=Hd (show res=lT (bz (ab K) (T.drop j1)) by rw [ay.o,nF rh,Bj.o]);clear rh Ji uy ay;go_wp2_with fail;refine (gN K HC.o w1 Lo w.heap.size w.heap.size n j1 aN _ T HS.o (by have:=HL.o;omega) HD.o).mono ?_;rintro e w2 ⟨v,j,x,rfl,vR,rj,cj,aS,hq⟩;have zS:=Hd vR;have xH:=Hd rj;have hjm:j≤L+100:=by have:=HL.o;have:=HD.o;omega
  obtain⟨NB,ke⟩:∃NB,NB=w2.heap.size:=⟨_,rfl⟩;obtain⟨y,hy⟩:∃y,y=if x=0 then (if j<L then 2 else 0) else x:=⟨_,rfl⟩;have cm:=MO hq (y:=y) (by rw [hy,HL.o]);rw [←bO.o] at cm;have gR:=Hd cm;replace HS:=Hd cj;have cA:=Hd (dp.o.trans aS (λ b hb e=>oM));have VE:=Hd (uG Sy.o aS.size);have HY:=Hd hy;have aaF:=Hd Sy.o;clear cj aS hq cm vR rj c0 c1 c2 f1 f2 aW zS xH hlj p1 p2 bO dO xK Sy dp ku hy
  go_upto_region 6 with fail;obtain⟨W3,ft⟩:∃W3,W3=w2.alloc (.cells #[v.k,v.nt,v.nm,.slice v.a0 v.n0 v.c0,.slice v.a1 v.n1 v.c1,.slice v.a2 v.n2 v.c2,.slice v.a3 v.n3 v.c3,.slice v.a4 v.n4 v.c4] 44):=⟨_,rfl⟩;rw [←ft]
  try rw [←ke]
  have aV:K0 w2 W3:=by rw [ft];exact (ae.refl _ _).alloc _
  have qZ:=Hd (show af W3 NB [v.k,v.nt,v.nm,.slice v.a0 v.n0 v.c0,.slice v.a1 v.n1 v.c1,.slice v.a2 v.n2 v.c2,.slice v.a3 v.n3 v.c3,.slice v.a4 v.n4 v.c4] by rw [ft,ke];exact aD _ _ _ _ _ _ _ _ _ _);obtain⟨⟨u0,u1,u2,u3,u4,u5,u6,u7⟩,⟨E1,E2,E3,E4,E5,E6,E7,E8⟩⟩:=qZ.o.eight;have AB:=qZ.o.lt;replace HS:=Hd (HS.o.keep0 aV);obtain⟨c0,c1,c2,f1,f2⟩:=HS.o.cells
  have aW:=HS.o.lt;have bZ:=Hd (cA.o.trans aV k3);have aaD:=Hd (uG VE.o aV.size);have ZQ:=Hd aV;have cM:NB≠w.heap.size:=by have:=VE.o;omega
  clear aV ft ke cA;by_cases hx:x=0
  ·subst hx;by_cases hj:j<L
   ·have qG:y=2:=by rw [HY.o,nE rfl,nE hj]
    have HR:=Hd (show res=.error 2 by
     rcases gR.o with ⟨h9,_⟩ | ⟨_,h9⟩
     ·omega
     ·rw [h9,qG])
    have q1:(j:Int)<(L:Int):=oM
    have q2:((j:Int)<(L:Int))=True:=eq_true q1;clear gR HY qG;go_wp2_with fail;go_quiet (fail);go_wp2_with fail;go_ret2;rw [HR.o];exact⟨rfl,(bZ.o.trans (HS.o.set2 2).2 (λ b hb e=>oM)).trans ((ae.refl (λ_=>False) _).drewN _) k3⟩
   ·have qG:y=0:=by rw [HY.o,nE rfl,nF hj]
    obtain⟨ds,HR,eo,eJ⟩:∃ds,Hid (res=.ok ds)∧bV w2 (Qd Lo w.heap.size w1.heap.size) ds v.vals∧jA ds:=by
     rcases gR.o with ⟨_,ds,h1,h2,h3⟩ | ⟨h9,_⟩
     ·exact⟨ds,Hd h1,h2,h3⟩
     ·exact nQ qG h9
    have zV:=Hd eo;have lY:=Hd eJ;have q1:¬(j:Int)<(L:Int):=oM
    have q2:((j:Int)<(L:Int))=False:=eq_false q1;clear gR HY qG eo eJ;go_wp2_with fail;obtain⟨W6,i4⟩:∃W6,W6=W3.alloc (.cells #[v.k,v.nt,v.nm,.slice v.a0 v.n0 v.c0,.slice v.a1 v.n1 v.c1,.slice v.a2 v.n2 v.c2,.slice v.a3 v.n3 v.c3,.slice v.a4 v.n4 v.c4] 44):=⟨_,rfl⟩;rw [←i4];have cu:K0 W3 W6:=by rw [i4];exact (ae.refl _ _).alloc _
    go_ret2;rw [HR.o];have Zb:=Sh.o;have ek:=aaD.o;have hr3:=zV.o.keep ZQ.o (λ_ _ _ h=>h);have Oz:=fk (w1:=W6) (k:=8) (m:=1) (hr3.mono (D':=λ b=>Lo≤b) (λ b _ h=>by unfold Qd at h;have:=aaF.o;omega)) lY.o.len dC i4 oM;exact⟨_,1,1,rfl,Oz,bZ.o.trans cu k3⟩
  ·have qG:y=x:=by rw [HY.o,nF hx]
   have HR:=Hd (show res=.error x by
    rcases gR.o with ⟨h9,_⟩ | ⟨_,h9⟩
    ·omega
    ·rw [h9,qG])
   have q1:((x:Int)==0)=false:=by rw [nA];omega
   have q2:((x:Int) != 0)=true:=by rw [bne_iff_ne];omega
   clear gR HY qG hx;go_wp2_with fail;go_quiet (fail);go_wp2_with fail;go_ret2;rw [HR.o];exact⟨rfl,bZ.o.trans ((ae.refl (λ_=>False) _).drewN _) k3⟩
theorem Du.below {w w1 w':World} {res:Except Nat (List Dt)} {e:Ending} (hk:K0 w w1) (h:Du w1 w.heap.size res e w'):sK w res e w':=by
 cases res with
 | ok ds=>
  obtain⟨a,m,c,he,hr,aS⟩:=h;exact⟨a,m,c,he,hr,hk.trans aS k3⟩
 | error x=>exact⟨h.1,hk.trans h.2 k3⟩
theorem wW {w w':World} {res:Except Nat (List Dt)} {e:Ending} (h:sK w res e w'):∃(a:OA) (m c:Nat) (x:Nat),e=.returned (.tuple #[.slice a m c,.int .i64 (x:Nat)]):=by
 exact Qj
theorem wX (K:Nat) (bw:ez K):iK K:=by
 intro w s aN hs hd;have HC:=Hd bw;have HD:=Hd hd;obtain⟨res,ag⟩:∃res,res=eQ (ab K) s:=⟨_,rfl⟩;rw [←ag];unfold eQ at ag;have ay:=Hd ag;obtain⟨S,hS⟩:∃S:ByteArray,S=⟨s.toArray⟩:=⟨_,rfl⟩;have hd2:S.data.toList=s:=by rw [hS]
 have hSs:S.size≤140737488351232:=by rw [nT,hd2];exact hs
 have yz:=Hd (IB S w hSs);rw [hd2] at yz;rw [←hS];clear bw hd ag hS hd2 hSs hs;go_enter Tryz.func20,Tryz.ntmps20;go_wp2_with fail;refine yz.o.mono ?_;intro e w1 hp;cases gB:ff s with
 | error x=>
  rw [gB] at hp;obtain⟨h0,rfl,bt⟩:=hp;have bO:=Hd (show res=.error x by rw [ay.o,gB]);have HK:=Hd bt;exact P2
 | ok T=>
  rw [gB] at hp;obtain⟨v,rfl,hT,fA,bt⟩:=hp;obtain⟨n,hT⟩:=hT.reads fA;obtain⟨ta,tc,rfl,_,_⟩:=hT.shape;have bO:=Hd (show res=og (ab K) T by rw [ay.o,gB]);have Bw:=Hd (xy gB);have HK:=Hd bt;have HT:=Hd (show fO w1 (λ b=>w.heap.size≤b∧b<w1.heap.size) n T _ from hT.mono λ b hb h=>⟨h,hb⟩);clear bt gB hT fA;go_wp2_with fail;refine (It K HC.o w1 w.heap.size n aN _ T HT.o HK.o.size Bw.o HD.o).mono ?_
  intro e w2 hp;rw [←bO.o] at hp;have uL:=hp.below HK.o;have HP:=Hd uL;obtain⟨a,m,c,x,rfl⟩:=wW uL;clear hp uL;exact FC
theorem wU:∀K,ez K
 | 0=>yq
 | K+1=>yp K (wU K) (wX K (wU K))
theorem T0 (w:World) (s:List UInt8) (hs:s.length≤140737488351232) :
 Calls Tryz.prog 9 #[.string ⟨s.toArray⟩] w (sK w (o6 s)):=by
 obtain⟨res,ag⟩:∃res,res=o6 s:=⟨_,rfl⟩;rw [←ag];have ay:=Hd ag;have HH:=Hd (wX 40 (wU 40) w s 1 hs rfl);clear ag;go_enter Tryz.func9,Tryz.ntmps9;go_wp2_with fail;refine HH.o.mono ?_;intro e w2 hp;rw [show eQ (ab 40) s=res from ay.o.symm] at hp;have HP:=Hd hp;obtain⟨a,m,c,x,rfl⟩:=wW hp;clear hp;exact FC
end Go.Proofs.YtiihpbccabeoeaaGreatDoor
