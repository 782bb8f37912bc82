/- The walk: a part. -/
import Derived.Test.YtiihpbccabeoeaaGreatDoorWPxAD
import Derived.Deep.CutBlock
import Derived.Test.YtiihpbccabeoeaaGreatDoorWPxAF
import Derived.Test.YtiihpbccabeoeaaGreatDoorWPkU
namespace Go.Proofs.YtiihpbccabeoeaaGreatDoor
open Go.RowKit
set_option linter.unusedVariables false
set_option maxRecDepth 100000
set_option maxHeartbeats 16000000
theorem Cy {ts:List Tk} (h:bA ts=true):aC 0 ts=.error 3:=by
 show (if bA ts=true then _ else _)=_;rw [if_pos h]
theorem Av {ts:List Tk} (h:bA ts=false):aC 0 ts=.error 2:=by
 show (if bA ts=true then _ else _)=_;rw [h];rfl
theorem xO:eU 0:=by
 intro w Lo B ps n i deep tv T h hi hd;obtain⟨res,hres⟩:∃res,res=aC 0 (T.drop i):=⟨_,rfl⟩;rw [←hres];obtain⟨s,hs⟩:∃s,aR (atF (T.drop i))=s:=⟨_,rfl⟩;obtain⟨kw,hkw⟩:∃kw,((atF (T.drop i)).kind==1)=kw:=⟨_,rfl⟩;obtain⟨rv,hrv⟩:∃rv,cC.contains s=rv:=⟨_,rfl⟩;obtain⟨cb,hcb⟩:∃cb,dA (T.drop i)=cb:=⟨_,rfl⟩;obtain⟨rb,hrb⟩:∃rb,bX (T.drop i)=rb:=⟨_,rfl⟩;obtain⟨wb,hwb⟩:∃wb,wb=(kw && !rv):=⟨_,rfl⟩
 obtain⟨nb,hnb⟩:∃nb,nb = !(wb || cb || rb):=⟨_,rfl⟩;have HNB:=Hd hnb;have HBG:=Hd (show bA (T.drop i) = !nb by rw [mT,hs,hkw,hrv,hcb,hrb,hnb,hwb,Bool.not_not]);have HWB:=Hd hwb;have HSE:=Hd hs;have HKW:=Hd hkw;have HRV:=Hd hrv;have HCB:=Hd hcb;have HRB:=Hd hrb;have HPS:=Hd h.lt;have HS:=Lib.hid h;have HD:=Hd hd;have HRES:=Hd hres;have hmT:T.length≤20000:=h.sm.1;have hdw:IntKind.i64.wrap ((deep:Int)+1)=(deep:Int)+1:=IntWalk.i64_in _ (by omega)
 have hc8:=bV;clear h hd hres hs hkw hrv hcb hrb hwb hnb;have p40:(40:Int)<(deep:Int):=by have:=HD.o;omega
 have p41:((40:Int)<(deep:Int))=True:=eq_true p40;go_enter Tryz.func142,Tryz.ntmps142;go_wp2_with fail;obtain⟨W,hW⟩:∃W,W=w.alloc (.cells #[.int .i64 0,.bool false,.string ⟨#[]⟩,.slice none 0 0,.slice none 0 0,.slice none 0 0,.slice none 0 0,.slice none 0 0] 44):=⟨_,rfl⟩;have hk0:K0 w W:=by rw [hW];exact (aB.refl _ _).alloc _
 have HZ:=Hd (show aH W w.heap.size [.int .i64 0,.bool false,.string ⟨#[]⟩,.slice none 0 0,.slice none 0 0,.slice none 0 0,.slice none 0 0,.slice none 0 0] by rw [hW];exact aK w _ _ _ _ _ _ _ _ _);rw [←hW];have HK:=Hd (hk0.mono (T:=fun b=>b=ps) (fun _ _ h=>h.elim));replace HS:=Hd (HS.o.keep0 hk0);clear hk0 hW;have HQ:=Hd (dH HS.o s HSE.o 0);refine HQ.o.mono ?_;rintro e wq ⟨rfl,dq,rfl⟩
 obtain⟨w1,hw2⟩:∃w1,w1=W.drewN dq:=⟨_,rfl⟩;rw [←hw2];have hkw:K0 W w1:=by rw [hw2];exact (aB.refl _ _).drewN _
 replace HS:=Hd (HS.o.keep0 hkw);replace HZ:=Hd (HZ.o.keep hkw (fun h=>h));replace HK:=Hd (HK.o.trans hkw (fun _ _ h=>h.elim));clear hw2 hkw;clear HQ;go_upto_region 2 with fail;go_cut [6] from 13 to 19 (fun v6 wx=>∃wy:World,wy=wx∧v6=.bool wb∧Hid (QS wy Lo B ps tv n T i 0)∧Hid (aH wy w.heap.size [.int .i64 0,.bool false,.string ⟨#[]⟩,.slice none 0 0,.slice none 0 0,.slice none 0 0,.slice none 0 0,.slice none 0 0])∧Hid (aB (fun b=>b=ps) w wy))
 case first=>
  have HQ:=Hd (l7 w1 Lo B ps n i 0 tv T HS.o);rw [HKW.o] at HQ;have HQ2:=Hd (fun w=>pN w s);rw [HRV.o] at HQ2;go_wp2_with fail;refine HQ.o.mono ?_;rintro e wq ⟨rfl,dq,rfl⟩;obtain⟨w2,hw2⟩:∃w2,w2=w1.drewN dq:=⟨_,rfl⟩;rw [←hw2];have hkw:K0 w1 w2:=by rw [hw2];exact (aB.refl _ _).drewN _
  replace HS:=Hd (HS.o.keep0 hkw);replace HZ:=Hd (HZ.o.keep hkw (fun h=>h));replace HK:=Hd (HK.o.trans hkw (fun _ _ h=>h.elim));clear hw2 hkw;cases kw with
  | false=>
   have HVV:=Hd (show wb=false from HWB.o);go_wp2_with fail;go_meet
   case rel=>exact⟨_,rfl,by rw [HVV.o],HS,HZ,HK⟩
  | true=>
   go_wp2_with fail;refine (HQ2.o _).mono ?_;rintro e wq ⟨rfl,rfl⟩;cases rv with
   | false=>
    have HVV:=Hd (show wb=true from HWB.o);go_wp2_with fail;go_meet
    case rel=>exact⟨_,rfl,by rw [HVV.o],HS,HZ,HK⟩
   | true=>
    have HVV:=Hd (show wb=false from HWB.o);go_wp2_with fail;go_meet
    case rel=>exact⟨_,rfl,by rw [HVV.o],HS,HZ,HK⟩
 case rest=>
 clear HS HZ HK;obtain⟨wy,hwy,hv,HS,HZ,HK⟩:=hcut;subst hwy hv;have HQ:=Hd (s7 wy Lo B ps n i 0 tv T HS.o);rw [HCB.o] at HQ;go_wp2_with fail;refine HQ.o.mono ?_;rintro e wq ⟨rfl,dq,rfl⟩;obtain⟨w3,hw2⟩:∃w3,w3=wy.drewN dq:=⟨_,rfl⟩;rw [←hw2];have hkw:K0 wy w3:=by rw [hw2];exact (aB.refl _ _).drewN _
 replace HS:=Hd (HS.o.keep0 hkw);replace HZ:=Hd (HZ.o.keep hkw (fun h=>h));replace HK:=Hd (HK.o.trans hkw (fun _ _ h=>h.elim));clear hw2 hkw;clear HQ;have HQ:=Hd (qE w3 Lo B ps n i 0 tv T HS.o);rw [HRB.o] at HQ;go_wp2_with fail;refine HQ.o.mono ?_;rintro e wq ⟨rfl,dq,rfl⟩;obtain⟨w4,hw2⟩:∃w4,w4=w3.drewN dq:=⟨_,rfl⟩;rw [←hw2];have hkw:K0 w3 w4:=by rw [hw2];exact (aB.refl _ _).drewN _
 replace HS:=Hd (HS.o.keep0 hkw);replace HZ:=Hd (HZ.o.keep hkw (fun h=>h));replace HK:=Hd (HK.o.trans hkw (fun _ _ h=>h.elim));clear hw2 hkw;clear HQ;go_upto_region 5 with fail;go_cut [33] from 24 to 33 (fun v6 wx=>∃wy:World,wy=wx∧v6=.bool nb∧Hid (QS wy Lo B ps tv n T i 0)∧Hid (aH wy w.heap.size [.int .i64 0,.bool false,.string ⟨#[]⟩,.slice none 0 0,.slice none 0 0,.slice none 0 0,.slice none 0 0,.slice none 0 0])∧Hid (aB (fun b=>b=ps) w wy))
 case first=>
  cases wb with
  | true=>
   have HVV:=Hd (show nb=false from HNB.o);go_wp2_with fail;go_meet
   case rel=>exact⟨_,rfl,by rw [HVV.o],HS,HZ,HK⟩
  | false=>
   cases cb with
   | true=>
    have HVV:=Hd (show nb=false from HNB.o);go_wp2_with fail;go_meet
    case rel=>exact⟨_,rfl,by rw [HVV.o],HS,HZ,HK⟩
   | false=>
    cases rb with
    | true=>
     have HVV:=Hd (show nb=false from HNB.o);go_wp2_with fail;go_meet
     case rel=>exact⟨_,rfl,by rw [HVV.o],HS,HZ,HK⟩
    | false=>
     have HVV:=Hd (show nb=true from HNB.o);go_wp2_with fail;go_meet
     case rel=>exact⟨_,rfl,by rw [HVV.o],HS,HZ,HK⟩
 case rest=>
 clear HS HZ HK;obtain⟨wy,hwy,hv,HS,HZ,HK⟩:=hcut;subst hwy hv;cases nb with
 | true=>
  have HR2:=Hd (show res=.error 2 by rw [HRES.o];exact Av HBG.o);go_wp2_with fail;refine (eD wy Lo B ps n i 0 2 tv T HS.o).mono ?_;rintro e wz ⟨rfl,hsz,hkz⟩;have hsz:=(show QS wz Lo B ps tv n T i 2 from hsz);replace HS:=Hd hsz;replace HZ:=Hd (HZ.o.keep hkz (fun e=>by have:=HPS.o;omega));replace HK:=Hd (HK.o.trans hkz k3);have HIB:=Hd (show i≤i∧i≤T.length+2*0 by omega)
  clear hsz hkz;obtain⟨⟨z0,z1,z2,z3,z4,z5,z6,z7⟩,⟨zf0,zf1,zf2,zf3,zf4,zf5,zf6,zf7⟩⟩:=HZ.o.eight;have hzl:=HZ.o.lt;go_wp2_with fail;refine bodyPost_ret (v:=.agg #[.int .i64 0,.bool false,.string ⟨#[]⟩,.slice none 0 0,.slice none 0 0,.slice none 0 0,.slice none 0 0,.slice none 0 0]) (by simp [results,Tryz.results142,go_sem,z0,z1,z2,z3,z4,z5,z6,z7]) rfl ?_;obtain⟨f1,f2,f3⟩:=bS HK.o HS.o HPS.o (show QF false wz (fun b=>Qd Lo B w.heap.size b∧b≠w.heap.size) T res [.int .i64 0,.bool false,.string ⟨#[]⟩,.slice none 0 0,.slice none 0 0,.slice none 0 0,.slice none 0 0,.slice none 0 0] i 2 from QF.err (by decide) HR2.o) (aJ wz w.heap.size (.int .i64 0) (.bool false) (.string ⟨#[]⟩) (.slice none 0 0) (.slice none 0 0) (.slice none 0 0) (.slice none 0 0) (.slice none 0 0))
  exact⟨⟨0,false,⟨#[]⟩,none,0,0,none,0,0,none,0,0,none,0,0,none,0,0⟩,i,2,rfl,HIB.o.1,HIB.o.2,f1,f2,f3⟩
 | false=>
  have HR2:=Hd (show res=.error 3 by rw [HRES.o];exact Cy HBG.o);go_wp2_with fail;refine (eD wy Lo B ps n i 0 3 tv T HS.o).mono ?_;rintro e wz ⟨rfl,hsz,hkz⟩;have hsz:=(show QS wz Lo B ps tv n T i 3 from hsz);replace HS:=Hd hsz;replace HZ:=Hd (HZ.o.keep hkz (fun e=>by have:=HPS.o;omega));replace HK:=Hd (HK.o.trans hkz k3);have HIB:=Hd (show i≤i∧i≤T.length+2*0 by omega)
  clear hsz hkz;obtain⟨⟨z0,z1,z2,z3,z4,z5,z6,z7⟩,⟨zf0,zf1,zf2,zf3,zf4,zf5,zf6,zf7⟩⟩:=HZ.o.eight;have hzl:=HZ.o.lt;go_wp2_with fail;refine bodyPost_ret (v:=.agg #[.int .i64 0,.bool false,.string ⟨#[]⟩,.slice none 0 0,.slice none 0 0,.slice none 0 0,.slice none 0 0,.slice none 0 0]) (by simp [results,Tryz.results142,go_sem,z0,z1,z2,z3,z4,z5,z6,z7]) rfl ?_;obtain⟨f1,f2,f3⟩:=bS HK.o HS.o HPS.o (show QF false wz (fun b=>Qd Lo B w.heap.size b∧b≠w.heap.size) T res [.int .i64 0,.bool false,.string ⟨#[]⟩,.slice none 0 0,.slice none 0 0,.slice none 0 0,.slice none 0 0,.slice none 0 0] i 3 from QF.err (by decide) HR2.o) (aJ wz w.heap.size (.int .i64 0) (.bool false) (.string ⟨#[]⟩) (.slice none 0 0) (.slice none 0 0) (.slice none 0 0) (.slice none 0 0) (.slice none 0 0))
  exact⟨⟨0,false,⟨#[]⟩,none,0,0,none,0,0,none,0,0,none,0,0,none,0,0⟩,i,3,rfl,HIB.o.1,HIB.o.2,f1,f2,f3⟩
def lR (p:PR (List Dt)):Except Nat (List Dt):=match p with
 | .error e=>.error e
 | .ok (d,r)=>if r.isEmpty then .ok d else .error 2
theorem Ll (cmd:List Tk→PR (List Dt)) (ts:List Tk):oI cmd ts=if (aF ts).isEmpty then .ok [] else lR (cU cmd (aF ts)):=by
 unfold oI cU lR;rw [qF];cases (aF ts).isEmpty with
 | true=>rfl
 | false=>cases sC cmd (aF ts)<;>rfl
theorem K4 {w:World} {D:Nat→Prop} {T:List Tk} {res:PR (List Dt)} {us:List Value} {j x y:Nat} (h:QF true w D T res us j x) (hy:y=if x=0 then (if j<T.length then 2 else 0) else x) :
 (y=0∧∃ds,lR res=.ok ds∧RdL w D ds us∧NdD ds)∨(y≠0∧lR res=.error y):=by
 have hop:x=0→aG [40] (T.drop j)=true→y=2:=fun hx ho=>by
  rw [if_pos hx,if_pos (bQ (dO ho))] at hy;exact hy
 cases res with
 | error e=>
  rcases h with ⟨h1,h2⟩ | ⟨h1,hx,ho⟩
  ·rw [if_neg (by omega)] at hy;exact .inr ⟨by omega,by rw [hy,h1];rfl⟩
  ·exact .inr ⟨by rw [hop hx ho];decide,by rw [hop hx ho,h1];rfl⟩
 | ok p=>
  obtain⟨ds,r⟩:=p;rcases h with ⟨hx,hn,hr,hd,hj⟩ | ⟨_,hc,hx⟩
  ·rw [if_pos hx] at hy;rcases Nat.lt_or_ge j T.length with hl | hl
   ·rw [if_pos hl] at hy;refine .inr ⟨by omega,?_⟩;have hne:r.isEmpty=false:=by
     rw [List.isEmpty_eq_false_iff,←hd];intro e;have:=congrArg List.length e;rw [List.length_drop,lN] at this;omega
    unfold lR;dsimp only;rw [hne,hy];rfl
   ·rw [if_neg (by omega)] at hy;refine .inl ⟨hy,ds,?_,hr,hn⟩;have he:r=[]:=by rw [←hd];exact List.drop_eq_nil_of_le hl
    unfold lR;dsimp only;rw [he];rfl
  ·have hne:r.isEmpty=false:=by
    cases r with
    | nil=>cases hc
    | cons a l=>rfl
   have hy2:y=2:=by
    rcases hx with hx | ⟨hx,ho⟩
    ·rw [hx] at hy;exact hy
    ·exact hop hx ho
   refine .inr ⟨by omega,?_⟩;unfold lR;dsimp only;rw [hne,hy2];rfl
def Ef (w:World) (Lo:Nat) (res:Except Nat (List Dt)) (e:Ending) (w':World):Prop:=match res with
 | .ok ds=>∃(a:OA) (m c:Nat),e=.returned (.tuple #[.slice a m c,.int .i64 0])∧Rd w' (fun b=>Lo≤b) (.sl 8 ds) (.slice a m c)∧K0 w w'
 | .error x=>e=.returned (.tuple #[.slice none 0 0,.int .i64 (x:Nat)])∧K0 w w'
theorem Ij (K:Nat) (hcmd:eU K) (w:World) (Lo n deep:Nat) (tv:Value) (T:List Tk) (ht:g6 w (fun b=>Lo≤b∧b<w.heap.size) n T tv) (hLo:Lo≤w.heap.size) (hsm:SmT T) (hd:deep+K=41) :
 Calls Tryz.prog 33 #[tv,.int .i64 (deep:Nat)] w (Ef w Lo (oI (aC K) T)):=by
 obtain⟨res,hres⟩:∃res,res=oI (aC K) T:=⟨_,rfl⟩;rw [←hres];rw [Ll] at hres;have hc8:=bV;have hmT:T.length≤20000:=hsm.1;obtain⟨ta,tc,rfl,ht1,ht2⟩:=ht.shape;have HRES:=Hd hres;have HC:=Hd hcmd;have HD:=Hd hd;have HTK:=Hd ht;have HSM:=Hd hsm;have HLO:=Hd hLo;clear hres hcmd hd ht hsm hLo ht1 ht2;obtain⟨L,hL⟩:∃L,L=T.length:=⟨_,rfl⟩;have HL:=Hd hL;rw [←hL];rw [←hL] at HTK hmT;clear hL
 go_enter Tryz.func33,Tryz.ntmps33;go_wp2_with fail;obtain⟨W,hW⟩:∃W,W=w.alloc (.cells #[.slice ta L tc,.int .i64 0,.int .i64 0] 112):=⟨_,rfl⟩;rw [←hW];have hkW:K0 w W:=by rw [hW];exact (aB.refl _ _).alloc _
 have hsz:w.heap.size<W.heap.size:=by rw [hW];simp
 have hR:aH W w.heap.size [.slice ta L tc,.int .i64 ((0:Nat):Int),.int .i64 ((0:Nat):Int)]:=by rw [hW];exact⟨_,heap_alloc_new w _⟩
 have HS:=Hd (show QS W Lo w.heap.size w.heap.size (.slice ta L tc) n T 0 0 from⟨hR,HTK.o.keep hkW (fun _ _ _ h=>h),Nat.le_refl _,Nat.zero_le _,HSM.o⟩);have HSZ:=Hd hsz;have HKW:=Hd hkW;clear hR hkW hsz hW;refine (cY W Lo w.heap.size w.heap.size n 0 0 _ T HS.o).mono ?_;rintro e w1 ⟨rfl,j1,_,hj1,_,ht1,hs1,hk1⟩;replace hj1:=hj1 (Nat.zero_le _);rw [List.drop_zero] at ht1;rw [←HL.o] at hj1
 obtain⟨c0,c1,c2,f1,f2⟩:=hs1.cells;have hlt:=hs1.lt;have hjl:(aF T).length=L - j1:=by rw [←ht1,List.length_drop,HL.o]
 replace HS:=Hd hs1;have HK1:=Hd (HKW.o.trans hk1 (fun b hb e=>by omega));have HSZ1:=Hd (Nat.lt_of_lt_of_le HSZ.o hk1.size);have HT1:=Hd ht1;clear hs1 hk1 ht1;by_cases hem:(aF T).isEmpty=true
 ·have hln:(aF T).length=0:=by rw [List.isEmpty_iff] at hem;rw [hem];rfl
  have p1:(L:Int)≤(j1:Int):=by omega
  have p2:((L:Int)≤(j1:Int))=True:=eq_true p1;have HRX:=Hd (show res=.ok [] by rw [HRES.o,if_pos hem]);clear hem hln hjl;go_wp2_with fail;go_ret2;rw [HRX.o];exact⟨none,0,0,rfl,.nil _ _ _ (Nat.zero_le _),HK1.o⟩
 ·have hln:(aF T).length≠0:=fun h=>hem (by rw [List.isEmpty_iff];exact List.eq_nil_of_length_eq_zero h);have hlj:j1<L:=by omega
  have p1:¬(L:Int)≤(j1:Int):=by omega
  have p2:((L:Int)≤(j1:Int))=False:=eq_false p1;have HRX:=Hd (show res=lR (cU (aC K) (T.drop j1)) by rw [HRES.o,if_neg hem,HT1.o]);clear hem hln hjl HRES;go_wp2_with fail;refine (gR K HC.o w1 Lo w.heap.size w.heap.size n j1 deep _ T HS.o (by have:=HL.o;omega) HD.o).mono ?_;rintro e w2 ⟨v,j,x,rfl,hij,hjb,hs2,hk2,hq⟩;have HIJ:=Hd hij;have HJB:=Hd hjb;have hjm:j≤L+100:=by have:=HL.o;have:=HD.o;omega
  obtain⟨NB,hNB⟩:∃NB,NB=w2.heap.size:=⟨_,rfl⟩;obtain⟨y,hy⟩:∃y,y=if x=0 then (if j<L then 2 else 0) else x:=⟨_,rfl⟩;have hfin:=K4 hq (y:=y) (by rw [hy,HL.o]);rw [←HRX.o] at hfin;have HFIN:=Hd hfin;replace HS:=Hd hs2;have HK2:=Hd (HK1.o.trans hk2 (fun b hb e=>by omega));have HSZ2:=Hd (Nat.lt_of_lt_of_le HSZ1.o hk2.size);have HY:=Hd hy;have HSZW:=Hd HSZ1.o;clear hs2 hk2 hq hfin hij hjb c0 c1 c2 f1 f2 hlt HIJ HJB hlj p1 p2 HRX HKW HSZ HSZ1 HK1 hj1 hy
  go_upto_region 6 with fail;obtain⟨W3,hW3⟩:∃W3,W3=w2.alloc (.cells #[.int .i64 v.k,.bool v.nt,.string v.nm,.slice v.a0 v.n0 v.c0,.slice v.a1 v.n1 v.c1,.slice v.a2 v.n2 v.c2,.slice v.a3 v.n3 v.c3,.slice v.a4 v.n4 v.c4] 44):=⟨_,rfl⟩;rw [←hW3]
  try rw [←hNB]
  have hk3:K0 w2 W3:=by rw [hW3];exact (aB.refl _ _).alloc _
  have HNR:=Hd (show aH W3 NB [.int .i64 v.k,.bool v.nt,.string v.nm,.slice v.a0 v.n0 v.c0,.slice v.a1 v.n1 v.c1,.slice v.a2 v.n2 v.c2,.slice v.a3 v.n3 v.c3,.slice v.a4 v.n4 v.c4] by rw [hW3,hNB];exact aK _ _ _ _ _ _ _ _ _ _);obtain⟨⟨u0,u1,u2,u3,u4,u5,u6,u7⟩,⟨uf0,uf1,uf2,uf3,uf4,uf5,uf6,uf7⟩⟩:=HNR.o.eight;have hNBl:=HNR.o.lt;replace HS:=Hd (HS.o.keep0 hk3);obtain⟨c0,c1,c2,f1,f2⟩:=HS.o.cells
  have hlt:=HS.o.lt;have HK3:=Hd (HK2.o.trans hk3 k3);have HSZ3:=Hd (Nat.lt_of_lt_of_le HSZ2.o hk3.size);have HK23:=Hd hk3;have hne:NB≠w.heap.size:=by have:=HSZ2.o;omega
  clear hk3 hW3 hNB HK2;by_cases hx:x=0
  ·subst hx;by_cases hj:j<L
   ·have hy2:y=2:=by rw [HY.o,if_pos rfl,if_pos hj]
    have HR:=Hd (show res=.error 2 by
     rcases HFIN.o with ⟨h9,_⟩ | ⟨_,h9⟩
     ·omega
     ·rw [h9,hy2])
    have q1:(j:Int)<(L:Int):=by omega
    have q2:((j:Int)<(L:Int))=True:=eq_true q1;clear HFIN HY hy2;go_wp2_with fail;go_quiet (fail);go_wp2_with fail;go_ret2;rw [HR.o];exact⟨rfl,(HK3.o.trans (HS.o.set2 2).2 (fun b hb e=>by omega)).trans ((aB.refl (fun _=>False) _).drewN _) k3⟩
   ·have hy2:y=0:=by rw [HY.o,if_pos rfl,if_neg hj]
    obtain⟨ds,HR,hrd,hnd⟩:∃ds,Hid (res=.ok ds)∧RdL w2 (Qd Lo w.heap.size w1.heap.size) ds v.vals∧NdD ds:=by
     rcases HFIN.o with ⟨_,ds,h1,h2,h3⟩ | ⟨h9,_⟩
     ·exact⟨ds,Hd h1,h2,h3⟩
     ·exact absurd hy2 h9
    have HRD:=Hd hrd;have HND:=Hd hnd;have q1:¬(j:Int)<(L:Int):=by omega
    have q2:((j:Int)<(L:Int))=False:=eq_false q1;clear HFIN HY hy2 hrd hnd;go_wp2_with fail;obtain⟨W6,hW6⟩:∃W6,W6=W3.alloc (.cells #[.int .i64 v.k,.bool v.nt,.string v.nm,.slice v.a0 v.n0 v.c0,.slice v.a1 v.n1 v.c1,.slice v.a2 v.n2 v.c2,.slice v.a3 v.n3 v.c3,.slice v.a4 v.n4 v.c4] 44):=⟨_,rfl⟩;rw [←hW6];have hk6:K0 W3 W6:=by rw [hW6];exact (aB.refl _ _).alloc _
    go_ret2;rw [HR.o];have hlo:=HLO.o;have hsz:=HSZ3.o;have hr3:=HRD.o.keep HK23.o (fun _ _ _ h=>h);have hrd6:=mV (w1:=W6) (k:=8) (m:=1) (hr3.mono (D':=fun b=>Lo≤b) (fun b _ h=>by unfold Qd at h;have:=HSZW.o;omega)) HND.o.len (by decide) hW6 (by omega);exact⟨_,1,1,rfl,hrd6,HK3.o.trans hk6 k3⟩
  ·have hy2:y=x:=by rw [HY.o,if_neg hx]
   have HR:=Hd (show res=.error x by
    rcases HFIN.o with ⟨h9,_⟩ | ⟨_,h9⟩
    ·omega
    ·rw [h9,hy2])
   have q1:((x:Int)==0)=false:=by rw [beq_eq_false_iff_ne];omega
   have q2:((x:Int) != 0)=true:=by rw [bne_iff_ne];omega
   clear HFIN HY hy2 hx;go_wp2_with fail;go_quiet (fail);go_wp2_with fail;go_ret2;rw [HR.o];exact⟨rfl,HK3.o.trans ((aB.refl (fun _=>False) _).drewN _) k3⟩
theorem Ef.below {w w1 w':World} {res:Except Nat (List Dt)} {e:Ending} (hk:K0 w w1) (h:Ef w1 w.heap.size res e w'):sI w res e w':=by
 cases res with
 | ok ds=>
  obtain⟨a,m,c,he,hr,hk2⟩:=h;exact⟨a,m,c,he,hr,hk.trans hk2 k3⟩
 | error x=>exact⟨h.1,hk.trans h.2 k3⟩
theorem vC {w w':World} {res:Except Nat (List Dt)} {e:Ending} (h:sI w res e w'):∃(a:OA) (m c:Nat) (x:Nat),e=.returned (.tuple #[.slice a m c,.int .i64 (x:Nat)]):=by
 cases res with
 | ok ds=>obtain⟨a,m,c,he,_⟩:=h;exact⟨a,m,c,0,he⟩
 | error x=>exact⟨none,0,0,x,h.1⟩
theorem uN (K:Nat) (hcmd:eU K):iP K:=by
 intro w s deep hs hd;have HC:=Hd hcmd;have HD:=Hd hd;obtain⟨res,hres⟩:∃res,res=gQ (aC K) s:=⟨_,rfl⟩;rw [←hres];unfold gQ at hres;have HRES:=Hd hres;obtain⟨S,hS⟩:∃S:ByteArray,S=⟨s.toArray⟩:=⟨_,rfl⟩;have hd2:S.data.toList=s:=by rw [hS]
 have hSs:S.size≤140737488351232:=by rw [Lib.size_eq,hd2];exact hs
 have HTK:=Hd (Iv S w hSs);rw [hd2] at HTK;rw [←hS];clear hcmd hd hres hS hd2 hSs hs;go_enter Tryz.func20,Tryz.ntmps20;go_wp2_with fail;refine HTK.o.mono ?_;intro e w1 hp;cases htk:kC s with
 | error x=>
  rw [htk] at hp;obtain⟨h0,rfl,hk1⟩:=hp;have HRX:=Hd (show res=.error x by rw [HRES.o,htk]);have HK:=Hd hk1;have hx:((x:Int) != 0)=true:=by
   rw [bne_iff_ne];omega
  clear hk1 htk;go_wp2_with fail;go_ret2;rw [HRX.o];exact⟨rfl,HK.o⟩
 | ok T=>
  rw [htk] at hp;obtain⟨v,rfl,hT,hlow,hk1⟩:=hp;obtain⟨n,hT⟩:=hT.reads hlow;obtain⟨ta,tc,rfl,_,_⟩:=hT.shape;have HRX:=Hd (show res=oI (aC K) T by rw [HRES.o,htk]);have HSM:=Hd (Fr htk);have HK:=Hd hk1;have HT:=Hd (show g6 w1 (fun b=>w.heap.size≤b∧b<w1.heap.size) n T _ from hT.mono fun b hb h=>⟨h,hb⟩);clear hk1 htk hT hlow;go_wp2_with fail;refine (Ij K HC.o w1 w.heap.size n deep _ T HT.o HK.o.size HSM.o HD.o).mono ?_
  intro e w2 hp;rw [←HRX.o] at hp;have hp2:=hp.below HK.o;have HP:=Hd hp2;obtain⟨a,m,c,x,rfl⟩:=vC hp2;clear hp hp2;go_wp2_with fail;go_ret2;exact HP.o
theorem uU:∀K,eU K
 | 0=>xO
 | K+1=>xR K (uU K) (uN K (uU K))
theorem v8 (w:World) (s:List UInt8) (hs:s.length≤140737488351232) :
 Calls Tryz.prog 9 #[.string ⟨s.toArray⟩] w (sI w (iR s)):=by
 obtain⟨res,hres⟩:∃res,res=iR s:=⟨_,rfl⟩;rw [←hres];have HRES:=Hd hres;have HH:=Hd (uN 40 (uU 40) w s 1 hs rfl);clear hres;go_enter Tryz.func9,Tryz.ntmps9;go_wp2_with fail;refine HH.o.mono ?_;intro e w2 hp;rw [show gQ (aC 40) s=res from HRES.o.symm] at hp;have HP:=Hd hp;obtain⟨a,m,c,x,rfl⟩:=vC hp;clear hp;go_wp2_with fail;go_ret2;exact HP.o
end Go.Proofs.YtiihpbccabeoeaaGreatDoor
