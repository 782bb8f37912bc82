/- The walk: a part. -/
import Derived.Test.YtiihpbccabeoeaaGreatDoorWPxAD
import Derived.Deep.CutBlock
namespace Go.Proofs.YtiihpbccabeoeaaGreatDoor
open Go.RowKit
set_option linter.unusedVariables false
set_option maxRecDepth 100000
set_option maxHeartbeats 16000000
theorem Ew {K:Nat} {w:World} {D:Nat→Prop} {T:List Tk} {i j x:Nat} {us:List Value} {res:PR (List Dt)} (hs:SmT T) (hb:bA (T.drop i)=true) (hc:dA (T.drop i)=false) (hf:(bO (aR (atF (T.drop i))) && aG [40] (T.drop (i+1)) && aG [41] (T.drop (i+2)))=false) (hres:res=aC (K+1) (T.drop i))
 (h:QF false w D T (bL (bC (aC K)) ((T.drop i).length+1) [] [] [] (T.drop i)) us j x):QF false w D T res us j x:=by
 cases hn:(bO (aR (atF (T.drop i))) && aG [40] (T.drop i).tail) with
 | false=>rw [hres,xK hb hc hn];exact h
 | true=>
  rw [Bool.and_eq_true] at hn;obtain⟨h1,h2⟩:=hn;obtain⟨n1,n2,n3⟩:=Ic hs h1 (bC (aC K));rw [Aa h1 h2 n1 n2 n3] at h;rw [aS] at h2;rw [h1,h2] at hf;rw [aS] at h;rcases h with ⟨hx,_,_,hj,_⟩ | ⟨h9,_⟩
  ·refine QF.stk (by rw [hj];exact h2) hx ?_;rw [hres,rD hb hc h1 (by rw [aS];exact h2),rK,aS,aS];rw [show aG [41] (T.drop (i+1+1))=false from hf];rfl
  ·cases h9
theorem L8 {K:Nat} {T:List Tk} {i:Nat} {res:PR (List Dt)} (hb:bA (T.drop i)=true) (hc:dA (T.drop i)=false) (h1:bO (aR (atF (T.drop i)))=true) (h2:aG [40] (T.drop (i+1))=true) (h3:aG [41] (T.drop (i+2))=true) (hres:res=aC (K+1) (T.drop i)) :
 res=if dA (aF (T.drop (i+3))) then sU (aR (atF (T.drop i))) (aC K (aF (T.drop (i+3)))) else .error 2:=by
 rw [hres,rD hb hc h1 (by rw [aS];exact h2),rK,aS,aS,aS,if_pos (show aG [41] (T.drop (i+1+1))=true from h3)]
theorem Ly {cl:Bool} {w w':World} {D:Nat→Prop} {T:List Tk} {res:PR (List Dt)} {us:List Value} {j x:Nat} (h:QF cl w D T res us j x) (hk:K0 w w'):QF cl w' D T res us j x:=by
 cases res with
 | error y=>exact h
 | ok p=>
  obtain⟨ds,r⟩:=p;rcases h with ⟨h0,h1,h2,h3,h5⟩ | h
  ·exact .inl ⟨h0,h1,h2.keep hk (fun _ _ _ h=>h),h3,h5⟩
  ·exact .inr h
theorem Je {w w6 w8 wE:World} {Lo B ps:Nat} {tv:Value} {n:Nat} {T:List Tk} {J x X:Nat} {name:Bs} {res gr:PR (List Dt)} {v:NV} (hk:aB (fun b=>b=ps) w w6) (hs:QS w6 Lo B ps tv n T J x) (hc:ps<w.heap.size) (hw:w.heap.size<w6.heap.size) (hX:w.heap.size<X)
 (h8:aB (fun b=>b=w.heap.size) w6 w8) (hsz:w8.heap.size=w6.heap.size) (hE:wE=w8.alloc (.cells v.vals.toArray 44)) (hres:res=sU name gr) (hq:QF false w6 (Qd Lo B X) T gr v.vals J x) :
 QS wE Lo B ps tv n T J x∧aB (fun b=>b=ps) w wE∧QF false wE (Qd Lo B w.heap.size) T res (NV.vals ⟨(11:Nat),false,⟨name.toArray⟩,none,0,0,none,0,0,none,0,0,some ⟨w6.heap.size,0,none⟩,1,1,none,0,0⟩) J x:=by
 have hB:=hs.ps;have hkE:K0 w8 wE:=by rw [hE];exact (aB.refl _ _).alloc _
 refine⟨(hs.keep h8 (fun b hb e=>by omega) (fun e=>by omega)).keep0 hkE,(hk.fresh h8 (fun b e=>by omega)).trans hkE (fun _ _ e=>e.elim),?_⟩;rcases hq.split (sU name) (fun e=>rfl) (fun h=>by cases h) with ⟨d,r,hg,hx,hn,hd,hj,hl⟩ | ⟨hx,hg⟩ | ⟨hx,ho,hg⟩
 ·have h1:=(hd.keep h8 (fun b _ hb e=>by rcases hb with h | h<;>omega)).mono (D':=Qd Lo B w.heap.size) (fun b _ hb=>by rcases hb with h | h;exact .inl h;exact .inr (by omega));have h2:=mV (k:=8) (m:=1) h1 (by rw [hn.len]) (by decide) hE (.inr (by omega));rw [hsz] at h2;exact QF.good (by rw [hres,hg,hj];rfl) hx ⟨_,_,_,_,_,_,_,_,rfl⟩ ⟨.int _,.bool _,.str _,.nil _ _ _ (Nat.zero_le _),.nil _ _ _ (Nat.zero_le _),.nil _ _ _ (Nat.zero_le _),h2,.nil _ _ _ (Nat.zero_le _),trivial⟩ rfl hl
 ·exact QF.err hx (by rw [hres,hg])
 ·exact QF.stk ho hx (by rw [hres,hg])
theorem xR (K:Nat) (hcmd:eU K) (hscr:iP K):eU (K+1):=by
 intro w Lo B ps n i deep tv T h hi hd;obtain⟨res,hres⟩:∃res,res=aC (K+1) (T.drop i):=⟨_,rfl⟩;rw [←hres];obtain⟨s,hs⟩:∃s,aR (atF (T.drop i))=s:=⟨_,rfl⟩;obtain⟨kw,hkw⟩:∃kw,((atF (T.drop i)).kind==1)=kw:=⟨_,rfl⟩;obtain⟨rv,hrv⟩:∃rv,cC.contains s=rv:=⟨_,rfl⟩;obtain⟨cb,hcb⟩:∃cb,dA (T.drop i)=cb:=⟨_,rfl⟩;obtain⟨rb,hrb⟩:∃rb,bX (T.drop i)=rb:=⟨_,rfl⟩;obtain⟨wb,hwb⟩:∃wb,wb=(kw && !rv):=⟨_,rfl⟩
 obtain⟨nb,hnb⟩:∃nb,nb = !(wb || cb || rb):=⟨_,rfl⟩;have HNB:=Hd hnb;have HBG:=Hd (show bA (T.drop i) = !nb by rw [mT,hs,hkw,hrv,hcb,hrb,hnb,hwb,Bool.not_not]);have HWB:=Hd hwb;have HSE:=Hd hs;have HKW:=Hd hkw;have HRV:=Hd hrv;have HCB:=Hd hcb;have HRB:=Hd hrb;have HPS:=Hd h.lt;have HS:=Lib.hid h;have HD:=Hd hd;have HRES:=Hd hres;have hmT:T.length≤20000:=h.sm.1;have hdw:IntKind.i64.wrap ((deep:Int)+1)=(deep:Int)+1:=IntWalk.i64_in _ (by omega)
 have hc8:=bV;clear h hd hres hs hkw hrv hcb hrb hwb hnb;have HC:=Hd hcmd;have HSC:=Hd hscr;have HD2:=Hd (show deep+1+K=41 by have:=HD.o;omega);have p40:((40:Int)<(deep:Int))=False:=eq_false (by have:=HD.o;omega);have p41:¬(40:Int)<(deep:Int):=by have:=HD.o;omega
 clear hcmd hscr;go_enter Tryz.func142,Tryz.ntmps142;go_wp2_with fail;obtain⟨W,hW⟩:∃W,W=w.alloc (.cells #[.int .i64 0,.bool false,.string ⟨#[]⟩,.slice none 0 0,.slice none 0 0,.slice none 0 0,.slice none 0 0,.slice none 0 0] 44):=⟨_,rfl⟩;have hk0:K0 w W:=by rw [hW];exact (aB.refl _ _).alloc _
 have HZ:=Hd (show aH W w.heap.size [.int .i64 0,.bool false,.string ⟨#[]⟩,.slice none 0 0,.slice none 0 0,.slice none 0 0,.slice none 0 0,.slice none 0 0] by rw [hW];exact aK w _ _ _ _ _ _ _ _ _);rw [←hW];have HK:=Hd (hk0.mono (T:=fun b=>b=ps) (fun _ _ h=>h.elim));replace HS:=Hd (HS.o.keep0 hk0);clear hk0 hW;have HQ:=Hd (dH HS.o s HSE.o 0);refine HQ.o.mono ?_;rintro e wq ⟨rfl,dq,rfl⟩
 obtain⟨w1,hw2⟩:∃w1,w1=W.drewN dq:=⟨_,rfl⟩;rw [←hw2];have hkw:K0 W w1:=by rw [hw2];exact (aB.refl _ _).drewN _
 replace HS:=Hd (HS.o.keep0 hkw);replace HZ:=Hd (HZ.o.keep hkw (fun h=>h));replace HK:=Hd (HK.o.trans hkw (fun _ _ h=>h.elim));clear hw2 hkw;clear HQ;go_upto_region 2 with fail;go_cut [6] from 13 to 19 (fun v6 wx=>∃wy:World,wy=wx∧v6=.bool wb∧Hid (QS wy Lo B ps tv n T i 0)∧Hid (aH wy w.heap.size [.int .i64 0,.bool false,.string ⟨#[]⟩,.slice none 0 0,.slice none 0 0,.slice none 0 0,.slice none 0 0,.slice none 0 0])∧Hid (aB (fun b=>b=ps) w wy))
 case first=>
  have HQ:=Hd (l7 w1 Lo B ps n i 0 tv T HS.o);rw [HKW.o] at HQ;have HQ2:=Hd (fun w=>pN w s);rw [HRV.o] at HQ2;go_wp2_with fail;refine HQ.o.mono ?_;rintro e wq ⟨rfl,dq,rfl⟩;obtain⟨w2,hw2⟩:∃w2,w2=w1.drewN dq:=⟨_,rfl⟩;rw [←hw2];have hkw:K0 w1 w2:=by rw [hw2];exact (aB.refl _ _).drewN _
  replace HS:=Hd (HS.o.keep0 hkw);replace HZ:=Hd (HZ.o.keep hkw (fun h=>h));replace HK:=Hd (HK.o.trans hkw (fun _ _ h=>h.elim));clear hw2 hkw;cases kw with
  | false=>
   have HVV:=Hd (show wb=false from HWB.o);go_wp2_with fail;go_meet
   case rel=>exact⟨_,rfl,by rw [HVV.o],HS,HZ,HK⟩
  | true=>
   go_wp2_with fail;refine (HQ2.o _).mono ?_;rintro e wq ⟨rfl,rfl⟩;cases rv with
   | false=>
    have HVV:=Hd (show wb=true from HWB.o);go_wp2_with fail;go_meet
    case rel=>exact⟨_,rfl,by rw [HVV.o],HS,HZ,HK⟩
   | true=>
    have HVV:=Hd (show wb=false from HWB.o);go_wp2_with fail;go_meet
    case rel=>exact⟨_,rfl,by rw [HVV.o],HS,HZ,HK⟩
 case rest=>
 clear HS HZ HK;obtain⟨wy,hwy,hv,HS,HZ,HK⟩:=hcut;subst hwy hv;have HQ:=Hd (s7 wy Lo B ps n i 0 tv T HS.o);rw [HCB.o] at HQ;go_wp2_with fail;refine HQ.o.mono ?_;rintro e wq ⟨rfl,dq,rfl⟩;obtain⟨w3,hw2⟩:∃w3,w3=wy.drewN dq:=⟨_,rfl⟩;rw [←hw2];have hkw:K0 wy w3:=by rw [hw2];exact (aB.refl _ _).drewN _
 replace HS:=Hd (HS.o.keep0 hkw);replace HZ:=Hd (HZ.o.keep hkw (fun h=>h));replace HK:=Hd (HK.o.trans hkw (fun _ _ h=>h.elim));clear hw2 hkw;clear HQ;have HQ:=Hd (qE w3 Lo B ps n i 0 tv T HS.o);rw [HRB.o] at HQ;go_wp2_with fail;refine HQ.o.mono ?_;rintro e wq ⟨rfl,dq,rfl⟩;obtain⟨w4,hw2⟩:∃w4,w4=w3.drewN dq:=⟨_,rfl⟩;rw [←hw2];have hkw:K0 w3 w4:=by rw [hw2];exact (aB.refl _ _).drewN _
 replace HS:=Hd (HS.o.keep0 hkw);replace HZ:=Hd (HZ.o.keep hkw (fun h=>h));replace HK:=Hd (HK.o.trans hkw (fun _ _ h=>h.elim));clear hw2 hkw;clear HQ;go_upto_region 5 with fail;go_cut [33] from 24 to 33 (fun v6 wx=>∃wy:World,wy=wx∧v6=.bool nb∧Hid (QS wy Lo B ps tv n T i 0)∧Hid (aH wy w.heap.size [.int .i64 0,.bool false,.string ⟨#[]⟩,.slice none 0 0,.slice none 0 0,.slice none 0 0,.slice none 0 0,.slice none 0 0])∧Hid (aB (fun b=>b=ps) w wy))
 case first=>
  cases wb with
  | true=>
   have HVV:=Hd (show nb=false from HNB.o);go_wp2_with fail;go_meet
   case rel=>exact⟨_,rfl,by rw [HVV.o],HS,HZ,HK⟩
  | false=>
   cases cb with
   | true=>
    have HVV:=Hd (show nb=false from HNB.o);go_wp2_with fail;go_meet
    case rel=>exact⟨_,rfl,by rw [HVV.o],HS,HZ,HK⟩
   | false=>
    cases rb with
    | true=>
     have HVV:=Hd (show nb=false from HNB.o);go_wp2_with fail;go_meet
     case rel=>exact⟨_,rfl,by rw [HVV.o],HS,HZ,HK⟩
    | false=>
     have HVV:=Hd (show nb=true from HNB.o);go_wp2_with fail;go_meet
     case rel=>exact⟨_,rfl,by rw [HVV.o],HS,HZ,HK⟩
 case rest=>
 clear HS HZ HK;obtain⟨wy,hwy,hv,HS,HZ,HK⟩:=hcut;subst hwy hv;cases nb with
 | true=>
  have HR2:=Hd (show res=.error 2 by rw [HRES.o];exact A2 HBG.o);go_wp2_with fail;refine (eD wy Lo B ps n i 0 2 tv T HS.o).mono ?_;rintro e wz ⟨rfl,hsz,hkz⟩;have hsz:=(show QS wz Lo B ps tv n T i 2 from hsz);replace HS:=Hd hsz;replace HZ:=Hd (HZ.o.keep hkz (fun e=>by have:=HPS.o;omega));replace HK:=Hd (HK.o.trans hkz k3);have HIB:=Hd (show i≤i∧i≤T.length+2*(K+1) by omega)
  clear hsz hkz;obtain⟨⟨z0,z1,z2,z3,z4,z5,z6,z7⟩,⟨zf0,zf1,zf2,zf3,zf4,zf5,zf6,zf7⟩⟩:=HZ.o.eight;have hzl:=HZ.o.lt;go_wp2_with fail;refine bodyPost_ret (v:=.agg #[.int .i64 0,.bool false,.string ⟨#[]⟩,.slice none 0 0,.slice none 0 0,.slice none 0 0,.slice none 0 0,.slice none 0 0]) (by simp [results,Tryz.results142,go_sem,z0,z1,z2,z3,z4,z5,z6,z7]) rfl ?_;obtain⟨f1,f2,f3⟩:=bS HK.o HS.o HPS.o (show QF false wz (fun b=>Qd Lo B w.heap.size b∧b≠w.heap.size) T res [.int .i64 0,.bool false,.string ⟨#[]⟩,.slice none 0 0,.slice none 0 0,.slice none 0 0,.slice none 0 0,.slice none 0 0] i 2 from QF.err (by decide) HR2.o) (aJ wz w.heap.size (.int .i64 0) (.bool false) (.string ⟨#[]⟩) (.slice none 0 0) (.slice none 0 0) (.slice none 0 0) (.slice none 0 0) (.slice none 0 0))
  exact⟨⟨0,false,⟨#[]⟩,none,0,0,none,0,0,none,0,0,none,0,0,none,0,0⟩,i,2,rfl,HIB.o.1,HIB.o.2,f1,f2,f3⟩
 | false=>
  cases cb with
  | true=>
   go_wp2_with fail;refine (E1 K HC.o HSC.o wy Lo B ps n i deep tv T HS.o hi HD2.o HCB.o).mono ?_;rintro e w5 ⟨v,j,bd,rfl,hij,hjb,hs3,hk3,hf3⟩;go_upto_region 13 with fail;obtain⟨NB,hNB⟩:∃NB,NB=w5.heap.size:=⟨_,rfl⟩;obtain⟨W6,hW4⟩:∃W6,W6=w5.alloc (.cells #[.int .i64 v.k,.bool v.nt,.string v.nm,.slice v.a0 v.n0 v.c0,.slice v.a1 v.n1 v.c1,.slice v.a2 v.n2 v.c2,.slice v.a3 v.n3 v.c3,.slice v.a4 v.n4 v.c4] 44):=⟨_,rfl⟩
   rw [←hW4]
   try rw [←hNB]
   have hk4:K0 w5 W6:=by rw [hW4];exact (aB.refl _ _).alloc _
   have hkk:=hk3.trans hk4 (fun _ _ h=>h.elim);replace HS:=Hd (hs3.keep0 hk4);have hnb:NB≠ps:=by have:=hs3.lt;omega
   have HN:=Hd (show aH W6 NB [.int .i64 v.k,.bool v.nt,.string v.nm,.slice v.a0 v.n0 v.c0,.slice v.a1 v.n1 v.c1,.slice v.a2 v.n2 v.c2,.slice v.a3 v.n3 v.c3,.slice v.a4 v.n4 v.c4] by rw [hW4,hNB];exact aK _ _ _ _ _ _ _ _ _ _);have hwc:=HZ.o.lt;replace HZ:=Hd (HZ.o.keep hkk (fun e=>by have:=HPS.o;omega));replace HK:=Hd (HK.o.trans hkk k3);have HF3:=Hd hf3;have HSZ:=Hd (show wy.heap.size≤NB∧NB<W6.heap.size∧w.heap.size<wy.heap.size∧NB=w5.heap.size by have:=hk3.size;have:=HN.o.lt;omega)
   have HK4:=Hd hk4;have HIJ:=Hd (show i≤j∧j≤T.length+(2*K+2) from⟨hij,hjb⟩);clear hs3 hk3 hf3 hk4 hkk hNB hW4 hij hjb hwc;go_wp2_with fail;refine (Dc K HSC.o W6 Lo B ps n j bd deep tv T HD2.o HS.o (J6 HF3.o)).mono ?_;rintro e w7 ⟨ra,rm,rc,j2,y,rfl,hj1,hj2,hs7,hk7,hor⟩;replace HZ:=Hd (HZ.o.keep hk7 (fun e=>by have:=HPS.o;omega));replace HK:=Hd (HK.o.trans hk7 k3)
   replace HN:=Hd (HN.o.keep hk7 hnb);have HS7:=Hd hs7;have HK7:=Hd hk7;have HOR:=Hd hor;have HIB:=Hd (show i≤j2∧j2≤T.length+2*(K+1) by have:=HIJ.o;omega);clear hs7 hk7 hor hj1 hj2 HS;obtain⟨⟨x0,x1,x2,x3,x4,x5,x6,x7⟩,⟨xf0,xf1,xf2,xf3,xf4,xf5,xf6,xf7⟩⟩:=HN.o.eight;have hNl:=HN.o.lt;go_upto_region 14 with fail;obtain⟨w9,hw9⟩:∃w9,w9=w7.setCell ⟨NB,5,none⟩ (.slice ra rm rc):=⟨_,rfl⟩;rw [←hw9];have hk9:aB (fun b=>b=NB) w7 w9:=by rw [hw9];exact (aB.refl _ _).setCell _ _ fun _=>rfl
   have hsz:=HSZ.o;have hpx:=HPS.o;have HN9:=Hd (show aH w9 NB [.int .i64 v.k,.bool v.nt,.string v.nm,.slice v.a0 v.n0 v.c0,.slice v.a1 v.n1 v.c1,.slice ra rm rc,.slice v.a3 v.n3 v.c3,.slice v.a4 v.n4 v.c4] by rw [hw9];exact HN.o.set 5 (.slice ra rm rc));replace HZ:=Hd (HZ.o.keep hk9 (fun e=>by omega));replace HK:=Hd (HK.o.fresh hk9 (fun b e=>by omega));have HS9:=Hd (HS7.o.keep hk9 (fun b hb e=>by have:=HS7.o.ps;omega) (fun e=>by omega))
   have HF9:=Hd (I6 (w9:=w9) (D:=fun b=>Qd Lo B w.heap.size b∧b≠w.heap.size) HF3.o (show res=bI (bC (aC K)) (dD K (T.drop i)) from by rw [HRES.o,Ad HBG.o HCB.o]) (fun ds hr=>by
    have h1:=(((hr.lt.keep HK4.o (fun _ _ _ h=>h)).keep HK7.o (fun b _ hb e=>by have:=HS7.o.ps;rcases hb.1 with h | h<;>omega)).keep hk9 (fun b _ hb e=>by omega));exact h1.mono (fun b _ hb=>by have:=HS7.o.ps;rcases hb.1 with h | h;exact⟨.inl h,by omega⟩;exact⟨.inr (by omega),by omega⟩)) (fun ds hr=>by
    have h1:=hr.keep hk9 (fun b _ hb e=>by have:=HS7.o.ps;rcases hb with h | h<;>omega);exact h1.mono (fun b _ hb=>by have:=HS7.o.ps;rcases hb with h | h;exact⟨.inl h,by omega⟩;exact⟨.inr (by omega),by omega⟩)) HOR.o)
   clear hw9 hk9 hsz hpx x0 x1 x2 x3 x4 x5 x6 x7 xf0 xf1 xf2 xf3 xf4 xf5 xf6 xf7 hNl HN;obtain⟨⟨x0,x1,x2,x3,x4,x5,x6,x7⟩,⟨xf0,xf1,xf2,xf3,xf4,xf5,xf6,xf7⟩⟩:=HN9.o.eight;have hNl:=HN9.o.lt;obtain⟨⟨z0,z1,z2,z3,z4,z5,z6,z7⟩,⟨zf0,zf1,zf2,zf3,zf4,zf5,zf6,zf7⟩⟩:=HZ.o.eight;have hzl:=HZ.o.lt;go_wp2_with fail;refine bodyPost_ret (v:=.agg #[.int .i64 v.k,.bool v.nt,.string v.nm,.slice v.a0 v.n0 v.c0,.slice v.a1 v.n1 v.c1,.slice ra rm rc,.slice v.a3 v.n3 v.c3,.slice v.a4 v.n4 v.c4]) (by simp [results,Tryz.results142,go_sem,z0,z1,z2,z3,z4,z5,z6,z7]) rfl ?_
   obtain⟨f1,f2,f3⟩:=bS HK.o HS9.o HPS.o HF9.o (aJ w9 w.heap.size (.int .i64 v.k) (.bool v.nt) (.string v.nm) (.slice v.a0 v.n0 v.c0) (.slice v.a1 v.n1 v.c1) (.slice ra rm rc) (.slice v.a3 v.n3 v.c3) (.slice v.a4 v.n4 v.c4));exact⟨⟨v.k,v.nt,v.nm,v.a0,v.n0,v.c0,v.a1,v.n1,v.c1,ra,rm,rc,v.a3,v.n3,v.c3,v.a4,v.n4,v.c4⟩,j2,y,rfl,HIB.o.1,HIB.o.2,f1,f2,f3⟩
  | false=>
   obtain⟨ta,tc,htv,ht1,ht2⟩:=HS.o.shape;subst htv;obtain⟨fb,hfb⟩:∃fb,(bO s && aG [40] (T.drop (i+1)) && aG [41] (T.drop (i+2)))=fb:=⟨_,rfl⟩;have HFB:=Hd hfb;clear hfb;go_wp2_with fail;go_cut [125] from 51 to 125 (fun v6 wx=>∃wy:World,wy=wx∧v6=.bool fb∧Hid (QS wy Lo B ps (.slice ta T.length tc) n T i 0)∧Hid (aH wy w.heap.size [.int .i64 0,.bool false,.string ⟨#[]⟩,.slice none 0 0,.slice none 0 0,.slice none 0 0,.slice none 0 0,.slice none 0 0])∧Hid (aB (fun b=>b=ps) w wy))
   case first=>
    obtain⟨nq,hnq⟩:∃nq,bO s=nq:=⟨_,rfl⟩;have HNQ:=Hd hnq;have hsl:s.length≤140737488351232:=by have:=tR HS.o.sm i;rw [HSE.o] at this;omega
    have HQ:=Hd (show ∀q,Calls Tryz.prog 165 #[.string ⟨s.toArray⟩] (wy.drewN q) (fun e w'=>e=.returned (.bool nq)∧∃q',w'=wy.drewN q') from fun q=>(rW s (wy.drewN q) nq hsl HNQ.o).mono fun e w' ⟨h1,q',h2⟩=>⟨h1,q+q',by rw [h2,World.drewN_drewN]⟩);clear hnq hsl;go_wp2_with fail;dsimp only [List.append];cases nq with
    | false=>
     have HVV:=Hd (show fb=false from by rw [←HFB.o,HNQ.o];rfl);go_quiet ((go_at_call 165;with_reducible exact HQ.o _));go_wp2_with fail;go_meet
     case rel=>exact⟨_,rfl,by rw [HVV.o],Hd (HS.o.keep0 ((aB.refl _ _).drewN _)),Hd (HZ.o.keep (S:=fun _=>False) ((aB.refl _ _).drewN _) (fun h=>h)),Hd (HK.o.trans ((aB.refl (fun _=>False) _).drewN _) (fun _ _ h=>h.elim))⟩
    | true=>
     have hs1:IntKind.i64.wrap ((i:Int)+1)=(i:Int)+1:=IntWalk.i64_in _ (by omega);have hs2:IntKind.i64.wrap ((i:Int)+2)=(i:Int)+2:=IntWalk.i64_in _ (by omega);obtain⟨c0,c1,c2,f1,f2⟩:=HS.o.cells;have hlt:=HS.o.lt;have hc3:=fW;by_cases h2:i+2<T.length
     ·obtain⟨g,o,xa,xl,xc,hg1,⟨q0,q1,q2⟩,hpa1,hg⟩:=HS.o.toks.at (aB.refl _ _) (show i+1<T.length by omega);subst hg1;obtain⟨g2,o2,ya,yl,yc,hg2,⟨r0,r1,r2⟩,hpa2,hgg⟩:=HS.o.toks.at (aB.refl _ _) h2;clear hpa1 hpa2 hgg;injection hg2 with hg2;injection hg2 with hg3 hg4;subst hg3 hg4;have HA1:=Hd (iH (show i+1<T.length by omega));have HA2:=Hd (iH h2);generalize T[i+1]=t1 at q0 q1 q2 HA1
      generalize T[i+2]=t2 at r0 r1 r2 HA2;unfold e8 at q1 r1;have hn1:((i:Int)+1).toNat=i+1:=by omega
      have hn2:((i:Int)+2).toNat=i+2:=by omega
      have p2:((i:Int)+2)<(T.length:Int):=by omega
      have p1:((i:Int)+1)<(T.length:Int):=by omega
      have p0:(0:Int)≤(i:Int)+1:=by omega
      have p3:(0:Int)≤(i:Int)+2:=by omega
      obtain⟨L,hL⟩:∃L,L=T.length:=⟨_,rfl⟩;obtain⟨k1,hk1⟩:∃k1,k1=t1.kind:=⟨_,rfl⟩;obtain⟨x1,hx1⟩:∃x1,x1=t1.text:=⟨_,rfl⟩;obtain⟨k2,hk2⟩:∃k2,k2=t2.kind:=⟨_,rfl⟩;obtain⟨x2,hx2⟩:∃x2,x2=t2.text:=⟨_,rfl⟩;have HFY:=Hd (show fb=(true && (k1==2 && x1==[40]) && (k2==2 && x2==[41])) by rw [←HFB.o,HNQ.o,hk1,hx1,hk2,hx2];unfold aG;rw [HA1.o,HA2.o]);rw [←hk1] at q0;rw [←hx1] at q1;rw [←hk2] at r0;rw [←hx2] at r1
      rw [←hL] at c0 p1 p2;clear hL hk1 hx1 hk2 hx2 HA1 HA2 h2;by_cases e1:k1=2
      ·subst e1;cases e2:(x1==[40]) with
       | true=>
        by_cases e3:k2=2
        ·subst e3;cases e4:(x2==[41]) with
         | true=>
          have HVV:=Hd (show fb=true from by rw [HFY.o,e2,e4];rfl);go_quiet ((go_at_call 165;with_reducible exact HQ.o _));go_wp2_with fail;go_meet
          case rel=>exact⟨_,rfl,by rw [HVV.o],Hd (HS.o.keep0 ((aB.refl _ _).drewN _)),Hd (HZ.o.keep (S:=fun _=>False) ((aB.refl _ _).drewN _) (fun h=>h)),Hd (HK.o.trans ((aB.refl (fun _=>False) _).drewN _) (fun _ _ h=>h.elim))⟩
         | false=>
          have HVV:=Hd (show fb=false from by rw [HFY.o,e4];simp);go_quiet ((go_at_call 165;with_reducible exact HQ.o _));go_wp2_with fail;go_meet
          case rel=>exact⟨_,rfl,by rw [HVV.o],Hd (HS.o.keep0 ((aB.refl _ _).drewN _)),Hd (HZ.o.keep (S:=fun _=>False) ((aB.refl _ _).drewN _) (fun h=>h)),Hd (HK.o.trans ((aB.refl (fun _=>False) _).drewN _) (fun _ _ h=>h.elim))⟩
        ·have t3:((k2:Int)==2)=false:=by rw [beq_eq_false_iff_ne];omega
         have HVV:=Hd (show fb=false from by rw [HFY.o,show (k2==2)=false from by rw [beq_eq_false_iff_ne];exact e3];simp);go_quiet ((go_at_call 165;with_reducible exact HQ.o _));go_wp2_with fail;go_meet
         case rel=>exact⟨_,rfl,by rw [HVV.o],Hd (HS.o.keep0 ((aB.refl _ _).drewN _)),Hd (HZ.o.keep (S:=fun _=>False) ((aB.refl _ _).drewN _) (fun h=>h)),Hd (HK.o.trans ((aB.refl (fun _=>False) _).drewN _) (fun _ _ h=>h.elim))⟩
       | false=>
        have HVV:=Hd (show fb=false from by rw [HFY.o,e2];simp);go_quiet ((go_at_call 165;with_reducible exact HQ.o _));go_wp2_with fail;go_meet
        case rel=>exact⟨_,rfl,by rw [HVV.o],Hd (HS.o.keep0 ((aB.refl _ _).drewN _)),Hd (HZ.o.keep (S:=fun _=>False) ((aB.refl _ _).drewN _) (fun h=>h)),Hd (HK.o.trans ((aB.refl (fun _=>False) _).drewN _) (fun _ _ h=>h.elim))⟩
      ·have t1:((k1:Int)==2)=false:=by rw [beq_eq_false_iff_ne];omega
       have HVV:=Hd (show fb=false from by rw [HFY.o,show (k1==2)=false from by rw [beq_eq_false_iff_ne];exact e1];simp);go_quiet ((go_at_call 165;with_reducible exact HQ.o _));go_wp2_with fail;go_meet
       case rel=>exact⟨_,rfl,by rw [HVV.o],Hd (HS.o.keep0 ((aB.refl _ _).drewN _)),Hd (HZ.o.keep (S:=fun _=>False) ((aB.refl _ _).drewN _) (fun h=>h)),Hd (HK.o.trans ((aB.refl (fun _=>False) _).drewN _) (fun _ _ h=>h.elim))⟩
     ·have p2:(((i:Int)+2)<(T.length:Int))=False:=eq_false (by omega);have p4:¬((i:Int)+2)<(T.length:Int):=by omega
      obtain⟨L,hL⟩:∃L,L=T.length:=⟨_,rfl⟩;have HFY:=Hd (show fb=false by rw [←HFB.o,show aG [41] (T.drop (i+2))=false from by unfold aG;rw [jK (by omega)];rfl,Bool.and_false]);rw [←hL] at c0 p2 p4;clear hL h2;have HVV:=Hd (show fb=false from by exact HFY.o);go_quiet ((go_at_call 165;with_reducible exact HQ.o _));go_wp2_with fail;go_meet
      case rel=>exact⟨_,rfl,by rw [HVV.o],Hd (HS.o.keep0 ((aB.refl _ _).drewN _)),Hd (HZ.o.keep (S:=fun _=>False) ((aB.refl _ _).drewN _) (fun h=>h)),Hd (HK.o.trans ((aB.refl (fun _=>False) _).drewN _) (fun _ _ h=>h.elim))⟩
   case rest=>
   clear HS HZ HK;obtain⟨wy,hwy,hv,HS,HZ,HK⟩:=hcut;subst hwy hv;have HFX:=Hd HFB.o;cases fb with
   | false=>
    go_wp2_with fail;refine (Bc K HSC.o wy Lo B ps n i deep (.slice ta T.length tc) T HS.o hi HD2.o).mono ?_;rintro e w9 ⟨v,j,bd,rfl,hij,hjb,hs3,hk3,hf3⟩;have HSZ:=Hd HZ.o.lt;replace HZ:=Hd (HZ.o.keep hk3 (fun e=>by have:=HPS.o;omega));have HS3:=Hd hs3;have HK3:=Hd hk3;have HF3:=Hd (Ew HS.o.sm HBG.o HCB.o (by rw [HSE.o,HFB.o]) HRES.o hf3);have HIB:=Hd (show i≤j∧j≤T.length+2*(K+1) by omega)
    clear hs3 hk3 hf3 hij hjb;obtain⟨⟨z0,z1,z2,z3,z4,z5,z6,z7⟩,⟨zf0,zf1,zf2,zf3,zf4,zf5,zf6,zf7⟩⟩:=HZ.o.eight;have hzl:=HZ.o.lt;go_wp2_with fail;refine bodyPost_ret (v:=.agg #[.int .i64 v.k,.bool v.nt,.string v.nm,.slice v.a0 v.n0 v.c0,.slice v.a1 v.n1 v.c1,.slice v.a2 v.n2 v.c2,.slice v.a3 v.n3 v.c3,.slice v.a4 v.n4 v.c4]) (by simp [results,Tryz.results142,go_sem,z0,z1,z2,z3,z4,z5,z6,z7]) rfl ?_
    obtain⟨f1,f2,f3⟩:=uI HK.o HSZ.o HK3.o HS3.o HPS.o HF3.o (aJ w9 w.heap.size (.int .i64 v.k) (.bool v.nt) (.string v.nm) (.slice v.a0 v.n0 v.c0) (.slice v.a1 v.n1 v.c1) (.slice v.a2 v.n2 v.c2) (.slice v.a3 v.n3 v.c3) (.slice v.a4 v.n4 v.c4));exact⟨v,j,bd,rfl,HIB.o.1,HIB.o.2,f1,f2,f3⟩
   | true=>
    have h41:aG [41] (T.drop (i+2))=true:=by have:=HFX.o;simp only [Bool.and_eq_true] at this;exact this.2
    have h40:aG [40] (T.drop (i+1))=true:=by have:=HFX.o;simp only [Bool.and_eq_true] at this;exact this.1.2
    have hnm:bO s=true:=by have:=HFX.o;simp only [Bool.and_eq_true] at this;exact this.1.1
    have hi2:=bQ (dO h41);have HR3:=Hd (L8 HBG.o HCB.o (by rw [HSE.o];exact hnm) h40 h41 HRES.o);clear h41 h40 hnm;have hsum3:IntKind.i64.wrap ((i:Int)+3)=(i:Int)+3:=IntWalk.i64_in _ (by omega);obtain⟨c0,c1,c2,f1,f2⟩:=HS.o.cells;have hlt:=HS.o.lt;go_wp2_with fail;obtain⟨wi,hwi⟩:∃wi,wi=wy.setCell ⟨ps,1,none⟩ (.int .i64 ((i:Int)+3)):=⟨_,rfl⟩;rw [←hwi];obtain⟨hs1,hk1⟩:=HS.o.set1 (j:=i+3) (by omega)
    rw [show ((i+3:Nat):Int)=(i:Int)+3 by omega,←hwi] at hs1 hk1;replace HS:=Hd hs1;replace HZ:=Hd (HZ.o.keep hk1 (fun e=>by have:=HPS.o;omega));replace HK:=Hd (HK.o.trans hk1 k3);clear hwi hs1 hk1 c0 c1 c2 f1 f2 hlt;refine (cY wi Lo B ps n (i+3) 0 (.slice ta T.length tc) T HS.o).mono ?_;rintro e wl ⟨rfl,j4,hl1,hl2,hl3,hl4,hsl4,hkl4⟩;have hj4T:j4≤T.length:=hl2 (by omega)
    replace HS:=Hd hsl4;replace HZ:=Hd (HZ.o.keep hkl4 (fun e=>by have:=HPS.o;omega));replace HK:=Hd (HK.o.trans hkl4 k3);rw [←hl4,HSE.o] at HR3;have HIJ:=Hd (show i≤j4 by omega);clear hl1 hl2 hl3 hl4 hsl4 hkl4;obtain⟨cz,hcz⟩:∃cz,dA (T.drop j4)=cz:=⟨_,rfl⟩;have HQ:=Hd (s7 wl Lo B ps n j4 0 (.slice ta T.length tc) T HS.o);rw [hcz] at HQ HR3;clear hcz;go_wp2_with fail
    refine HQ.o.mono ?_;rintro e wq ⟨rfl,dq,rfl⟩;obtain⟨wm,hw2⟩:∃wm,wm=wl.drewN dq:=⟨_,rfl⟩;rw [←hw2];have hkw:K0 wl wm:=by rw [hw2];exact (aB.refl _ _).drewN _
    replace HS:=Hd (HS.o.keep0 hkw);replace HZ:=Hd (HZ.o.keep hkw (fun h=>h));replace HK:=Hd (HK.o.trans hkw (fun _ _ h=>h.elim));clear hw2 hkw;clear HQ;cases cz with
    | false=>
     have HR4:=Hd (show res=.error 2 from HR3.o);go_wp2_with fail;refine (eD wm Lo B ps n j4 0 2 (.slice ta T.length tc) T HS.o).mono ?_;rintro e wz ⟨rfl,hsz,hkz⟩;have hsz:=(show QS wz Lo B ps (.slice ta T.length tc) n T j4 2 from hsz);replace HS:=Hd hsz;replace HZ:=Hd (HZ.o.keep hkz (fun e=>by have:=HPS.o;omega));replace HK:=Hd (HK.o.trans hkz k3);have HIB:=Hd (show i≤j4∧j4≤T.length+2*(K+1) by have:=HIJ.o;omega)
     clear hsz hkz;obtain⟨⟨z0,z1,z2,z3,z4,z5,z6,z7⟩,⟨zf0,zf1,zf2,zf3,zf4,zf5,zf6,zf7⟩⟩:=HZ.o.eight;have hzl:=HZ.o.lt;go_wp2_with fail;refine bodyPost_ret (v:=.agg #[.int .i64 0,.bool false,.string ⟨#[]⟩,.slice none 0 0,.slice none 0 0,.slice none 0 0,.slice none 0 0,.slice none 0 0]) (by simp [results,Tryz.results142,go_sem,z0,z1,z2,z3,z4,z5,z6,z7]) rfl ?_;obtain⟨f1,f2,f3⟩:=bS HK.o HS.o HPS.o (show QF false wz (fun b=>Qd Lo B w.heap.size b∧b≠w.heap.size) T res [.int .i64 0,.bool false,.string ⟨#[]⟩,.slice none 0 0,.slice none 0 0,.slice none 0 0,.slice none 0 0,.slice none 0 0] j4 2 from QF.err (by decide) HR4.o) (aJ wz w.heap.size (.int .i64 0) (.bool false) (.string ⟨#[]⟩) (.slice none 0 0) (.slice none 0 0) (.slice none 0 0) (.slice none 0 0) (.slice none 0 0))
     exact⟨⟨0,false,⟨#[]⟩,none,0,0,none,0,0,none,0,0,none,0,0,none,0,0⟩,j4,2,rfl,HIB.o.1,HIB.o.2,f1,f2,f3⟩
    | true=>
     have HR4:=Hd (show res=sU s (aC K (T.drop j4)) from HR3.o);clear HR3;go_wp2_with fail;refine (HC.o wm Lo B ps n j4 (deep+1) (.slice ta T.length tc) T HS.o hj4T (by have:=HD.o;omega)).mono ?_;rintro e w5 ⟨v,j,bd,rfl,hij,hjb,hs3,hk3,hf3⟩;go_upto_region 22 with fail;obtain⟨NB,hNB⟩:∃NB,NB=w5.heap.size:=⟨_,rfl⟩;obtain⟨W6,hW4⟩:∃W6,W6=w5.alloc (.cells #[.int .i64 v.k,.bool v.nt,.string v.nm,.slice v.a0 v.n0 v.c0,.slice v.a1 v.n1 v.c1,.slice v.a2 v.n2 v.c2,.slice v.a3 v.n3 v.c3,.slice v.a4 v.n4 v.c4] 44):=⟨_,rfl⟩
     rw [←hW4]
     try rw [←hNB]
     have hk4:K0 w5 W6:=by rw [hW4];exact (aB.refl _ _).alloc _
     have hkk:=hk3.trans hk4 (fun _ _ h=>h.elim);replace HS:=Hd (hs3.keep0 hk4);have hnb:NB≠ps:=by have:=hs3.lt;omega
     have HN:=Hd (show aH W6 NB [.int .i64 v.k,.bool v.nt,.string v.nm,.slice v.a0 v.n0 v.c0,.slice v.a1 v.n1 v.c1,.slice v.a2 v.n2 v.c2,.slice v.a3 v.n3 v.c3,.slice v.a4 v.n4 v.c4] by rw [hW4,hNB];exact aK _ _ _ _ _ _ _ _ _ _);have HX:=Hd HZ.o.lt;replace HZ:=Hd (HZ.o.keep hkk (fun e=>by have:=HPS.o;omega));replace HK:=Hd (HK.o.trans hkk k3);have HFIN:=Hd (Ly hf3 hk4)
     have HIB:=Hd (show i≤j∧j≤T.length+2*(K+1) by have:=HIJ.o;omega);clear hs3 hk3 hf3 hk4 hkk hNB hW4 hij hjb;obtain⟨⟨x0,x1,x2,x3,x4,x5,x6,x7⟩,⟨xf0,xf1,xf2,xf3,xf4,xf5,xf6,xf7⟩⟩:=HN.o.eight;have hNl:=HN.o.lt;obtain⟨⟨z0,z1,z2,z3,z4,z5,z6,z7⟩,⟨zf0,zf1,zf2,zf3,zf4,zf5,zf6,zf7⟩⟩:=HZ.o.eight;have hzl:=HZ.o.lt;go_wp2_with fail;refine bodyPost_ret (v:=.agg #[.int .i64 11,.bool false,.string ⟨s.toArray⟩,.slice none 0 0,.slice none 0 0,.slice none 0 0,.slice (some ⟨W6.heap.size,0,none⟩) 1 1,.slice none 0 0]) (by simp [results,Tryz.results142,go_sem,z0,z1,z2,z3,z4,z5,z6,z7,hzl]) rfl ?_
     exact⟨⟨11,false,⟨s.toArray⟩,none,0,0,none,0,0,none,0,0,some ⟨W6.heap.size,0,none⟩,1,1,none,0,0⟩,j,bd,rfl,HIB.o.1,HIB.o.2,Je (name:=s) (v:=v) HK.o HS.o HPS.o HZ.o.lt HX.o (aJ W6 w.heap.size (.int .i64 11) (.bool false) (.string ⟨s.toArray⟩) (.slice none 0 0) (.slice none 0 0) (.slice none 0 0) (.slice (some ⟨W6.heap.size,0,none⟩) 1 1) (.slice none 0 0)) (by simp [World.setCell]) rfl HR4.o HFIN.o⟩
end Go.Proofs.YtiihpbccabeoeaaGreatDoor
