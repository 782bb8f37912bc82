/- The walk: a part. -/
import Derived.Test.YtiihpbccabeoeaaGreatDoorYPxS
namespace Go.Proofs.YtiihpbccabeoeaaGreatDoor
open Go.RowKit
set_option linter.unusedVariables false
set_option maxRecDepth 100000
set_option maxHeartbeats 16000000
def shutG (kind:Nat) (close:List Tk→PR Unit) (p:PR (List Dt)):PR (List Dt):=match p with
 | .error e=>.error e
 | .ok (d,r)=>match close r with
  | .error e=>.error e
  | .ok (_,r2)=>.ok (ndR kind false [] [] [] [] d [],r2)
theorem shut_eq (cmd:List Tk→PR (List Dt)) (kind:Nat) (close:List Tk→PR Unit) (ts:List Tk):shutF cmd kind close ts=shutG kind close (listF cmd ts):=by
 unfold shutF shutG;cases listF cmd ts with
 | error e=>rfl
 | ok p=>rfl
theorem shutG_no {kind:Nat} {close:List Tk→PR Unit} {ds:List Dt} {r:List Tk} (h:close r=.error 2):shutG kind close (.ok (ds,r))=.error 2:=by
 unfold shutG;dsimp only;rw [h]
theorem shutG_yes {kind:Nat} {close:List Tk→PR Unit} {ds:List Dt} {r:List Tk} (h:close r=.ok ((),r.tail)):shutG kind close (.ok (ds,r))=.ok (ndR kind false [] [] [] [] ds [],r.tail):=by
 unfold shutG;dsimp only;rw [h]
theorem word_op {s:Bs} {ts:List Tk} (h:isWF s ts=true) (hs:s≠[]):isOpF [40] ts=false:=by
 cases ho:isOpF [40] ts with
 | false=>rfl
 | true=>rw [wfP2 hs ts ho] at h;cases h
def whileG (cmd:List Tk→PR (List Dt)) (kind:Nat) (p:PR (List Dt)):PR (List Dt):=match p with
 | .error e=>.error e
 | .ok (d,r)=>match bodyF cmd r with
  | .error e=>.error e
  | .ok (b,r2)=>.ok (ndR kind false [] [] [] [] (d++b) [],r2)
theorem while_eq (cmd:List Tk→PR (List Dt)) (kind:Nat) (ts:List Tk):whileF cmd kind ts=whileG cmd kind (listF cmd ts):=by
 unfold whileF whileG;cases listF cmd ts with
 | error e=>rfl
 | ok p=>rfl
theorem body_none {cmd:List Tk→PR (List Dt)} {ts:List Tk} (h:isWF [100,111] ts=false):bodyF cmd ts=.error 2:=by
 unfold bodyF;rw [needW_no h]
theorem pack_kids {w w6 w8 wE:World} {Lo B ps:Nat} {tv:Value} {n:Nat} {T:List Tk} {J x kind m:Nat} {res:PR (List Dt)} {vv:List Value} (hk:Keeps (fun b=>b=ps) w w6) (hs:QS w6 Lo B ps tv n T J x) (hc:ps<w.heap.size) (hw:w.heap.size<w6.heap.size)
 (h8:Keeps (fun b=>b=w.heap.size) w6 w8) (hsz:w8.heap.size=w6.heap.size) (hE:wE=w8.alloc (.cells vv.toArray 44)) (hm:m≤2)
 (hq:(∃ds,res=.ok (ndR kind false [] [] [] [] ds [],T.drop J)∧x=0∧J≤T.length∧ds.length=m*8∧RdL w6 (fun b=>Qd Lo B w.heap.size b∧b≠w.heap.size) ds vv)∨QF false w6 (fun _=>False) T res [] J x) :
 QS wE Lo B ps tv n T J x∧Keeps (fun b=>b=ps) w wE∧QF false wE (Qd Lo B w.heap.size) T res (NV.vals ⟨(kind:Nat),false,⟨#[]⟩,none,0,0,none,0,0,none,0,0,some ⟨w6.heap.size,0,none⟩,m,m,none,0,0⟩) J x:=by
 have hB:=hs.ps;have hkE:Keeps (fun _=>False) w8 wE:=by rw [hE];exact (Keeps.refl _ _).alloc _
 refine⟨(hs.keep h8 (fun b hb e=>by omega) (fun e=>by omega)).keep0 hkE,(hk.fresh h8 (fun b e=>by omega)).trans hkE (fun _ _ e=>e.elim),?_⟩;rcases hq with ⟨ds,hr,hx,hJ,hl,hd⟩ | hq
 ·have h1:=(hd.keep h8 (fun b _ hb e=>hb.2 e)).mono (D':=Qd Lo B w.heap.size) (fun b _ hb=>hb.1);have h2:=rd_lit h1 hl (by unfold maxLen;omega) hE (.inr (by omega));rw [hsz] at h2;exact QF.good hr hx ⟨_,_,_,_,_,_,_,_,rfl⟩ ⟨.int _,.bool _,.str _,.nil _ _ _ (Nat.zero_le _),.nil _ _ _ (Nat.zero_le _),.nil _ _ _ (Nat.zero_le _),h2,.nil _ _ _ (Nat.zero_le _),trivial⟩ rfl hJ
 ·cases res with
  | error y=>exact hq
  | ok p=>
   obtain⟨ds,r⟩:=p;rcases hq with ⟨_,hn,hr,_,_⟩ | ⟨h,_⟩
   ·have:=hr.len;rw [hn.len] at this;cases this
   ·cases h
theorem pass_on {w w1 w2 w3:World} {Lo B ps:Nat} {tv:Value} {n:Nat} {T:List Tk} {J x:Nat} {res:PR (List Dt)} {us:List Value} (hk1:Keeps (fun b=>b=ps) w w1) (hw:w.heap.size<w1.heap.size) (hk2:Keeps (fun b=>b=ps) w1 w2) (hs:QS w2 Lo B ps tv n T J x) (hc:ps<w.heap.size)
 (hf:QF false w2 (Qd Lo B w1.heap.size) T res us J x) (h8:Keeps (fun b=>b=w.heap.size) w2 w3):QS w3 Lo B ps tv n T J x∧Keeps (fun b=>b=ps) w w3∧QF false w3 (Qd Lo B w.heap.size) T res us J x:=by
 refine qnd_fin (hk1.trans hk2 (fun _ _ h=>h)) hs hc ?_ h8;cases res with
 | error y=>exact hf
 | ok p=>
  obtain⟨ds,r⟩:=p;rcases hf with ⟨h0,h1,h2,h3,h5⟩ | h
  ·exact .inl ⟨h0,h1,h2.mono (fun b _ hb=>⟨by rcases hb with h | h;exact .inl h;exact .inr (by omega),by have:=hs.ps;rcases hb with h | h<;>omega⟩),h3,h5⟩
  ·exact .inr h
theorem qparen_any (K:Nat) (hcmd:QCmdOK K) (w:World) (Lo B ps n i deep:Nat) (tv:Value) (T:List Tk) (h:QS w Lo B ps tv n T i 0) (hi:i≤T.length) (hd:deep+1+K=41) (ho:isOpF [40] (T.drop i)=true) :
 Calls Tryz.prog 163 #[.pointer (some ⟨ps,0,none⟩),.int .i64 (deep:Nat)] w (QNode w Lo B ps tv n T i (2*K+1) false (shutF (commandF K) 13 (needOp [41]) (T.drop i).tail)):=by
 obtain⟨res,hres⟩:∃res,res=shutF (commandF K) 13 (needOp [41]) (T.drop i).tail:=⟨_,rfl⟩;rw [←hres];rw [shut_eq,drop_tail] at hres;have HPS:=Hd h.lt;have HS:=Lib.hid h;have HC:=Hd hcmd;have HD:=Hd hd;have HRES:=Hd hres;have hmT:T.length≤20000:=h.sm.1;have hdw:IntKind.i64.wrap ((deep:Int)+1)=(deep:Int)+1:=IntWalk.i64_in _ (by omega);have hsum:IntKind.i64.wrap ((i:Int)+1)=(i:Int)+1:=IntWalk.i64_in _ (by omega)
 have hc8:=cells_node;have HO:=Hd ho;have hpos:=toks_in (op_pos ho);clear h hcmd hd hres ho;go_enter Tryz.func163,Tryz.ntmps163;go_wp2_with fail;obtain⟨W,hW⟩:∃W,W=w.alloc (.cells #[.int .i64 0,.bool false,.string ⟨#[]⟩,.slice none 0 0,.slice none 0 0,.slice none 0 0,.slice none 0 0,.slice none 0 0] 44):=⟨_,rfl⟩;have hk0:Keeps (fun _=>False) w W:=by rw [hW];exact (Keeps.refl _ _).alloc _
 have HZ:=Hd (show RecAt W w.heap.size [.int .i64 0,.bool false,.string ⟨#[]⟩,.slice none 0 0,.slice none 0 0,.slice none 0 0,.slice none 0 0,.slice none 0 0] by rw [hW];exact new_rec8 w _ _ _ _ _ _ _ _ _);rw [←hW];have HK:=Hd (hk0.mono (T:=fun b=>b=ps) (fun _ _ h=>h.elim));replace HS:=Hd (HS.out.keep0 hk0);clear hk0 hW;have HQ:=Hd (qop_at HS.out [40] true HO.out 0);refine HQ.out.mono ?_;rintro e wq ⟨rfl,dq,rfl⟩
 obtain⟨W1,hw2⟩:∃W1,W1=W.drewN dq:=⟨_,rfl⟩;rw [←hw2];have hkw:Keeps (fun _=>False) W W1:=by rw [hw2];exact (Keeps.refl _ _).drewN _
 replace HS:=Hd (HS.out.keep0 hkw);replace HZ:=Hd (HZ.out.keep hkw (fun h=>h));replace HK:=Hd (HK.out.trans hkw (fun _ _ h=>h.elim));clear hw2 hkw;obtain⟨c0,c1,c2,f1,f2⟩:=HS.out.cells;have hlt:=HS.out.lt;go_wp2_with fail;obtain⟨W2,hw2⟩:∃W2,W2=W1.setCell ⟨ps,1,none⟩ (.int .i64 ((i:Int)+1)):=⟨_,rfl⟩;rw [←hw2];obtain⟨hi1,hi2⟩:=inc_qs HS.out (by omega);rw [←hw2] at hi1 hi2;replace HS:=Hd hi1;replace HZ:=Hd (HZ.out.keep hi2 (fun e=>by have:=HPS.out;omega))
 replace HK:=Hd (HK.out.trans hi2 (fun _ _ h=>h));clear hw2 hi1 hi2;clear c0 c1 c2 f1 f2 hlt HO;refine (qlist_any K HC.out W2 Lo B ps n (i+1) (deep+1) tv T HS.out (by omega) (by have:=HD.out;omega)).mono ?_;rintro e w3 ⟨v,j,bd,rfl,hij,hjb,hs3,hk3,hf3⟩;go_upto_region 4 with fail;obtain⟨NB,hNB⟩:∃NB,NB=w3.heap.size:=⟨_,rfl⟩;obtain⟨W4,hW4⟩:∃W4,W4=w3.alloc (.cells #[.int .i64 v.k,.bool v.nt,.string v.nm,.slice v.a0 v.n0 v.c0,.slice v.a1 v.n1 v.c1,.slice v.a2 v.n2 v.c2,.slice v.a3 v.n3 v.c3,.slice v.a4 v.n4 v.c4] 44):=⟨_,rfl⟩
 rw [←hW4]
 try rw [←hNB]
 have hk4:Keeps (fun _=>False) w3 W4:=by rw [hW4];exact (Keeps.refl _ _).alloc _
 have hkk:=hk3.trans hk4 (fun _ _ h=>h.elim);replace HS:=Hd (hs3.keep0 hk4);have hnb:NB≠ps:=by have:=hs3.lt;omega
 have HN:=Hd (show RecAt W4 NB [.int .i64 v.k,.bool v.nt,.string v.nm,.slice v.a0 v.n0 v.c0,.slice v.a1 v.n1 v.c1,.slice v.a2 v.n2 v.c2,.slice v.a3 v.n3 v.c3,.slice v.a4 v.n4 v.c4] by rw [hW4,hNB];exact new_rec8 _ _ _ _ _ _ _ _ _ _);have hwc:=HZ.out.lt;replace HZ:=Hd (HZ.out.keep hkk (fun e=>by have:=HPS.out;omega));replace HK:=Hd (HK.out.trans hkk (fun _ _ h=>h));have HQF:=Hd hf3;have HTO:=Hd (show ∀ds,RdL w3 (Qd Lo B W2.heap.size) ds v.vals→RdL W4 (fun b=>Qd Lo B w.heap.size b∧b≠w.heap.size) ds v.vals from fun ds hr=>(hr.keep hk4 (fun _ _ _ h=>h)).mono (fun b _ hb=>by have:=hs3.ps;have:=HPS.out;rcases hb with h | h;exact⟨.inl h,by omega⟩;exact⟨.inr (by omega),by omega⟩))
 have HIB:=Hd (show i≤j+1∧j+1≤T.length+(2*K+1) by omega);have hjb2:j+1≤T.length+500:=by have:=HD.out;omega
 clear hs3 hk3 hf3 hk4 hkk hNB hW4 hij hjb hwc;cases hb:isOpF [41] (T.drop j) with
 | true=>
  have HQ2:=Hd (qop_at HS.out [41] true hb 0);obtain⟨xz,hx3⟩:∃xz,xz=bd:=⟨_,rfl⟩;have HX3:=Hd (show xz=if bd=0 then (if isOpF [41] (T.drop j) then 0 else 2) else bd by rw [hb,hx3];by_cases h:bd=0;rw [if_pos h];exact h;rw [if_neg h]);rw [←hx3] at HS;have hsum2:IntKind.i64.wrap ((j:Int)+1)=(j:Int)+1:=IntWalk.i64_in _ (by omega);clear hb hx3;go_wp2_with fail;refine HQ2.out.mono ?_;rintro e wq ⟨rfl,dq,rfl⟩
  obtain⟨w5,hw2⟩:∃w5,w5=W4.drewN dq:=⟨_,rfl⟩;rw [←hw2];have hkw:Keeps (fun _=>False) W4 w5:=by rw [hw2];exact (Keeps.refl _ _).drewN _
  replace HS:=Hd (HS.out.keep0 hkw);replace HZ:=Hd (HZ.out.keep hkw (fun h=>h));replace HK:=Hd (HK.out.trans hkw (fun _ _ h=>h.elim));replace HN:=Hd (HN.out.keep hkw (fun h=>h));have HKX:=Hd (hkw.mono (T:=fun b=>b=ps) (fun _ _ h=>h.elim));clear hw2 hkw;replace HTO:=Hd (show ∀ds,RdL w3 (Qd Lo B W2.heap.size) ds v.vals→RdL w5 (fun b=>Qd Lo B w.heap.size b∧b≠w.heap.size) ds v.vals from fun ds hr=>(HTO.out ds hr).keep HKX.out (fun b _ hb e=>qd_ne (X:=w.heap.size) HS.out.ps HPS.out hb.1 e))
  obtain⟨c0,c1,c2,f1,f2⟩:=HS.out.cells;have hlt:=HS.out.lt;go_upto_region 7 with fail;obtain⟨w6,hw2⟩:∃w6,w6=w5.setCell ⟨ps,1,none⟩ (.int .i64 ((j:Int)+1)):=⟨_,rfl⟩;rw [←hw2];obtain⟨hi1,hi2⟩:=inc_qs HS.out (by omega);rw [←hw2] at hi1 hi2;replace HS:=Hd hi1;replace HZ:=Hd (HZ.out.keep hi2 (fun e=>by have:=HPS.out;omega));replace HK:=Hd (HK.out.trans hi2 (fun _ _ h=>h));replace HN:=Hd (HN.out.keep hi2 hnb)
  have HKI:=Hd hi2;clear hw2 hi1 hi2;have HTO6:=Hd (show ∀ds,RdL w3 (Qd Lo B W2.heap.size) ds v.vals→RdL w6 (fun b=>Qd Lo B w.heap.size b∧b≠w.heap.size) ds v.vals from fun ds hr=>(HTO.out ds hr).keep HKI.out (fun b _ hb e=>qd_ne (X:=w.heap.size) HS.out.ps HPS.out hb.1 e));have hcl:=close_any (P:=isOpF [41]) opP1 opP2 HQF.out HX3.out;have HFIN:=Hd (show (∃ds,res=.ok (ndR 13 false [] [] [] [] ds [],T.drop (j+1))∧xz=0∧j+1≤T.length∧ds.length=1*8∧RdL w6 (fun b=>Qd Lo B w.heap.size b∧b≠w.heap.size) ds v.vals)∨QF false w6 (fun _=>False) T res [] (j+1) xz from by
   rcases hcl with ⟨ds,hx,hp,h0,hn,hd,hj,hr⟩ | ⟨hx,hf⟩
   ·refine .inl ⟨ds,?_,h0,?_,by rw [hn.len],HTO6.out ds hd⟩
    ·rw [HRES.out,hr,shutG_yes (needOp_yes hp),drop_tail]
    ·have:=toks_in (op_pos hp);omega
   ·exact .inr (QF.err hx (by rw [HRES.out,hf _ (fun e=>rfl) (fun ds r h=>shutG_no (needOp_no h))])))
  clear hcl;clear c0 c1 c2 f1 f2 hlt;obtain⟨⟨x0,x1,x2,x3,x4,x5,x6,x7⟩,⟨xf0,xf1,xf2,xf3,xf4,xf5,xf6,xf7⟩⟩:=HN.out.eight;have hNl:=HN.out.lt;obtain⟨⟨z0,z1,z2,z3,z4,z5,z6,z7⟩,⟨zf0,zf1,zf2,zf3,zf4,zf5,zf6,zf7⟩⟩:=HZ.out.eight;have hzl:=HZ.out.lt;go_wp2_with fail;refine bodyPost_ret (v:=.agg #[.int .i64 13,.bool false,.string ⟨#[]⟩,.slice none 0 0,.slice none 0 0,.slice none 0 0,.slice (some ⟨w6.heap.size,0,none⟩) 1 1,.slice none 0 0]) (by simp [results,Tryz.results163,go_sem,z0,z1,z2,z3,z4,z5,z6,z7,hzl]) rfl ?_
  exact⟨⟨13,false,⟨#[]⟩,none,0,0,none,0,0,none,0,0,some ⟨w6.heap.size,0,none⟩,1,1,none,0,0⟩,j+1,xz,rfl,HIB.out.1,HIB.out.2,pack_kids (kind:=13) (m:=1) (vv:=v.vals) HK.out HS.out HPS.out HZ.out.lt (set8_keeps w6 w.heap.size (.int .i64 13) (.bool false) (.string ⟨#[]⟩) (.slice none 0 0) (.slice none 0 0) (.slice none 0 0) (.slice (some ⟨w6.heap.size,0,none⟩) 1 1) (.slice none 0 0)) (by simp [World.setCell]) rfl (by decide) HFIN.out⟩
 | false=>
  have HQ2:=Hd (qop_at HS.out [41] false hb 0);obtain⟨xz,hx3⟩:∃xz,xz=(if bd=0 then 2 else bd):=⟨_,rfl⟩;have HX3:=Hd (show xz=if bd=0 then (if isOpF [41] (T.drop j) then 0 else 2) else bd by rw [hb,hx3];by_cases h:bd=0;rw [if_pos h,if_pos h];rfl;rw [if_neg h,if_neg h]);have HX4:=Hd hx3;have hsum2:IntKind.i64.wrap ((j:Int)+1)=(j:Int)+1:=IntWalk.i64_in _ (by omega);clear hb hx3;go_wp2_with fail;refine HQ2.out.mono ?_
  rintro e wq ⟨rfl,dq,rfl⟩;obtain⟨wa,hw2⟩:∃wa,wa=W4.drewN dq:=⟨_,rfl⟩;rw [←hw2];have hkw:Keeps (fun _=>False) W4 wa:=by rw [hw2];exact (Keeps.refl _ _).drewN _
  replace HS:=Hd (HS.out.keep0 hkw);replace HZ:=Hd (HZ.out.keep hkw (fun h=>h));replace HK:=Hd (HK.out.trans hkw (fun _ _ h=>h.elim));replace HN:=Hd (HN.out.keep hkw (fun h=>h));have HKA:=Hd (hkw.mono (T:=fun b=>b=ps) (fun _ _ h=>h.elim));clear hw2 hkw;go_wp2_with fail;refine (qfail_any wa Lo B ps n j bd 2 tv T HS.out).mono ?_;rintro e w5 ⟨rfl,hs5,hk5⟩;rw [←HX4.out] at hs5;replace HS:=Hd hs5;replace HZ:=Hd (HZ.out.keep hk5 (fun e=>by have:=HPS.out;omega))
  replace HK:=Hd (HK.out.trans hk5 (fun _ _ h=>h));replace HN:=Hd (HN.out.keep hk5 hnb);have HKX:=Hd (HKA.out.trans hk5 (fun _ _ h=>h));clear hs5 hk5 HX4;replace HTO:=Hd (show ∀ds,RdL w3 (Qd Lo B W2.heap.size) ds v.vals→RdL w5 (fun b=>Qd Lo B w.heap.size b∧b≠w.heap.size) ds v.vals from fun ds hr=>(HTO.out ds hr).keep HKX.out (fun b _ hb e=>qd_ne (X:=w.heap.size) HS.out.ps HPS.out hb.1 e));obtain⟨c0,c1,c2,f1,f2⟩:=HS.out.cells
  have hlt:=HS.out.lt;go_upto_region 7 with fail;obtain⟨w6,hw2⟩:∃w6,w6=w5.setCell ⟨ps,1,none⟩ (.int .i64 ((j:Int)+1)):=⟨_,rfl⟩;rw [←hw2];obtain⟨hi1,hi2⟩:=inc_qs HS.out (by omega);rw [←hw2] at hi1 hi2;replace HS:=Hd hi1;replace HZ:=Hd (HZ.out.keep hi2 (fun e=>by have:=HPS.out;omega));replace HK:=Hd (HK.out.trans hi2 (fun _ _ h=>h));replace HN:=Hd (HN.out.keep hi2 hnb);have HKI:=Hd hi2;clear hw2 hi1 hi2
  have HTO6:=Hd (show ∀ds,RdL w3 (Qd Lo B W2.heap.size) ds v.vals→RdL w6 (fun b=>Qd Lo B w.heap.size b∧b≠w.heap.size) ds v.vals from fun ds hr=>(HTO.out ds hr).keep HKI.out (fun b _ hb e=>qd_ne (X:=w.heap.size) HS.out.ps HPS.out hb.1 e));have hcl:=close_any (P:=isOpF [41]) opP1 opP2 HQF.out HX3.out;have HFIN:=Hd (show (∃ds,res=.ok (ndR 13 false [] [] [] [] ds [],T.drop (j+1))∧xz=0∧j+1≤T.length∧ds.length=1*8∧RdL w6 (fun b=>Qd Lo B w.heap.size b∧b≠w.heap.size) ds v.vals)∨QF false w6 (fun _=>False) T res [] (j+1) xz from by
   rcases hcl with ⟨ds,hx,hp,h0,hn,hd,hj,hr⟩ | ⟨hx,hf⟩
   ·refine .inl ⟨ds,?_,h0,?_,by rw [hn.len],HTO6.out ds hd⟩
    ·rw [HRES.out,hr,shutG_yes (needOp_yes hp),drop_tail]
    ·have:=toks_in (op_pos hp);omega
   ·exact .inr (QF.err hx (by rw [HRES.out,hf _ (fun e=>rfl) (fun ds r h=>shutG_no (needOp_no h))])))
  clear hcl;clear c0 c1 c2 f1 f2 hlt;obtain⟨⟨x0,x1,x2,x3,x4,x5,x6,x7⟩,⟨xf0,xf1,xf2,xf3,xf4,xf5,xf6,xf7⟩⟩:=HN.out.eight;have hNl:=HN.out.lt;obtain⟨⟨z0,z1,z2,z3,z4,z5,z6,z7⟩,⟨zf0,zf1,zf2,zf3,zf4,zf5,zf6,zf7⟩⟩:=HZ.out.eight;have hzl:=HZ.out.lt;go_wp2_with fail;refine bodyPost_ret (v:=.agg #[.int .i64 13,.bool false,.string ⟨#[]⟩,.slice none 0 0,.slice none 0 0,.slice none 0 0,.slice (some ⟨w6.heap.size,0,none⟩) 1 1,.slice none 0 0]) (by simp [results,Tryz.results163,go_sem,z0,z1,z2,z3,z4,z5,z6,z7,hzl]) rfl ?_
  exact⟨⟨13,false,⟨#[]⟩,none,0,0,none,0,0,none,0,0,some ⟨w6.heap.size,0,none⟩,1,1,none,0,0⟩,j+1,xz,rfl,HIB.out.1,HIB.out.2,pack_kids (kind:=13) (m:=1) (vv:=v.vals) HK.out HS.out HPS.out HZ.out.lt (set8_keeps w6 w.heap.size (.int .i64 13) (.bool false) (.string ⟨#[]⟩) (.slice none 0 0) (.slice none 0 0) (.slice none 0 0) (.slice (some ⟨w6.heap.size,0,none⟩) 1 1) (.slice none 0 0)) (by simp [World.setCell]) rfl (by decide) HFIN.out⟩
theorem qbrace_any (K:Nat) (hcmd:QCmdOK K) (w:World) (Lo B ps n i deep:Nat) (tv:Value) (T:List Tk) (h:QS w Lo B ps tv n T i 0) (hi:i≤T.length) (hd:deep+1+K=41) (ho:isWF [123] (T.drop i)=true) :
 Calls Tryz.prog 163 #[.pointer (some ⟨ps,0,none⟩),.int .i64 (deep:Nat)] w (QNode w Lo B ps tv n T i (2*K+1) false (shutF (commandF K) 12 (needW [125]) (T.drop i).tail)):=by
 obtain⟨res,hres⟩:∃res,res=shutF (commandF K) 12 (needW [125]) (T.drop i).tail:=⟨_,rfl⟩;rw [←hres];rw [shut_eq,drop_tail] at hres;have HPS:=Hd h.lt;have HS:=Lib.hid h;have HC:=Hd hcmd;have HD:=Hd hd;have HRES:=Hd hres;have hmT:T.length≤20000:=h.sm.1;have hdw:IntKind.i64.wrap ((deep:Int)+1)=(deep:Int)+1:=IntWalk.i64_in _ (by omega);have hsum:IntKind.i64.wrap ((i:Int)+1)=(i:Int)+1:=IntWalk.i64_in _ (by omega)
 have hc8:=cells_node;have HO:=Hd (beq_iff_eq.1 ho);have HOP:=Hd (word_op ho (by decide));have hpos:=toks_in (isW_pos (by decide) ho);clear h hcmd hd hres ho;go_enter Tryz.func163,Tryz.ntmps163;go_wp2_with fail;obtain⟨W,hW⟩:∃W,W=w.alloc (.cells #[.int .i64 0,.bool false,.string ⟨#[]⟩,.slice none 0 0,.slice none 0 0,.slice none 0 0,.slice none 0 0,.slice none 0 0] 44):=⟨_,rfl⟩;have hk0:Keeps (fun _=>False) w W:=by rw [hW];exact (Keeps.refl _ _).alloc _
 have HZ:=Hd (show RecAt W w.heap.size [.int .i64 0,.bool false,.string ⟨#[]⟩,.slice none 0 0,.slice none 0 0,.slice none 0 0,.slice none 0 0,.slice none 0 0] by rw [hW];exact new_rec8 w _ _ _ _ _ _ _ _ _);rw [←hW];have HK:=Hd (hk0.mono (T:=fun b=>b=ps) (fun _ _ h=>h.elim));replace HS:=Hd (HS.out.keep0 hk0);clear hk0 hW;have HQ:=Hd (qop_at HS.out [40] false HOP.out 0);refine HQ.out.mono ?_;rintro e wq ⟨rfl,dq,rfl⟩
 obtain⟨Wa,hw2⟩:∃Wa,Wa=W.drewN dq:=⟨_,rfl⟩;rw [←hw2];have hkw:Keeps (fun _=>False) W Wa:=by rw [hw2];exact (Keeps.refl _ _).drewN _
 replace HS:=Hd (HS.out.keep0 hkw);replace HZ:=Hd (HZ.out.keep hkw (fun h=>h));replace HK:=Hd (HK.out.trans hkw (fun _ _ h=>h.elim));clear hw2 hkw;have HQ2:=Hd (qplain_at HS.out [123] HO.out 0);go_wp2_with fail;refine HQ2.out.mono ?_;rintro e wq ⟨rfl,dq,rfl⟩;obtain⟨W1,hw2⟩:∃W1,W1=Wa.drewN dq:=⟨_,rfl⟩;rw [←hw2];have hkw:Keeps (fun _=>False) Wa W1:=by rw [hw2];exact (Keeps.refl _ _).drewN _
 replace HS:=Hd (HS.out.keep0 hkw);replace HZ:=Hd (HZ.out.keep hkw (fun h=>h));replace HK:=Hd (HK.out.trans hkw (fun _ _ h=>h.elim));clear hw2 hkw;obtain⟨c0,c1,c2,f1,f2⟩:=HS.out.cells;have hlt:=HS.out.lt;go_wp2_with fail;obtain⟨W2,hw2⟩:∃W2,W2=W1.setCell ⟨ps,1,none⟩ (.int .i64 ((i:Int)+1)):=⟨_,rfl⟩;rw [←hw2];obtain⟨hi1,hi2⟩:=inc_qs HS.out (by omega);rw [←hw2] at hi1 hi2;replace HS:=Hd hi1;replace HZ:=Hd (HZ.out.keep hi2 (fun e=>by have:=HPS.out;omega))
 replace HK:=Hd (HK.out.trans hi2 (fun _ _ h=>h));clear hw2 hi1 hi2;clear c0 c1 c2 f1 f2 hlt HO HOP;refine (qlist_any K HC.out W2 Lo B ps n (i+1) (deep+1) tv T HS.out (by omega) (by have:=HD.out;omega)).mono ?_;rintro e w3 ⟨v,j,bd,rfl,hij,hjb,hs3,hk3,hf3⟩;go_upto_region 13 with fail;obtain⟨NB,hNB⟩:∃NB,NB=w3.heap.size:=⟨_,rfl⟩;obtain⟨W4,hW4⟩:∃W4,W4=w3.alloc (.cells #[.int .i64 v.k,.bool v.nt,.string v.nm,.slice v.a0 v.n0 v.c0,.slice v.a1 v.n1 v.c1,.slice v.a2 v.n2 v.c2,.slice v.a3 v.n3 v.c3,.slice v.a4 v.n4 v.c4] 44):=⟨_,rfl⟩
 rw [←hW4]
 try rw [←hNB]
 have hk4:Keeps (fun _=>False) w3 W4:=by rw [hW4];exact (Keeps.refl _ _).alloc _
 have hkk:=hk3.trans hk4 (fun _ _ h=>h.elim);replace HS:=Hd (hs3.keep0 hk4);have hnb:NB≠ps:=by have:=hs3.lt;omega
 have HN:=Hd (show RecAt W4 NB [.int .i64 v.k,.bool v.nt,.string v.nm,.slice v.a0 v.n0 v.c0,.slice v.a1 v.n1 v.c1,.slice v.a2 v.n2 v.c2,.slice v.a3 v.n3 v.c3,.slice v.a4 v.n4 v.c4] by rw [hW4,hNB];exact new_rec8 _ _ _ _ _ _ _ _ _ _);have hwc:=HZ.out.lt;replace HZ:=Hd (HZ.out.keep hkk (fun e=>by have:=HPS.out;omega));replace HK:=Hd (HK.out.trans hkk (fun _ _ h=>h));have HQF:=Hd hf3;have HTO:=Hd (show ∀ds,RdL w3 (Qd Lo B W2.heap.size) ds v.vals→RdL W4 (fun b=>Qd Lo B w.heap.size b∧b≠w.heap.size) ds v.vals from fun ds hr=>(hr.keep hk4 (fun _ _ _ h=>h)).mono (fun b _ hb=>by have:=hs3.ps;have:=HPS.out;rcases hb with h | h;exact⟨.inl h,by omega⟩;exact⟨.inr (by omega),by omega⟩))
 have HIB:=Hd (show i≤j+1∧j+1≤T.length+(2*K+1) by omega);have hjb2:j+1≤T.length+500:=by have:=HD.out;omega
 clear hs3 hk3 hf3 hk4 hkk hNB hW4 hij hjb hwc;go_wp2_with fail;refine (qwant_any W4 Lo B ps n j bd tv T [125] HS.out (by omega)).mono ?_;rintro e w6 ⟨rfl,hs6,hk6⟩;obtain⟨xz,hx3⟩:∃xz,xz=if bd=0 then (if isWF [125] (T.drop j) then 0 else 2) else bd:=⟨_,rfl⟩;rw [←hx3] at hs6;replace HS:=Hd hs6;replace HZ:=Hd (HZ.out.keep hk6 (fun e=>by have:=HPS.out;omega));replace HK:=Hd (HK.out.trans hk6 (fun _ _ h=>h))
 replace HN:=Hd (HN.out.keep hk6 hnb);have HTO6:=Hd (show ∀ds,RdL w3 (Qd Lo B W2.heap.size) ds v.vals→RdL w6 (fun b=>Qd Lo B w.heap.size b∧b≠w.heap.size) ds v.vals from fun ds hr=>(HTO.out ds hr).keep hk6 (fun b _ hb e=>qd_ne (X:=w.heap.size) HS.out.ps HPS.out hb.1 e));have hcl:=close_any (P:=isWF [125]) (wfP1 (by decide)) (wfP2 (by decide)) HQF.out hx3;have HFIN:=Hd (show (∃ds,res=.ok (ndR 12 false [] [] [] [] ds [],T.drop (j+1))∧xz=0∧j+1≤T.length∧ds.length=1*8∧RdL w6 (fun b=>Qd Lo B w.heap.size b∧b≠w.heap.size) ds v.vals)∨QF false w6 (fun _=>False) T res [] (j+1) xz from by
  rcases hcl with ⟨ds,hx,hp,h0,hn,hd,hj,hr⟩ | ⟨hx,hf⟩
  ·refine .inl ⟨ds,?_,h0,?_,by rw [hn.len],HTO6.out ds hd⟩
   ·rw [HRES.out,hr,shutG_yes (needW_yes hp),drop_tail]
   ·have:=toks_in (isW_pos (by decide) hp);omega
  ·exact .inr (QF.err hx (by rw [HRES.out,hf _ (fun e=>rfl) (fun ds r h=>shutG_no (needW_no h))])))
 clear hcl;clear hs6 hk6 hx3;obtain⟨⟨x0,x1,x2,x3,x4,x5,x6,x7⟩,⟨xf0,xf1,xf2,xf3,xf4,xf5,xf6,xf7⟩⟩:=HN.out.eight;have hNl:=HN.out.lt;obtain⟨⟨z0,z1,z2,z3,z4,z5,z6,z7⟩,⟨zf0,zf1,zf2,zf3,zf4,zf5,zf6,zf7⟩⟩:=HZ.out.eight;have hzl:=HZ.out.lt;go_wp2_with fail;refine bodyPost_ret (v:=.agg #[.int .i64 12,.bool false,.string ⟨#[]⟩,.slice none 0 0,.slice none 0 0,.slice none 0 0,.slice (some ⟨w6.heap.size,0,none⟩) 1 1,.slice none 0 0]) (by simp [results,Tryz.results163,go_sem,z0,z1,z2,z3,z4,z5,z6,z7,hzl]) rfl ?_
 exact⟨⟨12,false,⟨#[]⟩,none,0,0,none,0,0,none,0,0,some ⟨w6.heap.size,0,none⟩,1,1,none,0,0⟩,j+1,xz,rfl,HIB.out.1,HIB.out.2,pack_kids (kind:=12) (m:=1) (vv:=v.vals) HK.out HS.out HPS.out HZ.out.lt (set8_keeps w6 w.heap.size (.int .i64 12) (.bool false) (.string ⟨#[]⟩) (.slice none 0 0) (.slice none 0 0) (.slice none 0 0) (.slice (some ⟨w6.heap.size,0,none⟩) 1 1) (.slice none 0 0)) (by simp [World.setCell]) rfl (by decide) HFIN.out⟩
end Go.Proofs.YtiihpbccabeoeaaGreatDoor
