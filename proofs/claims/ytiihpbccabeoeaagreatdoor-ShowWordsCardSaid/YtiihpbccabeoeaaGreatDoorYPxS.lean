/- The walk: a part. -/
import Derived.Test.YtiihpbccabeoeaaGreatDoorYPxR
namespace Go.Proofs.YtiihpbccabeoeaaGreatDoor
open Go.RowKit
set_option linter.unusedVariables false
set_option maxRecDepth 100000
set_option maxHeartbeats 16000000
theorem wfP1 {s:Bs} (hs:closerL.contains s=true) (ts:List Tk) (h:isWF s ts=true):closesF ts=true:=by
 unfold isWF at h;unfold closesF;rw [beq_iff_eq.1 h,hs,Bool.or_true]
theorem wfP2 {s:Bs} (hs:s≠[]) (ts:List Tk) (h:isOpF [40] ts=true):isWF s ts=false:=by
 unfold isWF;rw [op_plain h,beq_eq_false_iff_ne];exact fun e=>hs e.symm
theorem opP1 (ts:List Tk) (h:isOpF [41] ts=true):closesF ts=true:=by
 unfold closesF;rw [h,Bool.or_true,Bool.true_or,Bool.true_or]
theorem opP2 (ts:List Tk) (h:isOpF [40] ts=true):isOpF [41] ts=false:=op40_ne h [41] (by decide)
theorem close_any {P:List Tk→Bool} (hP1:∀ts,P ts=true→closesF ts=true) (hP2:∀ts,isOpF [40] ts=true→P ts=false) {w:World} {D:Nat→Prop} {T:List Tk} {res:PR (List Dt)} {us:List Value} {j x x3:Nat} (h:QF true w D T res us j x) (h3:x3=if x=0 then (if P (T.drop j) then 0 else 2) else x) :
 (∃ds,x=0∧P (T.drop j)=true∧x3=0∧NdD ds∧RdL w D ds us∧j≤T.length∧res=.ok (ds,T.drop j))∨
 (x3≠0∧∀{β:Type} (f:PR (List Dt)→PR β),(∀e,f (.error e)=.error e)→(∀ds r,P r=false→f (.ok (ds,r))=.error 2)→f res=.error x3):=by
 have key:∀{β:Type} (f:PR (List Dt)→PR β),(∀ds r,P r=false→f (.ok (ds,r))=.error 2)→true=true→∀ds r,closesF r=false→f (.ok (ds,r))=.error 2:=fun f hc _ ds r hr=>hc ds r (by
  cases hp:P r with
  | false=>rfl
  | true=>rw [hP1 r hp] at hr;cases hr)
 by_cases hx:x=0
 ·subst hx;rw [if_pos rfl] at h3;cases hp:P (T.drop j) with
  | true=>
   rw [hp,if_pos rfl] at h3;cases res with
   | error y=>
    rcases h with ⟨h1,h2⟩ | ⟨_,_,ho⟩
    ·exact absurd h1.symm h2
    ·rw [hP2 _ ho] at hp;cases hp
   | ok p=>
    obtain⟨ds,r⟩:=p;rcases h with ⟨_,hn,hr,hd,hj⟩ | ⟨_,hr,h9 | ⟨_,ho⟩⟩
    ·exact .inl ⟨ds,rfl,rfl,h3,hn,hr,hj,by rw [hd]⟩
    ·cases h9
    ·rw [hP2 _ ho] at hp;cases hp
  | false=>
   rw [hp,if_neg (by simp)] at h3;refine .inr ⟨by omega,fun f he hc=>?_⟩;rcases h.split f he (key f hc) with ⟨ds,r,hr,_,_,_,hj,_⟩ | ⟨h9,_⟩ | ⟨_,_,hr⟩
   ·rw [hr,h3,hc ds r (by rw [←hj];exact hp)]
   ·exact absurd rfl h9
   ·rw [hr,h3]
 ·rw [if_neg hx] at h3;subst h3;refine .inr ⟨hx,fun f he hc=>?_⟩;rcases h.split f he (key f hc) with ⟨ds,r,hr,h0,_⟩ | ⟨_,hr⟩ | ⟨h0,_⟩
  ·exact absurd h0 hx
  ·exact hr
  ·exact absurd h0 hx
theorem close_fin {P:List Tk→Bool} (hP1:∀ts,P ts=true→closesF ts=true) (hP2:∀ts,isOpF [40] ts=true→P ts=false) (hP3:∀ts,P ts=true→1≤ts.length) {w w2:World} {D D2:Nat→Prop} {T:List Tk} {resL res:PR (List Dt)} {us us2:List Value} {j x x3:Nat} (h:QF true w D T resL us j x) (h3:x3=if x=0 then (if P (T.drop j) then 0 else 2) else x)
 (f:PR (List Dt)→PR (List Dt)) (g:List Dt→List Dt) (hres:res=f resL) (he:∀e,f (.error e)=.error e) (hc:∀ds r,P r=false→f (.ok (ds,r))=.error 2) (hg:∀ds r,P r=true→f (.ok (ds,r))=.ok (g ds,r.tail)) (hr:∀ds,NdD ds→RdL w D ds us→NdD (g ds)∧RdL w2 D2 (g ds) us2):QF false w2 D2 T res us2 (j+1) x3:=by
 rcases close_any hP1 hP2 h h3 with ⟨ds,hx,hp,h0,hn,hd,hj,hres2⟩ | ⟨hx,hf⟩
 ·have:=toks_in (hP3 _ hp);refine QF.good (ds:=g ds) (r:=T.drop (j+1)) ?_ h0 (hr ds hn hd).1 (hr ds hn hd).2 rfl (by omega);rw [hres,hres2,hg ds _ hp,drop_tail]
 ·exact QF.err hx (by rw [hres,hf f he hc])
theorem needW_no {s:Bs} {r:List Tk} (h:isWF s r=false):needW s r=.error 2:=by unfold needW;rw [h];rfl
theorem needW_yes {s:Bs} {r:List Tk} (h:isWF s r=true):needW s r=.ok ((),r.tail):=by unfold needW;rw [h];rfl
theorem needOp_no {s:Bs} {r:List Tk} (h:isOpF s r=false):needOp s r=.error 2:=by unfold needOp;rw [h];rfl
theorem needOp_yes {s:Bs} {r:List Tk} (h:isOpF s r=true):needOp s r=.ok ((),r.tail):=by unfold needOp;rw [h];rfl
def bodyG (p:PR (List Dt)):PR (List Dt):=match p with
 | .error e=>.error e
 | .ok (d,r2)=>match needW [100,111,110,101] r2 with
  | .error e=>.error e
  | .ok (_,r3)=>.ok (d,r3)
theorem body_eq (K:Nat) (ts:List Tk):bodyF (commandF K) ts=if isWF [100,111] ts then bodyG (listF (commandF K) ts.tail) else .error 2:=by
 unfold bodyF needW;cases isWF [100,111] ts with
 | false=>rfl
 | true=>
  rw [if_pos rfl,if_pos rfl];dsimp only;unfold bodyG;cases listF (commandF K) ts.tail with
  | error e=>rfl
  | ok p=>rfl
theorem qlist_bad (w:World) (Lo B ps n i x deep:Nat) (tv:Value) (T:List Tk) (h:QS w Lo B ps tv n T i x) (hx:x≠0) :
 Calls Tryz.prog 63 #[.pointer (some ⟨ps,0,none⟩),.int .i64 (deep:Nat)] w fun e w'=>∃j,e=.returned (.agg #[.int .i64 5,.bool false,.string ⟨#[]⟩,.slice none 0 0,.slice none 0 0,.slice none 0 0,.slice none 0 0,.slice none 0 0])∧i≤j∧(i≤T.length→j≤T.length)∧(T.length≤i→j=i)∧QS w' Lo B ps tv n T j x∧Keeps (fun b=>b=ps) w w':=by
 have HPS:=Hd h.lt;have HS:=Lib.hid h;have HXN:=Hd hx;clear h hx;go_enter Tryz.func63,Tryz.ntmps63;go_wp2_with fail;obtain⟨W,hW⟩:∃W,W=w.alloc (.cells #[.int .i64 0,.bool false,.string ⟨#[]⟩,.slice none 0 0,.slice none 0 0,.slice none 0 0,.slice none 0 0,.slice none 0 0] 44):=⟨_,rfl⟩;have hk0:Keeps (fun _=>False) w W:=by rw [hW];exact (Keeps.refl _ _).alloc _
 have HZ:=Hd (show RecAt W w.heap.size [.int .i64 0,.bool false,.string ⟨#[]⟩,.slice none 0 0,.slice none 0 0,.slice none 0 0,.slice none 0 0,.slice none 0 0] by rw [hW];exact new_rec8 w _ _ _ _ _ _ _ _ _);rw [←hW];have HK0:=Hd hk0;replace HS:=Hd (HS.out.keep0 hk0);clear hk0 hW;refine (qlines_any W Lo B ps n i x tv T HS.out).mono ?_;rintro e w1 ⟨rfl,j0,hj1,hj2,hj3,hj4,hs4,hk4⟩;have HK1:=Hd ((HK0.out.mono (fun _ _ h=>h.elim)).trans hk4 (fun _ _ h=>h))
 have HS1:=Hd hs4;replace HZ:=Hd (HZ.out.keep hk4 (fun e=>by have:=HPS.out;omega));have t:((x:Int)==0)=false:=by have:=HXN.out;rw [beq_eq_false_iff_ne];omega
 clear hs4 hk4 hj4 HS HK0;obtain⟨c0,c1,c2,f1,f2⟩:=HS1.out.cells;have hlt:=HS1.out.lt;go_wp2_with fail;go_loopg [5] 0 (fun g l' wr=>g=0∧l'=.slice none 0 0∧wr=w1)
 case atStart=>exact⟨rfl,rfl,rfl⟩
 case round=>
  obtain⟨_,rfl,rfl⟩:=hrel;obtain⟨⟨z0,z1,z2,z3,z4,z5,z6,z7⟩,⟨zf0,zf1,zf2,zf3,zf4,zf5,zf6,zf7⟩⟩:=HZ.out.eight;have hzl:=HZ.out.lt;go_wp2_with fail;refine bodyPost_ret (v:=.agg #[.int .i64 5,.bool false,.string ⟨#[]⟩,.slice none 0 0,.slice none 0 0,.slice none 0 0,.slice none 0 0,.slice none 0 0]) (by simp [results,Tryz.results63,go_sem,z0,z1,z2,z3,z4,z5,z6,z7]) rfl ?_;have h4:=(set8_keeps wr w.heap.size (.int .i64 5) (.bool false) (.string ⟨#[]⟩) (.slice none 0 0) (.slice none 0 0) (.slice none 0 0) (.slice none 0 0) (.slice none 0 0))
  have hB:=HS1.out.ps;exact⟨j0,rfl,hj1,hj2,hj3,HS1.out.keep h4 (fun b hb e=>by have:=HPS.out;omega) (fun e=>by have:=HPS.out;omega),HK1.out.fresh h4 (fun b e=>by omega)⟩
theorem qbody_bad (w:World) (Lo B ps n i x deep:Nat) (tv:Value) (T:List Tk) (h:QS w Lo B ps tv n T i x) (hx:x≠0) (hi:i+1≤T.length+1000) :
 Calls Tryz.prog 184 #[.pointer (some ⟨ps,0,none⟩),.int .i64 (deep:Nat)] w fun e w'=>e=.returned (.agg #[.int .i64 0,.bool false,.string ⟨#[]⟩,.slice none 0 0,.slice none 0 0,.slice none 0 0,.slice none 0 0,.slice none 0 0])∧QS w' Lo B ps tv n T (i+1) x∧Keeps (fun b=>b=ps) w w':=by
 have HPS:=Hd h.lt;have HS:=Lib.hid h;have HXN:=Hd hx;clear h hx;go_enter Tryz.func184,Tryz.ntmps184;go_wp2_with fail;obtain⟨W,hW⟩:∃W,W=w.alloc (.cells #[.int .i64 0,.bool false,.string ⟨#[]⟩,.slice none 0 0,.slice none 0 0,.slice none 0 0,.slice none 0 0,.slice none 0 0] 44):=⟨_,rfl⟩;have hk0:Keeps (fun _=>False) w W:=by rw [hW];exact (Keeps.refl _ _).alloc _
 have HZ:=Hd (show RecAt W w.heap.size [.int .i64 0,.bool false,.string ⟨#[]⟩,.slice none 0 0,.slice none 0 0,.slice none 0 0,.slice none 0 0,.slice none 0 0] by rw [hW];exact new_rec8 w _ _ _ _ _ _ _ _ _);rw [←hW];have HK0:=Hd hk0;replace HS:=Hd (HS.out.keep0 hk0);clear hk0 hW;refine (qwant_any W Lo B ps n i x tv T [100,111] HS.out hi).mono ?_;rintro e w1 ⟨rfl,hs1,hk1⟩;rw [if_neg HXN.out] at hs1;have HK1:=Hd ((HK0.out.mono (fun _ _ h=>h.elim)).trans hk1 (fun _ _ h=>h))
 have HS1:=Hd hs1;replace HZ:=Hd (HZ.out.keep hk1 (fun e=>by have:=HPS.out;omega));have t:((x:Int) != 0)=true:=by have:=HXN.out;rw [bne_iff_ne];omega
 clear hs1 hk1 HS HK0;obtain⟨c0,c1,c2,f1,f2⟩:=HS1.out.cells;have hlt:=HS1.out.lt;obtain⟨⟨z0,z1,z2,z3,z4,z5,z6,z7⟩,⟨zf0,zf1,zf2,zf3,zf4,zf5,zf6,zf7⟩⟩:=HZ.out.eight;have hzl:=HZ.out.lt;go_wp2_with fail;refine bodyPost_ret (v:=.agg #[.int .i64 0,.bool false,.string ⟨#[]⟩,.slice none 0 0,.slice none 0 0,.slice none 0 0,.slice none 0 0,.slice none 0 0]) (by simp [results,Tryz.results184,go_sem,z0,z1,z2,z3,z4,z5,z6,z7]) rfl ?_
 have h4:=(set8_keeps w1 w.heap.size (.int .i64 0) (.bool false) (.string ⟨#[]⟩) (.slice none 0 0) (.slice none 0 0) (.slice none 0 0) (.slice none 0 0) (.slice none 0 0));have hB:=HS1.out.ps;exact⟨rfl,HS1.out.keep h4 (fun b hb e=>by have:=HPS.out;omega) (fun e=>by have:=HPS.out;omega),HK1.out.fresh h4 (fun b e=>by omega)⟩
theorem qbody_any (K:Nat) (hcmd:QCmdOK K) (w:World) (Lo B ps n i deep:Nat) (tv:Value) (T:List Tk) (h:QS w Lo B ps tv n T i 0) (hi:i≤T.length) (hd:deep+1+K=41) :
 Calls Tryz.prog 184 #[.pointer (some ⟨ps,0,none⟩),.int .i64 (deep:Nat)] w (QNode w Lo B ps tv n T i (2*K+1) false (bodyF (commandF K) (T.drop i))):=by
 obtain⟨res,hres⟩:∃res,res=bodyF (commandF K) (T.drop i):=⟨_,rfl⟩;rw [←hres];rw [body_eq,drop_tail] at hres;have HPS:=Hd h.lt;have HS:=Lib.hid h;have HC:=Hd hcmd;have HRES:=Hd hres;have HD:=Hd hd;have hdw:IntKind.i64.wrap ((deep:Int)+1)=(deep:Int)+1:=IntWalk.i64_in _ (by omega);have hc8:=cells_node;clear h hcmd hd hres;go_enter Tryz.func184,Tryz.ntmps184;go_wp2_with fail;obtain⟨W,hW⟩:∃W,W=w.alloc (.cells #[.int .i64 0,.bool false,.string ⟨#[]⟩,.slice none 0 0,.slice none 0 0,.slice none 0 0,.slice none 0 0,.slice none 0 0] 44):=⟨_,rfl⟩
 have hk0:Keeps (fun _=>False) w W:=by rw [hW];exact (Keeps.refl _ _).alloc _
 have HZ:=Hd (show RecAt W w.heap.size [.int .i64 0,.bool false,.string ⟨#[]⟩,.slice none 0 0,.slice none 0 0,.slice none 0 0,.slice none 0 0,.slice none 0 0] by rw [hW];exact new_rec8 w _ _ _ _ _ _ _ _ _);rw [←hW];have HK0:=Hd hk0;replace HS:=Hd (HS.out.keep0 hk0);clear hk0 hW;refine (qwant_any W Lo B ps n i 0 tv T [100,111] HS.out (by omega)).mono ?_;rintro e w1 ⟨rfl,hs1,hk1⟩;rw [if_pos rfl] at hs1
 have HK1:=Hd ((HK0.out.mono (fun _ _ h=>h.elim)).trans hk1 (fun _ _ h=>h));replace HZ:=Hd (HZ.out.keep hk1 (fun e=>by have:=HPS.out;omega));have hres:=HRES.out;cases ho:isWF [100,111] (T.drop i) with
 | false=>
  rw [ho,if_neg (by simp)] at hs1 hres;have HS1:=Hd hs1;have HRX:=Hd hres;clear hs1 hk1 HS HK0 hres ho HRES;obtain⟨c0,c1,c2,f1,f2⟩:=HS1.out.cells;have hlt:=HS1.out.lt;obtain⟨⟨z0,z1,z2,z3,z4,z5,z6,z7⟩,⟨zf0,zf1,zf2,zf3,zf4,zf5,zf6,zf7⟩⟩:=HZ.out.eight;have hzl:=HZ.out.lt;go_wp2_with fail;refine bodyPost_ret (v:=.agg #[.int .i64 0,.bool false,.string ⟨#[]⟩,.slice none 0 0,.slice none 0 0,.slice none 0 0,.slice none 0 0,.slice none 0 0]) (by simp [results,Tryz.results184,go_sem,z0,z1,z2,z3,z4,z5,z6,z7]) rfl ?_
  have hB:=HS1.out.ps;obtain⟨f1,f2,f3⟩:=qnd_fin HK1.out HS1.out HPS.out (QF.err (cl:=false) (w:=w1) (D:=fun b=>Qd Lo B w.heap.size b∧b≠w.heap.size) (us:=[.int .i64 0,.bool false,.string ⟨#[]⟩,.slice none 0 0,.slice none 0 0,.slice none 0 0,.slice none 0 0,.slice none 0 0]) (by decide) HRX.out) (set8_keeps w1 w.heap.size (.int .i64 0) (.bool false) (.string ⟨#[]⟩) (.slice none 0 0) (.slice none 0 0) (.slice none 0 0) (.slice none 0 0) (.slice none 0 0))
  exact⟨⟨0,false,⟨#[]⟩,none,0,0,none,0,0,none,0,0,none,0,0,none,0,0⟩,i+1,2,rfl,by omega,by omega,f1,f2,f3⟩
 | true=>
  rw [ho,if_pos rfl] at hs1 hres;have HS1:=Hd hs1;have HRX:=Hd hres;have hpos:=toks_in (isW_pos (by decide) ho);clear hs1 hk1 HS HK0 hres ho HRES;obtain⟨c0,c1,c2,f1,f2⟩:=HS1.out.cells;have hlt:=HS1.out.lt;go_wp2_with fail;refine (qlist_any K HC.out w1 Lo B ps n (i+1) (deep+1) tv T HS1.out (by omega) (by have:=HD.out;omega)).mono ?_;rintro e w2 ⟨v,j2,bd,rfl,hij2,hj2b,hs2,hk2,hf2⟩;go_upto_region 5 with fail
  obtain⟨NB,hNB⟩:∃NB,NB=w2.heap.size:=⟨_,rfl⟩;obtain⟨W3,hW3⟩:∃W3,W3=w2.alloc (.cells #[.int .i64 v.k,.bool v.nt,.string v.nm,.slice v.a0 v.n0 v.c0,.slice v.a1 v.n1 v.c1,.slice v.a2 v.n2 v.c2,.slice v.a3 v.n3 v.c3,.slice v.a4 v.n4 v.c4] 44):=⟨_,rfl⟩;rw [←hW3]
  try rw [←hNB]
  have hk3:Keeps (fun _=>False) w2 W3:=by rw [hW3];exact (Keeps.refl _ _).alloc _
  have hNR:RecAt W3 NB [.int .i64 v.k,.bool v.nt,.string v.nm,.slice v.a0 v.n0 v.c0,.slice v.a1 v.n1 v.c1,.slice v.a2 v.n2 v.c2,.slice v.a3 v.n3 v.c3,.slice v.a4 v.n4 v.c4]:=by rw [hW3,hNB];exact new_rec8 _ _ _ _ _ _ _ _ _ _
  have HS3:=Hd (hs2.keep0 hk3);have hps2:=hs2.lt;have hw1:=HZ.out.lt;have hsz2:=hk2.size;have hnb:NB≠ps:=by omega
  have HNRH:=Hd hNR;have HK3:=Hd hk3;clear hW3 hNB hNR hk3;go_wp2_with fail;refine (qwant_any W3 Lo B ps n j2 bd tv T [100,111,110,101] HS3.out (by have:=HD.out;omega)).mono ?_;rintro e w4 ⟨rfl,hs4,hk4⟩;have hk3:=HK3.out;have hNR:=HNRH.out;obtain⟨bd4,hy4⟩:∃bd4,bd4=if bd=0 then (if isWF [100,111,110,101] (T.drop j2) then 0 else 2) else bd:=⟨_,rfl⟩;rw [←hy4] at hs4;have hkk:=(hk2.trans hk3 (fun _ _ h=>h.elim)).trans hk4 (fun _ _ h=>h)
  have HS4:=Hd hs4;have HK4:=Hd (HK1.out.trans hkk (fun _ _ h=>h));replace HZ:=Hd (HZ.out.keep hkk (fun e=>by have:=HPS.out;omega));have HN4:=Hd (hNR.keep hk4 hnb);have hf4:=close_fin (w2:=w4) (D2:=fun b=>Qd Lo B w.heap.size b∧b≠w.heap.size) (us2:=[.int .i64 v.k,.bool v.nt,.string v.nm,.slice v.a0 v.n0 v.c0,.slice v.a1 v.n1 v.c1,.slice v.a2 v.n2 v.c2,.slice v.a3 v.n3 v.c3,.slice v.a4 v.n4 v.c4]) (wfP1 (s:=[100,111,110,101]) (by decide)) (wfP2 (by decide)) (fun ts h=>isW_pos (by decide) h) hf2 hy4 bodyG id HRX.out (fun e=>rfl) (fun ds r h=>by unfold bodyG;dsimp only;rw [needW_no h]) (fun ds r h=>by unfold bodyG;dsimp only;rw [needW_yes h];rfl)
   (fun ds hn hr=>⟨hn,((hr.keep hk3 (fun _ _ _ h=>h)).keep hk4 (fun b _ hb e=>qd_ne (X:=w1.heap.size) hs4.ps (by have:=HPS.out;omega) hb e)).mono (fun b _ hb=>by rcases hb with h | h;exact⟨.inl h,by have:=HPS.out;have:=hs4.ps;omega⟩;exact⟨.inr (by omega),by omega⟩)⟩)
  have HF4:=Hd hf4;have HIB:=Hd (show i≤j2+1∧j2+1≤T.length+(2*K+1) by omega);obtain⟨⟨x0,x1,x2,x3,x4,x5,x6,x7⟩,⟨xf0,xf1,xf2,xf3,xf4,xf5,xf6,xf7⟩⟩:=HN4.out.eight;have hNl:=HN4.out.lt;clear hs2 hk2 hf2 hk3 hNR hs4 hk4 hy4 hkk hf4 hps2 hw1 hsz2 c0 c1 c2 f1 f2 hlt hij2 hj2b;obtain⟨⟨z0,z1,z2,z3,z4,z5,z6,z7⟩,⟨zf0,zf1,zf2,zf3,zf4,zf5,zf6,zf7⟩⟩:=HZ.out.eight;have hzl:=HZ.out.lt;go_wp2_with fail;refine bodyPost_ret (v:=.agg #[.int .i64 v.k,.bool v.nt,.string v.nm,.slice v.a0 v.n0 v.c0,.slice v.a1 v.n1 v.c1,.slice v.a2 v.n2 v.c2,.slice v.a3 v.n3 v.c3,.slice v.a4 v.n4 v.c4]) (by simp [results,Tryz.results184,go_sem,z0,z1,z2,z3,z4,z5,z6,z7]) rfl ?_
  obtain⟨f1,f2,f3⟩:=qnd_fin HK4.out HS4.out HPS.out HF4.out (set8_keeps w4 w.heap.size (.int .i64 v.k) (.bool v.nt) (.string v.nm) (.slice v.a0 v.n0 v.c0) (.slice v.a1 v.n1 v.c1) (.slice v.a2 v.n2 v.c2) (.slice v.a3 v.n3 v.c3) (.slice v.a4 v.n4 v.c4));exact⟨v,j2+1,bd4,rfl,HIB.out.1,HIB.out.2,f1,f2,f3⟩
end Go.Proofs.YtiihpbccabeoeaaGreatDoor
