/- The walk: a part. -/
import Derived.Test.YtiihpbccabeoeaaGreatDoorWPxAC
namespace Go.Proofs.YtiihpbccabeoeaaGreatDoor
open Go.RowKit
set_option linter.unusedVariables false
set_option maxRecDepth 100000
set_option maxHeartbeats 16000000
def dD (K:Nat) (ts:List Tk):PR (List Dt):=
 if aG [40] ts then f8 (aC K) 13 (fK [41]) ts.tail
 else if aT [123] ts then f8 (aC K) 12 (fA [125]) ts.tail
 else if aT [105,102] ts then eZ (aC K) ts.tail
 else if aT [119,104,105,108,101] ts then fB (aC K) 7 ts.tail
 else if aT [117,110,116,105,108] ts then fB (aC K) 8 ts.tail
 else if aT [102,111,114] ts then gM (aC K) (bC (aC K)) ts.tail
 else gC (aC K) (bC (aC K)) ts.tail
theorem vF {ts:List Tk} (h:dA ts=true):aG [40] ts=true∨aT [105,102] ts=true∨aT [119,104,105,108,101] ts=true∨aT [117,110,116,105,108] ts=true∨aT [102,111,114] ts=true∨aT [99,97,115,101] ts=true∨aT [123] ts=true:=by
 unfold dA at h;unfold aT;rw [Bool.or_eq_true] at h;rcases h with h | h
 ·rw [List.contains_iff_mem] at h;simp only [dS,List.mem_cons,List.not_mem_nil,or_false] at h;rcases h with h | h | h | h | h | h<;>rw [h]<;>simp
 ·exact .inl h
theorem tZ {K:Nat} {ts:List Tk} (h:aT [123] ts=true):dD K ts=f8 (aC K) 12 (fA [125]) ts.tail∧bR (aC K) (bC (aC K)) ts=some (bI (bC (aC K)) (dD K ts)):=by
 have hp:aR (atF ts)=[123]:=beq_iff_eq.1 h;have ho:=iE h (by decide);have e:dD K ts=f8 (aC K) 12 (fA [125]) ts.tail:=by
  unfold dD;rw [ho];unfold aT;rw [hp];rfl
 refine⟨e,?_⟩;rw [e];unfold bR;rw [ho];unfold aT;rw [hp];rfl
theorem Bu {K:Nat} {ts:List Tk} (h:aT [105,102] ts=true):dD K ts=eZ (aC K) ts.tail∧bR (aC K) (bC (aC K)) ts=some (bI (bC (aC K)) (dD K ts)):=by
 have hp:aR (atF ts)=[105,102]:=beq_iff_eq.1 h;have ho:=iE h (by decide);have e:dD K ts=eZ (aC K) ts.tail:=by
  unfold dD;rw [ho];unfold aT;rw [hp];rfl
 refine⟨e,?_⟩;rw [e];unfold bR;rw [ho];unfold aT;rw [hp];rfl
theorem tF {K:Nat} {ts:List Tk} (h:aT [119,104,105,108,101] ts=true):dD K ts=fB (aC K) 7 ts.tail∧bR (aC K) (bC (aC K)) ts=some (bI (bC (aC K)) (dD K ts)):=by
 have hp:aR (atF ts)=[119,104,105,108,101]:=beq_iff_eq.1 h;have ho:=iE h (by decide);have e:dD K ts=fB (aC K) 7 ts.tail:=by
  unfold dD;rw [ho];unfold aT;rw [hp];rfl
 refine⟨e,?_⟩;rw [e];unfold bR;rw [ho];unfold aT;rw [hp];rfl
theorem tA {K:Nat} {ts:List Tk} (h:aT [117,110,116,105,108] ts=true):dD K ts=fB (aC K) 8 ts.tail∧bR (aC K) (bC (aC K)) ts=some (bI (bC (aC K)) (dD K ts)):=by
 have hp:aR (atF ts)=[117,110,116,105,108]:=beq_iff_eq.1 h;have ho:=iE h (by decide);have e:dD K ts=fB (aC K) 8 ts.tail:=by
  unfold dD;rw [ho];unfold aT;rw [hp];rfl
 refine⟨e,?_⟩;rw [e];unfold bR;rw [ho];unfold aT;rw [hp];rfl
theorem yI {K:Nat} {ts:List Tk} (h:aT [102,111,114] ts=true):dD K ts=gM (aC K) (bC (aC K)) ts.tail∧bR (aC K) (bC (aC K)) ts=some (bI (bC (aC K)) (dD K ts)):=by
 have hp:aR (atF ts)=[102,111,114]:=beq_iff_eq.1 h;have ho:=iE h (by decide);have e:dD K ts=gM (aC K) (bC (aC K)) ts.tail:=by
  unfold dD;rw [ho];unfold aT;rw [hp];rfl
 refine⟨e,?_⟩;rw [e];unfold bR;rw [ho];unfold aT;rw [hp];rfl
theorem vJ {K:Nat} {ts:List Tk} (h:aT [99,97,115,101] ts=true):dD K ts=gC (aC K) (bC (aC K)) ts.tail∧bR (aC K) (bC (aC K)) ts=some (bI (bC (aC K)) (dD K ts)):=by
 have hp:aR (atF ts)=[99,97,115,101]:=beq_iff_eq.1 h;have ho:=iE h (by decide);have e:dD K ts=gC (aC K) (bC (aC K)) ts.tail:=by
  unfold dD;rw [ho];unfold aT;rw [hp];rfl
 refine⟨e,?_⟩;rw [e];unfold bR;rw [ho];unfold aT;rw [hp];rfl
theorem Eb {K:Nat} {ts:List Tk} (h:dA ts=true):bR (aC K) (bC (aC K)) ts=some (bI (bC (aC K)) (dD K ts)):=by
 rcases vF h with h | h | h | h | h | h | h
 ·unfold bR dD;rw [if_pos h,if_pos h]
 ·exact (Bu h).2
 ·exact (tF h).2
 ·exact (tA h).2
 ·exact (yI h).2
 ·exact (vJ h).2
 ·exact (tZ h).2
theorem Og (K:Nat) (hcmd:eU K) (w:World) (Lo B ps n i deep:Nat) (tv:Value) (T:List Tk) (h:QS w Lo B ps tv n T i 0) (hi:i≤T.length) (hd:deep+1+K=41) (ho:aT [105,102] (T.drop i)=true) (hscr:iP K) :
 Calls Tryz.prog 163 #[.pointer (some ⟨ps,0,none⟩),.int .i64 (deep:Nat)] w (iJ w Lo B ps tv n T i (2*K+2) false (eZ (aC K) (T.drop i).tail)):=by
 obtain⟨res,hres⟩:∃res,res=eZ (aC K) (T.drop i).tail:=⟨_,rfl⟩;rw [←hres];rw [ aS] at hres;have HPS:=Hd h.lt;have HS:=Lib.hid h;have HC:=Hd hcmd;have HD:=Hd hd;have HRES:=Hd hres;have hmT:T.length≤20000:=h.sm.1;have hdw:IntKind.i64.wrap ((deep:Int)+1)=(deep:Int)+1:=IntWalk.i64_in _ (by omega);have hsum:IntKind.i64.wrap ((i:Int)+1)=(i:Int)+1:=IntWalk.i64_in _ (by omega);have hc8:=bV
 have HO:=Hd (beq_iff_eq.1 ho);have HOP:=Hd (iE ho (by decide));have hpos:=bQ (cJ (by decide) ho);have HSC:=Hd hscr;clear h hcmd hd hres ho hscr;go_enter Tryz.func163,Tryz.ntmps163;go_wp2_with fail;obtain⟨W,hW⟩:∃W,W=w.alloc (.cells #[.int .i64 0,.bool false,.string ⟨#[]⟩,.slice none 0 0,.slice none 0 0,.slice none 0 0,.slice none 0 0,.slice none 0 0] 44):=⟨_,rfl⟩;have hk0:K0 w W:=by rw [hW];exact (aB.refl _ _).alloc _
 have HZ:=Hd (show aH W w.heap.size [.int .i64 0,.bool false,.string ⟨#[]⟩,.slice none 0 0,.slice none 0 0,.slice none 0 0,.slice none 0 0,.slice none 0 0] by rw [hW];exact aK w _ _ _ _ _ _ _ _ _);rw [←hW];have HK:=Hd (hk0.mono (T:=fun b=>b=ps) (fun _ _ h=>h.elim));replace HS:=Hd (HS.o.keep0 hk0);clear hk0 hW;have HQ:=Hd (a8 HS.o [40] false HOP.o 0);refine HQ.o.mono ?_;rintro e wq ⟨rfl,dq,rfl⟩
 obtain⟨Wa,hw2⟩:∃Wa,Wa=W.drewN dq:=⟨_,rfl⟩;rw [←hw2];have hkw:K0 W Wa:=by rw [hw2];exact (aB.refl _ _).drewN _
 replace HS:=Hd (HS.o.keep0 hkw);replace HZ:=Hd (HZ.o.keep hkw (fun h=>h));replace HK:=Hd (HK.o.trans hkw (fun _ _ h=>h.elim));clear hw2 hkw;have HQ2:=Hd (dH HS.o [105,102] HO.o 0);go_wp2_with fail;refine HQ2.o.mono ?_;rintro e wq ⟨rfl,dq,rfl⟩;obtain⟨W1,hw2⟩:∃W1,W1=Wa.drewN dq:=⟨_,rfl⟩;rw [←hw2];have hkw:K0 Wa W1:=by rw [hw2];exact (aB.refl _ _).drewN _
 replace HS:=Hd (HS.o.keep0 hkw);replace HZ:=Hd (HZ.o.keep hkw (fun h=>h));replace HK:=Hd (HK.o.trans hkw (fun _ _ h=>h.elim));clear hw2 hkw;obtain⟨c0,c1,c2,f1,f2⟩:=HS.o.cells;have hlt:=HS.o.lt;go_wp2_with fail;obtain⟨W2,hw2⟩:∃W2,W2=W1.setCell ⟨ps,1,none⟩ (.int .i64 ((i:Int)+1)):=⟨_,rfl⟩;rw [←hw2];obtain⟨hi1,hi2⟩:=eM HS.o (by omega);rw [←hw2] at hi1 hi2;replace HS:=Hd hi1;replace HZ:=Hd (HZ.o.keep hi2 (fun e=>by have:=HPS.o;omega))
 replace HK:=Hd (HK.o.trans hi2 k3);clear hw2 hi1 hi2;clear c0 c1 c2 f1 f2 hlt HO HOP;refine (Cc K HC.o W2 Lo B ps n (i+1) deep tv T HS.o (by omega) HD.o).mono ?_;rintro e w3 ⟨v,j,bd,rfl,hij,hjb,hs3,hk3,hf3⟩;have HSZ:=Hd HZ.o.lt;replace HZ:=Hd (HZ.o.keep hk3 (fun e=>by have:=HPS.o;omega));have HS3:=Hd hs3;have HK3:=Hd hk3;have HF3:=Hd hf3;have HIB:=Hd (show i≤j∧j≤T.length+(2*K+2) by omega)
 rw [←HRES.o] at HF3;clear hs3 hk3 hf3 hij hjb;obtain⟨⟨z0,z1,z2,z3,z4,z5,z6,z7⟩,⟨zf0,zf1,zf2,zf3,zf4,zf5,zf6,zf7⟩⟩:=HZ.o.eight;have hzl:=HZ.o.lt;go_wp2_with fail;refine bodyPost_ret (v:=.agg #[.int .i64 v.k,.bool v.nt,.string v.nm,.slice v.a0 v.n0 v.c0,.slice v.a1 v.n1 v.c1,.slice v.a2 v.n2 v.c2,.slice v.a3 v.n3 v.c3,.slice v.a4 v.n4 v.c4]) (by simp [results,Tryz.results163,go_sem,z0,z1,z2,z3,z4,z5,z6,z7]) rfl ?_
 obtain⟨f1,f2,f3⟩:=uI HK.o HSZ.o HK3.o HS3.o HPS.o HF3.o (aJ w3 w.heap.size (.int .i64 v.k) (.bool v.nt) (.string v.nm) (.slice v.a0 v.n0 v.c0) (.slice v.a1 v.n1 v.c1) (.slice v.a2 v.n2 v.c2) (.slice v.a3 v.n3 v.c3) (.slice v.a4 v.n4 v.c4));exact⟨v,j,bd,rfl,HIB.o.1,HIB.o.2,f1,f2,f3⟩
theorem M7 (K:Nat) (hcmd:eU K) (w:World) (Lo B ps n i deep:Nat) (tv:Value) (T:List Tk) (h:QS w Lo B ps tv n T i 0) (hi:i≤T.length) (hd:deep+1+K=41) (ho:aT [102,111,114] (T.drop i)=true) (hscr:iP K) :
 Calls Tryz.prog 163 #[.pointer (some ⟨ps,0,none⟩),.int .i64 (deep:Nat)] w (iJ w Lo B ps tv n T i (2*K+2) false (gM (aC K) (bC (aC K)) (T.drop i).tail)):=by
 obtain⟨res,hres⟩:∃res,res=gM (aC K) (bC (aC K)) (T.drop i).tail:=⟨_,rfl⟩;rw [←hres];rw [ aS] at hres;have HPS:=Hd h.lt;have HS:=Lib.hid h;have HC:=Hd hcmd;have HD:=Hd hd;have HRES:=Hd hres;have hmT:T.length≤20000:=h.sm.1;have hdw:IntKind.i64.wrap ((deep:Int)+1)=(deep:Int)+1:=IntWalk.i64_in _ (by omega);have hsum:IntKind.i64.wrap ((i:Int)+1)=(i:Int)+1:=IntWalk.i64_in _ (by omega)
 have hc8:=bV;have HO:=Hd (beq_iff_eq.1 ho);have HOP:=Hd (iE ho (by decide));have hpos:=bQ (cJ (by decide) ho);have HSC:=Hd hscr;clear h hcmd hd hres ho hscr;go_enter Tryz.func163,Tryz.ntmps163;go_wp2_with fail;obtain⟨W,hW⟩:∃W,W=w.alloc (.cells #[.int .i64 0,.bool false,.string ⟨#[]⟩,.slice none 0 0,.slice none 0 0,.slice none 0 0,.slice none 0 0,.slice none 0 0] 44):=⟨_,rfl⟩
 have hk0:K0 w W:=by rw [hW];exact (aB.refl _ _).alloc _
 have HZ:=Hd (show aH W w.heap.size [.int .i64 0,.bool false,.string ⟨#[]⟩,.slice none 0 0,.slice none 0 0,.slice none 0 0,.slice none 0 0,.slice none 0 0] by rw [hW];exact aK w _ _ _ _ _ _ _ _ _);rw [←hW];have HK:=Hd (hk0.mono (T:=fun b=>b=ps) (fun _ _ h=>h.elim));replace HS:=Hd (HS.o.keep0 hk0);clear hk0 hW;have HQ:=Hd (a8 HS.o [40] false HOP.o 0);refine HQ.o.mono ?_;rintro e wq ⟨rfl,dq,rfl⟩
 obtain⟨Wa,hw2⟩:∃Wa,Wa=W.drewN dq:=⟨_,rfl⟩;rw [←hw2];have hkw:K0 W Wa:=by rw [hw2];exact (aB.refl _ _).drewN _
 replace HS:=Hd (HS.o.keep0 hkw);replace HZ:=Hd (HZ.o.keep hkw (fun h=>h));replace HK:=Hd (HK.o.trans hkw (fun _ _ h=>h.elim));clear hw2 hkw;have HQ2:=Hd (dH HS.o [102,111,114] HO.o 0);go_wp2_with fail;refine HQ2.o.mono ?_;rintro e wq ⟨rfl,dq,rfl⟩;obtain⟨W1,hw2⟩:∃W1,W1=Wa.drewN dq:=⟨_,rfl⟩;rw [←hw2];have hkw:K0 Wa W1:=by rw [hw2];exact (aB.refl _ _).drewN _
 replace HS:=Hd (HS.o.keep0 hkw);replace HZ:=Hd (HZ.o.keep hkw (fun h=>h));replace HK:=Hd (HK.o.trans hkw (fun _ _ h=>h.elim));clear hw2 hkw;obtain⟨c0,c1,c2,f1,f2⟩:=HS.o.cells;have hlt:=HS.o.lt;go_wp2_with fail;obtain⟨W2,hw2⟩:∃W2,W2=W1.setCell ⟨ps,1,none⟩ (.int .i64 ((i:Int)+1)):=⟨_,rfl⟩;rw [←hw2];obtain⟨hi1,hi2⟩:=eM HS.o (by omega);rw [←hw2] at hi1 hi2;replace HS:=Hd hi1;replace HZ:=Hd (HZ.o.keep hi2 (fun e=>by have:=HPS.o;omega))
 replace HK:=Hd (HK.o.trans hi2 k3);clear hw2 hi1 hi2;clear c0 c1 c2 f1 f2 hlt HO HOP;refine (Jh K HC.o HSC.o W2 Lo B ps n (i+1) deep tv T HS.o (by omega) HD.o).mono ?_;rintro e w3 ⟨v,j,bd,rfl,hij,hjb,hs3,hk3,hf3⟩;have HSZ:=Hd HZ.o.lt;replace HZ:=Hd (HZ.o.keep hk3 (fun e=>by have:=HPS.o;omega));have HS3:=Hd hs3;have HK3:=Hd hk3;have HF3:=Hd hf3;have HIB:=Hd (show i≤j∧j≤T.length+(2*K+2) by omega)
 rw [←HRES.o] at HF3;clear hs3 hk3 hf3 hij hjb;obtain⟨⟨z0,z1,z2,z3,z4,z5,z6,z7⟩,⟨zf0,zf1,zf2,zf3,zf4,zf5,zf6,zf7⟩⟩:=HZ.o.eight;have hzl:=HZ.o.lt;go_wp2_with fail;refine bodyPost_ret (v:=.agg #[.int .i64 v.k,.bool v.nt,.string v.nm,.slice v.a0 v.n0 v.c0,.slice v.a1 v.n1 v.c1,.slice v.a2 v.n2 v.c2,.slice v.a3 v.n3 v.c3,.slice v.a4 v.n4 v.c4]) (by simp [results,Tryz.results163,go_sem,z0,z1,z2,z3,z4,z5,z6,z7]) rfl ?_
 obtain⟨f1,f2,f3⟩:=uI HK.o HSZ.o HK3.o HS3.o HPS.o HF3.o (aJ w3 w.heap.size (.int .i64 v.k) (.bool v.nt) (.string v.nm) (.slice v.a0 v.n0 v.c0) (.slice v.a1 v.n1 v.c1) (.slice v.a2 v.n2 v.c2) (.slice v.a3 v.n3 v.c3) (.slice v.a4 v.n4 v.c4));exact⟨v,j,bd,rfl,HIB.o.1,HIB.o.2,f1,f2,f3⟩
theorem Ia (K:Nat) (hcmd:eU K) (w:World) (Lo B ps n i deep:Nat) (tv:Value) (T:List Tk) (h:QS w Lo B ps tv n T i 0) (hi:i≤T.length) (hd:deep+1+K=41) (ho:aT [99,97,115,101] (T.drop i)=true) (hscr:iP K) :
 Calls Tryz.prog 163 #[.pointer (some ⟨ps,0,none⟩),.int .i64 (deep:Nat)] w (iJ w Lo B ps tv n T i (2*K+2) false (gC (aC K) (bC (aC K)) (T.drop i).tail)):=by
 obtain⟨res,hres⟩:∃res,res=gC (aC K) (bC (aC K)) (T.drop i).tail:=⟨_,rfl⟩;rw [←hres];rw [ aS] at hres;have HPS:=Hd h.lt;have HS:=Lib.hid h;have HC:=Hd hcmd;have HD:=Hd hd;have HRES:=Hd hres;have hmT:T.length≤20000:=h.sm.1;have hdw:IntKind.i64.wrap ((deep:Int)+1)=(deep:Int)+1:=IntWalk.i64_in _ (by omega);have hsum:IntKind.i64.wrap ((i:Int)+1)=(i:Int)+1:=IntWalk.i64_in _ (by omega)
 have hc8:=bV;have HO:=Hd (beq_iff_eq.1 ho);have HOP:=Hd (iE ho (by decide));have hpos:=bQ (cJ (by decide) ho);have HSC:=Hd hscr;clear h hcmd hd hres ho hscr;go_enter Tryz.func163,Tryz.ntmps163;go_wp2_with fail;obtain⟨W,hW⟩:∃W,W=w.alloc (.cells #[.int .i64 0,.bool false,.string ⟨#[]⟩,.slice none 0 0,.slice none 0 0,.slice none 0 0,.slice none 0 0,.slice none 0 0] 44):=⟨_,rfl⟩
 have hk0:K0 w W:=by rw [hW];exact (aB.refl _ _).alloc _
 have HZ:=Hd (show aH W w.heap.size [.int .i64 0,.bool false,.string ⟨#[]⟩,.slice none 0 0,.slice none 0 0,.slice none 0 0,.slice none 0 0,.slice none 0 0] by rw [hW];exact aK w _ _ _ _ _ _ _ _ _);rw [←hW];have HK:=Hd (hk0.mono (T:=fun b=>b=ps) (fun _ _ h=>h.elim));replace HS:=Hd (HS.o.keep0 hk0);clear hk0 hW;have HQ:=Hd (a8 HS.o [40] false HOP.o 0);refine HQ.o.mono ?_;rintro e wq ⟨rfl,dq,rfl⟩
 obtain⟨Wa,hw2⟩:∃Wa,Wa=W.drewN dq:=⟨_,rfl⟩;rw [←hw2];have hkw:K0 W Wa:=by rw [hw2];exact (aB.refl _ _).drewN _
 replace HS:=Hd (HS.o.keep0 hkw);replace HZ:=Hd (HZ.o.keep hkw (fun h=>h));replace HK:=Hd (HK.o.trans hkw (fun _ _ h=>h.elim));clear hw2 hkw;have HQ2:=Hd (dH HS.o [99,97,115,101] HO.o 0);go_wp2_with fail;refine HQ2.o.mono ?_;rintro e wq ⟨rfl,dq,rfl⟩;obtain⟨W1,hw2⟩:∃W1,W1=Wa.drewN dq:=⟨_,rfl⟩;rw [←hw2];have hkw:K0 Wa W1:=by rw [hw2];exact (aB.refl _ _).drewN _
 replace HS:=Hd (HS.o.keep0 hkw);replace HZ:=Hd (HZ.o.keep hkw (fun h=>h));replace HK:=Hd (HK.o.trans hkw (fun _ _ h=>h.elim));clear hw2 hkw;obtain⟨c0,c1,c2,f1,f2⟩:=HS.o.cells;have hlt:=HS.o.lt;go_wp2_with fail;obtain⟨W2,hw2⟩:∃W2,W2=W1.setCell ⟨ps,1,none⟩ (.int .i64 ((i:Int)+1)):=⟨_,rfl⟩;rw [←hw2];obtain⟨hi1,hi2⟩:=eM HS.o (by omega);rw [←hw2] at hi1 hi2;replace HS:=Hd hi1;replace HZ:=Hd (HZ.o.keep hi2 (fun e=>by have:=HPS.o;omega))
 replace HK:=Hd (HK.o.trans hi2 k3);clear hw2 hi1 hi2;clear c0 c1 c2 f1 f2 hlt HO HOP;refine (Bo K HC.o HSC.o W2 Lo B ps n (i+1) deep tv T HS.o (by omega) HD.o).mono ?_;rintro e w3 ⟨v,j,bd,rfl,hij,hjb,hs3,hk3,hf3⟩;have HSZ:=Hd HZ.o.lt;replace HZ:=Hd (HZ.o.keep hk3 (fun e=>by have:=HPS.o;omega));have HS3:=Hd hs3;have HK3:=Hd hk3;have HF3:=Hd hf3;have HIB:=Hd (show i≤j∧j≤T.length+(2*K+2) by omega)
 rw [←HRES.o] at HF3;clear hs3 hk3 hf3 hij hjb;obtain⟨⟨z0,z1,z2,z3,z4,z5,z6,z7⟩,⟨zf0,zf1,zf2,zf3,zf4,zf5,zf6,zf7⟩⟩:=HZ.o.eight;have hzl:=HZ.o.lt;go_wp2_with fail;refine bodyPost_ret (v:=.agg #[.int .i64 v.k,.bool v.nt,.string v.nm,.slice v.a0 v.n0 v.c0,.slice v.a1 v.n1 v.c1,.slice v.a2 v.n2 v.c2,.slice v.a3 v.n3 v.c3,.slice v.a4 v.n4 v.c4]) (by simp [results,Tryz.results163,go_sem,z0,z1,z2,z3,z4,z5,z6,z7]) rfl ?_
 obtain⟨f1,f2,f3⟩:=uI HK.o HSZ.o HK3.o HS3.o HPS.o HF3.o (aJ w3 w.heap.size (.int .i64 v.k) (.bool v.nt) (.string v.nm) (.slice v.a0 v.n0 v.c0) (.slice v.a1 v.n1 v.c1) (.slice v.a2 v.n2 v.c2) (.slice v.a3 v.n3 v.c3) (.slice v.a4 v.n4 v.c4));exact⟨v,j,bd,rfl,HIB.o.1,HIB.o.2,f1,f2,f3⟩
theorem iJ.wide {w:World} {Lo B ps:Nat} {tv:Value} {n:Nat} {T:List Tk} {i b b2:Nat} {cl:Bool} {res:PR (List Dt)} {e:Ending} {w':World} (h:iJ w Lo B ps tv n T i b cl res e w') (hb:b≤b2):iJ w Lo B ps tv n T i b2 cl res e w':=by
 obtain⟨v,j,x,h1,h2,h3,h4⟩:=h;exact⟨v,j,x,h1,h2,by omega,h4⟩
theorem E1 (K:Nat) (hcmd:eU K) (hscr:iP K) (w:World) (Lo B ps n i deep:Nat) (tv:Value) (T:List Tk) (h:QS w Lo B ps tv n T i 0) (hi:i≤T.length) (hd:deep+1+K=41) (hc:dA (T.drop i)=true) :
 Calls Tryz.prog 163 #[.pointer (some ⟨ps,0,none⟩),.int .i64 (deep:Nat)] w (iJ w Lo B ps tv n T i (2*K+2) false (dD K (T.drop i))):=by
 rcases vF hc with h1 | h1 | h1 | h1 | h1 | h1 | h1
 ·rw [show dD K (T.drop i)=f8 (aC K) 13 (fK [41]) (T.drop i).tail by unfold dD;rw [if_pos h1]];exact (Fs K hcmd w Lo B ps n i deep tv T h hi hd h1).mono fun e w' hq=>hq.wide (by omega)
 ·rw [(Bu h1).1];exact Og K hcmd w Lo B ps n i deep tv T h hi hd h1 hscr
 ·rw [(tF h1).1];exact (Dv K hcmd w Lo B ps n i deep tv T h hi hd h1).mono fun e w' hq=>hq.wide (by omega)
 ·rw [(tA h1).1];exact (Ft K hcmd w Lo B ps n i deep tv T h hi hd h1).mono fun e w' hq=>hq.wide (by omega)
 ·rw [(yI h1).1];exact M7 K hcmd w Lo B ps n i deep tv T h hi hd h1 hscr
 ·rw [(vJ h1).1];exact Ia K hcmd w Lo B ps n i deep tv T h hi hd h1 hscr
 ·rw [(tZ h1).1];exact (D1 K hcmd w Lo B ps n i deep tv T h hi hd h1).mono fun e w' hq=>hq.wide (by omega)
def sU (name:Bs) (p:PR (List Dt)):PR (List Dt):=match p with
 | .error e=>.error e
 | .ok (d,r2)=>.ok (ndR 11 false name [] [] [] d [],r2)
theorem Cp (x:List Tk):(bA x && (aG [40] x || cC.contains (aR (atF x))))=dA x:=by
 unfold bA dA;cases hk:((atF x).kind==1) with
 | true=>
  have ho:aG [40] x=false:=by unfold aG;rw [beq_iff_eq.1 hk];rfl
  rw [ho,if_pos rfl];generalize aR (atF x)=s;cases hr:cC.contains s with
  | true=>simp
  | false=>
   have hs:dS.contains s=false:=by
    rw [←Bool.not_eq_true];intro hh;have:cC.contains s=true:=by
     rw [List.contains_iff_mem] at hh ⊢;simp only [dS,List.mem_cons,List.not_mem_nil,or_false] at hh;rcases hh with h | h | h | h | h | h<;>rw [h]<;>decide
    rw [this] at hr;cases hr
   rw [hs];simp
 | false=>
  rw [if_neg (by simp),fZ hk,show dS.contains ([]:Bs)=false from by decide,show cC.contains ([]:Bs)=false from by decide];cases aG [40] x<;>simp
theorem Fz {cmd:List Tk→PR (List Dt)} {scr:Bs→Except Nat Unit} {ts:List Tk} (h:dA ts=false):bR cmd scr ts=if bO (aR (atF ts)) && iQ ts then some (eP cmd (aR (atF ts)) ts) else none:=by
 unfold dA at h;rw [Bool.or_eq_false_iff] at h;have hw:∀s,s∈dS→aT s ts=false:=fun s hs=>by
  cases hh:aT s ts with
  | false=>rfl
  | true=>
   have h1:=h.1;rw [beq_iff_eq.1 hh,List.contains_iff_mem.2 hs] at h1;cases h1
 unfold bR;rw [h.2,hw [123] (by decide),hw [105,102] (by decide),hw [119,104,105,108,101] (by decide),hw [117,110,116,105,108] (by decide),hw [102,111,114] (by decide),hw [99,97,115,101] (by decide)];rfl
theorem A2 {K:Nat} {ts:List Tk} (h:bA ts=false):aC (K+1) ts=.error 2:=by
 show (if bA ts=true then _ else _)=_;rw [h];rfl
theorem Ad {K:Nat} {ts:List Tk} (hb:bA ts=true) (h:dA ts=true):aC (K+1) ts=bI (bC (aC K)) (dD K ts):=by
 show (if bA ts=true then gW (aC K) (bC (aC K)) ts else _)=_;rw [hb,if_pos rfl];unfold gW;rw [Eb h]
theorem rK {K:Nat} {name:Bs} {ts:List Tk}:eP (aC K) name ts=if aG [41] ts.tail.tail then (if dA (aF ts.tail.tail.tail) then sU name (aC K (aF ts.tail.tail.tail)) else .error 2) else .error 2:=by
 unfold eP;cases ho:aG [41] ts.tail.tail with
 | false=>rw [oT ho];rfl
 | true=>
  rw [mZ ho,if_pos rfl];dsimp only;rw [Cp];cases dA (aF ts.tail.tail.tail) with
  | false=>rfl
  | true=>
   rw [if_pos rfl,if_pos rfl];unfold sU;cases aC K (aF ts.tail.tail.tail)<;>rfl
theorem rD {K:Nat} {ts:List Tk} (hb:bA ts=true) (h:dA ts=false) (hn:bO (aR (atF ts))=true) (ho:aG [40] ts.tail=true):aC (K+1) ts=eP (aC K) (aR (atF ts)) ts:=by
 show (if bA ts=true then gW (aC K) (bC (aC K)) ts else _)=_;rw [hb,if_pos rfl];unfold gW;rw [Fz h,hn];unfold iQ;rw [ho];rfl
theorem xK {K:Nat} {ts:List Tk} (hb:bA ts=true) (h:dA ts=false) (hn:(bO (aR (atF ts)) && aG [40] ts.tail)=false):aC (K+1) ts=bL (bC (aC K)) (ts.length+1) [] [] [] ts:=by
 show (if bA ts=true then gW (aC K) (bC (aC K)) ts else _)=_;rw [hb,if_pos rfl];unfold gW;rw [Fz h];unfold iQ;rw [hn];rfl
theorem Ic {T:List Tk} {i:Nat} (hs:SmT T) (hn:bO (aR (atF (T.drop i)))=true) (scr:Bs→Except Nat Unit):t8 (T.drop i)=true∧gI scr (atF (T.drop i)).word=.ok ()∧c8 (atF (T.drop i)).word=none:=by
 have hi:i<T.length:=by
  rcases Nat.lt_or_ge i T.length with h | h
  ·exact h
  ·rw [jK h] at hn;cases hn
 rw [iH hi] at hn;unfold t8;rw [iH hi];have h1:=(hs.2 _ (List.getElem_mem hi)).2;generalize T[i]=t at h1 hn;have hne:=yG hn;unfold aR at hne hn;by_cases hk:(t.kind==1)=true
 ·rw [if_pos hk] at hne hn
  match hw:t.word,hne,hn with
  | [],hne,_=>exact absurd rfl hne
  | a::b::l,hne,_=>exact absurd rfl hne
  | [p],hne,hn=>
   dsimp only at hne hn;by_cases hp:(p.kind==1)=true
   ·rw [if_pos hp] at hne hn;have hp1:=beq_iff_eq.1 hp;have hpw:=Kg h1.2 (p:=p) (by rw [hw];exact List.mem_cons_self ..) hp1;refine⟨by rw [hk];rfl,?_,?_⟩
    ·rw [uX,hp1,hpw,zB];rfl
    ·refine wR (fun h=>?_);unfold bO at hn;simp only [Bool.and_eq_true,beq_iff_eq] at hn;have h3:=h.2.2;rw [hn.2,List.getElem?_eq_none (Nat.le_refl _)] at h3;cases h3
   ·rw [if_neg hp] at hne;exact absurd rfl hne
 ·rw [if_neg hk] at hne;exact absurd rfl hne
theorem I6 {K:Nat} {w6 w8 w9:World} {D6 D8 D:Nat→Prop} {T:List Tk} {res gr:PR (List Dt)} {v:NV} {j bd j2 y m c:Nat} {a:OA} (hq:QF false w6 D6 T gr v.vals j bd) (hres:res=bI (bC (aC K)) gr) (hm:∀ds,RdL w6 D6 ds v.vals→RdL w9 D ds v.vals) (hmr:∀ds,Rd w8 D8 (.sl 2 ds) (.slice a m c)→Rd w9 D (.sl 2 ds) (.slice a m c))
 (hr:(bd=0∧∃(gd:Prop) (ds:List Dt),(gd→Rd w8 D8 (.sl 2 ds) (.slice a m c))∧((gd∧y=0∧j2≤T.length∧cN (bC (aC K)) ((T.drop j).length+1) [] (T.drop j)=.ok (ds,T.drop j2))∨(y≠0∧cN (bC (aC K)) ((T.drop j).length+1) [] (T.drop j)=.error y)))∨(bd≠0∧y=bd)) :
 QF false w9 D T res [.int .i64 v.k,.bool v.nt,.string v.nm,.slice v.a0 v.n0 v.c0,.slice v.a1 v.n1 v.c1,.slice a m c,.slice v.a3 v.n3 v.c3,.slice v.a4 v.n4 v.c4] j2 y:=by
 rcases hr with ⟨hb,gd,ds,hd,hr⟩ | ⟨hb,rfl⟩
 ·rcases hq.split (bI (bC (aC K))) (fun e=>rfl) (fun h=>by cases h) with ⟨d,r,hg,_,hn,hrd,hj,_⟩ | ⟨h9,_⟩ | ⟨_,ho,hg⟩
  ·have hw:res=match cN (bC (aC K)) ((T.drop j).length+1) [] (T.drop j) with
    | .error e=>.error e
    | .ok (rs,r2)=>.ok (d.set 5 (.sl 2 rs),r2):=by rw [hres,hg,hj];rfl
   rcases hr with ⟨g,hy,hj2,hr⟩ | ⟨hy,hr⟩
   ·rw [hr] at hw;obtain⟨kind,nt,nm,ws,gs,rs,ks,ar,rfl⟩:=hn;obtain⟨h0,h1,h2,h3,h4,h5,h6,h7,_⟩:=hm _ hrd;exact QF.good hw hy ⟨kind,nt,nm,ws,gs,ds,ks,ar,rfl⟩ ⟨h0,h1,h2,h3,h4,hmr ds (hd g),h6,h7,trivial⟩ rfl hj2
   ·rw [hr] at hw;exact QF.err hy hw
  ·exact absurd hb h9
  ·have hrb:bX (T.drop j)=false:=by
    unfold aG at ho;rw [Bool.and_eq_true] at ho;unfold bX;rw [ho.1,beq_iff_eq.1 ho.2];decide
   have h9:cN (bC (aC K)) ((T.drop j).length+1) [] (T.drop j)=.ok ([],T.drop j):=by rw [kB,hrb];rfl
   rcases hr with ⟨g,hy,hj2,hr⟩ | ⟨hy,hr⟩
   ·rw [h9] at hr;injection hr with hr;injection hr with _ hr;exact QF.stk (by rw [←hr];exact ho) hy (by rw [hres,hg])
   ·rw [h9] at hr;cases hr
 ·rcases hq.split (bI (bC (aC K))) (fun e=>rfl) (fun h=>by cases h) with ⟨d,r,hg,h0,_⟩ | ⟨_,hg⟩ | ⟨h0,_⟩
  ·exact absurd h0 hb
  ·exact QF.err hb (by rw [hres,hg])
  ·exact absurd h0 hb
theorem Dc (K:Nat) (hscr:iP K) (w:World) (Lo B ps n i x deep:Nat) (tv:Value) (T:List Tk) (hd:deep+1+K=41) (h:QS w Lo B ps tv n T i x) (hi:x=0→i≤T.length) :
 Calls Tryz.prog 164 #[.pointer (some ⟨ps,0,none⟩),.int .i64 (deep:Nat)] w fun e w'=>∃(a:OA) (m c j y:Nat),e=.returned (.slice a m c)∧i≤j∧(j≤T.length∨j=i)∧QS w' Lo B ps tv n T j y∧aB (fun b=>b=ps) w w'∧
  ((x=0∧∃(gd:Prop) (ds:List Dt),(gd→Rd w' (Qd Lo B w.heap.size) (.sl 2 ds) (.slice a m c))∧((gd∧y=0∧j≤T.length∧cN (bC (aC K)) ((T.drop i).length+1) [] (T.drop i)=.ok (ds,T.drop j))∨(y≠0∧cN (bC (aC K)) ((T.drop i).length+1) [] (T.drop i)=.error y)))∨(x≠0∧y=x)):=by
 by_cases hx:x=0
 ·subst hx;refine (tT K hscr w Lo B ps n i deep tv T hd h (hi rfl)).mono ?_;rintro e w' ⟨gd,a,m,c,j,y,ds,he,h1,h2,_,_,hQ,_,hor⟩;refine⟨a,m,c,j,y,he,h1,.inl h2,hQ.rs,hQ.kp,.inl ⟨rfl,gd,ds,fun g=>hQ.reads g,?_⟩⟩;rcases hor with ⟨g,h0,hr⟩ | h
  ·exact .inl ⟨g,h0,h2,hr⟩
  ·exact .inr h
 ·refine (Bi w Lo B ps n i x deep tv T h hx).mono ?_;rintro e w' ⟨he,rfl⟩;exact⟨none,0,0,i,x,he,Nat.le_refl _,.inr rfl,h,aB.refl _ _,.inr ⟨hx,rfl⟩⟩
end Go.Proofs.YtiihpbccabeoeaaGreatDoor
