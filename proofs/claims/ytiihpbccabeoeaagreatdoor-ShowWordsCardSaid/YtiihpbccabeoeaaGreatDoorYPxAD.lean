/- The walk: a part. -/
import Derived.Test.YtiihpbccabeoeaaGreatDoorYPxAC
namespace Go.Proofs.YtiihpbccabeoeaaGreatDoor
open Go.RowKit
set_option linter.unusedVariables false
set_option maxRecDepth 100000
set_option maxHeartbeats 16000000
def greatF (K:Nat) (ts:List Tk):PR (List Dt):=
 if isOpF [40] ts then shutF (commandF K) 13 (needOp [41]) ts.tail
 else if isWF [123] ts then shutF (commandF K) 12 (needW [125]) ts.tail
 else if isWF [105,102] ts then choiceF (commandF K) ts.tail
 else if isWF [119,104,105,108,101] ts then whileF (commandF K) 7 ts.tail
 else if isWF [117,110,116,105,108] ts then whileF (commandF K) 8 ts.tail
 else if isWF [102,111,114] ts then eachF (commandF K) (scrF (commandF K)) ts.tail
 else casesF (commandF K) (scrF (commandF K)) ts.tail
theorem comp_cases {ts:List Tk} (h:compB ts=true):isOpF [40] ts=true∨isWF [105,102] ts=true∨isWF [119,104,105,108,101] ts=true∨isWF [117,110,116,105,108] ts=true∨isWF [102,111,114] ts=true∨isWF [99,97,115,101] ts=true∨isWF [123] ts=true:=by
 unfold compB at h;unfold isWF;rw [Bool.or_eq_true] at h;rcases h with h | h
 ·rw [List.contains_iff_mem] at h;simp only [startsL,List.mem_cons,List.not_mem_nil,or_false] at h;rcases h with h | h | h | h | h | h<;>rw [h]<;>simp
 ·exact .inl h
theorem great_brace {K:Nat} {ts:List Tk} (h:isWF [123] ts=true):greatF K ts=shutF (commandF K) 12 (needW [125]) ts.tail∧compoundF (commandF K) (scrF (commandF K)) ts=some (withRedirs (scrF (commandF K)) (greatF K ts)):=by
 have hp:plainT (atF ts)=[123]:=beq_iff_eq.1 h;have ho:=word_op h (by decide);have e:greatF K ts=shutF (commandF K) 12 (needW [125]) ts.tail:=by
  unfold greatF;rw [ho];unfold isWF;rw [hp];rfl
 refine⟨e,?_⟩;rw [e];unfold compoundF;rw [ho];unfold isWF;rw [hp];rfl
theorem great_if {K:Nat} {ts:List Tk} (h:isWF [105,102] ts=true):greatF K ts=choiceF (commandF K) ts.tail∧compoundF (commandF K) (scrF (commandF K)) ts=some (withRedirs (scrF (commandF K)) (greatF K ts)):=by
 have hp:plainT (atF ts)=[105,102]:=beq_iff_eq.1 h;have ho:=word_op h (by decide);have e:greatF K ts=choiceF (commandF K) ts.tail:=by
  unfold greatF;rw [ho];unfold isWF;rw [hp];rfl
 refine⟨e,?_⟩;rw [e];unfold compoundF;rw [ho];unfold isWF;rw [hp];rfl
theorem great_while {K:Nat} {ts:List Tk} (h:isWF [119,104,105,108,101] ts=true):greatF K ts=whileF (commandF K) 7 ts.tail∧compoundF (commandF K) (scrF (commandF K)) ts=some (withRedirs (scrF (commandF K)) (greatF K ts)):=by
 have hp:plainT (atF ts)=[119,104,105,108,101]:=beq_iff_eq.1 h;have ho:=word_op h (by decide);have e:greatF K ts=whileF (commandF K) 7 ts.tail:=by
  unfold greatF;rw [ho];unfold isWF;rw [hp];rfl
 refine⟨e,?_⟩;rw [e];unfold compoundF;rw [ho];unfold isWF;rw [hp];rfl
theorem great_until {K:Nat} {ts:List Tk} (h:isWF [117,110,116,105,108] ts=true):greatF K ts=whileF (commandF K) 8 ts.tail∧compoundF (commandF K) (scrF (commandF K)) ts=some (withRedirs (scrF (commandF K)) (greatF K ts)):=by
 have hp:plainT (atF ts)=[117,110,116,105,108]:=beq_iff_eq.1 h;have ho:=word_op h (by decide);have e:greatF K ts=whileF (commandF K) 8 ts.tail:=by
  unfold greatF;rw [ho];unfold isWF;rw [hp];rfl
 refine⟨e,?_⟩;rw [e];unfold compoundF;rw [ho];unfold isWF;rw [hp];rfl
theorem great_for {K:Nat} {ts:List Tk} (h:isWF [102,111,114] ts=true):greatF K ts=eachF (commandF K) (scrF (commandF K)) ts.tail∧compoundF (commandF K) (scrF (commandF K)) ts=some (withRedirs (scrF (commandF K)) (greatF K ts)):=by
 have hp:plainT (atF ts)=[102,111,114]:=beq_iff_eq.1 h;have ho:=word_op h (by decide);have e:greatF K ts=eachF (commandF K) (scrF (commandF K)) ts.tail:=by
  unfold greatF;rw [ho];unfold isWF;rw [hp];rfl
 refine⟨e,?_⟩;rw [e];unfold compoundF;rw [ho];unfold isWF;rw [hp];rfl
theorem great_case {K:Nat} {ts:List Tk} (h:isWF [99,97,115,101] ts=true):greatF K ts=casesF (commandF K) (scrF (commandF K)) ts.tail∧compoundF (commandF K) (scrF (commandF K)) ts=some (withRedirs (scrF (commandF K)) (greatF K ts)):=by
 have hp:plainT (atF ts)=[99,97,115,101]:=beq_iff_eq.1 h;have ho:=word_op h (by decide);have e:greatF K ts=casesF (commandF K) (scrF (commandF K)) ts.tail:=by
  unfold greatF;rw [ho];unfold isWF;rw [hp];rfl
 refine⟨e,?_⟩;rw [e];unfold compoundF;rw [ho];unfold isWF;rw [hp];rfl
theorem comp_great {K:Nat} {ts:List Tk} (h:compB ts=true):compoundF (commandF K) (scrF (commandF K)) ts=some (withRedirs (scrF (commandF K)) (greatF K ts)):=by
 rcases comp_cases h with h | h | h | h | h | h | h
 ·unfold compoundF greatF;rw [if_pos h,if_pos h]
 ·exact (great_if h).2
 ·exact (great_while h).2
 ·exact (great_until h).2
 ·exact (great_for h).2
 ·exact (great_case h).2
 ·exact (great_brace h).2
theorem qif_any (K:Nat) (hcmd:QCmdOK K) (w:World) (Lo B ps n i deep:Nat) (tv:Value) (T:List Tk) (h:QS w Lo B ps tv n T i 0) (hi:i≤T.length) (hd:deep+1+K=41) (ho:isWF [105,102] (T.drop i)=true) (hscr:QScrOK K) :
 Calls Tryz.prog 163 #[.pointer (some ⟨ps,0,none⟩),.int .i64 (deep:Nat)] w (QNode w Lo B ps tv n T i (2*K+2) false (choiceF (commandF K) (T.drop i).tail)):=by
 obtain⟨res,hres⟩:∃res,res=choiceF (commandF K) (T.drop i).tail:=⟨_,rfl⟩;rw [←hres];rw [ drop_tail] at hres;have HPS:=Hd h.lt;have HS:=Lib.hid h;have HC:=Hd hcmd;have HD:=Hd hd;have HRES:=Hd hres;have hmT:T.length≤20000:=h.sm.1;have hdw:IntKind.i64.wrap ((deep:Int)+1)=(deep:Int)+1:=IntWalk.i64_in _ (by omega);have hsum:IntKind.i64.wrap ((i:Int)+1)=(i:Int)+1:=IntWalk.i64_in _ (by omega);have hc8:=cells_node
 have HO:=Hd (beq_iff_eq.1 ho);have HOP:=Hd (word_op ho (by decide));have hpos:=toks_in (isW_pos (by decide) ho);have HSC:=Hd hscr;clear h hcmd hd hres ho hscr;go_enter Tryz.func163,Tryz.ntmps163;go_wp2_with fail;obtain⟨W,hW⟩:∃W,W=w.alloc (.cells #[.int .i64 0,.bool false,.string ⟨#[]⟩,.slice none 0 0,.slice none 0 0,.slice none 0 0,.slice none 0 0,.slice none 0 0] 44):=⟨_,rfl⟩;have hk0:Keeps (fun _=>False) w W:=by rw [hW];exact (Keeps.refl _ _).alloc _
 have HZ:=Hd (show RecAt W w.heap.size [.int .i64 0,.bool false,.string ⟨#[]⟩,.slice none 0 0,.slice none 0 0,.slice none 0 0,.slice none 0 0,.slice none 0 0] by rw [hW];exact new_rec8 w _ _ _ _ _ _ _ _ _);rw [←hW];have HK:=Hd (hk0.mono (T:=fun b=>b=ps) (fun _ _ h=>h.elim));replace HS:=Hd (HS.out.keep0 hk0);clear hk0 hW;have HQ:=Hd (qop_at HS.out [40] false HOP.out 0);refine HQ.out.mono ?_;rintro e wq ⟨rfl,dq,rfl⟩
 obtain⟨Wa,hw2⟩:∃Wa,Wa=W.drewN dq:=⟨_,rfl⟩;rw [←hw2];have hkw:Keeps (fun _=>False) W Wa:=by rw [hw2];exact (Keeps.refl _ _).drewN _
 replace HS:=Hd (HS.out.keep0 hkw);replace HZ:=Hd (HZ.out.keep hkw (fun h=>h));replace HK:=Hd (HK.out.trans hkw (fun _ _ h=>h.elim));clear hw2 hkw;have HQ2:=Hd (qplain_at HS.out [105,102] HO.out 0);go_wp2_with fail;refine HQ2.out.mono ?_;rintro e wq ⟨rfl,dq,rfl⟩;obtain⟨W1,hw2⟩:∃W1,W1=Wa.drewN dq:=⟨_,rfl⟩;rw [←hw2];have hkw:Keeps (fun _=>False) Wa W1:=by rw [hw2];exact (Keeps.refl _ _).drewN _
 replace HS:=Hd (HS.out.keep0 hkw);replace HZ:=Hd (HZ.out.keep hkw (fun h=>h));replace HK:=Hd (HK.out.trans hkw (fun _ _ h=>h.elim));clear hw2 hkw;obtain⟨c0,c1,c2,f1,f2⟩:=HS.out.cells;have hlt:=HS.out.lt;go_wp2_with fail;obtain⟨W2,hw2⟩:∃W2,W2=W1.setCell ⟨ps,1,none⟩ (.int .i64 ((i:Int)+1)):=⟨_,rfl⟩;rw [←hw2];obtain⟨hi1,hi2⟩:=inc_qs HS.out (by omega);rw [←hw2] at hi1 hi2;replace HS:=Hd hi1;replace HZ:=Hd (HZ.out.keep hi2 (fun e=>by have:=HPS.out;omega))
 replace HK:=Hd (HK.out.trans hi2 (fun _ _ h=>h));clear hw2 hi1 hi2;clear c0 c1 c2 f1 f2 hlt HO HOP;refine (qbranch_any K HC.out W2 Lo B ps n (i+1) deep tv T HS.out (by omega) HD.out).mono ?_;rintro e w3 ⟨v,j,bd,rfl,hij,hjb,hs3,hk3,hf3⟩;have HSZ:=Hd HZ.out.lt;replace HZ:=Hd (HZ.out.keep hk3 (fun e=>by have:=HPS.out;omega));have HS3:=Hd hs3;have HK3:=Hd hk3;have HF3:=Hd hf3;have HIB:=Hd (show i≤j∧j≤T.length+(2*K+2) by omega)
 rw [←HRES.out] at HF3;clear hs3 hk3 hf3 hij hjb;obtain⟨⟨z0,z1,z2,z3,z4,z5,z6,z7⟩,⟨zf0,zf1,zf2,zf3,zf4,zf5,zf6,zf7⟩⟩:=HZ.out.eight;have hzl:=HZ.out.lt;go_wp2_with fail;refine bodyPost_ret (v:=.agg #[.int .i64 v.k,.bool v.nt,.string v.nm,.slice v.a0 v.n0 v.c0,.slice v.a1 v.n1 v.c1,.slice v.a2 v.n2 v.c2,.slice v.a3 v.n3 v.c3,.slice v.a4 v.n4 v.c4]) (by simp [results,Tryz.results163,go_sem,z0,z1,z2,z3,z4,z5,z6,z7]) rfl ?_
 obtain⟨f1,f2,f3⟩:=pass_on HK.out HSZ.out HK3.out HS3.out HPS.out HF3.out (set8_keeps w3 w.heap.size (.int .i64 v.k) (.bool v.nt) (.string v.nm) (.slice v.a0 v.n0 v.c0) (.slice v.a1 v.n1 v.c1) (.slice v.a2 v.n2 v.c2) (.slice v.a3 v.n3 v.c3) (.slice v.a4 v.n4 v.c4));exact⟨v,j,bd,rfl,HIB.out.1,HIB.out.2,f1,f2,f3⟩
theorem qfor_any (K:Nat) (hcmd:QCmdOK K) (w:World) (Lo B ps n i deep:Nat) (tv:Value) (T:List Tk) (h:QS w Lo B ps tv n T i 0) (hi:i≤T.length) (hd:deep+1+K=41) (ho:isWF [102,111,114] (T.drop i)=true) (hscr:QScrOK K) :
 Calls Tryz.prog 163 #[.pointer (some ⟨ps,0,none⟩),.int .i64 (deep:Nat)] w (QNode w Lo B ps tv n T i (2*K+2) false (eachF (commandF K) (scrF (commandF K)) (T.drop i).tail)):=by
 obtain⟨res,hres⟩:∃res,res=eachF (commandF K) (scrF (commandF K)) (T.drop i).tail:=⟨_,rfl⟩;rw [←hres];rw [ drop_tail] at hres;have HPS:=Hd h.lt;have HS:=Lib.hid h;have HC:=Hd hcmd;have HD:=Hd hd;have HRES:=Hd hres;have hmT:T.length≤20000:=h.sm.1;have hdw:IntKind.i64.wrap ((deep:Int)+1)=(deep:Int)+1:=IntWalk.i64_in _ (by omega);have hsum:IntKind.i64.wrap ((i:Int)+1)=(i:Int)+1:=IntWalk.i64_in _ (by omega)
 have hc8:=cells_node;have HO:=Hd (beq_iff_eq.1 ho);have HOP:=Hd (word_op ho (by decide));have hpos:=toks_in (isW_pos (by decide) ho);have HSC:=Hd hscr;clear h hcmd hd hres ho hscr;go_enter Tryz.func163,Tryz.ntmps163;go_wp2_with fail;obtain⟨W,hW⟩:∃W,W=w.alloc (.cells #[.int .i64 0,.bool false,.string ⟨#[]⟩,.slice none 0 0,.slice none 0 0,.slice none 0 0,.slice none 0 0,.slice none 0 0] 44):=⟨_,rfl⟩
 have hk0:Keeps (fun _=>False) w W:=by rw [hW];exact (Keeps.refl _ _).alloc _
 have HZ:=Hd (show RecAt W w.heap.size [.int .i64 0,.bool false,.string ⟨#[]⟩,.slice none 0 0,.slice none 0 0,.slice none 0 0,.slice none 0 0,.slice none 0 0] by rw [hW];exact new_rec8 w _ _ _ _ _ _ _ _ _);rw [←hW];have HK:=Hd (hk0.mono (T:=fun b=>b=ps) (fun _ _ h=>h.elim));replace HS:=Hd (HS.out.keep0 hk0);clear hk0 hW;have HQ:=Hd (qop_at HS.out [40] false HOP.out 0);refine HQ.out.mono ?_;rintro e wq ⟨rfl,dq,rfl⟩
 obtain⟨Wa,hw2⟩:∃Wa,Wa=W.drewN dq:=⟨_,rfl⟩;rw [←hw2];have hkw:Keeps (fun _=>False) W Wa:=by rw [hw2];exact (Keeps.refl _ _).drewN _
 replace HS:=Hd (HS.out.keep0 hkw);replace HZ:=Hd (HZ.out.keep hkw (fun h=>h));replace HK:=Hd (HK.out.trans hkw (fun _ _ h=>h.elim));clear hw2 hkw;have HQ2:=Hd (qplain_at HS.out [102,111,114] HO.out 0);go_wp2_with fail;refine HQ2.out.mono ?_;rintro e wq ⟨rfl,dq,rfl⟩;obtain⟨W1,hw2⟩:∃W1,W1=Wa.drewN dq:=⟨_,rfl⟩;rw [←hw2];have hkw:Keeps (fun _=>False) Wa W1:=by rw [hw2];exact (Keeps.refl _ _).drewN _
 replace HS:=Hd (HS.out.keep0 hkw);replace HZ:=Hd (HZ.out.keep hkw (fun h=>h));replace HK:=Hd (HK.out.trans hkw (fun _ _ h=>h.elim));clear hw2 hkw;obtain⟨c0,c1,c2,f1,f2⟩:=HS.out.cells;have hlt:=HS.out.lt;go_wp2_with fail;obtain⟨W2,hw2⟩:∃W2,W2=W1.setCell ⟨ps,1,none⟩ (.int .i64 ((i:Int)+1)):=⟨_,rfl⟩;rw [←hw2];obtain⟨hi1,hi2⟩:=inc_qs HS.out (by omega);rw [←hw2] at hi1 hi2;replace HS:=Hd hi1;replace HZ:=Hd (HZ.out.keep hi2 (fun e=>by have:=HPS.out;omega))
 replace HK:=Hd (HK.out.trans hi2 (fun _ _ h=>h));clear hw2 hi1 hi2;clear c0 c1 c2 f1 f2 hlt HO HOP;refine (qeach_any K HC.out HSC.out W2 Lo B ps n (i+1) deep tv T HS.out (by omega) HD.out).mono ?_;rintro e w3 ⟨v,j,bd,rfl,hij,hjb,hs3,hk3,hf3⟩;have HSZ:=Hd HZ.out.lt;replace HZ:=Hd (HZ.out.keep hk3 (fun e=>by have:=HPS.out;omega));have HS3:=Hd hs3;have HK3:=Hd hk3;have HF3:=Hd hf3;have HIB:=Hd (show i≤j∧j≤T.length+(2*K+2) by omega)
 rw [←HRES.out] at HF3;clear hs3 hk3 hf3 hij hjb;obtain⟨⟨z0,z1,z2,z3,z4,z5,z6,z7⟩,⟨zf0,zf1,zf2,zf3,zf4,zf5,zf6,zf7⟩⟩:=HZ.out.eight;have hzl:=HZ.out.lt;go_wp2_with fail;refine bodyPost_ret (v:=.agg #[.int .i64 v.k,.bool v.nt,.string v.nm,.slice v.a0 v.n0 v.c0,.slice v.a1 v.n1 v.c1,.slice v.a2 v.n2 v.c2,.slice v.a3 v.n3 v.c3,.slice v.a4 v.n4 v.c4]) (by simp [results,Tryz.results163,go_sem,z0,z1,z2,z3,z4,z5,z6,z7]) rfl ?_
 obtain⟨f1,f2,f3⟩:=pass_on HK.out HSZ.out HK3.out HS3.out HPS.out HF3.out (set8_keeps w3 w.heap.size (.int .i64 v.k) (.bool v.nt) (.string v.nm) (.slice v.a0 v.n0 v.c0) (.slice v.a1 v.n1 v.c1) (.slice v.a2 v.n2 v.c2) (.slice v.a3 v.n3 v.c3) (.slice v.a4 v.n4 v.c4));exact⟨v,j,bd,rfl,HIB.out.1,HIB.out.2,f1,f2,f3⟩
theorem qcase_any (K:Nat) (hcmd:QCmdOK K) (w:World) (Lo B ps n i deep:Nat) (tv:Value) (T:List Tk) (h:QS w Lo B ps tv n T i 0) (hi:i≤T.length) (hd:deep+1+K=41) (ho:isWF [99,97,115,101] (T.drop i)=true) (hscr:QScrOK K) :
 Calls Tryz.prog 163 #[.pointer (some ⟨ps,0,none⟩),.int .i64 (deep:Nat)] w (QNode w Lo B ps tv n T i (2*K+2) false (casesF (commandF K) (scrF (commandF K)) (T.drop i).tail)):=by
 obtain⟨res,hres⟩:∃res,res=casesF (commandF K) (scrF (commandF K)) (T.drop i).tail:=⟨_,rfl⟩;rw [←hres];rw [ drop_tail] at hres;have HPS:=Hd h.lt;have HS:=Lib.hid h;have HC:=Hd hcmd;have HD:=Hd hd;have HRES:=Hd hres;have hmT:T.length≤20000:=h.sm.1;have hdw:IntKind.i64.wrap ((deep:Int)+1)=(deep:Int)+1:=IntWalk.i64_in _ (by omega);have hsum:IntKind.i64.wrap ((i:Int)+1)=(i:Int)+1:=IntWalk.i64_in _ (by omega)
 have hc8:=cells_node;have HO:=Hd (beq_iff_eq.1 ho);have HOP:=Hd (word_op ho (by decide));have hpos:=toks_in (isW_pos (by decide) ho);have HSC:=Hd hscr;clear h hcmd hd hres ho hscr;go_enter Tryz.func163,Tryz.ntmps163;go_wp2_with fail;obtain⟨W,hW⟩:∃W,W=w.alloc (.cells #[.int .i64 0,.bool false,.string ⟨#[]⟩,.slice none 0 0,.slice none 0 0,.slice none 0 0,.slice none 0 0,.slice none 0 0] 44):=⟨_,rfl⟩
 have hk0:Keeps (fun _=>False) w W:=by rw [hW];exact (Keeps.refl _ _).alloc _
 have HZ:=Hd (show RecAt W w.heap.size [.int .i64 0,.bool false,.string ⟨#[]⟩,.slice none 0 0,.slice none 0 0,.slice none 0 0,.slice none 0 0,.slice none 0 0] by rw [hW];exact new_rec8 w _ _ _ _ _ _ _ _ _);rw [←hW];have HK:=Hd (hk0.mono (T:=fun b=>b=ps) (fun _ _ h=>h.elim));replace HS:=Hd (HS.out.keep0 hk0);clear hk0 hW;have HQ:=Hd (qop_at HS.out [40] false HOP.out 0);refine HQ.out.mono ?_;rintro e wq ⟨rfl,dq,rfl⟩
 obtain⟨Wa,hw2⟩:∃Wa,Wa=W.drewN dq:=⟨_,rfl⟩;rw [←hw2];have hkw:Keeps (fun _=>False) W Wa:=by rw [hw2];exact (Keeps.refl _ _).drewN _
 replace HS:=Hd (HS.out.keep0 hkw);replace HZ:=Hd (HZ.out.keep hkw (fun h=>h));replace HK:=Hd (HK.out.trans hkw (fun _ _ h=>h.elim));clear hw2 hkw;have HQ2:=Hd (qplain_at HS.out [99,97,115,101] HO.out 0);go_wp2_with fail;refine HQ2.out.mono ?_;rintro e wq ⟨rfl,dq,rfl⟩;obtain⟨W1,hw2⟩:∃W1,W1=Wa.drewN dq:=⟨_,rfl⟩;rw [←hw2];have hkw:Keeps (fun _=>False) Wa W1:=by rw [hw2];exact (Keeps.refl _ _).drewN _
 replace HS:=Hd (HS.out.keep0 hkw);replace HZ:=Hd (HZ.out.keep hkw (fun h=>h));replace HK:=Hd (HK.out.trans hkw (fun _ _ h=>h.elim));clear hw2 hkw;obtain⟨c0,c1,c2,f1,f2⟩:=HS.out.cells;have hlt:=HS.out.lt;go_wp2_with fail;obtain⟨W2,hw2⟩:∃W2,W2=W1.setCell ⟨ps,1,none⟩ (.int .i64 ((i:Int)+1)):=⟨_,rfl⟩;rw [←hw2];obtain⟨hi1,hi2⟩:=inc_qs HS.out (by omega);rw [←hw2] at hi1 hi2;replace HS:=Hd hi1;replace HZ:=Hd (HZ.out.keep hi2 (fun e=>by have:=HPS.out;omega))
 replace HK:=Hd (HK.out.trans hi2 (fun _ _ h=>h));clear hw2 hi1 hi2;clear c0 c1 c2 f1 f2 hlt HO HOP;refine (qchoose_any K HC.out HSC.out W2 Lo B ps n (i+1) deep tv T HS.out (by omega) HD.out).mono ?_;rintro e w3 ⟨v,j,bd,rfl,hij,hjb,hs3,hk3,hf3⟩;have HSZ:=Hd HZ.out.lt;replace HZ:=Hd (HZ.out.keep hk3 (fun e=>by have:=HPS.out;omega));have HS3:=Hd hs3;have HK3:=Hd hk3;have HF3:=Hd hf3;have HIB:=Hd (show i≤j∧j≤T.length+(2*K+2) by omega)
 rw [←HRES.out] at HF3;clear hs3 hk3 hf3 hij hjb;obtain⟨⟨z0,z1,z2,z3,z4,z5,z6,z7⟩,⟨zf0,zf1,zf2,zf3,zf4,zf5,zf6,zf7⟩⟩:=HZ.out.eight;have hzl:=HZ.out.lt;go_wp2_with fail;refine bodyPost_ret (v:=.agg #[.int .i64 v.k,.bool v.nt,.string v.nm,.slice v.a0 v.n0 v.c0,.slice v.a1 v.n1 v.c1,.slice v.a2 v.n2 v.c2,.slice v.a3 v.n3 v.c3,.slice v.a4 v.n4 v.c4]) (by simp [results,Tryz.results163,go_sem,z0,z1,z2,z3,z4,z5,z6,z7]) rfl ?_
 obtain⟨f1,f2,f3⟩:=pass_on HK.out HSZ.out HK3.out HS3.out HPS.out HF3.out (set8_keeps w3 w.heap.size (.int .i64 v.k) (.bool v.nt) (.string v.nm) (.slice v.a0 v.n0 v.c0) (.slice v.a1 v.n1 v.c1) (.slice v.a2 v.n2 v.c2) (.slice v.a3 v.n3 v.c3) (.slice v.a4 v.n4 v.c4));exact⟨v,j,bd,rfl,HIB.out.1,HIB.out.2,f1,f2,f3⟩
theorem QNode.wide {w:World} {Lo B ps:Nat} {tv:Value} {n:Nat} {T:List Tk} {i b b2:Nat} {cl:Bool} {res:PR (List Dt)} {e:Ending} {w':World} (h:QNode w Lo B ps tv n T i b cl res e w') (hb:b≤b2):QNode w Lo B ps tv n T i b2 cl res e w':=by
 obtain⟨v,j,x,h1,h2,h3,h4⟩:=h;exact⟨v,j,x,h1,h2,by omega,h4⟩
theorem qgreat_any (K:Nat) (hcmd:QCmdOK K) (hscr:QScrOK K) (w:World) (Lo B ps n i deep:Nat) (tv:Value) (T:List Tk) (h:QS w Lo B ps tv n T i 0) (hi:i≤T.length) (hd:deep+1+K=41) (hc:compB (T.drop i)=true) :
 Calls Tryz.prog 163 #[.pointer (some ⟨ps,0,none⟩),.int .i64 (deep:Nat)] w (QNode w Lo B ps tv n T i (2*K+2) false (greatF K (T.drop i))):=by
 rcases comp_cases hc with h1 | h1 | h1 | h1 | h1 | h1 | h1
 ·rw [show greatF K (T.drop i)=shutF (commandF K) 13 (needOp [41]) (T.drop i).tail by unfold greatF;rw [if_pos h1]];exact (qparen_any K hcmd w Lo B ps n i deep tv T h hi hd h1).mono fun e w' hq=>hq.wide (by omega)
 ·rw [(great_if h1).1];exact qif_any K hcmd w Lo B ps n i deep tv T h hi hd h1 hscr
 ·rw [(great_while h1).1];exact (qwhile_any K hcmd w Lo B ps n i deep tv T h hi hd h1).mono fun e w' hq=>hq.wide (by omega)
 ·rw [(great_until h1).1];exact (quntil_any K hcmd w Lo B ps n i deep tv T h hi hd h1).mono fun e w' hq=>hq.wide (by omega)
 ·rw [(great_for h1).1];exact qfor_any K hcmd w Lo B ps n i deep tv T h hi hd h1 hscr
 ·rw [(great_case h1).1];exact qcase_any K hcmd w Lo B ps n i deep tv T h hi hd h1 hscr
 ·rw [(great_brace h1).1];exact (qbrace_any K hcmd w Lo B ps n i deep tv T h hi hd h1).mono fun e w' hq=>hq.wide (by omega)
def qfuncG (name:Bs) (p:PR (List Dt)):PR (List Dt):=match p with
 | .error e=>.error e
 | .ok (d,r2)=>.ok (ndR 11 false name [] [] [] d [],r2)
theorem comp_begins (x:List Tk):(beginsF x && (isOpF [40] x || reservedL.contains (plainT (atF x))))=compB x:=by
 unfold beginsF compB;cases hk:((atF x).kind==1) with
 | true=>
  have ho:isOpF [40] x=false:=by unfold isOpF;rw [beq_iff_eq.1 hk];rfl
  rw [ho,if_pos rfl];generalize plainT (atF x)=s;cases hr:reservedL.contains s with
  | true=>simp
  | false=>
   have hs:startsL.contains s=false:=by
    rw [←Bool.not_eq_true];intro hh;have:reservedL.contains s=true:=by
     rw [List.contains_iff_mem] at hh ⊢;simp only [startsL,List.mem_cons,List.not_mem_nil,or_false] at hh;rcases hh with h | h | h | h | h | h<;>rw [h]<;>decide
    rw [this] at hr;cases hr
   rw [hs];simp
 | false=>
  rw [if_neg (by simp),plain_kind hk,show startsL.contains ([]:Bs)=false from by decide,show reservedL.contains ([]:Bs)=false from by decide];cases isOpF [40] x<;>simp
theorem comp_no {cmd:List Tk→PR (List Dt)} {scr:Bs→Except Nat Unit} {ts:List Tk} (h:compB ts=false):compoundF cmd scr ts=if nameOkF (plainT (atF ts)) && opensF ts then some (functionF cmd (plainT (atF ts)) ts) else none:=by
 unfold compB at h;rw [Bool.or_eq_false_iff] at h;have hw:∀s,s∈startsL→isWF s ts=false:=fun s hs=>by
  cases hh:isWF s ts with
  | false=>rfl
  | true=>
   have h1:=h.1;rw [beq_iff_eq.1 hh,List.contains_iff_mem.2 hs] at h1;cases h1
 unfold compoundF;rw [h.2,hw [123] (by decide),hw [105,102] (by decide),hw [119,104,105,108,101] (by decide),hw [117,110,116,105,108] (by decide),hw [102,111,114] (by decide),hw [99,97,115,101] (by decide)];rfl
theorem command_none {K:Nat} {ts:List Tk} (h:beginsF ts=false):commandF (K+1) ts=.error 2:=by
 show (if beginsF ts=true then _ else _)=_;rw [h];rfl
theorem command_comp {K:Nat} {ts:List Tk} (hb:beginsF ts=true) (h:compB ts=true):commandF (K+1) ts=withRedirs (scrF (commandF K)) (greatF K ts):=by
 show (if beginsF ts=true then innerF (commandF K) (scrF (commandF K)) ts else _)=_;rw [hb,if_pos rfl];unfold innerF;rw [comp_great h]
theorem qfunction_eq {K:Nat} {name:Bs} {ts:List Tk}:functionF (commandF K) name ts=if isOpF [41] ts.tail.tail then (if compB (linesF ts.tail.tail.tail) then qfuncG name (commandF K (linesF ts.tail.tail.tail)) else .error 2) else .error 2:=by
 unfold functionF;cases ho:isOpF [41] ts.tail.tail with
 | false=>rw [needOp_no ho];rfl
 | true=>
  rw [needOp_yes ho,if_pos rfl];dsimp only;rw [comp_begins];cases compB (linesF ts.tail.tail.tail) with
  | false=>rfl
  | true=>
   rw [if_pos rfl,if_pos rfl];unfold qfuncG;cases commandF K (linesF ts.tail.tail.tail)<;>rfl
theorem command_func {K:Nat} {ts:List Tk} (hb:beginsF ts=true) (h:compB ts=false) (hn:nameOkF (plainT (atF ts))=true) (ho:isOpF [40] ts.tail=true):commandF (K+1) ts=functionF (commandF K) (plainT (atF ts)) ts:=by
 show (if beginsF ts=true then innerF (commandF K) (scrF (commandF K)) ts else _)=_;rw [hb,if_pos rfl];unfold innerF;rw [comp_no h,hn];unfold opensF;rw [ho];rfl
theorem command_simple {K:Nat} {ts:List Tk} (hb:beginsF ts=true) (h:compB ts=false) (hn:(nameOkF (plainT (atF ts)) && isOpF [40] ts.tail)=false):commandF (K+1) ts=simpleF (scrF (commandF K)) (ts.length+1) [] [] [] ts:=by
 show (if beginsF ts=true then innerF (commandF K) (scrF (commandF K)) ts else _)=_;rw [hb,if_pos rfl];unfold innerF;rw [comp_no h];unfold opensF;rw [hn];rfl
theorem name_word {T:List Tk} {i:Nat} (hs:SmT T) (hn:nameOkF (plainT (atF (T.drop i)))=true) (scr:Bs→Except Nat Unit):hasW (T.drop i)=true∧subsF scr (atF (T.drop i)).word=.ok ()∧assignF (atF (T.drop i)).word=none:=by
 have hi:i<T.length:=by
  rcases Nat.lt_or_ge i T.length with h | h
  ·exact h
  ·rw [atF_end h] at hn;cases hn
 rw [atF_in hi] at hn;unfold hasW;rw [atF_in hi];have h1:=(hs.2 _ (List.getElem_mem hi)).2;generalize T[i]=t at h1 hn;have hne:=qname_pos hn;unfold plainT at hne hn;by_cases hk:(t.kind==1)=true
 ·rw [if_pos hk] at hne hn
  match hw:t.word,hne,hn with
  | [],hne,_=>exact absurd rfl hne
  | a::b::l,hne,_=>exact absurd rfl hne
  | [p],hne,hn=>
   dsimp only at hne hn;by_cases hp:(p.kind==1)=true
   ·rw [if_pos hp] at hne hn;have hp1:=beq_iff_eq.1 hp;have hpw:=smL_text h1.2 (p:=p) (by rw [hw];exact List.mem_cons_self ..) hp1;refine⟨by rw [hk];rfl,?_,?_⟩
    ·rw [qsubs_cons,hp1,hpw,qsubs_nil];rfl
    ·refine assignR_no (fun h=>?_);unfold nameOkF at hn;simp only [Bool.and_eq_true,beq_iff_eq] at hn;have h3:=h.2.2;rw [hn.2,List.getElem?_eq_none (Nat.le_refl _)] at h3;cases h3
   ·rw [if_neg hp] at hne;exact absurd rfl hne
 ·rw [if_neg hk] at hne;exact absurd rfl hne
theorem redir_fin {K:Nat} {w6 w8 w9:World} {D6 D8 D:Nat→Prop} {T:List Tk} {res gr:PR (List Dt)} {v:NV} {j bd j2 y m c:Nat} {a:Option Addr} (hq:QF false w6 D6 T gr v.vals j bd) (hres:res=withRedirs (scrF (commandF K)) gr) (hm:∀ds,RdL w6 D6 ds v.vals→RdL w9 D ds v.vals) (hmr:∀ds,Rd w8 D8 (.sl 2 ds) (.slice a m c)→Rd w9 D (.sl 2 ds) (.slice a m c))
 (hr:(bd=0∧∃(gd:Prop) (ds:List Dt),(gd→Rd w8 D8 (.sl 2 ds) (.slice a m c))∧((gd∧y=0∧j2≤T.length∧redirsF (scrF (commandF K)) ((T.drop j).length+1) [] (T.drop j)=.ok (ds,T.drop j2))∨(y≠0∧redirsF (scrF (commandF K)) ((T.drop j).length+1) [] (T.drop j)=.error y)))∨(bd≠0∧y=bd)) :
 QF false w9 D T res [.int .i64 v.k,.bool v.nt,.string v.nm,.slice v.a0 v.n0 v.c0,.slice v.a1 v.n1 v.c1,.slice a m c,.slice v.a3 v.n3 v.c3,.slice v.a4 v.n4 v.c4] j2 y:=by
 rcases hr with ⟨hb,gd,ds,hd,hr⟩ | ⟨hb,rfl⟩
 ·rcases hq.split (withRedirs (scrF (commandF K))) (fun e=>rfl) (fun h=>by cases h) with ⟨d,r,hg,_,hn,hrd,hj,_⟩ | ⟨h9,_⟩ | ⟨_,ho,hg⟩
  ·have hw:res=match redirsF (scrF (commandF K)) ((T.drop j).length+1) [] (T.drop j) with
    | .error e=>.error e
    | .ok (rs,r2)=>.ok (d.set 5 (.sl 2 rs),r2):=by rw [hres,hg,hj];rfl
   rcases hr with ⟨g,hy,hj2,hr⟩ | ⟨hy,hr⟩
   ·rw [hr] at hw;obtain⟨kind,nt,nm,ws,gs,rs,ks,ar,rfl⟩:=hn;obtain⟨h0,h1,h2,h3,h4,h5,h6,h7,_⟩:=hm _ hrd;exact QF.good hw hy ⟨kind,nt,nm,ws,gs,ds,ks,ar,rfl⟩ ⟨h0,h1,h2,h3,h4,hmr ds (hd g),h6,h7,trivial⟩ rfl hj2
   ·rw [hr] at hw;exact QF.err hy hw
  ·exact absurd hb h9
  ·have hrb:redirB (T.drop j)=false:=by
    unfold isOpF at ho;rw [Bool.and_eq_true] at ho;unfold redirB;rw [ho.1,beq_iff_eq.1 ho.2];decide
   have h9:redirsF (scrF (commandF K)) ((T.drop j).length+1) [] (T.drop j)=.ok ([],T.drop j):=by rw [qredirs_succ,hrb];rfl
   rcases hr with ⟨g,hy,hj2,hr⟩ | ⟨hy,hr⟩
   ·rw [h9] at hr;injection hr with hr;injection hr with _ hr;exact QF.stk (by rw [←hr];exact ho) hy (by rw [hres,hg])
   ·rw [h9] at hr;cases hr
 ·rcases hq.split (withRedirs (scrF (commandF K))) (fun e=>rfl) (fun h=>by cases h) with ⟨d,r,hg,h0,_⟩ | ⟨_,hg⟩ | ⟨h0,_⟩
  ·exact absurd h0 hb
  ·exact QF.err hb (by rw [hres,hg])
  ·exact absurd h0 hb
theorem qredirs_uni (K:Nat) (hscr:QScrOK K) (w:World) (Lo B ps n i x deep:Nat) (tv:Value) (T:List Tk) (hd:deep+1+K=41) (h:QS w Lo B ps tv n T i x) (hi:x=0→i≤T.length) :
 Calls Tryz.prog 164 #[.pointer (some ⟨ps,0,none⟩),.int .i64 (deep:Nat)] w fun e w'=>∃(a:Option Addr) (m c j y:Nat),e=.returned (.slice a m c)∧i≤j∧(j≤T.length∨j=i)∧QS w' Lo B ps tv n T j y∧Keeps (fun b=>b=ps) w w'∧
  ((x=0∧∃(gd:Prop) (ds:List Dt),(gd→Rd w' (Qd Lo B w.heap.size) (.sl 2 ds) (.slice a m c))∧((gd∧y=0∧j≤T.length∧redirsF (scrF (commandF K)) ((T.drop i).length+1) [] (T.drop i)=.ok (ds,T.drop j))∨(y≠0∧redirsF (scrF (commandF K)) ((T.drop i).length+1) [] (T.drop i)=.error y)))∨(x≠0∧y=x)):=by
 by_cases hx:x=0
 ·subst hx;refine (qredirs_any K hscr w Lo B ps n i deep tv T hd h (hi rfl)).mono ?_;rintro e w' ⟨gd,a,m,c,j,y,ds,he,h1,h2,_,_,hQ,_,hor⟩;refine⟨a,m,c,j,y,he,h1,.inl h2,hQ.rs,hQ.kp,.inl ⟨rfl,gd,ds,fun g=>hQ.reads g,?_⟩⟩;rcases hor with ⟨g,h0,hr⟩ | h
  ·exact .inl ⟨g,h0,h2,hr⟩
  ·exact .inr h
 ·refine (qredirs_bad w Lo B ps n i x deep tv T h hx).mono ?_;rintro e w' ⟨he,rfl⟩;exact⟨none,0,0,i,x,he,Nat.le_refl _,.inr rfl,h,Keeps.refl _ _,.inr ⟨hx,rfl⟩⟩
end Go.Proofs.YtiihpbccabeoeaaGreatDoor
