/- The walk: a part. -/
import Derived.Test.YtiihpbccabeoeaaGreatDoorYPxAD
import Derived.Deep.CutBlock
import Derived.Test.YtiihpbccabeoeaaGreatDoorYPxAF
import Derived.Test.YtiihpbccabeoeaaGreatDoorYPkU
namespace Go.Proofs.YtiihpbccabeoeaaGreatDoor
open Go.RowKit
set_option linter.unusedVariables false
set_option maxRecDepth 100000
set_option maxHeartbeats 16000000
theorem command_end {ts:List Tk} (h:beginsF ts=true):commandF 0 ts=.error 3:=by
 show (if beginsF ts=true then _ else _)=_;rw [if_pos h]
theorem command_end2 {ts:List Tk} (h:beginsF ts=false):commandF 0 ts=.error 2:=by
 show (if beginsF ts=true then _ else _)=_;rw [h];rfl
theorem qcommand_zero:QCmdOK 0:=by
 intro w Lo B ps n i deep tv T h hi hd;obtain⟨res,hres⟩:∃res,res=commandF 0 (T.drop i):=⟨_,rfl⟩;rw [←hres];obtain⟨s,hs⟩:∃s,plainT (atF (T.drop i))=s:=⟨_,rfl⟩;obtain⟨kw,hkw⟩:∃kw,((atF (T.drop i)).kind==1)=kw:=⟨_,rfl⟩;obtain⟨rv,hrv⟩:∃rv,reservedL.contains s=rv:=⟨_,rfl⟩;obtain⟨cb,hcb⟩:∃cb,compB (T.drop i)=cb:=⟨_,rfl⟩;obtain⟨rb,hrb⟩:∃rb,redirB (T.drop i)=rb:=⟨_,rfl⟩;obtain⟨wb,hwb⟩:∃wb,wb=(kw && !rv):=⟨_,rfl⟩
 obtain⟨nb,hnb⟩:∃nb,nb = !(wb || cb || rb):=⟨_,rfl⟩;have HNB:=Hd hnb;have HBG:=Hd (show beginsF (T.drop i) = !nb by rw [begins_split,hs,hkw,hrv,hcb,hrb,hnb,hwb,Bool.not_not]);have HWB:=Hd hwb;have HSE:=Hd hs;have HKW:=Hd hkw;have HRV:=Hd hrv;have HCB:=Hd hcb;have HRB:=Hd hrb;have HPS:=Hd h.lt;have HS:=Lib.hid h;have HD:=Hd hd;have HRES:=Hd hres;have hmT:T.length≤20000:=h.sm.1;have hdw:IntKind.i64.wrap ((deep:Int)+1)=(deep:Int)+1:=IntWalk.i64_in _ (by omega)
 have hc8:=cells_node;clear h hd hres hs hkw hrv hcb hrb hwb hnb;have p40:(40:Int)<(deep:Int):=by have:=HD.out;omega
 have p41:((40:Int)<(deep:Int))=True:=eq_true p40;go_enter Tryz.func142,Tryz.ntmps142;go_wp2_with fail;obtain⟨W,hW⟩:∃W,W=w.alloc (.cells #[.int .i64 0,.bool false,.string ⟨#[]⟩,.slice none 0 0,.slice none 0 0,.slice none 0 0,.slice none 0 0,.slice none 0 0] 44):=⟨_,rfl⟩;have hk0:Keeps (fun _=>False) w W:=by rw [hW];exact (Keeps.refl _ _).alloc _
 have HZ:=Hd (show RecAt W w.heap.size [.int .i64 0,.bool false,.string ⟨#[]⟩,.slice none 0 0,.slice none 0 0,.slice none 0 0,.slice none 0 0,.slice none 0 0] by rw [hW];exact new_rec8 w _ _ _ _ _ _ _ _ _);rw [←hW];have HK:=Hd (hk0.mono (T:=fun b=>b=ps) (fun _ _ h=>h.elim));replace HS:=Hd (HS.out.keep0 hk0);clear hk0 hW;have HQ:=Hd (qplain_at HS.out s HSE.out 0);refine HQ.out.mono ?_;rintro e wq ⟨rfl,dq,rfl⟩
 obtain⟨w1,hw2⟩:∃w1,w1=W.drewN dq:=⟨_,rfl⟩;rw [←hw2];have hkw:Keeps (fun _=>False) W w1:=by rw [hw2];exact (Keeps.refl _ _).drewN _
 replace HS:=Hd (HS.out.keep0 hkw);replace HZ:=Hd (HZ.out.keep hkw (fun h=>h));replace HK:=Hd (HK.out.trans hkw (fun _ _ h=>h.elim));clear hw2 hkw;clear HQ;go_upto_region 2 with fail;go_cut [6] from 13 to 19 (fun v6 wx=>∃wy:World,wy=wx∧v6=.bool wb∧Hid (QS wy Lo B ps tv n T i 0)∧Hid (RecAt wy w.heap.size [.int .i64 0,.bool false,.string ⟨#[]⟩,.slice none 0 0,.slice none 0 0,.slice none 0 0,.slice none 0 0,.slice none 0 0])∧Hid (Keeps (fun b=>b=ps) w wy))
 case first=>
  have HQ:=Hd (qword_any w1 Lo B ps n i 0 tv T HS.out);rw [HKW.out] at HQ;have HQ2:=Hd (fun w=>qreserved_any w s);rw [HRV.out] at HQ2;go_wp2_with fail;refine HQ.out.mono ?_;rintro e wq ⟨rfl,dq,rfl⟩;obtain⟨w2,hw2⟩:∃w2,w2=w1.drewN dq:=⟨_,rfl⟩;rw [←hw2];have hkw:Keeps (fun _=>False) w1 w2:=by rw [hw2];exact (Keeps.refl _ _).drewN _
  replace HS:=Hd (HS.out.keep0 hkw);replace HZ:=Hd (HZ.out.keep hkw (fun h=>h));replace HK:=Hd (HK.out.trans hkw (fun _ _ h=>h.elim));clear hw2 hkw;cases kw with
  | false=>
   have HVV:=Hd (show wb=false from HWB.out);go_wp2_with fail;go_meet
   case rel=>exact⟨_,rfl,by rw [HVV.out],HS,HZ,HK⟩
  | true=>
   go_wp2_with fail;refine (HQ2.out _).mono ?_;rintro e wq ⟨rfl,rfl⟩;cases rv with
   | false=>
    have HVV:=Hd (show wb=true from HWB.out);go_wp2_with fail;go_meet
    case rel=>exact⟨_,rfl,by rw [HVV.out],HS,HZ,HK⟩
   | true=>
    have HVV:=Hd (show wb=false from HWB.out);go_wp2_with fail;go_meet
    case rel=>exact⟨_,rfl,by rw [HVV.out],HS,HZ,HK⟩
 case rest=>
 clear HS HZ HK;obtain⟨wy,hwy,hv,HS,HZ,HK⟩:=hcut;subst hwy hv;have HQ:=Hd (qcomp_any wy Lo B ps n i 0 tv T HS.out);rw [HCB.out] at HQ;go_wp2_with fail;refine HQ.out.mono ?_;rintro e wq ⟨rfl,dq,rfl⟩;obtain⟨w3,hw2⟩:∃w3,w3=wy.drewN dq:=⟨_,rfl⟩;rw [←hw2];have hkw:Keeps (fun _=>False) wy w3:=by rw [hw2];exact (Keeps.refl _ _).drewN _
 replace HS:=Hd (HS.out.keep0 hkw);replace HZ:=Hd (HZ.out.keep hkw (fun h=>h));replace HK:=Hd (HK.out.trans hkw (fun _ _ h=>h.elim));clear hw2 hkw;clear HQ;have HQ:=Hd (qredir_any w3 Lo B ps n i 0 tv T HS.out);rw [HRB.out] at HQ;go_wp2_with fail;refine HQ.out.mono ?_;rintro e wq ⟨rfl,dq,rfl⟩;obtain⟨w4,hw2⟩:∃w4,w4=w3.drewN dq:=⟨_,rfl⟩;rw [←hw2];have hkw:Keeps (fun _=>False) w3 w4:=by rw [hw2];exact (Keeps.refl _ _).drewN _
 replace HS:=Hd (HS.out.keep0 hkw);replace HZ:=Hd (HZ.out.keep hkw (fun h=>h));replace HK:=Hd (HK.out.trans hkw (fun _ _ h=>h.elim));clear hw2 hkw;clear HQ;go_upto_region 5 with fail;go_cut [33] from 24 to 33 (fun v6 wx=>∃wy:World,wy=wx∧v6=.bool nb∧Hid (QS wy Lo B ps tv n T i 0)∧Hid (RecAt wy w.heap.size [.int .i64 0,.bool false,.string ⟨#[]⟩,.slice none 0 0,.slice none 0 0,.slice none 0 0,.slice none 0 0,.slice none 0 0])∧Hid (Keeps (fun b=>b=ps) w wy))
 case first=>
  cases wb with
  | true=>
   have HVV:=Hd (show nb=false from HNB.out);go_wp2_with fail;go_meet
   case rel=>exact⟨_,rfl,by rw [HVV.out],HS,HZ,HK⟩
  | false=>
   cases cb with
   | true=>
    have HVV:=Hd (show nb=false from HNB.out);go_wp2_with fail;go_meet
    case rel=>exact⟨_,rfl,by rw [HVV.out],HS,HZ,HK⟩
   | false=>
    cases rb with
    | true=>
     have HVV:=Hd (show nb=false from HNB.out);go_wp2_with fail;go_meet
     case rel=>exact⟨_,rfl,by rw [HVV.out],HS,HZ,HK⟩
    | false=>
     have HVV:=Hd (show nb=true from HNB.out);go_wp2_with fail;go_meet
     case rel=>exact⟨_,rfl,by rw [HVV.out],HS,HZ,HK⟩
 case rest=>
 clear HS HZ HK;obtain⟨wy,hwy,hv,HS,HZ,HK⟩:=hcut;subst hwy hv;cases nb with
 | true=>
  have HR2:=Hd (show res=.error 2 by rw [HRES.out];exact command_end2 HBG.out);go_wp2_with fail;refine (qfail_any wy Lo B ps n i 0 2 tv T HS.out).mono ?_;rintro e wz ⟨rfl,hsz,hkz⟩;have hsz:=(show QS wz Lo B ps tv n T i 2 from hsz);replace HS:=Hd hsz;replace HZ:=Hd (HZ.out.keep hkz (fun e=>by have:=HPS.out;omega));replace HK:=Hd (HK.out.trans hkz (fun _ _ h=>h));have HIB:=Hd (show i≤i∧i≤T.length+2*0 by omega)
  clear hsz hkz;obtain⟨⟨z0,z1,z2,z3,z4,z5,z6,z7⟩,⟨zf0,zf1,zf2,zf3,zf4,zf5,zf6,zf7⟩⟩:=HZ.out.eight;have hzl:=HZ.out.lt;go_wp2_with fail;refine bodyPost_ret (v:=.agg #[.int .i64 0,.bool false,.string ⟨#[]⟩,.slice none 0 0,.slice none 0 0,.slice none 0 0,.slice none 0 0,.slice none 0 0]) (by simp [results,Tryz.results142,go_sem,z0,z1,z2,z3,z4,z5,z6,z7]) rfl ?_;obtain⟨f1,f2,f3⟩:=qnd_fin HK.out HS.out HPS.out (show QF false wz (fun b=>Qd Lo B w.heap.size b∧b≠w.heap.size) T res [.int .i64 0,.bool false,.string ⟨#[]⟩,.slice none 0 0,.slice none 0 0,.slice none 0 0,.slice none 0 0,.slice none 0 0] i 2 from QF.err (by decide) HR2.out) (set8_keeps wz w.heap.size (.int .i64 0) (.bool false) (.string ⟨#[]⟩) (.slice none 0 0) (.slice none 0 0) (.slice none 0 0) (.slice none 0 0) (.slice none 0 0))
  exact⟨⟨0,false,⟨#[]⟩,none,0,0,none,0,0,none,0,0,none,0,0,none,0,0⟩,i,2,rfl,HIB.out.1,HIB.out.2,f1,f2,f3⟩
 | false=>
  have HR2:=Hd (show res=.error 3 by rw [HRES.out];exact command_end HBG.out);go_wp2_with fail;refine (qfail_any wy Lo B ps n i 0 3 tv T HS.out).mono ?_;rintro e wz ⟨rfl,hsz,hkz⟩;have hsz:=(show QS wz Lo B ps tv n T i 3 from hsz);replace HS:=Hd hsz;replace HZ:=Hd (HZ.out.keep hkz (fun e=>by have:=HPS.out;omega));replace HK:=Hd (HK.out.trans hkz (fun _ _ h=>h));have HIB:=Hd (show i≤i∧i≤T.length+2*0 by omega)
  clear hsz hkz;obtain⟨⟨z0,z1,z2,z3,z4,z5,z6,z7⟩,⟨zf0,zf1,zf2,zf3,zf4,zf5,zf6,zf7⟩⟩:=HZ.out.eight;have hzl:=HZ.out.lt;go_wp2_with fail;refine bodyPost_ret (v:=.agg #[.int .i64 0,.bool false,.string ⟨#[]⟩,.slice none 0 0,.slice none 0 0,.slice none 0 0,.slice none 0 0,.slice none 0 0]) (by simp [results,Tryz.results142,go_sem,z0,z1,z2,z3,z4,z5,z6,z7]) rfl ?_;obtain⟨f1,f2,f3⟩:=qnd_fin HK.out HS.out HPS.out (show QF false wz (fun b=>Qd Lo B w.heap.size b∧b≠w.heap.size) T res [.int .i64 0,.bool false,.string ⟨#[]⟩,.slice none 0 0,.slice none 0 0,.slice none 0 0,.slice none 0 0,.slice none 0 0] i 3 from QF.err (by decide) HR2.out) (set8_keeps wz w.heap.size (.int .i64 0) (.bool false) (.string ⟨#[]⟩) (.slice none 0 0) (.slice none 0 0) (.slice none 0 0) (.slice none 0 0) (.slice none 0 0))
  exact⟨⟨0,false,⟨#[]⟩,none,0,0,none,0,0,none,0,0,none,0,0,none,0,0⟩,i,3,rfl,HIB.out.1,HIB.out.2,f1,f2,f3⟩
def treeEnd (p:PR (List Dt)):Except Nat (List Dt):=match p with
 | .error e=>.error e
 | .ok (d,r)=>if r.isEmpty then .ok d else .error 2
theorem qtree_eq (cmd:List Tk→PR (List Dt)) (ts:List Tk):treeF cmd ts=if (linesF ts).isEmpty then .ok [] else treeEnd (listF cmd (linesF ts)):=by
 unfold treeF listF treeEnd;rw [lines_idem];cases (linesF ts).isEmpty with
 | true=>rfl
 | false=>cases allF cmd (linesF ts)<;>rfl
theorem tree_fin {w:World} {D:Nat→Prop} {T:List Tk} {res:PR (List Dt)} {us:List Value} {j x y:Nat} (h:QF true w D T res us j x) (hy:y=if x=0 then (if j<T.length then 2 else 0) else x) :
 (y=0∧∃ds,treeEnd res=.ok ds∧RdL w D ds us∧NdD ds)∨(y≠0∧treeEnd res=.error y):=by
 have hop:x=0→isOpF [40] (T.drop j)=true→y=2:=fun hx ho=>by
  rw [if_pos hx,if_pos (toks_in (op_pos ho))] at hy;exact hy
 cases res with
 | error e=>
  rcases h with ⟨h1,h2⟩ | ⟨h1,hx,ho⟩
  ·rw [if_neg (by omega)] at hy;exact .inr ⟨by omega,by rw [hy,h1];rfl⟩
  ·exact .inr ⟨by rw [hop hx ho];decide,by rw [hop hx ho,h1];rfl⟩
 | ok p=>
  obtain⟨ds,r⟩:=p;rcases h with ⟨hx,hn,hr,hd,hj⟩ | ⟨_,hc,hx⟩
  ·rw [if_pos hx] at hy;rcases Nat.lt_or_ge j T.length with hl | hl
   ·rw [if_pos hl] at hy;refine .inr ⟨by omega,?_⟩;have hne:r.isEmpty=false:=by
     rw [List.isEmpty_eq_false_iff,←hd];intro e;have:=congrArg List.length e;rw [List.length_drop,List.length_nil] at this;omega
    unfold treeEnd;dsimp only;rw [hne,hy];rfl
   ·rw [if_neg (by omega)] at hy;refine .inl ⟨hy,ds,?_,hr,hn⟩;have he:r=[]:=by rw [←hd];exact List.drop_eq_nil_of_le hl
    unfold treeEnd;dsimp only;rw [he];rfl
  ·have hne:r.isEmpty=false:=by
    cases r with
    | nil=>cases hc
    | cons a l=>rfl
   have hy2:y=2:=by
    rcases hx with hx | ⟨hx,ho⟩
    ·rw [hx] at hy;exact hy
    ·exact hop hx ho
   refine .inr ⟨by omega,?_⟩;unfold treeEnd;dsimp only;rw [hne,hy2];rfl
def QTPost (w:World) (Lo:Nat) (res:Except Nat (List Dt)) (e:Ending) (w':World):Prop:=match res with
 | .ok ds=>∃(a:Option Addr) (m c:Nat),e=.returned (.tuple #[.slice a m c,.int .i64 0])∧Rd w' (fun b=>Lo≤b) (.sl 8 ds) (.slice a m c)∧Keeps (fun _=>False) w w'
 | .error x=>e=.returned (.tuple #[.slice none 0 0,.int .i64 (x:Nat)])∧Keeps (fun _=>False) w w'
theorem qtree_any (K:Nat) (hcmd:QCmdOK K) (w:World) (Lo n deep:Nat) (tv:Value) (T:List Tk) (ht:TksAt w (fun b=>Lo≤b∧b<w.heap.size) n T tv) (hLo:Lo≤w.heap.size) (hsm:SmT T) (hd:deep+K=41) :
 Calls Tryz.prog 33 #[tv,.int .i64 (deep:Nat)] w (QTPost w Lo (treeF (commandF K) T)):=by
 obtain⟨res,hres⟩:∃res,res=treeF (commandF K) T:=⟨_,rfl⟩;rw [←hres];rw [qtree_eq] at hres;have hc8:=cells_node;have hmT:T.length≤20000:=hsm.1;obtain⟨ta,tc,rfl,ht1,ht2⟩:=ht.shape;have HRES:=Hd hres;have HC:=Hd hcmd;have HD:=Hd hd;have HTK:=Hd ht;have HSM:=Hd hsm;have HLO:=Hd hLo;clear hres hcmd hd ht hsm hLo ht1 ht2;obtain⟨L,hL⟩:∃L,L=T.length:=⟨_,rfl⟩;have HL:=Hd hL;rw [←hL];rw [←hL] at HTK hmT;clear hL
 go_enter Tryz.func33,Tryz.ntmps33;go_wp2_with fail;obtain⟨W,hW⟩:∃W,W=w.alloc (.cells #[.slice ta L tc,.int .i64 0,.int .i64 0] 112):=⟨_,rfl⟩;rw [←hW];have hkW:Keeps (fun _=>False) w W:=by rw [hW];exact (Keeps.refl _ _).alloc _
 have hsz:w.heap.size<W.heap.size:=by rw [hW];simp
 have hR:RecAt W w.heap.size [.slice ta L tc,.int .i64 ((0:Nat):Int),.int .i64 ((0:Nat):Int)]:=by rw [hW];exact⟨_,heap_alloc_new w _⟩
 have HS:=Hd (show QS W Lo w.heap.size w.heap.size (.slice ta L tc) n T 0 0 from⟨hR,HTK.out.keep hkW (fun _ _ _ h=>h),Nat.le_refl _,Nat.zero_le _,HSM.out⟩);have HSZ:=Hd hsz;have HKW:=Hd hkW;clear hR hkW hsz hW;refine (qlines_any W Lo w.heap.size w.heap.size n 0 0 _ T HS.out).mono ?_;rintro e w1 ⟨rfl,j1,_,hj1,_,ht1,hs1,hk1⟩;replace hj1:=hj1 (Nat.zero_le _);rw [List.drop_zero] at ht1;rw [←HL.out] at hj1
 obtain⟨c0,c1,c2,f1,f2⟩:=hs1.cells;have hlt:=hs1.lt;have hjl:(linesF T).length=L - j1:=by rw [←ht1,List.length_drop,HL.out]
 replace HS:=Hd hs1;have HK1:=Hd (HKW.out.trans hk1 (fun b hb e=>by omega));have HSZ1:=Hd (Nat.lt_of_lt_of_le HSZ.out hk1.size);have HT1:=Hd ht1;clear hs1 hk1 ht1;by_cases hem:(linesF T).isEmpty=true
 ·have hln:(linesF T).length=0:=by rw [List.isEmpty_iff] at hem;rw [hem];rfl
  have p1:(L:Int)≤(j1:Int):=by omega
  have p2:((L:Int)≤(j1:Int))=True:=eq_true p1;have HRX:=Hd (show res=.ok [] by rw [HRES.out,if_pos hem]);clear hem hln hjl;go_wp2_with fail;go_ret2;rw [HRX.out];exact⟨none,0,0,rfl,.nil _ _ _ (Nat.zero_le _),HK1.out⟩
 ·have hln:(linesF T).length≠0:=fun h=>hem (by rw [List.isEmpty_iff];exact List.eq_nil_of_length_eq_zero h);have hlj:j1<L:=by omega
  have p1:¬(L:Int)≤(j1:Int):=by omega
  have p2:((L:Int)≤(j1:Int))=False:=eq_false p1;have HRX:=Hd (show res=treeEnd (listF (commandF K) (T.drop j1)) by rw [HRES.out,if_neg hem,HT1.out]);clear hem hln hjl HRES;go_wp2_with fail;refine (qlist_any K HC.out w1 Lo w.heap.size w.heap.size n j1 deep _ T HS.out (by have:=HL.out;omega) HD.out).mono ?_;rintro e w2 ⟨v,j,x,rfl,hij,hjb,hs2,hk2,hq⟩;have HIJ:=Hd hij;have HJB:=Hd hjb;have hjm:j≤L+100:=by have:=HL.out;have:=HD.out;omega
  obtain⟨NB,hNB⟩:∃NB,NB=w2.heap.size:=⟨_,rfl⟩;obtain⟨y,hy⟩:∃y,y=if x=0 then (if j<L then 2 else 0) else x:=⟨_,rfl⟩;have hfin:=tree_fin hq (y:=y) (by rw [hy,HL.out]);rw [←HRX.out] at hfin;have HFIN:=Hd hfin;replace HS:=Hd hs2;have HK2:=Hd (HK1.out.trans hk2 (fun b hb e=>by omega));have HSZ2:=Hd (Nat.lt_of_lt_of_le HSZ1.out hk2.size);have HY:=Hd hy;have HSZW:=Hd HSZ1.out;clear hs2 hk2 hq hfin hij hjb c0 c1 c2 f1 f2 hlt HIJ HJB hlj p1 p2 HRX HKW HSZ HSZ1 HK1 hj1 hy
  go_upto_region 6 with fail;obtain⟨W3,hW3⟩:∃W3,W3=w2.alloc (.cells #[.int .i64 v.k,.bool v.nt,.string v.nm,.slice v.a0 v.n0 v.c0,.slice v.a1 v.n1 v.c1,.slice v.a2 v.n2 v.c2,.slice v.a3 v.n3 v.c3,.slice v.a4 v.n4 v.c4] 44):=⟨_,rfl⟩;rw [←hW3]
  try rw [←hNB]
  have hk3:Keeps (fun _=>False) w2 W3:=by rw [hW3];exact (Keeps.refl _ _).alloc _
  have HNR:=Hd (show RecAt W3 NB [.int .i64 v.k,.bool v.nt,.string v.nm,.slice v.a0 v.n0 v.c0,.slice v.a1 v.n1 v.c1,.slice v.a2 v.n2 v.c2,.slice v.a3 v.n3 v.c3,.slice v.a4 v.n4 v.c4] by rw [hW3,hNB];exact new_rec8 _ _ _ _ _ _ _ _ _ _);obtain⟨⟨u0,u1,u2,u3,u4,u5,u6,u7⟩,⟨uf0,uf1,uf2,uf3,uf4,uf5,uf6,uf7⟩⟩:=HNR.out.eight;have hNBl:=HNR.out.lt;replace HS:=Hd (HS.out.keep0 hk3);obtain⟨c0,c1,c2,f1,f2⟩:=HS.out.cells
  have hlt:=HS.out.lt;have HK3:=Hd (HK2.out.trans hk3 (fun _ _ h=>h));have HSZ3:=Hd (Nat.lt_of_lt_of_le HSZ2.out hk3.size);have HK23:=Hd hk3;have hne:NB≠w.heap.size:=by have:=HSZ2.out;omega
  clear hk3 hW3 hNB HK2;by_cases hx:x=0
  ·subst hx;by_cases hj:j<L
   ·have hy2:y=2:=by rw [HY.out,if_pos rfl,if_pos hj]
    have HR:=Hd (show res=.error 2 by
     rcases HFIN.out with ⟨h9,_⟩ | ⟨_,h9⟩
     ·omega
     ·rw [h9,hy2])
    have q1:(j:Int)<(L:Int):=by omega
    have q2:((j:Int)<(L:Int))=True:=eq_true q1;clear HFIN HY hy2;go_wp2_with fail;go_quiet (fail);go_wp2_with fail;go_ret2;rw [HR.out];exact⟨rfl,(HK3.out.trans (HS.out.set2 2).2 (fun b hb e=>by omega)).trans ((Keeps.refl (fun _=>False) _).drewN _) (fun _ _ h=>h)⟩
   ·have hy2:y=0:=by rw [HY.out,if_pos rfl,if_neg hj]
    obtain⟨ds,HR,hrd,hnd⟩:∃ds,Hid (res=.ok ds)∧RdL w2 (Qd Lo w.heap.size w1.heap.size) ds v.vals∧NdD ds:=by
     rcases HFIN.out with ⟨_,ds,h1,h2,h3⟩ | ⟨h9,_⟩
     ·exact⟨ds,Hd h1,h2,h3⟩
     ·exact absurd hy2 h9
    have HRD:=Hd hrd;have HND:=Hd hnd;have q1:¬(j:Int)<(L:Int):=by omega
    have q2:((j:Int)<(L:Int))=False:=eq_false q1;clear HFIN HY hy2 hrd hnd;go_wp2_with fail;obtain⟨W6,hW6⟩:∃W6,W6=W3.alloc (.cells #[.int .i64 v.k,.bool v.nt,.string v.nm,.slice v.a0 v.n0 v.c0,.slice v.a1 v.n1 v.c1,.slice v.a2 v.n2 v.c2,.slice v.a3 v.n3 v.c3,.slice v.a4 v.n4 v.c4] 44):=⟨_,rfl⟩;rw [←hW6];have hk6:Keeps (fun _=>False) W3 W6:=by rw [hW6];exact (Keeps.refl _ _).alloc _
    go_ret2;rw [HR.out];have hlo:=HLO.out;have hsz:=HSZ3.out;have hr3:=HRD.out.keep HK23.out (fun _ _ _ h=>h);have hrd6:=rd_lit (w1:=W6) (k:=8) (m:=1) (hr3.mono (D':=fun b=>Lo≤b) (fun b _ h=>by unfold Qd at h;have:=HSZW.out;omega)) HND.out.len (by decide) hW6 (by omega);exact⟨_,1,1,rfl,hrd6,HK3.out.trans hk6 (fun _ _ h=>h)⟩
  ·have hy2:y=x:=by rw [HY.out,if_neg hx]
   have HR:=Hd (show res=.error x by
    rcases HFIN.out with ⟨h9,_⟩ | ⟨_,h9⟩
    ·omega
    ·rw [h9,hy2])
   have q1:((x:Int)==0)=false:=by rw [beq_eq_false_iff_ne];omega
   have q2:((x:Int) != 0)=true:=by rw [bne_iff_ne];omega
   clear HFIN HY hy2 hx;go_wp2_with fail;go_quiet (fail);go_wp2_with fail;go_ret2;rw [HR.out];exact⟨rfl,HK3.out.trans ((Keeps.refl (fun _=>False) _).drewN _) (fun _ _ h=>h)⟩
theorem QTPost.below {w w1 w':World} {res:Except Nat (List Dt)} {e:Ending} (hk:Keeps (fun _=>False) w w1) (h:QTPost w1 w.heap.size res e w'):QSPost w res e w':=by
 cases res with
 | ok ds=>
  obtain⟨a,m,c,he,hr,hk2⟩:=h;exact⟨a,m,c,he,hr,hk.trans hk2 (fun _ _ h=>h)⟩
 | error x=>exact⟨h.1,hk.trans h.2 (fun _ _ h=>h)⟩
theorem qscr_shape {w w':World} {res:Except Nat (List Dt)} {e:Ending} (h:QSPost w res e w'):∃(a:Option Addr) (m c:Nat) (x:Nat),e=.returned (.tuple #[.slice a m c,.int .i64 (x:Nat)]):=by
 cases res with
 | ok ds=>obtain⟨a,m,c,he,_⟩:=h;exact⟨a,m,c,0,he⟩
 | error x=>exact⟨none,0,0,x,h.1⟩
theorem qscript_ok (K:Nat) (hcmd:QCmdOK K):QScrOK K:=by
 intro w s deep hs hd;have HC:=Hd hcmd;have HD:=Hd hd;obtain⟨res,hres⟩:∃res,res=scriptF (commandF K) s:=⟨_,rfl⟩;rw [←hres];unfold scriptF at hres;have HRES:=Hd hres;obtain⟨S,hS⟩:∃S:ByteArray,S=⟨s.toArray⟩:=⟨_,rfl⟩;have hd2:S.data.toList=s:=by rw [hS]
 have hSs:S.size≤140737488351232:=by rw [Lib.size_eq,hd2];exact hs
 have HTK:=Hd (rtoks_any S w hSs);rw [hd2] at HTK;rw [←hS];clear hcmd hd hres hS hd2 hSs hs;go_enter Tryz.func20,Tryz.ntmps20;go_wp2_with fail;refine HTK.out.mono ?_;intro e w1 hp;cases htk:tokensF s with
 | error x=>
  rw [htk] at hp;obtain⟨h0,rfl,hk1⟩:=hp;have HRX:=Hd (show res=.error x by rw [HRES.out,htk]);have HK:=Hd hk1;have hx:((x:Int) != 0)=true:=by
   rw [bne_iff_ne];omega
  clear hk1 htk;go_wp2_with fail;go_ret2;rw [HRX.out];exact⟨rfl,HK.out⟩
 | ok T=>
  rw [htk] at hp;obtain⟨v,rfl,hT,hlow,hk1⟩:=hp;obtain⟨n,hT⟩:=hT.reads hlow;obtain⟨ta,tc,rfl,_,_⟩:=hT.shape;have HRX:=Hd (show res=treeF (commandF K) T by rw [HRES.out,htk]);have HSM:=Hd (toks_small htk);have HK:=Hd hk1;have HT:=Hd (show TksAt w1 (fun b=>w.heap.size≤b∧b<w1.heap.size) n T _ from hT.mono fun b hb h=>⟨h,hb⟩);clear hk1 htk hT hlow;go_wp2_with fail;refine (qtree_any K HC.out w1 w.heap.size n deep _ T HT.out HK.out.size HSM.out HD.out).mono ?_
  intro e w2 hp;rw [←HRX.out] at hp;have hp2:=hp.below HK.out;have HP:=Hd hp2;obtain⟨a,m,c,x,rfl⟩:=qscr_shape hp2;clear hp hp2;go_wp2_with fail;go_ret2;exact HP.out
theorem qcmd_all:∀K,QCmdOK K
 | 0=>qcommand_zero
 | K+1=>qcommand_succ K (qcmd_all K) (qscript_ok K (qcmd_all K))
theorem qparse_any (w:World) (s:List UInt8) (hs:s.length≤140737488351232) :
 Calls Tryz.prog 9 #[.string ⟨s.toArray⟩] w (QSPost w (parseF s)):=by
 obtain⟨res,hres⟩:∃res,res=parseF s:=⟨_,rfl⟩;rw [←hres];have HRES:=Hd hres;have HH:=Hd (qscript_ok 40 (qcmd_all 40) w s 1 hs rfl);clear hres;go_enter Tryz.func9,Tryz.ntmps9;go_wp2_with fail;refine HH.out.mono ?_;intro e w2 hp;rw [show scriptF (commandF 40) s=res from HRES.out.symm] at hp;have HP:=Hd hp;obtain⟨a,m,c,x,rfl⟩:=qscr_shape hp;clear hp;go_wp2_with fail;go_ret2;exact HP.out
end Go.Proofs.YtiihpbccabeoeaaGreatDoor
