/- The walk: a part. -/
import Derived.Test.YtiihpbccabeoeaaGreatDoorYPkR
import Derived.Deep.CutBlock
namespace Go.Proofs.YtiihpbccabeoeaaGreatDoor
open Go.RowKit
set_option linter.unusedVariables false
set_option maxRecDepth 100000
set_option maxHeartbeats 16000000
abbrev PCells (name:ByteArray) (op:ByteArray) (wv:Value) (q:Bool):List Value:=[.int .i64 3,.string ⟨#[]⟩,.string name,.string op,wv,.bool q]
def opB (L:Bool):ByteArray:=if L then⟨#[76]⟩ else⟨#[]⟩
theorem wordX_len (wh:Bool) (d:Nat) (q:Bool):∀(k:Nat) (r:List UInt8) (l:List Pt) (r1:List UInt8),wordX wh d q k r=.ok (l,r1)→r1.length≤r.length
 | 0,r,l,r1,h=>by cases h
 | n+1,[],l,r1,h=>by
  unfold wordX at h;obtain⟨_,rfl⟩:=Prod.mk.inj (Except.ok.inj h);exact Nat.le_refl _
 | n+1,c::t,l,r1,h=>by
  unfold wordX at h;dsimp only at h;split at h
  ·obtain⟨_,rfl⟩:=Prod.mk.inj (Except.ok.inj h);exact Nat.le_refl _
  ·cases h2:lexC (.one q) d (c::t) with
   | error e=>rw [h2] at h;cases h
   | ok x=>
    obtain⟨l2,r2⟩:=x;rw [h2] at h;obtain⟨m',h3,_⟩:=ahead_ok h;have h4:=lexD_len _ _ _ _ _ _ h2;have h5:=wordX_len wh d q n _ _ _ h3;omega
theorem op_not_brace {r:List UInt8} (h:opF r≠[]):headIs 125 r=false:=by
 cases r with
 | nil=>rfl
 | cons c t=>
  show (c==125)=false;rw [beq_eq_false_iff_ne];rintro rfl;apply h;unfold opF findF opsL;simp [List.find?,startsF]
theorem rbrace_any (N:Nat) (IH:WordOK N):BraceOK (N+1):=by
 intro B cs s i d q v raw w h hi hs hd hr hcB hB hl hN;obtain⟨res,hres⟩:∃res,res=lexC (.brace q) d (rest s i):=⟨_,rfl⟩;rw [←hres];rw [lexC_brace,long_rest] at hres;have hjl:=long_le hi;obtain⟨L,hL⟩:∃L,L=longB (rest s i):=⟨_,rfl⟩;rw [←hL] at hres hjl;obtain⟨j,hj⟩:∃j,j=i+L.toNat:=⟨_,rfl⟩;rw [←hj] at hres hjl;obtain⟨k,hk⟩:∃k,k=nameF true (rest s j):=⟨_,rfl⟩;rw [←hk,rest_drop] at hres;have hkl:k≤s.size - j:=by rw [hk,←rest_len];exact nameF_le _ _
 have hij:i≤j:=by omega
 obtain⟨va,vc,rfl,_,_⟩:=hr.shape;obtain⟨R0,hR0⟩:∃R0,R0=raw.length:=⟨_,rfl⟩;have hlw:=wtF_len raw;rw [←hR0] at hr hlw ⊢;obtain⟨i0,hi0,hz0,hz1,hz2⟩:=info_parts info_part;have hc6:=cells_part;have HSC:=Lib.hid h;have HROW:=Hd hr;have HL:=Hd hL;have HJ:=Hd hj;have HK:=Hd hk;have HR0:=Hd hR0;have HRES:=Hd hres;have lcs:=h.lt;clear h hr hL hj hk hres hR0;go_enter Tryz.func71,Tryz.ntmps71;go_upto_if 15 with (go_at_call 39;refine (see0_any cs s i _ _ (HSC.out.alloc _) (by omega) (by omega)).mono ?_;rintro e w1 ⟨rfl,q1,rfl⟩)
 go_cut [] from 10 to 46 (fun wx=>ScanAt wx cs s j ((0:Nat):Int)∧RecAt wx w.heap.size (PCells ⟨#[]⟩ (opB L) (.slice none 0 0) q)∧Keeps (fun b=>b=cs) w wx)
 case first=>
  obtain⟨W1,hW1⟩:∃W1,W1=(w.alloc (.cells #[.int .i64 3,.string ⟨#[]⟩,.string ⟨#[]⟩,.string ⟨#[]⟩,.slice none 0 0,.bool q] 67)).drewN q1:=⟨_,rfl⟩;rw [←hW1];have hs1:ScanAt W1 cs s i ((0:Nat):Int):=by rw [hW1];exact (HSC.out.alloc _).drewN _
  have hr1:RecAt W1 w.heap.size (PCells ⟨#[]⟩ ⟨#[]⟩ (.slice none 0 0) q):=by rw [hW1];exact (show RecAt (w.alloc _) w.heap.size _ from⟨_,heap_alloc_new w _⟩).keep (S:=fun _=>False) ((Keeps.refl _ _).drewN _) (fun h=>h)
  have HK1:=Hd (show Keeps (fun b=>b=cs) w W1 by rw [hW1];exact ((Keeps.refl _ _).alloc _).drewN _);have HR1:=Hd hr1;obtain⟨pb,hpb⟩:∃pb,pb=w.heap.size:=⟨_,rfl⟩;rw [←hpb] at HR1;rw [←hpb];have HPB:=Hd hpb;have hne:cs≠pb:=by omega
  clear hW1 hr1 hpb;obtain⟨c,hc⟩:∃c,c=byteAt s i:=⟨_,rfl⟩;have HC:=Hd hc.symm;clear hc;by_cases t35:c=35
  ·have f35:((c.toNat:Int)==35)=true:=test_yes (c:=c) (k:=35) t35;have hlt:i<s.size:=by
    rcases Nat.lt_or_ge i s.size with h | h
    ·exact h
    ·have h0:c=0:=by
      rw [←HC.out];unfold byteAt;rw [List.getD_eq_getElem?_getD,List.getElem?_eq_none (by rw [←Lib.size_eq];omega)];rfl
     rw [h0] at t35;exact absurd t35 (by decide)
   have hLv:L=(!headIs 125 (rest s (i+1)) && (opF (rest s (i+1))).isEmpty):=by
    rw [HL.out];unfold longB;rw [rest_cons hlt,HC.out,t35];rfl
   obtain⟨x,hx⟩:∃x,x=byteAt s (i+1):=⟨_,rfl⟩;have HX:=Hd hx.symm;have hhx:headIs 125 (rest s (i+1))=(x==125):=by
    rw [hx];rcases Nat.lt_or_ge (i+1) s.size with h | h
    ·rw [rest_cons h];rfl
    ·rw [rest_nil h];unfold byteAt;rw [List.getD_eq_getElem?_getD,List.getElem?_eq_none (by rw [←Lib.size_eq];omega)];rfl
   rw [hhx] at hLv;have HLV:=Hd hLv;rw [HC.out];clear t35 hLv hx hhx;obtain⟨d0,d1,d2,g1,g2⟩:=hs1.cells;obtain⟨w2,hw2,hs2,hk2⟩:=scan_moved0 hs1 ((i:Int)+1);go_wp2_with fail;rw [←hw2];refine (rop_any cs s (i+1) _ _ hs2 (by omega)).mono ?_;rintro e w3 ⟨O,rfl,hO,hs3,hk3⟩;have HO:=Hd hO;obtain⟨e0,e1,e2,g3,g4⟩:=hs3.cells;obtain⟨w4,hw4,hs4,hk4⟩:=scan_moved0 hs3 ((i:Int)+1 - 1);have HK4:=Hd (((HK1.out.trans hk2 (fun _ _ e=>e)).trans hk3 (fun _ _ e=>e.elim)).trans hk4 (fun _ _ e=>e))
   have HR4:=Hd (((HR1.out.keep hk2 (fun e=>hne e.symm)).keep hk3 (fun e=>e)).keep hk4 (fun e=>hne e.symm));have hs4':ScanAt w4 cs s (i:Int) ((0:Nat):Int):=by rw [show (i:Int)+1 - 1=(i:Int) by omega] at hs4;exact hs4
   rw [show (i:Int)+1 - 1=(i:Int) by omega] at hw4;clear hw2 hs2 hk2 hk3 hk4 hO hs4;go_wp2_with fail;rw [←hw4];clear hw4 e0 e1 e2 g3 g4 d0 d1 d2 g1 g2 hs3;refine (see1_any cs s i _ _ hs4' (by omega) (by omega)).mono ?_;rintro e w5 ⟨rfl,q5,rfl⟩;rw [HX.out];obtain⟨w5,hw5⟩:∃w5,w5=w4.drewN q5:=⟨_,rfl⟩;rw [←hw5];have hs5:ScanAt w5 cs s i ((0:Nat):Int):=by rw [hw5];exact hs4'.drewN _
   have HK5:=Hd (show Keeps (fun b=>b=cs) w w5 by rw [hw5];exact HK4.out.drewN _);have HR5:=Hd (show RecAt w5 pb (PCells ⟨#[]⟩ ⟨#[]⟩ (.slice none 0 0) q) by rw [hw5];exact HR4.out.keep (S:=fun _=>False) ((Keeps.refl _ _).drewN _) (fun h=>h));clear hw5 hs4';by_cases tx:x=125
   ·have fx:((x.toNat:Int) != 125)=false:=by rw [bne,show ((x.toNat:Int)==125)=true from test_yes (c:=x) (k:=125) tx];rfl
    have HLF:=Hd (show L=false by rw [HLV.out,tx];rfl);clear tx;go_wp2_with fail;have hpb:=HPB.out;subst hpb;go_meet
    case rel=>exact⟨by rw [HJ.out,HLF.out];exact hs5,by rw [HLF.out];exact HR5.out,HK5.out⟩
   ·have fx:((x.toNat:Int) != 125)=true:=by rw [bne,show ((x.toNat:Int)==125)=false from test_no (c:=x) (k:=125) tx];rfl
    by_cases tO:O.data.toList=[]
    ·obtain⟨u1,u2⟩:=ba_empty tO;have HLT:=Hd (show L=true by rw [HLV.out,beq_eq_false_iff_ne.2 tx,←HO.out,tO];rfl);clear tx tO;obtain⟨d0,d1,d2,g1,g2⟩:=hs5.cells;obtain⟨w6,hw6,hs6,hk6⟩:=scan_moved0 hs5 ((i:Int)+1);have hr6:=HR5.out.keep hk6 (fun e=>hne e.symm);obtain⟨w7,hw7,hs7,hr7,hk7⟩:=part_set hs6 hr6 hne 3 (.string ⟨#[76]⟩);obtain⟨b0,_,_,b3,b4,b5⟩:=hr6.six.1;obtain⟨⟨r0,r1,r2,r3,r4,r5⟩,z0,z1,z2,z3,z4⟩:=HR5.out.six
     have HS7:=Hd hs7;have HR7:=Hd hr7;have HW7:=Hd hw7;have HK7:=Hd ((HK5.out.trans hk6 (fun _ _ e=>e)).trans hk7 (fun b hb e=>by have:=HPB.out;omega));have HW6:=Hd hw6;clear hw6 hw7 hs6 hs7 hr6 hr7 hk6 hk7 b0 b3 b4 b5;go_wp2_with fail;rw [←HW6.out,←HW7.out];have hpb:=HPB.out;subst hpb;go_meet
     case rel=>exact⟨by rw [HJ.out,HLT.out];exact HS7.out,by rw [HLT.out];exact HR7.out,HK7.out⟩
    ·obtain⟨u1,u2⟩:=ba_full tO;have HLF:=Hd (show L=false by
      rw [HLV.out,←HO.out];cases h:O.data.toList with
      | nil=>exact absurd h tO
      | cons a b=>simp)
     clear tx tO;go_wp2_with fail;have hpb:=HPB.out;subst hpb;go_meet
     case rel=>exact⟨by rw [HJ.out,HLF.out];exact hs5,by rw [HLF.out];exact HR5.out,HK5.out⟩
  ·have f35:((c.toNat:Int)==35)=false:=test_no (c:=c) (k:=35) t35;have HLF:=Hd (show L=false by
    rw [HL.out];unfold longB;rcases Nat.lt_or_ge i s.size with h | h
    ·rw [rest_cons h,HC.out];show ((c==35) && _ && _)=false;rw [beq_eq_false_iff_ne.2 t35];rfl
    ·rw [rest_nil h];rfl)
   rw [HC.out];clear t35;go_wp2_with fail;have hpb:=HPB.out;subst hpb;go_meet
   case rel=>exact⟨by rw [HJ.out,HLF.out];exact hs1,by rw [HLF.out];exact HR1.out,HK1.out⟩
 case rest=>
  obtain⟨hs1,hr1,hk1⟩:=hcut;obtain⟨pb,hpb⟩:∃pb,pb=w.heap.size:=⟨_,rfl⟩;rw [←hpb] at hr1 ⊢;have HPB:=Hd hpb;have hne:cs≠pb:=by omega
  have HS1:=Hd hs1;have HR1:=Hd hr1;have HK1:=Hd hk1;clear hs1 hr1 hk1 hpb;go_wp2_with fail;refine (rname_any cs s j _ _ HS1.out (by omega) hjl k HK.out.symm).mono ?_;rintro e w2 ⟨R,rfl,hR,hs2,hk2⟩;have hr2:=HR1.out.keep hk2 (fun e=>hne e.symm);have HKW2:=Hd (HK1.out.trans hk2 (fun _ _ e=>e));obtain⟨w3,hw3,hs3,hr3,hk3⟩:=part_set hs2 hr2 hne 2 (.string R);obtain⟨⟨r0,r1,r2,r3,r4,r5⟩,z0,z1,z2,z3,z4⟩:=hr2.six
  have HNM:=Hd hR;have HS3:=Hd hs3;have HR3:=Hd (show RecAt w3 pb (PCells R (opB L) (.slice none 0 0) q) from hr3);have HW3:=Hd hw3;have HKW3:=Hd (HKW2.out.trans hk3 (fun b hb e=>by have:=HPB.out;omega));have hRl:R.data.toList.length=k:=by rw [hR,List.length_take,rest_len];omega
  have HRL:=Hd hRl;clear hR hs2 hk2 hr2 hw3 hs3 hr3 hk3 hRl;rcases Nat.eq_zero_or_pos k with hk0 | hk0
  ·have hRe:R.data.toList=[]:=List.eq_nil_of_length_eq_zero (by rw [HRL.out];exact hk0);obtain⟨u1,u2⟩:=ba_empty hRe;have HE2:=Hd (show res=.error 2 by rw [HRES.out,if_pos hk0]);clear hRe;go_wp2_with fail;rw [←HW3.out];refine (rfail_any cs s (j+k) 0 2 _ HS3.out).mono ?_;rintro e w4 ⟨rfl,hs4,hk4⟩;have HS4:=Hd hs4;have HK4:=Hd (HKW3.out.trans hk4 (fun _ _ e=>e));clear hs4 hk4;go_wp2_with fail;go_ret;rw [HE2.out]
   exact⟨by decide,_,j+k,raw,rfl,by omega,HS4.out,HROW.out.keep HK4.out (fun _ _ e=>by omega),by omega,HK4.out.mono fun _ _ e=>.inl e⟩
  obtain⟨u1,u2⟩:=ba_full (s:=R) (by intro h;rw [h] at HRL;have:=HRL.out;simp at this;omega);have HRES2:=Hd (show res=_ by rw [HRES.out,if_neg (by omega)]);go_wp2_with fail;rw [←HW3.out];refine (over_any cs s (j+k) _ _ HS3.out).mono ?_;rintro e w4 ⟨rfl,q4,rfl⟩;obtain⟨W4,hW4⟩:∃W4,W4=w3.drewN q4:=⟨_,rfl⟩;rw [←hW4];have hs4:ScanAt W4 cs s ((j+k:Nat):Int) ((0:Nat):Int):=by rw [hW4];exact HS3.out.drewN _
  have HK4:=Hd (show Keeps (fun b=>b=cs) w W4 by rw [hW4];exact HKW3.out.drewN _);have hr4:RecAt W4 pb (PCells R (opB L) (.slice none 0 0) q):=by rw [hW4];exact HR3.out.keep (S:=fun _=>False) ((Keeps.refl _ _).drewN _) (fun h=>h)
  have HS4:=Hd hs4;have HR4:=Hd hr4;obtain⟨P,hP⟩:∃P,P=opB L:=⟨_,rfl⟩;rw [←hP] at HR4 hr4;have HP:=Hd hP;clear hP hW4 r0 r1 r2 r3 r4 r5 z0 z1 z2 z3 z4;by_cases hge:s.size≤j+k
  ·have HOV:=Hd (show decide (s.size≤j+k)=true from decide_eq_true hge);have HE2:=Hd (show res=.error 2 by
    rw [HRES2.out,rest_nil hge];rfl)
   rw [HOV.out];go_wp2_with fail;refine (rfail_any cs s (j+k) 0 2 _ HS4.out).mono ?_;rintro e w5 ⟨rfl,hs5,hk5⟩;have HS5:=Hd hs5;have HK5:=Hd (HK4.out.trans hk5 (fun _ _ e=>e));clear hs5 hk5;go_wp2_with fail;go_ret;rw [HE2.out];exact⟨by decide,_,j+k,raw,rfl,by omega,HS5.out,HROW.out.keep HK5.out (fun _ _ e=>by omega),by omega,HK5.out.mono fun _ _ e=>.inl e⟩
  have hlt:j+k<s.size:=by omega
  have HOV:=Hd (show decide (s.size≤j+k)=false from decide_eq_false (by omega));rw [HOV.out];obtain⟨⟨r0,r1,r2,r3,r4,r5⟩,z0,z1,z2,z3,z4⟩:=hr4.six;clear hs4 hr4;go_upto_if 62 with fail;go_cut [] from 57 to 90 (fun wx=>∃(I n bad:Nat) (O:ByteArray) (wd:List Pt) (xv:Value),ScanAt wx cs s I (bad:Int)∧RecAt wx pb (PCells R O xv q)∧PtsAt wx (fun b=>w.heap.size≤b) n wd xv∧Keeps (fun b=>b=cs) w wx∧((bad=0∧j+k≤I∧I≤s.size∧res=if headIs 125 (rest s I) then .ok ([.mk 3 [] ((rest s j).take k) O.data.toList wd q],rest s (I+1)) else .error 2)∨(bad≠0∧I≤s.size+(100 - d)∧res=.error bad)))
  case first=>
   cases L with
   | true=>
    obtain⟨u4,u3⟩:=ba_full (s:=P) (by rw [HP.out];decide);rw [u4];have HRR:=Hd (show res=if headIs 125 (rest s (j+k)) then .ok ([.mk 3 [] ((rest s j).take k) P.data.toList [] q],rest s (j+k+1)) else .error 2 by
     rw [HRES2.out,rest_tail,Bool.or_true,HP.out];rfl)
    go_wp2_with fail;go_meet
    case rel=>exact⟨j+k,0,0,P,[],_,HS4.out,HR4.out,PtsAt.nil _ _ 0,HK4.out,.inl ⟨rfl,Nat.le_refl _,by omega,HRR.out⟩⟩
   | false=>
    obtain⟨u4,u3⟩:=ba_empty (s:=P) (by rw [HP.out];rfl);rw [u4];go_wp2_with fail;refine (rop_any cs s (j+k) _ _ HS4.out (by omega)).mono ?_;rintro e w5 ⟨O,rfl,hO,hs5,hk5⟩;have hr5:=HR4.out.keep hk5 (fun e=>e);have HKW5:=Hd (HK4.out.trans hk5 (fun _ _ e=>e.elim));obtain⟨w6,hw6,hs6,hr6,hk6⟩:=part_set hs5 hr5 hne 3 (.string O);clear r0 r1 r2 r3 r4 r5 z0 z1 z2 z3 z4;obtain⟨⟨r0,r1,r2,r3,r4,r5⟩,z0,z1,z2,z3,z4⟩:=hr5.six
    have HOP:=Hd hO;have HS6:=Hd hs6;have HR6:=Hd (show RecAt w6 pb (PCells R O (.slice none 0 0) q) from hr6);have HW6:=Hd hw6;have HKW6:=Hd (HKW5.out.trans hk6 (fun b hb e=>by have:=HPB.out;omega));have hOle:O.data.toList.length≤s.size - (j+k):=by rw [hO,←rest_len];exact opF_le _
    clear hO hs5 hk5 hr5 hw6 hs6 hr6 hk6;by_cases hOe:O.data.toList=[]
    ·obtain⟨u5,u6⟩:=ba_empty hOe;have HRR:=Hd (show res=if headIs 125 (rest s (j+k)) then .ok ([.mk 3 [] ((rest s j).take k) O.data.toList [] q],rest s (j+k+1)) else .error 2 by
      rw [HRES2.out,rest_tail,←HOP.out,hOe];rfl)
     clear hOe;go_wp2_with fail;rw [←HW6.out];have hpb:=HPB.out;go_meet
     case rel=>exact⟨j+k,0,0,O,[],_,HS6.out,HR6.out,PtsAt.nil _ _ 0,HKW6.out,.inl ⟨rfl,Nat.le_refl _,by omega,HRR.out⟩⟩
    ·obtain⟨u5,u6⟩:=ba_full hOe;have hOpos:0<O.data.toList.length:=List.length_pos_iff.2 hOe;have HOZ:=Hd (Lib.size_eq O);have h125:headIs 125 (rest s (j+k))=false:=op_not_brace (by rw [←HOP.out];exact hOe);obtain⟨J,hJ⟩:∃J,J=j+k+O.size:=⟨_,rfl⟩;have HRR:=Hd (show res=if d=40 then .error 3 else match lexC (.br q) (d+1) (rest s J) with
      | .error e=>.error e
      | .ok (l,r3)=>.ok ([.mk 3 [] ((rest s j).take k) O.data.toList (tidyF l) q],r3) by
      rw [HRES2.out,h125,←HOP.out];simp only [Bool.false_eq_true,if_false,Bool.or_false];rw [if_neg (by simpa using hOe),rest_drop,←HOZ.out,hJ];rfl)
     have hOz2:O.size=O.data.toList.length:=HOZ.out;have hJs:J≤s.size:=by omega
     have hJI:j+k<J:=by omega
     have ew:((j+k:Nat):Int)+(O.size:Int)=(J:Int):=by omega
     have HJJ:=Hd hJ;have HEW:=Hd ew;clear hOe h125 hOpos hJ hOz2 ew;go_wp2_with fail;rw [←HW6.out];clear r0 r1 r2 r3 r4 r5 z0 z1 z2 z3 z4;obtain⟨⟨r0,r1,r2,r3,r4,r5⟩,z0,z1,z2,z3,z4⟩:=HR6.out.six;obtain⟨c0,c1,c2,f1,f2⟩:=HS6.out.cells;have lt6:=HS6.out.lt;have hpbl:=HR6.out.lt;go_region;have hwr:wrap64 ((j:Int)+(k:Int)+(O.size:Int))=(J:Int):=(IntWalk.wrap64_in _ (by have:=HJJ.out;omega)).trans (by have:=HJJ.out;omega)
     rw [hwr];obtain⟨w7,hw7⟩:∃w7,w7=(w6.setCell ⟨cs,1,none⟩ (.int .i64 (J:Int))).drew:=⟨_,rfl⟩;rw [←hw7];obtain⟨hs7a,hk7a⟩:=rmoved HS6.out (j:=(J:Int)) (J:=J) rfl;have hs7:ScanAt w7 cs s J ((0:Nat):Int):=by rw [hw7];exact hs7a.keep (S:=fun _=>False) (Keeps.refl _ _).drew (fun h=>h)
     have hk7:Keeps (fun b=>b=cs) w6 w7:=by rw [hw7];exact hk7a.drew
     have HR7:=Hd (HR6.out.keep hk7 (fun e=>hne e.symm));have HKW7:=Hd (HKW6.out.trans hk7 (fun _ _ e=>e));have HS7:=Hd hs7;clear r0 r1 r2 r3 r4 r5 z0 z1 z2 z3 z4 c0 c1 c2 f1 f2 hwr hw7 hs7a hk7a hs7 hk7;by_cases h40:d=40
     ·have HE3:=Hd (show res=.error 3 by rw [HRR.out,if_pos h40]);have p40:(40:Int)≤(d:Int):=by omega
      clear h40;go_wp2_with fail;refine (rfail_any cs s J 0 3 _ HS7.out).mono ?_;rintro e w8 ⟨rfl,hs8,hk8⟩;have HS8:=Hd hs8;have HK8:=Hd (HKW7.out.trans hk8 (fun _ _ e=>e));clear hs8 hk8;go_wp2_with fail;go_ret;rw [HE3.out];exact⟨by decide,_,J,raw,rfl,by omega,HS8.out,HROW.out.keep HK8.out (fun _ _ e=>by omega),by omega,HK8.out.mono fun _ _ e=>.inl e⟩
     ·have p40:¬(40:Int)≤(d:Int):=by omega
      have HRR2:=Hd (show res=_ by rw [HRR.out,if_neg h40]);obtain⟨hb1,hb2⟩:=br_word (d+1) q (by omega) (rest s J).length (rest s J) (Nat.le_refl _);have hcall:=IH cs s J (d+1) true q w7 HS7.out hJs hs (by omega) (by have:=HKW7.out.size;omega) (by omega);rw [show ((d+1:Nat):Int)=(d:Int)+1 from by omega] at hcall;have HCALL:=Hd hcall;have HB1:=Hd hb1;have HB2:=Hd hb2;clear h40 hcall hb1 hb2;go_wp2_with fail
      refine HCALL.out.mono ?_;intro e w8 hp;cases hwx:wordXC true (d+1) q (rest s J) with
      | error x=>
       rw [hwx] at hp;obtain⟨hx0,v,n,I,l,he,hI,hs8,hp8,hk8⟩:=hp;obtain⟨xa,xc,rfl,_,_⟩:=hp8.shape;subst he;have HRX:=Hd (show res=.error x by rw [HRR2.out,HB1.out,hwx]);obtain⟨xl,hxl⟩:∃xl,xl=l.length:=⟨_,rfl⟩;rw [←hxl] at hp8 ⊢;have hr8:=HR7.out.keep hk8 (fun e=>hne e.symm);have hpb7:=HR7.out.lt;obtain⟨w9,hw9,hs9,hr9,hk9⟩:=part_set hs8 hr8 hne 4 (.slice xa xl xc);obtain⟨⟨r0,r1,r2,r3,r4,r5⟩,z0,z1,z2,z3,z4⟩:=hr8.six
       have HS9:=Hd hs9;have HR9:=Hd (show RecAt w9 pb (PCells R O (.slice xa xl xc) q) from hr9);have HW9:=Hd hw9;have HKW9:=Hd ((HKW7.out.trans hk8 (fun _ _ e=>e)).trans hk9 (fun b hb e=>by have:=HPB.out;omega));have HP9:=Hd (show PtsAt w9 (fun b=>w.heap.size≤b) n l (.slice xa xl xc) from (hp8.keep hk9 (fun b hb h e=>by omega)).mono (fun b hb h=>by have:=HKW7.out.size;omega));clear hs8 hp8 hk8 hw9 hs9 hr9 hk9 hxl hr8
       go_wp2_with fail;rw [←HW9.out];go_meet
       case rel=>exact⟨I,n,x,O,l,_,HS9.out,HR9.out,HP9.out,HKW9.out,.inr ⟨hx0,by omega,HRX.out⟩⟩
      | ok lr=>
       obtain⟨l,r1⟩:=lr;rw [hwx] at hp;obtain⟨v,n,I,he,hI,hr8,hs8,hp8,hk8⟩:=hp;obtain⟨xa,xc,rfl,_,_⟩:=hp8.shape;subst he;have hJI2:j+k≤I:=by
        have h1:=wordX_len _ _ _ _ _ _ _ hwx;rw [←hr8,rest_len,rest_len] at h1;omega
       have HRX:=Hd (show res=if headIs 125 (rest s I) then .ok ([.mk 3 [] ((rest s j).take k) O.data.toList (tidyF l) q],rest s (I+1)) else .error 2 by
        rw [HRR2.out,HB1.out,hwx];dsimp only;cases hr1:r1 with
        | nil=>rw [hr8,hr1];rfl
        | cons c t=>
         have hc:=HB2.out l c t (by rw [hwx,hr1]);rw [hr8,hr1,hc];have ht:rest s (I+1)=t:=by rw [←rest_tail,hr8,hr1];rfl
         rw [ht];rfl)
       obtain⟨xl,hxl⟩:∃xl,xl=(tidyF l).length:=⟨_,rfl⟩;rw [←hxl] at hp8 ⊢;have hr8b:=HR7.out.keep hk8 (fun e=>hne e.symm);have hpb7:=HR7.out.lt;obtain⟨w9,hw9,hs9,hr9,hk9⟩:=part_set hs8 hr8b hne 4 (.slice xa xl xc);obtain⟨⟨r0,r1x,r2,r3,r4,r5⟩,z0,z1,z2,z3,z4⟩:=hr8b.six;have HS9:=Hd hs9;have HR9:=Hd (show RecAt w9 pb (PCells R O (.slice xa xl xc) q) from hr9);have HW9:=Hd hw9;have HKW9:=Hd ((HKW7.out.trans hk8 (fun _ _ e=>e)).trans hk9 (fun b hb e=>by have:=HPB.out;omega))
       have HP9:=Hd (show PtsAt w9 (fun b=>w.heap.size≤b) n (tidyF l) (.slice xa xl xc) from (hp8.keep hk9 (fun b hb h e=>by omega)).mono (fun b hb h=>by have:=HKW7.out.size;omega));clear hs8 hp8 hk8 hw9 hs9 hr9 hk9 hxl hr8b;go_wp2_with fail;rw [←HW9.out];go_meet
       case rel=>exact⟨I,n,0,O,tidyF l,_,HS9.out,HR9.out,HP9.out,HKW9.out,.inl ⟨rfl,hJI2,hI,HRX.out⟩⟩
  case rest=>
   obtain⟨I,n,bad,O,wd,xv,hs1,hr1,hp1,hk1,hfin⟩:=hcut;obtain⟨xa,xc,rfl,_,_⟩:=hp1.shape;obtain⟨xl,hxl⟩:∃xl,xl=wd.length:=⟨_,rfl⟩;rw [←hxl] at hp1 hr1;have hIb:I≤s.size+100:=by rcases hfin with ⟨_,_,h,_⟩ | ⟨_,h,_⟩<;>omega
   obtain⟨c,hc⟩:∃c,c=byteAt s I:=⟨_,rfl⟩;have HC:=Hd hc.symm;have HH:=Hd (show headIs 125 (rest s I)=(c==125) by
    rw [hc];rcases Nat.lt_or_ge I s.size with h | h
    ·rw [rest_cons h];rfl
    ·rw [rest_nil h];unfold byteAt;rw [List.getD_eq_getElem?_getD,List.getElem?_eq_none (by rw [←Lib.size_eq];omega)];rfl)
   have HFIN:=Hd hfin;have HS:=Hd hs1;have HR:=Hd hr1;have HP:=Hd hp1;have HKX:=Hd hk1;clear hc hfin hs1 hr1 hp1 hk1 hxl r0 r1 r2 r3 r4 r5 z0 z1 z2 z3 z4;go_wp2_with fail;refine (see0_any cs s I _ _ HS.out (by omega) (by omega)).mono ?_;rintro e w5 ⟨rfl,q5,rfl⟩;rw [HC.out];obtain⟨W,hW⟩:∃W,W=wc.drewN q5:=⟨_,rfl⟩;rw [←hW];have hsW:ScanAt W cs s I (bad:Int):=by rw [hW];exact HS.out.drewN _
   have HRW:=Hd (show RecAt W pb (PCells R O (.slice xa xl xc) q) by rw [hW];exact HR.out.keep (S:=fun _=>False) ((Keeps.refl _ _).drewN _) (fun h=>h));have HPW:=Hd (show PtsAt W (fun b=>w.heap.size≤b) n wd (.slice xa xl xc) by rw [hW];exact HP.out.keep (S:=fun _=>False) ((Keeps.refl _ _).drewN _) (fun _ _ _ h=>h));have HKW:=Hd (show Keeps (fun b=>b=cs) w W by rw [hW];exact HKX.out.drewN _);clear hW
   by_cases t125:c=125
   ·have fx:((c.toNat:Int) != 125)=false:=by rw [bne,show ((c.toNat:Int)==125)=true from test_yes (c:=c) (k:=125) t125];rfl
    have hIs:I<s.size:=by
     rcases Nat.lt_or_ge I s.size with h | h
     ·exact h
     ·have h0:c=0:=by
       rw [←HC.out];unfold byteAt;rw [List.getD_eq_getElem?_getD,List.getElem?_eq_none (by rw [←Lib.size_eq];omega)];rfl
      rw [h0] at t125;exact absurd t125 (by decide)
    have HHT:=Hd (show headIs 125 (rest s I)=true by rw [HH.out,t125];rfl);obtain⟨c0,c1,c2,f1,f2⟩:=hsW.cells;have ltW:=hsW.lt;have hpbl:=HRW.out.lt;obtain⟨hs4,hk4⟩:=rmoved hsW (j:=(I:Int)+1) (J:=I+1) (by omega);have hr4:=HRW.out.keep hk4 (fun e=>hne e.symm);have HK4:=Hd (HKW.out.trans hk4 (fun _ _ e=>e));have hB4:B≤(W.setCell ⟨cs,1,none⟩ (.int .i64 ((I:Int)+1))).heap.size:=Nat.le_trans hB HK4.out.size
    have hR4:=HROW.out.keep HK4.out (fun _ _ e=>by omega);have hp4:PtsAt (W.setCell ⟨cs,1,none⟩ (.int .i64 ((I:Int)+1))) (fun b=>B≤b∧(Value.slice va R0 vc).ownBlock≠some b) n wd (.slice xa xl xc):=(HPW.out.keep hk4 (fun b hb h e=>by omega)).mono (fun b hb h=>⟨by omega,fun e=>by have:=HROW.out.1.lt e;omega⟩);obtain⟨xs,hown,hF⟩:=hR4.more (x:=.mk 3 [] ((rest s j).take k) O.data.toList wd q) hB4 (Keeps.refl _ _) hp4
    have e1:strV ((rest s j).take k)=.string R:=strV_of HNM.out;have e2:strV O.data.toList=.string O:=strV_of rfl;simp only [cellsP,Pt.kind,Pt.text,Pt.name,Pt.op,Pt.quoted,e1,e2] at hF;have HF:=Hd hF;have HS4:=Hd hs4;rw [←HR0.out] at hown HF;obtain⟨⟨r0,r1,r2,r3,r4,r5⟩,z0,z1,z2,z3,z4⟩:=HRW.out.six;have hR0l:R0≤1000000:=by omega
    have hz5:(W.setCell ⟨cs,1,none⟩ (.int .i64 ((I:Int)+1))).heap.size=W.heap.size:=by simp [World.setCell]
    have hb2:=heap_alloc_new (W.setCell ⟨cs,1,none⟩ (.int .i64 ((I:Int)+1))) (.cells #[.int .i64 3,.string ⟨#[]⟩,.string R,.string O,.slice xa xl xc,.bool q] 67);rw [hz5] at hb2;have HB2:=Hd hb2;clear t125 hs4 hk4 hr4 hR4 hp4 hF e1 e2 hb2 hz5;go_wp2_with (at_builtin;refine wpList_append_lies _ rfl (.tmp 104) (.tmp 106) _ rfl 0 67 i0 _ 6 88 Tryz.underlying29 hi0 hz0 hz1 hz2 rfl (by omega) (.slice va R0 vc) R0 xs rfl (hown.alloc _) ⟨W.heap.size,0,none⟩ 1 1 [.int .i64 3,.string ⟨#[]⟩,.string R,.string O,.slice xa xl xc,.bool q] rfl rfl (World.news_of_block (cs:=#[.int .i64 3,.string ⟨#[]⟩,.string R,.string O,.slice xa xl xc,.bool q]) (t:=67) (fr:=(0,0)) HB2.out) (by simp [Value.oneCell']) (by omega) (by unfold maxLen;omega) (by omega) (by simp) (W.heap.size+1) (by simp [World.setCell]) ?_;intro gg cap w5 hown2 hgrow hat hlt2)
    go_ret;obtain⟨hrow,hkeep⟩:=HF.out gg cap w5 _ hown2 hgrow (by simpa [World.setCell] using hat);rcases HFIN.out with ⟨rfl,_,_,hres⟩ | ⟨hb0,_,hres⟩
    ·rw [hres,HHT.out];exact⟨_,I+1,rfl,by omega,rfl,HS4.out.keep hkeep (fun e=>by omega),hrow,by rw [wtF_append];simp only [wtF,Pt.text,List.length_nil];omega,(HK4.out.mono fun _ _ e=>.inl e).trans hkeep (fun _ _ e=>.inr e)⟩
    ·rw [hres];exact⟨hb0,_,I+1,_,rfl,by omega,HS4.out.keep hkeep (fun e=>by omega),hrow,by rw [wtF_append];simp only [wtF,Pt.text,List.length_nil];omega,(HK4.out.mono fun _ _ e=>.inl e).trans hkeep (fun _ _ e=>.inr e)⟩
   ·have fx:((c.toNat:Int) != 125)=true:=by rw [bne,show ((c.toNat:Int)==125)=false from test_no (c:=c) (k:=125) t125];rfl
    have HHF:=Hd (show headIs 125 (rest s I)=false by rw [HH.out];exact beq_eq_false_iff_ne.2 t125);clear t125;go_wp2_with fail;refine (rfail_any cs s I bad 2 _ hsW).mono ?_;rintro e w6 ⟨rfl,hs6,hk6⟩;have HS6:=Hd hs6;have HK6:=Hd (HKW.out.trans hk6 (fun _ _ e=>e));clear hs6 hk6;go_wp2_with fail;go_ret;rcases HFIN.out with ⟨rfl,_,hI2,hres⟩ | ⟨hb0,hI2,hres⟩
    ·rw [hres,HHF.out];exact⟨by decide,_,I,raw,rfl,by omega,HS6.out,HROW.out.keep HK6.out (fun _ _ e=>by omega),by omega,HK6.out.mono fun _ _ e=>.inl e⟩
    ·rw [hres];have hs6:=HS6.out;rw [if_neg hb0] at hs6;exact⟨hb0,_,I,raw,rfl,hI2,hs6,HROW.out.keep HK6.out (fun _ _ e=>by omega),by omega,HK6.out.mono fun _ _ e=>.inl e⟩
theorem RPost.from {w w1 w':World} {B cs bd:Nat} {s:ByteArray} {raw:List Pt} {res:Res} {e:Ending} (h:RPost w1 B cs s bd raw res e w') (hk:Keeps (fun b=>b=cs) w w1):∃(a:Option Addr) (n c:Nat),e=.returned (.slice a n c)∧RPost w B cs s bd raw res (.returned (.slice a n c)) w':=by
 cases res with
 | error x=>
  obtain⟨h0,v,i,raw',he,h1,h2,h3,h4,h5⟩:=h;obtain⟨a,c,rfl,_,_⟩:=h3.shape;exact⟨a,_,c,he,h0,_,i,raw',rfl,h1,h2,h3,h4,(hk.mono fun _ _ e=>.inl e).trans h5 fun _ _ e=>e⟩
 | ok lr=>
  obtain⟨l,r⟩:=lr;obtain⟨v,i,he,h1,h2,h3,h4,h5,h6⟩:=h;obtain⟨a,c,rfl,_,_⟩:=h4.shape;exact⟨a,_,c,he,_,i,rfl,h1,h2,h3,h4,h5,(hk.mono fun _ _ e=>.inl e).trans h6 fun _ _ e=>e⟩
theorem rdollar_any (N:Nat) (IH:BraceOK N):DolOK N:=by
 intro B cs s I d q v raw w h hI hs hd hr hcB hB hl hN;obtain⟨res,hres⟩:∃res,res=lexC (.dol q) d (rest s (I+1)):=⟨_,rfl⟩;rw [←hres];rw [lexC_dol,rest_tail] at hres;obtain⟨va,vc,rfl,_,_⟩:=hr.shape;obtain⟨R0,hR0⟩:∃R0,R0=raw.length:=⟨_,rfl⟩;have hlw:=wtF_len raw;rw [←hR0] at hr hlw ⊢;obtain⟨i0,hi0,hz0,hz1,hz2⟩:=info_parts info_part;have hc6:=cells_part;have lcs:=h.lt;obtain⟨c0,c1,c2,f1,f2⟩:=h.cells;obtain⟨w1,hw1,hs1,hk1⟩:=scan_moved0 h ((I:Int)+1)
 have HW1:=Hd hw1;have HS1:=Hd (show ScanAt w1 cs s ((I+1:Nat):Int) ((0:Nat):Int) from hs1);have HK1:=Hd hk1;have HROW:=Hd hr;have HR0:=Hd hR0;have HRES:=Hd hres;obtain⟨c,hc⟩:∃c,c=byteAt s (I+1):=⟨_,rfl⟩;have HC:=Hd hc.symm;obtain⟨K,hK⟩:∃K,K=runF (rest s (I+1)):=⟨_,rfl⟩;have HRUN:=Hd hK.symm;have hKl:K≤s.size - (I+1):=by rw [hK,←rest_len];exact runF_le _
 have HHD:=Hd (show ∀k:UInt8,k≠0→headIs k (rest s (I+1))=(c==k) from fun k hk=>by
  rw [hc];rcases Nat.lt_or_ge (I+1) s.size with h | h
  ·rw [rest_cons h];rfl
  ·rw [rest_nil h];unfold byteAt;rw [List.getD_eq_getElem?_getD,List.getElem?_eq_none (by rw [←Lib.size_eq];omega)];exact (beq_eq_false_iff_ne.2 (fun e=>hk e.symm)).symm)
 have HNAME:=Hd (show nameF false (rest s (I+1))=if K > 0 then K else if digitB c then 1 else if specialB c then 1 else 0 by
  unfold nameF;rw [←hK];split
  ·rfl
  ·rcases Nat.lt_or_ge (I+1) s.size with h | h
   ·rw [rest_cons h,←hc];rfl
   ·rw [rest_nil h];have h0:c=0:=by
     rw [hc];unfold byteAt;rw [List.getD_eq_getElem?_getD,List.getElem?_eq_none (by rw [←Lib.size_eq];omega)];rfl
    rw [h0];rfl)
 have HRUNC:=Hd (show 0<K→letterB c=true from fun hpos=>by
  rw [hc];rcases Nat.lt_or_ge (I+1) s.size with h | h
  ·rw [hK,rest_cons h,runF_cons] at hpos;cases hl2:letterB (byteAt s (I+1)) with
   | true=>rfl
   | false=>rw [hl2] at hpos;simp at hpos
  ·rw [hK,rest_nil h] at hpos;exact absurd hpos (by decide))
 have HIN:=Hd (show c≠0→I+1<s.size from fun hc0=>by
  rcases Nat.lt_or_ge (I+1) s.size with h | h
  ·exact h
  ·exfalso;apply hc0;rw [hc];unfold byteAt;rw [List.getD_eq_getElem?_getD,List.getElem?_eq_none (by rw [←Lib.size_eq];omega)];rfl)
 have HVAR0:=Hd (show (letterB c || digitB c || specialB c)=true→∀k,k=nameF false (rest s (I+1))→k≠0→res=.ok ([.mk 3 [] ((rest s (I+1)).take k) [] [] q],(rest s (I+1)).drop k) from fun hcl k hk hk0=>by
  have hcc:=all_u8 (P:=fun c=>!(letterB c || digitB c || specialB c) || (!(c==123) && !(c==40))) (by decide +kernel) c;rw [hcl] at hcc;simp only [Bool.not_true,Bool.false_or,Bool.and_eq_true,Bool.not_eq_true'] at hcc;rw [HRES.out,HHD.out 123 (by decide),hcc.1,if_neg (by simp),if_neg,HHD.out 40 (by decide),hcc.2,if_neg (by simp),←hk,if_neg hk0];intro h2;have h3:headIs 40 (rest s (I+1))=true:=by
   cases hr2:rest s (I+1) with
   | nil=>rw [hr2] at h2;cases h2
   | cons a b=>
    rw [hr2] at h2;unfold startsF at h2;simp only [Bool.and_eq_true,beq_iff_eq] at h2;rw [←h2.1];rfl
  rw [HHD.out 40 (by decide),hcc.2] at h3;cases h3)
 clear h hr hres hR0 hw1 hs1 hk1 hc hK;by_cases hpos:0<K
 ·have HVAR:=Hd (HVAR0.out (by rw [HRUNC.out hpos];rfl) K (by rw [HNAME.out,if_pos hpos]) (by omega));have p1:(0:Int)<(K:Int):=by omega
  have p2:(I:Int)+1+(K:Int)≤(s.size:Int):=by omega
  have p3:(I:Int)+1≤(I:Int)+1+(K:Int):=by omega
  have p4:((I:Int)+1+(K:Int)).toNat=I+1+K:=by omega
  have p5:((I:Int)+1).toNat=I+1:=by omega
  go_enter Tryz.func45,Tryz.ntmps45;go_wp2_with fail;rw [←HW1.out];refine (see0_any cs s (I+1) _ _ HS1.out (by omega) (by omega)).mono ?_;rintro e w2 ⟨rfl,q2,rfl⟩;rw [HC.out];obtain⟨W2,hW2⟩:∃W2,W2=w1.drewN q2:=⟨_,rfl⟩;rw [←hW2];have hs2:ScanAt W2 cs s ((I+1:Nat):Int) ((0:Nat):Int):=by rw [hW2];exact HS1.out.drewN _
  have HK2:=Hd (show Keeps (fun b=>b=cs) w W2 by rw [hW2];exact HK1.out.drewN _);obtain⟨d0,d1,d2,g1,g2⟩:=hs2.cells;clear hW2;go_wp2_with fail;go_quiet ((go_at_call 69;exact Calls.quiet_of_same ((nameLen_any s (I+1) _ (by omega) (by omega)).mono (fun e w' hh=>⟨by rw [hh.1,HRUN.out],hh.2.symm⟩))));obtain⟨W3,hW3⟩:∃W3,W3=W2.drewN nq:=⟨_,rfl⟩;rw [←hW3];have hs3:ScanAt W3 cs s ((I+1:Nat):Int) ((0:Nat):Int):=by rw [hW3];exact hs2.drewN _
  have HK3:=Hd (show Keeps (fun b=>b=cs) w W3 by rw [hW3];exact HK2.out.drewN _);clear hW3 d0 d1 d2 g1 g2 hs2;have HOK:=Hd (show res=.ok ([.mk 3 [] ((rest s (I+1)).take K) [] [] q],rest s (I+1+K)) by rw [HVAR.out,rest_drop]);obtain⟨c0,c1,c2,f1,f2⟩:=hs3.cells;go_wp2_with fail;go_quiet (fail);obtain⟨W4,hW4⟩:∃W4,W4=W3.drewN nq:=⟨_,rfl⟩;rw [←hW4];have hs4:ScanAt W4 cs s ((I+1:Nat):Int) ((0:Nat):Int):=by rw [hW4];exact hs3.drewN _
  have HK4:=Hd (show Keeps (fun b=>b=cs) w W4 by rw [hW4];exact HK3.out.drewN _);clear hW4 c0 c1 c2 f1 f2;obtain⟨c0,c1,c2,f1,f2⟩:=hs4.cells;have ltW:=hs4.lt;obtain⟨hs5,hk5⟩:=rmoved hs4 (j:=(I:Int)+1+(K:Int)) (J:=I+1+K) (by omega);have HK5:=Hd (HK4.out.trans hk5 (fun _ _ e=>e));have hB5:B≤(W4.setCell ⟨cs,1,none⟩ (.int .i64 ((I:Int)+1+(K:Int)))).heap.size:=Nat.le_trans hB HK5.out.size;have hR5:=HROW.out.keep HK5.out (fun _ _ e=>by omega)
  obtain⟨xs,hown,hF⟩:=hR5.more0 hB5 (Keeps.refl _ _) (x:=.mk 3 [] ((rest s (I+1)).take K) [] [] q) rfl;have e1:strV ((rest s (I+1)).take K)=.string (s.extract (I+1) (I+1+K)):=strV_of (by rw [Lib.extract_data];unfold rest;rw [show I+1+K - (I+1)=K by omega]);simp only [cellsP,Pt.kind,Pt.text,Pt.name,Pt.op,Pt.quoted,e1] at hF;have HF:=Hd hF;have HS5:=Hd hs5;rw [←HR0.out] at hown HF;have hz5:(W4.setCell ⟨cs,1,none⟩ (.int .i64 ((I:Int)+1+(K:Int)))).heap.size=W4.heap.size:=by simp [World.setCell]
  have hb2:=heap_alloc_new (W4.setCell ⟨cs,1,none⟩ (.int .i64 ((I:Int)+1+(K:Int)))) (.cells #[.int .i64 3,.string ⟨#[]⟩,.string (s.extract (I+1) (I+1+K)),.string ⟨#[]⟩,.slice none 0 0,.bool q] 67);rw [hz5] at hb2;have HB2:=Hd hb2;clear hs5 hk5 hR5 hF e1 hb2 hz5;go_wp2_with (at_builtin;refine wpList_append_lies _ rfl (.tmp 131) (.tmp 135) _ rfl 0 67 i0 _ 6 88 Tryz.underlying29 hi0 hz0 hz1 hz2 rfl (by omega) (.slice va R0 vc) R0 xs rfl (hown.alloc _) ⟨W4.heap.size,0,none⟩ 1 1 [.int .i64 3,.string ⟨#[]⟩,.string (s.extract (I+1) (I+1+K)),.string ⟨#[]⟩,.slice none 0 0,.bool q] rfl rfl (World.news_of_block (cs:=#[.int .i64 3,.string ⟨#[]⟩,.string (s.extract (I+1) (I+1+K)),.string ⟨#[]⟩,.slice none 0 0,.bool q]) (t:=67) (fr:=(0,0)) HB2.out) (by simp [Value.oneCell']) (by omega) (by unfold maxLen;omega) (by omega) (by simp) (W4.heap.size+1) (by simp [World.setCell]) ?_;intro gg cap w5 hown2 hgrow hat hlt2)
  go_ret;obtain⟨hrow,hkeep⟩:=HF.out gg cap w5 _ hown2 hgrow (by simpa [World.setCell] using hat);rw [HOK.out];exact⟨_,I+1+K,rfl,by omega,rfl,HS5.out.keep hkeep (fun e=>by omega),hrow,by rw [wtF_append];simp only [wtF,Pt.text,List.length_nil];omega,(HK5.out.mono fun _ _ e=>.inl e).trans hkeep (fun _ _ e=>.inr e)⟩
 have hK0:K=0:=by omega
 subst hK0;clear hpos;by_cases hsp:(digitB c || specialB c)=true
 ·have HVAR:=Hd (HVAR0.out (by rw [Bool.or_assoc,hsp,Bool.or_true]) 1 (by
   rw [HNAME.out,if_neg (by omega)];cases hd2:digitB c with
   | true=>rfl
   | false=>
    rw [hd2] at hsp;rw [show specialB c=true by simpa using hsp];rfl) (by omega))
  have hin:=HIN.out (by rintro rfl;exact absurd hsp (by decide));have p2:(I:Int)+1+1≤(s.size:Int):=by omega
  have p4:((I:Int)+1+1).toNat=I+1+1:=by omega
  have p5:((I:Int)+1).toNat=I+1:=by omega
  cases hdg:digitB c with
  | true=>
   have HD:=Hd hdg;clear hdg hsp;go_enter Tryz.func45,Tryz.ntmps45;go_wp2_with fail;rw [←HW1.out];refine (see0_any cs s (I+1) _ _ HS1.out (by omega) (by omega)).mono ?_;rintro e w2 ⟨rfl,q2,rfl⟩;rw [HC.out];obtain⟨W2,hW2⟩:∃W2,W2=w1.drewN q2:=⟨_,rfl⟩;rw [←hW2];have hs2:ScanAt W2 cs s ((I+1:Nat):Int) ((0:Nat):Int):=by rw [hW2];exact HS1.out.drewN _
   have HK2:=Hd (show Keeps (fun b=>b=cs) w W2 by rw [hW2];exact HK1.out.drewN _);obtain⟨d0,d1,d2,g1,g2⟩:=hs2.cells;clear hW2;go_wp2_with fail;go_quiet ((go_at_call 69;exact Calls.quiet_of_same ((nameLen_any s (I+1) _ (by omega) (by omega)).mono (fun e w' hh=>⟨by rw [hh.1,HRUN.out],hh.2.symm⟩))));obtain⟨W3,hW3⟩:∃W3,W3=W2.drewN nq:=⟨_,rfl⟩;rw [←hW3];have hs3:ScanAt W3 cs s ((I+1:Nat):Int) ((0:Nat):Int):=by rw [hW3];exact hs2.drewN _
   have HK3:=Hd (show Keeps (fun b=>b=cs) w W3 by rw [hW3];exact HK2.out.drewN _);clear hW3 d0 d1 d2 g1 g2 hs2;go_wp2_with fail;refine (rdigit_any' c _).mono ?_;rintro e w4 ⟨rfl,hw4⟩;rw [HD.out,hw4];clear hw4;have HOK:=Hd (show res=.ok ([.mk 3 [] ((rest s (I+1)).take 1) [] [] q],rest s (I+1+1)) by rw [HVAR.out,rest_drop]);obtain⟨c0,c1,c2,f1,f2⟩:=hs3.cells;go_wp2_with fail;go_quiet (fail);obtain⟨W4,hW4⟩:∃W4,W4=W3.drewN nq:=⟨_,rfl⟩
   rw [←hW4];have hs4:ScanAt W4 cs s ((I+1:Nat):Int) ((0:Nat):Int):=by rw [hW4];exact hs3.drewN _
   have HK4:=Hd (show Keeps (fun b=>b=cs) w W4 by rw [hW4];exact HK3.out.drewN _);clear hW4 c0 c1 c2 f1 f2;obtain⟨c0,c1,c2,f1,f2⟩:=hs4.cells;have ltW:=hs4.lt;obtain⟨hs5,hk5⟩:=rmoved hs4 (j:=(I:Int)+1+1) (J:=I+1+1) (by omega);have HK5:=Hd (HK4.out.trans hk5 (fun _ _ e=>e));have hB5:B≤(W4.setCell ⟨cs,1,none⟩ (.int .i64 ((I:Int)+1+1))).heap.size:=Nat.le_trans hB HK5.out.size;have hR5:=HROW.out.keep HK5.out (fun _ _ e=>by omega)
   obtain⟨xs,hown,hF⟩:=hR5.more0 hB5 (Keeps.refl _ _) (x:=.mk 3 [] ((rest s (I+1)).take 1) [] [] q) rfl;have e1:strV ((rest s (I+1)).take 1)=.string (s.extract (I+1) (I+1+1)):=strV_of (by rw [Lib.extract_data];unfold rest;rw [show I+1+1 - (I+1)=1 by omega]);simp only [cellsP,Pt.kind,Pt.text,Pt.name,Pt.op,Pt.quoted,e1] at hF;have HF:=Hd hF;have HS5:=Hd hs5;rw [←HR0.out] at hown HF;have hz5:(W4.setCell ⟨cs,1,none⟩ (.int .i64 ((I:Int)+1+1))).heap.size=W4.heap.size:=by simp [World.setCell]
   have hb2:=heap_alloc_new (W4.setCell ⟨cs,1,none⟩ (.int .i64 ((I:Int)+1+1))) (.cells #[.int .i64 3,.string ⟨#[]⟩,.string (s.extract (I+1) (I+1+1)),.string ⟨#[]⟩,.slice none 0 0,.bool q] 67);rw [hz5] at hb2;have HB2:=Hd hb2;clear hs5 hk5 hR5 hF e1 hb2 hz5;go_wp2_with (at_builtin;refine wpList_append_lies _ rfl (.tmp 131) (.tmp 135) _ rfl 0 67 i0 _ 6 88 Tryz.underlying29 hi0 hz0 hz1 hz2 rfl (by omega) (.slice va R0 vc) R0 xs rfl (hown.alloc _) ⟨W4.heap.size,0,none⟩ 1 1 [.int .i64 3,.string ⟨#[]⟩,.string (s.extract (I+1) (I+1+1)),.string ⟨#[]⟩,.slice none 0 0,.bool q] rfl rfl (World.news_of_block (cs:=#[.int .i64 3,.string ⟨#[]⟩,.string (s.extract (I+1) (I+1+1)),.string ⟨#[]⟩,.slice none 0 0,.bool q]) (t:=67) (fr:=(0,0)) HB2.out) (by simp [Value.oneCell']) (by omega) (by unfold maxLen;omega) (by omega) (by simp) (W4.heap.size+1) (by simp [World.setCell]) ?_;intro gg cap w5 hown2 hgrow hat hlt2)
   go_ret;obtain⟨hrow,hkeep⟩:=HF.out gg cap w5 _ hown2 hgrow (by simpa [World.setCell] using hat);rw [HOK.out];exact⟨_,I+1+1,rfl,by omega,rfl,HS5.out.keep hkeep (fun e=>by omega),hrow,by rw [wtF_append];simp only [wtF,Pt.text,List.length_nil];omega,(HK5.out.mono fun _ _ e=>.inl e).trans hkeep (fun _ _ e=>.inr e)⟩
  | false=>
   have hsp2:specialB c=true:=by rw [hdg] at hsp;simpa using hsp
   have hcs:((c.toNat:Int)==63)=true∨(((c.toNat:Int)==63)=false∧((c.toNat:Int)==35)=true)∨(((c.toNat:Int)==63)=false∧((c.toNat:Int)==35)=false∧((c.toNat:Int)==64)=true)∨(((c.toNat:Int)==63)=false∧((c.toNat:Int)==35)=false∧((c.toNat:Int)==64)=false∧((c.toNat:Int)==42)=true):=by
    simp only [specialB,Bool.or_eq_true,beq_iff_eq] at hsp2;rcases hsp2 with ((h | h) | h) | h<;>rw [h]
    ·exact .inl rfl
    ·exact .inr (.inl ⟨rfl,rfl⟩)
    ·exact .inr (.inr (.inl ⟨rfl,rfl,rfl⟩))
    ·exact .inr (.inr (.inr ⟨rfl,rfl,rfl,rfl⟩))
   have HD:=Hd hdg;clear hdg hsp hsp2;rcases hcs with x1 | ⟨x1,x2⟩ | ⟨x1,x2,x3⟩ | ⟨x1,x2,x3,x4⟩
   all_goals
    go_enter Tryz.func45,Tryz.ntmps45;go_wp2_with fail;rw [←HW1.out];refine (see0_any cs s (I+1) _ _ HS1.out (by omega) (by omega)).mono ?_;rintro e w2 ⟨rfl,q2,rfl⟩;rw [HC.out];obtain⟨W2,hW2⟩:∃W2,W2=w1.drewN q2:=⟨_,rfl⟩;rw [←hW2];have hs2:ScanAt W2 cs s ((I+1:Nat):Int) ((0:Nat):Int):=by rw [hW2];exact HS1.out.drewN _
    have HK2:=Hd (show Keeps (fun b=>b=cs) w W2 by rw [hW2];exact HK1.out.drewN _);obtain⟨d0,d1,d2,g1,g2⟩:=hs2.cells;clear hW2;go_wp2_with fail;go_quiet ((go_at_call 69;exact Calls.quiet_of_same ((nameLen_any s (I+1) _ (by omega) (by omega)).mono (fun e w' hh=>⟨by rw [hh.1,HRUN.out],hh.2.symm⟩))));obtain⟨W3,hW3⟩:∃W3,W3=W2.drewN nq:=⟨_,rfl⟩;rw [←hW3];have hs3:ScanAt W3 cs s ((I+1:Nat):Int) ((0:Nat):Int):=by rw [hW3];exact hs2.drewN _
    have HK3:=Hd (show Keeps (fun b=>b=cs) w W3 by rw [hW3];exact HK2.out.drewN _);clear hW3 d0 d1 d2 g1 g2 hs2;go_wp2_with fail;refine (rdigit_any' c _).mono ?_;rintro e w4 ⟨rfl,hw4⟩;rw [HD.out,hw4];clear hw4;have HOK:=Hd (show res=.ok ([.mk 3 [] ((rest s (I+1)).take 1) [] [] q],rest s (I+1+1)) by rw [HVAR.out,rest_drop]);obtain⟨c0,c1,c2,f1,f2⟩:=hs3.cells;go_wp2_with fail;go_quiet (fail);obtain⟨W4,hW4⟩:∃W4,W4=W3.drewN nq:=⟨_,rfl⟩
    rw [←hW4];have hs4:ScanAt W4 cs s ((I+1:Nat):Int) ((0:Nat):Int):=by rw [hW4];exact hs3.drewN _
    have HK4:=Hd (show Keeps (fun b=>b=cs) w W4 by rw [hW4];exact HK3.out.drewN _);clear hW4 c0 c1 c2 f1 f2;obtain⟨c0,c1,c2,f1,f2⟩:=hs4.cells;have ltW:=hs4.lt;obtain⟨hs5,hk5⟩:=rmoved hs4 (j:=(I:Int)+1+1) (J:=I+1+1) (by omega);have HK5:=Hd (HK4.out.trans hk5 (fun _ _ e=>e));have hB5:B≤(W4.setCell ⟨cs,1,none⟩ (.int .i64 ((I:Int)+1+1))).heap.size:=Nat.le_trans hB HK5.out.size;have hR5:=HROW.out.keep HK5.out (fun _ _ e=>by omega)
    obtain⟨xs,hown,hF⟩:=hR5.more0 hB5 (Keeps.refl _ _) (x:=.mk 3 [] ((rest s (I+1)).take 1) [] [] q) rfl;have e1:strV ((rest s (I+1)).take 1)=.string (s.extract (I+1) (I+1+1)):=strV_of (by rw [Lib.extract_data];unfold rest;rw [show I+1+1 - (I+1)=1 by omega]);simp only [cellsP,Pt.kind,Pt.text,Pt.name,Pt.op,Pt.quoted,e1] at hF;have HF:=Hd hF;have HS5:=Hd hs5;rw [←HR0.out] at hown HF;have hz5:(W4.setCell ⟨cs,1,none⟩ (.int .i64 ((I:Int)+1+1))).heap.size=W4.heap.size:=by simp [World.setCell]
    have hb2:=heap_alloc_new (W4.setCell ⟨cs,1,none⟩ (.int .i64 ((I:Int)+1+1))) (.cells #[.int .i64 3,.string ⟨#[]⟩,.string (s.extract (I+1) (I+1+1)),.string ⟨#[]⟩,.slice none 0 0,.bool q] 67);rw [hz5] at hb2;have HB2:=Hd hb2;clear hs5 hk5 hR5 hF e1 hb2 hz5;go_wp2_with (at_builtin;refine wpList_append_lies _ rfl (.tmp 131) (.tmp 135) _ rfl 0 67 i0 _ 6 88 Tryz.underlying29 hi0 hz0 hz1 hz2 rfl (by omega) (.slice va R0 vc) R0 xs rfl (hown.alloc _) ⟨W4.heap.size,0,none⟩ 1 1 [.int .i64 3,.string ⟨#[]⟩,.string (s.extract (I+1) (I+1+1)),.string ⟨#[]⟩,.slice none 0 0,.bool q] rfl rfl (World.news_of_block (cs:=#[.int .i64 3,.string ⟨#[]⟩,.string (s.extract (I+1) (I+1+1)),.string ⟨#[]⟩,.slice none 0 0,.bool q]) (t:=67) (fr:=(0,0)) HB2.out) (by simp [Value.oneCell']) (by omega) (by unfold maxLen;omega) (by omega) (by simp) (W4.heap.size+1) (by simp [World.setCell]) ?_;intro gg cap w5 hown2 hgrow hat hlt2)
    go_ret;obtain⟨hrow,hkeep⟩:=HF.out gg cap w5 _ hown2 hgrow (by simpa [World.setCell] using hat);rw [HOK.out];exact⟨_,I+1+1,rfl,by omega,rfl,HS5.out.keep hkeep (fun e=>by omega),hrow,by rw [wtF_append];simp only [wtF,Pt.text,List.length_nil];omega,(HK5.out.mono fun _ _ e=>.inl e).trans hkeep (fun _ _ e=>.inr e)⟩
 ·have hdg:digitB c=false:=by cases h:digitB c with | false=>rfl | true=>rw [h] at hsp;simp at hsp
  have hsp2:specialB c=false:=by cases h:specialB c with | false=>rfl | true=>rw [h] at hsp;simp at hsp
  obtain⟨x1,x2,x3,x4⟩:=special_no hsp2;have HD:=Hd hdg;have HN0:=Hd (show nameF false (rest s (I+1))=0 by rw [HNAME.out,if_neg (by omega),hdg,hsp2];rfl);clear hsp hdg hsp2;by_cases t123:c=123
  ·have f123:((c.toNat:Int)==123)=true:=test_yes (c:=c) (k:=123) t123;have hin:=HIN.out (by rw [t123];decide);have HRB:=Hd (show res=lexC (.brace q) d (rest s (I+2)) by rw [HRES.out,HHD.out 123 (by decide),t123];rfl);clear t123;go_enter Tryz.func45,Tryz.ntmps45;go_wp2_with fail;rw [←HW1.out];refine (see0_any cs s (I+1) _ _ HS1.out (by omega) (by omega)).mono ?_;rintro e w2 ⟨rfl,q2,rfl⟩;rw [HC.out]
   obtain⟨W2,hW2⟩:∃W2,W2=w1.drewN q2:=⟨_,rfl⟩;rw [←hW2];have hs2:ScanAt W2 cs s ((I+1:Nat):Int) ((0:Nat):Int):=by rw [hW2];exact HS1.out.drewN _
   have HK2:=Hd (show Keeps (fun b=>b=cs) w W2 by rw [hW2];exact HK1.out.drewN _);obtain⟨d0,d1,d2,g1,g2⟩:=hs2.cells;clear hW2;go_wp2_with fail;go_quiet ((go_at_call 69;exact Calls.quiet_of_same ((nameLen_any s (I+1) _ (by omega) (by omega)).mono (fun e w' hh=>⟨by rw [hh.1,HRUN.out],hh.2.symm⟩))));obtain⟨W3,hW3⟩:∃W3,W3=W2.drewN nq:=⟨_,rfl⟩;rw [←hW3];have hs3:ScanAt W3 cs s ((I+1:Nat):Int) ((0:Nat):Int):=by rw [hW3];exact hs2.drewN _
   have HK3:=Hd (show Keeps (fun b=>b=cs) w W3 by rw [hW3];exact HK2.out.drewN _);clear hW3 d0 d1 d2 g1 g2 hs2;go_wp2_with fail;refine (rdigit_any' c _).mono ?_;rintro e w4 ⟨rfl,hw4⟩;rw [HD.out,hw4];clear hw4;obtain⟨d0,d1,d2,g1,g2⟩:=hs3.cells;obtain⟨w5,hw5,hs5,hk5⟩:=scan_moved0 hs3 ((I:Int)+1+1);have HK5:=Hd (HK3.out.trans hk5 (fun _ _ e=>e));have hcall:=IH B cs s (I+2) d q (.slice va R0 vc) raw w5 (by have h:=hs5;rwa [show (I:Int)+1+1=((I+2:Nat):Int) by omega] at h) (by omega) hs hd (HROW.out.keep HK5.out (fun _ _ e=>by omega)) hcB (Nat.le_trans hB HK5.out.size) (by omega) (by omega)
   have HCALL:=Hd hcall;have HW5:=Hd hw5;clear hcall hw5 hs5 hk5;go_wp2_with fail;rw [←HW5.out];refine HCALL.out.mono ?_;intro e w6 hp;rw [←HRB.out] at hp;obtain⟨a,n,cc,rfl,hp2⟩:=hp.from HK5.out;have HP:=Hd hp2;clear hp hp2;go_wp2_with fail;go_ret;exact HP.out
  have f123:((c.toNat:Int)==123)=false:=test_no (c:=c) (k:=123) t123;have G123:=Hd (show headIs 123 (rest s (I+1))=false by rw [HHD.out 123 (by decide)];exact beq_eq_false_iff_ne.2 t123);clear t123;by_cases t40:c=40
  ·have f40:((c.toNat:Int)==40)=true:=test_yes (c:=c) (k:=40) t40;have hin:=HIN.out (by rw [t40];decide);obtain⟨x,hx⟩:∃x,x=byteAt s (I+1+1):=⟨_,rfl⟩;have HX:=Hd hx.symm;have HST:=Hd (show startsF [40,40] (rest s (I+1))=(x==40) by
    rw [rest_cons hin,HC.out,t40,hx];rcases Nat.lt_or_ge (I+1+1) s.size with h | h
    ·rw [rest_cons h];show ((40:UInt8)==40 && ((40:UInt8)==byteAt s (I+1+1) && true))=(byteAt s (I+1+1)==40);rw [Bool.eq_iff_iff];simp only [beq_self_eq_true,Bool.true_and,Bool.and_true,beq_iff_eq];exact⟨Eq.symm,Eq.symm⟩
    ·rw [rest_nil h];unfold byteAt;rw [List.getD_eq_getElem?_getD,List.getElem?_eq_none (by rw [←Lib.size_eq];omega)];rfl)
   have HH40:=Hd (show headIs 40 (rest s (I+1))=true by rw [HHD.out 40 (by decide),t40];rfl);clear t40 hx;by_cases tx:x=40
   ·have fx:((x.toNat:Int)==40)=true:=test_yes (c:=x) (k:=40) tx;have hin2:I+3≤s.size:=by
     rcases Nat.lt_or_ge (I+1+1) s.size with h | h
     ·omega
     ·exfalso;have h0:x=0:=by
       rw [←HX.out];unfold byteAt;rw [List.getD_eq_getElem?_getD,List.getElem?_eq_none (by rw [←Lib.size_eq];omega)];rfl
      rw [h0] at tx;exact absurd tx (by decide)
    have HRB:=Hd (show res=calcRes q (rest s (I+3)) by
     rw [HRES.out,G123.out,if_neg (by simp),HST.out,tx,if_pos (by rfl),rest_drop];rfl)
    clear tx;go_enter Tryz.func45,Tryz.ntmps45;go_wp2_with fail;rw [←HW1.out];refine (see0_any cs s (I+1) _ _ HS1.out (by omega) (by omega)).mono ?_;rintro e w2 ⟨rfl,q2,rfl⟩;rw [HC.out];obtain⟨W2,hW2⟩:∃W2,W2=w1.drewN q2:=⟨_,rfl⟩;rw [←hW2];have hs2:ScanAt W2 cs s ((I+1:Nat):Int) ((0:Nat):Int):=by rw [hW2];exact HS1.out.drewN _
    have HK2:=Hd (show Keeps (fun b=>b=cs) w W2 by rw [hW2];exact HK1.out.drewN _);obtain⟨d0,d1,d2,g1,g2⟩:=hs2.cells;clear hW2;go_wp2_with fail;go_quiet ((go_at_call 69;exact Calls.quiet_of_same ((nameLen_any s (I+1) _ (by omega) (by omega)).mono (fun e w' hh=>⟨by rw [hh.1,HRUN.out],hh.2.symm⟩))));obtain⟨W3,hW3⟩:∃W3,W3=W2.drewN nq:=⟨_,rfl⟩;rw [←hW3];have hs3:ScanAt W3 cs s ((I+1:Nat):Int) ((0:Nat):Int):=by rw [hW3];exact hs2.drewN _
    have HK3:=Hd (show Keeps (fun b=>b=cs) w W3 by rw [hW3];exact HK2.out.drewN _);clear hW3 d0 d1 d2 g1 g2 hs2;go_wp2_with fail;refine (rdigit_any' c _).mono ?_;rintro e w4 ⟨rfl,hw4⟩;rw [HD.out,hw4];clear hw4;go_wp2_with fail;refine (see1_any cs s (I+1) _ _ hs3 (by omega) (by omega)).mono ?_;rintro e w4 ⟨rfl,q4,rfl⟩;rw [HX.out];obtain⟨W4,hW4⟩:∃W4,W4=W3.drewN q4:=⟨_,rfl⟩;rw [←hW4];have hs4:ScanAt W4 cs s ((I+1:Nat):Int) ((0:Nat):Int):=by rw [hW4];exact hs3.drewN _
    have HK4:=Hd (show Keeps (fun b=>b=cs) w W4 by rw [hW4];exact HK3.out.drewN _);clear hW4;obtain⟨d0,d1,d2,g1,g2⟩:=hs4.cells;obtain⟨w5,hw5,hs5,hk5⟩:=scan_moved0 hs4 ((I:Int)+1+2);have HK5:=Hd (HK4.out.trans hk5 (fun _ _ e=>e));have hcall:=rcalc_any B cs s (I+3) q (.slice va R0 vc) raw w5 (by have h:=hs5;rwa [show (I:Int)+1+2=((I+3:Nat):Int) by omega] at h) hs (by omega) (HROW.out.keep HK5.out (fun _ _ e=>by omega)) hcB (Nat.le_trans hB HK5.out.size) (by omega) (100 - d)
    have HCALL:=Hd hcall;have HW5:=Hd hw5;clear hcall hw5 hs5 hk5;go_wp2_with fail;rw [←HW5.out];refine HCALL.out.mono ?_;intro e w6 hp;rw [←HRB.out] at hp;obtain⟨a,n,cc,rfl,hp2⟩:=hp.from HK5.out;have HP:=Hd hp2;clear hp hp2;go_wp2_with fail;go_ret;exact HP.out
   ·have fx:((x.toNat:Int)==40)=false:=test_no (c:=x) (k:=40) tx;have HRB:=Hd (show res=subRes q (rest s (I+2)) by
     rw [HRES.out,G123.out,if_neg (by simp),HST.out,beq_eq_false_iff_ne.2 tx,if_neg (by simp),HH40.out,if_pos (by rfl)];rfl)
    clear tx;go_enter Tryz.func45,Tryz.ntmps45;go_wp2_with fail;rw [←HW1.out];refine (see0_any cs s (I+1) _ _ HS1.out (by omega) (by omega)).mono ?_;rintro e w2 ⟨rfl,q2,rfl⟩;rw [HC.out];obtain⟨W2,hW2⟩:∃W2,W2=w1.drewN q2:=⟨_,rfl⟩;rw [←hW2];have hs2:ScanAt W2 cs s ((I+1:Nat):Int) ((0:Nat):Int):=by rw [hW2];exact HS1.out.drewN _
    have HK2:=Hd (show Keeps (fun b=>b=cs) w W2 by rw [hW2];exact HK1.out.drewN _);obtain⟨d0,d1,d2,g1,g2⟩:=hs2.cells;clear hW2;go_wp2_with fail;go_quiet ((go_at_call 69;exact Calls.quiet_of_same ((nameLen_any s (I+1) _ (by omega) (by omega)).mono (fun e w' hh=>⟨by rw [hh.1,HRUN.out],hh.2.symm⟩))));obtain⟨W3,hW3⟩:∃W3,W3=W2.drewN nq:=⟨_,rfl⟩;rw [←hW3];have hs3:ScanAt W3 cs s ((I+1:Nat):Int) ((0:Nat):Int):=by rw [hW3];exact hs2.drewN _
    have HK3:=Hd (show Keeps (fun b=>b=cs) w W3 by rw [hW3];exact HK2.out.drewN _);clear hW3 d0 d1 d2 g1 g2 hs2;go_wp2_with fail;refine (rdigit_any' c _).mono ?_;rintro e w4 ⟨rfl,hw4⟩;rw [HD.out,hw4];clear hw4;go_wp2_with fail;refine (see1_any cs s (I+1) _ _ hs3 (by omega) (by omega)).mono ?_;rintro e w4 ⟨rfl,q4,rfl⟩;rw [HX.out];obtain⟨W4,hW4⟩:∃W4,W4=W3.drewN q4:=⟨_,rfl⟩;rw [←hW4];have hs4:ScanAt W4 cs s ((I+1:Nat):Int) ((0:Nat):Int):=by rw [hW4];exact hs3.drewN _
    have HK4:=Hd (show Keeps (fun b=>b=cs) w W4 by rw [hW4];exact HK3.out.drewN _);clear hW4;obtain⟨d0,d1,d2,g1,g2⟩:=hs4.cells;obtain⟨w5,hw5,hs5,hk5⟩:=scan_moved0 hs4 ((I:Int)+1+1);have HK5:=Hd (HK4.out.trans hk5 (fun _ _ e=>e));have hcall:=rsub_any B cs s (I+2) q (.slice va R0 vc) raw w5 (by have h:=hs5;rwa [show (I:Int)+1+1=((I+2:Nat):Int) by omega] at h) hs (by omega) (HROW.out.keep HK5.out (fun _ _ e=>by omega)) hcB (Nat.le_trans hB HK5.out.size) (by omega) (100 - d) (by omega)
    have HCALL:=Hd hcall;have HW5:=Hd hw5;clear hcall hw5 hs5 hk5;go_wp2_with fail;rw [←HW5.out];refine HCALL.out.mono ?_;intro e w6 hp;rw [←HRB.out] at hp;obtain⟨a,n,cc,rfl,hp2⟩:=hp.from HK5.out;have HP:=Hd hp2;clear hp hp2;go_wp2_with fail;go_ret;exact HP.out
  ·have f40:((c.toNat:Int)==40)=false:=test_no (c:=c) (k:=40) t40;have HRB:=Hd (show res=.ok ([if q then quoP [36] else txtP [36]],rest s (I+1)) by
    have h40:headIs 40 (rest s (I+1))=false:=by rw [HHD.out 40 (by decide)];exact beq_eq_false_iff_ne.2 t40
    have h44:startsF [40,40] (rest s (I+1))=false:=by
     cases hr2:rest s (I+1) with
     | nil=>rfl
     | cons a b=>
      rw [hr2] at h40;unfold startsF;rw [show ((40:UInt8)==a)=false by rw [beq_eq_false_iff_ne];have:(a==40)=false:=h40;rw [beq_eq_false_iff_ne] at this;exact fun e=>this e.symm];rfl
    rw [HRES.out,G123.out,if_neg (by simp),h44,if_neg (by simp),h40,if_neg (by simp),HN0.out,if_pos rfl])
   clear t40;cases q with
   | true=>
    go_enter Tryz.func45,Tryz.ntmps45;go_wp2_with fail;rw [←HW1.out];refine (see0_any cs s (I+1) _ _ HS1.out (by omega) (by omega)).mono ?_;rintro e w2 ⟨rfl,q2,rfl⟩;rw [HC.out];obtain⟨W2,hW2⟩:∃W2,W2=w1.drewN q2:=⟨_,rfl⟩;rw [←hW2];have hs2:ScanAt W2 cs s ((I+1:Nat):Int) ((0:Nat):Int):=by rw [hW2];exact HS1.out.drewN _
    have HK2:=Hd (show Keeps (fun b=>b=cs) w W2 by rw [hW2];exact HK1.out.drewN _);obtain⟨d0,d1,d2,g1,g2⟩:=hs2.cells;clear hW2;go_wp2_with fail;go_quiet ((go_at_call 69;exact Calls.quiet_of_same ((nameLen_any s (I+1) _ (by omega) (by omega)).mono (fun e w' hh=>⟨by rw [hh.1,HRUN.out],hh.2.symm⟩))));obtain⟨W3,hW3⟩:∃W3,W3=W2.drewN nq:=⟨_,rfl⟩;rw [←hW3];have hs3:ScanAt W3 cs s ((I+1:Nat):Int) ((0:Nat):Int):=by rw [hW3];exact hs2.drewN _
    have HK3:=Hd (show Keeps (fun b=>b=cs) w W3 by rw [hW3];exact HK2.out.drewN _);clear hW3 d0 d1 d2 g1 g2 hs2;go_wp2_with fail;refine (rdigit_any' c _).mono ?_;rintro e w4 ⟨rfl,hw4⟩;rw [HD.out,hw4];clear hw4;have hR3:=HROW.out.keep HK3.out (fun _ _ e=>by omega);have hput:=rput_any B 2 ⟨#[36]⟩ _ raw W3 hR3 (Nat.le_trans hB HK3.out.size) (by have:=HR0.out;omega) (.inl rfl);have HPUT:=Hd hput;clear hR3 hput
    go_wp2_with fail;refine HPUT.out.mono ?_;rintro e w6 ⟨v6,rfl,hrow,hkeep⟩;obtain⟨a6,n6,c6,rfl⟩:∃a n c,v6=.slice a n c:=by obtain⟨a,c,e,_⟩:=hrow.shape;exact⟨a,_,c,e⟩
    have HROW6:=Hd hrow;have HKEEP:=Hd hkeep;clear hrow hkeep;go_wp2_with fail;go_ret;rw [HRB.out];exact⟨_,I+1,rfl,by omega,rfl,hs3.keep HKEEP.out (fun e=>by omega),HROW6.out,by rw [wtF_append];show wtF raw+(1+1+0)≤_;omega,(HK3.out.mono fun _ _ e=>.inl e).trans HKEEP.out (fun _ _ e=>.inr e)⟩
   | false=>
    go_enter Tryz.func45,Tryz.ntmps45;go_wp2_with fail;rw [←HW1.out];refine (see0_any cs s (I+1) _ _ HS1.out (by omega) (by omega)).mono ?_;rintro e w2 ⟨rfl,q2,rfl⟩;rw [HC.out];obtain⟨W2,hW2⟩:∃W2,W2=w1.drewN q2:=⟨_,rfl⟩;rw [←hW2];have hs2:ScanAt W2 cs s ((I+1:Nat):Int) ((0:Nat):Int):=by rw [hW2];exact HS1.out.drewN _
    have HK2:=Hd (show Keeps (fun b=>b=cs) w W2 by rw [hW2];exact HK1.out.drewN _);obtain⟨d0,d1,d2,g1,g2⟩:=hs2.cells;clear hW2;go_wp2_with fail;go_quiet ((go_at_call 69;exact Calls.quiet_of_same ((nameLen_any s (I+1) _ (by omega) (by omega)).mono (fun e w' hh=>⟨by rw [hh.1,HRUN.out],hh.2.symm⟩))));obtain⟨W3,hW3⟩:∃W3,W3=W2.drewN nq:=⟨_,rfl⟩;rw [←hW3];have hs3:ScanAt W3 cs s ((I+1:Nat):Int) ((0:Nat):Int):=by rw [hW3];exact hs2.drewN _
    have HK3:=Hd (show Keeps (fun b=>b=cs) w W3 by rw [hW3];exact HK2.out.drewN _);clear hW3 d0 d1 d2 g1 g2 hs2;go_wp2_with fail;refine (rdigit_any' c _).mono ?_;rintro e w4 ⟨rfl,hw4⟩;rw [HD.out,hw4];clear hw4;have hR3:=HROW.out.keep HK3.out (fun _ _ e=>by omega);have hput:=rput_any B 1 ⟨#[36]⟩ _ raw W3 hR3 (Nat.le_trans hB HK3.out.size) (by have:=HR0.out;omega) (.inr ⟨rfl,by decide⟩);have HPUT:=Hd hput
    clear hR3 hput;go_wp2_with fail;refine HPUT.out.mono ?_;rintro e w6 ⟨v6,rfl,hrow,hkeep⟩;obtain⟨a6,n6,c6,rfl⟩:∃a n c,v6=.slice a n c:=by obtain⟨a,c,e,_⟩:=hrow.shape;exact⟨a,_,c,e⟩
    have HROW6:=Hd hrow;have HKEEP:=Hd hkeep;clear hrow hkeep;go_wp2_with fail;go_ret;rw [HRB.out];exact⟨_,I+1,rfl,by omega,rfl,hs3.keep HKEEP.out (fun e=>by omega),HROW6.out,by rw [wtF_append];show wtF raw+(1+1+0)≤_;omega,(HK3.out.mono fun _ _ e=>.inl e).trans HKEEP.out (fun _ _ e=>.inr e)⟩
theorem rinner_any (N:Nat) (IH:DolOK N):InnOK N:=by
 intro B cs s I d v raw w h hI hs hd hr hcB hB hl hN;obtain⟨res,hres⟩:∃res,res=lexC (.one true) d (rest s I):=⟨_,rfl⟩;rw [←hres];obtain⟨c,hc⟩:∃c,c=byteAt s I:=⟨_,rfl⟩;obtain⟨x,hx⟩:∃x,x=byteAt s (I+1):=⟨_,rfl⟩;have hhd:(rest s (I+1)).headD 0=x:=by
  rw [hx];rcases Nat.lt_or_ge (I+1) s.size with h | h
  ·rw [rest_cons h];rfl
  ·rw [rest_nil h];unfold byteAt;rw [List.getD_eq_getElem?_getD,List.getElem?_eq_none (by rw [←Lib.size_eq];omega)];rfl
 have hh10:headIs 10 (rest s (I+1))=(x==10):=by
  rw [hx];rcases Nat.lt_or_ge (I+1) s.size with h | h
  ·rw [rest_cons h];rfl
  ·rw [rest_nil h];unfold byteAt;rw [List.getD_eq_getElem?_getD,List.getElem?_eq_none (by rw [←Lib.size_eq];omega)];rfl
 rw [rest_cons hI,←hc,lexC_inn,hhd,hh10,rest_tail] at hres;have HIN:=Hd (show x≠0→I+1<s.size from fun hc0=>by
  rcases Nat.lt_or_ge (I+1) s.size with h | h
  ·exact h
  ·exfalso;apply hc0;rw [hx];unfold byteAt;rw [List.getD_eq_getElem?_getD,List.getElem?_eq_none (by rw [←Lib.size_eq];omega)];rfl)
 obtain⟨va,vc,rfl,_,_⟩:=hr.shape;obtain⟨R0,hR0⟩:∃R0,R0=raw.length:=⟨_,rfl⟩;have hlw:=wtF_len raw;rw [←hR0] at hr hlw ⊢;have HROW:=Hd hr;have HR0:=Hd hR0;have HRES:=Hd hres;have HC:=Hd hc.symm;have HX:=Hd hx.symm;have lcs:=h.lt;clear hr hres hR0 hc hx hhd hh10;by_cases t34:c=34
 ·have f34:((c.toNat:Int)==34)=true:=test_yes (c:=c) (k:=34) t34;have HE2:=Hd (show res=.error 2 by rw [HRES.out,t34];rfl);clear t34;go_enter Tryz.func42,Tryz.ntmps42;go_wp2_with fail;refine (see0_any cs s I _ _ h (by omega) (by omega)).mono ?_;rintro e w1 ⟨rfl,q1,rfl⟩;rw [HC.out];obtain⟨W0,hW⟩:∃W0,W0=w.drewN q1:=⟨_,rfl⟩;rw [←hW];have hsW0:ScanAt W0 cs s I ((0:Nat):Int):=by rw [hW];exact h.drewN _
  have HKW0:=Hd (show Keeps (fun b=>b=cs) w W0 by rw [hW];exact (Keeps.refl _ _).drewN _);clear hW;go_wp2_with fail;refine (rfail_any cs s I 0 2 _ hsW0).mono ?_;rintro e w2 ⟨rfl,hs2,hk2⟩;have HS2:=Hd hs2;have HK2:=Hd (HKW0.out.trans hk2 (fun _ _ e=>e));clear hs2 hk2;go_wp2_with fail;go_ret;rw [HE2.out];exact⟨by decide,_,I,raw,rfl,by omega,HS2.out,HROW.out.keep HK2.out (fun _ _ e=>by omega),by omega,HK2.out.mono fun _ _ e=>.inl e⟩
 have f34:((c.toNat:Int)==34)=false:=test_no (c:=c) (k:=34) t34;have G34:=Hd (show (c==34)=false from beq_eq_false_iff_ne.2 t34);clear t34;by_cases t96:c=96
 ·have f96:((c.toNat:Int)==96)=true:=test_yes (c:=c) (k:=96) t96;have HE2:=Hd (show res=.error 2 by rw [HRES.out,t96];rfl);clear t96;go_enter Tryz.func42,Tryz.ntmps42;go_wp2_with fail;refine (see0_any cs s I _ _ h (by omega) (by omega)).mono ?_;rintro e w1 ⟨rfl,q1,rfl⟩;rw [HC.out];obtain⟨W0,hW⟩:∃W0,W0=w.drewN q1:=⟨_,rfl⟩;rw [←hW];have hsW0:ScanAt W0 cs s I ((0:Nat):Int):=by rw [hW];exact h.drewN _
  have HKW0:=Hd (show Keeps (fun b=>b=cs) w W0 by rw [hW];exact (Keeps.refl _ _).drewN _);clear hW;go_wp2_with fail;refine (rfail_any cs s I 0 2 _ hsW0).mono ?_;rintro e w2 ⟨rfl,hs2,hk2⟩;have HS2:=Hd hs2;have HK2:=Hd (HKW0.out.trans hk2 (fun _ _ e=>e));clear hs2 hk2;go_wp2_with fail;go_ret;rw [HE2.out];exact⟨by decide,_,I,raw,rfl,by omega,HS2.out,HROW.out.keep HK2.out (fun _ _ e=>by omega),by omega,HK2.out.mono fun _ _ e=>.inl e⟩
 have f96:((c.toNat:Int)==96)=false:=test_no (c:=c) (k:=96) t96;have G96:=Hd (show (c==96)=false from beq_eq_false_iff_ne.2 t96);clear t96;by_cases t36:c=36
 ·have f36:((c.toNat:Int)==36)=true:=test_yes (c:=c) (k:=36) t36;have HRB:=Hd (show res=lexC (.dol true) d (rest s (I+1)) by
   rw [HRES.out,G34.out,G96.out,t36];rfl)
  clear t36;go_enter Tryz.func42,Tryz.ntmps42;go_wp2_with fail;refine (see0_any cs s I _ _ h (by omega) (by omega)).mono ?_;rintro e w1 ⟨rfl,q1,rfl⟩;rw [HC.out];obtain⟨W0,hW⟩:∃W0,W0=w.drewN q1:=⟨_,rfl⟩;rw [←hW];have hsW0:ScanAt W0 cs s I ((0:Nat):Int):=by rw [hW];exact h.drewN _
  have HKW0:=Hd (show Keeps (fun b=>b=cs) w W0 by rw [hW];exact (Keeps.refl _ _).drewN _);clear hW;have hcall:=IH B cs s I d true (.slice va R0 vc) raw W0 hsW0 hI hs hd (HROW.out.keep HKW0.out (fun _ _ e=>by omega)) hcB (Nat.le_trans hB HKW0.out.size) hl hN;have HCALL:=Hd hcall;clear hcall;go_wp2_with fail;refine HCALL.out.mono ?_;intro e w6 hp;rw [←HRB.out] at hp;obtain⟨a,n,cc,rfl,hp2⟩:=hp.from HKW0.out
  have HP:=Hd hp2;clear hp hp2;go_wp2_with fail;go_ret;exact HP.out
 have f36:((c.toNat:Int)==36)=false:=test_no (c:=c) (k:=36) t36;have G36:=Hd (show (c==36)=false from beq_eq_false_iff_ne.2 t36);clear t36;by_cases t92:c=92
 ·have f92:((c.toNat:Int)==92)=true:=test_yes (c:=c) (k:=92) t92;have HR92:=Hd (show res=if x==10 then .ok ([],rest s (I+1+1)) else if escB x then .ok ([quoP [x]],rest s (I+1+1)) else .ok ([quoP [c]],rest s (I+1)) by
   rw [HRES.out,G34.out,G96.out,G36.out,t92];rfl)
  clear t92;by_cases t10:x=10
  ·have x10:((x.toNat:Int)==10)=true:=test_yes (c:=x) (k:=10) t10;have hin:=HIN.out (by rw [t10];decide);have HOK:=Hd (show res=.ok ([],rest s (I+2)) by rw [HR92.out,t10];rfl);clear t10;go_enter Tryz.func42,Tryz.ntmps42;go_wp2_with fail;refine (see0_any cs s I _ _ h (by omega) (by omega)).mono ?_;rintro e w1 ⟨rfl,q1,rfl⟩;rw [HC.out];obtain⟨W0,hW⟩:∃W0,W0=w.drewN q1:=⟨_,rfl⟩;rw [←hW];have hsW0:ScanAt W0 cs s I ((0:Nat):Int):=by rw [hW];exact h.drewN _
   have HKW0:=Hd (show Keeps (fun b=>b=cs) w W0 by rw [hW];exact (Keeps.refl _ _).drewN _);clear hW;go_wp2_with fail;refine (see1_any cs s I _ _ hsW0 (by omega) (by omega)).mono ?_;rintro e w2 ⟨rfl,q2,rfl⟩;rw [HX.out];obtain⟨W1,hW⟩:∃Z:World,Z=W0.drewN q2:=⟨_,rfl⟩;rw [←hW];have hsW1:ScanAt W1 cs s I ((0:Nat):Int):=by rw [hW];exact hsW0.drewN _
   have HKW1:=Hd (show Keeps (fun b=>b=cs) w W1 by rw [hW];exact HKW0.out.drewN _);clear hW;obtain⟨d0,d1,d2,g1,g2⟩:=hsW1.cells;obtain⟨hs5,hk5⟩:=rmoved hsW1 (j:=(I:Int)+2) (J:=I+2) (by omega);have HS5:=Hd hs5;have HK5:=Hd (HKW1.out.trans hk5 (fun _ _ e=>e));clear hs5 hk5;go_wp2_with fail;go_ret;rw [HOK.out];exact⟨_,I+2,rfl,by omega,rfl,HS5.out,by rw [List.append_nil];exact HROW.out.keep HK5.out (fun _ _ e=>by omega),by rw [List.append_nil];omega,HK5.out.mono fun _ _ e=>.inl e⟩
  have x10:((x.toNat:Int)==10)=false:=test_no (c:=x) (k:=10) t10;have G10:=Hd (show (x==10)=false from beq_eq_false_iff_ne.2 t10);clear t10;by_cases u36:x=36
  ·have x36:((x.toNat:Int)==36)=true:=test_yes (c:=x) (k:=36) u36;have hin:=HIN.out (by rw [u36];decide);have HOK:=Hd (show res=.ok ([quoP [x]],rest s (I+2)) by rw [HR92.out,G10.out,u36];rfl);clear u36;go_enter Tryz.func42,Tryz.ntmps42;go_wp2_with fail;refine (see0_any cs s I _ _ h (by omega) (by omega)).mono ?_;rintro e w1 ⟨rfl,q1,rfl⟩;rw [HC.out];obtain⟨W0,hW⟩:∃W0,W0=w.drewN q1:=⟨_,rfl⟩;rw [←hW]
   have hsW0:ScanAt W0 cs s I ((0:Nat):Int):=by rw [hW];exact h.drewN _
   have HKW0:=Hd (show Keeps (fun b=>b=cs) w W0 by rw [hW];exact (Keeps.refl _ _).drewN _);clear hW;go_wp2_with fail;refine (see1_any cs s I _ _ hsW0 (by omega) (by omega)).mono ?_;rintro e w2 ⟨rfl,q2,rfl⟩;rw [HX.out];obtain⟨W1,hW⟩:∃Z:World,Z=W0.drewN q2:=⟨_,rfl⟩;rw [←hW];have hsW1:ScanAt W1 cs s I ((0:Nat):Int):=by rw [hW];exact hsW0.drewN _
   have HKW1:=Hd (show Keeps (fun b=>b=cs) w W1 by rw [hW];exact HKW0.out.drewN _);clear hW;go_wp2_with fail;refine (see1_any cs s I _ _ hsW1 (by omega) (by omega)).mono ?_;rintro e w2 ⟨rfl,q2,rfl⟩;rw [HX.out];obtain⟨W2,hW⟩:∃Z:World,Z=W1.drewN q2:=⟨_,rfl⟩;rw [←hW];have hsW2:ScanAt W2 cs s I ((0:Nat):Int):=by rw [hW];exact hsW1.drewN _
   have HKW2:=Hd (show Keeps (fun b=>b=cs) w W2 by rw [hW];exact HKW1.out.drewN _);clear hW;obtain⟨d0,d1,d2,g1,g2⟩:=hsW2.cells;obtain⟨w5,hw5⟩:∃w5,w5=(W2.setCell ⟨cs,1,none⟩ (.int .i64 ((I:Int)+1))).setCell ⟨cs,1,none⟩ (.int .i64 ((I:Int)+1+1)):=⟨_,rfl⟩;obtain⟨hs5a,hk5a⟩:=rmoved hsW2 (j:=(I:Int)+1) (J:=I+1) (by omega);obtain⟨hs5,hk5b⟩:=rmoved hs5a (j:=(I:Int)+1+1) (J:=I+2) (by omega);have hk5:=hk5a.trans hk5b (fun _ _ e=>e)
   rw [←hw5] at hs5 hk5;obtain⟨J,hJ⟩:∃J,J=I+2:=⟨_,rfl⟩;rw [←hJ] at hs5;have hJ1:1≤J:=by omega
   have hJ2:J≤s.size:=by omega
   have HW5:=Hd hw5;have HS5:=Hd hs5;have HK5:=Hd (HKW2.out.trans hk5 (fun _ _ e=>e));obtain⟨T,hT⟩:∃T,T=s.extract (J - 1) J:=⟨_,rfl⟩;have HTL:=Hd (show T.data.toList=[x] by
    rw [hT,Lib.extract_data];have h1:s.data.toList.drop (J - 1)=rest s (J - 1):=rfl;rw [h1,rest_cons (by omega),show J - (J - 1)=1 by omega];rw [show J - 1=I+1 by omega,HX.out];rfl)
   have HTT:=Hd hT;have HJ:=Hd hJ;clear hw5 hT hs5 hk5 hJ;go_wp2_with fail;rw [←HW5.out];obtain⟨d0,d1,d2,g1,g2⟩:=HS5.out.cells;have p1:((J:Int) - 1).toNat=J - 1:=by omega
   have p2:(0:Int)≤(J:Int) - 1:=by omega
   have p2':(1:Int)≤(J:Int):=by omega
   have p3:(J:Int) - 1≤(J:Int):=by omega
   have p4:(J:Int)≤(s.size:Int):=by omega
   have ew:IntKind.i64.wrap ((J:Int) - 1)=(J:Int) - 1:=IntWalk.i64_in _ (by omega);go_still_tail 16,(by kernel_rfl);change wpList _ _ _ _ _ w5.drew;obtain⟨w6,hw6⟩:∃w6,w6=w5.drew:=⟨_,rfl⟩;rw [←hw6];have hs6:ScanAt w6 cs s J ((0:Nat):Int):=by rw [hw6];exact HS5.out.keep (S:=fun _=>False) (Keeps.refl _ _).drew (fun h=>h)
   have HK6:=Hd (show Keeps (fun b=>b=cs) w w6 by rw [hw6];exact HK5.out.drew);have hR6:=HROW.out.keep HK6.out (fun _ _ e=>by omega);have hput:=rput_any B 2 (s.extract (J - 1) J) _ raw w6 hR6 (Nat.le_trans hB HK6.out.size) (by have:=HR0.out;omega) (.inl rfl);have HPUT:=Hd hput;have HS6:=Hd hs6;clear hR6 hput hw6 hs6;go_wp2_with fail;refine HPUT.out.mono ?_;rintro e w7 ⟨v7,rfl,hrow,hkeep⟩;obtain⟨a7,n7,c7,rfl⟩:∃a n c,v7=.slice a n c:=by obtain⟨a,c,e,_⟩:=hrow.shape;exact⟨a,_,c,e⟩
   have HROW7:=Hd hrow;have HKEEP:=Hd hkeep;clear hrow hkeep;go_wp2_with fail;go_ret;have htl:=HTL.out;rw [HTT.out] at htl;have hrow:=HROW7.out;rw [htl] at hrow;rw [HOK.out];have hJ:=HJ.out;subst hJ;exact⟨_,I+2,rfl,by omega,rfl,HS6.out.keep HKEEP.out (fun e=>by omega),hrow,by rw [wtF_append];show wtF raw+(1+1+0)≤_;omega,(HK6.out.mono fun _ _ e=>.inl e).trans HKEEP.out (fun _ _ e=>.inr e)⟩
  have x36:((x.toNat:Int)==36)=false:=test_no (c:=x) (k:=36) u36;have K36:=Hd (show (x==36)=false from beq_eq_false_iff_ne.2 u36);clear u36;by_cases u34:x=34
  ·have x34:((x.toNat:Int)==34)=true:=test_yes (c:=x) (k:=34) u34;have hin:=HIN.out (by rw [u34];decide);have HOK:=Hd (show res=.ok ([quoP [x]],rest s (I+2)) by rw [HR92.out,G10.out,u34];rfl);clear u34;go_enter Tryz.func42,Tryz.ntmps42;go_wp2_with fail;refine (see0_any cs s I _ _ h (by omega) (by omega)).mono ?_;rintro e w1 ⟨rfl,q1,rfl⟩;rw [HC.out];obtain⟨W0,hW⟩:∃W0,W0=w.drewN q1:=⟨_,rfl⟩;rw [←hW]
   have hsW0:ScanAt W0 cs s I ((0:Nat):Int):=by rw [hW];exact h.drewN _
   have HKW0:=Hd (show Keeps (fun b=>b=cs) w W0 by rw [hW];exact (Keeps.refl _ _).drewN _);clear hW;go_wp2_with fail;refine (see1_any cs s I _ _ hsW0 (by omega) (by omega)).mono ?_;rintro e w2 ⟨rfl,q2,rfl⟩;rw [HX.out];obtain⟨W1,hW⟩:∃Z:World,Z=W0.drewN q2:=⟨_,rfl⟩;rw [←hW];have hsW1:ScanAt W1 cs s I ((0:Nat):Int):=by rw [hW];exact hsW0.drewN _
   have HKW1:=Hd (show Keeps (fun b=>b=cs) w W1 by rw [hW];exact HKW0.out.drewN _);clear hW;go_wp2_with fail;refine (see1_any cs s I _ _ hsW1 (by omega) (by omega)).mono ?_;rintro e w2 ⟨rfl,q2,rfl⟩;rw [HX.out];obtain⟨W2,hW⟩:∃Z:World,Z=W1.drewN q2:=⟨_,rfl⟩;rw [←hW];have hsW2:ScanAt W2 cs s I ((0:Nat):Int):=by rw [hW];exact hsW1.drewN _
   have HKW2:=Hd (show Keeps (fun b=>b=cs) w W2 by rw [hW];exact HKW1.out.drewN _);clear hW;go_wp2_with fail;refine (see1_any cs s I _ _ hsW2 (by omega) (by omega)).mono ?_;rintro e w2 ⟨rfl,q2,rfl⟩;rw [HX.out];obtain⟨W3,hW⟩:∃Z:World,Z=W2.drewN q2:=⟨_,rfl⟩;rw [←hW];have hsW3:ScanAt W3 cs s I ((0:Nat):Int):=by rw [hW];exact hsW2.drewN _
   have HKW3:=Hd (show Keeps (fun b=>b=cs) w W3 by rw [hW];exact HKW2.out.drewN _);clear hW;obtain⟨d0,d1,d2,g1,g2⟩:=hsW3.cells;obtain⟨w5,hw5⟩:∃w5,w5=(W3.setCell ⟨cs,1,none⟩ (.int .i64 ((I:Int)+1))).setCell ⟨cs,1,none⟩ (.int .i64 ((I:Int)+1+1)):=⟨_,rfl⟩;obtain⟨hs5a,hk5a⟩:=rmoved hsW3 (j:=(I:Int)+1) (J:=I+1) (by omega);obtain⟨hs5,hk5b⟩:=rmoved hs5a (j:=(I:Int)+1+1) (J:=I+2) (by omega);have hk5:=hk5a.trans hk5b (fun _ _ e=>e)
   rw [←hw5] at hs5 hk5;obtain⟨J,hJ⟩:∃J,J=I+2:=⟨_,rfl⟩;rw [←hJ] at hs5;have hJ1:1≤J:=by omega
   have hJ2:J≤s.size:=by omega
   have HW5:=Hd hw5;have HS5:=Hd hs5;have HK5:=Hd (HKW3.out.trans hk5 (fun _ _ e=>e));obtain⟨T,hT⟩:∃T,T=s.extract (J - 1) J:=⟨_,rfl⟩;have HTL:=Hd (show T.data.toList=[x] by
    rw [hT,Lib.extract_data];have h1:s.data.toList.drop (J - 1)=rest s (J - 1):=rfl;rw [h1,rest_cons (by omega),show J - (J - 1)=1 by omega];rw [show J - 1=I+1 by omega,HX.out];rfl)
   have HTT:=Hd hT;have HJ:=Hd hJ;clear hw5 hT hs5 hk5 hJ;go_wp2_with fail;rw [←HW5.out];obtain⟨d0,d1,d2,g1,g2⟩:=HS5.out.cells;have p1:((J:Int) - 1).toNat=J - 1:=by omega
   have p2:(0:Int)≤(J:Int) - 1:=by omega
   have p2':(1:Int)≤(J:Int):=by omega
   have p3:(J:Int) - 1≤(J:Int):=by omega
   have p4:(J:Int)≤(s.size:Int):=by omega
   have ew:IntKind.i64.wrap ((J:Int) - 1)=(J:Int) - 1:=IntWalk.i64_in _ (by omega);go_still_tail 16,(by kernel_rfl);change wpList _ _ _ _ _ w5.drew;obtain⟨w6,hw6⟩:∃w6,w6=w5.drew:=⟨_,rfl⟩;rw [←hw6];have hs6:ScanAt w6 cs s J ((0:Nat):Int):=by rw [hw6];exact HS5.out.keep (S:=fun _=>False) (Keeps.refl _ _).drew (fun h=>h)
   have HK6:=Hd (show Keeps (fun b=>b=cs) w w6 by rw [hw6];exact HK5.out.drew);have hR6:=HROW.out.keep HK6.out (fun _ _ e=>by omega);have hput:=rput_any B 2 (s.extract (J - 1) J) _ raw w6 hR6 (Nat.le_trans hB HK6.out.size) (by have:=HR0.out;omega) (.inl rfl);have HPUT:=Hd hput;have HS6:=Hd hs6;clear hR6 hput hw6 hs6;go_wp2_with fail;refine HPUT.out.mono ?_;rintro e w7 ⟨v7,rfl,hrow,hkeep⟩;obtain⟨a7,n7,c7,rfl⟩:∃a n c,v7=.slice a n c:=by obtain⟨a,c,e,_⟩:=hrow.shape;exact⟨a,_,c,e⟩
   have HROW7:=Hd hrow;have HKEEP:=Hd hkeep;clear hrow hkeep;go_wp2_with fail;go_ret;have htl:=HTL.out;rw [HTT.out] at htl;have hrow:=HROW7.out;rw [htl] at hrow;rw [HOK.out];have hJ:=HJ.out;subst hJ;exact⟨_,I+2,rfl,by omega,rfl,HS6.out.keep HKEEP.out (fun e=>by omega),hrow,by rw [wtF_append];show wtF raw+(1+1+0)≤_;omega,(HK6.out.mono fun _ _ e=>.inl e).trans HKEEP.out (fun _ _ e=>.inr e)⟩
  have x34:((x.toNat:Int)==34)=false:=test_no (c:=x) (k:=34) u34;have K34:=Hd (show (x==34)=false from beq_eq_false_iff_ne.2 u34);clear u34;by_cases u92:x=92
  ·have x92:((x.toNat:Int)==92)=true:=test_yes (c:=x) (k:=92) u92;have hin:=HIN.out (by rw [u92];decide);have HOK:=Hd (show res=.ok ([quoP [x]],rest s (I+2)) by rw [HR92.out,G10.out,u92];rfl);clear u92;go_enter Tryz.func42,Tryz.ntmps42;go_wp2_with fail;refine (see0_any cs s I _ _ h (by omega) (by omega)).mono ?_;rintro e w1 ⟨rfl,q1,rfl⟩;rw [HC.out];obtain⟨W0,hW⟩:∃W0,W0=w.drewN q1:=⟨_,rfl⟩;rw [←hW]
   have hsW0:ScanAt W0 cs s I ((0:Nat):Int):=by rw [hW];exact h.drewN _
   have HKW0:=Hd (show Keeps (fun b=>b=cs) w W0 by rw [hW];exact (Keeps.refl _ _).drewN _);clear hW;go_wp2_with fail;refine (see1_any cs s I _ _ hsW0 (by omega) (by omega)).mono ?_;rintro e w2 ⟨rfl,q2,rfl⟩;rw [HX.out];obtain⟨W1,hW⟩:∃Z:World,Z=W0.drewN q2:=⟨_,rfl⟩;rw [←hW];have hsW1:ScanAt W1 cs s I ((0:Nat):Int):=by rw [hW];exact hsW0.drewN _
   have HKW1:=Hd (show Keeps (fun b=>b=cs) w W1 by rw [hW];exact HKW0.out.drewN _);clear hW;go_wp2_with fail;refine (see1_any cs s I _ _ hsW1 (by omega) (by omega)).mono ?_;rintro e w2 ⟨rfl,q2,rfl⟩;rw [HX.out];obtain⟨W2,hW⟩:∃Z:World,Z=W1.drewN q2:=⟨_,rfl⟩;rw [←hW];have hsW2:ScanAt W2 cs s I ((0:Nat):Int):=by rw [hW];exact hsW1.drewN _
   have HKW2:=Hd (show Keeps (fun b=>b=cs) w W2 by rw [hW];exact HKW1.out.drewN _);clear hW;go_wp2_with fail;refine (see1_any cs s I _ _ hsW2 (by omega) (by omega)).mono ?_;rintro e w2 ⟨rfl,q2,rfl⟩;rw [HX.out];obtain⟨W3,hW⟩:∃Z:World,Z=W2.drewN q2:=⟨_,rfl⟩;rw [←hW];have hsW3:ScanAt W3 cs s I ((0:Nat):Int):=by rw [hW];exact hsW2.drewN _
   have HKW3:=Hd (show Keeps (fun b=>b=cs) w W3 by rw [hW];exact HKW2.out.drewN _);clear hW;go_wp2_with fail;refine (see1_any cs s I _ _ hsW3 (by omega) (by omega)).mono ?_;rintro e w2 ⟨rfl,q2,rfl⟩;rw [HX.out];obtain⟨W4,hW⟩:∃Z:World,Z=W3.drewN q2:=⟨_,rfl⟩;rw [←hW];have hsW4:ScanAt W4 cs s I ((0:Nat):Int):=by rw [hW];exact hsW3.drewN _
   have HKW4:=Hd (show Keeps (fun b=>b=cs) w W4 by rw [hW];exact HKW3.out.drewN _);clear hW;obtain⟨d0,d1,d2,g1,g2⟩:=hsW4.cells;obtain⟨w5,hw5⟩:∃w5,w5=(W4.setCell ⟨cs,1,none⟩ (.int .i64 ((I:Int)+1))).setCell ⟨cs,1,none⟩ (.int .i64 ((I:Int)+1+1)):=⟨_,rfl⟩;obtain⟨hs5a,hk5a⟩:=rmoved hsW4 (j:=(I:Int)+1) (J:=I+1) (by omega);obtain⟨hs5,hk5b⟩:=rmoved hs5a (j:=(I:Int)+1+1) (J:=I+2) (by omega);have hk5:=hk5a.trans hk5b (fun _ _ e=>e)
   rw [←hw5] at hs5 hk5;obtain⟨J,hJ⟩:∃J,J=I+2:=⟨_,rfl⟩;rw [←hJ] at hs5;have hJ1:1≤J:=by omega
   have hJ2:J≤s.size:=by omega
   have HW5:=Hd hw5;have HS5:=Hd hs5;have HK5:=Hd (HKW4.out.trans hk5 (fun _ _ e=>e));obtain⟨T,hT⟩:∃T,T=s.extract (J - 1) J:=⟨_,rfl⟩;have HTL:=Hd (show T.data.toList=[x] by
    rw [hT,Lib.extract_data];have h1:s.data.toList.drop (J - 1)=rest s (J - 1):=rfl;rw [h1,rest_cons (by omega),show J - (J - 1)=1 by omega];rw [show J - 1=I+1 by omega,HX.out];rfl)
   have HTT:=Hd hT;have HJ:=Hd hJ;clear hw5 hT hs5 hk5 hJ;go_wp2_with fail;rw [←HW5.out];obtain⟨d0,d1,d2,g1,g2⟩:=HS5.out.cells;have p1:((J:Int) - 1).toNat=J - 1:=by omega
   have p2:(0:Int)≤(J:Int) - 1:=by omega
   have p2':(1:Int)≤(J:Int):=by omega
   have p3:(J:Int) - 1≤(J:Int):=by omega
   have p4:(J:Int)≤(s.size:Int):=by omega
   have ew:IntKind.i64.wrap ((J:Int) - 1)=(J:Int) - 1:=IntWalk.i64_in _ (by omega);go_still_tail 16,(by kernel_rfl);change wpList _ _ _ _ _ w5.drew;obtain⟨w6,hw6⟩:∃w6,w6=w5.drew:=⟨_,rfl⟩;rw [←hw6];have hs6:ScanAt w6 cs s J ((0:Nat):Int):=by rw [hw6];exact HS5.out.keep (S:=fun _=>False) (Keeps.refl _ _).drew (fun h=>h)
   have HK6:=Hd (show Keeps (fun b=>b=cs) w w6 by rw [hw6];exact HK5.out.drew);have hR6:=HROW.out.keep HK6.out (fun _ _ e=>by omega);have hput:=rput_any B 2 (s.extract (J - 1) J) _ raw w6 hR6 (Nat.le_trans hB HK6.out.size) (by have:=HR0.out;omega) (.inl rfl);have HPUT:=Hd hput;have HS6:=Hd hs6;clear hR6 hput hw6 hs6;go_wp2_with fail;refine HPUT.out.mono ?_;rintro e w7 ⟨v7,rfl,hrow,hkeep⟩;obtain⟨a7,n7,c7,rfl⟩:∃a n c,v7=.slice a n c:=by obtain⟨a,c,e,_⟩:=hrow.shape;exact⟨a,_,c,e⟩
   have HROW7:=Hd hrow;have HKEEP:=Hd hkeep;clear hrow hkeep;go_wp2_with fail;go_ret;have htl:=HTL.out;rw [HTT.out] at htl;have hrow:=HROW7.out;rw [htl] at hrow;rw [HOK.out];have hJ:=HJ.out;subst hJ;exact⟨_,I+2,rfl,by omega,rfl,HS6.out.keep HKEEP.out (fun e=>by omega),hrow,by rw [wtF_append];show wtF raw+(1+1+0)≤_;omega,(HK6.out.mono fun _ _ e=>.inl e).trans HKEEP.out (fun _ _ e=>.inr e)⟩
  have x92:((x.toNat:Int)==92)=false:=test_no (c:=x) (k:=92) u92;have K92:=Hd (show (x==92)=false from beq_eq_false_iff_ne.2 u92);clear u92;by_cases u96:x=96
  ·have x96:((x.toNat:Int)==96)=true:=test_yes (c:=x) (k:=96) u96;have hin:=HIN.out (by rw [u96];decide);have HOK:=Hd (show res=.ok ([quoP [x]],rest s (I+2)) by rw [HR92.out,G10.out,u96];rfl);clear u96;go_enter Tryz.func42,Tryz.ntmps42;go_wp2_with fail;refine (see0_any cs s I _ _ h (by omega) (by omega)).mono ?_;rintro e w1 ⟨rfl,q1,rfl⟩;rw [HC.out];obtain⟨W0,hW⟩:∃W0,W0=w.drewN q1:=⟨_,rfl⟩;rw [←hW]
   have hsW0:ScanAt W0 cs s I ((0:Nat):Int):=by rw [hW];exact h.drewN _
   have HKW0:=Hd (show Keeps (fun b=>b=cs) w W0 by rw [hW];exact (Keeps.refl _ _).drewN _);clear hW;go_wp2_with fail;refine (see1_any cs s I _ _ hsW0 (by omega) (by omega)).mono ?_;rintro e w2 ⟨rfl,q2,rfl⟩;rw [HX.out];obtain⟨W1,hW⟩:∃Z:World,Z=W0.drewN q2:=⟨_,rfl⟩;rw [←hW];have hsW1:ScanAt W1 cs s I ((0:Nat):Int):=by rw [hW];exact hsW0.drewN _
   have HKW1:=Hd (show Keeps (fun b=>b=cs) w W1 by rw [hW];exact HKW0.out.drewN _);clear hW;go_wp2_with fail;refine (see1_any cs s I _ _ hsW1 (by omega) (by omega)).mono ?_;rintro e w2 ⟨rfl,q2,rfl⟩;rw [HX.out];obtain⟨W2,hW⟩:∃Z:World,Z=W1.drewN q2:=⟨_,rfl⟩;rw [←hW];have hsW2:ScanAt W2 cs s I ((0:Nat):Int):=by rw [hW];exact hsW1.drewN _
   have HKW2:=Hd (show Keeps (fun b=>b=cs) w W2 by rw [hW];exact HKW1.out.drewN _);clear hW;go_wp2_with fail;refine (see1_any cs s I _ _ hsW2 (by omega) (by omega)).mono ?_;rintro e w2 ⟨rfl,q2,rfl⟩;rw [HX.out];obtain⟨W3,hW⟩:∃Z:World,Z=W2.drewN q2:=⟨_,rfl⟩;rw [←hW];have hsW3:ScanAt W3 cs s I ((0:Nat):Int):=by rw [hW];exact hsW2.drewN _
   have HKW3:=Hd (show Keeps (fun b=>b=cs) w W3 by rw [hW];exact HKW2.out.drewN _);clear hW;go_wp2_with fail;refine (see1_any cs s I _ _ hsW3 (by omega) (by omega)).mono ?_;rintro e w2 ⟨rfl,q2,rfl⟩;rw [HX.out];obtain⟨W4,hW⟩:∃Z:World,Z=W3.drewN q2:=⟨_,rfl⟩;rw [←hW];have hsW4:ScanAt W4 cs s I ((0:Nat):Int):=by rw [hW];exact hsW3.drewN _
   have HKW4:=Hd (show Keeps (fun b=>b=cs) w W4 by rw [hW];exact HKW3.out.drewN _);clear hW;go_wp2_with fail;refine (see1_any cs s I _ _ hsW4 (by omega) (by omega)).mono ?_;rintro e w2 ⟨rfl,q2,rfl⟩;rw [HX.out];obtain⟨W5,hW⟩:∃Z:World,Z=W4.drewN q2:=⟨_,rfl⟩;rw [←hW];have hsW5:ScanAt W5 cs s I ((0:Nat):Int):=by rw [hW];exact hsW4.drewN _
   have HKW5:=Hd (show Keeps (fun b=>b=cs) w W5 by rw [hW];exact HKW4.out.drewN _);clear hW;obtain⟨d0,d1,d2,g1,g2⟩:=hsW5.cells;obtain⟨w5,hw5⟩:∃w5,w5=(W5.setCell ⟨cs,1,none⟩ (.int .i64 ((I:Int)+1))).setCell ⟨cs,1,none⟩ (.int .i64 ((I:Int)+1+1)):=⟨_,rfl⟩;obtain⟨hs5a,hk5a⟩:=rmoved hsW5 (j:=(I:Int)+1) (J:=I+1) (by omega);obtain⟨hs5,hk5b⟩:=rmoved hs5a (j:=(I:Int)+1+1) (J:=I+2) (by omega);have hk5:=hk5a.trans hk5b (fun _ _ e=>e)
   rw [←hw5] at hs5 hk5;obtain⟨J,hJ⟩:∃J,J=I+2:=⟨_,rfl⟩;rw [←hJ] at hs5;have hJ1:1≤J:=by omega
   have hJ2:J≤s.size:=by omega
   have HW5:=Hd hw5;have HS5:=Hd hs5;have HK5:=Hd (HKW5.out.trans hk5 (fun _ _ e=>e));obtain⟨T,hT⟩:∃T,T=s.extract (J - 1) J:=⟨_,rfl⟩;have HTL:=Hd (show T.data.toList=[x] by
    rw [hT,Lib.extract_data];have h1:s.data.toList.drop (J - 1)=rest s (J - 1):=rfl;rw [h1,rest_cons (by omega),show J - (J - 1)=1 by omega];rw [show J - 1=I+1 by omega,HX.out];rfl)
   have HTT:=Hd hT;have HJ:=Hd hJ;clear hw5 hT hs5 hk5 hJ;go_wp2_with fail;rw [←HW5.out];obtain⟨d0,d1,d2,g1,g2⟩:=HS5.out.cells;have p1:((J:Int) - 1).toNat=J - 1:=by omega
   have p2:(0:Int)≤(J:Int) - 1:=by omega
   have p2':(1:Int)≤(J:Int):=by omega
   have p3:(J:Int) - 1≤(J:Int):=by omega
   have p4:(J:Int)≤(s.size:Int):=by omega
   have ew:IntKind.i64.wrap ((J:Int) - 1)=(J:Int) - 1:=IntWalk.i64_in _ (by omega);go_still_tail 16,(by kernel_rfl);change wpList _ _ _ _ _ w5.drew;obtain⟨w6,hw6⟩:∃w6,w6=w5.drew:=⟨_,rfl⟩;rw [←hw6];have hs6:ScanAt w6 cs s J ((0:Nat):Int):=by rw [hw6];exact HS5.out.keep (S:=fun _=>False) (Keeps.refl _ _).drew (fun h=>h)
   have HK6:=Hd (show Keeps (fun b=>b=cs) w w6 by rw [hw6];exact HK5.out.drew);have hR6:=HROW.out.keep HK6.out (fun _ _ e=>by omega);have hput:=rput_any B 2 (s.extract (J - 1) J) _ raw w6 hR6 (Nat.le_trans hB HK6.out.size) (by have:=HR0.out;omega) (.inl rfl);have HPUT:=Hd hput;have HS6:=Hd hs6;clear hR6 hput hw6 hs6;go_wp2_with fail;refine HPUT.out.mono ?_;rintro e w7 ⟨v7,rfl,hrow,hkeep⟩;obtain⟨a7,n7,c7,rfl⟩:∃a n c,v7=.slice a n c:=by obtain⟨a,c,e,_⟩:=hrow.shape;exact⟨a,_,c,e⟩
   have HROW7:=Hd hrow;have HKEEP:=Hd hkeep;clear hrow hkeep;go_wp2_with fail;go_ret;have htl:=HTL.out;rw [HTT.out] at htl;have hrow:=HROW7.out;rw [htl] at hrow;rw [HOK.out];have hJ:=HJ.out;subst hJ;exact⟨_,I+2,rfl,by omega,rfl,HS6.out.keep HKEEP.out (fun e=>by omega),hrow,by rw [wtF_append];show wtF raw+(1+1+0)≤_;omega,(HK6.out.mono fun _ _ e=>.inl e).trans HKEEP.out (fun _ _ e=>.inr e)⟩
  have x96:((x.toNat:Int)==96)=false:=test_no (c:=x) (k:=96) u96;have K96:=Hd (show (x==96)=false from beq_eq_false_iff_ne.2 u96);clear u96;have HOK:=Hd (show res=.ok ([quoP [c]],rest s (I+1)) by
   rw [HR92.out,G10.out];unfold escB;rw [K36.out,K34.out,K92.out,K96.out];rfl)
  go_enter Tryz.func42,Tryz.ntmps42;go_wp2_with fail;refine (see0_any cs s I _ _ h (by omega) (by omega)).mono ?_;rintro e w1 ⟨rfl,q1,rfl⟩;rw [HC.out];obtain⟨W0,hW⟩:∃W0,W0=w.drewN q1:=⟨_,rfl⟩;rw [←hW];have hsW0:ScanAt W0 cs s I ((0:Nat):Int):=by rw [hW];exact h.drewN _
  have HKW0:=Hd (show Keeps (fun b=>b=cs) w W0 by rw [hW];exact (Keeps.refl _ _).drewN _);clear hW;go_wp2_with fail;refine (see1_any cs s I _ _ hsW0 (by omega) (by omega)).mono ?_;rintro e w2 ⟨rfl,q2,rfl⟩;rw [HX.out];obtain⟨W1,hW⟩:∃Z:World,Z=W0.drewN q2:=⟨_,rfl⟩;rw [←hW];have hsW1:ScanAt W1 cs s I ((0:Nat):Int):=by rw [hW];exact hsW0.drewN _
  have HKW1:=Hd (show Keeps (fun b=>b=cs) w W1 by rw [hW];exact HKW0.out.drewN _);clear hW;go_wp2_with fail;refine (see1_any cs s I _ _ hsW1 (by omega) (by omega)).mono ?_;rintro e w2 ⟨rfl,q2,rfl⟩;rw [HX.out];obtain⟨W2,hW⟩:∃Z:World,Z=W1.drewN q2:=⟨_,rfl⟩;rw [←hW];have hsW2:ScanAt W2 cs s I ((0:Nat):Int):=by rw [hW];exact hsW1.drewN _
  have HKW2:=Hd (show Keeps (fun b=>b=cs) w W2 by rw [hW];exact HKW1.out.drewN _);clear hW;go_wp2_with fail;refine (see1_any cs s I _ _ hsW2 (by omega) (by omega)).mono ?_;rintro e w2 ⟨rfl,q2,rfl⟩;rw [HX.out];obtain⟨W3,hW⟩:∃Z:World,Z=W2.drewN q2:=⟨_,rfl⟩;rw [←hW];have hsW3:ScanAt W3 cs s I ((0:Nat):Int):=by rw [hW];exact hsW2.drewN _
  have HKW3:=Hd (show Keeps (fun b=>b=cs) w W3 by rw [hW];exact HKW2.out.drewN _);clear hW;go_wp2_with fail;refine (see1_any cs s I _ _ hsW3 (by omega) (by omega)).mono ?_;rintro e w2 ⟨rfl,q2,rfl⟩;rw [HX.out];obtain⟨W4,hW⟩:∃Z:World,Z=W3.drewN q2:=⟨_,rfl⟩;rw [←hW];have hsW4:ScanAt W4 cs s I ((0:Nat):Int):=by rw [hW];exact hsW3.drewN _
  have HKW4:=Hd (show Keeps (fun b=>b=cs) w W4 by rw [hW];exact HKW3.out.drewN _);clear hW;go_wp2_with fail;refine (see1_any cs s I _ _ hsW4 (by omega) (by omega)).mono ?_;rintro e w2 ⟨rfl,q2,rfl⟩;rw [HX.out];obtain⟨W5,hW⟩:∃Z:World,Z=W4.drewN q2:=⟨_,rfl⟩;rw [←hW];have hsW5:ScanAt W5 cs s I ((0:Nat):Int):=by rw [hW];exact hsW4.drewN _
  have HKW5:=Hd (show Keeps (fun b=>b=cs) w W5 by rw [hW];exact HKW4.out.drewN _);clear hW;obtain⟨d0,d1,d2,g1,g2⟩:=hsW5.cells;obtain⟨w5,hw5⟩:∃w5,w5=W5.setCell ⟨cs,1,none⟩ (.int .i64 ((I:Int)+1)):=⟨_,rfl⟩;obtain⟨hs5,hk5⟩:=rmoved hsW5 (j:=(I:Int)+1) (J:=I+1) (by omega);rw [←hw5] at hs5 hk5;obtain⟨J,hJ⟩:∃J,J=I+1:=⟨_,rfl⟩;rw [←hJ] at hs5;have hJ1:1≤J:=by omega
  have hJ2:J≤s.size:=by omega
  have HW5:=Hd hw5;have HS5:=Hd hs5;have HK5:=Hd (HKW5.out.trans hk5 (fun _ _ e=>e));obtain⟨T,hT⟩:∃T,T=s.extract (J - 1) J:=⟨_,rfl⟩;have HTL:=Hd (show T.data.toList=[c] by
   rw [hT,Lib.extract_data];have h1:s.data.toList.drop (J - 1)=rest s (J - 1):=rfl;rw [h1,rest_cons (by omega),show J - (J - 1)=1 by omega];rw [show J - 1=I by omega,HC.out];rfl)
  have HTT:=Hd hT;have HJ:=Hd hJ;clear hw5 hT hs5 hk5 hJ;go_wp2_with fail;rw [←HW5.out];obtain⟨d0,d1,d2,g1,g2⟩:=HS5.out.cells;have p1:((J:Int) - 1).toNat=J - 1:=by omega
  have p2:(0:Int)≤(J:Int) - 1:=by omega
  have p2':(1:Int)≤(J:Int):=by omega
  have p3:(J:Int) - 1≤(J:Int):=by omega
  have p4:(J:Int)≤(s.size:Int):=by omega
  have ew:IntKind.i64.wrap ((J:Int) - 1)=(J:Int) - 1:=IntWalk.i64_in _ (by omega);go_still_tail 16,(by kernel_rfl);change wpList _ _ _ _ _ w5.drew;obtain⟨w6,hw6⟩:∃w6,w6=w5.drew:=⟨_,rfl⟩;rw [←hw6];have hs6:ScanAt w6 cs s J ((0:Nat):Int):=by rw [hw6];exact HS5.out.keep (S:=fun _=>False) (Keeps.refl _ _).drew (fun h=>h)
  have HK6:=Hd (show Keeps (fun b=>b=cs) w w6 by rw [hw6];exact HK5.out.drew);have hR6:=HROW.out.keep HK6.out (fun _ _ e=>by omega);have hput:=rput_any B 2 (s.extract (J - 1) J) _ raw w6 hR6 (Nat.le_trans hB HK6.out.size) (by have:=HR0.out;omega) (.inl rfl);have HPUT:=Hd hput;have HS6:=Hd hs6;clear hR6 hput hw6 hs6;go_wp2_with fail;refine HPUT.out.mono ?_;rintro e w7 ⟨v7,rfl,hrow,hkeep⟩;obtain⟨a7,n7,c7,rfl⟩:∃a n c,v7=.slice a n c:=by obtain⟨a,c,e,_⟩:=hrow.shape;exact⟨a,_,c,e⟩
  have HROW7:=Hd hrow;have HKEEP:=Hd hkeep;clear hrow hkeep;go_wp2_with fail;go_ret;have htl:=HTL.out;rw [HTT.out] at htl;have hrow:=HROW7.out;rw [htl] at hrow;rw [HOK.out];have hJ:=HJ.out;subst hJ;exact⟨_,I+1,rfl,by omega,rfl,HS6.out.keep HKEEP.out (fun e=>by omega),hrow,by rw [wtF_append];show wtF raw+(1+1+0)≤_;omega,(HK6.out.mono fun _ _ e=>.inl e).trans HKEEP.out (fun _ _ e=>.inr e)⟩
 ·have f92:((c.toNat:Int)==92)=false:=test_no (c:=c) (k:=92) t92;have HOK:=Hd (show res=.ok ([quoP [c]],rest s (I+1)) by
   rw [HRES.out,G34.out,G96.out,G36.out,beq_eq_false_iff_ne.2 t92];rfl)
  clear t92;go_enter Tryz.func42,Tryz.ntmps42;go_wp2_with fail;refine (see0_any cs s I _ _ h (by omega) (by omega)).mono ?_;rintro e w1 ⟨rfl,q1,rfl⟩;rw [HC.out];obtain⟨W0,hW⟩:∃W0,W0=w.drewN q1:=⟨_,rfl⟩;rw [←hW];have hsW0:ScanAt W0 cs s I ((0:Nat):Int):=by rw [hW];exact h.drewN _
  have HKW0:=Hd (show Keeps (fun b=>b=cs) w W0 by rw [hW];exact (Keeps.refl _ _).drewN _);clear hW;obtain⟨d0,d1,d2,g1,g2⟩:=hsW0.cells;obtain⟨w5,hw5⟩:∃w5,w5=W0.setCell ⟨cs,1,none⟩ (.int .i64 ((I:Int)+1)):=⟨_,rfl⟩;obtain⟨hs5,hk5⟩:=rmoved hsW0 (j:=(I:Int)+1) (J:=I+1) (by omega);rw [←hw5] at hs5 hk5;obtain⟨J,hJ⟩:∃J,J=I+1:=⟨_,rfl⟩;rw [←hJ] at hs5;have hJ1:1≤J:=by omega
  have hJ2:J≤s.size:=by omega
  have HW5:=Hd hw5;have HS5:=Hd hs5;have HK5:=Hd (HKW0.out.trans hk5 (fun _ _ e=>e));obtain⟨T,hT⟩:∃T,T=s.extract (J - 1) J:=⟨_,rfl⟩;have HTL:=Hd (show T.data.toList=[c] by
   rw [hT,Lib.extract_data];have h1:s.data.toList.drop (J - 1)=rest s (J - 1):=rfl;rw [h1,rest_cons (by omega),show J - (J - 1)=1 by omega];rw [show J - 1=I by omega,HC.out];rfl)
  have HTT:=Hd hT;have HJ:=Hd hJ;clear hw5 hT hs5 hk5 hJ;go_wp2_with fail;rw [←HW5.out];obtain⟨d0,d1,d2,g1,g2⟩:=HS5.out.cells;have p1:((J:Int) - 1).toNat=J - 1:=by omega
  have p2:(0:Int)≤(J:Int) - 1:=by omega
  have p2':(1:Int)≤(J:Int):=by omega
  have p3:(J:Int) - 1≤(J:Int):=by omega
  have p4:(J:Int)≤(s.size:Int):=by omega
  have ew:IntKind.i64.wrap ((J:Int) - 1)=(J:Int) - 1:=IntWalk.i64_in _ (by omega);go_still_tail 16,(by kernel_rfl);change wpList _ _ _ _ _ w5.drew;obtain⟨w6,hw6⟩:∃w6,w6=w5.drew:=⟨_,rfl⟩;rw [←hw6];have hs6:ScanAt w6 cs s J ((0:Nat):Int):=by rw [hw6];exact HS5.out.keep (S:=fun _=>False) (Keeps.refl _ _).drew (fun h=>h)
  have HK6:=Hd (show Keeps (fun b=>b=cs) w w6 by rw [hw6];exact HK5.out.drew);have hR6:=HROW.out.keep HK6.out (fun _ _ e=>by omega);have hput:=rput_any B 2 (s.extract (J - 1) J) _ raw w6 hR6 (Nat.le_trans hB HK6.out.size) (by have:=HR0.out;omega) (.inl rfl);have HPUT:=Hd hput;have HS6:=Hd hs6;clear hR6 hput hw6 hs6;go_wp2_with fail;refine HPUT.out.mono ?_;rintro e w7 ⟨v7,rfl,hrow,hkeep⟩;obtain⟨a7,n7,c7,rfl⟩:∃a n c,v7=.slice a n c:=by obtain⟨a,c,e,_⟩:=hrow.shape;exact⟨a,_,c,e⟩
  have HROW7:=Hd hrow;have HKEEP:=Hd hkeep;clear hrow hkeep;go_wp2_with fail;go_ret;have htl:=HTL.out;rw [HTT.out] at htl;have hrow:=HROW7.out;rw [htl] at hrow;rw [HOK.out];have hJ:=HJ.out;subst hJ;exact⟨_,I+1,rfl,by omega,rfl,HS6.out.keep HKEEP.out (fun e=>by omega),hrow,by rw [wtF_append];show wtF raw+(1+1+0)≤_;omega,(HK6.out.mono fun _ _ e=>.inl e).trans HKEEP.out (fun _ _ e=>.inr e)⟩
end Go.Proofs.YtiihpbccabeoeaaGreatDoor
