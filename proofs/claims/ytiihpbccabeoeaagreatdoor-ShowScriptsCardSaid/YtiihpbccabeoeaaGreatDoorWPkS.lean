/- The walk: a part. -/
import Derived.Test.YtiihpbccabeoeaaGreatDoorWPkR
import Derived.Deep.CutBlock
namespace Go.Proofs.YtiihpbccabeoeaaGreatDoor
open Go.RowKit
set_option linter.unusedVariables false
set_option maxRecDepth 100000
set_option maxHeartbeats 16000000
abbrev lV (name:ByteArray) (op:ByteArray) (wv:Value) (q:Bool):List Value:=[.int .i64 3,.string ⟨#[]⟩,.string name,.string op,wv,.bool q]
def opB (L:Bool):ByteArray:=if L then⟨#[76]⟩ else⟨#[]⟩
theorem zH (wh:Bool) (d:Nat) (q:Bool):∀(k:Nat) (r:List UInt8) (l:List Pt) (r1:List UInt8),rT wh d q k r=.ok (l,r1)→r1.length≤r.length
 | 0,r,l,r1,h=>by cases h
 | n+1,[],l,r1,h=>by
  unfold rT at h;obtain⟨_,rfl⟩:=Prod.mk.inj (Except.ok.inj h);exact Nat.le_refl _
 | n+1,c::t,l,r1,h=>by
  unfold rT at h;dsimp only at h;split at h
  ·obtain⟨_,rfl⟩:=Prod.mk.inj (Except.ok.inj h);exact Nat.le_refl _
  ·cases h2:cS (.one q) d (c::t) with
   | error e=>rw [h2] at h;cases h
   | ok x=>
    obtain⟨l2,r2⟩:=x;rw [h2] at h;obtain⟨m',h3,_⟩:=eL h;have h4:=dV _ _ _ _ _ _ h2;have h5:=zH wh d q n _ _ _ h3;omega
theorem Ay {r:List UInt8} (h:opF r≠[]):aW 125 r=false:=by
 cases r with
 | nil=>rfl
 | cons c t=>
  show (c==125)=false;rw [beq_eq_false_iff_ne];rintro rfl;apply h;unfold opF gH gG;simp [List.find?,aI]
theorem D3 (N:Nat) (IH:Dn N):zY (N+1):=by
 intro B cs s i d q v raw w h hi hs hd hr hcB hB hl hN;obtain⟨res,hres⟩:∃res,res=cS (.brace q) d (rest s i):=⟨_,rfl⟩;rw [←hres];rw [nJ,Iz] at hres;have hjl:=Nl hi;obtain⟨L,hL⟩:∃L,L=bK (rest s i):=⟨_,rfl⟩;rw [←hL] at hres hjl;obtain⟨j,hj⟩:∃j,j=i+L.toNat:=⟨_,rfl⟩;rw [←hj] at hres hjl;obtain⟨k,hk⟩:∃k,k=bT true (rest s j):=⟨_,rfl⟩;rw [←hk,dY] at hres;have hkl:k≤s.size - j:=by rw [hk,←cM];exact nV _ _
 have hij:i≤j:=by omega
 obtain⟨va,vc,rfl,_,_⟩:=hr.shape;obtain⟨R0,hR0⟩:∃R0,R0=raw.length:=⟨_,rfl⟩;have hlw:=lJ raw;rw [←hR0] at hr hlw ⊢;obtain⟨i0,hi0,hz0,hz1,hz2⟩:=info_parts i9;have hc6:=dN;have HSC:=Lib.hid h;have HROW:=Hd hr;have HL:=Hd hL;have HJ:=Hd hj;have HK:=Hd hk;have HR0:=Hd hR0;have HRES:=Hd hres;have lcs:=h.lt;clear h hr hL hj hk hres hR0;go_enter Tryz.func71,Tryz.ntmps71;go_upto_if 15 with (go_at_call 39;refine (aP cs s i _ _ (HSC.o.alloc _) (by omega) (by omega)).mono ?_;rintro e w1 ⟨rfl,q1,rfl⟩)
 go_cut [] from 10 to 46 (fun wx=>aD wx cs s j ((0:Nat):Int)∧aH wx w.heap.size (lV ⟨#[]⟩ (opB L) (.slice none 0 0) q)∧aB (fun b=>b=cs) w wx)
 case first=>
  obtain⟨W1,hW1⟩:∃W1,W1=(w.alloc (.cells #[.int .i64 3,.string ⟨#[]⟩,.string ⟨#[]⟩,.string ⟨#[]⟩,.slice none 0 0,.bool q] 67)).drewN q1:=⟨_,rfl⟩;rw [←hW1];have hs1:aD W1 cs s i ((0:Nat):Int):=by rw [hW1];exact (HSC.o.alloc _).drewN _
  have hr1:aH W1 w.heap.size (lV ⟨#[]⟩ ⟨#[]⟩ (.slice none 0 0) q):=by rw [hW1];exact (show aH (w.alloc _) w.heap.size _ from⟨_,heap_alloc_new w _⟩).keep (S:=fun _=>False) ((aB.refl _ _).drewN _) (fun h=>h)
  have HK1:=Hd (show aB (fun b=>b=cs) w W1 by rw [hW1];exact ((aB.refl _ _).alloc _).drewN _);have HR1:=Hd hr1;obtain⟨pb,hpb⟩:∃pb,pb=w.heap.size:=⟨_,rfl⟩;rw [←hpb] at HR1;rw [←hpb];have HPB:=Hd hpb;have hne:cs≠pb:=by omega
  clear hW1 hr1 hpb;obtain⟨c,hc⟩:∃c,c=aM s i:=⟨_,rfl⟩;have HC:=Hd hc.symm;clear hc;by_cases t35:c=35
  ·have f35:((c.toNat:Int)==35)=true:=aU (c:=c) (k:=35) t35;have hlt:i<s.size:=by
    rcases Nat.lt_or_ge i s.size with h | h
    ·exact h
    ·have h0:c=0:=by
      rw [←HC.o];unfold aM;rw [List.getD_eq_getElem?_getD,List.getElem?_eq_none (by rw [←Lib.size_eq];omega)];rfl
     rw [h0] at t35;exact absurd t35 (by decide)
   have hLv:L=(!aW 125 (rest s (i+1)) && (opF (rest s (i+1))).isEmpty):=by
    rw [HL.o];unfold bK;rw [aN hlt,HC.o,t35];rfl
   obtain⟨x,hx⟩:∃x,x=aM s (i+1):=⟨_,rfl⟩;have HX:=Hd hx.symm;have hhx:aW 125 (rest s (i+1))=(x==125):=by
    rw [hx];rcases Nat.lt_or_ge (i+1) s.size with h | h
    ·rw [aN h];rfl
    ·rw [bU h];unfold aM;rw [List.getD_eq_getElem?_getD,List.getElem?_eq_none (by rw [←Lib.size_eq];omega)];rfl
   rw [hhx] at hLv;have HLV:=Hd hLv;rw [HC.o];clear t35 hLv hx hhx;obtain⟨d0,d1,d2,g1,g2⟩:=hs1.cells;obtain⟨w2,hw2,hs2,hk2⟩:=fI hs1 ((i:Int)+1);go_wp2_with fail;rw [←hw2];refine (F8 cs s (i+1) _ _ hs2 (by omega)).mono ?_;rintro e w3 ⟨O,rfl,hO,hs3,hk3⟩;have HO:=Hd hO;obtain⟨e0,e1,e2,g3,g4⟩:=hs3.cells;obtain⟨w4,hw4,hs4,hk4⟩:=fI hs3 ((i:Int)+1 - 1);have HK4:=Hd (((HK1.o.trans hk2 (fun _ _ e=>e)).trans hk3 (fun _ _ e=>e.elim)).trans hk4 (fun _ _ e=>e))
   have HR4:=Hd (((HR1.o.keep hk2 (fun e=>hne e.symm)).keep hk3 (fun e=>e)).keep hk4 (fun e=>hne e.symm));have hs4':aD w4 cs s (i:Int) ((0:Nat):Int):=by rw [show (i:Int)+1 - 1=(i:Int) by omega] at hs4;exact hs4
   rw [show (i:Int)+1 - 1=(i:Int) by omega] at hw4;clear hw2 hs2 hk2 hk3 hk4 hO hs4;go_wp2_with fail;rw [←hw4];clear hw4 e0 e1 e2 g3 g4 d0 d1 d2 g1 g2 hs3;refine (cF cs s i _ _ hs4' (by omega) (by omega)).mono ?_;rintro e w5 ⟨rfl,q5,rfl⟩;rw [HX.o];obtain⟨w5,hw5⟩:∃w5,w5=w4.drewN q5:=⟨_,rfl⟩;rw [←hw5];have hs5:aD w5 cs s i ((0:Nat):Int):=by rw [hw5];exact hs4'.drewN _
   have HK5:=Hd (show aB (fun b=>b=cs) w w5 by rw [hw5];exact HK4.o.drewN _);have HR5:=Hd (show aH w5 pb (lV ⟨#[]⟩ ⟨#[]⟩ (.slice none 0 0) q) by rw [hw5];exact HR4.o.keep (S:=fun _=>False) ((aB.refl _ _).drewN _) (fun h=>h));clear hw5 hs4';by_cases tx:x=125
   ·have fx:((x.toNat:Int) != 125)=false:=by rw [bne,show ((x.toNat:Int)==125)=true from aU (c:=x) (k:=125) tx];rfl
    have HLF:=Hd (show L=false by rw [HLV.o,tx];rfl);clear tx;go_wp2_with fail;have hpb:=HPB.o;subst hpb;go_meet
    case rel=>exact⟨by rw [HJ.o,HLF.o];exact hs5,by rw [HLF.o];exact HR5.o,HK5.o⟩
   ·have fx:((x.toNat:Int) != 125)=true:=by rw [bne,show ((x.toNat:Int)==125)=false from aX (c:=x) (k:=125) tx];rfl
    by_cases tO:O.data.toList=[]
    ·obtain⟨u1,u2⟩:=kR tO;have HLT:=Hd (show L=true by rw [HLV.o,beq_eq_false_iff_ne.2 tx,←HO.o,tO];rfl);clear tx tO;obtain⟨d0,d1,d2,g1,g2⟩:=hs5.cells;obtain⟨w6,hw6,hs6,hk6⟩:=fI hs5 ((i:Int)+1);have hr6:=HR5.o.keep hk6 (fun e=>hne e.symm);obtain⟨w7,hw7,hs7,hr7,hk7⟩:=oA hs6 hr6 hne 3 (.string ⟨#[76]⟩);obtain⟨b0,_,_,b3,b4,b5⟩:=hr6.six.1;obtain⟨⟨r0,r1,r2,r3,r4,r5⟩,z0,z1,z2,z3,z4⟩:=HR5.o.six
     have HS7:=Hd hs7;have HR7:=Hd hr7;have HW7:=Hd hw7;have HK7:=Hd ((HK5.o.trans hk6 (fun _ _ e=>e)).trans hk7 (fun b hb e=>by have:=HPB.o;omega));have HW6:=Hd hw6;clear hw6 hw7 hs6 hs7 hr6 hr7 hk6 hk7 b0 b3 b4 b5;go_wp2_with fail;rw [←HW6.o,←HW7.o];have hpb:=HPB.o;subst hpb;go_meet
     case rel=>exact⟨by rw [HJ.o,HLT.o];exact HS7.o,by rw [HLT.o];exact HR7.o,HK7.o⟩
    ·obtain⟨u1,u2⟩:=lQ tO;have HLF:=Hd (show L=false by
      rw [HLV.o,←HO.o];cases h:O.data.toList with
      | nil=>exact absurd h tO
      | cons a b=>simp)
     clear tx tO;go_wp2_with fail;have hpb:=HPB.o;subst hpb;go_meet
     case rel=>exact⟨by rw [HJ.o,HLF.o];exact hs5,by rw [HLF.o];exact HR5.o,HK5.o⟩
  ·have f35:((c.toNat:Int)==35)=false:=aX (c:=c) (k:=35) t35;have HLF:=Hd (show L=false by
    rw [HL.o];unfold bK;rcases Nat.lt_or_ge i s.size with h | h
    ·rw [aN h,HC.o];show ((c==35) && _ && _)=false;rw [beq_eq_false_iff_ne.2 t35];rfl
    ·rw [bU h];rfl)
   rw [HC.o];clear t35;go_wp2_with fail;have hpb:=HPB.o;subst hpb;go_meet
   case rel=>exact⟨by rw [HJ.o,HLF.o];exact hs1,by rw [HLF.o];exact HR1.o,HK1.o⟩
 case rest=>
  obtain⟨hs1,hr1,hk1⟩:=hcut;obtain⟨pb,hpb⟩:∃pb,pb=w.heap.size:=⟨_,rfl⟩;rw [←hpb] at hr1 ⊢;have HPB:=Hd hpb;have hne:cs≠pb:=by omega
  have HS1:=Hd hs1;have HR1:=Hd hr1;have HK1:=Hd hk1;clear hs1 hr1 hk1 hpb;go_wp2_with fail;refine (Hv cs s j _ _ HS1.o (by omega) hjl k HK.o.symm).mono ?_;rintro e w2 ⟨R,rfl,hR,hs2,hk2⟩;have hr2:=HR1.o.keep hk2 (fun e=>hne e.symm);have HKW2:=Hd (HK1.o.trans hk2 (fun _ _ e=>e));obtain⟨w3,hw3,hs3,hr3,hk3⟩:=oA hs2 hr2 hne 2 (.string R);obtain⟨⟨r0,r1,r2,r3,r4,r5⟩,z0,z1,z2,z3,z4⟩:=hr2.six
  have HNM:=Hd hR;have HS3:=Hd hs3;have HR3:=Hd (show aH w3 pb (lV R (opB L) (.slice none 0 0) q) from hr3);have HW3:=Hd hw3;have HKW3:=Hd (HKW2.o.trans hk3 (fun b hb e=>by have:=HPB.o;omega));have hRl:R.data.toList.length=k:=by rw [hR,List.length_take,cM];omega
  have HRL:=Hd hRl;clear hR hs2 hk2 hr2 hw3 hs3 hr3 hk3 hRl;rcases Nat.eq_zero_or_pos k with hk0 | hk0
  ·have hRe:R.data.toList=[]:=List.eq_nil_of_length_eq_zero (by rw [HRL.o];exact hk0);obtain⟨u1,u2⟩:=kR hRe;have HE2:=Hd (show res=.error 2 by rw [HRES.o,if_pos hk0]);clear hRe;go_wp2_with fail;rw [←HW3.o];refine (eO cs s (j+k) 0 2 _ HS3.o).mono ?_;rintro e w4 ⟨rfl,hs4,hk4⟩;have HS4:=Hd hs4;have HK4:=Hd (HKW3.o.trans hk4 (fun _ _ e=>e));clear hs4 hk4;go_wp2_with fail;go_ret;rw [HE2.o]
   exact⟨by decide,_,j+k,raw,rfl,by omega,HS4.o,HROW.o.keep HK4.o (fun _ _ e=>by omega),by omega,HK4.o.mono fun _ _ e=>.inl e⟩
  obtain⟨u1,u2⟩:=lQ (s:=R) (by intro h;rw [h] at HRL;have:=HRL.o;simp at this;omega);have HRES2:=Hd (show res=_ by rw [HRES.o,if_neg (by omega)]);go_wp2_with fail;rw [←HW3.o];refine (bB cs s (j+k) _ _ HS3.o).mono ?_;rintro e w4 ⟨rfl,q4,rfl⟩;obtain⟨W4,hW4⟩:∃W4,W4=w3.drewN q4:=⟨_,rfl⟩;rw [←hW4];have hs4:aD W4 cs s ((j+k:Nat):Int) ((0:Nat):Int):=by rw [hW4];exact HS3.o.drewN _
  have HK4:=Hd (show aB (fun b=>b=cs) w W4 by rw [hW4];exact HKW3.o.drewN _);have hr4:aH W4 pb (lV R (opB L) (.slice none 0 0) q):=by rw [hW4];exact HR3.o.keep (S:=fun _=>False) ((aB.refl _ _).drewN _) (fun h=>h)
  have HS4:=Hd hs4;have HR4:=Hd hr4;obtain⟨P,hP⟩:∃P,P=opB L:=⟨_,rfl⟩;rw [←hP] at HR4 hr4;have HP:=Hd hP;clear hP hW4 r0 r1 r2 r3 r4 r5 z0 z1 z2 z3 z4;by_cases hge:s.size≤j+k
  ·have HOV:=Hd (show decide (s.size≤j+k)=true from decide_eq_true hge);have HE2:=Hd (show res=.error 2 by
    rw [HRES2.o,bU hge];rfl)
   rw [HOV.o];go_wp2_with fail;refine (eO cs s (j+k) 0 2 _ HS4.o).mono ?_;rintro e w5 ⟨rfl,hs5,hk5⟩;have HS5:=Hd hs5;have HK5:=Hd (HK4.o.trans hk5 (fun _ _ e=>e));clear hs5 hk5;go_wp2_with fail;go_ret;rw [HE2.o];exact⟨by decide,_,j+k,raw,rfl,by omega,HS5.o,HROW.o.keep HK5.o (fun _ _ e=>by omega),by omega,HK5.o.mono fun _ _ e=>.inl e⟩
  have hlt:j+k<s.size:=by omega
  have HOV:=Hd (show decide (s.size≤j+k)=false from decide_eq_false (by omega));rw [HOV.o];obtain⟨⟨r0,r1,r2,r3,r4,r5⟩,z0,z1,z2,z3,z4⟩:=hr4.six;clear hs4 hr4;go_upto_if 62 with fail;go_cut [] from 57 to 90 (fun wx=>∃(I n bad:Nat) (O:ByteArray) (wd:List Pt) (xv:Value),aD wx cs s I (bad:Int)∧aH wx pb (lV R O xv q)∧aV wx (fun b=>w.heap.size≤b) n wd xv∧aB (fun b=>b=cs) w wx∧((bad=0∧j+k≤I∧I≤s.size∧res=if aW 125 (rest s I) then .ok ([.mk 3 [] ((rest s j).take k) O.data.toList wd q],rest s (I+1)) else .error 2)∨(bad≠0∧I≤s.size+(100 - d)∧res=.error bad)))
  case first=>
   cases L with
   | true=>
    obtain⟨u4,u3⟩:=lQ (s:=P) (by rw [HP.o];decide);rw [u4];have HRR:=Hd (show res=if aW 125 (rest s (j+k)) then .ok ([.mk 3 [] ((rest s j).take k) P.data.toList [] q],rest s (j+k+1)) else .error 2 by
     rw [HRES2.o,l6,Bool.or_true,HP.o];rfl)
    go_wp2_with fail;go_meet
    case rel=>exact⟨j+k,0,0,P,[],_,HS4.o,HR4.o,aV.nil _ _ 0,HK4.o,.inl ⟨rfl,Nat.le_refl _,by omega,HRR.o⟩⟩
   | false=>
    obtain⟨u4,u3⟩:=kR (s:=P) (by rw [HP.o];rfl);rw [u4];go_wp2_with fail;refine (F8 cs s (j+k) _ _ HS4.o (by omega)).mono ?_;rintro e w5 ⟨O,rfl,hO,hs5,hk5⟩;have hr5:=HR4.o.keep hk5 (fun e=>e);have HKW5:=Hd (HK4.o.trans hk5 (fun _ _ e=>e.elim));obtain⟨w6,hw6,hs6,hr6,hk6⟩:=oA hs5 hr5 hne 3 (.string O);clear r0 r1 r2 r3 r4 r5 z0 z1 z2 z3 z4;obtain⟨⟨r0,r1,r2,r3,r4,r5⟩,z0,z1,z2,z3,z4⟩:=hr5.six
    have HOP:=Hd hO;have HS6:=Hd hs6;have HR6:=Hd (show aH w6 pb (lV R O (.slice none 0 0) q) from hr6);have HW6:=Hd hw6;have HKW6:=Hd (HKW5.o.trans hk6 (fun b hb e=>by have:=HPB.o;omega));have hOle:O.data.toList.length≤s.size - (j+k):=by rw [hO,←cM];exact Lq _
    clear hO hs5 hk5 hr5 hw6 hs6 hr6 hk6;by_cases hOe:O.data.toList=[]
    ·obtain⟨u5,u6⟩:=kR hOe;have HRR:=Hd (show res=if aW 125 (rest s (j+k)) then .ok ([.mk 3 [] ((rest s j).take k) O.data.toList [] q],rest s (j+k+1)) else .error 2 by
      rw [HRES2.o,l6,←HOP.o,hOe];rfl)
     clear hOe;go_wp2_with fail;rw [←HW6.o];have hpb:=HPB.o;go_meet
     case rel=>exact⟨j+k,0,0,O,[],_,HS6.o,HR6.o,aV.nil _ _ 0,HKW6.o,.inl ⟨rfl,Nat.le_refl _,by omega,HRR.o⟩⟩
    ·obtain⟨u5,u6⟩:=lQ hOe;have hOpos:0<O.data.toList.length:=List.length_pos_iff.2 hOe;have HOZ:=Hd (Lib.size_eq O);have h125:aW 125 (rest s (j+k))=false:=Ay (by rw [←HOP.o];exact hOe);obtain⟨J,hJ⟩:∃J,J=j+k+O.size:=⟨_,rfl⟩;have HRR:=Hd (show res=if d=40 then .error 3 else match cS (.br q) (d+1) (rest s J) with
      | .error e=>.error e
      | .ok (l,r3)=>.ok ([.mk 3 [] ((rest s j).take k) O.data.toList (cT l) q],r3) by
      rw [HRES2.o,h125,←HOP.o];simp only [Bool.false_eq_true,if_false,Bool.or_false];rw [if_neg (by simpa using hOe),dY,←HOZ.o,hJ];rfl)
     have hOz2:O.size=O.data.toList.length:=HOZ.o;have hJs:J≤s.size:=by omega
     have hJI:j+k<J:=by omega
     have ew:((j+k:Nat):Int)+(O.size:Int)=(J:Int):=by omega
     have HJJ:=Hd hJ;have HEW:=Hd ew;clear hOe h125 hOpos hJ hOz2 ew;go_wp2_with fail;rw [←HW6.o];clear r0 r1 r2 r3 r4 r5 z0 z1 z2 z3 z4;obtain⟨⟨r0,r1,r2,r3,r4,r5⟩,z0,z1,z2,z3,z4⟩:=HR6.o.six;obtain⟨c0,c1,c2,f1,f2⟩:=HS6.o.cells;have lt6:=HS6.o.lt;have hpbl:=HR6.o.lt;go_region;have hwr:wrap64 ((j:Int)+(k:Int)+(O.size:Int))=(J:Int):=(IntWalk.wrap64_in _ (by have:=HJJ.o;omega)).trans (by have:=HJJ.o;omega)
     rw [hwr];obtain⟨w7,hw7⟩:∃w7,w7=(w6.setCell ⟨cs,1,none⟩ (.int .i64 (J:Int))).drew:=⟨_,rfl⟩;rw [←hw7];obtain⟨hs7a,hk7a⟩:=cE HS6.o (j:=(J:Int)) (J:=J) rfl;have hs7:aD w7 cs s J ((0:Nat):Int):=by rw [hw7];exact hs7a.keep (S:=fun _=>False) (aB.refl _ _).drew (fun h=>h)
     have hk7:aB (fun b=>b=cs) w6 w7:=by rw [hw7];exact hk7a.drew
     have HR7:=Hd (HR6.o.keep hk7 (fun e=>hne e.symm));have HKW7:=Hd (HKW6.o.trans hk7 (fun _ _ e=>e));have HS7:=Hd hs7;clear r0 r1 r2 r3 r4 r5 z0 z1 z2 z3 z4 c0 c1 c2 f1 f2 hwr hw7 hs7a hk7a hs7 hk7;by_cases h40:d=40
     ·have HE3:=Hd (show res=.error 3 by rw [HRR.o,if_pos h40]);have p40:(40:Int)≤(d:Int):=by omega
      clear h40;go_wp2_with fail;refine (eO cs s J 0 3 _ HS7.o).mono ?_;rintro e w8 ⟨rfl,hs8,hk8⟩;have HS8:=Hd hs8;have HK8:=Hd (HKW7.o.trans hk8 (fun _ _ e=>e));clear hs8 hk8;go_wp2_with fail;go_ret;rw [HE3.o];exact⟨by decide,_,J,raw,rfl,by omega,HS8.o,HROW.o.keep HK8.o (fun _ _ e=>by omega),by omega,HK8.o.mono fun _ _ e=>.inl e⟩
     ·have p40:¬(40:Int)≤(d:Int):=by omega
      have HRR2:=Hd (show res=_ by rw [HRR.o,if_neg h40]);obtain⟨hb1,hb2⟩:=Gp (d+1) q (by omega) (rest s J).length (rest s J) (Nat.le_refl _);have hcall:=IH cs s J (d+1) true q w7 HS7.o hJs hs (by omega) (by have:=HKW7.o.size;omega) (by omega);rw [show ((d+1:Nat):Int)=(d:Int)+1 from by omega] at hcall;have HCALL:=Hd hcall;have HB1:=Hd hb1;have HB2:=Hd hb2;clear h40 hcall hb1 hb2;go_wp2_with fail
      refine HCALL.o.mono ?_;intro e w8 hp;cases hwx:fX true (d+1) q (rest s J) with
      | error x=>
       rw [hwx] at hp;obtain⟨hx0,v,n,I,l,he,hI,hs8,hp8,hk8⟩:=hp;obtain⟨xa,xc,rfl,_,_⟩:=hp8.shape;subst he;have HRX:=Hd (show res=.error x by rw [HRR2.o,HB1.o,hwx]);obtain⟨xl,hxl⟩:∃xl,xl=l.length:=⟨_,rfl⟩;rw [←hxl] at hp8 ⊢;have hr8:=HR7.o.keep hk8 (fun e=>hne e.symm);have hpb7:=HR7.o.lt;obtain⟨w9,hw9,hs9,hr9,hk9⟩:=oA hs8 hr8 hne 4 (.slice xa xl xc);obtain⟨⟨r0,r1,r2,r3,r4,r5⟩,z0,z1,z2,z3,z4⟩:=hr8.six
       have HS9:=Hd hs9;have HR9:=Hd (show aH w9 pb (lV R O (.slice xa xl xc) q) from hr9);have HW9:=Hd hw9;have HKW9:=Hd ((HKW7.o.trans hk8 (fun _ _ e=>e)).trans hk9 (fun b hb e=>by have:=HPB.o;omega));have HP9:=Hd (show aV w9 (fun b=>w.heap.size≤b) n l (.slice xa xl xc) from (hp8.keep hk9 (fun b hb h e=>by omega)).mono (fun b hb h=>by have:=HKW7.o.size;omega));clear hs8 hp8 hk8 hw9 hs9 hr9 hk9 hxl hr8
       go_wp2_with fail;rw [←HW9.o];go_meet
       case rel=>exact⟨I,n,x,O,l,_,HS9.o,HR9.o,HP9.o,HKW9.o,.inr ⟨hx0,by omega,HRX.o⟩⟩
      | ok lr=>
       obtain⟨l,r1⟩:=lr;rw [hwx] at hp;obtain⟨v,n,I,he,hI,hr8,hs8,hp8,hk8⟩:=hp;obtain⟨xa,xc,rfl,_,_⟩:=hp8.shape;subst he;have hJI2:j+k≤I:=by
        have h1:=zH _ _ _ _ _ _ _ hwx;rw [←hr8,cM,cM] at h1;omega
       have HRX:=Hd (show res=if aW 125 (rest s I) then .ok ([.mk 3 [] ((rest s j).take k) O.data.toList (cT l) q],rest s (I+1)) else .error 2 by
        rw [HRR2.o,HB1.o,hwx];dsimp only;cases hr1:r1 with
        | nil=>rw [hr8,hr1];rfl
        | cons c t=>
         have hc:=HB2.o l c t (by rw [hwx,hr1]);rw [hr8,hr1,hc];have ht:rest s (I+1)=t:=by rw [←l6,hr8,hr1];rfl
         rw [ht];rfl)
       obtain⟨xl,hxl⟩:∃xl,xl=(cT l).length:=⟨_,rfl⟩;rw [←hxl] at hp8 ⊢;have hr8b:=HR7.o.keep hk8 (fun e=>hne e.symm);have hpb7:=HR7.o.lt;obtain⟨w9,hw9,hs9,hr9,hk9⟩:=oA hs8 hr8b hne 4 (.slice xa xl xc);obtain⟨⟨r0,r1x,r2,r3,r4,r5⟩,z0,z1,z2,z3,z4⟩:=hr8b.six;have HS9:=Hd hs9;have HR9:=Hd (show aH w9 pb (lV R O (.slice xa xl xc) q) from hr9);have HW9:=Hd hw9;have HKW9:=Hd ((HKW7.o.trans hk8 (fun _ _ e=>e)).trans hk9 (fun b hb e=>by have:=HPB.o;omega))
       have HP9:=Hd (show aV w9 (fun b=>w.heap.size≤b) n (cT l) (.slice xa xl xc) from (hp8.keep hk9 (fun b hb h e=>by omega)).mono (fun b hb h=>by have:=HKW7.o.size;omega));clear hs8 hp8 hk8 hw9 hs9 hr9 hk9 hxl hr8b;go_wp2_with fail;rw [←HW9.o];go_meet
       case rel=>exact⟨I,n,0,O,cT l,_,HS9.o,HR9.o,HP9.o,HKW9.o,.inl ⟨rfl,hJI2,hI,HRX.o⟩⟩
  case rest=>
   obtain⟨I,n,bad,O,wd,xv,hs1,hr1,hp1,hk1,hfin⟩:=hcut;obtain⟨xa,xc,rfl,_,_⟩:=hp1.shape;obtain⟨xl,hxl⟩:∃xl,xl=wd.length:=⟨_,rfl⟩;rw [←hxl] at hp1 hr1;have hIb:I≤s.size+100:=by rcases hfin with ⟨_,_,h,_⟩ | ⟨_,h,_⟩<;>omega
   obtain⟨c,hc⟩:∃c,c=aM s I:=⟨_,rfl⟩;have HC:=Hd hc.symm;have HH:=Hd (show aW 125 (rest s I)=(c==125) by
    rw [hc];rcases Nat.lt_or_ge I s.size with h | h
    ·rw [aN h];rfl
    ·rw [bU h];unfold aM;rw [List.getD_eq_getElem?_getD,List.getElem?_eq_none (by rw [←Lib.size_eq];omega)];rfl)
   have HFIN:=Hd hfin;have HS:=Hd hs1;have HR:=Hd hr1;have HP:=Hd hp1;have HKX:=Hd hk1;clear hc hfin hs1 hr1 hp1 hk1 hxl r0 r1 r2 r3 r4 r5 z0 z1 z2 z3 z4;go_wp2_with fail;refine (aP cs s I _ _ HS.o (by omega) (by omega)).mono ?_;rintro e w5 ⟨rfl,q5,rfl⟩;rw [HC.o];obtain⟨W,hW⟩:∃W,W=wc.drewN q5:=⟨_,rfl⟩;rw [←hW];have hsW:aD W cs s I (bad:Int):=by rw [hW];exact HS.o.drewN _
   have HRW:=Hd (show aH W pb (lV R O (.slice xa xl xc) q) by rw [hW];exact HR.o.keep (S:=fun _=>False) ((aB.refl _ _).drewN _) (fun h=>h));have HPW:=Hd (show aV W (fun b=>w.heap.size≤b) n wd (.slice xa xl xc) by rw [hW];exact HP.o.keep (S:=fun _=>False) ((aB.refl _ _).drewN _) (fun _ _ _ h=>h));have HKW:=Hd (show aB (fun b=>b=cs) w W by rw [hW];exact HKX.o.drewN _);clear hW
   by_cases t125:c=125
   ·have fx:((c.toNat:Int) != 125)=false:=by rw [bne,show ((c.toNat:Int)==125)=true from aU (c:=c) (k:=125) t125];rfl
    have hIs:I<s.size:=by
     rcases Nat.lt_or_ge I s.size with h | h
     ·exact h
     ·have h0:c=0:=by
       rw [←HC.o];unfold aM;rw [List.getD_eq_getElem?_getD,List.getElem?_eq_none (by rw [←Lib.size_eq];omega)];rfl
      rw [h0] at t125;exact absurd t125 (by decide)
    have HHT:=Hd (show aW 125 (rest s I)=true by rw [HH.o,t125];rfl);obtain⟨c0,c1,c2,f1,f2⟩:=hsW.cells;have ltW:=hsW.lt;have hpbl:=HRW.o.lt;obtain⟨hs4,hk4⟩:=cE hsW (j:=(I:Int)+1) (J:=I+1) (by omega);have hr4:=HRW.o.keep hk4 (fun e=>hne e.symm);have HK4:=Hd (HKW.o.trans hk4 (fun _ _ e=>e));have hB4:B≤(W.setCell ⟨cs,1,none⟩ (.int .i64 ((I:Int)+1))).heap.size:=Nat.le_trans hB HK4.o.size
    have hR4:=HROW.o.keep HK4.o (fun _ _ e=>by omega);have hp4:aV (W.setCell ⟨cs,1,none⟩ (.int .i64 ((I:Int)+1))) (fun b=>B≤b∧(Value.slice va R0 vc).ownBlock≠some b) n wd (.slice xa xl xc):=(HPW.o.keep hk4 (fun b hb h e=>by omega)).mono (fun b hb h=>⟨by omega,fun e=>by have:=HROW.o.1.lt e;omega⟩);obtain⟨xs,hown,hF⟩:=hR4.more (x:=.mk 3 [] ((rest s j).take k) O.data.toList wd q) hB4 (aB.refl _ _) hp4
    have e1:e8 ((rest s j).take k)=.string R:=jM HNM.o;have e2:e8 O.data.toList=.string O:=jM rfl;simp only [fL,Pt.kind,Pt.text,Pt.name,Pt.op,Pt.quoted,e1,e2] at hF;have HF:=Hd hF;have HS4:=Hd hs4;rw [←HR0.o] at hown HF;obtain⟨⟨r0,r1,r2,r3,r4,r5⟩,z0,z1,z2,z3,z4⟩:=HRW.o.six;have hR0l:R0≤1000000:=by omega
    have hz5:(W.setCell ⟨cs,1,none⟩ (.int .i64 ((I:Int)+1))).heap.size=W.heap.size:=by simp [World.setCell]
    have hb2:=heap_alloc_new (W.setCell ⟨cs,1,none⟩ (.int .i64 ((I:Int)+1))) (.cells #[.int .i64 3,.string ⟨#[]⟩,.string R,.string O,.slice xa xl xc,.bool q] 67);rw [hz5] at hb2;have HB2:=Hd hb2;clear t125 hs4 hk4 hr4 hR4 hp4 hF e1 e2 hb2 hz5;go_wp2_with (at_builtin;refine wpList_append_lies _ rfl (.tmp 104) (.tmp 106) _ rfl 0 67 i0 _ 6 88 Tryz.underlying29 hi0 hz0 hz1 hz2 rfl (by omega) (.slice va R0 vc) R0 xs rfl (hown.alloc _) ⟨W.heap.size,0,none⟩ 1 1 [.int .i64 3,.string ⟨#[]⟩,.string R,.string O,.slice xa xl xc,.bool q] rfl rfl (World.news_of_block (cs:=#[.int .i64 3,.string ⟨#[]⟩,.string R,.string O,.slice xa xl xc,.bool q]) (t:=67) (fr:=(0,0)) HB2.o) (by simp [Value.oneCell']) (by omega) (by unfold maxLen;omega) (by omega) (by simp) (W.heap.size+1) (by simp [World.setCell]) ?_;intro gg cap w5 hown2 hgrow hat hlt2)
    go_ret;obtain⟨hrow,hkeep⟩:=HF.o gg cap w5 _ hown2 hgrow (by simpa [World.setCell] using hat);rcases HFIN.o with ⟨rfl,_,_,hres⟩ | ⟨hb0,_,hres⟩
    ·rw [hres,HHT.o];exact⟨_,I+1,rfl,by omega,rfl,HS4.o.keep hkeep (fun e=>by omega),hrow,by rw [bE];simp only [wtF,Pt.text,lN];omega,(HK4.o.mono fun _ _ e=>.inl e).trans hkeep (fun _ _ e=>.inr e)⟩
    ·rw [hres];exact⟨hb0,_,I+1,_,rfl,by omega,HS4.o.keep hkeep (fun e=>by omega),hrow,by rw [bE];simp only [wtF,Pt.text,lN];omega,(HK4.o.mono fun _ _ e=>.inl e).trans hkeep (fun _ _ e=>.inr e)⟩
   ·have fx:((c.toNat:Int) != 125)=true:=by rw [bne,show ((c.toNat:Int)==125)=false from aX (c:=c) (k:=125) t125];rfl
    have HHF:=Hd (show aW 125 (rest s I)=false by rw [HH.o];exact beq_eq_false_iff_ne.2 t125);clear t125;go_wp2_with fail;refine (eO cs s I bad 2 _ hsW).mono ?_;rintro e w6 ⟨rfl,hs6,hk6⟩;have HS6:=Hd hs6;have HK6:=Hd (HKW.o.trans hk6 (fun _ _ e=>e));clear hs6 hk6;go_wp2_with fail;go_ret;rcases HFIN.o with ⟨rfl,_,hI2,hres⟩ | ⟨hb0,hI2,hres⟩
    ·rw [hres,HHF.o];exact⟨by decide,_,I,raw,rfl,by omega,HS6.o,HROW.o.keep HK6.o (fun _ _ e=>by omega),by omega,HK6.o.mono fun _ _ e=>.inl e⟩
    ·rw [hres];have hs6:=HS6.o;rw [if_neg hb0] at hs6;exact⟨hb0,_,I,raw,rfl,hI2,hs6,HROW.o.keep HK6.o (fun _ _ e=>by omega),by omega,HK6.o.mono fun _ _ e=>.inl e⟩
theorem nU.from {w w1 w':World} {B cs bd:Nat} {s:ByteArray} {raw:List Pt} {res:Res} {e:Ending} (h:nU w1 B cs s bd raw res e w') (hk:aB (fun b=>b=cs) w w1):∃(a:OA) (n c:Nat),e=.returned (.slice a n c)∧nU w B cs s bd raw res (.returned (.slice a n c)) w':=by
 cases res with
 | error x=>
  obtain⟨h0,v,i,raw',he,h1,h2,h3,h4,h5⟩:=h;obtain⟨a,c,rfl,_,_⟩:=h3.shape;exact⟨a,_,c,he,h0,_,i,raw',rfl,h1,h2,h3,h4,(hk.mono fun _ _ e=>.inl e).trans h5 fun _ _ e=>e⟩
 | ok lr=>
  obtain⟨l,r⟩:=lr;obtain⟨v,i,he,h1,h2,h3,h4,h5,h6⟩:=h;obtain⟨a,c,rfl,_,_⟩:=h4.shape;exact⟨a,_,c,he,_,i,rfl,h1,h2,h3,h4,h5,(hk.mono fun _ _ e=>.inl e).trans h6 fun _ _ e=>e⟩
theorem tN (N:Nat) (IH:zY N):Mb N:=by
 intro B cs s I d q v raw w h hI hs hd hr hcB hB hl hN;obtain⟨res,hres⟩:∃res,res=cS (.dol q) d (rest s (I+1)):=⟨_,rfl⟩;rw [←hres];rw [nQ,l6] at hres;obtain⟨va,vc,rfl,_,_⟩:=hr.shape;obtain⟨R0,hR0⟩:∃R0,R0=raw.length:=⟨_,rfl⟩;have hlw:=lJ raw;rw [←hR0] at hr hlw ⊢;obtain⟨i0,hi0,hz0,hz1,hz2⟩:=info_parts i9;have hc6:=dN;have lcs:=h.lt;obtain⟨c0,c1,c2,f1,f2⟩:=h.cells;obtain⟨w1,hw1,hs1,hk1⟩:=fI h ((I:Int)+1)
 have HW1:=Hd hw1;have HS1:=Hd (show aD w1 cs s ((I+1:Nat):Int) ((0:Nat):Int) from hs1);have HK1:=Hd hk1;have HROW:=Hd hr;have HR0:=Hd hR0;have HRES:=Hd hres;obtain⟨c,hc⟩:∃c,c=aM s (I+1):=⟨_,rfl⟩;have HC:=Hd hc.symm;obtain⟨K,hK⟩:∃K,K=dK (rest s (I+1)):=⟨_,rfl⟩;have HRUN:=Hd hK.symm;have hKl:K≤s.size - (I+1):=by rw [hK,←cM];exact Gn _
 have HHD:=Hd (show ∀k:UInt8,k≠0→aW k (rest s (I+1))=(c==k) from fun k hk=>by
  rw [hc];rcases Nat.lt_or_ge (I+1) s.size with h | h
  ·rw [aN h];rfl
  ·rw [bU h];unfold aM;rw [List.getD_eq_getElem?_getD,List.getElem?_eq_none (by rw [←Lib.size_eq];omega)];exact (beq_eq_false_iff_ne.2 (fun e=>hk e.symm)).symm)
 have HNAME:=Hd (show bT false (rest s (I+1))=if K > 0 then K else if bD c then 1 else if dL c then 1 else 0 by
  unfold bT;rw [←hK];split
  ·rfl
  ·rcases Nat.lt_or_ge (I+1) s.size with h | h
   ·rw [aN h,←hc];rfl
   ·rw [bU h];have h0:c=0:=by
     rw [hc];unfold aM;rw [List.getD_eq_getElem?_getD,List.getElem?_eq_none (by rw [←Lib.size_eq];omega)];rfl
    rw [h0];rfl)
 have HRUNC:=Hd (show 0<K→aZ c=true from fun hpos=>by
  rw [hc];rcases Nat.lt_or_ge (I+1) s.size with h | h
  ·rw [hK,aN h,sA] at hpos;cases hl2:aZ (aM s (I+1)) with
   | true=>rfl
   | false=>rw [hl2] at hpos;simp at hpos
  ·rw [hK,bU h] at hpos;exact absurd hpos (by decide))
 have HIN:=Hd (show c≠0→I+1<s.size from fun hc0=>by
  rcases Nat.lt_or_ge (I+1) s.size with h | h
  ·exact h
  ·exfalso;apply hc0;rw [hc];unfold aM;rw [List.getD_eq_getElem?_getD,List.getElem?_eq_none (by rw [←Lib.size_eq];omega)];rfl)
 have HVAR0:=Hd (show (aZ c || bD c || dL c)=true→∀k,k=bT false (rest s (I+1))→k≠0→res=.ok ([.mk 3 [] ((rest s (I+1)).take k) [] [] q],(rest s (I+1)).drop k) from fun hcl k hk hk0=>by
  have hcc:=E2 (P:=fun c=>!(aZ c || bD c || dL c) || (!(c==123) && !(c==40))) (by decide +kernel) c;rw [hcl] at hcc;simp only [Bool.not_true,Bool.false_or,Bool.and_eq_true,Bool.not_eq_true'] at hcc;rw [HRES.o,HHD.o 123 (by decide),hcc.1,if_neg (by simp),if_neg,HHD.o 40 (by decide),hcc.2,if_neg (by simp),←hk,if_neg hk0];intro h2;have h3:aW 40 (rest s (I+1))=true:=by
   cases hr2:rest s (I+1) with
   | nil=>rw [hr2] at h2;cases h2
   | cons a b=>
    rw [hr2] at h2;unfold aI at h2;simp only [Bool.and_eq_true,beq_iff_eq] at h2;rw [←h2.1];rfl
  rw [HHD.o 40 (by decide),hcc.2] at h3;cases h3)
 clear h hr hres hR0 hw1 hs1 hk1 hc hK;by_cases hpos:0<K
 ·have HVAR:=Hd (HVAR0.o (by rw [HRUNC.o hpos];rfl) K (by rw [HNAME.o,if_pos hpos]) (by omega));have p1:(0:Int)<(K:Int):=by omega
  have p2:(I:Int)+1+(K:Int)≤(s.size:Int):=by omega
  have p3:(I:Int)+1≤(I:Int)+1+(K:Int):=by omega
  have p4:((I:Int)+1+(K:Int)).toNat=I+1+K:=by omega
  have p5:((I:Int)+1).toNat=I+1:=by omega
  go_enter Tryz.func45,Tryz.ntmps45;go_wp2_with fail;rw [←HW1.o];refine (aP cs s (I+1) _ _ HS1.o (by omega) (by omega)).mono ?_;rintro e w2 ⟨rfl,q2,rfl⟩;rw [HC.o];obtain⟨W2,hW2⟩:∃W2,W2=w1.drewN q2:=⟨_,rfl⟩;rw [←hW2];have hs2:aD W2 cs s ((I+1:Nat):Int) ((0:Nat):Int):=by rw [hW2];exact HS1.o.drewN _
  have HK2:=Hd (show aB (fun b=>b=cs) w W2 by rw [hW2];exact HK1.o.drewN _);obtain⟨d0,d1,d2,g1,g2⟩:=hs2.cells;clear hW2;go_wp2_with fail;go_quiet ((go_at_call 69;exact Calls.quiet_of_same ((dG s (I+1) _ (by omega) (by omega)).mono (fun e w' hh=>⟨by rw [hh.1,HRUN.o],hh.2.symm⟩))));obtain⟨W3,hW3⟩:∃W3,W3=W2.drewN nq:=⟨_,rfl⟩;rw [←hW3];have hs3:aD W3 cs s ((I+1:Nat):Int) ((0:Nat):Int):=by rw [hW3];exact hs2.drewN _
  have HK3:=Hd (show aB (fun b=>b=cs) w W3 by rw [hW3];exact HK2.o.drewN _);clear hW3 d0 d1 d2 g1 g2 hs2;have HOK:=Hd (show res=.ok ([.mk 3 [] ((rest s (I+1)).take K) [] [] q],rest s (I+1+K)) by rw [HVAR.o,dY]);obtain⟨c0,c1,c2,f1,f2⟩:=hs3.cells;go_wp2_with fail;go_quiet (fail);obtain⟨W4,hW4⟩:∃W4,W4=W3.drewN nq:=⟨_,rfl⟩;rw [←hW4];have hs4:aD W4 cs s ((I+1:Nat):Int) ((0:Nat):Int):=by rw [hW4];exact hs3.drewN _
  have HK4:=Hd (show aB (fun b=>b=cs) w W4 by rw [hW4];exact HK3.o.drewN _);clear hW4 c0 c1 c2 f1 f2;obtain⟨c0,c1,c2,f1,f2⟩:=hs4.cells;have ltW:=hs4.lt;obtain⟨hs5,hk5⟩:=cE hs4 (j:=(I:Int)+1+(K:Int)) (J:=I+1+K) (by omega);have HK5:=Hd (HK4.o.trans hk5 (fun _ _ e=>e));have hB5:B≤(W4.setCell ⟨cs,1,none⟩ (.int .i64 ((I:Int)+1+(K:Int)))).heap.size:=Nat.le_trans hB HK5.o.size;have hR5:=HROW.o.keep HK5.o (fun _ _ e=>by omega)
  obtain⟨xs,hown,hF⟩:=hR5.more0 hB5 (aB.refl _ _) (x:=.mk 3 [] ((rest s (I+1)).take K) [] [] q) rfl;have e1:e8 ((rest s (I+1)).take K)=.string (s.extract (I+1) (I+1+K)):=jM (by rw [Lib.extract_data];unfold rest;rw [show I+1+K - (I+1)=K by omega]);simp only [fL,Pt.kind,Pt.text,Pt.name,Pt.op,Pt.quoted,e1] at hF;have HF:=Hd hF;have HS5:=Hd hs5;rw [←HR0.o] at hown HF;have hz5:(W4.setCell ⟨cs,1,none⟩ (.int .i64 ((I:Int)+1+(K:Int)))).heap.size=W4.heap.size:=by simp [World.setCell]
  have hb2:=heap_alloc_new (W4.setCell ⟨cs,1,none⟩ (.int .i64 ((I:Int)+1+(K:Int)))) (.cells #[.int .i64 3,.string ⟨#[]⟩,.string (s.extract (I+1) (I+1+K)),.string ⟨#[]⟩,.slice none 0 0,.bool q] 67);rw [hz5] at hb2;have HB2:=Hd hb2;clear hs5 hk5 hR5 hF e1 hb2 hz5;go_wp2_with (at_builtin;refine wpList_append_lies _ rfl (.tmp 131) (.tmp 135) _ rfl 0 67 i0 _ 6 88 Tryz.underlying29 hi0 hz0 hz1 hz2 rfl (by omega) (.slice va R0 vc) R0 xs rfl (hown.alloc _) ⟨W4.heap.size,0,none⟩ 1 1 [.int .i64 3,.string ⟨#[]⟩,.string (s.extract (I+1) (I+1+K)),.string ⟨#[]⟩,.slice none 0 0,.bool q] rfl rfl (World.news_of_block (cs:=#[.int .i64 3,.string ⟨#[]⟩,.string (s.extract (I+1) (I+1+K)),.string ⟨#[]⟩,.slice none 0 0,.bool q]) (t:=67) (fr:=(0,0)) HB2.o) (by simp [Value.oneCell']) (by omega) (by unfold maxLen;omega) (by omega) (by simp) (W4.heap.size+1) (by simp [World.setCell]) ?_;intro gg cap w5 hown2 hgrow hat hlt2)
  go_ret;obtain⟨hrow,hkeep⟩:=HF.o gg cap w5 _ hown2 hgrow (by simpa [World.setCell] using hat);rw [HOK.o];exact⟨_,I+1+K,rfl,by omega,rfl,HS5.o.keep hkeep (fun e=>by omega),hrow,by rw [bE];simp only [wtF,Pt.text,lN];omega,(HK5.o.mono fun _ _ e=>.inl e).trans hkeep (fun _ _ e=>.inr e)⟩
 have hK0:K=0:=by omega
 subst hK0;clear hpos;by_cases hsp:(bD c || dL c)=true
 ·have HVAR:=Hd (HVAR0.o (by rw [Bool.or_assoc,hsp,Bool.or_true]) 1 (by
   rw [HNAME.o,if_neg (by omega)];cases hd2:bD c with
   | true=>rfl
   | false=>
    rw [hd2] at hsp;rw [show dL c=true by simpa using hsp];rfl) (by omega))
  have hin:=HIN.o (by rintro rfl;exact absurd hsp (by decide));have p2:(I:Int)+1+1≤(s.size:Int):=by omega
  have p4:((I:Int)+1+1).toNat=I+1+1:=by omega
  have p5:((I:Int)+1).toNat=I+1:=by omega
  cases hdg:bD c with
  | true=>
   have HD:=Hd hdg;clear hdg hsp;go_enter Tryz.func45,Tryz.ntmps45;go_wp2_with fail;rw [←HW1.o];refine (aP cs s (I+1) _ _ HS1.o (by omega) (by omega)).mono ?_;rintro e w2 ⟨rfl,q2,rfl⟩;rw [HC.o];obtain⟨W2,hW2⟩:∃W2,W2=w1.drewN q2:=⟨_,rfl⟩;rw [←hW2];have hs2:aD W2 cs s ((I+1:Nat):Int) ((0:Nat):Int):=by rw [hW2];exact HS1.o.drewN _
   have HK2:=Hd (show aB (fun b=>b=cs) w W2 by rw [hW2];exact HK1.o.drewN _);obtain⟨d0,d1,d2,g1,g2⟩:=hs2.cells;clear hW2;go_wp2_with fail;go_quiet ((go_at_call 69;exact Calls.quiet_of_same ((dG s (I+1) _ (by omega) (by omega)).mono (fun e w' hh=>⟨by rw [hh.1,HRUN.o],hh.2.symm⟩))));obtain⟨W3,hW3⟩:∃W3,W3=W2.drewN nq:=⟨_,rfl⟩;rw [←hW3];have hs3:aD W3 cs s ((I+1:Nat):Int) ((0:Nat):Int):=by rw [hW3];exact hs2.drewN _
   have HK3:=Hd (show aB (fun b=>b=cs) w W3 by rw [hW3];exact HK2.o.drewN _);clear hW3 d0 d1 d2 g1 g2 hs2;go_wp2_with fail;refine (d7 c _).mono ?_;rintro e w4 ⟨rfl,hw4⟩;rw [HD.o,hw4];clear hw4;have HOK:=Hd (show res=.ok ([.mk 3 [] ((rest s (I+1)).take 1) [] [] q],rest s (I+1+1)) by rw [HVAR.o,dY]);obtain⟨c0,c1,c2,f1,f2⟩:=hs3.cells;go_wp2_with fail;go_quiet (fail);obtain⟨W4,hW4⟩:∃W4,W4=W3.drewN nq:=⟨_,rfl⟩
   rw [←hW4];have hs4:aD W4 cs s ((I+1:Nat):Int) ((0:Nat):Int):=by rw [hW4];exact hs3.drewN _
   have HK4:=Hd (show aB (fun b=>b=cs) w W4 by rw [hW4];exact HK3.o.drewN _);clear hW4 c0 c1 c2 f1 f2;obtain⟨c0,c1,c2,f1,f2⟩:=hs4.cells;have ltW:=hs4.lt;obtain⟨hs5,hk5⟩:=cE hs4 (j:=(I:Int)+1+1) (J:=I+1+1) (by omega);have HK5:=Hd (HK4.o.trans hk5 (fun _ _ e=>e));have hB5:B≤(W4.setCell ⟨cs,1,none⟩ (.int .i64 ((I:Int)+1+1))).heap.size:=Nat.le_trans hB HK5.o.size;have hR5:=HROW.o.keep HK5.o (fun _ _ e=>by omega)
   obtain⟨xs,hown,hF⟩:=hR5.more0 hB5 (aB.refl _ _) (x:=.mk 3 [] ((rest s (I+1)).take 1) [] [] q) rfl;have e1:e8 ((rest s (I+1)).take 1)=.string (s.extract (I+1) (I+1+1)):=jM (by rw [Lib.extract_data];unfold rest;rw [show I+1+1 - (I+1)=1 by omega]);simp only [fL,Pt.kind,Pt.text,Pt.name,Pt.op,Pt.quoted,e1] at hF;have HF:=Hd hF;have HS5:=Hd hs5;rw [←HR0.o] at hown HF;have hz5:(W4.setCell ⟨cs,1,none⟩ (.int .i64 ((I:Int)+1+1))).heap.size=W4.heap.size:=by simp [World.setCell]
   have hb2:=heap_alloc_new (W4.setCell ⟨cs,1,none⟩ (.int .i64 ((I:Int)+1+1))) (.cells #[.int .i64 3,.string ⟨#[]⟩,.string (s.extract (I+1) (I+1+1)),.string ⟨#[]⟩,.slice none 0 0,.bool q] 67);rw [hz5] at hb2;have HB2:=Hd hb2;clear hs5 hk5 hR5 hF e1 hb2 hz5;go_wp2_with (at_builtin;refine wpList_append_lies _ rfl (.tmp 131) (.tmp 135) _ rfl 0 67 i0 _ 6 88 Tryz.underlying29 hi0 hz0 hz1 hz2 rfl (by omega) (.slice va R0 vc) R0 xs rfl (hown.alloc _) ⟨W4.heap.size,0,none⟩ 1 1 [.int .i64 3,.string ⟨#[]⟩,.string (s.extract (I+1) (I+1+1)),.string ⟨#[]⟩,.slice none 0 0,.bool q] rfl rfl (World.news_of_block (cs:=#[.int .i64 3,.string ⟨#[]⟩,.string (s.extract (I+1) (I+1+1)),.string ⟨#[]⟩,.slice none 0 0,.bool q]) (t:=67) (fr:=(0,0)) HB2.o) (by simp [Value.oneCell']) (by omega) (by unfold maxLen;omega) (by omega) (by simp) (W4.heap.size+1) (by simp [World.setCell]) ?_;intro gg cap w5 hown2 hgrow hat hlt2)
   go_ret;obtain⟨hrow,hkeep⟩:=HF.o gg cap w5 _ hown2 hgrow (by simpa [World.setCell] using hat);rw [HOK.o];exact⟨_,I+1+1,rfl,by omega,rfl,HS5.o.keep hkeep (fun e=>by omega),hrow,by rw [bE];simp only [wtF,Pt.text,lN];omega,(HK5.o.mono fun _ _ e=>.inl e).trans hkeep (fun _ _ e=>.inr e)⟩
  | false=>
   have hsp2:dL c=true:=by rw [hdg] at hsp;simpa using hsp
   have hcs:((c.toNat:Int)==63)=true∨(((c.toNat:Int)==63)=false∧((c.toNat:Int)==35)=true)∨(((c.toNat:Int)==63)=false∧((c.toNat:Int)==35)=false∧((c.toNat:Int)==64)=true)∨(((c.toNat:Int)==63)=false∧((c.toNat:Int)==35)=false∧((c.toNat:Int)==64)=false∧((c.toNat:Int)==42)=true):=by
    simp only [dL,Bool.or_eq_true,beq_iff_eq] at hsp2;rcases hsp2 with ((h | h) | h) | h<;>rw [h]
    ·exact .inl rfl
    ·exact .inr (.inl ⟨rfl,rfl⟩)
    ·exact .inr (.inr (.inl ⟨rfl,rfl,rfl⟩))
    ·exact .inr (.inr (.inr ⟨rfl,rfl,rfl,rfl⟩))
   have HD:=Hd hdg;clear hdg hsp hsp2;rcases hcs with x1 | ⟨x1,x2⟩ | ⟨x1,x2,x3⟩ | ⟨x1,x2,x3,x4⟩
   all_goals
    go_enter Tryz.func45,Tryz.ntmps45;go_wp2_with fail;rw [←HW1.o];refine (aP cs s (I+1) _ _ HS1.o (by omega) (by omega)).mono ?_;rintro e w2 ⟨rfl,q2,rfl⟩;rw [HC.o];obtain⟨W2,hW2⟩:∃W2,W2=w1.drewN q2:=⟨_,rfl⟩;rw [←hW2];have hs2:aD W2 cs s ((I+1:Nat):Int) ((0:Nat):Int):=by rw [hW2];exact HS1.o.drewN _
    have HK2:=Hd (show aB (fun b=>b=cs) w W2 by rw [hW2];exact HK1.o.drewN _);obtain⟨d0,d1,d2,g1,g2⟩:=hs2.cells;clear hW2;go_wp2_with fail;go_quiet ((go_at_call 69;exact Calls.quiet_of_same ((dG s (I+1) _ (by omega) (by omega)).mono (fun e w' hh=>⟨by rw [hh.1,HRUN.o],hh.2.symm⟩))));obtain⟨W3,hW3⟩:∃W3,W3=W2.drewN nq:=⟨_,rfl⟩;rw [←hW3];have hs3:aD W3 cs s ((I+1:Nat):Int) ((0:Nat):Int):=by rw [hW3];exact hs2.drewN _
    have HK3:=Hd (show aB (fun b=>b=cs) w W3 by rw [hW3];exact HK2.o.drewN _);clear hW3 d0 d1 d2 g1 g2 hs2;go_wp2_with fail;refine (d7 c _).mono ?_;rintro e w4 ⟨rfl,hw4⟩;rw [HD.o,hw4];clear hw4;have HOK:=Hd (show res=.ok ([.mk 3 [] ((rest s (I+1)).take 1) [] [] q],rest s (I+1+1)) by rw [HVAR.o,dY]);obtain⟨c0,c1,c2,f1,f2⟩:=hs3.cells;go_wp2_with fail;go_quiet (fail);obtain⟨W4,hW4⟩:∃W4,W4=W3.drewN nq:=⟨_,rfl⟩
    rw [←hW4];have hs4:aD W4 cs s ((I+1:Nat):Int) ((0:Nat):Int):=by rw [hW4];exact hs3.drewN _
    have HK4:=Hd (show aB (fun b=>b=cs) w W4 by rw [hW4];exact HK3.o.drewN _);clear hW4 c0 c1 c2 f1 f2;obtain⟨c0,c1,c2,f1,f2⟩:=hs4.cells;have ltW:=hs4.lt;obtain⟨hs5,hk5⟩:=cE hs4 (j:=(I:Int)+1+1) (J:=I+1+1) (by omega);have HK5:=Hd (HK4.o.trans hk5 (fun _ _ e=>e));have hB5:B≤(W4.setCell ⟨cs,1,none⟩ (.int .i64 ((I:Int)+1+1))).heap.size:=Nat.le_trans hB HK5.o.size;have hR5:=HROW.o.keep HK5.o (fun _ _ e=>by omega)
    obtain⟨xs,hown,hF⟩:=hR5.more0 hB5 (aB.refl _ _) (x:=.mk 3 [] ((rest s (I+1)).take 1) [] [] q) rfl;have e1:e8 ((rest s (I+1)).take 1)=.string (s.extract (I+1) (I+1+1)):=jM (by rw [Lib.extract_data];unfold rest;rw [show I+1+1 - (I+1)=1 by omega]);simp only [fL,Pt.kind,Pt.text,Pt.name,Pt.op,Pt.quoted,e1] at hF;have HF:=Hd hF;have HS5:=Hd hs5;rw [←HR0.o] at hown HF;have hz5:(W4.setCell ⟨cs,1,none⟩ (.int .i64 ((I:Int)+1+1))).heap.size=W4.heap.size:=by simp [World.setCell]
    have hb2:=heap_alloc_new (W4.setCell ⟨cs,1,none⟩ (.int .i64 ((I:Int)+1+1))) (.cells #[.int .i64 3,.string ⟨#[]⟩,.string (s.extract (I+1) (I+1+1)),.string ⟨#[]⟩,.slice none 0 0,.bool q] 67);rw [hz5] at hb2;have HB2:=Hd hb2;clear hs5 hk5 hR5 hF e1 hb2 hz5;go_wp2_with (at_builtin;refine wpList_append_lies _ rfl (.tmp 131) (.tmp 135) _ rfl 0 67 i0 _ 6 88 Tryz.underlying29 hi0 hz0 hz1 hz2 rfl (by omega) (.slice va R0 vc) R0 xs rfl (hown.alloc _) ⟨W4.heap.size,0,none⟩ 1 1 [.int .i64 3,.string ⟨#[]⟩,.string (s.extract (I+1) (I+1+1)),.string ⟨#[]⟩,.slice none 0 0,.bool q] rfl rfl (World.news_of_block (cs:=#[.int .i64 3,.string ⟨#[]⟩,.string (s.extract (I+1) (I+1+1)),.string ⟨#[]⟩,.slice none 0 0,.bool q]) (t:=67) (fr:=(0,0)) HB2.o) (by simp [Value.oneCell']) (by omega) (by unfold maxLen;omega) (by omega) (by simp) (W4.heap.size+1) (by simp [World.setCell]) ?_;intro gg cap w5 hown2 hgrow hat hlt2)
    go_ret;obtain⟨hrow,hkeep⟩:=HF.o gg cap w5 _ hown2 hgrow (by simpa [World.setCell] using hat);rw [HOK.o];exact⟨_,I+1+1,rfl,by omega,rfl,HS5.o.keep hkeep (fun e=>by omega),hrow,by rw [bE];simp only [wtF,Pt.text,lN];omega,(HK5.o.mono fun _ _ e=>.inl e).trans hkeep (fun _ _ e=>.inr e)⟩
 ·have hdg:bD c=false:=by cases h:bD c with | false=>rfl | true=>rw [h] at hsp;simp at hsp
  have hsp2:dL c=false:=by cases h:dL c with | false=>rfl | true=>rw [h] at hsp;simp at hsp
  obtain⟨x1,x2,x3,x4⟩:=wZ hsp2;have HD:=Hd hdg;have HN0:=Hd (show bT false (rest s (I+1))=0 by rw [HNAME.o,if_neg (by omega),hdg,hsp2];rfl);clear hsp hdg hsp2;by_cases t123:c=123
  ·have f123:((c.toNat:Int)==123)=true:=aU (c:=c) (k:=123) t123;have hin:=HIN.o (by rw [t123];decide);have HRB:=Hd (show res=cS (.brace q) d (rest s (I+2)) by rw [HRES.o,HHD.o 123 (by decide),t123];rfl);clear t123;go_enter Tryz.func45,Tryz.ntmps45;go_wp2_with fail;rw [←HW1.o];refine (aP cs s (I+1) _ _ HS1.o (by omega) (by omega)).mono ?_;rintro e w2 ⟨rfl,q2,rfl⟩;rw [HC.o]
   obtain⟨W2,hW2⟩:∃W2,W2=w1.drewN q2:=⟨_,rfl⟩;rw [←hW2];have hs2:aD W2 cs s ((I+1:Nat):Int) ((0:Nat):Int):=by rw [hW2];exact HS1.o.drewN _
   have HK2:=Hd (show aB (fun b=>b=cs) w W2 by rw [hW2];exact HK1.o.drewN _);obtain⟨d0,d1,d2,g1,g2⟩:=hs2.cells;clear hW2;go_wp2_with fail;go_quiet ((go_at_call 69;exact Calls.quiet_of_same ((dG s (I+1) _ (by omega) (by omega)).mono (fun e w' hh=>⟨by rw [hh.1,HRUN.o],hh.2.symm⟩))));obtain⟨W3,hW3⟩:∃W3,W3=W2.drewN nq:=⟨_,rfl⟩;rw [←hW3];have hs3:aD W3 cs s ((I+1:Nat):Int) ((0:Nat):Int):=by rw [hW3];exact hs2.drewN _
   have HK3:=Hd (show aB (fun b=>b=cs) w W3 by rw [hW3];exact HK2.o.drewN _);clear hW3 d0 d1 d2 g1 g2 hs2;go_wp2_with fail;refine (d7 c _).mono ?_;rintro e w4 ⟨rfl,hw4⟩;rw [HD.o,hw4];clear hw4;obtain⟨d0,d1,d2,g1,g2⟩:=hs3.cells;obtain⟨w5,hw5,hs5,hk5⟩:=fI hs3 ((I:Int)+1+1);have HK5:=Hd (HK3.o.trans hk5 (fun _ _ e=>e));have hcall:=IH B cs s (I+2) d q (.slice va R0 vc) raw w5 (by have h:=hs5;rwa [show (I:Int)+1+1=((I+2:Nat):Int) by omega] at h) (by omega) hs hd (HROW.o.keep HK5.o (fun _ _ e=>by omega)) hcB (Nat.le_trans hB HK5.o.size) (by omega) (by omega)
   have HCALL:=Hd hcall;have HW5:=Hd hw5;clear hcall hw5 hs5 hk5;go_wp2_with fail;rw [←HW5.o];refine HCALL.o.mono ?_;intro e w6 hp;rw [←HRB.o] at hp;obtain⟨a,n,cc,rfl,hp2⟩:=hp.from HK5.o;have HP:=Hd hp2;clear hp hp2;go_wp2_with fail;go_ret;exact HP.o
  have f123:((c.toNat:Int)==123)=false:=aX (c:=c) (k:=123) t123;have G123:=Hd (show aW 123 (rest s (I+1))=false by rw [HHD.o 123 (by decide)];exact beq_eq_false_iff_ne.2 t123);clear t123;by_cases t40:c=40
  ·have f40:((c.toNat:Int)==40)=true:=aU (c:=c) (k:=40) t40;have hin:=HIN.o (by rw [t40];decide);obtain⟨x,hx⟩:∃x,x=aM s (I+1+1):=⟨_,rfl⟩;have HX:=Hd hx.symm;have HST:=Hd (show aI [40,40] (rest s (I+1))=(x==40) by
    rw [aN hin,HC.o,t40,hx];rcases Nat.lt_or_ge (I+1+1) s.size with h | h
    ·rw [aN h];show ((40:UInt8)==40 && ((40:UInt8)==aM s (I+1+1) && true))=(aM s (I+1+1)==40);rw [Bool.eq_iff_iff];simp only [beq_self_eq_true,Bool.true_and,Bool.and_true,beq_iff_eq];exact⟨Eq.symm,Eq.symm⟩
    ·rw [bU h];unfold aM;rw [List.getD_eq_getElem?_getD,List.getElem?_eq_none (by rw [←Lib.size_eq];omega)];rfl)
   have HH40:=Hd (show aW 40 (rest s (I+1))=true by rw [HHD.o 40 (by decide),t40];rfl);clear t40 hx;by_cases tx:x=40
   ·have fx:((x.toNat:Int)==40)=true:=aU (c:=x) (k:=40) tx;have hin2:I+3≤s.size:=by
     rcases Nat.lt_or_ge (I+1+1) s.size with h | h
     ·omega
     ·exfalso;have h0:x=0:=by
       rw [←HX.o];unfold aM;rw [List.getD_eq_getElem?_getD,List.getElem?_eq_none (by rw [←Lib.size_eq];omega)];rfl
      rw [h0] at tx;exact absurd tx (by decide)
    have HRB:=Hd (show res=o4 q (rest s (I+3)) by
     rw [HRES.o,G123.out,if_neg (by simp),HST.o,tx,if_pos (by rfl),dY];rfl)
    clear tx;go_enter Tryz.func45,Tryz.ntmps45;go_wp2_with fail;rw [←HW1.o];refine (aP cs s (I+1) _ _ HS1.o (by omega) (by omega)).mono ?_;rintro e w2 ⟨rfl,q2,rfl⟩;rw [HC.o];obtain⟨W2,hW2⟩:∃W2,W2=w1.drewN q2:=⟨_,rfl⟩;rw [←hW2];have hs2:aD W2 cs s ((I+1:Nat):Int) ((0:Nat):Int):=by rw [hW2];exact HS1.o.drewN _
    have HK2:=Hd (show aB (fun b=>b=cs) w W2 by rw [hW2];exact HK1.o.drewN _);obtain⟨d0,d1,d2,g1,g2⟩:=hs2.cells;clear hW2;go_wp2_with fail;go_quiet ((go_at_call 69;exact Calls.quiet_of_same ((dG s (I+1) _ (by omega) (by omega)).mono (fun e w' hh=>⟨by rw [hh.1,HRUN.o],hh.2.symm⟩))));obtain⟨W3,hW3⟩:∃W3,W3=W2.drewN nq:=⟨_,rfl⟩;rw [←hW3];have hs3:aD W3 cs s ((I+1:Nat):Int) ((0:Nat):Int):=by rw [hW3];exact hs2.drewN _
    have HK3:=Hd (show aB (fun b=>b=cs) w W3 by rw [hW3];exact HK2.o.drewN _);clear hW3 d0 d1 d2 g1 g2 hs2;go_wp2_with fail;refine (d7 c _).mono ?_;rintro e w4 ⟨rfl,hw4⟩;rw [HD.o,hw4];clear hw4;go_wp2_with fail;refine (cF cs s (I+1) _ _ hs3 (by omega) (by omega)).mono ?_;rintro e w4 ⟨rfl,q4,rfl⟩;rw [HX.o];obtain⟨W4,hW4⟩:∃W4,W4=W3.drewN q4:=⟨_,rfl⟩;rw [←hW4];have hs4:aD W4 cs s ((I+1:Nat):Int) ((0:Nat):Int):=by rw [hW4];exact hs3.drewN _
    have HK4:=Hd (show aB (fun b=>b=cs) w W4 by rw [hW4];exact HK3.o.drewN _);clear hW4;obtain⟨d0,d1,d2,g1,g2⟩:=hs4.cells;obtain⟨w5,hw5,hs5,hk5⟩:=fI hs4 ((I:Int)+1+2);have HK5:=Hd (HK4.o.trans hk5 (fun _ _ e=>e));have hcall:=Ih B cs s (I+3) q (.slice va R0 vc) raw w5 (by have h:=hs5;rwa [show (I:Int)+1+2=((I+3:Nat):Int) by omega] at h) hs (by omega) (HROW.o.keep HK5.o (fun _ _ e=>by omega)) hcB (Nat.le_trans hB HK5.o.size) (by omega) (100 - d)
    have HCALL:=Hd hcall;have HW5:=Hd hw5;clear hcall hw5 hs5 hk5;go_wp2_with fail;rw [←HW5.o];refine HCALL.o.mono ?_;intro e w6 hp;rw [←HRB.o] at hp;obtain⟨a,n,cc,rfl,hp2⟩:=hp.from HK5.o;have HP:=Hd hp2;clear hp hp2;go_wp2_with fail;go_ret;exact HP.o
   ·have fx:((x.toNat:Int)==40)=false:=aX (c:=x) (k:=40) tx;have HRB:=Hd (show res=vT q (rest s (I+2)) by
     rw [HRES.o,G123.out,if_neg (by simp),HST.o,beq_eq_false_iff_ne.2 tx,if_neg (by simp),HH40.o,if_pos (by rfl)];rfl)
    clear tx;go_enter Tryz.func45,Tryz.ntmps45;go_wp2_with fail;rw [←HW1.o];refine (aP cs s (I+1) _ _ HS1.o (by omega) (by omega)).mono ?_;rintro e w2 ⟨rfl,q2,rfl⟩;rw [HC.o];obtain⟨W2,hW2⟩:∃W2,W2=w1.drewN q2:=⟨_,rfl⟩;rw [←hW2];have hs2:aD W2 cs s ((I+1:Nat):Int) ((0:Nat):Int):=by rw [hW2];exact HS1.o.drewN _
    have HK2:=Hd (show aB (fun b=>b=cs) w W2 by rw [hW2];exact HK1.o.drewN _);obtain⟨d0,d1,d2,g1,g2⟩:=hs2.cells;clear hW2;go_wp2_with fail;go_quiet ((go_at_call 69;exact Calls.quiet_of_same ((dG s (I+1) _ (by omega) (by omega)).mono (fun e w' hh=>⟨by rw [hh.1,HRUN.o],hh.2.symm⟩))));obtain⟨W3,hW3⟩:∃W3,W3=W2.drewN nq:=⟨_,rfl⟩;rw [←hW3];have hs3:aD W3 cs s ((I+1:Nat):Int) ((0:Nat):Int):=by rw [hW3];exact hs2.drewN _
    have HK3:=Hd (show aB (fun b=>b=cs) w W3 by rw [hW3];exact HK2.o.drewN _);clear hW3 d0 d1 d2 g1 g2 hs2;go_wp2_with fail;refine (d7 c _).mono ?_;rintro e w4 ⟨rfl,hw4⟩;rw [HD.o,hw4];clear hw4;go_wp2_with fail;refine (cF cs s (I+1) _ _ hs3 (by omega) (by omega)).mono ?_;rintro e w4 ⟨rfl,q4,rfl⟩;rw [HX.o];obtain⟨W4,hW4⟩:∃W4,W4=W3.drewN q4:=⟨_,rfl⟩;rw [←hW4];have hs4:aD W4 cs s ((I+1:Nat):Int) ((0:Nat):Int):=by rw [hW4];exact hs3.drewN _
    have HK4:=Hd (show aB (fun b=>b=cs) w W4 by rw [hW4];exact HK3.o.drewN _);clear hW4;obtain⟨d0,d1,d2,g1,g2⟩:=hs4.cells;obtain⟨w5,hw5,hs5,hk5⟩:=fI hs4 ((I:Int)+1+1);have HK5:=Hd (HK4.o.trans hk5 (fun _ _ e=>e));have hcall:=Lf B cs s (I+2) q (.slice va R0 vc) raw w5 (by have h:=hs5;rwa [show (I:Int)+1+1=((I+2:Nat):Int) by omega] at h) hs (by omega) (HROW.o.keep HK5.o (fun _ _ e=>by omega)) hcB (Nat.le_trans hB HK5.o.size) (by omega) (100 - d) (by omega)
    have HCALL:=Hd hcall;have HW5:=Hd hw5;clear hcall hw5 hs5 hk5;go_wp2_with fail;rw [←HW5.o];refine HCALL.o.mono ?_;intro e w6 hp;rw [←HRB.o] at hp;obtain⟨a,n,cc,rfl,hp2⟩:=hp.from HK5.o;have HP:=Hd hp2;clear hp hp2;go_wp2_with fail;go_ret;exact HP.o
  ·have f40:((c.toNat:Int)==40)=false:=aX (c:=c) (k:=40) t40;have HRB:=Hd (show res=.ok ([if q then cG [36] else eG [36]],rest s (I+1)) by
    have h40:aW 40 (rest s (I+1))=false:=by rw [HHD.o 40 (by decide)];exact beq_eq_false_iff_ne.2 t40
    have h44:aI [40,40] (rest s (I+1))=false:=by
     cases hr2:rest s (I+1) with
     | nil=>rfl
     | cons a b=>
      rw [hr2] at h40;unfold aI;rw [show ((40:UInt8)==a)=false by rw [beq_eq_false_iff_ne];have:(a==40)=false:=h40;rw [beq_eq_false_iff_ne] at this;exact fun e=>this e.symm];rfl
    rw [HRES.o,G123.out,if_neg (by simp),h44,if_neg (by simp),h40,if_neg (by simp),HN0.o,if_pos rfl])
   clear t40;cases q with
   | true=>
    go_enter Tryz.func45,Tryz.ntmps45;go_wp2_with fail;rw [←HW1.o];refine (aP cs s (I+1) _ _ HS1.o (by omega) (by omega)).mono ?_;rintro e w2 ⟨rfl,q2,rfl⟩;rw [HC.o];obtain⟨W2,hW2⟩:∃W2,W2=w1.drewN q2:=⟨_,rfl⟩;rw [←hW2];have hs2:aD W2 cs s ((I+1:Nat):Int) ((0:Nat):Int):=by rw [hW2];exact HS1.o.drewN _
    have HK2:=Hd (show aB (fun b=>b=cs) w W2 by rw [hW2];exact HK1.o.drewN _);obtain⟨d0,d1,d2,g1,g2⟩:=hs2.cells;clear hW2;go_wp2_with fail;go_quiet ((go_at_call 69;exact Calls.quiet_of_same ((dG s (I+1) _ (by omega) (by omega)).mono (fun e w' hh=>⟨by rw [hh.1,HRUN.o],hh.2.symm⟩))));obtain⟨W3,hW3⟩:∃W3,W3=W2.drewN nq:=⟨_,rfl⟩;rw [←hW3];have hs3:aD W3 cs s ((I+1:Nat):Int) ((0:Nat):Int):=by rw [hW3];exact hs2.drewN _
    have HK3:=Hd (show aB (fun b=>b=cs) w W3 by rw [hW3];exact HK2.o.drewN _);clear hW3 d0 d1 d2 g1 g2 hs2;go_wp2_with fail;refine (d7 c _).mono ?_;rintro e w4 ⟨rfl,hw4⟩;rw [HD.o,hw4];clear hw4;have hR3:=HROW.o.keep HK3.o (fun _ _ e=>by omega);have hput:=fR B 2 ⟨#[36]⟩ _ raw W3 hR3 (Nat.le_trans hB HK3.o.size) (by have:=HR0.o;omega) (.inl rfl);have HPUT:=Hd hput;clear hR3 hput
    go_wp2_with fail;refine HPUT.o.mono ?_;rintro e w6 ⟨v6,rfl,hrow,hkeep⟩;obtain⟨a6,n6,c6,rfl⟩:∃a n c,v6=.slice a n c:=by obtain⟨a,c,e,_⟩:=hrow.shape;exact⟨a,_,c,e⟩
    have HROW6:=Hd hrow;have HKEEP:=Hd hkeep;clear hrow hkeep;go_wp2_with fail;go_ret;rw [HRB.o];exact⟨_,I+1,rfl,by omega,rfl,hs3.keep HKEEP.o (fun e=>by omega),HROW6.o,by rw [bE];show wtF raw+(1+1+0)≤_;omega,(HK3.o.mono fun _ _ e=>.inl e).trans HKEEP.o (fun _ _ e=>.inr e)⟩
   | false=>
    go_enter Tryz.func45,Tryz.ntmps45;go_wp2_with fail;rw [←HW1.o];refine (aP cs s (I+1) _ _ HS1.o (by omega) (by omega)).mono ?_;rintro e w2 ⟨rfl,q2,rfl⟩;rw [HC.o];obtain⟨W2,hW2⟩:∃W2,W2=w1.drewN q2:=⟨_,rfl⟩;rw [←hW2];have hs2:aD W2 cs s ((I+1:Nat):Int) ((0:Nat):Int):=by rw [hW2];exact HS1.o.drewN _
    have HK2:=Hd (show aB (fun b=>b=cs) w W2 by rw [hW2];exact HK1.o.drewN _);obtain⟨d0,d1,d2,g1,g2⟩:=hs2.cells;clear hW2;go_wp2_with fail;go_quiet ((go_at_call 69;exact Calls.quiet_of_same ((dG s (I+1) _ (by omega) (by omega)).mono (fun e w' hh=>⟨by rw [hh.1,HRUN.o],hh.2.symm⟩))));obtain⟨W3,hW3⟩:∃W3,W3=W2.drewN nq:=⟨_,rfl⟩;rw [←hW3];have hs3:aD W3 cs s ((I+1:Nat):Int) ((0:Nat):Int):=by rw [hW3];exact hs2.drewN _
    have HK3:=Hd (show aB (fun b=>b=cs) w W3 by rw [hW3];exact HK2.o.drewN _);clear hW3 d0 d1 d2 g1 g2 hs2;go_wp2_with fail;refine (d7 c _).mono ?_;rintro e w4 ⟨rfl,hw4⟩;rw [HD.o,hw4];clear hw4;have hR3:=HROW.o.keep HK3.o (fun _ _ e=>by omega);have hput:=fR B 1 ⟨#[36]⟩ _ raw W3 hR3 (Nat.le_trans hB HK3.o.size) (by have:=HR0.o;omega) (.inr ⟨rfl,by decide⟩);have HPUT:=Hd hput
    clear hR3 hput;go_wp2_with fail;refine HPUT.o.mono ?_;rintro e w6 ⟨v6,rfl,hrow,hkeep⟩;obtain⟨a6,n6,c6,rfl⟩:∃a n c,v6=.slice a n c:=by obtain⟨a,c,e,_⟩:=hrow.shape;exact⟨a,_,c,e⟩
    have HROW6:=Hd hrow;have HKEEP:=Hd hkeep;clear hrow hkeep;go_wp2_with fail;go_ret;rw [HRB.o];exact⟨_,I+1,rfl,by omega,rfl,hs3.keep HKEEP.o (fun e=>by omega),HROW6.o,by rw [bE];show wtF raw+(1+1+0)≤_;omega,(HK3.o.mono fun _ _ e=>.inl e).trans HKEEP.o (fun _ _ e=>.inr e)⟩
theorem Ed (N:Nat) (IH:Mb N):O7 N:=by
 intro B cs s I d v raw w h hI hs hd hr hcB hB hl hN;obtain⟨res,hres⟩:∃res,res=cS (.one true) d (rest s I):=⟨_,rfl⟩;rw [←hres];obtain⟨c,hc⟩:∃c,c=aM s I:=⟨_,rfl⟩;obtain⟨x,hx⟩:∃x,x=aM s (I+1):=⟨_,rfl⟩;have hhd:(rest s (I+1)).headD 0=x:=by
  rw [hx];rcases Nat.lt_or_ge (I+1) s.size with h | h
  ·rw [aN h];rfl
  ·rw [bU h];unfold aM;rw [List.getD_eq_getElem?_getD,List.getElem?_eq_none (by rw [←Lib.size_eq];omega)];rfl
 have hh10:aW 10 (rest s (I+1))=(x==10):=by
  rw [hx];rcases Nat.lt_or_ge (I+1) s.size with h | h
  ·rw [aN h];rfl
  ·rw [bU h];unfold aM;rw [List.getD_eq_getElem?_getD,List.getElem?_eq_none (by rw [←Lib.size_eq];omega)];rfl
 rw [aN hI,←hc,nO,hhd,hh10,l6] at hres;have HIN:=Hd (show x≠0→I+1<s.size from fun hc0=>by
  rcases Nat.lt_or_ge (I+1) s.size with h | h
  ·exact h
  ·exfalso;apply hc0;rw [hx];unfold aM;rw [List.getD_eq_getElem?_getD,List.getElem?_eq_none (by rw [←Lib.size_eq];omega)];rfl)
 obtain⟨va,vc,rfl,_,_⟩:=hr.shape;obtain⟨R0,hR0⟩:∃R0,R0=raw.length:=⟨_,rfl⟩;have hlw:=lJ raw;rw [←hR0] at hr hlw ⊢;have HROW:=Hd hr;have HR0:=Hd hR0;have HRES:=Hd hres;have HC:=Hd hc.symm;have HX:=Hd hx.symm;have lcs:=h.lt;clear hr hres hR0 hc hx hhd hh10;by_cases t34:c=34
 ·have f34:((c.toNat:Int)==34)=true:=aU (c:=c) (k:=34) t34;have HE2:=Hd (show res=.error 2 by rw [HRES.o,t34];rfl);clear t34;go_enter Tryz.func42,Tryz.ntmps42;go_wp2_with fail;refine (aP cs s I _ _ h (by omega) (by omega)).mono ?_;rintro e w1 ⟨rfl,q1,rfl⟩;rw [HC.o];obtain⟨W0,hW⟩:∃W0,W0=w.drewN q1:=⟨_,rfl⟩;rw [←hW];have hsW0:aD W0 cs s I ((0:Nat):Int):=by rw [hW];exact h.drewN _
  have HKW0:=Hd (show aB (fun b=>b=cs) w W0 by rw [hW];exact (aB.refl _ _).drewN _);clear hW;go_wp2_with fail;refine (eO cs s I 0 2 _ hsW0).mono ?_;rintro e w2 ⟨rfl,hs2,hk2⟩;have HS2:=Hd hs2;have HK2:=Hd (HKW0.o.trans hk2 (fun _ _ e=>e));clear hs2 hk2;go_wp2_with fail;go_ret;rw [HE2.o];exact⟨by decide,_,I,raw,rfl,by omega,HS2.o,HROW.o.keep HK2.o (fun _ _ e=>by omega),by omega,HK2.o.mono fun _ _ e=>.inl e⟩
 have f34:((c.toNat:Int)==34)=false:=aX (c:=c) (k:=34) t34;have G34:=Hd (show (c==34)=false from beq_eq_false_iff_ne.2 t34);clear t34;by_cases t96:c=96
 ·have f96:((c.toNat:Int)==96)=true:=aU (c:=c) (k:=96) t96;have HE2:=Hd (show res=.error 2 by rw [HRES.o,t96];rfl);clear t96;go_enter Tryz.func42,Tryz.ntmps42;go_wp2_with fail;refine (aP cs s I _ _ h (by omega) (by omega)).mono ?_;rintro e w1 ⟨rfl,q1,rfl⟩;rw [HC.o];obtain⟨W0,hW⟩:∃W0,W0=w.drewN q1:=⟨_,rfl⟩;rw [←hW];have hsW0:aD W0 cs s I ((0:Nat):Int):=by rw [hW];exact h.drewN _
  have HKW0:=Hd (show aB (fun b=>b=cs) w W0 by rw [hW];exact (aB.refl _ _).drewN _);clear hW;go_wp2_with fail;refine (eO cs s I 0 2 _ hsW0).mono ?_;rintro e w2 ⟨rfl,hs2,hk2⟩;have HS2:=Hd hs2;have HK2:=Hd (HKW0.o.trans hk2 (fun _ _ e=>e));clear hs2 hk2;go_wp2_with fail;go_ret;rw [HE2.o];exact⟨by decide,_,I,raw,rfl,by omega,HS2.o,HROW.o.keep HK2.o (fun _ _ e=>by omega),by omega,HK2.o.mono fun _ _ e=>.inl e⟩
 have f96:((c.toNat:Int)==96)=false:=aX (c:=c) (k:=96) t96;have G96:=Hd (show (c==96)=false from beq_eq_false_iff_ne.2 t96);clear t96;by_cases t36:c=36
 ·have f36:((c.toNat:Int)==36)=true:=aU (c:=c) (k:=36) t36;have HRB:=Hd (show res=cS (.dol true) d (rest s (I+1)) by
   rw [HRES.o,G34.out,G96.out,t36];rfl)
  clear t36;go_enter Tryz.func42,Tryz.ntmps42;go_wp2_with fail;refine (aP cs s I _ _ h (by omega) (by omega)).mono ?_;rintro e w1 ⟨rfl,q1,rfl⟩;rw [HC.o];obtain⟨W0,hW⟩:∃W0,W0=w.drewN q1:=⟨_,rfl⟩;rw [←hW];have hsW0:aD W0 cs s I ((0:Nat):Int):=by rw [hW];exact h.drewN _
  have HKW0:=Hd (show aB (fun b=>b=cs) w W0 by rw [hW];exact (aB.refl _ _).drewN _);clear hW;have hcall:=IH B cs s I d true (.slice va R0 vc) raw W0 hsW0 hI hs hd (HROW.o.keep HKW0.o (fun _ _ e=>by omega)) hcB (Nat.le_trans hB HKW0.o.size) hl hN;have HCALL:=Hd hcall;clear hcall;go_wp2_with fail;refine HCALL.o.mono ?_;intro e w6 hp;rw [←HRB.o] at hp;obtain⟨a,n,cc,rfl,hp2⟩:=hp.from HKW0.o
  have HP:=Hd hp2;clear hp hp2;go_wp2_with fail;go_ret;exact HP.o
 have f36:((c.toNat:Int)==36)=false:=aX (c:=c) (k:=36) t36;have G36:=Hd (show (c==36)=false from beq_eq_false_iff_ne.2 t36);clear t36;by_cases t92:c=92
 ·have f92:((c.toNat:Int)==92)=true:=aU (c:=c) (k:=92) t92;have HR92:=Hd (show res=if x==10 then .ok ([],rest s (I+1+1)) else if nM x then .ok ([cG [x]],rest s (I+1+1)) else .ok ([cG [c]],rest s (I+1)) by
   rw [HRES.o,G34.out,G96.out,G36.out,t92];rfl)
  clear t92;by_cases t10:x=10
  ·have x10:((x.toNat:Int)==10)=true:=aU (c:=x) (k:=10) t10;have hin:=HIN.o (by rw [t10];decide);have HOK:=Hd (show res=.ok ([],rest s (I+2)) by rw [HR92.o,t10];rfl);clear t10;go_enter Tryz.func42,Tryz.ntmps42;go_wp2_with fail;refine (aP cs s I _ _ h (by omega) (by omega)).mono ?_;rintro e w1 ⟨rfl,q1,rfl⟩;rw [HC.o];obtain⟨W0,hW⟩:∃W0,W0=w.drewN q1:=⟨_,rfl⟩;rw [←hW];have hsW0:aD W0 cs s I ((0:Nat):Int):=by rw [hW];exact h.drewN _
   have HKW0:=Hd (show aB (fun b=>b=cs) w W0 by rw [hW];exact (aB.refl _ _).drewN _);clear hW;go_wp2_with fail;refine (cF cs s I _ _ hsW0 (by omega) (by omega)).mono ?_;rintro e w2 ⟨rfl,q2,rfl⟩;rw [HX.o];obtain⟨W1,hW⟩:∃Z:World,Z=W0.drewN q2:=⟨_,rfl⟩;rw [←hW];have hsW1:aD W1 cs s I ((0:Nat):Int):=by rw [hW];exact hsW0.drewN _
   have HKW1:=Hd (show aB (fun b=>b=cs) w W1 by rw [hW];exact HKW0.o.drewN _);clear hW;obtain⟨d0,d1,d2,g1,g2⟩:=hsW1.cells;obtain⟨hs5,hk5⟩:=cE hsW1 (j:=(I:Int)+2) (J:=I+2) (by omega);have HS5:=Hd hs5;have HK5:=Hd (HKW1.o.trans hk5 (fun _ _ e=>e));clear hs5 hk5;go_wp2_with fail;go_ret;rw [HOK.o];exact⟨_,I+2,rfl,by omega,rfl,HS5.o,by rw [List.append_nil];exact HROW.o.keep HK5.o (fun _ _ e=>by omega),by rw [List.append_nil];omega,HK5.o.mono fun _ _ e=>.inl e⟩
  have x10:((x.toNat:Int)==10)=false:=aX (c:=x) (k:=10) t10;have G10:=Hd (show (x==10)=false from beq_eq_false_iff_ne.2 t10);clear t10;by_cases u36:x=36
  ·have x36:((x.toNat:Int)==36)=true:=aU (c:=x) (k:=36) u36;have hin:=HIN.o (by rw [u36];decide);have HOK:=Hd (show res=.ok ([cG [x]],rest s (I+2)) by rw [HR92.o,G10.out,u36];rfl);clear u36;go_enter Tryz.func42,Tryz.ntmps42;go_wp2_with fail;refine (aP cs s I _ _ h (by omega) (by omega)).mono ?_;rintro e w1 ⟨rfl,q1,rfl⟩;rw [HC.o];obtain⟨W0,hW⟩:∃W0,W0=w.drewN q1:=⟨_,rfl⟩;rw [←hW]
   have hsW0:aD W0 cs s I ((0:Nat):Int):=by rw [hW];exact h.drewN _
   have HKW0:=Hd (show aB (fun b=>b=cs) w W0 by rw [hW];exact (aB.refl _ _).drewN _);clear hW;go_wp2_with fail;refine (cF cs s I _ _ hsW0 (by omega) (by omega)).mono ?_;rintro e w2 ⟨rfl,q2,rfl⟩;rw [HX.o];obtain⟨W1,hW⟩:∃Z:World,Z=W0.drewN q2:=⟨_,rfl⟩;rw [←hW];have hsW1:aD W1 cs s I ((0:Nat):Int):=by rw [hW];exact hsW0.drewN _
   have HKW1:=Hd (show aB (fun b=>b=cs) w W1 by rw [hW];exact HKW0.o.drewN _);clear hW;go_wp2_with fail;refine (cF cs s I _ _ hsW1 (by omega) (by omega)).mono ?_;rintro e w2 ⟨rfl,q2,rfl⟩;rw [HX.o];obtain⟨W2,hW⟩:∃Z:World,Z=W1.drewN q2:=⟨_,rfl⟩;rw [←hW];have hsW2:aD W2 cs s I ((0:Nat):Int):=by rw [hW];exact hsW1.drewN _
   have HKW2:=Hd (show aB (fun b=>b=cs) w W2 by rw [hW];exact HKW1.o.drewN _);clear hW;obtain⟨d0,d1,d2,g1,g2⟩:=hsW2.cells;obtain⟨w5,hw5⟩:∃w5,w5=(W2.setCell ⟨cs,1,none⟩ (.int .i64 ((I:Int)+1))).setCell ⟨cs,1,none⟩ (.int .i64 ((I:Int)+1+1)):=⟨_,rfl⟩;obtain⟨hs5a,hk5a⟩:=cE hsW2 (j:=(I:Int)+1) (J:=I+1) (by omega);obtain⟨hs5,hk5b⟩:=cE hs5a (j:=(I:Int)+1+1) (J:=I+2) (by omega);have hk5:=hk5a.trans hk5b (fun _ _ e=>e)
   rw [←hw5] at hs5 hk5;obtain⟨J,hJ⟩:∃J,J=I+2:=⟨_,rfl⟩;rw [←hJ] at hs5;have hJ1:1≤J:=by omega
   have hJ2:J≤s.size:=by omega
   have HW5:=Hd hw5;have HS5:=Hd hs5;have HK5:=Hd (HKW2.o.trans hk5 (fun _ _ e=>e));obtain⟨T,hT⟩:∃T,T=s.extract (J - 1) J:=⟨_,rfl⟩;have HTL:=Hd (show T.data.toList=[x] by
    rw [hT,Lib.extract_data];have h1:s.data.toList.drop (J - 1)=rest s (J - 1):=rfl;rw [h1,aN (by omega),show J - (J - 1)=1 by omega];rw [show J - 1=I+1 by omega,HX.o];rfl)
   have HTT:=Hd hT;have HJ:=Hd hJ;clear hw5 hT hs5 hk5 hJ;go_wp2_with fail;rw [←HW5.o];obtain⟨d0,d1,d2,g1,g2⟩:=HS5.o.cells;have p1:((J:Int) - 1).toNat=J - 1:=by omega
   have p2:(0:Int)≤(J:Int) - 1:=by omega
   have p2':(1:Int)≤(J:Int):=by omega
   have p3:(J:Int) - 1≤(J:Int):=by omega
   have p4:(J:Int)≤(s.size:Int):=by omega
   have ew:IntKind.i64.wrap ((J:Int) - 1)=(J:Int) - 1:=IntWalk.i64_in _ (by omega);go_still_tail 16,(by kernel_rfl);change wpList _ _ _ _ _ w5.drew;obtain⟨w6,hw6⟩:∃w6,w6=w5.drew:=⟨_,rfl⟩;rw [←hw6];have hs6:aD w6 cs s J ((0:Nat):Int):=by rw [hw6];exact HS5.o.keep (S:=fun _=>False) (aB.refl _ _).drew (fun h=>h)
   have HK6:=Hd (show aB (fun b=>b=cs) w w6 by rw [hw6];exact HK5.o.drew);have hR6:=HROW.o.keep HK6.o (fun _ _ e=>by omega);have hput:=fR B 2 (s.extract (J - 1) J) _ raw w6 hR6 (Nat.le_trans hB HK6.o.size) (by have:=HR0.o;omega) (.inl rfl);have HPUT:=Hd hput;have HS6:=Hd hs6;clear hR6 hput hw6 hs6;go_wp2_with fail;refine HPUT.o.mono ?_;rintro e w7 ⟨v7,rfl,hrow,hkeep⟩;obtain⟨a7,n7,c7,rfl⟩:∃a n c,v7=.slice a n c:=by obtain⟨a,c,e,_⟩:=hrow.shape;exact⟨a,_,c,e⟩
   have HROW7:=Hd hrow;have HKEEP:=Hd hkeep;clear hrow hkeep;go_wp2_with fail;go_ret;have htl:=HTL.o;rw [HTT.o] at htl;have hrow:=HROW7.o;rw [htl] at hrow;rw [HOK.o];have hJ:=HJ.o;subst hJ;exact⟨_,I+2,rfl,by omega,rfl,HS6.o.keep HKEEP.o (fun e=>by omega),hrow,by rw [bE];show wtF raw+(1+1+0)≤_;omega,(HK6.o.mono fun _ _ e=>.inl e).trans HKEEP.o (fun _ _ e=>.inr e)⟩
  have x36:((x.toNat:Int)==36)=false:=aX (c:=x) (k:=36) u36;have K36:=Hd (show (x==36)=false from beq_eq_false_iff_ne.2 u36);clear u36;by_cases u34:x=34
  ·have x34:((x.toNat:Int)==34)=true:=aU (c:=x) (k:=34) u34;have hin:=HIN.o (by rw [u34];decide);have HOK:=Hd (show res=.ok ([cG [x]],rest s (I+2)) by rw [HR92.o,G10.out,u34];rfl);clear u34;go_enter Tryz.func42,Tryz.ntmps42;go_wp2_with fail;refine (aP cs s I _ _ h (by omega) (by omega)).mono ?_;rintro e w1 ⟨rfl,q1,rfl⟩;rw [HC.o];obtain⟨W0,hW⟩:∃W0,W0=w.drewN q1:=⟨_,rfl⟩;rw [←hW]
   have hsW0:aD W0 cs s I ((0:Nat):Int):=by rw [hW];exact h.drewN _
   have HKW0:=Hd (show aB (fun b=>b=cs) w W0 by rw [hW];exact (aB.refl _ _).drewN _);clear hW;go_wp2_with fail;refine (cF cs s I _ _ hsW0 (by omega) (by omega)).mono ?_;rintro e w2 ⟨rfl,q2,rfl⟩;rw [HX.o];obtain⟨W1,hW⟩:∃Z:World,Z=W0.drewN q2:=⟨_,rfl⟩;rw [←hW];have hsW1:aD W1 cs s I ((0:Nat):Int):=by rw [hW];exact hsW0.drewN _
   have HKW1:=Hd (show aB (fun b=>b=cs) w W1 by rw [hW];exact HKW0.o.drewN _);clear hW;go_wp2_with fail;refine (cF cs s I _ _ hsW1 (by omega) (by omega)).mono ?_;rintro e w2 ⟨rfl,q2,rfl⟩;rw [HX.o];obtain⟨W2,hW⟩:∃Z:World,Z=W1.drewN q2:=⟨_,rfl⟩;rw [←hW];have hsW2:aD W2 cs s I ((0:Nat):Int):=by rw [hW];exact hsW1.drewN _
   have HKW2:=Hd (show aB (fun b=>b=cs) w W2 by rw [hW];exact HKW1.o.drewN _);clear hW;go_wp2_with fail;refine (cF cs s I _ _ hsW2 (by omega) (by omega)).mono ?_;rintro e w2 ⟨rfl,q2,rfl⟩;rw [HX.o];obtain⟨W3,hW⟩:∃Z:World,Z=W2.drewN q2:=⟨_,rfl⟩;rw [←hW];have hsW3:aD W3 cs s I ((0:Nat):Int):=by rw [hW];exact hsW2.drewN _
   have HKW3:=Hd (show aB (fun b=>b=cs) w W3 by rw [hW];exact HKW2.o.drewN _);clear hW;obtain⟨d0,d1,d2,g1,g2⟩:=hsW3.cells;obtain⟨w5,hw5⟩:∃w5,w5=(W3.setCell ⟨cs,1,none⟩ (.int .i64 ((I:Int)+1))).setCell ⟨cs,1,none⟩ (.int .i64 ((I:Int)+1+1)):=⟨_,rfl⟩;obtain⟨hs5a,hk5a⟩:=cE hsW3 (j:=(I:Int)+1) (J:=I+1) (by omega);obtain⟨hs5,hk5b⟩:=cE hs5a (j:=(I:Int)+1+1) (J:=I+2) (by omega);have hk5:=hk5a.trans hk5b (fun _ _ e=>e)
   rw [←hw5] at hs5 hk5;obtain⟨J,hJ⟩:∃J,J=I+2:=⟨_,rfl⟩;rw [←hJ] at hs5;have hJ1:1≤J:=by omega
   have hJ2:J≤s.size:=by omega
   have HW5:=Hd hw5;have HS5:=Hd hs5;have HK5:=Hd (HKW3.o.trans hk5 (fun _ _ e=>e));obtain⟨T,hT⟩:∃T,T=s.extract (J - 1) J:=⟨_,rfl⟩;have HTL:=Hd (show T.data.toList=[x] by
    rw [hT,Lib.extract_data];have h1:s.data.toList.drop (J - 1)=rest s (J - 1):=rfl;rw [h1,aN (by omega),show J - (J - 1)=1 by omega];rw [show J - 1=I+1 by omega,HX.o];rfl)
   have HTT:=Hd hT;have HJ:=Hd hJ;clear hw5 hT hs5 hk5 hJ;go_wp2_with fail;rw [←HW5.o];obtain⟨d0,d1,d2,g1,g2⟩:=HS5.o.cells;have p1:((J:Int) - 1).toNat=J - 1:=by omega
   have p2:(0:Int)≤(J:Int) - 1:=by omega
   have p2':(1:Int)≤(J:Int):=by omega
   have p3:(J:Int) - 1≤(J:Int):=by omega
   have p4:(J:Int)≤(s.size:Int):=by omega
   have ew:IntKind.i64.wrap ((J:Int) - 1)=(J:Int) - 1:=IntWalk.i64_in _ (by omega);go_still_tail 16,(by kernel_rfl);change wpList _ _ _ _ _ w5.drew;obtain⟨w6,hw6⟩:∃w6,w6=w5.drew:=⟨_,rfl⟩;rw [←hw6];have hs6:aD w6 cs s J ((0:Nat):Int):=by rw [hw6];exact HS5.o.keep (S:=fun _=>False) (aB.refl _ _).drew (fun h=>h)
   have HK6:=Hd (show aB (fun b=>b=cs) w w6 by rw [hw6];exact HK5.o.drew);have hR6:=HROW.o.keep HK6.o (fun _ _ e=>by omega);have hput:=fR B 2 (s.extract (J - 1) J) _ raw w6 hR6 (Nat.le_trans hB HK6.o.size) (by have:=HR0.o;omega) (.inl rfl);have HPUT:=Hd hput;have HS6:=Hd hs6;clear hR6 hput hw6 hs6;go_wp2_with fail;refine HPUT.o.mono ?_;rintro e w7 ⟨v7,rfl,hrow,hkeep⟩;obtain⟨a7,n7,c7,rfl⟩:∃a n c,v7=.slice a n c:=by obtain⟨a,c,e,_⟩:=hrow.shape;exact⟨a,_,c,e⟩
   have HROW7:=Hd hrow;have HKEEP:=Hd hkeep;clear hrow hkeep;go_wp2_with fail;go_ret;have htl:=HTL.o;rw [HTT.o] at htl;have hrow:=HROW7.o;rw [htl] at hrow;rw [HOK.o];have hJ:=HJ.o;subst hJ;exact⟨_,I+2,rfl,by omega,rfl,HS6.o.keep HKEEP.o (fun e=>by omega),hrow,by rw [bE];show wtF raw+(1+1+0)≤_;omega,(HK6.o.mono fun _ _ e=>.inl e).trans HKEEP.o (fun _ _ e=>.inr e)⟩
  have x34:((x.toNat:Int)==34)=false:=aX (c:=x) (k:=34) u34;have K34:=Hd (show (x==34)=false from beq_eq_false_iff_ne.2 u34);clear u34;by_cases u92:x=92
  ·have x92:((x.toNat:Int)==92)=true:=aU (c:=x) (k:=92) u92;have hin:=HIN.o (by rw [u92];decide);have HOK:=Hd (show res=.ok ([cG [x]],rest s (I+2)) by rw [HR92.o,G10.out,u92];rfl);clear u92;go_enter Tryz.func42,Tryz.ntmps42;go_wp2_with fail;refine (aP cs s I _ _ h (by omega) (by omega)).mono ?_;rintro e w1 ⟨rfl,q1,rfl⟩;rw [HC.o];obtain⟨W0,hW⟩:∃W0,W0=w.drewN q1:=⟨_,rfl⟩;rw [←hW]
   have hsW0:aD W0 cs s I ((0:Nat):Int):=by rw [hW];exact h.drewN _
   have HKW0:=Hd (show aB (fun b=>b=cs) w W0 by rw [hW];exact (aB.refl _ _).drewN _);clear hW;go_wp2_with fail;refine (cF cs s I _ _ hsW0 (by omega) (by omega)).mono ?_;rintro e w2 ⟨rfl,q2,rfl⟩;rw [HX.o];obtain⟨W1,hW⟩:∃Z:World,Z=W0.drewN q2:=⟨_,rfl⟩;rw [←hW];have hsW1:aD W1 cs s I ((0:Nat):Int):=by rw [hW];exact hsW0.drewN _
   have HKW1:=Hd (show aB (fun b=>b=cs) w W1 by rw [hW];exact HKW0.o.drewN _);clear hW;go_wp2_with fail;refine (cF cs s I _ _ hsW1 (by omega) (by omega)).mono ?_;rintro e w2 ⟨rfl,q2,rfl⟩;rw [HX.o];obtain⟨W2,hW⟩:∃Z:World,Z=W1.drewN q2:=⟨_,rfl⟩;rw [←hW];have hsW2:aD W2 cs s I ((0:Nat):Int):=by rw [hW];exact hsW1.drewN _
   have HKW2:=Hd (show aB (fun b=>b=cs) w W2 by rw [hW];exact HKW1.o.drewN _);clear hW;go_wp2_with fail;refine (cF cs s I _ _ hsW2 (by omega) (by omega)).mono ?_;rintro e w2 ⟨rfl,q2,rfl⟩;rw [HX.o];obtain⟨W3,hW⟩:∃Z:World,Z=W2.drewN q2:=⟨_,rfl⟩;rw [←hW];have hsW3:aD W3 cs s I ((0:Nat):Int):=by rw [hW];exact hsW2.drewN _
   have HKW3:=Hd (show aB (fun b=>b=cs) w W3 by rw [hW];exact HKW2.o.drewN _);clear hW;go_wp2_with fail;refine (cF cs s I _ _ hsW3 (by omega) (by omega)).mono ?_;rintro e w2 ⟨rfl,q2,rfl⟩;rw [HX.o];obtain⟨W4,hW⟩:∃Z:World,Z=W3.drewN q2:=⟨_,rfl⟩;rw [←hW];have hsW4:aD W4 cs s I ((0:Nat):Int):=by rw [hW];exact hsW3.drewN _
   have HKW4:=Hd (show aB (fun b=>b=cs) w W4 by rw [hW];exact HKW3.o.drewN _);clear hW;obtain⟨d0,d1,d2,g1,g2⟩:=hsW4.cells;obtain⟨w5,hw5⟩:∃w5,w5=(W4.setCell ⟨cs,1,none⟩ (.int .i64 ((I:Int)+1))).setCell ⟨cs,1,none⟩ (.int .i64 ((I:Int)+1+1)):=⟨_,rfl⟩;obtain⟨hs5a,hk5a⟩:=cE hsW4 (j:=(I:Int)+1) (J:=I+1) (by omega);obtain⟨hs5,hk5b⟩:=cE hs5a (j:=(I:Int)+1+1) (J:=I+2) (by omega);have hk5:=hk5a.trans hk5b (fun _ _ e=>e)
   rw [←hw5] at hs5 hk5;obtain⟨J,hJ⟩:∃J,J=I+2:=⟨_,rfl⟩;rw [←hJ] at hs5;have hJ1:1≤J:=by omega
   have hJ2:J≤s.size:=by omega
   have HW5:=Hd hw5;have HS5:=Hd hs5;have HK5:=Hd (HKW4.o.trans hk5 (fun _ _ e=>e));obtain⟨T,hT⟩:∃T,T=s.extract (J - 1) J:=⟨_,rfl⟩;have HTL:=Hd (show T.data.toList=[x] by
    rw [hT,Lib.extract_data];have h1:s.data.toList.drop (J - 1)=rest s (J - 1):=rfl;rw [h1,aN (by omega),show J - (J - 1)=1 by omega];rw [show J - 1=I+1 by omega,HX.o];rfl)
   have HTT:=Hd hT;have HJ:=Hd hJ;clear hw5 hT hs5 hk5 hJ;go_wp2_with fail;rw [←HW5.o];obtain⟨d0,d1,d2,g1,g2⟩:=HS5.o.cells;have p1:((J:Int) - 1).toNat=J - 1:=by omega
   have p2:(0:Int)≤(J:Int) - 1:=by omega
   have p2':(1:Int)≤(J:Int):=by omega
   have p3:(J:Int) - 1≤(J:Int):=by omega
   have p4:(J:Int)≤(s.size:Int):=by omega
   have ew:IntKind.i64.wrap ((J:Int) - 1)=(J:Int) - 1:=IntWalk.i64_in _ (by omega);go_still_tail 16,(by kernel_rfl);change wpList _ _ _ _ _ w5.drew;obtain⟨w6,hw6⟩:∃w6,w6=w5.drew:=⟨_,rfl⟩;rw [←hw6];have hs6:aD w6 cs s J ((0:Nat):Int):=by rw [hw6];exact HS5.o.keep (S:=fun _=>False) (aB.refl _ _).drew (fun h=>h)
   have HK6:=Hd (show aB (fun b=>b=cs) w w6 by rw [hw6];exact HK5.o.drew);have hR6:=HROW.o.keep HK6.o (fun _ _ e=>by omega);have hput:=fR B 2 (s.extract (J - 1) J) _ raw w6 hR6 (Nat.le_trans hB HK6.o.size) (by have:=HR0.o;omega) (.inl rfl);have HPUT:=Hd hput;have HS6:=Hd hs6;clear hR6 hput hw6 hs6;go_wp2_with fail;refine HPUT.o.mono ?_;rintro e w7 ⟨v7,rfl,hrow,hkeep⟩;obtain⟨a7,n7,c7,rfl⟩:∃a n c,v7=.slice a n c:=by obtain⟨a,c,e,_⟩:=hrow.shape;exact⟨a,_,c,e⟩
   have HROW7:=Hd hrow;have HKEEP:=Hd hkeep;clear hrow hkeep;go_wp2_with fail;go_ret;have htl:=HTL.o;rw [HTT.o] at htl;have hrow:=HROW7.o;rw [htl] at hrow;rw [HOK.o];have hJ:=HJ.o;subst hJ;exact⟨_,I+2,rfl,by omega,rfl,HS6.o.keep HKEEP.o (fun e=>by omega),hrow,by rw [bE];show wtF raw+(1+1+0)≤_;omega,(HK6.o.mono fun _ _ e=>.inl e).trans HKEEP.o (fun _ _ e=>.inr e)⟩
  have x92:((x.toNat:Int)==92)=false:=aX (c:=x) (k:=92) u92;have K92:=Hd (show (x==92)=false from beq_eq_false_iff_ne.2 u92);clear u92;by_cases u96:x=96
  ·have x96:((x.toNat:Int)==96)=true:=aU (c:=x) (k:=96) u96;have hin:=HIN.o (by rw [u96];decide);have HOK:=Hd (show res=.ok ([cG [x]],rest s (I+2)) by rw [HR92.o,G10.out,u96];rfl);clear u96;go_enter Tryz.func42,Tryz.ntmps42;go_wp2_with fail;refine (aP cs s I _ _ h (by omega) (by omega)).mono ?_;rintro e w1 ⟨rfl,q1,rfl⟩;rw [HC.o];obtain⟨W0,hW⟩:∃W0,W0=w.drewN q1:=⟨_,rfl⟩;rw [←hW]
   have hsW0:aD W0 cs s I ((0:Nat):Int):=by rw [hW];exact h.drewN _
   have HKW0:=Hd (show aB (fun b=>b=cs) w W0 by rw [hW];exact (aB.refl _ _).drewN _);clear hW;go_wp2_with fail;refine (cF cs s I _ _ hsW0 (by omega) (by omega)).mono ?_;rintro e w2 ⟨rfl,q2,rfl⟩;rw [HX.o];obtain⟨W1,hW⟩:∃Z:World,Z=W0.drewN q2:=⟨_,rfl⟩;rw [←hW];have hsW1:aD W1 cs s I ((0:Nat):Int):=by rw [hW];exact hsW0.drewN _
   have HKW1:=Hd (show aB (fun b=>b=cs) w W1 by rw [hW];exact HKW0.o.drewN _);clear hW;go_wp2_with fail;refine (cF cs s I _ _ hsW1 (by omega) (by omega)).mono ?_;rintro e w2 ⟨rfl,q2,rfl⟩;rw [HX.o];obtain⟨W2,hW⟩:∃Z:World,Z=W1.drewN q2:=⟨_,rfl⟩;rw [←hW];have hsW2:aD W2 cs s I ((0:Nat):Int):=by rw [hW];exact hsW1.drewN _
   have HKW2:=Hd (show aB (fun b=>b=cs) w W2 by rw [hW];exact HKW1.o.drewN _);clear hW;go_wp2_with fail;refine (cF cs s I _ _ hsW2 (by omega) (by omega)).mono ?_;rintro e w2 ⟨rfl,q2,rfl⟩;rw [HX.o];obtain⟨W3,hW⟩:∃Z:World,Z=W2.drewN q2:=⟨_,rfl⟩;rw [←hW];have hsW3:aD W3 cs s I ((0:Nat):Int):=by rw [hW];exact hsW2.drewN _
   have HKW3:=Hd (show aB (fun b=>b=cs) w W3 by rw [hW];exact HKW2.o.drewN _);clear hW;go_wp2_with fail;refine (cF cs s I _ _ hsW3 (by omega) (by omega)).mono ?_;rintro e w2 ⟨rfl,q2,rfl⟩;rw [HX.o];obtain⟨W4,hW⟩:∃Z:World,Z=W3.drewN q2:=⟨_,rfl⟩;rw [←hW];have hsW4:aD W4 cs s I ((0:Nat):Int):=by rw [hW];exact hsW3.drewN _
   have HKW4:=Hd (show aB (fun b=>b=cs) w W4 by rw [hW];exact HKW3.o.drewN _);clear hW;go_wp2_with fail;refine (cF cs s I _ _ hsW4 (by omega) (by omega)).mono ?_;rintro e w2 ⟨rfl,q2,rfl⟩;rw [HX.o];obtain⟨W5,hW⟩:∃Z:World,Z=W4.drewN q2:=⟨_,rfl⟩;rw [←hW];have hsW5:aD W5 cs s I ((0:Nat):Int):=by rw [hW];exact hsW4.drewN _
   have HKW5:=Hd (show aB (fun b=>b=cs) w W5 by rw [hW];exact HKW4.o.drewN _);clear hW;obtain⟨d0,d1,d2,g1,g2⟩:=hsW5.cells;obtain⟨w5,hw5⟩:∃w5,w5=(W5.setCell ⟨cs,1,none⟩ (.int .i64 ((I:Int)+1))).setCell ⟨cs,1,none⟩ (.int .i64 ((I:Int)+1+1)):=⟨_,rfl⟩;obtain⟨hs5a,hk5a⟩:=cE hsW5 (j:=(I:Int)+1) (J:=I+1) (by omega);obtain⟨hs5,hk5b⟩:=cE hs5a (j:=(I:Int)+1+1) (J:=I+2) (by omega);have hk5:=hk5a.trans hk5b (fun _ _ e=>e)
   rw [←hw5] at hs5 hk5;obtain⟨J,hJ⟩:∃J,J=I+2:=⟨_,rfl⟩;rw [←hJ] at hs5;have hJ1:1≤J:=by omega
   have hJ2:J≤s.size:=by omega
   have HW5:=Hd hw5;have HS5:=Hd hs5;have HK5:=Hd (HKW5.o.trans hk5 (fun _ _ e=>e));obtain⟨T,hT⟩:∃T,T=s.extract (J - 1) J:=⟨_,rfl⟩;have HTL:=Hd (show T.data.toList=[x] by
    rw [hT,Lib.extract_data];have h1:s.data.toList.drop (J - 1)=rest s (J - 1):=rfl;rw [h1,aN (by omega),show J - (J - 1)=1 by omega];rw [show J - 1=I+1 by omega,HX.o];rfl)
   have HTT:=Hd hT;have HJ:=Hd hJ;clear hw5 hT hs5 hk5 hJ;go_wp2_with fail;rw [←HW5.o];obtain⟨d0,d1,d2,g1,g2⟩:=HS5.o.cells;have p1:((J:Int) - 1).toNat=J - 1:=by omega
   have p2:(0:Int)≤(J:Int) - 1:=by omega
   have p2':(1:Int)≤(J:Int):=by omega
   have p3:(J:Int) - 1≤(J:Int):=by omega
   have p4:(J:Int)≤(s.size:Int):=by omega
   have ew:IntKind.i64.wrap ((J:Int) - 1)=(J:Int) - 1:=IntWalk.i64_in _ (by omega);go_still_tail 16,(by kernel_rfl);change wpList _ _ _ _ _ w5.drew;obtain⟨w6,hw6⟩:∃w6,w6=w5.drew:=⟨_,rfl⟩;rw [←hw6];have hs6:aD w6 cs s J ((0:Nat):Int):=by rw [hw6];exact HS5.o.keep (S:=fun _=>False) (aB.refl _ _).drew (fun h=>h)
   have HK6:=Hd (show aB (fun b=>b=cs) w w6 by rw [hw6];exact HK5.o.drew);have hR6:=HROW.o.keep HK6.o (fun _ _ e=>by omega);have hput:=fR B 2 (s.extract (J - 1) J) _ raw w6 hR6 (Nat.le_trans hB HK6.o.size) (by have:=HR0.o;omega) (.inl rfl);have HPUT:=Hd hput;have HS6:=Hd hs6;clear hR6 hput hw6 hs6;go_wp2_with fail;refine HPUT.o.mono ?_;rintro e w7 ⟨v7,rfl,hrow,hkeep⟩;obtain⟨a7,n7,c7,rfl⟩:∃a n c,v7=.slice a n c:=by obtain⟨a,c,e,_⟩:=hrow.shape;exact⟨a,_,c,e⟩
   have HROW7:=Hd hrow;have HKEEP:=Hd hkeep;clear hrow hkeep;go_wp2_with fail;go_ret;have htl:=HTL.o;rw [HTT.o] at htl;have hrow:=HROW7.o;rw [htl] at hrow;rw [HOK.o];have hJ:=HJ.o;subst hJ;exact⟨_,I+2,rfl,by omega,rfl,HS6.o.keep HKEEP.o (fun e=>by omega),hrow,by rw [bE];show wtF raw+(1+1+0)≤_;omega,(HK6.o.mono fun _ _ e=>.inl e).trans HKEEP.o (fun _ _ e=>.inr e)⟩
  have x96:((x.toNat:Int)==96)=false:=aX (c:=x) (k:=96) u96;have K96:=Hd (show (x==96)=false from beq_eq_false_iff_ne.2 u96);clear u96;have HOK:=Hd (show res=.ok ([cG [c]],rest s (I+1)) by
   rw [HR92.o,G10.out];unfold nM;rw [K36.out,K34.out,K92.out,K96.out];rfl)
  go_enter Tryz.func42,Tryz.ntmps42;go_wp2_with fail;refine (aP cs s I _ _ h (by omega) (by omega)).mono ?_;rintro e w1 ⟨rfl,q1,rfl⟩;rw [HC.o];obtain⟨W0,hW⟩:∃W0,W0=w.drewN q1:=⟨_,rfl⟩;rw [←hW];have hsW0:aD W0 cs s I ((0:Nat):Int):=by rw [hW];exact h.drewN _
  have HKW0:=Hd (show aB (fun b=>b=cs) w W0 by rw [hW];exact (aB.refl _ _).drewN _);clear hW;go_wp2_with fail;refine (cF cs s I _ _ hsW0 (by omega) (by omega)).mono ?_;rintro e w2 ⟨rfl,q2,rfl⟩;rw [HX.o];obtain⟨W1,hW⟩:∃Z:World,Z=W0.drewN q2:=⟨_,rfl⟩;rw [←hW];have hsW1:aD W1 cs s I ((0:Nat):Int):=by rw [hW];exact hsW0.drewN _
  have HKW1:=Hd (show aB (fun b=>b=cs) w W1 by rw [hW];exact HKW0.o.drewN _);clear hW;go_wp2_with fail;refine (cF cs s I _ _ hsW1 (by omega) (by omega)).mono ?_;rintro e w2 ⟨rfl,q2,rfl⟩;rw [HX.o];obtain⟨W2,hW⟩:∃Z:World,Z=W1.drewN q2:=⟨_,rfl⟩;rw [←hW];have hsW2:aD W2 cs s I ((0:Nat):Int):=by rw [hW];exact hsW1.drewN _
  have HKW2:=Hd (show aB (fun b=>b=cs) w W2 by rw [hW];exact HKW1.o.drewN _);clear hW;go_wp2_with fail;refine (cF cs s I _ _ hsW2 (by omega) (by omega)).mono ?_;rintro e w2 ⟨rfl,q2,rfl⟩;rw [HX.o];obtain⟨W3,hW⟩:∃Z:World,Z=W2.drewN q2:=⟨_,rfl⟩;rw [←hW];have hsW3:aD W3 cs s I ((0:Nat):Int):=by rw [hW];exact hsW2.drewN _
  have HKW3:=Hd (show aB (fun b=>b=cs) w W3 by rw [hW];exact HKW2.o.drewN _);clear hW;go_wp2_with fail;refine (cF cs s I _ _ hsW3 (by omega) (by omega)).mono ?_;rintro e w2 ⟨rfl,q2,rfl⟩;rw [HX.o];obtain⟨W4,hW⟩:∃Z:World,Z=W3.drewN q2:=⟨_,rfl⟩;rw [←hW];have hsW4:aD W4 cs s I ((0:Nat):Int):=by rw [hW];exact hsW3.drewN _
  have HKW4:=Hd (show aB (fun b=>b=cs) w W4 by rw [hW];exact HKW3.o.drewN _);clear hW;go_wp2_with fail;refine (cF cs s I _ _ hsW4 (by omega) (by omega)).mono ?_;rintro e w2 ⟨rfl,q2,rfl⟩;rw [HX.o];obtain⟨W5,hW⟩:∃Z:World,Z=W4.drewN q2:=⟨_,rfl⟩;rw [←hW];have hsW5:aD W5 cs s I ((0:Nat):Int):=by rw [hW];exact hsW4.drewN _
  have HKW5:=Hd (show aB (fun b=>b=cs) w W5 by rw [hW];exact HKW4.o.drewN _);clear hW;obtain⟨d0,d1,d2,g1,g2⟩:=hsW5.cells;obtain⟨w5,hw5⟩:∃w5,w5=W5.setCell ⟨cs,1,none⟩ (.int .i64 ((I:Int)+1)):=⟨_,rfl⟩;obtain⟨hs5,hk5⟩:=cE hsW5 (j:=(I:Int)+1) (J:=I+1) (by omega);rw [←hw5] at hs5 hk5;obtain⟨J,hJ⟩:∃J,J=I+1:=⟨_,rfl⟩;rw [←hJ] at hs5;have hJ1:1≤J:=by omega
  have hJ2:J≤s.size:=by omega
  have HW5:=Hd hw5;have HS5:=Hd hs5;have HK5:=Hd (HKW5.o.trans hk5 (fun _ _ e=>e));obtain⟨T,hT⟩:∃T,T=s.extract (J - 1) J:=⟨_,rfl⟩;have HTL:=Hd (show T.data.toList=[c] by
   rw [hT,Lib.extract_data];have h1:s.data.toList.drop (J - 1)=rest s (J - 1):=rfl;rw [h1,aN (by omega),show J - (J - 1)=1 by omega];rw [show J - 1=I by omega,HC.o];rfl)
  have HTT:=Hd hT;have HJ:=Hd hJ;clear hw5 hT hs5 hk5 hJ;go_wp2_with fail;rw [←HW5.o];obtain⟨d0,d1,d2,g1,g2⟩:=HS5.o.cells;have p1:((J:Int) - 1).toNat=J - 1:=by omega
  have p2:(0:Int)≤(J:Int) - 1:=by omega
  have p2':(1:Int)≤(J:Int):=by omega
  have p3:(J:Int) - 1≤(J:Int):=by omega
  have p4:(J:Int)≤(s.size:Int):=by omega
  have ew:IntKind.i64.wrap ((J:Int) - 1)=(J:Int) - 1:=IntWalk.i64_in _ (by omega);go_still_tail 16,(by kernel_rfl);change wpList _ _ _ _ _ w5.drew;obtain⟨w6,hw6⟩:∃w6,w6=w5.drew:=⟨_,rfl⟩;rw [←hw6];have hs6:aD w6 cs s J ((0:Nat):Int):=by rw [hw6];exact HS5.o.keep (S:=fun _=>False) (aB.refl _ _).drew (fun h=>h)
  have HK6:=Hd (show aB (fun b=>b=cs) w w6 by rw [hw6];exact HK5.o.drew);have hR6:=HROW.o.keep HK6.o (fun _ _ e=>by omega);have hput:=fR B 2 (s.extract (J - 1) J) _ raw w6 hR6 (Nat.le_trans hB HK6.o.size) (by have:=HR0.o;omega) (.inl rfl);have HPUT:=Hd hput;have HS6:=Hd hs6;clear hR6 hput hw6 hs6;go_wp2_with fail;refine HPUT.o.mono ?_;rintro e w7 ⟨v7,rfl,hrow,hkeep⟩;obtain⟨a7,n7,c7,rfl⟩:∃a n c,v7=.slice a n c:=by obtain⟨a,c,e,_⟩:=hrow.shape;exact⟨a,_,c,e⟩
  have HROW7:=Hd hrow;have HKEEP:=Hd hkeep;clear hrow hkeep;go_wp2_with fail;go_ret;have htl:=HTL.o;rw [HTT.o] at htl;have hrow:=HROW7.o;rw [htl] at hrow;rw [HOK.o];have hJ:=HJ.o;subst hJ;exact⟨_,I+1,rfl,by omega,rfl,HS6.o.keep HKEEP.o (fun e=>by omega),hrow,by rw [bE];show wtF raw+(1+1+0)≤_;omega,(HK6.o.mono fun _ _ e=>.inl e).trans HKEEP.o (fun _ _ e=>.inr e)⟩
 ·have f92:((c.toNat:Int)==92)=false:=aX (c:=c) (k:=92) t92;have HOK:=Hd (show res=.ok ([cG [c]],rest s (I+1)) by
   rw [HRES.o,G34.out,G96.out,G36.out,beq_eq_false_iff_ne.2 t92];rfl)
  clear t92;go_enter Tryz.func42,Tryz.ntmps42;go_wp2_with fail;refine (aP cs s I _ _ h (by omega) (by omega)).mono ?_;rintro e w1 ⟨rfl,q1,rfl⟩;rw [HC.o];obtain⟨W0,hW⟩:∃W0,W0=w.drewN q1:=⟨_,rfl⟩;rw [←hW];have hsW0:aD W0 cs s I ((0:Nat):Int):=by rw [hW];exact h.drewN _
  have HKW0:=Hd (show aB (fun b=>b=cs) w W0 by rw [hW];exact (aB.refl _ _).drewN _);clear hW;obtain⟨d0,d1,d2,g1,g2⟩:=hsW0.cells;obtain⟨w5,hw5⟩:∃w5,w5=W0.setCell ⟨cs,1,none⟩ (.int .i64 ((I:Int)+1)):=⟨_,rfl⟩;obtain⟨hs5,hk5⟩:=cE hsW0 (j:=(I:Int)+1) (J:=I+1) (by omega);rw [←hw5] at hs5 hk5;obtain⟨J,hJ⟩:∃J,J=I+1:=⟨_,rfl⟩;rw [←hJ] at hs5;have hJ1:1≤J:=by omega
  have hJ2:J≤s.size:=by omega
  have HW5:=Hd hw5;have HS5:=Hd hs5;have HK5:=Hd (HKW0.o.trans hk5 (fun _ _ e=>e));obtain⟨T,hT⟩:∃T,T=s.extract (J - 1) J:=⟨_,rfl⟩;have HTL:=Hd (show T.data.toList=[c] by
   rw [hT,Lib.extract_data];have h1:s.data.toList.drop (J - 1)=rest s (J - 1):=rfl;rw [h1,aN (by omega),show J - (J - 1)=1 by omega];rw [show J - 1=I by omega,HC.o];rfl)
  have HTT:=Hd hT;have HJ:=Hd hJ;clear hw5 hT hs5 hk5 hJ;go_wp2_with fail;rw [←HW5.o];obtain⟨d0,d1,d2,g1,g2⟩:=HS5.o.cells;have p1:((J:Int) - 1).toNat=J - 1:=by omega
  have p2:(0:Int)≤(J:Int) - 1:=by omega
  have p2':(1:Int)≤(J:Int):=by omega
  have p3:(J:Int) - 1≤(J:Int):=by omega
  have p4:(J:Int)≤(s.size:Int):=by omega
  have ew:IntKind.i64.wrap ((J:Int) - 1)=(J:Int) - 1:=IntWalk.i64_in _ (by omega);go_still_tail 16,(by kernel_rfl);change wpList _ _ _ _ _ w5.drew;obtain⟨w6,hw6⟩:∃w6,w6=w5.drew:=⟨_,rfl⟩;rw [←hw6];have hs6:aD w6 cs s J ((0:Nat):Int):=by rw [hw6];exact HS5.o.keep (S:=fun _=>False) (aB.refl _ _).drew (fun h=>h)
  have HK6:=Hd (show aB (fun b=>b=cs) w w6 by rw [hw6];exact HK5.o.drew);have hR6:=HROW.o.keep HK6.o (fun _ _ e=>by omega);have hput:=fR B 2 (s.extract (J - 1) J) _ raw w6 hR6 (Nat.le_trans hB HK6.o.size) (by have:=HR0.o;omega) (.inl rfl);have HPUT:=Hd hput;have HS6:=Hd hs6;clear hR6 hput hw6 hs6;go_wp2_with fail;refine HPUT.o.mono ?_;rintro e w7 ⟨v7,rfl,hrow,hkeep⟩;obtain⟨a7,n7,c7,rfl⟩:∃a n c,v7=.slice a n c:=by obtain⟨a,c,e,_⟩:=hrow.shape;exact⟨a,_,c,e⟩
  have HROW7:=Hd hrow;have HKEEP:=Hd hkeep;clear hrow hkeep;go_wp2_with fail;go_ret;have htl:=HTL.o;rw [HTT.o] at htl;have hrow:=HROW7.o;rw [htl] at hrow;rw [HOK.o];have hJ:=HJ.o;subst hJ;exact⟨_,I+1,rfl,by omega,rfl,HS6.o.keep HKEEP.o (fun e=>by omega),hrow,by rw [bE];show wtF raw+(1+1+0)≤_;omega,(HK6.o.mono fun _ _ e=>.inl e).trans HKEEP.o (fun _ _ e=>.inr e)⟩
end Go.Proofs.YtiihpbccabeoeaaGreatDoor
