/- The walk: a part. -/
import Derived.Test.YtiihpbccabeoeaaGreatDoorWPsA
namespace Go.Proofs.YtiihpbccabeoeaaGreatDoor
open Go.RowKit
set_option linter.unusedVariables false
set_option maxRecDepth 100000
set_option maxHeartbeats 16000000
theorem Qn (w:World) (D E:Nat→Prop) (xs ys:List (Px)) (A B:OA) (L M C C':Nat) (ha:Rd w D (.sl 6 (xs.flatMap Px.row)) (.slice A L C)) (hb:Rd w E (.sl 6 (ys.flatMap Px.row)) (.slice B M C'))
 (hcb:∀i (hi:i<xs.length) (hj:i<ys.length) (W:World) (xa:OA) (xl xc:Nat) (xa':OA) (xl' xc':Nat),K0 w W→Rd W D (.sl 6 xs[i].word) (.slice xa xl xc)→Rd W E (.sl 6 ys[i].word) (.slice xa' xl' xc')→
  Calls Tryz.prog 81 #[.agg #[.int .i64 xs[i].kind,.string ⟨xs[i].text.toArray⟩,.string ⟨xs[i].name.toArray⟩,.string ⟨xs[i].op.toArray⟩,.slice xa xl xc,.bool xs[i].quoted],.agg #[.int .i64 ys[i].kind,.string ⟨ys[i].text.toArray⟩,.string ⟨ys[i].name.toArray⟩,.string ⟨ys[i].op.toArray⟩,.slice xa' xl' xc',.bool ys[i].quoted]] W (bY W (xs[i]=ys[i]))) :
 Calls Tryz.prog 80 #[.slice A L C,.slice B M C',.func (.func 81) #[] #[]] w (bY w (xs=ys)):=by
 have hmx:=cR (by decide) ha;have hmy:=cR (by decide) hb;have HLA:=Hd (cK (k:=6) (fun _=>rfl) (by decide) ha).1;have HLB:=Hd (cK (k:=6) (fun _=>rfl) (by decide) hb).1;have HA:=Hd ha;have HB:=Hd hb;have HCB:=Hd hcb;have hc6:=dN;clear ha hb hcb;by_cases hl:L=M
 ·subst hl;go_enter Tryz.func80,Tryz.ntmps80;go_wp2_with fail;go_loopw [17] (fun k' wr=>∃k:Nat,k'=.int .i64 k∧k≤L∧Hid (xs.take k=ys.take k)∧Hid (K0 w wr)) (fun k' _=>L - (intOf k').toNat)
  case atStart=>exact⟨0,rfl,Nat.zero_le _,Hd rfl,Hd (aB.refl _ _)⟩
  case round=>
   obtain⟨k,rfl,hk,HT,HK⟩:=hrel;by_cases hlt:k<L
   ·have hlta:k<xs.length:=by rw [←HLA.o];exact hlt
    have hltb:k<ys.length:=by rw [←HLB.o];exact hlt
    obtain⟨g,o,xa,xl,xc,h,hg,⟨q0,q1,q2,q3,q4,q5⟩,hx⟩:=rU (aE HA.o HK.o) hlta;obtain⟨g',o',xa',xl',xc',h',hg',⟨r0,r1,r2,r3,r4,r5⟩,hx'⟩:=rU (aE HB.o HK.o) hltb;subst h h';have HC:=Hd (fun W (hw:K0 wr W)=>HCB.o k hlta hltb W _ _ _ _ _ _ (HK.o.trans hw (fun _ _ s=>s)) (aE hx hw) (aE hx' hw));have HTK:=Hd (fun e:xs[k]=ys[k]=>fG hlta hltb HT.o e)
    have HNE:=Hd (show xs=ys→xs[k]=ys[k] from fun h=>by simp only [h]);obtain⟨x,hxe⟩:∃x,x=xs[k]:=⟨_,rfl⟩;obtain⟨y,hye⟩:∃y,y=ys[k]:=⟨_,rfl⟩;rw [←hxe,←hye] at HC HTK HNE;rw [←hxe] at q0 q1 q2 q3 q5;rw [←hye] at r0 r1 r2 r3 r5;clear hxe hye hlta hltb HT hx hx';have p1:(k:Int)<(L:Int):=by omega
    go_wp2_with fail;refine (HC.o _ ((aB.refl _ _).alloc _ |>.alloc _)).mono ?_;rintro e w2 ⟨r,rfl,hr,hk2⟩;have HK2:=Hd ((HK.o.trans ((aB.refl _ _).alloc _ |>.alloc _) k3).trans hk2 k3);cases r with
    | true=>
     have HWD:=Hd (hr.1 rfl);clear hr hk2 HC;go_wp2_with fail;go_roundw
     case rel=>exact⟨k+1,by go_num,by omega,Hd (HTK.o HWD.o),HK2⟩
     case measure=>simp [intOf];omega
    | false=>
     have HWD:=Hd (show x≠y from fun h=>by have:=hr.2 h;cases this);clear hr hk2 HC;go_wp2_with fail;go_ret;exact⟨false,rfl,⟨fun h=>(by cases h),fun h=>absurd (HNE.o h) HWD.o⟩,HK2.o⟩
   ·obtain rfl:k=L:=by omega
    have HF:=Hd (g7 HLA.o HLB.o HT.o);have p1:¬(k:Int)<(k:Int):=by omega
    go_wp2_with fail;go_ret;exact⟨true,rfl,⟨fun _=>HF.o,fun _=>rfl⟩,HK.o⟩
 ·have e1:((L:Int) != (M:Int))=true:=by rw [bne_iff_ne];omega
  have HL:=Hd (show xs.length≠ys.length by rw [←HLA.o,←HLB.o];exact hl);clear hl;go_enter Tryz.func80,Tryz.ntmps80;go_wp2_with fail;go_ret;exact⟨false,rfl,⟨fun h=>(by cases h),fun h=>absurd (by rw [h]) HL.o⟩,aB.refl _ _⟩
theorem P5 (w:World) (D E:Nat→Prop) (xs ys:List (List Dt)) (A B:OA) (L M C C':Nat) (ha:Rd w D (.sl 1 (xs.flatMap wdD)) (.slice A L C)) (hb:Rd w E (.sl 1 (ys.flatMap wdD)) (.slice B M C'))
 (hcb:∀i (hi:i<xs.length) (hj:i<ys.length) (W:World) (xa:OA) (xl xc:Nat) (xa':OA) (xl' xc':Nat),K0 w W→Rd W D (.sl 6 xs[i]) (.slice xa xl xc)→Rd W E (.sl 6 ys[i]) (.slice xa' xl' xc')→
  Calls Tryz.prog 52 #[.slice xa xl xc,.slice xa' xl' xc'] W (bY W (xs[i]=ys[i]))) :
 Calls Tryz.prog 51 #[.slice A L C,.slice B M C',.func (.func 52) #[] #[]] w (bY w (xs=ys)):=by
 have hmx:=cR (by decide) ha;have hmy:=cR (by decide) hb;have HLA:=Hd (cK (k:=1) (fun _=>rfl) (by decide) ha).1;have HLB:=Hd (cK (k:=1) (fun _=>rfl) (by decide) hb).1;have HA:=Hd ha;have HB:=Hd hb;have HCB:=Hd hcb;clear ha hb hcb;by_cases hl:L=M
 ·subst hl;go_enter Tryz.func51,Tryz.ntmps51;go_wp2_with fail;go_loopw [17] (fun k' wr=>∃k:Nat,k'=.int .i64 k∧k≤L∧Hid (xs.take k=ys.take k)∧Hid (K0 w wr)) (fun k' _=>L - (intOf k').toNat)
  case atStart=>exact⟨0,rfl,Nat.zero_le _,Hd rfl,Hd (aB.refl _ _)⟩
  case round=>
   obtain⟨k,rfl,hk,HT,HK⟩:=hrel;by_cases hlt:k<L
   ·have hlta:k<xs.length:=by rw [←HLA.o];exact hlt
    have hltb:k<ys.length:=by rw [←HLB.o];exact hlt
    obtain⟨g,o,xa,xl,xc,h,hg,q0,hx⟩:=oP (aE HA.o HK.o) hlta;obtain⟨g',o',xa',xl',xc',h',hg',r0,hx'⟩:=oP (aE HB.o HK.o) hltb;subst h h';have HC:=Hd (fun W (hw:K0 wr W)=>HCB.o k hlta hltb W _ _ _ _ _ _ (HK.o.trans hw (fun _ _ s=>s)) (aE hx hw) (aE hx' hw));have HTK:=Hd (fun e:xs[k]=ys[k]=>fG hlta hltb HT.o e);have HNE:=Hd (show xs=ys→xs[k]=ys[k] from fun h=>by simp only [h])
    obtain⟨x,hxe⟩:∃x,x=xs[k]:=⟨_,rfl⟩;obtain⟨y,hye⟩:∃y,y=ys[k]:=⟨_,rfl⟩;rw [←hxe,←hye] at HC HTK HNE;clear hxe hye hlta hltb HT hx hx';have p1:(k:Int)<(L:Int):=by omega
    go_wp2_with fail;refine (HC.o _ (aB.refl _ _)).mono ?_;rintro e w2 ⟨r,rfl,hr,hk2⟩;have HK2:=Hd ((HK.o.trans (aB.refl _ _) k3).trans hk2 k3);cases r with
    | true=>
     have HWD:=Hd (hr.1 rfl);clear hr hk2 HC;go_wp2_with fail;go_roundw
     case rel=>exact⟨k+1,by go_num,by omega,Hd (HTK.o HWD.o),HK2⟩
     case measure=>simp [intOf];omega
    | false=>
     have HWD:=Hd (show x≠y from fun h=>by have:=hr.2 h;cases this);clear hr hk2 HC;go_wp2_with fail;go_ret;exact⟨false,rfl,⟨fun h=>(by cases h),fun h=>absurd (HNE.o h) HWD.o⟩,HK2.o⟩
   ·obtain rfl:k=L:=by omega
    have HF:=Hd (g7 HLA.o HLB.o HT.o);have p1:¬(k:Int)<(k:Int):=by omega
    go_wp2_with fail;go_ret;exact⟨true,rfl,⟨fun _=>HF.o,fun _=>rfl⟩,HK.o⟩
 ·have e1:((L:Int) != (M:Int))=true:=by rw [bne_iff_ne];omega
  have HL:=Hd (show xs.length≠ys.length by rw [←HLA.o,←HLB.o];exact hl);clear hl;go_enter Tryz.func51,Tryz.ntmps51;go_wp2_with fail;go_ret;exact⟨false,rfl,⟨fun h=>(by cases h),fun h=>absurd (by rw [h]) HL.o⟩,aB.refl _ _⟩
theorem Nb (w:World) (D E:Nat→Prop) (xs ys:List (Bs×List Dt)) (A B:OA) (L M C C':Nat) (ha:Rd w D (.sl 2 (xs.flatMap prD)) (.slice A L C)) (hb:Rd w E (.sl 2 (ys.flatMap prD)) (.slice B M C'))
 (hcb:∀i (hi:i<xs.length) (hj:i<ys.length) (W:World) (xa:OA) (xl xc:Nat) (xa':OA) (xl' xc':Nat),K0 w W→Rd W D (.sl 6 xs[i].2) (.slice xa xl xc)→Rd W E (.sl 6 ys[i].2) (.slice xa' xl' xc')→
  Calls Tryz.prog 54 #[.agg #[.string ⟨xs[i].1.toArray⟩,.slice xa xl xc],.agg #[.string ⟨ys[i].1.toArray⟩,.slice xa' xl' xc']] W (bY W (xs[i]=ys[i]))) :
 Calls Tryz.prog 53 #[.slice A L C,.slice B M C',.func (.func 54) #[] #[]] w (bY w (xs=ys)):=by
 have hmx:=cR (by decide) ha;have hmy:=cR (by decide) hb;have HLA:=Hd (cK (k:=2) (fun _=>rfl) (by decide) ha).1;have HLB:=Hd (cK (k:=2) (fun _=>rfl) (by decide) hb).1;have HA:=Hd ha;have HB:=Hd hb;have HCB:=Hd hcb;have hcK:Tryz.prog.cellsOf 84=2:=by kernel_rfl
 clear ha hb hcb;by_cases hl:L=M
 ·subst hl;go_enter Tryz.func53,Tryz.ntmps53;go_wp2_with fail;go_loopw [17] (fun k' wr=>∃k:Nat,k'=.int .i64 k∧k≤L∧Hid (xs.take k=ys.take k)∧Hid (K0 w wr)) (fun k' _=>L - (intOf k').toNat)
  case atStart=>exact⟨0,rfl,Nat.zero_le _,Hd rfl,Hd (aB.refl _ _)⟩
  case round=>
   obtain⟨k,rfl,hk,HT,HK⟩:=hrel;by_cases hlt:k<L
   ·have hlta:k<xs.length:=by rw [←HLA.o];exact hlt
    have hltb:k<ys.length:=by rw [←HLB.o];exact hlt
    obtain⟨g,o,xa,xl,xc,h,hg,q0,q1,hx⟩:=jL (aE HA.o HK.o) hlta;obtain⟨g',o',xa',xl',xc',h',hg',r0,r1,hx'⟩:=jL (aE HB.o HK.o) hltb;subst h h';have HC:=Hd (fun W (hw:K0 wr W)=>HCB.o k hlta hltb W _ _ _ _ _ _ (HK.o.trans hw (fun _ _ s=>s)) (aE hx hw) (aE hx' hw));have HTK:=Hd (fun e:xs[k]=ys[k]=>fG hlta hltb HT.o e);have HNE:=Hd (show xs=ys→xs[k]=ys[k] from fun h=>by simp only [h])
    obtain⟨x,hxe⟩:∃x,x=xs[k]:=⟨_,rfl⟩;obtain⟨y,hye⟩:∃y,y=ys[k]:=⟨_,rfl⟩;rw [←hxe,←hye] at HC HTK HNE;rw [←hxe] at q0;rw [←hye] at r0;clear hxe hye hlta hltb HT hx hx';have p1:(k:Int)<(L:Int):=by omega
    go_wp2_with fail;refine (HC.o _ ((aB.refl _ _).alloc _ |>.alloc _)).mono ?_;rintro e w2 ⟨r,rfl,hr,hk2⟩;have HK2:=Hd ((HK.o.trans ((aB.refl _ _).alloc _ |>.alloc _) k3).trans hk2 k3);cases r with
    | true=>
     have HWD:=Hd (hr.1 rfl);clear hr hk2 HC;go_wp2_with fail;go_roundw
     case rel=>exact⟨k+1,by go_num,by omega,Hd (HTK.o HWD.o),HK2⟩
     case measure=>simp [intOf];omega
    | false=>
     have HWD:=Hd (show x≠y from fun h=>by have:=hr.2 h;cases this);clear hr hk2 HC;go_wp2_with fail;go_ret;exact⟨false,rfl,⟨fun h=>(by cases h),fun h=>absurd (HNE.o h) HWD.o⟩,HK2.o⟩
   ·obtain rfl:k=L:=by omega
    have HF:=Hd (g7 HLA.o HLB.o HT.o);have p1:¬(k:Int)<(k:Int):=by omega
    go_wp2_with fail;go_ret;exact⟨true,rfl,⟨fun _=>HF.o,fun _=>rfl⟩,HK.o⟩
 ·have e1:((L:Int) != (M:Int))=true:=by rw [bne_iff_ne];omega
  have HL:=Hd (show xs.length≠ys.length by rw [←HLA.o,←HLB.o];exact hl);clear hl;go_enter Tryz.func53,Tryz.ntmps53;go_wp2_with fail;go_ret;exact⟨false,rfl,⟨fun h=>(by cases h),fun h=>absurd (by rw [h]) HL.o⟩,aB.refl _ _⟩
theorem Nz (w:World) (D E:Nat→Prop) (xs ys:List (Bs×List Dt)) (A B:OA) (L M C C':Nat) (ha:Rd w D (.sl 2 (xs.flatMap prD)) (.slice A L C)) (hb:Rd w E (.sl 2 (ys.flatMap prD)) (.slice B M C'))
 (hcb:∀i (hi:i<xs.length) (hj:i<ys.length) (W:World) (xa:OA) (xl xc:Nat) (xa':OA) (xl' xc':Nat),K0 w W→Rd W D (.sl 6 xs[i].2) (.slice xa xl xc)→Rd W E (.sl 6 ys[i].2) (.slice xa' xl' xc')→
  Calls Tryz.prog 56 #[.agg #[.string ⟨xs[i].1.toArray⟩,.slice xa xl xc],.agg #[.string ⟨ys[i].1.toArray⟩,.slice xa' xl' xc']] W (bY W (xs[i]=ys[i]))) :
 Calls Tryz.prog 55 #[.slice A L C,.slice B M C',.func (.func 56) #[] #[]] w (bY w (xs=ys)):=by
 have hmx:=cR (by decide) ha;have hmy:=cR (by decide) hb;have HLA:=Hd (cK (k:=2) (fun _=>rfl) (by decide) ha).1;have HLB:=Hd (cK (k:=2) (fun _=>rfl) (by decide) hb).1;have HA:=Hd ha;have HB:=Hd hb;have HCB:=Hd hcb;have hcK:Tryz.prog.cellsOf 86=2:=by kernel_rfl
 clear ha hb hcb;by_cases hl:L=M
 ·subst hl;go_enter Tryz.func55,Tryz.ntmps55;go_wp2_with fail;go_loopw [17] (fun k' wr=>∃k:Nat,k'=.int .i64 k∧k≤L∧Hid (xs.take k=ys.take k)∧Hid (K0 w wr)) (fun k' _=>L - (intOf k').toNat)
  case atStart=>exact⟨0,rfl,Nat.zero_le _,Hd rfl,Hd (aB.refl _ _)⟩
  case round=>
   obtain⟨k,rfl,hk,HT,HK⟩:=hrel;by_cases hlt:k<L
   ·have hlta:k<xs.length:=by rw [←HLA.o];exact hlt
    have hltb:k<ys.length:=by rw [←HLB.o];exact hlt
    obtain⟨g,o,xa,xl,xc,h,hg,q0,q1,hx⟩:=jL (aE HA.o HK.o) hlta;obtain⟨g',o',xa',xl',xc',h',hg',r0,r1,hx'⟩:=jL (aE HB.o HK.o) hltb;subst h h';have HC:=Hd (fun W (hw:K0 wr W)=>HCB.o k hlta hltb W _ _ _ _ _ _ (HK.o.trans hw (fun _ _ s=>s)) (aE hx hw) (aE hx' hw));have HTK:=Hd (fun e:xs[k]=ys[k]=>fG hlta hltb HT.o e);have HNE:=Hd (show xs=ys→xs[k]=ys[k] from fun h=>by simp only [h])
    obtain⟨x,hxe⟩:∃x,x=xs[k]:=⟨_,rfl⟩;obtain⟨y,hye⟩:∃y,y=ys[k]:=⟨_,rfl⟩;rw [←hxe,←hye] at HC HTK HNE;rw [←hxe] at q0;rw [←hye] at r0;clear hxe hye hlta hltb HT hx hx';have p1:(k:Int)<(L:Int):=by omega
    go_wp2_with fail;refine (HC.o _ ((aB.refl _ _).alloc _ |>.alloc _)).mono ?_;rintro e w2 ⟨r,rfl,hr,hk2⟩;have HK2:=Hd ((HK.o.trans ((aB.refl _ _).alloc _ |>.alloc _) k3).trans hk2 k3);cases r with
    | true=>
     have HWD:=Hd (hr.1 rfl);clear hr hk2 HC;go_wp2_with fail;go_roundw
     case rel=>exact⟨k+1,by go_num,by omega,Hd (HTK.o HWD.o),HK2⟩
     case measure=>simp [intOf];omega
    | false=>
     have HWD:=Hd (show x≠y from fun h=>by have:=hr.2 h;cases this);clear hr hk2 HC;go_wp2_with fail;go_ret;exact⟨false,rfl,⟨fun h=>(by cases h),fun h=>absurd (HNE.o h) HWD.o⟩,HK2.o⟩
   ·obtain rfl:k=L:=by omega
    have HF:=Hd (g7 HLA.o HLB.o HT.o);have p1:¬(k:Int)<(k:Int):=by omega
    go_wp2_with fail;go_ret;exact⟨true,rfl,⟨fun _=>HF.o,fun _=>rfl⟩,HK.o⟩
 ·have e1:((L:Int) != (M:Int))=true:=by rw [bne_iff_ne];omega
  have HL:=Hd (show xs.length≠ys.length by rw [←HLA.o,←HLB.o];exact hl);clear hl;go_enter Tryz.func55,Tryz.ntmps55;go_wp2_with fail;go_ret;exact⟨false,rfl,⟨fun h=>(by cases h),fun h=>absurd (by rw [h]) HL.o⟩,aB.refl _ _⟩
theorem Rf (w:World) (D E:Nat→Prop) (xs ys:List (List (List Dt)×List Dt)) (A B:OA) (L M C C':Nat) (ha:Rd w D (.sl 2 (xs.flatMap arD)) (.slice A L C)) (hb:Rd w E (.sl 2 (ys.flatMap arD)) (.slice B M C'))
 (hcb:∀i (hi:i<xs.length) (hj:i<ys.length) (W:World) (pa:OA) (pn pc:Nat) (xa:OA) (xl xc:Nat) (pa':OA) (pn' pc':Nat) (xa':OA) (xl' xc':Nat),K0 w W→Rd W D (.sl 1 (xs[i].1.flatMap wdD)) (.slice pa pn pc)→Rd W D (.sl 8 xs[i].2) (.slice xa xl xc)→Rd W E (.sl 1 (ys[i].1.flatMap wdD)) (.slice pa' pn' pc')→Rd W E (.sl 8 ys[i].2) (.slice xa' xl' xc')→
  Calls Tryz.prog 58 #[.agg #[.slice pa pn pc,.slice xa xl xc],.agg #[.slice pa' pn' pc',.slice xa' xl' xc']] W (bY W (xs[i]=ys[i]))) :
 Calls Tryz.prog 57 #[.slice A L C,.slice B M C',.func (.func 58) #[] #[]] w (bY w (xs=ys)):=by
 have hmx:=cR (by decide) ha;have hmy:=cR (by decide) hb;have HLA:=Hd (cK (k:=2) (fun _=>rfl) (by decide) ha).1;have HLB:=Hd (cK (k:=2) (fun _=>rfl) (by decide) hb).1;have HA:=Hd ha;have HB:=Hd hb;have HCB:=Hd hcb;have hcK:Tryz.prog.cellsOf 49=2:=by kernel_rfl
 clear ha hb hcb;by_cases hl:L=M
 ·subst hl;go_enter Tryz.func57,Tryz.ntmps57;go_wp2_with fail;go_loopw [17] (fun k' wr=>∃k:Nat,k'=.int .i64 k∧k≤L∧Hid (xs.take k=ys.take k)∧Hid (K0 w wr)) (fun k' _=>L - (intOf k').toNat)
  case atStart=>exact⟨0,rfl,Nat.zero_le _,Hd rfl,Hd (aB.refl _ _)⟩
  case round=>
   obtain⟨k,rfl,hk,HT,HK⟩:=hrel;by_cases hlt:k<L
   ·have hlta:k<xs.length:=by rw [←HLA.o];exact hlt
    have hltb:k<ys.length:=by rw [←HLB.o];exact hlt
    obtain⟨g,o,pa,pn,pc,xa,xl,xc,h,hg,q0,q1,hy,hx⟩:=vK (aE HA.o HK.o) hlta;obtain⟨g',o',pa',pn',pc',xa',xl',xc',h',hg',r0,r1,hy',hx'⟩:=vK (aE HB.o HK.o) hltb;subst h h';have HC:=Hd (fun W (hw:K0 wr W)=>HCB.o k hlta hltb W _ _ _ _ _ _ _ _ _ _ _ _ (HK.o.trans hw (fun _ _ s=>s)) (aE hy hw) (aE hx hw) (aE hy' hw) (aE hx' hw));have HTK:=Hd (fun e:xs[k]=ys[k]=>fG hlta hltb HT.o e)
    have HNE:=Hd (show xs=ys→xs[k]=ys[k] from fun h=>by simp only [h]);obtain⟨x,hxe⟩:∃x,x=xs[k]:=⟨_,rfl⟩;obtain⟨y,hye⟩:∃y,y=ys[k]:=⟨_,rfl⟩;rw [←hxe,←hye] at HC HTK HNE;clear hxe hye hlta hltb HT hx hx' hy hy';have p1:(k:Int)<(L:Int):=by omega
    go_wp2_with fail;refine (HC.o _ ((aB.refl _ _).alloc _ |>.alloc _)).mono ?_;rintro e w2 ⟨r,rfl,hr,hk2⟩;have HK2:=Hd ((HK.o.trans ((aB.refl _ _).alloc _ |>.alloc _) k3).trans hk2 k3);cases r with
    | true=>
     have HWD:=Hd (hr.1 rfl);clear hr hk2 HC;go_wp2_with fail;go_roundw
     case rel=>exact⟨k+1,by go_num,by omega,Hd (HTK.o HWD.o),HK2⟩
     case measure=>simp [intOf];omega
    | false=>
     have HWD:=Hd (show x≠y from fun h=>by have:=hr.2 h;cases this);clear hr hk2 HC;go_wp2_with fail;go_ret;exact⟨false,rfl,⟨fun h=>(by cases h),fun h=>absurd (HNE.o h) HWD.o⟩,HK2.o⟩
   ·obtain rfl:k=L:=by omega
    have HF:=Hd (g7 HLA.o HLB.o HT.o);have p1:¬(k:Int)<(k:Int):=by omega
    go_wp2_with fail;go_ret;exact⟨true,rfl,⟨fun _=>HF.o,fun _=>rfl⟩,HK.o⟩
 ·have e1:((L:Int) != (M:Int))=true:=by rw [bne_iff_ne];omega
  have HL:=Hd (show xs.length≠ys.length by rw [←HLA.o,←HLB.o];exact hl);clear hl;go_enter Tryz.func57,Tryz.ntmps57;go_wp2_with fail;go_ret;exact⟨false,rfl,⟨fun h=>(by cases h),fun h=>absurd (by rw [h]) HL.o⟩,aB.refl _ _⟩
theorem P0 (w:World) (D E:Nat→Prop) (xs ys:List (Ny)) (A B:OA) (L M C C':Nat) (ha:Rd w D (.sl 8 (xs.flatMap Ny.row)) (.slice A L C)) (hb:Rd w E (.sl 8 (ys.flatMap Ny.row)) (.slice B M C'))
 (hcb:∀i (hi:i<xs.length) (hj:i<ys.length) (W:World) (wa:OA) (wl wc:Nat) (ga:OA) (gl gc:Nat) (ra:OA) (rl rcp:Nat) (ka:OA) (kl kc:Nat) (aa:OA) (al ac:Nat) (wa':OA) (wl' wc':Nat) (ga':OA) (gl' gc':Nat) (ra':OA) (rl' rcp':Nat) (ka':OA) (kl' kc':Nat) (aa':OA) (al' ac':Nat),K0 w W→NyR W D xs[i] wa wl wc ga gl gc ra rl rcp ka kl kc aa al ac→NyR W E ys[i] wa' wl' wc' ga' gl' gc' ra' rl' rcp' ka' kl' kc' aa' al' ac'→
  Calls Tryz.prog 30 #[.agg #[.int .i64 xs[i].kind,.bool xs[i].nt,.string ⟨xs[i].nm.toArray⟩,.slice wa wl wc,.slice ga gl gc,.slice ra rl rcp,.slice ka kl kc,.slice aa al ac],.agg #[.int .i64 ys[i].kind,.bool ys[i].nt,.string ⟨ys[i].nm.toArray⟩,.slice wa' wl' wc',.slice ga' gl' gc',.slice ra' rl' rcp',.slice ka' kl' kc',.slice aa' al' ac']] W (bY W (xs[i]=ys[i]))) :
 Calls Tryz.prog 29 #[.slice A L C,.slice B M C',.func (.func 30) #[] #[]] w (bY w (xs=ys)):=by
 have hmx:=cR (by decide) ha;have hmy:=cR (by decide) hb;have HLA:=Hd (cK (k:=8) (fun _=>rfl) (by decide) ha).1;have HLB:=Hd (cK (k:=8) (fun _=>rfl) (by decide) hb).1;have HA:=Hd ha;have HB:=Hd hb;have HCB:=Hd hcb;have hc8:=bV;clear ha hb hcb;by_cases hl:L=M
 ·subst hl;go_enter Tryz.func29,Tryz.ntmps29;go_wp2_with fail;go_loopw [17] (fun k' wr=>∃k:Nat,k'=.int .i64 k∧k≤L∧Hid (xs.take k=ys.take k)∧Hid (K0 w wr)) (fun k' _=>L - (intOf k').toNat)
  case atStart=>exact⟨0,rfl,Nat.zero_le _,Hd rfl,Hd (aB.refl _ _)⟩
  case round=>
   obtain⟨k,rfl,hk,HT,HK⟩:=hrel;by_cases hlt:k<L
   ·have hlta:k<xs.length:=by rw [←HLA.o];exact hlt
    have hltb:k<ys.length:=by rw [←HLB.o];exact hlt
    obtain⟨g,o,wa,wl,wc,ga,gl,gc,ra,rl,rcp,ka,kl,kc,aa,al,ac,h,hg,⟨q0,q1,q2,q3,q4,q5,q6,q7⟩,hx⟩:=iO (aE HA.o HK.o) hlta;obtain⟨g',o',wa',wl',wc',ga',gl',gc',ra',rl',rcp',ka',kl',kc',aa',al',ac',h',hg',⟨r0,r1,r2,r3,r4,r5,r6,r7⟩,hx'⟩:=iO (aE HB.o HK.o) hltb;subst h h';have HC:=Hd (fun W (hw:K0 wr W)=>HCB.o k hlta hltb W _ _ _ _ _ _ _ _ _ _ _ _ _ _ _ _ _ _ _ _ _ _ _ _ _ _ _ _ _ _ (HK.o.trans hw (fun _ _ s=>s)) (hx.keep0 hw) (hx'.keep0 hw))
    have HTK:=Hd (fun e:xs[k]=ys[k]=>fG hlta hltb HT.o e);have HNE:=Hd (show xs=ys→xs[k]=ys[k] from fun h=>by simp only [h]);obtain⟨x,hxe⟩:∃x,x=xs[k]:=⟨_,rfl⟩;obtain⟨y,hye⟩:∃y,y=ys[k]:=⟨_,rfl⟩;rw [←hxe,←hye] at HC HTK HNE;rw [←hxe] at q0 q1 q2;rw [←hye] at r0 r1 r2;clear hxe hye hlta hltb HT hx hx';have p1:(k:Int)<(L:Int):=by omega
    go_wp2_with fail;refine (HC.o _ ((aB.refl _ _).alloc _ |>.alloc _)).mono ?_;rintro e w2 ⟨r,rfl,hr,hk2⟩;have HK2:=Hd ((HK.o.trans ((aB.refl _ _).alloc _ |>.alloc _) k3).trans hk2 k3);cases r with
    | true=>
     have HWD:=Hd (hr.1 rfl);clear hr hk2 HC;go_wp2_with fail;go_roundw
     case rel=>exact⟨k+1,by go_num,by omega,Hd (HTK.o HWD.o),HK2⟩
     case measure=>simp [intOf];omega
    | false=>
     have HWD:=Hd (show x≠y from fun h=>by have:=hr.2 h;cases this);clear hr hk2 HC;go_wp2_with fail;go_ret;exact⟨false,rfl,⟨fun h=>(by cases h),fun h=>absurd (HNE.o h) HWD.o⟩,HK2.o⟩
   ·obtain rfl:k=L:=by omega
    have HF:=Hd (g7 HLA.o HLB.o HT.o);have p1:¬(k:Int)<(k:Int):=by omega
    go_wp2_with fail;go_ret;exact⟨true,rfl,⟨fun _=>HF.o,fun _=>rfl⟩,HK.o⟩
 ·have e1:((L:Int) != (M:Int))=true:=by rw [bne_iff_ne];omega
  have HL:=Hd (show xs.length≠ys.length by rw [←HLA.o,←HLB.o];exact hl);clear hl;go_enter Tryz.func29,Tryz.ntmps29;go_wp2_with fail;go_ret;exact⟨false,rfl,⟨fun h=>(by cases h),fun h=>absurd (by rw [h]) HL.o⟩,aB.refl _ _⟩
theorem Pf (w:World) (x y:Px) (xa:OA) (xl xc:Nat) (xa':OA) (xl' xc':Nat) (hc:∀W,K0 w W→Calls Tryz.prog 52 #[.slice xa xl xc,.slice xa' xl' xc'] W (bY W (x.word=y.word))) :
 Calls Tryz.prog 81 #[.agg #[.int .i64 x.kind,.string ⟨x.text.toArray⟩,.string ⟨x.name.toArray⟩,.string ⟨x.op.toArray⟩,.slice xa xl xc,.bool x.quoted],.agg #[.int .i64 y.kind,.string ⟨y.text.toArray⟩,.string ⟨y.name.toArray⟩,.string ⟨y.op.toArray⟩,.slice xa' xl' xc',.bool y.quoted]] w (bY w (x=y)):=by
 have HC:=Hd hc;clear hc;obtain⟨kx,hkx⟩:∃q,q=x.kind:=⟨_,rfl⟩;obtain⟨ky,hky⟩:∃q,q=y.kind:=⟨_,rfl⟩;obtain⟨qx,hqx⟩:∃q,q=x.quoted:=⟨_,rfl⟩;obtain⟨qy,hqy⟩:∃q,q=y.quoted:=⟨_,rfl⟩;rw [←hkx,←hky,←hqx,←hqy];by_cases c0:kx=ky;rotate_left
 ·have t0:(kx==ky)=false:=by rw [beq_eq_false_iff_ne];exact c0
  have C0:=Hd (show x.kind≠y.kind by rw [←hkx,←hky];exact c0);clear c0 hkx hky hqx hqy;go_enter Tryz.func81,Tryz.ntmps81;go_wp2_with fail;go_ret;exact⟨false,rfl,⟨fun h=>(by cases h),fun h=>absurd (by rw [h]) C0.out⟩,((aB.refl _ _).alloc _).alloc _⟩
 have C0:=Hd (hkx.symm.trans (c0.trans hky));have t0:(ky==ky)=true:=by simp
 clear hkx hky;subst c0;cases t1:(x.text==y.text) with
 | false=>
  have C1:=Hd (ne_of_beq_false t1);go_enter Tryz.func81,Tryz.ntmps81;go_wp2_with fail;go_ret;exact⟨false,rfl,⟨fun h=>(by cases h),fun h=>absurd (by rw [h]) C1.out⟩,((aB.refl _ _).alloc _).alloc _⟩
 | true=>
 have C1:=Hd (eq_of_beq t1);cases t2:(x.name==y.name) with
 | false=>
  have C2:=Hd (ne_of_beq_false t2);go_enter Tryz.func81,Tryz.ntmps81;go_wp2_with fail;go_ret;exact⟨false,rfl,⟨fun h=>(by cases h),fun h=>absurd (by rw [h]) C2.out⟩,((aB.refl _ _).alloc _).alloc _⟩
 | true=>
 have C2:=Hd (eq_of_beq t2);cases t3:(x.op==y.op) with
 | false=>
  have C3:=Hd (ne_of_beq_false t3);go_enter Tryz.func81,Tryz.ntmps81;go_wp2_with fail;go_ret;exact⟨false,rfl,⟨fun h=>(by cases h),fun h=>absurd (by rw [h]) C3.out⟩,((aB.refl _ _).alloc _).alloc _⟩
 | true=>
 have C3:=Hd (eq_of_beq t3);by_cases c5:qx=qy;rotate_left
 ·have C5:=Hd (show x.quoted≠y.quoted by rw [←hqx,←hqy];exact c5);clear hqx hqy;cases qx<;>cases qy
  ·exact absurd rfl c5
  ·clear c5;go_enter Tryz.func81,Tryz.ntmps81;go_wp2_with fail;go_ret;exact⟨false,rfl,⟨fun h=>(by cases h),fun h=>absurd (by rw [h]) C5.out⟩,((aB.refl _ _).alloc _).alloc _⟩
  ·clear c5;go_enter Tryz.func81,Tryz.ntmps81;go_wp2_with fail;go_ret;exact⟨false,rfl,⟨fun h=>(by cases h),fun h=>absurd (by rw [h]) C5.out⟩,((aB.refl _ _).alloc _).alloc _⟩
  ·exact absurd rfl c5
 have C5:=Hd (hqx.symm.trans (c5.trans hqy));clear hqx hqy;subst c5;have t5:(qx==qx)=true:=by simp
 go_enter Tryz.func81,Tryz.ntmps81;go_wp2_with fail;refine (HC.o _ (((aB.refl _ _).alloc _).alloc _)).mono ?_;rintro e w2 ⟨r,rfl,hr,hk2⟩;have HK2:=Hd ((((aB.refl (fun _=>False) w).alloc _).alloc _).trans hk2 k3);have HR:=Hd hr;clear hr hk2;go_wp2_with fail;go_ret;exact⟨r,rfl,⟨fun h=>Px.ext' C0.out C1.out C2.out C3.out (HR.o.1 h) C5.out,fun h=>HR.o.2 (by rw [h])⟩,HK2.o⟩
theorem Pg (N:Nat):∀(n:Nat),n<N→∀(m:Nat) (D E:Nat→Prop) (ds es:List Dt) (va vb:Value) (w:World),cD n ds→cD m es→Rd w D (.sl 6 ds) va→Rd w E (.sl 6 es) vb→
 Calls Tryz.prog 52 #[va,vb] w (bY w (ds=es)):=by
 induction N with
 | zero=>intro n hn;omega
 | succ N ih=>
  intro n hn m D E ds es va vb w hds hes ha hb;obtain⟨xs,rfl,hxs⟩:=hds.out;obtain⟨ys,rfl,hys⟩:=hes.out;obtain⟨aa,al,ac,rfl⟩:=pK (by decide) ha;obtain⟨ba,bl,bc,rfl⟩:=pK (by decide) hb;rw [K5];have HE:=Hd (Qn w D E xs ys aa ba al bl ac bc ha hb fun i hi hj W xa xl xc xa' xl' xc' hw hx hy=>
   Pf W xs[i] ys[i] xa xl xc xa' xl' xc' fun V hv=>
    ih (n - 1) (by have:=(hxs _ (List.getElem_mem hi)).1;omega) (m - 1) D E _ _ _ _ V (hxs _ (List.getElem_mem hi)).2 (hys _ (List.getElem_mem hj)).2 (aE hx hv) (aE hy hv))
  clear ih ha hb hxs hys hds hes;go_enter Tryz.func52,Tryz.ntmps52;go_wp2_with fail;refine HE.o.mono ?_;rintro e w2 ⟨r,rfl,hr,hk2⟩;have HK2:=Hd hk2;have HR:=Hd hr;clear hr hk2;go_wp2_with fail;go_ret;exact⟨r,rfl,HR.o,HK2.o⟩
theorem Eu (n m:Nat) (D E:Nat→Prop) (ds es:List Dt) (va vb:Value) (w:World) (hds:cD n ds) (hes:cD m es) (ha:Rd w D (.sl 6 ds) va) (hb:Rd w E (.sl 6 es) vb) :
 Calls Tryz.prog 52 #[va,vb] w (bY w (ds=es)):=Pg (n+1) n (Nat.lt_succ_self _) m D E ds es va vb w hds hes ha hb
theorem Qv (n m:Nat) (D E:Nat→Prop) (w:World) (x y:Bs×List Dt) (hx:cD n x.2) (hy:cD m y.2) (xa:OA) (xl xc:Nat) (xa':OA) (xl' xc':Nat) (ha:Rd w D (.sl 6 x.2) (.slice xa xl xc)) (hb:Rd w E (.sl 6 y.2) (.slice xa' xl' xc')) :
 Calls Tryz.prog 54 #[.agg #[.string ⟨x.1.toArray⟩,.slice xa xl xc],.agg #[.string ⟨y.1.toArray⟩,.slice xa' xl' xc']] w (bY w (x=y)):=by
 have HC:=Hd (fun W (h:K0 w W)=>Eu n m D E x.2 y.2 _ _ W hx hy (aE ha h) (aE hb h));clear hx hy ha hb;cases t1:(x.1==y.1) with
 | false=>
  have C1:=Hd (ne_of_beq_false t1);go_enter Tryz.func54,Tryz.ntmps54;go_wp2_with fail;go_ret;exact⟨false,rfl,⟨fun h=>(by cases h),fun h=>absurd (by rw [h]) C1.out⟩,((aB.refl _ _).alloc _).alloc _⟩
 | true=>
 have C1:=Hd (eq_of_beq t1);go_enter Tryz.func54,Tryz.ntmps54;go_wp2_with fail;refine (HC.o _ (((aB.refl _ _).alloc _).alloc _)).mono ?_;rintro e w2 ⟨r,rfl,hr,hk2⟩;have HK2:=Hd ((((aB.refl (fun _=>False) w).alloc _).alloc _).trans hk2 k3);have HR:=Hd hr;clear hr hk2;go_wp2_with fail;go_ret;exact⟨r,rfl,⟨fun h=>Prod.ext C1.out (HR.o.1 h),fun h=>HR.o.2 (by rw [h])⟩,HK2.o⟩
theorem Q1 (n m:Nat) (D E:Nat→Prop) (w:World) (x y:Bs×List Dt) (hx:cD n x.2) (hy:cD m y.2) (xa:OA) (xl xc:Nat) (xa':OA) (xl' xc':Nat) (ha:Rd w D (.sl 6 x.2) (.slice xa xl xc)) (hb:Rd w E (.sl 6 y.2) (.slice xa' xl' xc')) :
 Calls Tryz.prog 56 #[.agg #[.string ⟨x.1.toArray⟩,.slice xa xl xc],.agg #[.string ⟨y.1.toArray⟩,.slice xa' xl' xc']] w (bY w (x=y)):=by
 have HC:=Hd (fun W (h:K0 w W)=>Eu n m D E x.2 y.2 _ _ W hx hy (aE ha h) (aE hb h));clear hx hy ha hb;cases t1:(x.1==y.1) with
 | false=>
  have C1:=Hd (ne_of_beq_false t1);go_enter Tryz.func56,Tryz.ntmps56;go_wp2_with fail;go_ret;exact⟨false,rfl,⟨fun h=>(by cases h),fun h=>absurd (by rw [h]) C1.out⟩,((aB.refl _ _).alloc _).alloc _⟩
 | true=>
 have C1:=Hd (eq_of_beq t1);go_enter Tryz.func56,Tryz.ntmps56;go_wp2_with fail;refine (HC.o _ (((aB.refl _ _).alloc _).alloc _)).mono ?_;rintro e w2 ⟨r,rfl,hr,hk2⟩;have HK2:=Hd ((((aB.refl (fun _=>False) w).alloc _).alloc _).trans hk2 k3);have HR:=Hd hr;clear hr hk2;go_wp2_with fail;go_ret;exact⟨r,rfl,⟨fun h=>Prod.ext C1.out (HR.o.1 h),fun h=>HR.o.2 (by rw [h])⟩,HK2.o⟩
def Fk (N:Nat):Prop:=∀(n m:Nat),n<N→∀(w:World) (D E:Nat→Prop) (ds es:List Dt) (aa ba:OA) (an ac bn bc:Nat),eQ n ds→eQ m es→Rd w D (.sl 8 ds) (.slice aa an ac)→Rd w E (.sl 8 es) (.slice ba bn bc)→
 Calls Tryz.prog 15 #[.slice aa an ac,.slice ba bn bc] w (bY w (ds=es))
theorem Gd (n m:Nat) (D E:Nat→Prop) (w:World) (xs ys:List (List Dt)) (hx:∀v∈xs,cD n v) (hy:∀v∈ys,cD m v) (A B:OA) (L M C C':Nat) (ha:Rd w D (.sl 1 (xs.flatMap wdD)) (.slice A L C)) (hb:Rd w E (.sl 1 (ys.flatMap wdD)) (.slice B M C')) :
 Calls Tryz.prog 51 #[.slice A L C,.slice B M C',.func (.func 52) #[] #[]] w (bY w (xs=ys)):=
 P5 w D E xs ys A B L M C C' ha hb fun i hi hj W xa xl xc xa' xl' xc' hw h1 h2=>Eu n m D E xs[i] ys[i] _ _ W (hx _ (List.getElem_mem hi)) (hy _ (List.getElem_mem hj)) h1 h2
theorem Ra (N n m:Nat) (hn:n<N) (hs:Fk N) (D E:Nat→Prop) (w:World) (x y:List (List Dt)×List Dt) (hx:(∀v∈x.1,cD n v)∧eQ n x.2) (hy:(∀v∈y.1,cD m v)∧eQ m y.2) (pa:OA) (pn pc:Nat) (xa:OA) (xl xc:Nat) (pa':OA) (pn' pc':Nat) (xa':OA) (xl' xc':Nat)
 (ha:Rd w D (.sl 1 (x.1.flatMap wdD)) (.slice pa pn pc)) (ha2:Rd w D (.sl 8 x.2) (.slice xa xl xc)) (hb:Rd w E (.sl 1 (y.1.flatMap wdD)) (.slice pa' pn' pc')) (hb2:Rd w E (.sl 8 y.2) (.slice xa' xl' xc')) :
 Calls Tryz.prog 58 #[.agg #[.slice pa pn pc,.slice xa xl xc],.agg #[.slice pa' pn' pc',.slice xa' xl' xc']] w (bY w (x=y)):=by
 have HC:=Hd (fun W (h:K0 w W)=>Gd n m D E W x.1 y.1 hx.1 hy.1 _ _ _ _ _ _ (aE ha h) (aE hb h));have HD:=Hd (fun W (h:K0 w W)=>hs n m hn W D E x.2 y.2 _ _ _ _ _ _ hx.2 hy.2 (aE ha2 h) (aE hb2 h));clear hx hy ha hb ha2 hb2 hs;go_enter Tryz.func58,Tryz.ntmps58;go_wp2_with fail;refine (HC.o _ (((aB.refl _ _).alloc _).alloc _)).mono ?_;rintro e w2 ⟨r,rfl,hr,hk2⟩
 have HK2:=Hd ((((aB.refl (fun _=>False) w).alloc _).alloc _).trans hk2 k3);cases r with
 | false=>
  have HR:=Hd (show x.1≠y.1 from fun h=>by have:=hr.2 h;cases this);clear hr hk2;go_wp2_with fail;go_ret;exact⟨false,rfl,⟨fun h=>(by cases h),fun h=>absurd (by rw [h]) HR.o⟩,HK2.o⟩
 | true=>
  have HR:=Hd (hr.1 rfl);obtain⟨x0,x1,y0,y1,l0,l1⟩:w2.cell? ⟨w.heap.size,0,none⟩=some (.slice pa pn pc)∧w2.cell? ⟨w.heap.size,1,none⟩=some (.slice xa xl xc)∧w2.cell? ⟨w.heap.size+1,0,none⟩=some (.slice pa' pn' pc')∧w2.cell? ⟨w.heap.size+1,1,none⟩=some (.slice xa' xl' xc')∧w.heap.size<w2.heap.size∧w.heap.size+1<w2.heap.size:=by
   obtain⟨W,hW⟩:∃W,W=(w.alloc (.cells #[.slice pa pn pc,.slice xa xl xc] 49)).alloc (.cells #[.slice pa' pn' pc',.slice xa' xl' xc'] 49):=⟨_,rfl⟩;rw [←hW] at hk2;have hs1:(w.alloc (.cells #[.slice pa pn pc,.slice xa xl xc] 49)).heap.size=w.heap.size+1:=by simp
   have hs2:W.heap.size=w.heap.size+2:=by rw [hW];simp
   have b1:W.heap[w.heap.size]? = some (.cells #[.slice pa pn pc,.slice xa xl xc] 49 (0,0)):=by
    rw [hW];exact (heap_alloc_old _ _ (by rw [hs1];omega)).trans (heap_alloc_new w _)
   have b2:W.heap[w.heap.size+1]? = some (.cells #[.slice pa' pn' pc',.slice xa' xl' xc'] 49 (0,0)):=by
    rw [hW,←hs1];exact heap_alloc_new _ _
   have c1:=(hk2.block w.heap.size (by omega) (fun h=>h)).trans b1;have c2:=(hk2.block (w.heap.size+1) (by omega) (fun h=>h)).trans b2;have:=hk2.size;exact⟨by simp [World.cell?,c1],by simp [World.cell?,c1],by simp [World.cell?,c2],by simp [World.cell?,c2],by omega,by omega⟩
  clear hr hk2;go_wp2_with fail;refine (HD.o _ HK2.o).mono ?_;rintro e w3 ⟨r,rfl,hr,hk3⟩;have HK3:=Hd (HK2.o.trans hk3 k3);have HR2:=Hd hr;clear hr hk3;go_wp2_with fail;go_ret;exact⟨r,rfl,⟨fun h=>Prod.ext HR.o (HR2.o.1 h),fun h=>HR2.o.2 (by rw [h])⟩,HK3.o⟩
theorem Ql (N n m:Nat) (hn:n<N) (hs:Fk N) (D E:Nat→Prop) (w:World) (x y:Ny) (hx:Aq n x) (hy:Aq m y) (wa:OA) (wl wc:Nat) (ga:OA) (gl gc:Nat) (ra:OA) (rl rcp:Nat) (ka:OA) (kl kc:Nat) (aa:OA) (al ac:Nat) (wa':OA) (wl' wc':Nat) (ga':OA) (gl' gc':Nat) (ra':OA) (rl' rcp':Nat) (ka':OA) (kl' kc':Nat) (aa':OA) (al' ac':Nat)
 (ha:NyR w D x wa wl wc ga gl gc ra rl rcp ka kl kc aa al ac) (hb:NyR w E y wa' wl' wc' ga' gl' gc' ra' rl' rcp' ka' kl' kc' aa' al' ac') :
 Calls Tryz.prog 30 #[.agg #[.int .i64 x.kind,.bool x.nt,.string ⟨x.nm.toArray⟩,.slice wa wl wc,.slice ga gl gc,.slice ra rl rcp,.slice ka kl kc,.slice aa al ac],.agg #[.int .i64 y.kind,.bool y.nt,.string ⟨y.nm.toArray⟩,.slice wa' wl' wc',.slice ga' gl' gc',.slice ra' rl' rcp',.slice ka' kl' kc',.slice aa' al' ac']] w (bY w (x=y)):=by
 have H3:=Hd (fun W (h:K0 w W)=>Gd n m D E W x.ws y.ws hx.1 hy.1 _ _ _ _ _ _ (aE ha.ws h) (aE hb.ws h));have H4:=Hd (fun W (h:K0 w W)=>Nb W D E x.gs y.gs _ _ _ _ _ _ (aE ha.gs h) (aE hb.gs h) fun i hi hj V xa xl xc xa' xl' xc' hw h1 h2=>Qv n m D E V x.gs[i] y.gs[i] (hx.2.1 _ (List.getElem_mem hi)) (hy.2.1 _ (List.getElem_mem hj)) _ _ _ _ _ _ h1 h2)
 have H5:=Hd (fun W (h:K0 w W)=>Nz W D E x.rs y.rs _ _ _ _ _ _ (aE ha.rs h) (aE hb.rs h) fun i hi hj V xa xl xc xa' xl' xc' hw h1 h2=>Q1 n m D E V x.rs[i] y.rs[i] (hx.2.2.1 _ (List.getElem_mem hi)) (hy.2.2.1 _ (List.getElem_mem hj)) _ _ _ _ _ _ h1 h2);have H6:=Hd (fun W (h:K0 w W)=>Rf W D E x.ar y.ar _ _ _ _ _ _ (aE ha.ar h) (aE hb.ar h) fun i hi hj V pa pn pc xa xl xc pa' pn' pc' xa' xl' xc' hw h1 h2 h3 h4=>Ra N n m hn hs D E V x.ar[i] y.ar[i] (hx.2.2.2.2 _ (List.getElem_mem hi)) (hy.2.2.2.2 _ (List.getElem_mem hj)) _ _ _ _ _ _ _ _ _ _ _ _ h1 h2 h3 h4)
 have H7:=Hd (fun W (h:K0 w W)=>hs n m hn W D E x.ks y.ks _ _ _ _ _ _ hx.2.2.2.1 hy.2.2.2.1 (aE ha.ks h) (aE hb.ks h));obtain⟨kx,hkx⟩:∃l,l=x.kind:=⟨_,rfl⟩;obtain⟨tx,htx⟩:∃l,l=x.nt:=⟨_,rfl⟩;obtain⟨ky,hky⟩:∃l,l=y.kind:=⟨_,rfl⟩;obtain⟨ty,hty⟩:∃l,l=y.nt:=⟨_,rfl⟩;rw [←hkx,←htx,←hky,←hty];clear ha hb hx hy hs;obtain⟨W,hW⟩:∃W,W=((w.alloc (.cells #[.int .i64 kx,.bool tx,.string ⟨x.nm.toArray⟩,.slice wa wl wc,.slice ga gl gc,.slice ra rl rcp,.slice ka kl kc,.slice aa al ac] 44)).alloc (.cells #[.int .i64 ky,.bool ty,.string ⟨y.nm.toArray⟩,.slice wa' wl' wc',.slice ga' gl' gc',.slice ra' rl' rcp',.slice ka' kl' kc',.slice aa' al' ac'] 44)):=⟨_,rfl⟩
 have hkW:K0 w W:=by rw [hW];exact ((aB.refl _ _).alloc _).alloc _
 have hR1:aH W w.heap.size [.int .i64 kx,.bool tx,.string ⟨x.nm.toArray⟩,.slice wa wl wc,.slice ga gl gc,.slice ra rl rcp,.slice ka kl kc,.slice aa al ac]:=by
  rw [hW];exact (aK w _ _ _ _ _ _ _ _ _).keep (S:=fun _=>False) ((aB.refl _ _).alloc _) (fun h=>h)
 have hR2:aH W (w.heap.size+1) [.int .i64 ky,.bool ty,.string ⟨y.nm.toArray⟩,.slice wa' wl' wc',.slice ga' gl' gc',.slice ra' rl' rcp',.slice ka' kl' kc',.slice aa' al' ac']:=by
  rw [hW];have h:=aK (w.alloc (.cells #[.int .i64 kx,.bool tx,.string ⟨x.nm.toArray⟩,.slice wa wl wc,.slice ga gl gc,.slice ra rl rcp,.slice ka kl kc,.slice aa al ac] 44)) (.int .i64 ky) (.bool ty) (.string ⟨y.nm.toArray⟩) (.slice wa' wl' wc') (.slice ga' gl' gc') (.slice ra' rl' rcp') (.slice ka' kl' kc') (.slice aa' al' ac') 44;rw [show (w.alloc (.cells #[.int .i64 kx,.bool tx,.string ⟨x.nm.toArray⟩,.slice wa wl wc,.slice ga gl gc,.slice ra rl rcp,.slice ka kl kc,.slice aa al ac] 44)).heap.size=w.heap.size+1 by simp] at h
  exact h
 have HR1:=Hd hR1;have HR2:=Hd hR2;have HKW:=Hd hkW;have HWE:=Hd hW;clear hW hR1 hR2 hkW;by_cases c0:kx=ky;rotate_left
 ·have t0:(kx==ky)=false:=by rw [beq_eq_false_iff_ne];exact c0
  have C0:=Hd (show x.kind≠y.kind by rw [←hkx,←hky];exact c0);clear c0 hkx hky htx hty;go_enter Tryz.func30,Tryz.ntmps30;go_wp2_with fail;go_ret;exact⟨false,rfl,⟨fun h=>(by cases h),fun h=>absurd (by rw [h]) C0.out⟩,by rw [HWE.o] at HKW;exact HKW.o⟩
 have C0:=Hd (hkx.symm.trans (c0.trans hky));have t0:(ky==ky)=true:=by simp
 clear hkx hky;subst c0;by_cases c1:tx=ty;rotate_left
 ·have C1:=Hd (show x.nt≠y.nt by rw [←htx,←hty];exact c1);clear htx hty;cases tx<;>cases ty
  ·exact absurd rfl c1
  ·clear c1;go_enter Tryz.func30,Tryz.ntmps30;go_wp2_with fail;go_ret;exact⟨false,rfl,⟨fun h=>(by cases h),fun h=>absurd (by rw [h]) C1.out⟩,by rw [HWE.o] at HKW;exact HKW.o⟩
  ·clear c1;go_enter Tryz.func30,Tryz.ntmps30;go_wp2_with fail;go_ret;exact⟨false,rfl,⟨fun h=>(by cases h),fun h=>absurd (by rw [h]) C1.out⟩,by rw [HWE.o] at HKW;exact HKW.o⟩
  ·exact absurd rfl c1
 have C1:=Hd (htx.symm.trans (c1.trans hty));clear htx hty;subst c1;have t1:(tx==tx)=true:=by simp
 cases t2:(x.nm==y.nm) with
 | false=>
  have C2:=Hd (ne_of_beq_false t2);go_enter Tryz.func30,Tryz.ntmps30;go_wp2_with fail;go_ret;exact⟨false,rfl,⟨fun h=>(by cases h),fun h=>absurd (by rw [h]) C2.out⟩,by rw [HWE.o] at HKW;exact HKW.o⟩
 | true=>
 have C2:=Hd (eq_of_beq t2);go_enter Tryz.func30,Tryz.ntmps30;go_wp2_with fail;rw [←HWE.o];have HK:=Hd (aB.refl (fun _=>False) W);refine (H3.o W (HKW.o.trans HK.o k3)).mono ?_;rintro e w3 ⟨r,rfl,hr,hk⟩;replace HK:=Hd (HK.o.trans hk k3);obtain⟨⟨x0,x1,x2,x3,x4,x5,x6,x7⟩,_⟩:=(HR1.o.keep HK.o (fun h=>h)).eight;obtain⟨⟨y0,y1,y2,y3,y4,y5,y6,y7⟩,_⟩:=(HR2.o.keep HK.o (fun h=>h)).eight
 have lx:=(HR1.o.keep HK.o (fun h=>h)).lt;have ly:=(HR2.o.keep HK.o (fun h=>h)).lt;cases r with
 | false=>
  have C3:=Hd (show x.ws≠y.ws from fun h=>by have:=hr.2 h;cases this);clear hr hk;go_wp2_with fail;go_ret;exact⟨false,rfl,⟨fun h=>(by cases h),fun h=>absurd (by rw [h]) C3.out⟩,HKW.o.trans HK.o k3⟩
 | true=>
 have C3:=Hd (hr.1 rfl);clear hr hk;go_wp2_with fail;clear x0 x1 x2 x3 x4 x5 x6 x7 y0 y1 y2 y3 y4 y5 y6 y7 lx ly;refine (H4.o w3 (HKW.o.trans HK.o k3)).mono ?_;rintro e w4 ⟨r,rfl,hr,hk⟩;replace HK:=Hd (HK.o.trans hk k3);obtain⟨⟨x0,x1,x2,x3,x4,x5,x6,x7⟩,_⟩:=(HR1.o.keep HK.o (fun h=>h)).eight;obtain⟨⟨y0,y1,y2,y3,y4,y5,y6,y7⟩,_⟩:=(HR2.o.keep HK.o (fun h=>h)).eight
 have lx:=(HR1.o.keep HK.o (fun h=>h)).lt;have ly:=(HR2.o.keep HK.o (fun h=>h)).lt;cases r with
 | false=>
  have C4:=Hd (show x.gs≠y.gs from fun h=>by have:=hr.2 h;cases this);clear hr hk;go_wp2_with fail;go_ret;exact⟨false,rfl,⟨fun h=>(by cases h),fun h=>absurd (by rw [h]) C4.out⟩,HKW.o.trans HK.o k3⟩
 | true=>
 have C4:=Hd (hr.1 rfl);clear hr hk;go_wp2_with fail;clear x0 x1 x2 x3 x4 x5 x6 x7 y0 y1 y2 y3 y4 y5 y6 y7 lx ly;refine (H5.o w4 (HKW.o.trans HK.o k3)).mono ?_;rintro e w5 ⟨r,rfl,hr,hk⟩;replace HK:=Hd (HK.o.trans hk k3);obtain⟨⟨x0,x1,x2,x3,x4,x5,x6,x7⟩,_⟩:=(HR1.o.keep HK.o (fun h=>h)).eight;obtain⟨⟨y0,y1,y2,y3,y4,y5,y6,y7⟩,_⟩:=(HR2.o.keep HK.o (fun h=>h)).eight
 have lx:=(HR1.o.keep HK.o (fun h=>h)).lt;have ly:=(HR2.o.keep HK.o (fun h=>h)).lt;cases r with
 | false=>
  have C5:=Hd (show x.rs≠y.rs from fun h=>by have:=hr.2 h;cases this);clear hr hk;go_wp2_with fail;go_ret;exact⟨false,rfl,⟨fun h=>(by cases h),fun h=>absurd (by rw [h]) C5.out⟩,HKW.o.trans HK.o k3⟩
 | true=>
 have C5:=Hd (hr.1 rfl);clear hr hk;go_wp2_with fail;clear x0 x1 x2 x3 x4 x5 x6 x7 y0 y1 y2 y3 y4 y5 y6 y7 lx ly;refine (H6.o w5 (HKW.o.trans HK.o k3)).mono ?_;rintro e w6 ⟨r,rfl,hr,hk⟩;replace HK:=Hd (HK.o.trans hk k3);obtain⟨⟨x0,x1,x2,x3,x4,x5,x6,x7⟩,_⟩:=(HR1.o.keep HK.o (fun h=>h)).eight;obtain⟨⟨y0,y1,y2,y3,y4,y5,y6,y7⟩,_⟩:=(HR2.o.keep HK.o (fun h=>h)).eight
 have lx:=(HR1.o.keep HK.o (fun h=>h)).lt;have ly:=(HR2.o.keep HK.o (fun h=>h)).lt;cases r with
 | false=>
  have C6:=Hd (show x.ar≠y.ar from fun h=>by have:=hr.2 h;cases this);clear hr hk;go_wp2_with fail;go_ret;exact⟨false,rfl,⟨fun h=>(by cases h),fun h=>absurd (by rw [h]) C6.out⟩,HKW.o.trans HK.o k3⟩
 | true=>
 have C6:=Hd (hr.1 rfl);clear hr hk;go_wp2_with fail;clear x0 x1 x2 x3 x4 x5 x6 x7 y0 y1 y2 y3 y4 y5 y6 y7 lx ly;refine (H7.o w6 (HKW.o.trans HK.o k3)).mono ?_;rintro e w7 ⟨r,rfl,hr,hk⟩;replace HK:=Hd (HK.o.trans hk k3);have HR:=Hd hr;clear hr hk;go_wp2_with fail;go_ret;exact⟨r,rfl,⟨fun h=>Ny.ext' C0.out C1.out C2.out C3.out C4.out C5.out (HR.o.1 h) C6.out,fun h=>HR.o.2 (by rw [h])⟩,HKW.o.trans HK.o k3⟩
theorem Kv:∀N,Fk N:=by
 intro N;induction N with
 | zero=>intro n m hn;omega
 | succ N ih=>
  intro n m hn w D E ds es aa ba an ac bn bc hds hes ha hb;obtain⟨xs,rfl,hxs⟩:=hds.out;obtain⟨ys,rfl,hys⟩:=hes.out;rw [Lb];have HE:=Hd (P0 w D E xs ys aa ba an bn ac bc ha hb fun i hi hj W wa wl wc ga gl gc ra rl rcp ka kl kc aa al ac wa' wl' wc' ga' gl' gc' ra' rl' rcp' ka' kl' kc' aa' al' ac' hw hx hy=>
   Ql N (n - 1) (m - 1) (by have:=(hxs _ (List.getElem_mem hi)).1;omega) ih D E W xs[i] ys[i] (hxs _ (List.getElem_mem hi)).2 (hys _ (List.getElem_mem hj)).2 _ _ _ _ _ _ _ _ _ _ _ _ _ _ _ _ _ _ _ _ _ _ _ _ _ _ _ _ _ _ hx hy)
  clear ih ha hb hxs hys hds hes;go_enter Tryz.func15,Tryz.ntmps15;go_wp2_with fail;refine HE.o.mono ?_;rintro e w2 ⟨r,rfl,hr,hk2⟩;have HK2:=Hd hk2;have HR:=Hd hr;clear hr hk2;go_wp2_with fail;go_ret;exact⟨r,rfl,HR.o,HK2.o⟩
end Go.Proofs.YtiihpbccabeoeaaGreatDoor
