/- The walk: a part. -/
import Derived.Test.YtiihpbccabeoeaaGreatDoorWPnC
import Derived.Test.YtiihpbccabeoeaaGreatDoorWPrI
namespace Go.Proofs.YtiihpbccabeoeaaGreatDoor
open Go.RowKit
set_option linter.unusedVariables false
set_option maxRecDepth 100000
set_option maxHeartbeats 16000000
theorem pS {a:ByteArray} {l:Bs} (h:a.data.toList=l):a=⟨l.toArray⟩:=by rw [←h]
def chR:Bs→List Bs→Bs
 | w,c::b::l=>w++(c++([59,32,116,104,101,110,32]++(b++([59,32]++chR [101,108,105,102,32] l))))
 | _,[x]=>[101,108,115,101,32]++(x++[59,32])
 | _,[]=>[]
theorem uC (w c b:Bs) (l:List Bs):chR w (c::b::l)=w++(c++([59,32,116,104,101,110,32]++(b++([59,32]++chR [101,108,105,102,32] l)))):=by rw [chR]
theorem C7:∀(n:Nat) (w c b:Bs) (l:List Bs),l.length≤n→chR w (c::b::l)=w++oM (c::b::l)
 | n,w,c,b,[],_=>by rw [uC];simp [oM,chR]
 | n,w,c,b,[x],_=>by rw [uC];simp [oM,chR]
 | 0,w,c,b,x::y::l,h=>by simp at h
 | n+1,w,c,b,x::y::l,h=>by
  have e:oM (c::b::x::y::l)=c++[59,32,116,104,101,110,32]++b++[59,32]++([101,108,105,102,32]++oM (x::y::l)):=by rw [oM]<;>simp
  rw [uC,C7 n _ x y l (by simp only [lC] at h;omega),e];simp
theorem Br (m:Int) (w:World) (D:Nat→Prop) (xs:List Ny) (outs:List Bs) (hall:iY (fun x S=>mM m x ⟨S.toArray⟩) xs outs) (kx:Int) (tx:Bool) (nx:ByteArray) (wa:OA) (wl wc:Nat) (ga:OA) (gl gc:Nat) (ra:OA) (rl rcp:Nat) (ka:OA) (kl kc:Nat) (aa:OA) (al ac:Nat) (hks:Rd w D (.sl 8 (eV xs)) (.slice ka kl kc)) (hm:w.cell? ⟨0,0,none⟩=some (.int .i64 m)) (hlen:(chR [105,102,32] outs).length≤60000) (hl2:2≤outs.length) :
 Calls Tryz.prog 99 #[.agg #[.int .i64 kx,.bool tx,.string nx,.slice wa wl wc,.slice ga gl gc,.slice ra rl rcp,.slice ka kl kc,.slice aa al ac]] w (aO w ⟨(chR [105,102,32] outs++[102,105]).toArray⟩):=by
 obtain⟨hlo,hat⟩:=uD hall;have hc8:=bV;have hkl:kl=xs.length:=(cK (k:=8) (f:=Ny.row) (fun _=>rfl) (by decide) hks).1;have hLb:=cR (by decide) hks;have HAT:=Hd (fun i (h:i<xs.length) (h2:i<outs.length)=>hat i h h2);have HKS:=Hd hks;have HM:=Hd hm;have hm0:=dI hm;have HKL:=Hd hkl;have HLO:=Hd hlo;obtain⟨T,hT⟩:∃T,T=chR [105,102,32] outs:=⟨_,rfl⟩;have HT:=Hd hT;rw [←hT] at hlen ⊢
 obtain⟨U,hU⟩:∃U:ByteArray,U=⟨(T++[102,105]).toArray⟩:=⟨_,rfl⟩;have HU:=Hd hU;rw [←hU];clear hall hat hlo hks hm hkl hT hU;obtain⟨W,hW⟩:∃W,W=w.alloc (.cells #[.int .i64 kx,.bool tx,.string nx,.slice wa wl wc,.slice ga gl gc,.slice ra rl rcp,.slice ka kl kc,.slice aa al ac] 44):=⟨_,rfl⟩;have HKW:=Hd (show K0 w W by rw [hW];exact (aB.refl _ _).alloc _);have HBW:=Hd (show Below w.heap.size w W by rw [hW];exact (Below.refl _ _).alloc (Nat.le_refl _) _)
 have HRC:=Hd (show aH W w.heap.size [.int .i64 kx,.bool tx,.string nx,.slice wa wl wc,.slice ga gl gc,.slice ra rl rcp,.slice ka kl kc,.slice aa al ac] by rw [hW];exact aK w _ _ _ _ _ _ _ _ _);have HWE:=Hd hW;clear hW;go_enter Tryz.func99,Tryz.ntmps99;go_upto_region 1 with fail;rw [←HWE.o];obtain⟨⟨x0,x1,x2,x3,x4,x5,x6,x7⟩,_⟩:=HRC.o.eight;have lx:=HRC.o.lt;go_wp2_with fail;go_loopw [3,4,5] (fun sv wv k' wr=>∃(k:Nat) (S Wd:ByteArray),sv=.string S∧wv=.string Wd∧k'=.int .i64 k∧k≤kl∧k%2=0∧Wd.size≤5∧Hid (S.data.toList++chR Wd.data.toList (outs.drop k)=T)∧Hid (K0 W wr)) (fun _ _ k' _=>kl - (intOf k').toNat)
 case atStart=>exact⟨0,⟨#[]⟩,⟨#[105,102,32]⟩,rfl,rfl,rfl,Nat.zero_le _,rfl,by decide,Hd (by rw [List.drop_zero,HT.o];rfl),Hd (aB.refl _ _)⟩
 case round=>
  obtain⟨k,S,Wd,rfl,rfl,rfl,hk,hk2,hWd,HS,HK⟩:=hrel;clear x0 x1 x2 x3 x4 x5 x6 x7 lx;obtain⟨⟨x0,x1,x2,x3,x4,x5,x6,x7⟩,_⟩:=(HRC.o.keep (S:=fun _=>False) HK.o (fun h=>h)).eight;have lx:=(HRC.o.keep (S:=fun _=>False) HK.o (fun h=>h)).lt;have HKr:=Hd (HKW.o.trans HK.o k3);have hSs:S.size≤60000:=by
   have h9:=congrArg List.length HS.o;rw [lA,←Lib.size_eq] at h9;omega
  obtain⟨k1,hk1⟩:∃k1,k1=k+1:=⟨_,rfl⟩;have w1:IntKind.i64.wrap ((k:Int)+1)=(k1:Int):=by rw [IntWalk.i64_in _ (by omega)];omega
  by_cases hlt:k1<kl
  ·have hi0:k<xs.length:=by rw [←HKL.o];omega
   have hi1:k1<xs.length:=by rw [←HKL.o];omega
   have ho0:k<outs.length:=by rw [HLO.o];exact hi0
   have ho1:k1<outs.length:=by rw [HLO.o];exact hi1
   have p1:(k1:Int)<(kl:Int):=by omega
   have p0:(k:Int)<(kl:Int):=by omega
   obtain⟨k2,hk2e⟩:∃k2,k2=k+2:=⟨_,rfl⟩;have w2:IntKind.i64.wrap ((k:Int)+2)=(k2:Int):=by rw [IntWalk.i64_in _ (by omega)];omega
   obtain⟨gX,oX,waX,wlX,wcX,gaX,glX,gcX,raX,rlX,rcX,kaX,klX,kcX,aaX,alX,acX,eX,hgX,⟨q0X,q1X,q2X,q3X,q4X,q5X,q6X,q7X⟩,hxX⟩:=iO (xs:=xs) (aE HKS.o HKr.o) hi0;have HNX0:=Hd (fun W' (hW:K0 wr W')=>HAT.o k hi0 ho0 W' D _ _ _ _ _ _ _ _ _ _ _ _ _ _ _ (bN HM.o (HKr.o.trans hW k3) hm0) (hxX.keep0 hW));obtain⟨yX,hyX⟩:∃x,x=xs[k]:=⟨_,rfl⟩;obtain⟨RX,hRX⟩:∃R:ByteArray,R=⟨outs[k].toArray⟩:=⟨_,rfl⟩
   rw [←hyX,←hRX] at HNX0;rw [←hyX] at q0X q1X q2X;obtain⟨kX,hkX⟩:∃l,l=yX.kind:=⟨_,rfl⟩;obtain⟨tX,htX⟩:∃l,l=yX.nt:=⟨_,rfl⟩;obtain⟨nX,hnX⟩:∃l:ByteArray,l=⟨yX.nm.toArray⟩:=⟨_,rfl⟩;rw [←hkX,←htX,←hnX] at HNX0;rw [←hkX] at q0X;rw [←htX] at q1X;rw [←hnX] at q2X;have HNX:=HNX0;have hRlX:RX.data.toList=outs[k]:=by rw [hRX,fD]
   have HRX:=Hd hRlX;have hRzX:RX.size=outs[k].length:=by rw [Lib.size_eq,hRlX]
   clear hxX hyX hRX hkX htX hnX HNX0 hRlX;obtain⟨gY,oY,waY,wlY,wcY,gaY,glY,gcY,raY,rlY,rcY,kaY,klY,kcY,aaY,alY,acY,eY,hgY,⟨q0Y,q1Y,q2Y,q3Y,q4Y,q5Y,q6Y,q7Y⟩,hxY⟩:=iO (xs:=xs) (aE HKS.o HKr.o) hi1;have HNY0:=Hd (fun W' (hW:K0 wr W')=>HAT.o k1 hi1 ho1 W' D _ _ _ _ _ _ _ _ _ _ _ _ _ _ _ (bN HM.o (HKr.o.trans hW k3) hm0) (hxY.keep0 hW));obtain⟨yY,hyY⟩:∃x,x=xs[k1]:=⟨_,rfl⟩
   obtain⟨RY,hRY⟩:∃R:ByteArray,R=⟨outs[k1].toArray⟩:=⟨_,rfl⟩;rw [←hyY,←hRY] at HNY0;rw [←hyY] at q0Y q1Y q2Y;obtain⟨kY,hkY⟩:∃l,l=yY.kind:=⟨_,rfl⟩;obtain⟨tY,htY⟩:∃l,l=yY.nt:=⟨_,rfl⟩;obtain⟨nY,hnY⟩:∃l:ByteArray,l=⟨yY.nm.toArray⟩:=⟨_,rfl⟩;rw [←hkY,←htY,←hnY] at HNY0;rw [←hkY] at q0Y;rw [←htY] at q1Y;rw [←hnY] at q2Y;have HNY:=HNY0;have hRlY:RY.data.toList=outs[k1]:=by rw [hRY,fD]
   have HRY:=Hd hRlY;have hRzY:RY.size=outs[k1].length:=by rw [Lib.size_eq,hRlY]
   clear hxY hyY hRY hkY htY hnY HNY0 hRlY;rw [eX] at eY;have eY2:=Option.some.inj eY;injection eY2 with eY3 eY4 eY5;subst eY3 eY4;have hstep:outs.drop k=outs[k]::outs[k1]::outs.drop k2:=by
    rw [List.drop_eq_getElem_cons ho0,hk2e];congr 1;subst hk1;exact List.drop_eq_getElem_cons ho1
   have HST:=Hd (show S.data.toList++(Wd.data.toList++(outs[k]++([59,32,116,104,101,110,32]++(outs[k1]++([59,32]++chR [101,108,105,102,32] (outs.drop k2))))))=T by rw [←HS.o,hstep,uC]);have hsum:S.size+(Wd.size+RX.size+7+RY.size+2)≤60000:=by
    have h9:=congrArg List.length HST.o;simp only [lA,lC,lN] at h9;rw [Lib.size_eq,Lib.size_eq,hRzX,hRzY];omega
   have z1:¬(9223372036854775807<Wd.size+RX.size):=by omega
   have z2:¬(9223372036854775807<Wd.size+RX.size+7):=by omega
   have z3:¬(9223372036854775807<Wd.size+RX.size+7+RY.size):=by omega
   have z4:¬(9223372036854775807<Wd.size+RX.size+7+RY.size+2):=by omega
   have z5:¬(9223372036854775807<S.size+(Wd.size+RX.size+7+RY.size+2)):=by omega
   have hgX2:=hgX;rw [eX] at x6;have hq:ka=some ⟨gX,oX,none⟩:=eX;have HSS:=Hd (show ∀w',K0 wr w'→w'.cell? ⟨w.heap.size,6,none⟩=some (.slice (some ⟨gX,oX,none⟩) kl kc)∧w'.cell? ⟨gX,oX+k*8,none⟩=some (.int .i64 kX)∧w'.cell? ⟨gX,oX+k*8+1,none⟩=some (.bool tX)∧w'.cell? ⟨gX,oX+k*8+2,none⟩=some (.string nX)∧w'.cell? ⟨gX,oX+k*8+3,none⟩=some (.slice waX wlX wcX)∧w'.cell? ⟨gX,oX+k*8+4,none⟩=some (.slice gaX glX gcX)∧w'.cell? ⟨gX,oX+k*8+5,none⟩=some (.slice raX rlX rcX)∧w'.cell? ⟨gX,oX+k*8+6,none⟩=some (.slice kaX klX kcX)∧w'.cell? ⟨gX,oX+k*8+7,none⟩=some (.slice aaX alX acX)∧w'.cell? ⟨gX,oX+k1*8,none⟩=some (.int .i64 kY)∧w'.cell? ⟨gX,oX+k1*8+1,none⟩=some (.bool tY)∧w'.cell? ⟨gX,oX+k1*8+2,none⟩=some (.string nY)∧w'.cell? ⟨gX,oX+k1*8+3,none⟩=some (.slice waY wlY wcY)∧w'.cell? ⟨gX,oX+k1*8+4,none⟩=some (.slice gaY glY gcY)∧w'.cell? ⟨gX,oX+k1*8+5,none⟩=some (.slice raY rlY rcY)∧w'.cell? ⟨gX,oX+k1*8+6,none⟩=some (.slice kaY klY kcY)∧w'.cell? ⟨gX,oX+k1*8+7,none⟩=some (.slice aaY alY acY)∧K0 wr w' from fun w' hk=>by
    obtain⟨⟨y0,y1,y2,y3,y4,y5,y6,y7⟩,_⟩:=((HRC.o.keep (S:=fun _=>False) HK.o (fun h=>h)).keep hk (fun h=>h)).eight;rw [hq] at y6;have kk:∀{p:Addr} {v:Value},wr.cell? p=some v→p.block<wr.heap.size→w'.cell? p=some v:=fun h hp=>by rw [(show aB (fun x=>wr.heap.size≤x) wr w' from hk.mono fun _ _ h=>h.elim).below (Nat.le_refl _) |>.cell hp];exact h
    exact⟨y6,kk q0X (by exact hgX),kk q1X (by exact hgX),kk q2X (by exact hgX),kk q3X (by exact hgX),kk q4X (by exact hgX),kk q5X (by exact hgX),kk q6X (by exact hgX),kk q7X (by exact hgX),kk q0Y (by exact hgX),kk q1Y (by exact hgX),kk q2Y (by exact hgX),kk q3Y (by exact hgX),kk q4Y (by exact hgX),kk q5Y (by exact hgX),kk q6Y (by exact hgX),kk q7Y (by exact hgX),hk⟩)
   have HNUM:=Hd (show k2≤kl∧k2%2=0∧k<k2∧k<kl by omega);clear hq hstep hSs hRzX hRzY hk1 hk2e eX eY eY5 hgX2;go_wp2_with fail;go_region_held3 (fun w'=>w'.cell? ⟨w.heap.size,6,none⟩=some (.slice (some ⟨gX,oX,none⟩) kl kc)∧w'.cell? ⟨gX,oX+k*8,none⟩=some (.int .i64 kX)∧w'.cell? ⟨gX,oX+k*8+1,none⟩=some (.bool tX)∧w'.cell? ⟨gX,oX+k*8+2,none⟩=some (.string nX)∧w'.cell? ⟨gX,oX+k*8+3,none⟩=some (.slice waX wlX wcX)∧w'.cell? ⟨gX,oX+k*8+4,none⟩=some (.slice gaX glX gcX)∧w'.cell? ⟨gX,oX+k*8+5,none⟩=some (.slice raX rlX rcX)∧w'.cell? ⟨gX,oX+k*8+6,none⟩=some (.slice kaX klX kcX)∧w'.cell? ⟨gX,oX+k*8+7,none⟩=some (.slice aaX alX acX)∧w'.cell? ⟨gX,oX+k1*8,none⟩=some (.int .i64 kY)∧w'.cell? ⟨gX,oX+k1*8+1,none⟩=some (.bool tY)∧w'.cell? ⟨gX,oX+k1*8+2,none⟩=some (.string nY)∧w'.cell? ⟨gX,oX+k1*8+3,none⟩=some (.slice waY wlY wcY)∧w'.cell? ⟨gX,oX+k1*8+4,none⟩=some (.slice gaY glY gcY)∧w'.cell? ⟨gX,oX+k1*8+5,none⟩=some (.slice raY rlY rcY)∧w'.cell? ⟨gX,oX+k1*8+6,none⟩=some (.slice kaY klY kcY)∧w'.cell? ⟨gX,oX+k1*8+7,none⟩=some (.slice aaY alY acY)∧K0 wr w') (first | exact HSS.o _ HKK | exact HSS.o _ ((aB.refl (fun _=>False) _).drew)) (first | (go_at_call 34;refine (HNY.o _ HKK).mono ?_;rintro e w3 ⟨rfl,hb3⟩;have HKK3:=HKK.trans (aQ hb3) k3;clear HKK;have HKK:=HKK3;clear hb3 HKK3) | (go_at_call 34;refine (HNX.o _ ((aB.refl (fun _=>False) wr).drew)).mono ?_;rintro e w2 ⟨rfl,hb2⟩;have HKK:=((aB.refl (fun _=>False) wr).drew).trans (aQ hb2) k3;clear hb2))
   all_goals go_wp2_with fail
   all_goals go_roundw
   all_goals first
    | exact⟨k2,_,⟨#[101,108,105,102,32]⟩,rfl,rfl,by first | rfl | go_num,HNUM.o.1,HNUM.o.2.1,by decide,Hd (by rw [←HST.o];simp [HRX.o,HRY.o]),Hd (HK.o.trans HKK k3)⟩
    | (have h9:=HNUM.o;simp [intOf];omega)
  ·have p1:¬(k1:Int)<(kl:Int):=by omega
   by_cases hkk:k=kl
   ·have m0:((kl:Int)%2==1)=false:=by
     rw [beq_eq_false_iff_ne];omega
    have HE:=Hd (show S.data.toList=T by
     have h9:=HS.o;rw [List.drop_eq_nil_of_le (by rw [HLO.o,←HKL.o];omega),show chR Wd.data.toList []=[] from rfl,List.append_nil] at h9;exact h9)
    have z1:¬(9223372036854775807<S.size+2):=by omega
    clear hkk hk1;go_wp2_with fail;go_ret;have e9:S++⟨#[102,105]⟩=U:=by rw [HU.o];exact pS (by rw [←HE.o];simp)
    exact⟨by rw [←e9];rfl,kb0 HKr.o⟩
   ·have hke:k1=kl:=by omega
    have m0:((kl:Int)%2==1)=true:=by
     rw [beq_iff_eq];omega
    have wk:IntKind.i64.wrap ((kl:Int) - 1)=(k:Int):=by rw [IntWalk.i64_in _ (by omega)];omega
    have hi0:k<xs.length:=by rw [←HKL.o];omega
    have ho0:k<outs.length:=by rw [HLO.o];exact hi0
    have p0:(k:Int)<(kl:Int):=by omega
    obtain⟨gX,oX,waX,wlX,wcX,gaX,glX,gcX,raX,rlX,rcX,kaX,klX,kcX,aaX,alX,acX,eX,hgX,⟨q0X,q1X,q2X,q3X,q4X,q5X,q6X,q7X⟩,hxX⟩:=iO (xs:=xs) (aE HKS.o HKr.o) hi0;have HNX0:=Hd (fun W' (hW:K0 wr W')=>HAT.o k hi0 ho0 W' D _ _ _ _ _ _ _ _ _ _ _ _ _ _ _ (bN HM.o (HKr.o.trans hW k3) hm0) (hxX.keep0 hW));obtain⟨yX,hyX⟩:∃x,x=xs[k]:=⟨_,rfl⟩;obtain⟨RX,hRX⟩:∃R:ByteArray,R=⟨outs[k].toArray⟩:=⟨_,rfl⟩
    rw [←hyX,←hRX] at HNX0;rw [←hyX] at q0X q1X q2X;obtain⟨kX,hkX⟩:∃l,l=yX.kind:=⟨_,rfl⟩;obtain⟨tX,htX⟩:∃l,l=yX.nt:=⟨_,rfl⟩;obtain⟨nX,hnX⟩:∃l:ByteArray,l=⟨yX.nm.toArray⟩:=⟨_,rfl⟩;rw [←hkX,←htX,←hnX] at HNX0;rw [←hkX] at q0X;rw [←htX] at q1X;rw [←hnX] at q2X;have HNX:=HNX0;have hRlX:RX.data.toList=outs[k]:=by rw [hRX,fD]
    have HRX:=Hd hRlX;have hRzX:RX.size=outs[k].length:=by rw [Lib.size_eq,hRlX]
    clear hxX hyX hRX hkX htX hnX HNX0 hRlX;have HST:=Hd (show S.data.toList++([101,108,115,101,32]++(outs[k]++[59,32]))=T by
     rw [←HS.o,List.drop_eq_getElem_cons ho0,List.drop_eq_nil_of_le (by rw [HLO.o,←HKL.o];omega)];rfl)
    have hsum:S.size+(5+RX.size+2)≤60000:=by
     have h9:=congrArg List.length HST.o;simp only [lA,lC,lN] at h9;rw [Lib.size_eq,hRzX];omega
    have z1:¬(9223372036854775807<5+RX.size):=by omega
    have z2:¬(9223372036854775807<5+RX.size+2):=by omega
    have z3:¬(9223372036854775807<S.size+(5+RX.size+2)):=by omega
    have z4:¬(9223372036854775807<S.size+(5+RX.size+2)+2):=by omega
    rw [eX] at x6;clear hkk hk1 hke hRzX eX;go_wp2_with fail;refine (HNX.o _ (aB.refl _ _)).mono ?_;rintro e w2 ⟨rfl,hb2⟩;have HB2:=Hd (HKr.o.trans (aQ hb2) k3);clear hb2;go_wp2_with fail;go_ret;have e9:S++(⟨#[101,108,115,101,32]⟩++RX++⟨#[59,32]⟩)++⟨#[102,105]⟩=U:=by rw [HU.o];exact pS (by rw [←HST.o];simp [HRX.o])
    exact⟨by rw [←e9];rfl,kb0 HB2.o⟩
theorem iG (c:UInt8) (sep:Bs):∀l:List Bs,l.length≤(Lib.join l (c::sep)).length+1
 | []=>Nat.zero_le _
 | x::l=>by
  have key:∀l:List Bs,l.length≤(pI (c::sep) l).length:=fun l=>by
   induction l with
   | nil=>exact Nat.zero_le _
   | cons y l ih=>rw [fS];simp only [lA,lC];omega
  rw [eW,lA,lC];have:=key l;omega
theorem Ik {w:World} {B T s n:Nat} {v:Value} {xs:List Value} (h:w.ownsRow B T s v n xs):∃a c,v=.slice a n c:=by
 rcases h.2 with ⟨h,h0⟩ | ⟨g,cap,cur,h,_⟩
 ·exact⟨none,0,by rw [h,h0]⟩
 ·exact⟨_,_,h⟩
theorem Ld (w:World) (B n:Nat) (v:Value) (outs:List ByteArray) (sep R:ByteArray) (ho:w.ownsRow B 9 1 v n (outs.map .string)) (hn:n=outs.length) (hL:n≤100000) (hR:(Lib.join (outs.map (·.data.toList)) sep.data.toList)=R.data.toList) (hlen:R.size≤100000) :
 Calls Tryz.prog 35 #[v,.string sep] w (aO w R):=by
 subst hn;cases outs with
 | nil=>
  have hR0:R=⟨#[]⟩:=by
   have:R.data.toList=[]:=by rw [←hR];rfl
   rw [show R=⟨R.data.toList.toArray⟩ from rfl,this]
  have hv:∃a c,v=.slice a 0 c:=by
   rcases ho.2 with ⟨h,_⟩ | ⟨g,cap,cur,h,_⟩
   ·exact⟨_,_,h⟩
   ·exact⟨_,_,h⟩
  obtain⟨a,c,rfl⟩:=hv;refine (Tryz.strings_Join_none a c sep w).mono ?_;rintro e w' ⟨rfl,rfl⟩;exact⟨by rw [hR0],Below.refl _ _⟩
 | cons x t=>
  obtain⟨g,cap,cur,rfl,hbg,hg,hcap,hcm,hcs,htake⟩:=ho.2.resolve_left (fun h=>by simp at h);have hcells:∀(j:Nat) y,(x::t)[j]? = some y→w.cell? ⟨g,0+j,none⟩=some (.string y):=fun j y hj=>by
   have h9:=ho.cells (g:=g) rfl j (.string y) (by rw [List.getElem?_map,hj];rfl);have e9:(⟨g,0,none⟩:Addr).add j=⟨g,0+j,none⟩:=by
    cases j with
    | zero=>rfl
    | succ j=>simp [Addr.add]
   rw [e9] at h9;exact h9
  have hJ:=Tryz.strings_Join g 0 cap (x::t) sep w hcells (Array.getElem?_eq_some_iff.1 hg).1 (by omega) hcap (by rw [hR,←Lib.size_eq];omega);rw [hR,show (⟨R.data.toList.toArray⟩:ByteArray)=R from rfl] at hJ;exact hJ
theorem Da:Tryz.prog.cellsOf 49=2:=by kernel_rfl
theorem Qj {ar:List zW} {i:Nat} (h:i<(ar.map arQ).length) (h2:i<ar.length):(ar.map arQ)[i]=arQ ar[i]:=List.getElem_map ..
theorem Ep (m:Int) (w:World) (D:Nat→Prop) (v:List Pt) (ar:List zW) (kx:Int) (tx:Bool) (nx:ByteArray) (wa:OA) (wl wc:Nat) (ga:OA) (gl gc:Nat) (ra:OA) (rl rcp:Nat) (ka:OA) (kl kc:Nat) (aa:OA) (al ac:Nat) (haw:Rd w D (.sl 1 (([v].map aY).flatMap wdD)) (.slice wa wl wc)) (har:Rd w D (.sl 2 ((ar.map arQ).flatMap arD)) (.slice aa al ac)) (hv:iZ v) (hall:∀a∈ar,iY (fun x S=>mM m x ⟨S.toArray⟩) a.ks a.os∧∀p∈a.ps,iZ p) (hm:w.cell? ⟨0,0,none⟩=some (.int .i64 m)) (hlen:(oG v ar).length≤60000) :
 Calls Tryz.prog 101 #[.agg #[.int .i64 kx,.bool tx,.string nx,.slice wa wl wc,.slice ga gl gc,.slice ra rl rcp,.slice ka kl kc,.slice aa al ac]] w (aO w ⟨(oG v ar).toArray⟩):=by
 obtain⟨i0,hi,hz0,hz1,hz2⟩:=info_parts tI;have hc2:=Da;have hLb:=cR (by decide) har;have HL:=Hd (show al=ar.length by have h:=(cK (k:=2) (fun _=>rfl) (by decide) har).1;rw [h,List.length_map]);have hm0:=dI hm;have HAR:=Hd har;have HALL:=Hd hall;have HM:=Hd hm;have hwl:(fC [v]).length≤60000:=by unfold oG at hlen;simp only [lA] at hlen;omega
 have HCW:=Hd (fun W (hW:K0 w W)=>pX m W D [v] wa wl wc (aE haw hW) (fun p hp=>by rw [List.mem_singleton.1 hp];exact hv) (bN hm hW hm0) (by omega));obtain⟨V,hV⟩:∃V:ByteArray,V=⟨(fC [v]).toArray⟩:=⟨_,rfl⟩;have hVl:V.data.toList=fC [v]:=by rw [hV,fD]
 have hVs:V.size≤60000:=by rw [Lib.size_eq,hVl];exact hwl
 rw [←hV] at HCW;obtain⟨T,hT⟩:∃T,T=[99,97,115,101]++fC [v]++[32,105,110,32]++ar.flatMap sE:=⟨_,rfl⟩;have hTl:T.length+4≤60000:=by
  have h9:=hlen;unfold oG at h9;rw [←hT,lA] at h9;exact h9
 obtain⟨U,hU⟩:∃U:ByteArray,U=⟨(oG v ar).toArray⟩:=⟨_,rfl⟩;rw [←hU];have HU:=Hd (show U=⟨(T++[101,115,97,99]).toArray⟩ by rw [hU,hT];rfl);have HT:=Hd hT;have HV:=Hd hVl;have y0:¬(9223372036854775807<4+V.size):=by omega
 have y1:¬(9223372036854775807<4+V.size+4):=by omega
 clear haw har hv hall hm hlen hwl hV hVl hT hU;obtain⟨W,hW⟩:∃W,W=w.alloc (.cells #[.int .i64 kx,.bool tx,.string nx,.slice wa wl wc,.slice ga gl gc,.slice ra rl rcp,.slice ka kl kc,.slice aa al ac] 44):=⟨_,rfl⟩;have HKW:=Hd (show K0 w W by rw [hW];exact (aB.refl _ _).alloc _);have HBW:=Hd (show Below w.heap.size w W by rw [hW];exact (Below.refl _ _).alloc (Nat.le_refl _) _);have HRC:=Hd (show aH W w.heap.size [.int .i64 kx,.bool tx,.string nx,.slice wa wl wc,.slice ga gl gc,.slice ra rl rcp,.slice ka kl kc,.slice aa al ac] by rw [hW];exact aK w _ _ _ _ _ _ _ _ _)
 have HWE:=Hd hW;clear hW;go_enter Tryz.func101,Tryz.ntmps101;go_upto_region 1 with fail;rw [←HWE.o];obtain⟨⟨x0,x1,x2,x3,x4,x5,x6,x7⟩,_⟩:=HRC.o.eight;have lx:=HRC.o.lt;go_wp2_with fail;refine (HCW.o W HKW.o).mono ?_;rintro e w1 ⟨rfl,hb1⟩;have HK1:=Hd (HKW.o.trans (aQ hb1) k3);have HRC1:=Hd (HRC.o.keep (S:=fun _=>False) (aQ hb1) (fun h=>h));clear hb1 x0 x1 x2 x3 x4 x5 x6 x7 lx
 obtain⟨⟨x0,x1,x2,x3,x4,x5,x6,x7⟩,_⟩:=HRC1.o.eight;have lx:=HRC1.o.lt;go_wp2_with fail;go_loopw [3,17] (fun sv k' wr=>∃(j:Nat) (S:ByteArray),sv=.string S∧k'=.int .i64 j∧j≤al∧Hid (S.data.toList++(ar.drop j).flatMap sE=T)∧Hid (K0 w1 wr)) (fun _ k' _=>al - (intOf k').toNat)
 case atStart=>exact⟨0,_,rfl,rfl,Nat.zero_le _,Hd (by rw [List.drop_zero,HT.o];simp [HV.o]),Hd (aB.refl _ _)⟩
 case round=>
  obtain⟨j,S,rfl,rfl,hj,HS,HK⟩:=hrel;clear x0 x1 x2 x3 x4 x5 x6 x7 lx;have HKr:=Hd (HK1.o.trans HK.o k3);have hSs:S.size+4≤60000:=by
   have h9:=congrArg List.length HS.o;rw [lA,←Lib.size_eq] at h9;omega
  by_cases hlt:j<al
  ·have hl2:j<ar.length:=by rw [←HL.o];exact hlt
   have hl3:j<(ar.map arQ).length:=by rw [List.length_map];exact hl2
   obtain⟨g,o,pa,pn,pc,ba,bn,bc,rfl,hg,q0,q1,hp,hb⟩:=vK (aE HAR.o HKr.o) hl3;rw [Qj hl3 hl2] at hp hb;have hA:=HALL.o _ (List.getElem_mem hl2);have hstep:ar.drop j=ar[j]::ar.drop (j+1):=List.drop_eq_getElem_cons hl2;obtain⟨A,hAe⟩:∃A,A=ar[j]:=⟨_,rfl⟩;rw [←hAe] at hp hb hA hstep;have HST:=Hd (show S.data.toList++(sE A++(ar.drop (j+1)).flatMap sE)=T by rw [←HS.o,hstep,List.flatMap_cons])
   have hal:S.size+(sE A).length+4≤60000:=by
    have h9:=congrArg List.length HST.o;rw [lA,lA,←Lib.size_eq] at h9;omega
   have hal2:(sE A).length=2+(Lib.join (A.ps.map bF) [32,124,32]).length+3+(Lib.join A.os [59,32]).length+4:=by
    unfold sE;simp only [lA,lC,lN]
   have hpc:=iG 32 [124,32] (A.ps.map bF);have hoc:=iG 59 [32] A.os;rw [List.length_map] at hpc;obtain⟨J,hJ⟩:∃J:ByteArray,J=⟨(Lib.join (A.ps.map bF) [32,124,32]).toArray⟩:=⟨_,rfl⟩;obtain⟨K,hK⟩:∃J:ByteArray,J=⟨(Lib.join A.os [59,32]).toArray⟩:=⟨_,rfl⟩;have hJl:J.data.toList=Lib.join (A.ps.map bF) [32,124,32]:=by rw [hJ,fD]
   have hKl:K.data.toList=Lib.join A.os [59,32]:=by rw [hK,fD]
   have hJs:J.size=(Lib.join (A.ps.map bF) [32,124,32]).length:=by rw [Lib.size_eq,hJl]
   have hKs:K.size=(Lib.join A.os [59,32]).length:=by rw [Lib.size_eq,hKl]
   have hJb:J.size≤60000:=by omega
   have hsum:S.size+(2+J.size+3+K.size+4)+4≤60000:=by omega
   have z1:¬(9223372036854775807<2+J.size):=by omega
   have z2:¬(9223372036854775807<2+J.size+3):=by omega
   have z3:¬(9223372036854775807<2+J.size+3+K.size):=by omega
   have z4:¬(9223372036854775807<2+J.size+3+K.size+4):=by omega
   have z5:¬(9223372036854775807<S.size+(2+J.size+3+K.size+4)):=by omega
   have hpn:pn=A.ps.length:=by
    have h:=(cK (k:=1) (fun _=>rfl) (by decide) hp).1;rw [h];show (A.ps.map aY).length=_;rw [List.length_map]
   have HPN:=Hd hpn;have hpnb:pn≤60000:=by omega
   obtain⟨W1,hW1⟩:∃W1,W1=wr.alloc (.cells #[.slice pa pn pc,.slice ba bn bc] 49):=⟨_,rfl⟩;have hkW1:K0 wr W1:=by rw [hW1];exact (aB.refl _ _).alloc _
   obtain⟨R1,hR1⟩:∃R1,R1=wr.heap.size:=⟨_,rfl⟩;obtain⟨B,hB⟩:∃B,B=W1.heap.size:=⟨_,rfl⟩;have hRb:R1<B:=by rw [hR1,hB,hW1];simp
   have hrc1:W1.heap[R1]? = some (.cells #[.slice pa pn pc,.slice ba bn bc] 49 (0,0)):=by rw [hW1,hR1];exact heap_alloc_new _ _
   have HP:=Hd (aE hp hkW1);have HCB:=Hd (show ∀W',K0 W1 W'→Calls Tryz.prog 21 #[.slice ba bn bc,.string ⟨#[59,32]⟩] W' (aO W' K) from fun W' hW'=>by
    have h9:=l5 m W' D A.ks A.os hA.1 ⟨#[59,32]⟩ ba bn bc (aE (aE hb hkW1) hW') (bN HM.o (HKr.o.trans (hkW1.trans hW' k3) k3) hm0) (by omega) (by rw [show (⟨#[59,32]⟩:ByteArray).data.toList=[59,32] from rfl];omega);rw [show (⟨#[59,32]⟩:ByteArray).data.toList=[59,32] from rfl,←hK] at h9;exact h9)
   have HCP:=Hd (show ∀W' (k:Nat) (hk:k<A.ps.length) (xa:OA) (xl xc:Nat),K0 W1 W'→Rd W' D (.sl 6 (aY A.ps[k])) (.slice xa xl xc)→Calls Tryz.prog 13 #[.slice xa xl xc] W' fun e w'=>e=.returned (.string ⟨(bF A.ps[k]).toArray⟩)∧Below W'.heap.size W' w' from fun W' k hk xa xl xc hW' hr=>sD m W' D _ xa xl xc hr (hA.2 _ (List.getElem_mem hk)).ok2 (bN HM.o (HKr.o.trans (hkW1.trans hW' k3) k3) hm0))
   have HKB:=Hd (show ∀w4,Below B W1 w4→K0 w1 w4 from fun w4 h4=>(HK.o.trans hkW1 k3).trans (show aB (fun x=>B≤x) W1 w4 from gL h4) (fun x hx h9=>by
    have h8:=HK.o.size;have h7:=hkW1.size;rw [hB] at h9;omega))
   have HK0:=Hd (show ∀w4,Below B W1 w4→K0 W1 w4 from fun w4 h4=>(aB.refl _ W1).trans (show aB (fun x=>B≤x) W1 w4 from gL h4) (fun x hx h9=>by rw [hB] at h9;omega));have HA1:=Hd hrc1;have HW1E:=Hd hW1;have HR1E:=Hd hR1;have HBE:=Hd hB;have HJ:=Hd hJl;have HKL:=Hd hKl;have HLEN:=Hd (show B=W1.heap.size from hB);have hBs:B≤W1.heap.size:=by omega
   have p1:(j:Int)<(al:Int):=by omega
   clear hp hb hA hstep hAe hal hal2 hpc hoc hJ hK hJl hKl hJs hKs hsum hpn hl3 hkW1 hrc1 hW1 hR1 hB;go_upto_region 5 with fail;rw [←HW1E.o,←HR1E.o];obtain⟨c0,c1⟩:=sP HA1.o;go_wp2_with fail;go_loopw [6,24] (fun sl k' wr=>∃k:Nat,k'=.int .i64 k∧k≤pn∧Hid (wr.ownsRow B 9 1 sl k (((A.ps.map fun p=>(⟨(bF p).toArray⟩:ByteArray)).take k).map .string))∧Hid (Below B W1 wr)) (fun _ k' _=>pn - (intOf k').toNat)
   case atStart=>exact⟨0,rfl,Nat.zero_le _,Hd (World.ownsRow_nil _ _ _ _),Hd (Below.refl _ _)⟩
   case round=>
    obtain⟨k,rfl,hk,HO,HB⟩:=hrel;clear c0 c1;by_cases hlt2:k<pn
    ·have hl4:k<A.ps.length:=by rw [←HPN.o];exact hlt2
     have hl5:k<(A.ps.map aY).length:=by rw [List.length_map];exact hl4
     obtain⟨g2,o2,xa,xl,xc,rfl,hg2,r0,hp2⟩:=oP (ws:=A.ps.map aY) (aE HP.o (HK0.o _ HB.o)) hl5;rw [List.getElem_map] at hp2;have HC:=Hd (HCP.o wr k hl4 xa xl xc (HK0.o _ HB.o) hp2);obtain⟨R,hR⟩:∃R:ByteArray,R=⟨(bF A.ps[k]).toArray⟩:=⟨_,rfl⟩;rw [←hR] at HC;have HSN:=Hd (show ((A.ps.map fun p=>(⟨(bF p).toArray⟩:ByteArray)).take (k+1)).map Value.string=((A.ps.map fun p=>(⟨(bF p).toArray⟩:ByteArray)).take k).map Value.string++[.string R] by
      rw [List.take_succ_eq_append_getElem (by rw [List.length_map];exact hl4),List.map_append,List.getElem_map,hR];rfl)
     have pk:(k:Int)<(pn:Int):=by omega
     clear hp2 hR hl5;go_wp2_with fail;refine HC.o.mono ?_;rintro e w2 ⟨rfl,hb2⟩;have hown2:=rA HO.o (aQ hb2);have hb3:=HB.o.trans (hb2.mono (by have:=HB.o.size;omega));have HB2:=Hd hb3;have hs2:=hb3.size;clear hb2 hb3;go_wp2_with (at_builtin;refine wpList_append_own _ rfl _ _ 47 rfl B 9 i0 (.string ⟨#[]⟩) 1 16 Tryz.underlying47 hi hz0 hz1 hz2 rfl (by decide) _ _ _ rfl (hown2.alloc _) ⟨w2.heap.size,0,none⟩ 1 1 [.string R] rfl rfl ?c1 ?c2 ?c3 ?c4 ?c5 ?_)
     case c1=>
      intro j u hj
      match j,hj with
      | 0,hj=>simp at hj;subst hj;simp [Addr.add]
     case c2=>intro u hu;simp at hu;subst hu;rfl
     case c3=>unfold maxLen;omega
     case c4=>omega
     case c5=>simp;omega
     intro v' w3 hown' hgrow _;have HB3:=Hd ((HB2.o.alloc (by omega) _).grown hgrow (by simp;omega) (fun k hk=>by have:=(hown2.lt k hk).1;omega));have HO3:=Hd hown';clear hown' hgrow hown2;go_wp2_with fail;go_roundw
     case rel=>exact⟨k+1,by go_num,by omega,Hd (by rw [HSN.o,List.map_take,List.map_map];exact HO3.o),HB3⟩
     case measure=>simp [intOf];omega
    ·obtain rfl:k=pn:=by omega
     have pk:¬(k:Int)<(k:Int):=by omega
     have HOW:=Hd (show wr.ownsRow B 9 1 _ k ((A.ps.map fun p=>(⟨(bF p).toArray⟩:ByteArray)).map .string) by
      have h9:=HO.o;rw [List.take_of_length_le (by rw [List.length_map,HPN.o];exact Nat.le_refl _)] at h9;exact h9)
     have HKW1:=Hd (HK0.o _ HB.o);have HKr2:=Hd (HKB.o _ HB.o);obtain⟨sa,sc,rfl⟩:=Ik HOW.o;have HCJ:=Hd (show ∀W',K0 wr W'→Calls Tryz.prog 35 #[.slice sa k sc,.string ⟨#[32,124,32]⟩] W' (aO W' J) from fun W' hW'=>Ld W' B k _ _ ⟨#[32,124,32]⟩ J (rA HOW.o hW') (by rw [List.length_map];exact HPN.o) (by omega) (by
      rw [HJ.o,List.map_map];rfl) (by omega))
     have HSS:=Hd (show ∀w',K0 wr w'→w'.cell? ⟨R1,1,none⟩=some (.slice ba bn bc)∧K0 wr w' from fun w' hk=>⟨(sP (rS HA1.o (HKW1.o.trans hk k3))).2,hk⟩);go_wp2_with fail;go_region_held3 (fun w'=>w'.cell? ⟨R1,1,none⟩=some (.slice ba bn bc)∧K0 wr w') (first | exact HSS.o _ HKK | exact HSS.o _ ((aB.refl (fun _=>False) _).drew)) (first | (go_at_call 21;refine (HCB.o _ (HKW1.o.trans HKK k3)).mono ?_;rintro e w3 ⟨rfl,hb3⟩;have HKK3:=HKK.trans (aQ hb3) k3;clear HKK;have HKK:=HKK3;clear hb3 HKK3) | (go_at_call 35;refine (HCJ.o _ ((aB.refl (fun _=>False) wr).drew)).mono ?_;rintro e w2 ⟨rfl,hb2⟩;have HKK:=((aB.refl (fun _=>False) wr).drew).trans (aQ hb2) k3;clear hb2))
     all_goals go_wp2_with fail
     all_goals go_roundw
     all_goals first
      | exact⟨j+1,_,rfl,by go_num,by omega,Hd (by rw [←HST.o];simp [sE,HJ.o,HKL.o]),Hd (HKr2.o.trans HKK k3)⟩
      | (simp [intOf];omega)
  ·obtain rfl:j=al:=by omega
   have p1:¬(j:Int)<(j:Int):=by omega
   have HE:=Hd (show S.data.toList=T by
    have h9:=HS.o;rw [List.drop_eq_nil_of_le (by rw [←HL.o];exact Nat.le_refl _),List.flatMap_nil,List.append_nil] at h9;exact h9)
   have z1:¬(9223372036854775807<S.size+4):=by omega
   go_wp2_with fail;go_ret;have e9:S++⟨#[101,115,97,99]⟩=U:=by rw [HU.o];exact pS (by rw [←HE.o];simp)
   exact⟨by rw [←e9];rfl,kb0 HKr.o⟩
end Go.Proofs.YtiihpbccabeoeaaGreatDoor
