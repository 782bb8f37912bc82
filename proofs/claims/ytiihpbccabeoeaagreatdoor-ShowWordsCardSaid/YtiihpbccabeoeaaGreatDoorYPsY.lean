/- The walk: a part. -/
import Derived.Test.YtiihpbccabeoeaaGreatDoorYPsX
import Derived.Test.YtiihpbccabeoeaaGreatDoorYPsA
namespace Go.Proofs.YtiihpbccabeoeaaGreatDoor
open Go.RowKit
set_option linter.unusedVariables false
set_option maxRecDepth 100000
set_option maxHeartbeats 16000000
def partS (x:Px):List UInt8:=if x.kind=1 then x.text else quoteS x.text
def outS (xs:List Px):List UInt8:=xs.flatMap partS
def TxtOK (x:Px):Prop:=(x.kind=1∧∀c∈x.text,c≠36)∨(x.kind=2∧QuoteOK x.text)
theorem outS_snoc {xs:List Px} {k:Nat} (h:k<xs.length):outS (xs.take (k+1))=outS (xs.take k)++partS xs[k]:=by
 unfold outS;rw [List.take_succ_eq_append_getElem h,List.flatMap_append];simp
theorem outS_le (xs:List Px) (k:Nat):(outS (xs.take k)).length≤(outS xs).length:=by
 have h:outS xs=outS (xs.take k)++outS (xs.drop k):=by
  unfold outS;rw [←List.flatMap_append,List.take_append_drop]
 rw [h,List.length_append];omega
theorem parts0 (B b:Nat) (l:List UInt8) (m:Int) (w:World) (D:Nat→Prop) (xs:List Px) (a:Option Addr) (L c:Nat) (h:Wr w B b l false) (ha:Rd w D (.sl 6 (xs.flatMap Px.row)) (.slice a L c)) (hD:∀g,D g→g<B) (hx:∀x∈xs,TxtOK x) (hm:w.cell? ⟨0,0,none⟩=some (.int .i64 m)) (hB0:0<B) (hlen:l.length+(outS xs).length≤100000) (hBw:B≤w.heap.size) :
 Calls Tryz.prog 27 #[.pointer (some ⟨b,0,none⟩),.slice a L c] w fun e w'=>e=.returned (.tuple #[])∧Wr w' B b (l++outS xs) false∧Below B w w':=by
 have hc6:=cells_part;have hLb:=rdBound (by decide) ha;have HL:=Hd (rdRecs (k:=6) (fun _=>rfl) (by decide) ha).1;have HA:=Hd ha;have HX:=Hd hx;have HW0:=Lib.hid h;have HM:=Hd hm;have HD:=Hd hD;clear ha hx h hm hD;go_enter Tryz.func27,Tryz.ntmps27;go_wp2_with fail;go_loopw [8] (fun k' wr=>∃k:Nat,k'=.int .i64 k∧k≤L∧Hid (Wr wr B b (l++outS (xs.take k)) false)∧Hid (Below B w wr)) (fun k' _=>L - (intOf k').toNat)
 case atStart=>exact⟨0,rfl,Nat.zero_le _,by simpa [outS] using HW0,Hd (Below.refl _ _)⟩
 case round=>
  clear HW0;obtain⟨k,rfl,hk,HW,HB⟩:=hrel;by_cases hlt:k<L
  ·have hl2:k<xs.length:=by rw [←HL.out];exact hlt
   obtain⟨g,o,xa,xl,xc,rfl,hg,⟨q0,q1,q2,q3,q4,q5⟩,hxw⟩:=partsAt (HA.out.keep (keeps_below HB.out) (fun b _ hb h=>absurd (HD.out b hb) (by omega))) hl2;have hok:=HX.out _ (List.getElem_mem hl2);have hsn:=outS_snoc hl2;have hle:=outS_le xs (k+1);obtain⟨x,hxe⟩:∃x,x=xs[k]:=⟨_,rfl⟩;rw [←hxe] at q0 q1 q2 q3 q5 hok hsn;have hla:(l++outS (xs.take k)).length+(partS x).length≤100000:=by
    rw [hsn,List.length_append] at hle;rw [List.length_append];omega
   have HSN:=Hd hsn;obtain⟨T,hT⟩:∃T:ByteArray,T=⟨x.text.toArray⟩:=⟨_,rfl⟩;have hTl:T.data.toList=x.text:=by rw [hT]
   have p1:(k:Int)<(L:Int):=by omega
   have HMW:=Hd (show wr.cell? ⟨0,0,none⟩=some (.int .i64 m) by rw [HB.out.cell (p:=⟨0,0,none⟩) hB0];exact HM.out);have hsz:=HB.out.size;rw [←hT] at q1;clear hxw hle hsn hl2 hxe;rcases hok with ⟨hk1,h36⟩ | ⟨hk1,hq⟩
   ·rw [hk1] at q0;have HP:=Hd (show partS x=x.text by unfold partS;rw [hk1];rfl);rw [HP.out] at hla;have HC:Hid (∀W,Wr W B b (l++outS (xs.take k)) false→W.cell? ⟨0,0,none⟩=some (.int .i64 m)→B≤W.heap.size→Calls Tryz.prog 48 #[.pointer (some ⟨b,0,none⟩),.string T] W (fun e w2=>e=.returned (.tuple #[])∧Wr w2 B b (l++outS (xs.take k)++partS x) false∧Below B W w2)):=Hd fun W hw hmw hbw=>by
     have h9:=plain0 B b (l++outS (xs.take k)) false T W hw (fun k hk=>byteAt_ne (T:=T) (by rw [hTl];exact h36) hk) (by rw [Lib.size_eq,hTl];omega) hbw;rw [hTl,←HP.out] at h9;exact h9
    clear hk1 h36 hTl hT;go_wp2_with fail;obtain⟨W,hW⟩:∃W,W=wr.alloc (.cells #[.int .i64 1,.string T,.string ⟨x.name.toArray⟩,.string ⟨x.op.toArray⟩,.slice xa xl xc,.bool x.quoted] 67):=⟨_,rfl⟩;rw [←hW];have hkW:Keeps (fun _=>False) wr W:=by rw [hW];exact (Keeps.refl _ _).alloc _
    have hbW:Below B wr W:=by rw [hW];exact (Below.refl B wr).alloc (by omega) _
    refine (HC.out W (HW.out.below hkW) (cellKeep HMW.out hkW (by omega)) (by have:=hkW.size;omega)).mono ?_;rintro e w2 ⟨rfl,hw2,hb2⟩;have HW2:=Hd hw2;have HB2:=Hd (HB.out.trans (hbW.trans hb2));clear hw2 hb2 hkW hbW hW;go_wp2_with fail;go_roundw
    case rel=>exact⟨k+1,by go_num,by omega,Hd (by rw [HSN.out,←List.append_assoc];exact HW2.out),HB2⟩
    case measure=>simp [intOf];omega
   ·rw [hk1] at q0;have HP:=Hd (show partS x=quoteS x.text by unfold partS;rw [hk1];rfl);rw [HP.out] at hla;have HC:Hid (∀W,Wr W B b (l++outS (xs.take k)) false→W.cell? ⟨0,0,none⟩=some (.int .i64 m)→B≤W.heap.size→Calls Tryz.prog 49 #[.pointer (some ⟨b,0,none⟩),.string T] W (fun e w2=>e=.returned (.tuple #[])∧Wr w2 B b (l++outS (xs.take k)++partS x) false∧Below B W w2)):=Hd fun W hw hmw hbw=>by
     have h9:=quote0 B b (l++outS (xs.take k)) x.text m W hw hq hmw (by omega) hbw;rw [←hT,←HP.out] at h9;exact h9
    clear hk1 hq hTl hT;go_wp2_with fail;obtain⟨W,hW⟩:∃W,W=wr.alloc (.cells #[.int .i64 2,.string T,.string ⟨x.name.toArray⟩,.string ⟨x.op.toArray⟩,.slice xa xl xc,.bool x.quoted] 67):=⟨_,rfl⟩;rw [←hW];have hkW:Keeps (fun _=>False) wr W:=by rw [hW];exact (Keeps.refl _ _).alloc _
    have hbW:Below B wr W:=by rw [hW];exact (Below.refl B wr).alloc (by omega) _
    refine (HC.out W (HW.out.below hkW) (cellKeep HMW.out hkW (by omega)) (by have:=hkW.size;omega)).mono ?_;rintro e w2 ⟨rfl,hw2,hb2⟩;have HW2:=Hd hw2;have HB2:=Hd (HB.out.trans (hbW.trans hb2));clear hw2 hb2 hkW hbW hW;go_wp2_with fail;go_roundw
    case rel=>exact⟨k+1,by go_num,by omega,Hd (by rw [HSN.out,←List.append_assoc];exact HW2.out),HB2⟩
    case measure=>simp [intOf];omega
  ·obtain rfl:k=L:=by omega
   have p1:¬(k:Int)<(k:Int):=by omega
   go_wp2_with fail;go_end0;refine⟨rfl,?_,HB.out⟩;have h9:=HW.out;rw [List.take_of_length_le (by rw [←HL.out];exact Nat.le_refl _)] at h9;exact h9
def WordOKS (xs:List Px):Prop:=(∀x∈xs,TxtOK x)∧outS xs≠[]∧(outS xs).length≤100000∧(∀x t,xs=x::t→x.kind=1→Lib.hasPrefix x.text [35]=false)
theorem word0 (m:Int) (w:World) (D:Nat→Prop) (xs:List Px) (a:Option Addr) (L c:Nat) (ha:Rd w D (.sl 6 (xs.flatMap Px.row)) (.slice a L c)) (hx:WordOKS xs) (hm:w.cell? ⟨0,0,none⟩=some (.int .i64 m)) (hB0:0<w.heap.size) :
 Calls Tryz.prog 13 #[.slice a L c] w fun e w'=>e=.returned (.string ⟨(outS xs).toArray⟩)∧Below w.heap.size w w':=by
 have hc6:=cells_part;have hLb:=rdBound (by decide) ha;have HL:=Hd (rdRecs (k:=6) (fun _=>rfl) (by decide) ha).1;have HA:=Hd ha;have HX:=Hd hx;have HM:=Hd hm;obtain⟨W,hW⟩:∃W,W=w.alloc (.cells #[.pointer none,.slice none 0 0,.bool false] 65):=⟨_,rfl⟩;have hWr:Wr W w.heap.size w.heap.size [] false:=by rw [hW];exact Wr.new w
 have hkW:Keeps (fun _=>False) w W:=by rw [hW];exact (Keeps.refl _ _).alloc _
 have hbW:Below w.heap.size w W:=by rw [hW];exact (Below.refl _ _).alloc (Nat.le_refl _) _
 have HPT:=Hd (fun V (hv:Keeps (fun _=>False) W V)=>parts0 w.heap.size w.heap.size [] m V (fun g=>D g∧g<w.heap.size) xs a L c (hWr.below hv) (((ha.mono (D':=fun g=>D g∧g<w.heap.size) (fun b hb hd=>⟨hd,hb⟩)).keep hkW (fun _ _ _ h=>h)).keep hv (fun _ _ _ h=>h)) (fun g hg=>hg.2) hx.1 (cellKeep hm (hkW.trans hv (fun _ _ h=>h)) hB0) hB0 (by simpa using hx.2.2.1) (Nat.le_trans hkW.size hv.size));have HBW:=Hd hbW
 have HWE:=Hd hW;obtain⟨S,hS⟩:∃S:ByteArray,S=⟨(outS xs).toArray⟩:=⟨_,rfl⟩;rw [←hS];have HS:=Hd hS;clear ha hx hm hWr hkW hbW hW hS;by_cases hL0:L=0
 ·subst hL0;exact absurd (by have h:=HL.out;rw [List.eq_nil_of_length_eq_zero h.symm];rfl) HX.out.2.1
 ·have hl2:0<xs.length:=by rw [←HL.out];omega
  obtain⟨g,o,xa,xl,xc,rfl,hg,⟨q0,q1,q2,q3,q4,q5⟩,hxw⟩:=partsAt (rdKeep0 HA.out (show Keeps (fun _=>False) w W by rw [HWE.out];exact (Keeps.refl _ _).alloc _)) hl2;obtain⟨x,t,hxt⟩:∃x t,xs=x::t:=by
   cases xs with
   | nil=>simp at hl2
   | cons x t=>exact⟨x,t,rfl⟩
  have hx0:xs[0]=x:=by subst hxt;rfl
  rw [hx0] at q0 q1;have hpf:=HX.out.2.2.2 x t hxt;simp only [Nat.zero_mul,Nat.add_zero] at q0 q1;obtain⟨T,hT⟩:∃T:ByteArray,T=⟨x.text.toArray⟩:=⟨_,rfl⟩;rw [←hT] at q1;have hok:=HX.out.1 x (by rw [hxt];exact List.mem_cons_self ..);have p1:(0:Int)<(L:Int):=by omega
  have p2:0<L:=by omega
  clear hxw hx0 hxt hl2 q2 q3 q4 q5;rcases hok with ⟨hk1,_⟩ | ⟨hk1,_⟩
  ·have hp9:=hpf hk1;have HPF:=Hd (show ∀w,Calls Tryz.prog 25 #[.string T,.string ⟨#[35]⟩] w (fun e w'=>e=.returned (.bool false)∧w'=w) from fun w=>(Tryz.strings_HasPrefix T ⟨#[35]⟩ w).mono fun e w' h=>by rw [show T.data.toList=x.text by rw [hT],show (⟨#[35]⟩:ByteArray).data.toList=[35] from rfl,hp9] at h;exact h);rw [hk1] at q0;clear hk1 hp9 hpf hT;go_enter Tryz.func13,Tryz.ntmps13;go_upto_region 2 with fail
   rw [←HWE.out];go_wp2_with fail;refine (HPF.out _).mono ?_;rintro e w1 ⟨rfl,rfl⟩;go_wp2_with fail;refine (HPT.out _ (Keeps.refl _ _)).mono ?_;rintro e w2 ⟨rfl,hw2,hb2⟩;have HW2:=Hd hw2;have HB2:=Hd (HBW.out.trans hb2);clear hw2 hb2;go_wp2_with fail;refine (string_w w.heap.size w.heap.size (outS xs) false _ (by simpa using HW2.out) HX.out.2.1).mono ?_;rintro e w3 ⟨rfl,hb3⟩;rw [←HS.out];have HB3:=Hd (HB2.out.trans hb3)
   clear hb3;go_wp2_with fail;go_ret;exact⟨rfl,HB3.out⟩
  ·rw [hk1] at q0;clear hk1 hpf hT;go_enter Tryz.func13,Tryz.ntmps13;go_upto_region 2 with fail;rw [←HWE.out];go_wp2_with fail;refine (HPT.out _ (Keeps.refl _ _)).mono ?_;rintro e w2 ⟨rfl,hw2,hb2⟩;have HW2:=Hd hw2;have HB2:=Hd (HBW.out.trans hb2);clear hw2 hb2;go_wp2_with fail;refine (string_w w.heap.size w.heap.size (outS xs) false _ (by simpa using HW2.out) HX.out.2.1).mono ?_;rintro e w3 ⟨rfl,hb3⟩
   rw [←HS.out];have HB3:=Hd (HB2.out.trans hb3);clear hb3;go_wp2_with fail;go_ret;exact⟨rfl,HB3.out⟩
def wordsS (vs:List (List Px)):List UInt8:=vs.flatMap fun v=>32::outS v
def rowsP (vs:List (List Px)):List (List Dt):=vs.map fun v=>v.flatMap Px.row
theorem wordsS_snoc {vs:List (List Px)} {k:Nat} (h:k<vs.length):wordsS (vs.take (k+1))=wordsS (vs.take k)++(32::outS vs[k]):=by
 unfold wordsS;rw [List.take_succ_eq_append_getElem h,List.flatMap_append];simp
theorem wordsS_le (vs:List (List Px)) (k:Nat):(wordsS (vs.take k)).length≤(wordsS vs).length:=by
 have h:wordsS vs=wordsS (vs.take k)++wordsS (vs.drop k):=by
  unfold wordsS;rw [←List.flatMap_append,List.take_append_drop]
 rw [h,List.length_append];omega
theorem keep0_below {a b:World} (h:Below a.heap.size a b):Keeps (fun _=>False) a b:=Keeps.of_below h _
theorem words0 (m:Int) (w:World) (D:Nat→Prop) (vs:List (List Px)) (a:Option Addr) (L c:Nat) (ha:Rd w D (.sl 1 ((rowsP vs).flatMap wdD)) (.slice a L c)) (hx:∀v∈vs,WordOKS v) (hm:w.cell? ⟨0,0,none⟩=some (.int .i64 m)) (hlen:(wordsS vs).length≤100000) :
 Calls Tryz.prog 97 #[.slice a L c] w fun e w'=>e=.returned (.string ⟨(wordsS vs).toArray⟩)∧Below w.heap.size w w':=by
 have hLb:=rdBound (by decide) ha;have HL:=Hd (show L=vs.length by have h:=(rdRecs (k:=1) (fun _=>rfl) (by decide) ha).1;rw [h];simp [rowsP]);have HA:=Hd ha;have HX:=Hd hx;have HM:=Hd hm;have hm0:=cellLt hm;clear ha hx hm;go_enter Tryz.func97,Tryz.ntmps97;go_wp2_with fail;go_loopw [3,8] (fun sv k' wr=>∃(k:Nat) (S:ByteArray),sv=.string S∧k'=.int .i64 k∧k≤L∧Hid (S.data.toList=wordsS (vs.take k))∧Hid (Below w.heap.size w wr)) (fun _ k' _=>L - (intOf k').toNat)
 case atStart=>exact⟨0,⟨#[]⟩,rfl,rfl,Nat.zero_le _,Hd rfl,Hd (Below.refl _ _)⟩
 case round=>
  obtain⟨k,S,rfl,rfl,hk,HS,HB⟩:=hrel;have hSs:S.size≤100000:=by rw [Lib.size_eq,HS.out];exact Nat.le_trans (wordsS_le vs k) hlen
  by_cases hlt:k<L
  ·have hl2:k<vs.length:=by rw [←HL.out];exact hlt
   have hl3:k<(rowsP vs).length:=by unfold rowsP;rw [List.length_map];exact hl2
   obtain⟨g,o,xa,xl,xc,rfl,hg,q0,hp⟩:=wordsAt (rdKeep0 HA.out (keep0_below HB.out)) hl3;rw [show (rowsP vs)[k]=vs[k].flatMap Px.row by simp [rowsP]] at hp;have hsn:=wordsS_snoc hl2;have hle:=wordsS_le vs (k+1);rw [hsn,List.length_append,List.length_cons] at hle;obtain⟨R,hR⟩:∃R:ByteArray,R=⟨(outS vs[k]).toArray⟩:=⟨_,rfl⟩;have hRl:R.data.toList=outS vs[k]:=by rw [hR]
   have hRs:R.size≤100000:=by rw [Lib.size_eq,hRl];omega
   have hsum:S.size+(1+R.size)≤100000:=by rw [Lib.size_eq,Lib.size_eq,HS.out,hRl];omega
   have hC:=word0 m wr D vs[k] xa xl xc hp (HX.out _ (List.getElem_mem hl2)) (cellKeep HM.out (keep0_below HB.out) hm0) (Nat.lt_of_lt_of_le hm0 HB.out.size);rw [←hR] at hC;have HC:=Hd hC;have HSN:=Hd hsn;have HR:=Hd hRl;have p1:(k:Int)<(L:Int):=by omega
   clear hp hC hsn hle hR hRl hl3;go_wp2_with fail;refine HC.out.mono ?_;rintro e w2 ⟨rfl,hb2⟩;have HB2:=Hd (HB.out.trans (hb2.mono HB.out.size));clear hb2;go_wp2_with fail;go_roundw
   case rel=>exact⟨k+1,_,rfl,by go_num,by omega,Hd (by rw [HSN.out];simp [HS.out,HR.out]),HB2⟩
   case measure=>simp [intOf];omega
  ·obtain rfl:k=L:=by omega
   have p1:¬(k:Int)<(k:Int):=by omega
   have HSE:=Hd (show S=⟨(wordsS vs).toArray⟩ by
    have h9:=HS.out;rw [List.take_of_length_le (by rw [←HL.out];exact Nat.le_refl _)] at h9;rw [←h9])
   go_wp2_with fail;go_ret;exact⟨by rw [←HSE.out];rfl,HB.out⟩
theorem redirs0 (w:World) (a:Option Addr) (c:Nat) :
 Calls Tryz.prog 67 #[.slice a 0 c] w fun e w'=>e=.returned (.string ⟨#[]⟩)∧w'=w:=by
 go_enter Tryz.func67,Tryz.ntmps67;go_wp2_with fail;go_loopw [3,8] (fun sv k' wr=>sv=.string ⟨#[]⟩∧k'=.int .i64 0∧wr=w) (fun _ _ _=>0)
 case atStart=>exact⟨rfl,rfl,rfl⟩
 case round=>
  obtain⟨rfl,rfl,rfl⟩:=hrel;go_wp2_with fail;go_ret;exact⟨rfl,rfl⟩
def simpS (vs:List (List Px)):List UInt8:=Lib.trimSuffix (Lib.trimPrefix (wordsS vs) [32]) [32]
theorem trimP_le (s p:List UInt8):(Lib.trimPrefix s p).length≤s.length:=by
 unfold Lib.trimPrefix;split
 ·rw [List.length_drop];omega
 ·exact Nat.le_refl _
theorem simple0 (m:Int) (w:World) (D:Nat→Prop) (x:Ny) (vs:List (List Px)) (wa:Option Addr) (wl wc:Nat) (ga:Option Addr) (gl gc:Nat) (ra:Option Addr) (rl rcp:Nat) (ka:Option Addr) (kl kc:Nat) (aa:Option Addr) (al ac:Nat) (ha:NyR w D x wa wl wc ga gl gc ra rl rcp ka kl kc aa al ac) (hws:x.ws=rowsP vs) (hgl:gl=0) (hrl:rl=0) (hx:∀v∈vs,WordOKS v) (hm:w.cell? ⟨0,0,none⟩=some (.int .i64 m)) (hlen:(wordsS vs).length≤100000) :
 Calls Tryz.prog 64 #[.agg #[.int .i64 x.kind,.bool x.nt,.string ⟨x.nm.toArray⟩,.slice wa wl wc,.slice ga gl gc,.slice ra rl rcp,.slice ka kl kc,.slice aa al ac]] w fun e w'=>e=.returned (.string ⟨(simpS vs).toArray⟩)∧Below w.heap.size w w':=by
 subst hgl hrl;have haw:=ha.ws;rw [hws] at haw;obtain⟨kx,hkx⟩:∃l,l=x.kind:=⟨_,rfl⟩;obtain⟨tx,htx⟩:∃l,l=x.nt:=⟨_,rfl⟩;obtain⟨nx,hnx⟩:∃l:ByteArray,l=⟨x.nm.toArray⟩:=⟨_,rfl⟩;rw [←hkx,←htx,←hnx];obtain⟨W,hW⟩:∃W,W=w.alloc (.cells #[.int .i64 kx,.bool tx,.string nx,.slice wa wl wc,.slice ga 0 gc,.slice ra 0 rcp,.slice ka kl kc,.slice aa al ac] 44):=⟨_,rfl⟩;have hkW:Keeps (fun _=>False) w W:=by rw [hW];exact (Keeps.refl _ _).alloc _
 have hbW:Below w.heap.size w W:=by rw [hW];exact (Below.refl _ _).alloc (Nat.le_refl _) _
 have HRC:=Hd (show RecAt W w.heap.size [.int .i64 kx,.bool tx,.string nx,.slice wa wl wc,.slice ga 0 gc,.slice ra 0 rcp,.slice ka kl kc,.slice aa al ac] by rw [hW];exact new_rec8 w _ _ _ _ _ _ _ _ _);obtain⟨V,hV⟩:∃V:ByteArray,V=⟨(wordsS vs).toArray⟩:=⟨_,rfl⟩;have hVl:V.data.toList=wordsS vs:=by rw [hV]
 have hC:=words0 m W D vs wa wl wc (rdKeep0 haw hkW) hx (cellKeep hm hkW (cellLt hm)) hlen;rw [←hV] at hC;obtain⟨V2,hV2⟩:∃V2:ByteArray,V2=⟨(Lib.trimPrefix (wordsS vs) [32]).toArray⟩:=⟨_,rfl⟩;have hV2l:V2.data.toList=Lib.trimPrefix (wordsS vs) [32]:=by rw [hV2]
 have hV2s:V2.size≤100000:=by rw [Lib.size_eq,hV2l];exact Nat.le_trans (trimP_le _ _) hlen
 have hC2:=fun w=>Tryz.strings_TrimPrefix V ⟨#[32]⟩ w;rw [hVl,show (⟨#[32]⟩:ByteArray).data.toList=[32] from rfl,←hV2] at hC2;have hem:(⟨#[]⟩:ByteArray)++V2=V2:=ByteArray.empty_append;obtain⟨V3,hV3⟩:∃V3:ByteArray,V3=⟨(simpS vs).toArray⟩:=⟨_,rfl⟩;have hC3:=fun w=>Tryz.strings_TrimSuffix V2 ⟨#[32]⟩ w (by omega);rw [hV2l,show (⟨#[32]⟩:ByteArray).data.toList=[32] from rfl,show (⟨(Lib.trimSuffix (Lib.trimPrefix (wordsS vs) [32]) [32]).toArray⟩:ByteArray)=V3 from hV3.symm] at hC3
 rw [←hV3];have HC:=Hd hC;have HC2:=Hd hC2;have HC3:=Hd hC3;have HBW:=Hd hbW;have HWE:=Hd hW;have HEM:=Hd hem;clear ha haw hws hx hm hkx htx hnx hW hkW hbW hV hVl hC hV2 hV2l hC2 hV3 hC3 hem;go_enter Tryz.func64,Tryz.ntmps64;go_upto_region 1 with fail;rw [←HWE.out];obtain⟨⟨x0,x1,x2,x3,x4,x5,x6,x7⟩,_⟩:=HRC.out.eight;have lx:=HRC.out.lt;go_wp2_with fail;refine (redirs0 W _ _).mono ?_;rintro e w1 ⟨rfl,hw1⟩
 rw [hw1];clear hw1;go_wp2_with fail;go_loopw [3,13] (fun sv k' wr=>sv=.string ⟨#[]⟩∧k'=.int .i64 0∧wr=W) (fun _ _ _=>0)
 case atStart=>exact⟨rfl,rfl,rfl⟩
 case round=>
  obtain⟨rfl,rfl,rfl⟩:=hrel;go_wp2_with fail;refine HC.out.mono ?_;rintro e w2 ⟨rfl,hb2⟩;have HB2:=Hd (HBW.out.trans (hb2.mono HBW.out.size));clear hb2;go_wp2_with fail;refine (HC2.out _).mono ?_;rintro e w3 ⟨rfl,rfl⟩;go_wp2_with fail;rw [HEM.out];refine (HC3.out _).mono ?_;rintro e w3 ⟨rfl,rfl⟩;go_wp2_with fail;go_ret;exact⟨rfl,HB2.out⟩
theorem ownsKeep {w w':World} {B T k n:Nat} {v:Value} {xs:List Value} (h:w.ownsRow B T k v n xs) (hk:Keeps (fun _=>False) w w'):w'.ownsRow B T k v n xs:=by
 refine⟨h.1,?_⟩;rcases h.2 with h0 | ⟨g,cap,cur,rfl,hb,hg,rest⟩
 ·exact .inl h0
 ·exact .inr ⟨g,cap,cur,rfl,hb,(hk.block g (Array.getElem?_eq_some_iff.1 hg).1 (fun h=>h)).trans hg,rest⟩
theorem info_string:(Tryz.prog.info? 9).map (fun i=>(i.zero,i.size,i.bytes))=some (some (.string ⟨#[]⟩),1,16):=by kernel_rfl
def NodeSays (W:World) (s:ByteArray) (e:Ending) (w':World):Prop:=e=.returned (.string s)∧Below W.heap.size W w'
theorem all0 (w:World) (D:Nat→Prop) (xs:List Ny) (outs:List ByteArray) (sep R:ByteArray) (A:Option Addr) (C:Nat) (hl:outs.length=xs.length) (ha:Rd w D (.sl 8 (xs.flatMap Ny.row)) (.slice A outs.length C))
 (hn:∀i (hi:i<xs.length) (ho:i<outs.length) (W:World) (wa:Option Addr) (wl wc:Nat) (ga:Option Addr) (gl gc:Nat) (ra:Option Addr) (rl rcp:Nat) (ka:Option Addr) (kl kc:Nat) (aa:Option Addr) (al ac:Nat),Keeps (fun _=>False) w W→NyR W D xs[i] wa wl wc ga gl gc ra rl rcp ka kl kc aa al ac→Calls Tryz.prog 34 #[.agg #[.int .i64 xs[i].kind,.bool xs[i].nt,.string ⟨xs[i].nm.toArray⟩,.slice wa wl wc,.slice ga gl gc,.slice ra rl rcp,.slice ka kl kc,.slice aa al ac]] W (NodeSays W outs[i]))
 (hL:outs.length≤100000) (h0:0<outs.length) (hR:(Lib.join (outs.map (·.data.toList)) sep.data.toList)=R.data.toList) (hlen:R.size≤100000) :
 Calls Tryz.prog 21 #[.slice A outs.length C,.string sep] w (NodeSays w R):=by
 obtain⟨i0,hi,hz0,hz1,hz2⟩:=info_parts info_string;have hc8:=cells_node;obtain⟨L,hLe⟩:∃L,L=outs.length:=⟨_,rfl⟩;have HLE:=Hd hLe;have HXL:=Hd hl;have HA:=Hd ha;have HN:=Hd hn;have HR:=Hd hR;rw [←hLe] at HA hL h0;rw [←hLe];obtain⟨B,hB⟩:∃B,B=w.heap.size:=⟨_,rfl⟩;have HBE:=Hd hB;clear ha hn hR hLe hl hB;go_enter Tryz.func21,Tryz.ntmps21;go_wp2_with fail;go_loopw [5,10] (fun sl k' wr=>∃k:Nat,k'=.int .i64 k∧k≤L∧Hid (wr.ownsRow B 9 1 sl k ((outs.take k).map .string))∧Hid (Below w.heap.size w wr)) (fun _ k' _=>L - (intOf k').toNat)
 case atStart=>exact⟨0,rfl,Nat.zero_le _,Hd (World.ownsRow_nil _ _ _ _),Hd (Below.refl _ _)⟩
 case round=>
  obtain⟨k,rfl,hk,HO,HB⟩:=hrel;by_cases hlt:k<L
  ·have hl2:k<xs.length:=by have:=HLE.out;have:=HXL.out;omega
   have hl3:k<outs.length:=by rw [←HLE.out];exact hlt
   obtain⟨g,o,wa,wl,wc,ga,gl,gc,ra,rl,rcp,ka,kl,kc,aa,al,ac,rfl,hg,⟨q0,q1,q2,q3,q4,q5,q6,q7⟩,hx⟩:=nodesAt2 (rdKeep0 HA.out (keep0_below HB.out)) hl2;have HC:=Hd (fun W (hw:Keeps (fun _=>False) wr W)=>HN.out k hl2 hl3 W _ _ _ _ _ _ _ _ _ _ _ _ _ _ _ ((keep0_below HB.out).trans hw (fun _ _ s=>s)) (hx.keep0 hw));obtain⟨x,hxe⟩:∃x,x=xs[k]:=⟨_,rfl⟩;obtain⟨S,hS⟩:∃S,S=outs[k]:=⟨_,rfl⟩;rw [←hxe,←hS] at HC;rw [←hxe] at q0 q1 q2
   have HSN:=Hd (show (outs.take (k+1)).map Value.string=(outs.take k).map Value.string++[.string S] by rw [List.take_succ_eq_append_getElem hl3,List.map_append,hS];rfl);obtain⟨kx,hkx⟩:∃l,l=x.kind:=⟨_,rfl⟩;obtain⟨tx,htx⟩:∃l,l=x.nt:=⟨_,rfl⟩;obtain⟨nx,hnx⟩:∃l:ByteArray,l=⟨x.nm.toArray⟩:=⟨_,rfl⟩;rw [←hkx,←htx,←hnx] at HC;rw [←hkx] at q0;rw [←htx] at q1;rw [←hnx] at q2;have p1:(k:Int)<(L:Int):=by omega
   clear hx hxe hS hkx htx hnx hl2;go_wp2_with fail;obtain⟨W,hW⟩:∃W,W=wr.alloc (.cells #[.int .i64 kx,.bool tx,.string nx,.slice wa wl wc,.slice ga gl gc,.slice ra rl rcp,.slice ka kl kc,.slice aa al ac] 44):=⟨_,rfl⟩;rw [←hW];have hkW:Keeps (fun _=>False) wr W:=by rw [hW];exact (Keeps.refl _ _).alloc _
   have hsz:=HB.out.size;have hbe:=HBE.out;have hbW:Below w.heap.size w W:=by rw [hW];exact HB.out.alloc (by omega) _
   refine (HC.out W hkW).mono ?_;rintro e w2 ⟨rfl,hb2⟩;have hown2:=ownsKeep (ownsKeep HO.out hkW) (keep0_below hb2);have hb3:=hbW.trans (hb2.mono (by have:=hkW.size;omega));have HB2:=Hd hb3;have hs2:=hb3.size;clear hkW hbW hb2 hb3 hW;go_wp2_with (at_builtin;refine wpList_append_own _ rfl _ _ 47 rfl B 9 i0 (.string ⟨#[]⟩) 1 16 Tryz.underlying47 hi hz0 hz1 hz2 rfl (by decide) _ _ _ rfl (hown2.alloc _) ⟨w2.heap.size,0,none⟩ 1 1 [.string S] rfl rfl ?c1 ?c2 ?c3 ?c4 ?c5 ?_)
   case c1=>
    intro j u hj
    match j,hj with
    | 0,hj=>simp at hj;subst hj;simp [Addr.add]
   case c2=>intro u hu;simp at hu;subst hu;rfl
   case c3=>unfold maxLen;omega
   case c4=>omega
   case c5=>simp;omega
   intro v' w3 hown' hgrow _;have HB3:=Hd ((HB2.out.alloc (by omega) _).grown hgrow (by simp;omega) (fun k hk=>by have:=(hown2.lt k hk).1;omega));have HO3:=Hd hown';clear hown' hgrow hown2;go_wp2_with fail;go_roundw
   case rel=>exact⟨k+1,by go_num,by omega,Hd (by rw [HSN.out,List.map_take,HBE.out];exact HO3.out),HB3⟩
   case measure=>simp [intOf];omega
  ·obtain rfl:k=L:=by omega
   have p1:¬(k:Int)<(k:Int):=by omega
   obtain⟨g,cap,cur,rfl,hbg,hg,hcap,hcm,hcs,htake⟩:=HO.out.2.resolve_left (fun h=>by omega);have hcells:∀(j:Nat) x,outs[j]? = some x→wr.cell? ⟨g,0+j,none⟩=some (.string x):=fun j x hj=>by
    have h9:=HO.out.cells (g:=g) rfl j (.string x) (by rw [List.take_of_length_le (by rw [←HLE.out];exact Nat.le_refl _),List.getElem?_map,hj];rfl);have e9:(⟨g,0,none⟩:Addr).add j=⟨g,0+j,none⟩:=by
     cases j with
     | zero=>rfl
     | succ j=>simp [Addr.add]
    rw [e9] at h9;exact h9
   have hJ:=Tryz.strings_Join g 0 cap outs sep wr hcells (Array.getElem?_eq_some_iff.1 hg).1 (by rw [←HLE.out];omega) (by rw [←HLE.out];exact hcap) (by rw [HR.out,←Lib.size_eq];omega);rw [HR.out,←HLE.out,show (⟨R.data.toList.toArray⟩:ByteArray)=R from rfl] at hJ;have HJ:=Hd hJ;clear hJ hcells hbg hg hcap hcm hcs htake;go_wp2_with fail;refine HJ.out.mono ?_;rintro e w2 ⟨rfl,hb2⟩;have HB2:=Hd (HB.out.trans (hb2.mono HB.out.size))
   clear hb2;go_wp2_with fail;go_ret;exact⟨rfl,HB2.out⟩
theorem barePipe (w:World) (nx S:ByteArray) (wa:Option Addr) (wl wc:Nat) (ga:Option Addr) (gl gc:Nat) (ra:Option Addr) (rl rcp:Nat) (ka:Option Addr) (kl kc:Nat) (aa:Option Addr) (al ac:Nat)
 (hall:∀W,Keeps (fun _=>False) w W→Calls Tryz.prog 21 #[.slice ka kl kc,.string ⟨#[32,124,32]⟩] W (NodeSays W S)) :
 Calls Tryz.prog 66 #[.agg #[.int .i64 2,.bool false,.string nx,.slice wa wl wc,.slice ga gl gc,.slice ra rl rcp,.slice ka kl kc,.slice aa al ac]] w (NodeSays w S):=by
 have HC:=Hd hall;clear hall;obtain⟨W,hW⟩:∃W,W=w.alloc (.cells #[.int .i64 2,.bool false,.string nx,.slice wa wl wc,.slice ga gl gc,.slice ra rl rcp,.slice ka kl kc,.slice aa al ac] 44):=⟨_,rfl⟩;have hkW:Keeps (fun _=>False) w W:=by rw [hW];exact (Keeps.refl _ _).alloc _
 have HBW:=Hd (show Below w.heap.size w W by rw [hW];exact (Below.refl _ _).alloc (Nat.le_refl _) _);have HRC:=Hd (show RecAt W w.heap.size [.int .i64 2,.bool false,.string nx,.slice wa wl wc,.slice ga gl gc,.slice ra rl rcp,.slice ka kl kc,.slice aa al ac] by rw [hW];exact new_rec8 w _ _ _ _ _ _ _ _ _);have HWE:=Hd hW;have HKW:=Hd hkW;clear hW hkW;go_enter Tryz.func66,Tryz.ntmps66;go_upto_region 1 with fail
 rw [←HWE.out];obtain⟨⟨x0,x1,x2,x3,x4,x5,x6,x7⟩,_⟩:=HRC.out.eight;have lx:=HRC.out.lt;go_wp2_with fail;refine (HC.out W HKW.out).mono ?_;rintro e w2 ⟨rfl,hb2⟩;obtain⟨⟨x0,x1,x2,x3,x4,x5,x6,x7⟩,_⟩:=(HRC.out.keep (S:=fun _=>False) (keep0_below hb2) (fun h=>h)).eight;have lx:=(HRC.out.keep (S:=fun _=>False) (keep0_below hb2) (fun h=>h)).lt;have HB2:=Hd (HBW.out.trans (hb2.mono HBW.out.size));clear hb2
 go_wp2_with fail;go_ret;exact⟨rfl,HB2.out⟩
theorem bareAnd (w:World) (tx:Bool) (nx S:ByteArray) (wa:Option Addr) (wl wc:Nat) (ga:Option Addr) (gl gc:Nat) (ra:Option Addr) (rl rcp:Nat) (ka:Option Addr) (kl kc:Nat) (aa:Option Addr) (al ac:Nat)
 (hall:∀W,Keeps (fun _=>False) w W→Calls Tryz.prog 21 #[.slice ka kl kc,.string ⟨#[32,38,38,32]⟩] W (NodeSays W S)) :
 Calls Tryz.prog 66 #[.agg #[.int .i64 3,.bool tx,.string nx,.slice wa wl wc,.slice ga gl gc,.slice ra rl rcp,.slice ka kl kc,.slice aa al ac]] w (NodeSays w S):=by
 have HC:=Hd hall;clear hall;obtain⟨W,hW⟩:∃W,W=w.alloc (.cells #[.int .i64 3,.bool tx,.string nx,.slice wa wl wc,.slice ga gl gc,.slice ra rl rcp,.slice ka kl kc,.slice aa al ac] 44):=⟨_,rfl⟩;have hkW:Keeps (fun _=>False) w W:=by rw [hW];exact (Keeps.refl _ _).alloc _
 have HBW:=Hd (show Below w.heap.size w W by rw [hW];exact (Below.refl _ _).alloc (Nat.le_refl _) _);have HRC:=Hd (show RecAt W w.heap.size [.int .i64 3,.bool tx,.string nx,.slice wa wl wc,.slice ga gl gc,.slice ra rl rcp,.slice ka kl kc,.slice aa al ac] by rw [hW];exact new_rec8 w _ _ _ _ _ _ _ _ _);have HWE:=Hd hW;have HKW:=Hd hkW;clear hW hkW;go_enter Tryz.func66,Tryz.ntmps66;go_upto_region 1 with fail
 rw [←HWE.out];obtain⟨⟨x0,x1,x2,x3,x4,x5,x6,x7⟩,_⟩:=HRC.out.eight;have lx:=HRC.out.lt;go_wp2_with fail;refine (HC.out W HKW.out).mono ?_;rintro e w2 ⟨rfl,hb2⟩;skip;have HB2:=Hd (HBW.out.trans (hb2.mono HBW.out.size));clear hb2;go_wp2_with fail;go_ret;exact⟨rfl,HB2.out⟩
theorem nodeSimple (w:World) (tx:Bool) (nx S:ByteArray) (wa:Option Addr) (wl wc:Nat) (ga:Option Addr) (gl gc:Nat) (ra:Option Addr) (rl rcp:Nat) (ka:Option Addr) (kl kc:Nat) (aa:Option Addr) (al ac:Nat)
 (hs:∀W,Keeps (fun _=>False) w W→Calls Tryz.prog 64 #[.agg #[.int .i64 1,.bool tx,.string nx,.slice wa wl wc,.slice ga gl gc,.slice ra rl rcp,.slice ka kl kc,.slice aa al ac]] W (NodeSays W S)) :
 Calls Tryz.prog 34 #[.agg #[.int .i64 1,.bool tx,.string nx,.slice wa wl wc,.slice ga gl gc,.slice ra rl rcp,.slice ka kl kc,.slice aa al ac]] w (NodeSays w S):=by
 have HC:=Hd hs;clear hs;obtain⟨W,hW⟩:∃W,W=w.alloc (.cells #[.int .i64 1,.bool tx,.string nx,.slice wa wl wc,.slice ga gl gc,.slice ra rl rcp,.slice ka kl kc,.slice aa al ac] 44):=⟨_,rfl⟩;have hkW:Keeps (fun _=>False) w W:=by rw [hW];exact (Keeps.refl _ _).alloc _
 have HBW:=Hd (show Below w.heap.size w W by rw [hW];exact (Below.refl _ _).alloc (Nat.le_refl _) _);have HRC:=Hd (show RecAt W w.heap.size [.int .i64 1,.bool tx,.string nx,.slice wa wl wc,.slice ga gl gc,.slice ra rl rcp,.slice ka kl kc,.slice aa al ac] by rw [hW];exact new_rec8 w _ _ _ _ _ _ _ _ _);have HWE:=Hd hW;have HKW:=Hd hkW;clear hW hkW;go_enter Tryz.func34,Tryz.ntmps34;go_upto_region 1 with fail
 rw [←HWE.out];obtain⟨⟨x0,x1,x2,x3,x4,x5,x6,x7⟩,_⟩:=HRC.out.eight;have lx:=HRC.out.lt;go_wp2_with fail;refine (HC.out W HKW.out).mono ?_;rintro e w2 ⟨rfl,hb2⟩;have HB2:=Hd (HBW.out.trans (hb2.mono HBW.out.size));clear hb2;go_wp2_with fail;go_ret;exact⟨rfl,HB2.out⟩
theorem nodeOp (w:World) (kx:Int) (hk:kx≠1) (tx:Bool) (nx S S2:ByteArray) (wa:Option Addr) (wl wc:Nat) (ga:Option Addr) (gl gc:Nat) (ra:Option Addr) (rl rcp:Nat) (ka:Option Addr) (kl kc:Nat) (aa:Option Addr) (al ac:Nat) (hrl:rl=0) (hSs:S.size≤100000) (hS2:Lib.trimSuffix (S.data.toList++[32]) [32]=S2.data.toList)
 (hs:∀W,Keeps (fun _=>False) w W→Calls Tryz.prog 66 #[.agg #[.int .i64 kx,.bool tx,.string nx,.slice wa wl wc,.slice ga gl gc,.slice ra rl rcp,.slice ka kl kc,.slice aa al ac]] W (NodeSays W S)) :
 Calls Tryz.prog 34 #[.agg #[.int .i64 kx,.bool tx,.string nx,.slice wa wl wc,.slice ga gl gc,.slice ra rl rcp,.slice ka kl kc,.slice aa al ac]] w (NodeSays w S2):=by
 subst hrl;have t0:(kx==1)=false:=by rw [beq_eq_false_iff_ne];exact hk
 have HC:=Hd hs;have hq1:(⟨#[32]⟩:ByteArray).size=1:=rfl;have hq2:(⟨#[]⟩:ByteArray).size=0:=rfl;have hT:=fun w=>Tryz.strings_TrimSuffix (S++⟨#[32]⟩++⟨#[]⟩) ⟨#[32]⟩ w (by simp [ByteArray.size_append,hq1,hq2];omega);rw [show (S++⟨#[32]⟩++⟨#[]⟩:ByteArray).data.toList=S.data.toList++[32] by simp,show (⟨#[32]⟩:ByteArray).data.toList=[32] from rfl,hS2,show (⟨S2.data.toList.toArray⟩:ByteArray)=S2 from rfl] at hT
 have HT:=Hd hT;clear hs hT hS2 hk;obtain⟨W,hW⟩:∃W,W=w.alloc (.cells #[.int .i64 kx,.bool tx,.string nx,.slice wa wl wc,.slice ga gl gc,.slice ra 0 rcp,.slice ka kl kc,.slice aa al ac] 44):=⟨_,rfl⟩;have hkW:Keeps (fun _=>False) w W:=by rw [hW];exact (Keeps.refl _ _).alloc _
 have HBW:=Hd (show Below w.heap.size w W by rw [hW];exact (Below.refl _ _).alloc (Nat.le_refl _) _);have HRC:=Hd (show RecAt W w.heap.size [.int .i64 kx,.bool tx,.string nx,.slice wa wl wc,.slice ga gl gc,.slice ra 0 rcp,.slice ka kl kc,.slice aa al ac] by rw [hW];exact new_rec8 w _ _ _ _ _ _ _ _ _);have HWE:=Hd hW;have HKW:=Hd hkW;clear hW hkW;go_enter Tryz.func34,Tryz.ntmps34;go_upto_region 1 with fail
 rw [←HWE.out];obtain⟨⟨x0,x1,x2,x3,x4,x5,x6,x7⟩,_⟩:=HRC.out.eight;have lx:=HRC.out.lt;go_wp2_with fail;go_region_with (first
  | (go_at_call 66;refine (HC.out W.drew (HKW.out.trans ((Keeps.refl (fun _=>False) W).drew) (fun _ _ h=>h))).mono ?_;rintro e w2 ⟨rfl,hb2⟩;have hk2:=((Keeps.refl (fun _=>False) W).drew).trans (keep0_below hb2) (fun _ _ h=>h);have HB2:=Hd (HBW.out.trans ((Below.drew (Below.refl w.heap.size W)).trans (hb2.mono HBW.out.size)));obtain⟨⟨x0,x1,x2,x3,x4,x5,x6,x7⟩,_⟩:=(HRC.out.keep hk2 (fun h=>h)).eight;have lx:=(HRC.out.keep hk2 (fun h=>h)).lt;clear hb2 hk2)
  | (go_at_call 67;refine (redirs0 _ _ _).mono ?_;rintro e w3 ⟨rfl,rfl⟩)
  | (go_at_call 65;refine (HT.out _).mono ?_;rintro e w3 ⟨rfl,rfl⟩))
 all_goals (
  go_wp2_with fail;go_ret;exact⟨rfl,HB2.out⟩)
def SaysN (m:Int) (x:Ny) (S:ByteArray):Prop:=∀(w:World) (D:Nat→Prop) (wa:Option Addr) (wl wc:Nat) (ga:Option Addr) (gl gc:Nat) (ra:Option Addr) (rl rcp:Nat) (ka:Option Addr) (kl kc:Nat) (aa:Option Addr) (al ac:Nat),w.cell? ⟨0,0,none⟩=some (.int .i64 m)→NyR w D x wa wl wc ga gl gc ra rl rcp ka kl kc aa al ac→Calls Tryz.prog 34 #[.agg #[.int .i64 x.kind,.bool x.nt,.string ⟨x.nm.toArray⟩,.slice wa wl wc,.slice ga gl gc,.slice ra rl rcp,.slice ka kl kc,.slice aa al ac]] w (NodeSays w S)
theorem nil_len {w:World} {D:Nat→Prop} {k:Nat} {a:Option Addr} {m c:Nat} (hk:0<k) (h:Rd w D (.sl k []) (.slice a m c)):m=0:=by
 obtain⟨a',m',c',e,hl,_,_⟩:=h.shape hk;injection e with e1 e2 e3;subst e1 e2 e3;rw [List.length_nil] at hl;rcases Nat.mul_eq_zero.1 hl.symm with h | h
 ·exact h
 ·omega
theorem says_simple (m:Int) (x:Ny) (vs:List (List Px)) (S:ByteArray) (hS:S=⟨(simpS vs).toArray⟩) (hk:x.kind=1) (hw:x.ws=rowsP vs) (hg:x.gs=[]) (hr:x.rs=[]) (hx:∀v∈vs,WordOKS v) (hlen:(wordsS vs).length≤100000):SaysN m x S:=by
 intro w D wa wl wc ga gl gc ra rl rcp ka kl kc aa al ac hm hv;have hgs:=hv.gs;have hrs:=hv.rs;rw [hg] at hgs;rw [hr] at hrs;have h1:=nil_len (by decide) hgs;have h2:=nil_len (by decide) hrs;rw [hk];refine nodeSimple w x.nt ⟨x.nm.toArray⟩ S wa wl wc ga gl gc ra rl rcp ka kl kc aa al ac fun W hW=>?_;have h9:=simple0 m W D x vs wa wl wc ga gl gc ra rl rcp ka kl kc aa al ac (hv.keep0 hW) hw h1 h2 hx (cellKeep hm hW (cellLt hm)) hlen
 rw [hk,←hS] at h9;exact h9
theorem says_op (m:Int) (x:Ny) (ks:List Ny) (outs:List ByteArray) (sep R R2:ByteArray) (hsep:(x.kind=2∧x.nt=false∧sep=⟨#[32,124,32]⟩)∨(x.kind=3∧sep=⟨#[32,38,38,32]⟩)) (hks:x.ks=ks.flatMap Ny.row) (hr:x.rs=[]) (hl:outs.length=ks.length) (hn:∀i (hi:i<ks.length) (ho:i<outs.length),SaysN m ks[i] outs[i])
 (hL:outs.length≤100000) (h0:0<outs.length) (hR:(Lib.join (outs.map (·.data.toList)) sep.data.toList)=R.data.toList) (hlen:R.size≤100000) (hR2:Lib.trimSuffix (R.data.toList++[32]) [32]=R2.data.toList):SaysN m x R2:=by
 intro w D wa wl wc ga gl gc ra rl rcp ka kl kc aa al ac hm hv;have hrs:=hv.rs;have hkk:=hv.ks;rw [hr] at hrs;rw [hks] at hkk;have h2:=nil_len (by decide) hrs;have hkl:kl=outs.length:=by rw [hl];exact (rdRecs (k:=8) (fun _=>rfl) (by decide) hkk).1
 subst hkl;have hall:∀W,Keeps (fun _=>False) w W→Calls Tryz.prog 21 #[.slice ka outs.length kc,.string sep] W (NodeSays W R):=fun W hW=>
  all0 W D ks outs sep R ka kc hl (rdKeep0 hkk hW) (fun i hi ho V wa wl wc ga gl gc ra rl rcp ka kl kc aa al ac hV hx=>hn i hi ho V D _ _ _ _ _ _ _ _ _ _ _ _ _ _ _ (cellKeep hm (hW.trans hV (fun _ _ s=>s)) (cellLt hm)) hx) hL h0 hR hlen
 rcases hsep with ⟨hk,ht,he⟩ | ⟨hk,he⟩
 ·rw [hk,ht];rw [he] at hall;exact nodeOp w 2 (by decide) false ⟨x.nm.toArray⟩ R R2 wa wl wc ga gl gc ra rl rcp ka outs.length kc aa al ac h2 hlen hR2 fun W hW=>barePipe W ⟨x.nm.toArray⟩ R wa wl wc ga gl gc ra rl rcp ka outs.length kc aa al ac fun V hV=>hall V (hW.trans hV (fun _ _ s=>s))
 ·rw [hk];rw [he] at hall;exact nodeOp w 3 (by decide) x.nt ⟨x.nm.toArray⟩ R R2 wa wl wc ga gl gc ra rl rcp ka outs.length kc aa al ac h2 hlen hR2 fun W hW=>bareAnd W x.nt ⟨x.nm.toArray⟩ R wa wl wc ga gl gc ra rl rcp ka outs.length kc aa al ac fun V hV=>hall V (hW.trans hV (fun _ _ s=>s))
def exS:List UInt8:=[97,32,39,98,32,99,39,32,124,32,100,32,38,38,32,101]
def exA:List Px:=[⟨1,[97],[],[],[],false⟩]
def exB:List Px:=[⟨2,[98,32,99],[],[],[],false⟩]
def exD:List Px:=[⟨1,[100],[],[],[],false⟩]
def exE:List Px:=[⟨1,[101],[],[],[],false⟩]
def exSimple (vs:List (List Px)):Ny:=⟨1,false,[],rowsP vs,[],[],[],[]⟩
def exPipe:Ny:=⟨2,false,[],[],[],[],[exSimple [exA,exB],exSimple [exD]].flatMap Ny.row,[]⟩
def exAnd:Ny:=⟨3,false,[],[],[],[],[exPipe,exSimple [exE]].flatMap Ny.row,[]⟩
def exT:List Dt:=[exAnd].flatMap Ny.row
theorem ex_parse:parseF exS=.ok exT:=by kernel_rfl
theorem ok_txt (c:UInt8) (h:c≠36) (h2:Lib.hasPrefix [c] [35]=false):WordOKS [⟨1,[c],[],[],[],false⟩]:=
 ⟨fun x hx=>by rw [List.mem_singleton.1 hx];exact .inl ⟨rfl,fun d hd=>by rw [List.mem_singleton.1 hd];exact h⟩,by simp [outS,partS],by simp [outS,partS],fun x t e _=>by injection e with e1 e2;rw [←e1];exact h2⟩
theorem ok_quote:WordOKS exB:=by
 refine⟨fun x hx=>by rw [List.mem_singleton.1 hx];exact .inr ⟨rfl,by decide +kernel,by decide +kernel⟩,by decide +kernel,by decide +kernel,fun x t e h=>?_⟩;injection e with e1 e2;rw [←e1] at h;exact absurd h (by decide)
theorem ex_says (m:Int):SaysN m exAnd ⟨#[97,32,39,98,32,99,39,32,124,32,100,32,38,38,32,101]⟩:=by
 have h1:SaysN m (exSimple [exA,exB]) ⟨#[97,32,39,98,32,99,39]⟩:=says_simple m _ [exA,exB] _ (by decide +kernel) rfl rfl rfl rfl (fun v hv=>by
  rcases List.mem_cons.1 hv with rfl | hv
  ·exact ok_txt 97 (by decide) (by decide)
  ·rw [List.mem_singleton.1 hv];exact ok_quote) (by decide +kernel)
 have h2:SaysN m (exSimple [exD]) ⟨#[100]⟩:=says_simple m _ [exD] _ (by decide +kernel) rfl rfl rfl rfl (fun v hv=>by rw [List.mem_singleton.1 hv];exact ok_txt 100 (by decide) (by decide)) (by decide +kernel);have h3:SaysN m (exSimple [exE]) ⟨#[101]⟩:=says_simple m _ [exE] _ (by decide +kernel) rfl rfl rfl rfl (fun v hv=>by rw [List.mem_singleton.1 hv];exact ok_txt 101 (by decide) (by decide)) (by decide +kernel)
 have h4:SaysN m exPipe ⟨#[97,32,39,98,32,99,39,32,124,32,100]⟩:=says_op m exPipe [exSimple [exA,exB],exSimple [exD]] [⟨#[97,32,39,98,32,99,39]⟩,⟨#[100]⟩] ⟨#[32,124,32]⟩ ⟨#[97,32,39,98,32,99,39,32,124,32,100]⟩ ⟨#[97,32,39,98,32,99,39,32,124,32,100]⟩ (.inl ⟨rfl,rfl,rfl⟩) rfl rfl rfl (fun i hi ho=>by
  match i,hi with
  | 0,_=>exact h1
  | 1,_=>exact h2) (by decide) (by decide) (by decide +kernel) (by decide +kernel) (by decide +kernel)
 exact says_op m exAnd [exPipe,exSimple [exE]] [⟨#[97,32,39,98,32,99,39,32,124,32,100]⟩,⟨#[101]⟩] ⟨#[32,38,38,32]⟩ ⟨#[97,32,39,98,32,99,39,32,124,32,100,32,38,38,32,101]⟩ ⟨#[97,32,39,98,32,99,39,32,124,32,100,32,38,38,32,101]⟩ (.inr ⟨rfl,rfl⟩) rfl rfl rfl (fun i hi ho=>by
  match i,hi with
  | 0,_=>exact h4
  | 1,_=>exact h3) (by decide) (by decide) (by decide +kernel) (by decide +kernel) (by decide +kernel)
theorem ex_script (m:Int) (w:World) (D:Nat→Prop) (a:Option Addr) (L c:Nat) (ha:Rd w D (.sl 8 exT) (.slice a L c)) (hm:w.cell? ⟨0,0,none⟩=some (.int .i64 m)) :
 Calls Tryz.prog 10 #[.slice a L c] w (NodeSays w ⟨exS.toArray⟩):=by
 have hL:L=[(⟨#[97,32,39,98,32,99,39,32,124,32,100,32,38,38,32,101]⟩:ByteArray)].length:=(rdRecs (k:=8) (f:=Ny.row) (xs:=[exAnd]) (fun _=>rfl) (by decide) ha).1;subst hL;have HC:=Hd (all0 w D [exAnd] [⟨#[97,32,39,98,32,99,39,32,124,32,100,32,38,38,32,101]⟩] ⟨#[59,32]⟩ ⟨exS.toArray⟩ a c rfl ha (fun i hi ho W wa wl wc ga gl gc ra rl rcp ka kl kc aa al ac hW hx=>by
  match i,hi with
  | 0,_=>exact ex_says m W D _ _ _ _ _ _ _ _ _ _ _ _ _ _ _ (cellKeep hm hW (cellLt hm)) hx) (by decide) (by decide) (by decide +kernel) (by decide +kernel))
 obtain⟨L,hL⟩:∃L,L=[(⟨#[97,32,39,98,32,99,39,32,124,32,100,32,38,38,32,101]⟩:ByteArray)].length:=⟨_,rfl⟩;obtain⟨S,hS⟩:∃S:ByteArray,S=⟨exS.toArray⟩:=⟨_,rfl⟩;rw [←hL,←hS] at HC;rw [←hL,←hS];clear ha hm hL hS;go_enter Tryz.func10,Tryz.ntmps10;go_wp2_with fail;refine HC.out.mono ?_;rintro e w2 ⟨rfl,hb2⟩;have HB2:=Hd hb2;clear hb2;go_wp2_with fail;go_ret;exact⟨rfl,HB2.out⟩
end Go.Proofs.YtiihpbccabeoeaaGreatDoor
