/- The walk: a part. -/
import Derived.Test.YtiihpbccabeoeaaGreatDoorWPwE
import Derived.Test.YtiihpbccabeoeaaGreatDoorWPrI
import Derived.Test.YtiihpbccabeoeaaGreatDoorWPsY
namespace Go.Proofs.YtiihpbccabeoeaaGreatDoor
open Go.RowKit
set_option linter.unusedVariables false
set_option maxRecDepth 100000
set_option maxHeartbeats 16000000
theorem iZ.ok2 {l:List Pt} (h:iZ l):F6 l:=⟨h.1,h.2⟩
theorem Jn {vs:List (List Pt)} {k:Nat} (h:k<vs.length):fC (vs.take (k+1))=fC (vs.take k)++(32::bF vs[k]):=by
 unfold fC;rw [List.take_succ_eq_append_getElem h,List.flatMap_append];simp
theorem Gg (vs:List (List Pt)) (k:Nat):(fC (vs.take k)).length≤(fC vs).length:=by
 have h:fC vs=fC (vs.take k)++fC (vs.drop k):=by
  unfold fC;rw [←List.flatMap_append,List.take_append_drop]
 rw [h,lA];omega
theorem Jr {rs:List (Bs×List Pt)} {k:Nat} (h:k<rs.length):eH (rs.take (k+1))=eH (rs.take k)++(rs[k].1++32::(bF rs[k].2++[32])):=by
 unfold eH;rw [List.take_succ_eq_append_getElem h,List.flatMap_append];simp
theorem G3 (vs:List (Bs×List Pt)) (k:Nat):(eH (vs.take k)).length≤(eH vs).length:=by
 have h:eH vs=eH (vs.take k)++eH (vs.drop k):=by
  unfold eH;rw [←List.flatMap_append,List.take_append_drop]
 rw [h,lA];omega
theorem Jq {rs:List (Bs×List Pt)} {k:Nat} (h:k<rs.length):jY (rs.take (k+1))=jY (rs.take k)++(rs[k].1++61::(aL false rs[k].2++[32])):=by
 unfold jY;rw [List.take_succ_eq_append_getElem h,List.flatMap_append];simp
theorem Gj (vs:List (Bs×List Pt)) (k:Nat):(jY (vs.take k)).length≤(jY vs).length:=by
 have h:jY vs=jY (vs.take k)++jY (vs.drop k):=by
  unfold jY;rw [←List.flatMap_append,List.take_append_drop]
 rw [h,lA];omega
theorem pX (m:Int) (w:World) (D:Nat→Prop) (vs:List (List Pt)) (a:OA) (L c:Nat) (ha:Rd w D (.sl 1 ((vs.map aY).flatMap wdD)) (.slice a L c)) (hx:∀v∈vs,iZ v) (hm:w.cell? ⟨0,0,none⟩=some (.int .i64 m)) (hlen:(fC vs).length≤100000) :
 Calls Tryz.prog 97 #[.slice a L c] w (aO w ⟨(fC vs).toArray⟩):=by
 have hLb:=cR (by decide) ha;have HL:=Hd (show L=vs.length by have h:=(cK (k:=1) (fun _=>rfl) (by decide) ha).1;rw [h,List.length_map]);have HA:=Hd ha;have HX:=Hd hx;have HM:=Hd hm;have hm0:=dI hm;clear ha hx hm;go_enter Tryz.func97,Tryz.ntmps97;go_wp2_with fail;go_loopw [3,8] (fun sv k' wr=>∃(k:Nat) (S:ByteArray),sv=.string S∧k'=.int .i64 k∧k≤L∧Hid (S.data.toList=fC (vs.take k))∧Hid (Below w.heap.size w wr)) (fun _ k' _=>L - (intOf k').toNat)
 case atStart=>exact⟨0,⟨#[]⟩,rfl,rfl,Nat.zero_le _,Hd rfl,Hd (Below.refl _ _)⟩
 case round=>
  obtain⟨k,S,rfl,rfl,hk,HS,HB⟩:=hrel;have hSs:S.size≤100000:=by rw [Lib.size_eq,HS.o];exact Nat.le_trans (Gg vs k) hlen
  by_cases hlt:k<L
  ·have hl2:k<vs.length:=by rw [←HL.o];exact hlt
   have hl3:k<(vs.map aY).length:=by rw [List.length_map];exact hl2
   obtain⟨g,o,xa,xl,xc,rfl,hg,q0,hp⟩:=oP (aE HA.o (aQ HB.o)) hl3;rw [List.getElem_map] at hp;have hsn:=Jn hl2;have hle:=Gg vs (k+1);rw [hsn,lA,lC] at hle;obtain⟨R,hR⟩:∃R:ByteArray,R=⟨(bF vs[k]).toArray⟩:=⟨_,rfl⟩;have hRl:R.data.toList=bF vs[k]:=by rw [hR,fD]
   have hRs:R.size≤100000:=by rw [Lib.size_eq,hRl];omega
   have hsum:S.size+(1+R.size)≤100000:=by rw [Lib.size_eq,Lib.size_eq,HS.o,hRl];omega
   have hC:=sD m wr D vs[k] xa xl xc hp (HX.o _ (List.getElem_mem hl2)).ok2 (bN HM.o (aQ HB.o) hm0);rw [←hR] at hC;have HC:=Hd hC;have HSN:=Hd hsn;have HR:=Hd hRl;have p1:(k:Int)<(L:Int):=by omega
   clear hp hC hsn hle hR hRl hl3;go_wp2_with fail;refine HC.o.mono ?_;rintro e w2 ⟨rfl,hb2⟩;have HB2:=Hd (HB.o.trans (hb2.mono HB.o.size));clear hb2;go_wp2_with fail;go_roundw
   case rel=>exact⟨k+1,_,rfl,by go_num,by omega,Hd (by rw [HSN.o];simp [HS.o,HR.o]),HB2⟩
   case measure=>simp [intOf];omega
  ·obtain rfl:k=L:=by omega
   have p1:¬(k:Int)<(k:Int):=by omega
   have HSE:=Hd (show S=⟨(fC vs).toArray⟩ by
    have h9:=HS.o;rw [List.take_of_length_le (by rw [←HL.o];exact Nat.le_refl _)] at h9;rw [←h9])
   go_wp2_with fail;go_ret;exact⟨by rw [←HSE.o];rfl,HB.o⟩
theorem En:Tryz.prog.cellsOf 86=2:=by kernel_rfl
theorem I9:Tryz.prog.cellsOf 84=2:=by kernel_rfl
theorem sP {w:World} {b:Nat} {a0 a1:Value} {T:TypeId} (h:w.heap[b]? = some (.cells #[a0,a1] T (0,0))):w.cell? ⟨b,0,none⟩=some a0∧w.cell? ⟨b,1,none⟩=some a1:=by
 refine⟨?_,?_⟩<;>(rw [Lib.cell_of_heap h];rfl)
theorem rS {w w':World} {b:Nat} {o:Obj} (h:w.heap[b]? = some o) (hk:K0 w w'):w'.heap[b]? = some o:=(hk.block b (Array.getElem?_eq_some_iff.1 h).1 (fun h=>h)).trans h
theorem Mt {gs:List (Bs×List Pt)} {i:Nat} (h:i<(gs.map prQ).length) (h2:i<gs.length):(gs.map prQ)[i]=prQ gs[i]:=List.getElem_map ..
theorem tG (m:Int) (w:World) (D:Nat→Prop) (vs:List (Bs×List Pt)) (a:OA) (L c:Nat) (ha:Rd w D (.sl 2 ((vs.map prQ).flatMap prD)) (.slice a L c)) (hx:∀g∈vs,iZ g.2) (hm:w.cell? ⟨0,0,none⟩=some (.int .i64 m)) (hlen:(eH vs).length≤100000) :
 Calls Tryz.prog 67 #[.slice a L c] w (aO w ⟨(eH vs).toArray⟩):=by
 have hc2:=En;have hLb:=cR (by decide) ha;have HL:=Hd (show L=vs.length by have h:=(cK (k:=2) (fun _=>rfl) (by decide) ha).1;rw [h,List.length_map]);have HA:=Hd ha;have HX:=Hd hx;have HM:=Hd hm;have hm0:=dI hm;clear ha hx hm;go_enter Tryz.func67,Tryz.ntmps67;go_wp2_with fail;go_loopw [3,8] (fun sv k' wr=>∃(k:Nat) (S:ByteArray),sv=.string S∧k'=.int .i64 k∧k≤L∧Hid (S.data.toList=eH (vs.take k))∧Hid (Below w.heap.size w wr)) (fun _ k' _=>L - (intOf k').toNat)
 case atStart=>exact⟨0,⟨#[]⟩,rfl,rfl,Nat.zero_le _,Hd rfl,Hd (Below.refl _ _)⟩
 case round=>
  obtain⟨k,S,rfl,rfl,hk,HS,HB⟩:=hrel;have hSs:S.size≤100000:=by rw [Lib.size_eq,HS.o];exact Nat.le_trans (G3 vs k) hlen
  by_cases hlt:k<L
  ·have hl2:k<vs.length:=by rw [←HL.o];exact hlt
   have hl3:k<(vs.map prQ).length:=by rw [List.length_map];exact hl2
   obtain⟨g,o,xa,xl,xc,rfl,hg,q0,q1,hp⟩:=jL (aE HA.o (aQ HB.o)) hl3;rw [Mt hl3 hl2] at q0 hp;have hsn:=Jr hl2;have hle:=G3 vs (k+1);rw [hsn] at hle;simp only [lA,lC,lN] at hle;obtain⟨R,hR⟩:∃R:ByteArray,R=⟨(bF vs[k].2).toArray⟩:=⟨_,rfl⟩;obtain⟨O,hO⟩:∃R:ByteArray,R=⟨vs[k].1.toArray⟩:=⟨_,rfl⟩;have hRl:R.data.toList=bF vs[k].2:=by rw [hR,fD]
   have hOl:O.data.toList=vs[k].1:=by rw [hO,fD]
   have hRs:R.size≤100000:=by rw [Lib.size_eq,hRl];omega
   have hOs:O.size≤100000:=by rw [Lib.size_eq,hOl];omega
   have s1:(⟨#[32]⟩:ByteArray).size=1:=rfl;have hC:∀W,K0 wr W→Calls Tryz.prog 13 #[.slice xa xl xc] W fun e w'=>e=.returned (.string R)∧Below W.heap.size W w':=fun W hW=>by
    rw [hR];exact sD m W D vs[k].2 xa xl xc (aE hp hW) (HX.o _ (List.getElem_mem hl2)).ok2 (bN HM.o ((aQ HB.o).trans hW k3) hm0)
   rw [show (prQ vs[k]).1=vs[k].1 from rfl,←hO] at q0;have HC:=Hd hC;have HSN:=Hd hsn;have HR:=Hd hRl;have HO:=Hd hOl;have p1:(k:Int)<(L:Int):=by omega
   clear hp hC hsn hle hR hRl hO hOl hl3;go_wp2_with fail;obtain⟨W,hW⟩:∃W,W=wr.alloc (.cells #[.string O,.slice xa xl xc] 86):=⟨_,rfl⟩;rw [←hW];have HKW:=Hd (show K0 wr W by rw [hW];exact (aB.refl _ _).alloc _);have HRC:=Hd (show W.heap[wr.heap.size]? = some (.cells #[.string O,.slice xa xl xc] 86 (0,0)) by rw [hW];exact heap_alloc_new _ _);have HBW:=Hd (show Below w.heap.size w W by rw [hW];exact HB.o.alloc (by have:=HB.o.size;omega) _)
   clear hW;obtain⟨c0,c1⟩:=sP HRC.o;go_region_with (go_at_call 13;refine (HC.o W.drew (HKW.o.trans ((aB.refl (fun _=>False) W).drew) k3)).mono ?_;rintro e w2 ⟨rfl,hb2⟩;obtain⟨d0,d1⟩:=sP (rS HRC.o (((aB.refl (fun _=>False) W).drew).trans (aQ hb2) k3));have HB2:=Hd (HBW.o.trans ((Below.drew (Below.refl w.heap.size W)).trans (hb2.mono HBW.o.size)));clear hb2)
   all_goals go_wp2_with fail
   all_goals go_roundw
   all_goals first
    | exact⟨k+1,_,rfl,by go_num,by omega,Hd (by rw [HSN.o];simp [HS.o,HR.o,HO.o]),HB2⟩
    | (simp [intOf];omega)
  ·obtain rfl:k=L:=by omega
   have p1:¬(k:Int)<(k:Int):=by omega
   have HSE:=Hd (show S=⟨(eH vs).toArray⟩ by
    have h9:=HS.o;rw [List.take_of_length_le (by rw [←HL.o];exact Nat.le_refl _)] at h9;rw [←h9])
   go_wp2_with fail;go_ret;exact⟨by rw [←HSE.o];rfl,HB.o⟩
def Wq (w:World) (b:Nat) (s:Bs):Prop:=(s=[]∧w.heap[b]? = some (.cells #[.pointer none,.slice none 0 0,.bool false] 65 (0,0)))∨(s≠[]∧Wr w b b s false)
theorem Wq.keep0 {w w':World} {b:Nat} {s:Bs} (h:Wq w b s) (hk:K0 w w'):Wq w' b s:=by
 rcases h with ⟨h1,h2⟩ | ⟨h1,h2⟩
 ·exact .inl ⟨h1,rS h2 hk⟩
 ·exact .inr ⟨h1,h2.below hk⟩
theorem Qq {w:World} {b:Nat} {s:Bs} (h:Wq w b s):Calls Tryz.prog 28 #[.pointer (some ⟨b,0,none⟩)] w fun e w'=>e=.returned (.string ⟨s.toArray⟩)∧Below b w w':=by
 rcases h with ⟨rfl,h2⟩ | ⟨h1,h2⟩
 ·exact C8 b b w h2
 ·exact rQ b b s false w h2 h1
theorem Ir (m:Int) (w W:World) (D:Nat→Prop) (v:List Pt) (xa:OA) (xl xc:Nat) (hW:W=w.alloc (.cells #[.pointer none,.slice none 0 0,.bool false] 65)) (ha:Rd w D (.sl 6 (aY v)) (.slice xa xl xc)) (hx:Mx v) (hm:w.cell? ⟨0,0,none⟩=some (.int .i64 m)) :
 Calls Tryz.prog 27 #[.pointer (some ⟨w.heap.size,0,none⟩),.slice xa xl xc] W fun e w'=>e=.returned (.tuple #[])∧Wq w' w.heap.size (aL false v)∧Below w.heap.size W w':=by
 have hwn:Wr W w.heap.size w.heap.size [] false:=by rw [hW];exact Wr.new w
 have hkW:K0 w W:=by rw [hW];exact (aB.refl _ _).alloc _
 have hL:=vZ ha;cases v with
 | nil=>
  obtain rfl:xl=0:=hL;refine (xE _ xa xc W).mono ?_;rintro e w' ⟨rfl,rfl⟩;exact⟨rfl,.inl ⟨dP _,by rw [hW];exact heap_alloc_new _ _⟩,Below.refl _ _⟩
 | cons p t=>
  obtain⟨⟨stop,d,hok⟩,hlen⟩:=hx;have h1:=s9 _ (p::t) stop false d hok (Nat.lt_succ_self _) w.heap.size w.heap.size [] m W (fun g=>D g∧g<w.heap.size) xa xl xc hwn ((ha.mono (D':=fun g=>D g∧g<w.heap.size) (fun b hb hd=>⟨hd,hb⟩)).keep hkW (fun _ _ _ h=>h)) (fun g hg=>hg.2) (bN hm hkW (dI hm)) (dI hm) (by simpa using hlen) hkW.size;refine h1.mono ?_;rintro e w' ⟨rfl,hw,hb⟩;refine⟨rfl,.inr ⟨?_,by simpa using hw⟩,hb.below hkW.size⟩
  unfold gD at hok;obtain⟨c,u,hc,_⟩:=kH hok.1;rw [bZ,hc];simp
theorem De (m:Int) (w:World) (D:Nat→Prop) (ws:List (List Pt)) (gs rs:List (Bs×List Pt)) (kx:Int) (tx:Bool) (nx:ByteArray) (wa:OA) (wl wc:Nat) (ga:OA) (gl gc:Nat) (ra:OA) (rl rcp:Nat) (ka:OA) (kl kc:Nat) (aa:OA) (al ac:Nat)
 (haw:Rd w D (.sl 1 ((ws.map aY).flatMap wdD)) (.slice wa wl wc)) (hag:Rd w D (.sl 2 ((gs.map prQ).flatMap prD)) (.slice ga gl gc)) (har:Rd w D (.sl 2 ((rs.map prQ).flatMap prD)) (.slice ra rl rcp))
 (hw:∀v∈ws,iZ v) (hg:∀g∈gs,Mx g.2) (hr:∀g∈rs,iZ g.2) (hm:w.cell? ⟨0,0,none⟩=some (.int .i64 m)) (hlen:(eH rs).length+(jY gs).length+(fC ws).length≤60000) :
 Calls Tryz.prog 64 #[.agg #[.int .i64 kx,.bool tx,.string nx,.slice wa wl wc,.slice ga gl gc,.slice ra rl rcp,.slice ka kl kc,.slice aa al ac]] w (aO w ⟨(Ax ws gs rs).toArray⟩):=by
 have hc2:=I9;have hLb:=cR (by decide) hag;have HL:=Hd (show gl=gs.length by have h:=(cK (k:=2) (fun _=>rfl) (by decide) hag).1;rw [h,List.length_map]);have HAG:=Hd hag;have HX:=Hd hg;have HM:=Hd hm;have hm0:=dI hm;have HCW:=Hd (fun W (hW:K0 w W)=>pX m W D ws wa wl wc (aE haw hW) hw (bN hm hW hm0) (by omega));have HCR:=Hd (fun W (hW:K0 w W)=>tG m W D rs ra rl rcp (aE har hW) hr (bN hm hW hm0) (by omega))
 obtain⟨W,hW⟩:∃W,W=w.alloc (.cells #[.int .i64 kx,.bool tx,.string nx,.slice wa wl wc,.slice ga gl gc,.slice ra rl rcp,.slice ka kl kc,.slice aa al ac] 44):=⟨_,rfl⟩;have HKW:=Hd (show K0 w W by rw [hW];exact (aB.refl _ _).alloc _);have HBW:=Hd (show Below w.heap.size w W by rw [hW];exact (Below.refl _ _).alloc (Nat.le_refl _) _);have HRC:=Hd (show aH W w.heap.size [.int .i64 kx,.bool tx,.string nx,.slice wa wl wc,.slice ga gl gc,.slice ra rl rcp,.slice ka kl kc,.slice aa al ac] by rw [hW];exact aK w _ _ _ _ _ _ _ _ _)
 have HWE:=Hd hW;obtain⟨V,hV⟩:∃V:ByteArray,V=⟨(fC ws).toArray⟩:=⟨_,rfl⟩;have hVl:V.data.toList=fC ws:=by rw [hV,fD]
 obtain⟨V2,hV2⟩:∃V2:ByteArray,V2=⟨(Lib.trimPrefix (fC ws) [32]).toArray⟩:=⟨_,rfl⟩;have hV2l:V2.data.toList=Lib.trimPrefix (fC ws) [32]:=by rw [hV2,fD]
 have hV2s:V2.size≤60000:=by rw [Lib.size_eq,hV2l];exact Nat.le_trans (y9 _ _) (by omega)
 have hC2:=fun w=>Tryz.strings_TrimPrefix V ⟨#[32]⟩ w;rw [hVl,show (⟨#[32]⟩:ByteArray).data.toList=[32] from rfl,←hV2] at hC2;rw [←hV] at HCW;obtain⟨RS,hRS⟩:∃V:ByteArray,V=⟨(eH rs).toArray⟩:=⟨_,rfl⟩;have hRSl:RS.data.toList=eH rs:=by rw [hRS,fD]
 rw [←hRS] at HCR;have HRS:=Hd hRSl;have HC2:=Hd hC2;have HV2:=Hd hV2l;obtain⟨V3,hV3⟩:∃V3:ByteArray,V3=⟨(Ax ws gs rs).toArray⟩:=⟨_,rfl⟩;rw [←hV3];have HC3:=Hd (show ∀(S:ByteArray) (w:World),S.data.toList=eH rs++jY gs→S.size≤60000→Calls Tryz.prog 65 #[.string (S++V2),.string ⟨#[32]⟩] w fun e w'=>e=.returned (.string V3)∧w'=w from fun S w hS hs=>by
  have h9:=Tryz.strings_TrimSuffix (S++V2) ⟨#[32]⟩ w (by rw [ByteArray.size_append];omega);rw [show (S++V2:ByteArray).data.toList=eH rs++jY gs++Lib.trimPrefix (fC ws) [32] by simp [hS,hV2l],show (⟨#[32]⟩:ByteArray).data.toList=[32] from rfl] at h9;rw [hV3];exact h9)
 clear haw hag har hw hg hr hm hW hV hVl hV2 hV2l hC2 hV3 hRS hRSl;go_enter Tryz.func64,Tryz.ntmps64;go_upto_region 1 with fail;rw [←HWE.o];obtain⟨⟨x0,x1,x2,x3,x4,x5,x6,x7⟩,_⟩:=HRC.o.eight;have lx:=HRC.o.lt;go_wp2_with fail;refine (HCR.o W HKW.o).mono ?_;rintro e w1 ⟨rfl,hb1⟩;have HK1:=Hd (HKW.o.trans (aQ hb1) k3);have HB1:=Hd (HBW.o.trans (hb1.mono HBW.o.size))
 have HRC1:=Hd (HRC.o.keep (S:=fun _=>False) (aQ hb1) (fun h=>h));clear hb1 x0 x1 x2 x3 x4 x5 x6 x7 lx;obtain⟨⟨x0,x1,x2,x3,x4,x5,x6,x7⟩,_⟩:=HRC1.o.eight;have lx:=HRC1.o.lt;go_wp2_with fail;go_loopw [3,13] (fun sv k' wr=>∃(k:Nat) (S:ByteArray),sv=.string S∧k'=.int .i64 k∧k≤gl∧Hid (S.data.toList=eH rs++jY (gs.take k))∧Hid (Below w.heap.size w wr)∧Hid (K0 w1 wr)) (fun _ k' _=>gl - (intOf k').toNat)
 case atStart=>exact⟨0,RS,rfl,rfl,Nat.zero_le _,Hd (by rw [HRS.o,List.take_zero];simp [jY]),HB1,Hd (aB.refl _ _)⟩
 case round=>
  obtain⟨k,S,rfl,rfl,hk,HS,HB,HK⟩:=hrel;clear x0 x1 x2 x3 x4 x5 x6 x7 lx;have hSs:S.size≤60000:=by rw [Lib.size_eq,HS.o,lA];have:=Gj gs k;omega
  have HRCr:=Hd (HRC1.o.keep (S:=fun _=>False) HK.o (fun h=>h));have HKr:=Hd (HK1.o.trans HK.o k3);by_cases hlt:k<gl
  ·have hl2:k<gs.length:=by rw [←HL.o];exact hlt
   have hl3:k<(gs.map prQ).length:=by rw [List.length_map];exact hl2
   obtain⟨g,o,xa,xl,xc,rfl,hg,q0,q1,hp⟩:=jL (aE HAG.o HKr.o) hl3;rw [Mt hl3 hl2] at q0 hp;have hsn:=Jq hl2;have hle:=Gj gs (k+1);rw [hsn] at hle;simp only [lA,lC,lN] at hle;obtain⟨R,hR⟩:∃R:ByteArray,R=⟨(aL false gs[k].2).toArray⟩:=⟨_,rfl⟩;obtain⟨O,hO⟩:∃R:ByteArray,R=⟨gs[k].1.toArray⟩:=⟨_,rfl⟩;have hRl:R.data.toList=aL false gs[k].2:=by rw [hR,fD]
   have hOl:O.data.toList=gs[k].1:=by rw [hO,fD]
   have hRs:R.size≤60000:=by rw [Lib.size_eq,hRl];omega
   have hOs:O.size≤60000:=by rw [Lib.size_eq,hOl];omega
   have s1:(⟨#[32]⟩:ByteArray).size=1:=rfl;have s2:(⟨#[61]⟩:ByteArray).size=1:=rfl;rw [show (prQ gs[k]).1=gs[k].1 from rfl,←hO] at q0;obtain⟨W1,hW1⟩:∃W1,W1=wr.alloc (.cells #[.string O,.slice xa xl xc] 84):=⟨_,rfl⟩;have hkW1:K0 wr W1:=by rw [hW1];exact (aB.refl _ _).alloc _
   obtain⟨R1,hR1⟩:∃R1,R1=wr.heap.size:=⟨_,rfl⟩;obtain⟨b,hb⟩:∃b,b=W1.heap.size:=⟨_,rfl⟩;have hRb:R1<b:=by rw [hR1,hb,hW1];simp
   have hwb:w.heap.size≤b:=by have:=HB.o.size;omega
   obtain⟨W2,hW2⟩:∃W2,W2=W1.alloc (.cells #[.pointer none,.slice none 0 0,.bool false] 65):=⟨_,rfl⟩;have hkW2:K0 W1 W2:=by rw [hW2];exact (aB.refl _ _).alloc _
   have HPC:=Hd (Ir m W1 W2 D gs[k].2 xa xl xc hW2 (aE hp hkW1) (HX.o _ (List.getElem_mem hl2)) (bN HM.o (HKr.o.trans hkW1 k3) hm0));rw [←hb] at HPC;have hrc1:W1.heap[R1]? = some (.cells #[.string O,.slice xa xl xc] 84 (0,0)):=by rw [hW1,hR1];exact heap_alloc_new _ _
   have HA1:=Hd hrc1;have HA2:=Hd (rS hrc1 hkW2);have HK2:=Hd (HK.o.trans (hkW1.trans hkW2 k3) k3);have HB2:=Hd (show Below w.heap.size w W2 by rw [hW2,hW1];exact (HB.o.alloc (by have:=HB.o.size;omega) _).alloc (by have:=HB.o.size;simp;omega) _);have HKb:=Hd (show ∀w4,Below b W2 w4→K0 w1 w4 from fun w4 h4=>HK2.o.trans (show aB (fun x=>b≤x) W2 w4 from gL h4) (fun x hx h9=>by
    have h8:=HK.o.size;have h7:=hkW1.size;rw [hb] at h9;omega))
   have HW1E:=Hd hW1;have HW2E:=Hd hW2;have HR1E:=Hd hR1;have HBE:=Hd hb;have HSN:=Hd hsn;have HR:=Hd hRl;have HRE:=Hd hR;have HO:=Hd hOl;have p1:(k:Int)<(gl:Int):=by omega
   clear hp hsn hle hR hRl hO hOl hl3 hW1 hW2 hR1 hb hkW1 hkW2 hrc1;go_upto_region 5 with fail;rw [←HW1E.o,←HR1E.o];obtain⟨c0,c1⟩:=sP HA1.o;obtain⟨d0,d1⟩:=sP HA2.o;go_upto_region 6 with fail;rw [←HW2E.o,←HBE.o];go_wp2_with fail;refine HPC.o.mono ?_;rintro e w3 ⟨rfl,hwq,hb3⟩;have HQ:=Hd hwq;have e0:w3.cell? ⟨R1,0,none⟩=some (.string O):=by rw [hb3.cell (p:=⟨R1,0,none⟩) hRb];exact d0
   have HB3:=Hd hb3;clear hwq hb3 c0 c1 d0 d1;go_wp2_with fail;go_region_with (go_at_call 28;refine (Qq (HQ.o.keep0 ((aB.refl (fun _=>False) w3).drew))).mono ?_;rintro e w4 ⟨rfl,hb4⟩;have f0:w4.cell? ⟨R1,0,none⟩=some (.string O):=(by rw [hb4.cell (p:=⟨R1,0,none⟩) hRb];exact e0);have HB4:=Hd (HB3.o.trans ((Below.drew (Below.refl b w3)).trans hb4));rw [←HRE.o];clear hb4)
   all_goals go_wp2_with fail
   all_goals go_roundw
   all_goals first
    | exact⟨k+1,_,rfl,by go_num,by omega,Hd (by rw [HSN.o];simp [HS.o,HR.o,HO.o]),Hd (HB2.o.trans (HB4.o.mono hwb)),Hd (HKb.o _ HB4.o)⟩
    | (simp [intOf];omega)
  ·obtain rfl:k=gl:=by omega
   have p1:¬(k:Int)<(k:Int):=by omega
   have HSE:=Hd (show S.data.toList=eH rs++jY gs by
    have h9:=HS.o;rw [List.take_of_length_le (by rw [←HL.o];exact Nat.le_refl _)] at h9;exact h9)
   obtain⟨⟨x0,x1,x2,x3,x4,x5,x6,x7⟩,_⟩:=HRCr.o.eight;have lx:=HRCr.o.lt;go_wp2_with fail;refine (HCW.o wr HKr.o).mono ?_;rintro e w2 ⟨rfl,hb2⟩;have HB2:=Hd (HB.o.trans (hb2.mono HB.o.size));clear hb2;go_wp2_with fail;refine (HC2.o _).mono ?_;rintro e w3 ⟨rfl,rfl⟩;go_wp2_with fail;refine (HC3.o S _ HSE.o hSs).mono ?_;rintro e w3 ⟨rfl,rfl⟩;go_wp2_with fail;go_ret;exact⟨rfl,HB2.o⟩
end Go.Proofs.YtiihpbccabeoeaaGreatDoor
