/- The walk: a part. -/
import Derived.Test.YtiihpbccabeoeaaGreatDoorWPsX
import Derived.Test.YtiihpbccabeoeaaGreatDoorWPsA
namespace Go.Proofs.YtiihpbccabeoeaaGreatDoor
open Go.RowKit
set_option linter.unusedVariables false
set_option maxRecDepth 100000
set_option maxHeartbeats 16000000
def Q8 (vs:List (List Px)):List (List Dt):=vs.map fun v=>v.flatMap Px.row
theorem aQ {a b:World} (h:Below a.heap.size a b):K0 a b:=aB.of_below h _
theorem rA {w w':World} {B T k n:Nat} {v:Value} {xs:List Value} (h:w.ownsRow B T k v n xs) (hk:K0 w w'):w'.ownsRow B T k v n xs:=by
 refine⟨h.1,?_⟩;rcases h.2 with h0 | ⟨g,cap,cur,rfl,hb,hg,rest⟩
 ·exact .inl h0
 ·exact .inr ⟨g,cap,cur,rfl,hb,(hk.block g (Array.getElem?_eq_some_iff.1 hg).1 (fun h=>h)).trans hg,rest⟩
theorem tI:(Tryz.prog.info? 9).map (fun i=>(i.zero,i.size,i.bytes))=some (some (.string ⟨#[]⟩),1,16):=by kernel_rfl
def aO (W:World) (s:ByteArray) (e:Ending) (w':World):Prop:=e=.returned (.string s)∧Below W.heap.size W w'
theorem all0 (w:World) (D:Nat→Prop) (xs:List Ny) (outs:List ByteArray) (sep R:ByteArray) (A:OA) (C:Nat) (hl:outs.length=xs.length) (ha:Rd w D (.sl 8 (xs.flatMap Ny.row)) (.slice A outs.length C))
 (hn:∀i (hi:i<xs.length) (ho:i<outs.length) (W:World) (wa:OA) (wl wc:Nat) (ga:OA) (gl gc:Nat) (ra:OA) (rl rcp:Nat) (ka:OA) (kl kc:Nat) (aa:OA) (al ac:Nat),K0 w W→NyR W D xs[i] wa wl wc ga gl gc ra rl rcp ka kl kc aa al ac→Calls Tryz.prog 34 #[.agg #[.int .i64 xs[i].kind,.bool xs[i].nt,.string ⟨xs[i].nm.toArray⟩,.slice wa wl wc,.slice ga gl gc,.slice ra rl rcp,.slice ka kl kc,.slice aa al ac]] W (aO W outs[i]))
 (hL:outs.length≤100000) (h0:0<outs.length) (hR:(Lib.join (outs.map (·.data.toList)) sep.data.toList)=R.data.toList) (hlen:R.size≤100000) :
 Calls Tryz.prog 21 #[.slice A outs.length C,.string sep] w (aO w R):=by
 obtain⟨i0,hi,hz0,hz1,hz2⟩:=info_parts tI;have hc8:=bV;obtain⟨L,hLe⟩:∃L,L=outs.length:=⟨_,rfl⟩;have HLE:=Hd hLe;have HXL:=Hd hl;have HA:=Hd ha;have HN:=Hd hn;have HR:=Hd hR;rw [←hLe] at HA hL h0;rw [←hLe];obtain⟨B,hB⟩:∃B,B=w.heap.size:=⟨_,rfl⟩;have HBE:=Hd hB;clear ha hn hR hLe hl hB;go_enter Tryz.func21,Tryz.ntmps21;go_wp2_with fail;go_loopw [5,10] (fun sl k' wr=>∃k:Nat,k'=.int .i64 k∧k≤L∧Hid (wr.ownsRow B 9 1 sl k ((outs.take k).map .string))∧Hid (Below w.heap.size w wr)) (fun _ k' _=>L - (intOf k').toNat)
 case atStart=>exact⟨0,rfl,Nat.zero_le _,Hd (World.ownsRow_nil _ _ _ _),Hd (Below.refl _ _)⟩
 case round=>
  obtain⟨k,rfl,hk,HO,HB⟩:=hrel;by_cases hlt:k<L
  ·have hl2:k<xs.length:=by have:=HLE.o;have:=HXL.o;omega
   have hl3:k<outs.length:=by rw [←HLE.o];exact hlt
   obtain⟨g,o,wa,wl,wc,ga,gl,gc,ra,rl,rcp,ka,kl,kc,aa,al,ac,rfl,hg,⟨q0,q1,q2,q3,q4,q5,q6,q7⟩,hx⟩:=iO (aE HA.o (aQ HB.o)) hl2;have HC:=Hd (fun W (hw:K0 wr W)=>HN.o k hl2 hl3 W _ _ _ _ _ _ _ _ _ _ _ _ _ _ _ ((aQ HB.o).trans hw (fun _ _ s=>s)) (hx.keep0 hw));obtain⟨x,hxe⟩:∃x,x=xs[k]:=⟨_,rfl⟩;obtain⟨S,hS⟩:∃S,S=outs[k]:=⟨_,rfl⟩;rw [←hxe,←hS] at HC;rw [←hxe] at q0 q1 q2
   have HSN:=Hd (show (outs.take (k+1)).map Value.string=(outs.take k).map Value.string++[.string S] by rw [List.take_succ_eq_append_getElem hl3,List.map_append,hS];rfl);obtain⟨kx,hkx⟩:∃l,l=x.kind:=⟨_,rfl⟩;obtain⟨tx,htx⟩:∃l,l=x.nt:=⟨_,rfl⟩;obtain⟨nx,hnx⟩:∃l:ByteArray,l=⟨x.nm.toArray⟩:=⟨_,rfl⟩;rw [←hkx,←htx,←hnx] at HC;rw [←hkx] at q0;rw [←htx] at q1;rw [←hnx] at q2;have p1:(k:Int)<(L:Int):=by omega
   clear hx hxe hS hkx htx hnx hl2;go_wp2_with fail;obtain⟨W,hW⟩:∃W,W=wr.alloc (.cells #[.int .i64 kx,.bool tx,.string nx,.slice wa wl wc,.slice ga gl gc,.slice ra rl rcp,.slice ka kl kc,.slice aa al ac] 44):=⟨_,rfl⟩;rw [←hW];have hkW:K0 wr W:=by rw [hW];exact (aB.refl _ _).alloc _
   have hsz:=HB.o.size;have hbe:=HBE.o;have hbW:Below w.heap.size w W:=by rw [hW];exact HB.o.alloc (by omega) _
   refine (HC.o W hkW).mono ?_;rintro e w2 ⟨rfl,hb2⟩;have hown2:=rA (rA HO.o hkW) (aQ hb2);have hb3:=hbW.trans (hb2.mono (by have:=hkW.size;omega));have HB2:=Hd hb3;have hs2:=hb3.size;clear hkW hbW hb2 hb3 hW;go_wp2_with (at_builtin;refine wpList_append_own _ rfl _ _ 47 rfl B 9 i0 (.string ⟨#[]⟩) 1 16 Tryz.underlying47 hi hz0 hz1 hz2 rfl (by decide) _ _ _ rfl (hown2.alloc _) ⟨w2.heap.size,0,none⟩ 1 1 [.string S] rfl rfl ?c1 ?c2 ?c3 ?c4 ?c5 ?_)
   case c1=>
    intro j u hj
    match j,hj with
    | 0,hj=>simp at hj;subst hj;simp [Addr.add]
   case c2=>intro u hu;simp at hu;subst hu;rfl
   case c3=>unfold maxLen;omega
   case c4=>omega
   case c5=>simp;omega
   intro v' w3 hown' hgrow _;have HB3:=Hd ((HB2.o.alloc (by omega) _).grown hgrow (by simp;omega) (fun k hk=>by have:=(hown2.lt k hk).1;omega));have HO3:=Hd hown';clear hown' hgrow hown2;go_wp2_with fail;go_roundw
   case rel=>exact⟨k+1,by go_num,by omega,Hd (by rw [HSN.o,List.map_take,HBE.o];exact HO3.o),HB3⟩
   case measure=>simp [intOf];omega
  ·obtain rfl:k=L:=by omega
   have p1:¬(k:Int)<(k:Int):=by omega
   obtain⟨g,cap,cur,rfl,hbg,hg,hcap,hcm,hcs,htake⟩:=HO.o.2.resolve_left (fun h=>by omega);have hcells:∀(j:Nat) x,outs[j]? = some x→wr.cell? ⟨g,0+j,none⟩=some (.string x):=fun j x hj=>by
    have h9:=HO.o.cells (g:=g) rfl j (.string x) (by rw [List.take_of_length_le (by rw [←HLE.o];exact Nat.le_refl _),List.getElem?_map,hj];rfl);have e9:(⟨g,0,none⟩:Addr).add j=⟨g,0+j,none⟩:=by
     cases j with
     | zero=>rfl
     | succ j=>simp [Addr.add]
    rw [e9] at h9;exact h9
   have hJ:=Tryz.strings_Join g 0 cap outs sep wr hcells (Array.getElem?_eq_some_iff.1 hg).1 (by rw [←HLE.o];omega) (by rw [←HLE.o];exact hcap) (by rw [HR.o,←Lib.size_eq];omega);rw [HR.o,←HLE.o,show (⟨R.data.toList.toArray⟩:ByteArray)=R from rfl] at hJ;have HJ:=Hd hJ;clear hJ hcells hbg hg hcap hcm hcs htake;go_wp2_with fail;refine HJ.o.mono ?_;rintro e w2 ⟨rfl,hb2⟩;have HB2:=Hd (HB.o.trans (hb2.mono HB.o.size))
   clear hb2;go_wp2_with fail;go_ret;exact⟨rfl,HB2.o⟩
theorem E4 (w:World) (tx:Bool) (nx S:ByteArray) (wa:OA) (wl wc:Nat) (ga:OA) (gl gc:Nat) (ra:OA) (rl rcp:Nat) (ka:OA) (kl kc:Nat) (aa:OA) (al ac:Nat)
 (hs:∀W,K0 w W→Calls Tryz.prog 64 #[.agg #[.int .i64 1,.bool tx,.string nx,.slice wa wl wc,.slice ga gl gc,.slice ra rl rcp,.slice ka kl kc,.slice aa al ac]] W (aO W S)) :
 Calls Tryz.prog 34 #[.agg #[.int .i64 1,.bool tx,.string nx,.slice wa wl wc,.slice ga gl gc,.slice ra rl rcp,.slice ka kl kc,.slice aa al ac]] w (aO w S):=by
 have HC:=Hd hs;clear hs;obtain⟨W,hW⟩:∃W,W=w.alloc (.cells #[.int .i64 1,.bool tx,.string nx,.slice wa wl wc,.slice ga gl gc,.slice ra rl rcp,.slice ka kl kc,.slice aa al ac] 44):=⟨_,rfl⟩;have hkW:K0 w W:=by rw [hW];exact (aB.refl _ _).alloc _
 have HBW:=Hd (show Below w.heap.size w W by rw [hW];exact (Below.refl _ _).alloc (Nat.le_refl _) _);have HRC:=Hd (show aH W w.heap.size [.int .i64 1,.bool tx,.string nx,.slice wa wl wc,.slice ga gl gc,.slice ra rl rcp,.slice ka kl kc,.slice aa al ac] by rw [hW];exact aK w _ _ _ _ _ _ _ _ _);have HWE:=Hd hW;have HKW:=Hd hkW;clear hW hkW;go_enter Tryz.func34,Tryz.ntmps34;go_upto_region 1 with fail
 rw [←HWE.o];obtain⟨⟨x0,x1,x2,x3,x4,x5,x6,x7⟩,_⟩:=HRC.o.eight;have lx:=HRC.o.lt;go_wp2_with fail;refine (HC.o W HKW.o).mono ?_;rintro e w2 ⟨rfl,hb2⟩;have HB2:=Hd (HBW.o.trans (hb2.mono HBW.o.size));clear hb2;go_wp2_with fail;go_ret;exact⟨rfl,HB2.o⟩
def mM (m:Int) (x:Ny) (S:ByteArray):Prop:=∀(w:World) (D:Nat→Prop) (wa:OA) (wl wc:Nat) (ga:OA) (gl gc:Nat) (ra:OA) (rl rcp:Nat) (ka:OA) (kl kc:Nat) (aa:OA) (al ac:Nat),w.cell? ⟨0,0,none⟩=some (.int .i64 m)→NyR w D x wa wl wc ga gl gc ra rl rcp ka kl kc aa al ac→Calls Tryz.prog 34 #[.agg #[.int .i64 x.kind,.bool x.nt,.string ⟨x.nm.toArray⟩,.slice wa wl wc,.slice ga gl gc,.slice ra rl rcp,.slice ka kl kc,.slice aa al ac]] w (aO w S)
def exS:List UInt8:=[97,32,39,98,32,99,39,32,124,32,100,32,38,38,32,101]
def exA:List Px:=[⟨1,[97],[],[],[],false⟩]
def exB:List Px:=[⟨2,[98,32,99],[],[],[],false⟩]
def exD:List Px:=[⟨1,[100],[],[],[],false⟩]
def exE:List Px:=[⟨1,[101],[],[],[],false⟩]
def uT (vs:List (List Px)):Ny:=⟨1,false,[],Q8 vs,[],[],[],[]⟩
def Qa:Ny:=⟨2,false,[],[],[],[],[uT [exA,exB],uT [exD]].flatMap Ny.row,[]⟩
def O4:Ny:=⟨3,false,[],[],[],[],[Qa,uT [exE]].flatMap Ny.row,[]⟩
def exT:List Dt:=[O4].flatMap Ny.row
theorem Co:iR exS=.ok exT:=by kernel_rfl
end Go.Proofs.YtiihpbccabeoeaaGreatDoor
