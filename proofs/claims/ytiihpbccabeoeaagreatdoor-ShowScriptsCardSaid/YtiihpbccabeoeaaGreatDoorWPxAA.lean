/- The walk: a part. -/
import Derived.Test.YtiihpbccabeoeaaGreatDoorWPxZ
namespace Go.Proofs.YtiihpbccabeoeaaGreatDoor
open Go.RowKit
set_option linter.unusedVariables false
set_option maxRecDepth 100000
set_option maxHeartbeats 16000000
def iV (s:Bs) (ws:List Dt) (p:PR (List Dt)):PR (List Dt):=match p with
 | .error e=>.error e
 | .ok (b,r2)=>.ok (ndR 9 false s ws [] [] b [],r2)
def iN (K:Nat) (s:Bs) (p:PR (List Dt)):PR (List Dt):=match p with
 | .error e=>.error e
 | .ok (ws,r)=>if aG [59] r || aG [10] r then iV s ws (dQ (aC K) (aF r.tail)) else .error 2
theorem Nw {K:Nat} {ts:List Tk} (h:bO (aR (atF ts))=false):gM (aC K) (bC (aC K)) ts=.error 2:=by
 unfold gM;rw [if_neg (by rw [h];simp)]
theorem N0 {K:Nat} {ts:List Tk} (h:bO (aR (atF ts))=true) (h2:aT [105,110] (aF ts.tail)=true):gM (aC K) (bC (aC K)) ts=iN K (aR (atF ts)) (cW (bC (aC K)) ((aF ts.tail).tail.length+1) [] (aF ts.tail).tail):=by
 unfold gM iN;rw [if_pos h,if_pos h2];cases cW (bC (aC K)) ((aF ts.tail).tail.length+1) [] (aF ts.tail).tail with
 | error e=>rfl
 | ok p=>rfl
theorem Kp {K:Nat} {ts:List Tk} (h:bO (aR (atF ts))=true) (h2:aT [105,110] (aF ts.tail)=false):gM (aC K) (bC (aC K)) ts=iV (aR (atF ts)) [bG [.mk 3 [] [64] [] [] true]] (dQ (aC K) (aF (if aG [59] (aF ts.tail) then (aF ts.tail).tail else aF ts.tail))):=by
 unfold gM iV;rw [if_pos h,if_neg (by rw [h2];simp)];cases dQ (aC K) (aF (if aG [59] (aF ts.tail) then (aF ts.tail).tail else aF ts.tail))<;>rfl
theorem Bj (scr:Bs→Except Nat Unit) (n:Nat) (acc:List Dt) (ts:List Tk):cW scr (n+1) acc ts=if (atF ts).kind==1 then (match eC scr ts with
 | .error e=>.error e
 | .ok (w,r)=>cW scr n (acc++[bG w]) r) else .ok (acc,ts):=rfl
theorem yG {s:Bs} (h:bO s=true):s≠[]:=by
 intro e;subst e;cases h
theorem tR {T:List Tk} (h:SmT T) (i:Nat):(aR (atF (T.drop i))).length≤40000:=by
 rcases Nat.lt_or_ge i T.length with hi | hi
 ·rw [iH hi];have h1:=(h.2 _ (List.getElem_mem hi)).2;generalize T[i]=t at h1;unfold aR;split
  ·split
   ·next p hp=>
    split
    ·exact (A0 h1.2 (by rw [hp];exact List.mem_cons_self ..)).1
    ·exact Nat.zero_le _
   ·exact Nat.zero_le _
  ·exact Nat.zero_le _
 ·rw [jK hi];exact Nat.zero_le _
def EXs (gd A:Prop) (x:Nat) (res:PR (List Dt)):Prop:=(gd∧x=0∧A)∨(x≠0∧res=.error x)
def zT (x:Nat):Nat:=if x=0 then 2 else x
theorem qC {E:Nat→Prop} {G:Prop} {w wr:World} {Lo B ps:Nat} {tv:Value} {n:Nat} {T:List Tk} {X N:Nat} {Z:List Value} {pre post:List Dt} {vpre vpost:List Value} {k:Nat} {Ty:TypeId} {I x m:Nat} {la:OA} {lc:Nat} {ds:List Dt}
 (h:QR E G w wr Lo B ps tv n T X N Z pre post vpre vpost k Ty I x m la lc ds) (g:G):Rd wr (fun b=>Qd Lo B X b∧b≠N) (.sl k ds) (.slice la m lc):=by
 obtain⟨xs,h1,h2⟩:=h.own;exact lD.reads (D:=fun b=>Qd Lo B X b∧b≠N) ⟨xs,h1 g,h2⟩ (fun g hg=>⟨.inr (h.low g hg).1,(h.low g hg).2⟩)
theorem xP {D:Nat→Prop} {w w7:World} {N:Nat} (hN:N<w.heap.size) (h0:0<w.heap.size) (hw:w7=((w.setCell ⟨N,3,none⟩ (.slice (some ⟨w.heap.size+1,0,none⟩) 1 1)).alloc (.cells #[.int .i64 3,.string ⟨#[]⟩,.string ⟨#[64]⟩,.string ⟨#[]⟩,.slice none 0 0,.bool true] 67)).alloc (.cells #[.slice (some ⟨w.heap.size,0,none⟩) 1 1] 29)) (hD:∀b,w.heap.size≤b→D b) :
 aB (fun b=>b=N) w w7∧Rd w7 D (.sl 1 [bG [.mk 3 [] [64] [] [] true]]) (.slice (some ⟨w.heap.size+1,0,none⟩) 1 1):=by
 obtain⟨w1,hw1⟩:∃w1,w1=w.setCell ⟨N,3,none⟩ (.slice (some ⟨w.heap.size+1,0,none⟩) 1 1):=⟨_,rfl⟩;obtain⟨w2,hw2⟩:∃w2,w2=w1.alloc (.cells #[.int .i64 3,.string ⟨#[]⟩,.string ⟨#[64]⟩,.string ⟨#[]⟩,.slice none 0 0,.bool true] 67):=⟨_,rfl⟩;rw [←hw1,←hw2] at hw;have hs1:w1.heap.size=w.heap.size:=by rw [hw1];simp [World.setCell]
 have hs2:w2.heap.size=w.heap.size+1:=by rw [hw2];simp [hs1]
 have hk1:aB (fun b=>b=N) w w1:=by rw [hw1];exact (aB.refl _ _).setCell _ _ fun _=>rfl
 have hk2:K0 w1 w2:=by rw [hw2];exact (aB.refl _ _).alloc _
 have hk7:K0 w2 w7:=by rw [hw];exact (aB.refl _ _).alloc _
 refine⟨(hk1.trans hk2 (fun _ _ h=>h.elim)).trans hk7 (fun _ _ h=>h.elim),?_⟩;have h1:=mV (D:=D) (cs:=aY [.mk 3 [] [64] [] [] true]) (vs:=[.int .i64 3,.string ⟨#[]⟩,.string ⟨#[64]⟩,.string ⟨#[]⟩,.slice none 0 0,.bool true]) (k:=6) (m:=1) (by
  rw [jT,i8,xA];exact⟨.int _,.str _,.str _,.str _,by rw [show bG (Pt.word (.mk 3 [] [64] [] [] true))=.sl 6 [] from by show Dt.sl 6 (aY [])=_;rw [i8]];exact .nil _ _ _ (Nat.zero_le _),.bool _,trivial⟩) (by rw [k7];rfl) (by decide) hw2 (hD _ (by omega))
 rw [hs1] at h1;have h2:=mV (D:=D) (cs:=[bG [.mk 3 [] [64] [] [] true]]) (vs:=[.slice (some ⟨w.heap.size,0,none⟩) 1 1]) (k:=1) (m:=1) ⟨h1,trivial⟩ rfl (by decide) hw (hD _ (by omega));rw [hs2] at h2;exact h2
theorem My {K:Nat} {s:Bs} {wsl:List Dt} {w w3 wN w8 wE:World} {Lo B ps:Nat} {tv:Value} {n:Nat} {T:List Tk} {j j3 x x3 N:Nat} {gd:Prop} {res:PR (List Dt)} {wv:Value} {v:NV} (hk:aB (fun b=>b=ps) w w3) (hs:QS w3 Lo B ps tv n T j3 x3) (hc:ps<w.heap.size) (hN:N=w.heap.size+1) (hw:N<w3.heap.size)
 (hst:(gd∧x=0∧res=iV s wsl (dQ (aC K) (T.drop j)))∨(x≠0∧res=.error x)) (hb:(x=0∧QF false w3 (fun b=>Qd Lo B (w.heap.size+1) b∧b≠N) T (dQ (aC K) (T.drop j)) v.vals j3 x3)∨(x≠0∧x3=x))
 (hrd:gd→Rd w3 (fun b=>Qd Lo B (w.heap.size+1) b∧b≠N) (.sl 1 wsl) wv) (h1:aB (fun b=>b=N) w3 wN) (h8:aB (fun b=>b=w.heap.size) wN w8) (hsz:w8.heap.size=w3.heap.size) (hE:wE=w8.alloc (.cells v.vals.toArray 44)) :
 QS wE Lo B ps tv n T j3 x3∧aB (fun b=>b=ps) w wE∧QF false wE (Qd Lo B w.heap.size) T res [.int .i64 9,.bool false,.string ⟨s.toArray⟩,wv,.slice none 0 0,.slice none 0 0,.slice (some ⟨w3.heap.size,0,none⟩) 1 1,.slice none 0 0] j3 x3:=by
 have hB:=hs.ps;have hkE:K0 w8 wE:=by rw [hE];exact (aB.refl _ _).alloc _
 have hnsz:=h1.size;have h18:aB (fun b=>b=N∨b=w.heap.size) w3 w8:=(h1.mono (fun _ _ h=>.inl h)).trans (h8.mono (fun _ _ h=>.inr h)) k3;refine⟨((hs.keep h18 (fun b hb e=>by omega) (fun e=>by omega)).keep0 hkE),(hk.fresh h18 (fun b e=>by omega)).trans hkE (fun _ _ e=>e.elim),?_⟩;rcases hst with ⟨g,hx,hr⟩ | ⟨hx,hr⟩
 ·rcases hb with ⟨_,hq⟩ | ⟨h9,_⟩
  ·rcases hq.split (iV s wsl) (fun e=>rfl) (fun h=>by cases h) with ⟨ds,r,hr3,h0,hn,hd,hj,hl⟩ | ⟨h0,hr3⟩ | ⟨h0,ho,hr3⟩
   ·have k1:∀{dd vv},RdL w3 (fun b=>Qd Lo B (w.heap.size+1) b∧b≠N) dd vv→RdL w8 (Qd Lo B w.heap.size) dd vv:=fun hh=>(hh.keep h18 (fun b _ hb e=>by rcases e with e | e;exact hb.2 e;have:=hb.1;unfold Qd at this;omega)).mono (fun b _ hb=>by rcases hb.1 with h | h;exact .inl h;exact .inr (by omega));have h2:=mV (k:=8) (m:=1) (k1 hd) (by rw [hn.len]) (by decide) hE (.inr (by omega));rw [hsz] at h2
    have h3:RdL wE (Qd Lo B w.heap.size) [.sl 1 wsl] [wv]:=(k1 (dd:=[.sl 1 wsl]) (vv:=[wv]) ⟨hrd g,trivial⟩).keep hkE (fun _ _ _ h=>h);exact QF.good (ds:=ndR 9 false s wsl [] [] ds []) (r:=r) (by rw [hr,hr3];rfl) h0 ⟨_,_,_,_,_,_,_,_,rfl⟩ ⟨.int _,.bool _,.str _,h3.1,.nil _ _ _ (Nat.zero_le _),.nil _ _ _ (Nat.zero_le _),h2,.nil _ _ _ (Nat.zero_le _),trivial⟩ hj hl
   ·exact QF.err h0 (by rw [hr,hr3])
   ·exact QF.stk ho h0 (by rw [hr,hr3])
  ·exact absurd hx h9
 ·rcases hb with ⟨h9,_⟩ | ⟨_,rfl⟩
  ·exact absurd h9 hx
  ·exact QF.err hx hr
theorem Jh (K:Nat) (hcmd:eU K) (hscr:iP K) (w:World) (Lo B ps n i deep:Nat) (tv:Value) (T:List Tk) (h:QS w Lo B ps tv n T i 0) (hi:i≤T.length) (hd:deep+1+K=41) :
 Calls Tryz.prog 182 #[.pointer (some ⟨ps,0,none⟩),.int .i64 (deep:Nat)] w (iJ w Lo B ps tv n T i (2*K+2) false (gM (aC K) (bC (aC K)) (T.drop i))):=by
 obtain⟨res,hres⟩:∃res,res=gM (aC K) (bC (aC K)) (T.drop i):=⟨_,rfl⟩;rw [←hres];have hc1:Tryz.prog.cellsOf 29=1:=by kernel_rfl
 have hc6:=dN;have hc8:=bV;have hin2:(Tryz.prog.info? 29).map (fun i=>(i.zero,i.size,i.bytes))=some (some (.slice none 0 0),1,24):=by kernel_rfl
 obtain⟨i0,hi0,hz0,hz1,hz2⟩:=info_parts hin2;obtain⟨s,hs⟩:∃s,aR (atF (T.drop i))=s:=⟨_,rfl⟩;have HRES:=Hd hres;have HC:=Hd hcmd;have HSC:=Hd hscr;have HD:=Hd hd;have HPS:=Hd h.lt;have hmT:T.length≤20000:=h.sm.1;have hsl:s.length≤140737488351232:=by
  rw [←hs];have:=tR h.sm i;omega
 have HSS:=Hd hs;have HS:=Lib.hid h;clear hres hcmd hscr h hin2 hs;go_enter Tryz.func182,Tryz.ntmps182;go_wp2_with fail;obtain⟨W,hW⟩:∃W,W=w.alloc (.cells #[.int .i64 0,.bool false,.string ⟨#[]⟩,.slice none 0 0,.slice none 0 0,.slice none 0 0,.slice none 0 0,.slice none 0 0] 44):=⟨_,rfl⟩;have hk0:K0 w W:=by rw [hW];exact (aB.refl _ _).alloc _
 have HZ:=Hd (show aH W w.heap.size [.int .i64 0,.bool false,.string ⟨#[]⟩,.slice none 0 0,.slice none 0 0,.slice none 0 0,.slice none 0 0,.slice none 0 0] by rw [hW];exact aK w _ _ _ _ _ _ _ _ _);have hWs:W.heap.size=w.heap.size+1:=by rw [hW];simp
 rw [←hW];have HK:=Hd (hk0.mono (T:=fun b=>b=ps) (fun _ _ h=>h.elim));replace HS:=Hd (HS.o.keep0 hk0);have HWS:=Hd hWs;clear hk0 hW hWs;have HQ:=Hd (dH HS.o s HSS.o 0);refine HQ.o.mono ?_;rintro e wq ⟨rfl,dq,rfl⟩;obtain⟨W1,hw2⟩:∃W1,W1=W.drewN dq:=⟨_,rfl⟩;rw [←hw2];have hkw:K0 W W1:=by rw [hw2];exact (aB.refl _ _).drewN _
 replace HS:=Hd (HS.o.keep0 hkw);replace HZ:=Hd (HZ.o.keep hkw (fun h=>h));replace HK:=Hd (HK.o.trans hkw (fun _ _ h=>h.elim));have HDR:=Hd (show W1.heap.size=W.heap.size by rw [hw2];simp);clear hw2 hkw;go_upto_region 2 with fail;obtain⟨N,hN⟩:∃N,N=W1.heap.size:=⟨_,rfl⟩;obtain⟨W2,hW2⟩:∃W2,W2=W1.alloc (.cells #[.int .i64 9,.bool false,.string ⟨s.toArray⟩,.slice none 0 0,.slice none 0 0,.slice none 0 0,.slice none 0 0,.slice none 0 0] 44):=⟨_,rfl⟩
 rw [←hW2]
 try rw [←hN]
 have hkw:K0 W1 W2:=by rw [hW2];exact (aB.refl _ _).alloc _
 have HR:=Hd (show aH W2 N [.int .i64 9,.bool false,.string ⟨s.toArray⟩,.slice none 0 0,.slice none 0 0,.slice none 0 0,.slice none 0 0,.slice none 0 0] by rw [hW2,hN];exact aK W1 _ _ _ _ _ _ _ _ _);replace HS:=Hd (HS.o.keep0 hkw);replace HZ:=Hd (HZ.o.keep hkw (fun h=>h));replace HK:=Hd (HK.o.trans hkw (fun _ _ h=>h.elim));have HNE:=Hd (show N=w.heap.size+1 by rw [hN,HDR.o];exact HWS.o)
 have HNX:=Hd (show w.heap.size<N by have:=HNE.o;omega);clear hkw hW2 hN;obtain⟨⟨x0,x1,x2,x3,x4,x5,x6,x7⟩,⟨xf0,xf1,xf2,xf3,xf4,xf5,xf6,xf7⟩⟩:=HR.o.eight;have hNl:=HR.o.lt;cases hb:bO s with
 | false=>
  have HNM:=Hd (rW s W2 false hsl hb);have HBAD:=Hd (show ∀w D us,QF false w D T res us i 2 from fun _ _ _=>QF.err (by decide) (by rw [HRES.o,Nw (by rw [HSS.o];exact hb)]));clear hb;go_wp2_with fail;refine HNM.o.mono ?_;rintro e wq ⟨rfl,dq,rfl⟩;obtain⟨W3,hw2⟩:∃W3,W3=W2.drewN dq:=⟨_,rfl⟩;rw [←hw2];have hkw:K0 W2 W3:=by rw [hw2];exact (aB.refl _ _).drewN _
  replace HS:=Hd (HS.o.keep0 hkw);replace HZ:=Hd (HZ.o.keep hkw (fun h=>h));replace HK:=Hd (HK.o.trans hkw (fun _ _ h=>h.elim));replace HR:=Hd (HR.o.keep hkw (fun h=>h));clear hw2 hkw;clear x0 x1 x2 x3 x4 x5 x6 x7 xf0 xf1 xf2 xf3 xf4 xf5 xf6 xf7 hNl;go_wp2_with fail;refine (eD W3 Lo B ps n i 0 2 tv T HS.o).mono ?_;rintro e w4 ⟨rfl,hs4,hk4⟩;rw [if_pos rfl] at hs4;replace HS:=Hd hs4
  replace HZ:=Hd (HZ.o.keep hk4 (fun e=>by have:=HPS.o;omega));replace HK:=Hd (HK.o.trans hk4 k3);replace HR:=Hd (HR.o.keep hk4 (fun e=>by have:=HNX.o;have:=HPS.o;omega));clear hs4 hk4;obtain⟨⟨x0,x1,x2,x3,x4,x5,x6,x7⟩,⟨xf0,xf1,xf2,xf3,xf4,xf5,xf6,xf7⟩⟩:=HR.o.eight;have hNl:=HR.o.lt;have HF:=Hd (show QF false w4 (fun b=>Qd Lo B w.heap.size b∧b≠w.heap.size) T res [.int .i64 9,.bool false,.string ⟨s.toArray⟩,.slice none 0 0,.slice none 0 0,.slice none 0 0,.slice none 0 0,.slice none 0 0] i 2 from HBAD.o _ _ _)
  obtain⟨⟨z0,z1,z2,z3,z4,z5,z6,z7⟩,⟨zf0,zf1,zf2,zf3,zf4,zf5,zf6,zf7⟩⟩:=HZ.o.eight;have hzl:=HZ.o.lt;go_wp2_with fail;refine bodyPost_ret (v:=.agg #[.int .i64 9,.bool false,.string ⟨s.toArray⟩,.slice none 0 0,.slice none 0 0,.slice none 0 0,.slice none 0 0,.slice none 0 0]) (by simp [results,Tryz.results182,go_sem,z0,z1,z2,z3,z4,z5,z6,z7]) rfl ?_;obtain⟨f1,f2,f3⟩:=bS HK.o HS.o HPS.o HF.o (aJ w4 w.heap.size (.int .i64 9) (.bool false) (.string ⟨s.toArray⟩) (.slice none 0 0) (.slice none 0 0) (.slice none 0 0) (.slice none 0 0) (.slice none 0 0))
  exact⟨⟨9,false,⟨s.toArray⟩,none,0,0,none,0,0,none,0,0,none,0,0,none,0,0⟩,i,2,rfl,Nat.le_refl _,by omega,f1,f2,f3⟩
 | true=>
  have HNM:=Hd (rW s W2 true hsl hb);have HNK:=Hd hb;have hpos:i<T.length:=bQ (cJ (yG hb) (show aT s (T.drop i)=true by rw [cX HSS.o,beq_self_eq_true]));have hsum:IntKind.i64.wrap ((i:Int)+1)=(i:Int)+1:=IntWalk.i64_in _ (by omega);clear hb;go_wp2_with fail;refine HNM.o.mono ?_;rintro e wq ⟨rfl,dq,rfl⟩;obtain⟨W3,hw2⟩:∃W3,W3=W2.drewN dq:=⟨_,rfl⟩;rw [←hw2];have hkw:K0 W2 W3:=by rw [hw2];exact (aB.refl _ _).drewN _
  replace HS:=Hd (HS.o.keep0 hkw);replace HZ:=Hd (HZ.o.keep hkw (fun h=>h));replace HK:=Hd (HK.o.trans hkw (fun _ _ h=>h.elim));replace HR:=Hd (HR.o.keep hkw (fun h=>h));clear hw2 hkw;clear x0 x1 x2 x3 x4 x5 x6 x7 xf0 xf1 xf2 xf3 xf4 xf5 xf6 xf7 hNl;obtain⟨c0,c1,c2,f1,f2⟩:=HS.o.cells;have hlt:=HS.o.lt;go_wp2_with fail;obtain⟨W4,hw2⟩:∃W4,W4=W3.setCell ⟨ps,1,none⟩ (.int .i64 ((i:Int)+1)):=⟨_,rfl⟩
  rw [←hw2];obtain⟨hi1,hi2⟩:=eM HS.o (by omega);rw [←hw2] at hi1 hi2;replace HS:=Hd hi1;replace HZ:=Hd (HZ.o.keep hi2 (fun e=>by have:=HPS.o;omega));replace HK:=Hd (HK.o.trans hi2 k3);replace HR:=Hd (HR.o.keep hi2 (fun e=>by have:=HNX.o;have:=HPS.o;omega));clear hw2 hi1 hi2;clear c0 c1 c2 f1 f2 hlt;refine (cY W4 Lo B ps n (i+1) 0 tv T HS.o).mono ?_;rintro e W5 ⟨rfl,j,hl1,hl2,hl3,hl4,hsl4,hkl4⟩
  replace HS:=Hd hsl4;replace HZ:=Hd (HZ.o.keep hkl4 (fun e=>by have:=HPS.o;omega));replace HK:=Hd (HK.o.trans hkl4 k3);replace HR:=Hd (HR.o.keep hkl4 (fun e=>by have:=HNX.o;have:=HPS.o;omega));have HJ:=Hd (show i+1≤j∧j≤T.length from⟨hl1,hl2 (by omega)⟩);have HL:=Hd (show aF (T.drop i).tail=T.drop j by rw [aS];exact hl4.symm);clear hl1 hl2 hl3 hl4 hsl4 hkl4;obtain⟨s2,hs2⟩:∃s2,aR (atF (T.drop j))=s2:=⟨_,rfl⟩
  have HS2:=Hd hs2;obtain⟨bq,hbq⟩:∃bq,(s2==[105,110])=bq:=⟨_,rfl⟩;have HBQ:=Hd hbq;have HQ2:=Hd (dH HS.o s2 hs2 0);clear hs2;go_wp2_with fail;refine HQ2.o.mono ?_;rintro e wq ⟨rfl,dq,rfl⟩;obtain⟨W6,hw2⟩:∃W6,W6=W5.drewN dq:=⟨_,rfl⟩;rw [←hw2];have hkw:K0 W5 W6:=by rw [hw2];exact (aB.refl _ _).drewN _
  replace HS:=Hd (HS.o.keep0 hkw);replace HZ:=Hd (HZ.o.keep hkw (fun h=>h));replace HK:=Hd (HK.o.trans hkw (fun _ _ h=>h.elim));replace HR:=Hd (HR.o.keep hkw (fun h=>h));clear hw2 hkw;go_upto_if 29 with fail;go_cut [6] from 28 to 85 (fun v6 wx=>∃(gd:Prop) (j x:Nat) (wa:OA) (wm wc:Nat) (wsl:List Dt) (wy:World),wy=wx∧Hid (i+1≤j∧j≤T.length)∧Hid (QS wy Lo B ps tv n T j x)∧Hid (aB (fun b=>b=ps) w wy)∧Hid (aH wy w.heap.size [.int .i64 0,.bool false,.string ⟨#[]⟩,.slice none 0 0,.slice none 0 0,.slice none 0 0,.slice none 0 0,.slice none 0 0])∧Hid (aH wy N [.int .i64 9,.bool false,.string ⟨s.toArray⟩,.slice wa wm wc,.slice none 0 0,.slice none 0 0,.slice none 0 0,.slice none 0 0])∧Hid (gd→Rd wy (fun b=>Qd Lo B (w.heap.size+1) b∧b≠N) (.sl 1 wsl) (.slice wa wm wc))∧Hid ((gd∧x=0∧res=iV s wsl (dQ (aC K) (aF (T.drop j))))∨(x≠0∧res=.error x)))
  case first=>
   cases bq with
   | true=>
    have HIN:=Hd (show aT [105,110] (T.drop j)=true by rw [cX HS2.o];exact HBQ.o);have hjl:=bQ (cJ (by decide) HIN.o);have hsumJ:IntKind.i64.wrap ((j:Int)+1)=(j:Int)+1:=IntWalk.i64_in _ (by omega);have HRW:=Hd (show res=iN K s (cW (bC (aC K)) (T.length - (j+1)+1) [] (T.drop (j+1))) by
     rw [HRES.o,N0 (by rw [HSS.o];exact HNK.o) (by rw [HL.o];exact HIN.o),HSS.o,HL.o,aS,List.length_drop])
    obtain⟨c0,c1,c2,f1,f2⟩:=HS.o.cells;have hlt:=HS.o.lt;go_wp2_with fail;obtain⟨W7,hw2⟩:∃W7,W7=W6.setCell ⟨ps,1,none⟩ (.int .i64 ((j:Int)+1)):=⟨_,rfl⟩;rw [←hw2];obtain⟨hi1,hi2⟩:=eM HS.o (by omega);rw [←hw2] at hi1 hi2;replace HS:=Hd hi1;replace HZ:=Hd (HZ.o.keep hi2 (fun e=>by have:=HPS.o;omega));replace HK:=Hd (HK.o.trans hi2 k3);replace HR:=Hd (HR.o.keep hi2 (fun e=>by have:=HNX.o;have:=HPS.o;omega))
    clear hw2 hi1 hi2;clear c0 c1 c2 f1 f2 hlt;have HG:=Hd (show QR (fun _=>False) True w W7 Lo B ps tv n T (w.heap.size+1) N [.int .i64 0,.bool false,.string ⟨#[]⟩,.slice none 0 0,.slice none 0 0,.slice none 0 0,.slice none 0 0,.slice none 0 0] [.int 9,.bool false,.str s] [.sl 2 [],.sl 2 [],.sl 8 [],.sl 2 []] [.int .i64 9,.bool false,.string ⟨s.toArray⟩] [.slice none 0 0,.slice none 0 0,.slice none 0 0,.slice none 0 0] 1 29 (j+1) 0 0 none 0 [] from⟨HS.o,HK.o,HZ.o,HR.o,⟨[],fun _=>trivial,World.ownsRow_nil _ _ _ _⟩,fun g hg=>(by cases hg),fun g hg=>(by cases hg),fun _=>⟨.int _,.bool _,.str _,trivial⟩,fun _=>⟨.nil _ _ _ (Nat.zero_le _),.nil _ _ _ (Nat.zero_le _),.nil _ _ _ (Nat.zero_le _),.nil _ _ _ (Nat.zero_le _),trivial⟩⟩)
    have HJ0:=Hd (show i+1≤j from HJ.o.1);clear HS HK HZ HR HJ;go_loopg [6] (T.length+2000 - (j+1)) (fun g v6 wr=>∃(gd:Prop) (I x m:Nat) (la:OA) (lc:Nat) (acc:List Dt),((x=0∧g=T.length+2000 - I)∨(x≠0∧g=0))∧j+1≤I∧I≤T.length∧(x=0→m≤I)∧Hid (QR (fun _=>False) gd w wr Lo B ps tv n T (w.heap.size+1) N [.int .i64 0,.bool false,.string ⟨#[]⟩,.slice none 0 0,.slice none 0 0,.slice none 0 0,.slice none 0 0,.slice none 0 0] [.int 9,.bool false,.str s] [.sl 2 [],.sl 2 [],.sl 8 [],.sl 2 []] [.int .i64 9,.bool false,.string ⟨s.toArray⟩] [.slice none 0 0,.slice none 0 0,.slice none 0 0,.slice none 0 0] 1 29 I x m la lc acc)∧Hid ((gd∧x=0∧∃M,T.length - I+1≤M∧res=iN K s (cW (bC (aC K)) M acc (T.drop I)))∨(x≠0∧res=.error x)))
    case atStart=>exact⟨True,j+1,0,0,none,0,[],.inl ⟨rfl,rfl⟩,Nat.le_refl _,by omega,fun _=>Nat.zero_le _,HG,Hd (.inl ⟨trivial,rfl,_,Nat.le_refl _,HRW.o⟩)⟩
    case round=>
     clear HG HRW;obtain⟨gd,I,x,m,la,lc,acc,hgk,hjI,hIT,hmI,HG,HST⟩:=hrel;have HGK:=Hd hgk;clear hgk;obtain⟨c0,c1,c2,f1,f2⟩:=HG.o.rs.cells;have hlt:=HG.o.rs.lt;by_cases hx:x=0
     ·subst hx;obtain⟨g,M,hM,hr⟩:gd∧∃M,T.length - I+1≤M∧res=iN K s (cW (bC (aC K)) M acc (T.drop I)):=by
       rcases HST.o with ⟨g,_,h9⟩ | ⟨h9,_⟩
       ·exact⟨g,h9⟩
       ·exact absurd rfl h9
      obtain⟨M,rfl⟩:∃M',M=M'+1:=⟨M - 1,by omega⟩;have HG1:=Hd g;have hmI:=hmI rfl;rw [Bj] at hr;clear g HST;cases hk:((atF (T.drop I)).kind==1) with
      | false=>
       have HEX:=Hd (show EXs gd (res=iN K s (.ok (acc,T.drop I))) 0 res from .inl ⟨HG1.o,rfl,by rw [hr,hk,if_neg (by simp)]⟩);have HQW:=Hd (lB HG.o.rs false hk 0);clear hk hr;go_wp2_with fail;refine HQW.o.mono ?_;rintro e wq ⟨rfl,dq,rfl⟩;obtain⟨wk,hw2⟩:∃wk,wk=wr.drewN dq:=⟨_,rfl⟩;rw [←hw2];have hkw:K0 wr wk:=by rw [hw2];exact (aB.refl _ _).drewN _
       replace HG:=Hd (HG.o.keep0 hkw);clear hw2 hkw;clear c0 c1 c2 f1 f2 hlt;have HIB:=Hd (show i≤I∧I≤T.length+(2*K+2) by have:=HJ0.o;omega);by_cases hor:aG [59] (T.drop I)=true∨aG [10] (T.drop I)=true
       ·have hIl:I<T.length:=by rcases hor with h | h<;>exact bQ (dO h)
        have hsumI:IntKind.i64.wrap ((I:Int)+1)=(I:Int)+1:=IntWalk.i64_in _ (by omega);cases o1:aG [59] (T.drop I) with
        | true=>
         have HQ:=Hd (a8 HG.o.rs [59] true o1 0);clear o1;have HE:=Hd (show EXs gd (res=iV s acc (dQ (aC K) (aF (T.drop (I+1))))) 0 res from by
          rcases HEX.o with ⟨g,h0,hr⟩ | h
          ·refine .inl ⟨g,h0,?_⟩;rw [hr];unfold iN;dsimp only;rw [if_pos (by rw [Bool.or_eq_true];exact hor),aS]
          ·exact .inr h)
         clear hor HEX;go_wp2_with fail;refine HQ.o.mono ?_;rintro e wq ⟨rfl,dq,rfl⟩;obtain⟨wa,hwa⟩:∃wa,wa=wk.drewN dq:=⟨_,rfl⟩;rw [←hwa];replace HG:=Hd (HG.o.keep0 (show K0 wk wa by rw [hwa];exact (aB.refl _ _).drewN _));clear hwa;obtain⟨c0,c1,c2,f1,f2⟩:=HG.o.rs.cells;have hlt:=HG.o.rs.lt;go_wp2_with fail;go_meet
         case rel=>
          have hG:=HG.o.inc HPS.o (Nat.lt_succ_self _) HNX.o (by omega);have hall:=fun g=>hG.all g;exact⟨gd,I+1,0,la,m,lc,acc,_,rfl,Hd ⟨by have:=HJ0.o;omega,by omega⟩,Hd hG.rs,Hd hG.kp,Hd hG.zr,Hd hG.rc,Hd (fun g=>qC hG g),Hd HE.o⟩
        | false=>
         have o2:aG [10] (T.drop I)=true:=by rcases hor with h | h;rw [h] at o1;cases o1;exact h
         have HQ:=Hd (a8 HG.o.rs [59] false o1 0);have HQ2:=Hd (fun q=>a8 HG.o.rs [10] true o2 q);clear o1 o2;have HE:=Hd (show EXs gd (res=iV s acc (dQ (aC K) (aF (T.drop (I+1))))) 0 res from by
          rcases HEX.o with ⟨g,h0,hr⟩ | h
          ·refine .inl ⟨g,h0,?_⟩;rw [hr];unfold iN;dsimp only;rw [if_pos (by rw [Bool.or_eq_true];exact hor),aS]
          ·exact .inr h)
         clear hor HEX;go_wp2_with fail;refine HQ.o.mono ?_;rintro e wq ⟨rfl,dq,rfl⟩;go_wp2_with fail;refine (HQ2.o dq).mono ?_;rintro e wq ⟨rfl,dq2,rfl⟩;obtain⟨wa,hwa⟩:∃wa,wa=wk.drewN dq2:=⟨_,rfl⟩;rw [←hwa];replace HG:=Hd (HG.o.keep0 (show K0 wk wa by rw [hwa];exact (aB.refl _ _).drewN _));clear hwa;obtain⟨c0,c1,c2,f1,f2⟩:=HG.o.rs.cells;have hlt:=HG.o.rs.lt;go_wp2_with fail
         go_meet
         case rel=>
          have hG:=HG.o.inc HPS.o (Nat.lt_succ_self _) HNX.o (by omega);have hall:=fun g=>hG.all g;exact⟨gd,I+1,0,la,m,lc,acc,_,rfl,Hd ⟨by have:=HJ0.o;omega,by omega⟩,Hd hG.rs,Hd hG.kp,Hd hG.zr,Hd hG.rc,Hd (fun g=>qC hG g),Hd HE.o⟩
       ·obtain⟨o1,o2⟩:=not_or.1 hor;rw [Bool.not_eq_true] at o1 o2;obtain⟨xf,hxf⟩:∃xf,xf=zT 0:=⟨_,rfl⟩;have HBAD:=Hd (show ∀w D us,QF false w D T res us I xf from fun _ _ _=>by
         rcases HEX.o with ⟨g,h0,hr⟩ | ⟨h0,hr⟩
         ·rw [show zT 0=2 from if_pos h0] at hxf;refine QF.err (by omega) ?_;rw [hr,hxf];unfold iN;dsimp only;rw [o1,o2,if_neg (by simp)]
         ·rw [show zT 0=0 from if_neg h0] at hxf;exact QF.err (by omega) (by rw [hr,hxf]))
        have HXF:=Hd hxf;have HQ:=Hd (a8 HG.o.rs [59] false o1 0);have HQ2:=Hd (fun q=>a8 HG.o.rs [10] false o2 q);clear hor o1 o2 HEX hxf;go_wp2_with fail;refine HQ.o.mono ?_;rintro e wq ⟨rfl,dq,rfl⟩;go_wp2_with fail;refine (HQ2.o dq).mono ?_;rintro e wq ⟨rfl,dq2,rfl⟩;obtain⟨wa,hwa⟩:∃wa,wa=wk.drewN dq2:=⟨_,rfl⟩;rw [←hwa];replace HG:=Hd (HG.o.keep0 (show K0 wk wa by rw [hwa];exact (aB.refl _ _).drewN _))
        clear hwa;go_wp2_with fail;refine (eD wa Lo B ps n I 0 2 tv T HG.o.rs).mono ?_;rintro e wy ⟨rfl,hsy,hky⟩;have hsy:=(show QS wy Lo B ps tv n T I xf by rw [HXF.o];exact hsy);have hG:=HG.o.move HPS.o (Nat.lt_succ_self _) HNX.o hky hsy;have HS:=Hd hG.rs;have HK:=Hd hG.kp;have HZ:=Hd hG.zr;have HR:=Hd (show aH wy N [.int .i64 9,.bool false,.string ⟨s.toArray⟩,.slice la m lc,.slice none 0 0,.slice none 0 0,.slice none 0 0,.slice none 0 0] from hG.rc)
        clear hsy hky hG;obtain⟨⟨x0,x1,x2,x3,x4,x5,x6,x7⟩,⟨xf0,xf1,xf2,xf3,xf4,xf5,xf6,xf7⟩⟩:=HR.o.eight;have hNl:=HR.o.lt;have HF:=Hd (show QF false wy (fun b=>Qd Lo B w.heap.size b∧b≠w.heap.size) T res [.int .i64 9,.bool false,.string ⟨s.toArray⟩,.slice la m lc,.slice none 0 0,.slice none 0 0,.slice none 0 0,.slice none 0 0] I xf from HBAD.o _ _ _);obtain⟨⟨z0,z1,z2,z3,z4,z5,z6,z7⟩,⟨zf0,zf1,zf2,zf3,zf4,zf5,zf6,zf7⟩⟩:=HZ.o.eight
        have hzl:=HZ.o.lt;go_wp2_with fail;refine bodyPost_ret (v:=.agg #[.int .i64 9,.bool false,.string ⟨s.toArray⟩,.slice la m lc,.slice none 0 0,.slice none 0 0,.slice none 0 0,.slice none 0 0]) (by simp [results,Tryz.results182,go_sem,z0,z1,z2,z3,z4,z5,z6,z7]) rfl ?_;obtain⟨f1,f2,f3⟩:=bS HK.o HS.o HPS.o HF.o (aJ wy w.heap.size (.int .i64 9) (.bool false) (.string ⟨s.toArray⟩) (.slice la m lc) (.slice none 0 0) (.slice none 0 0) (.slice none 0 0) (.slice none 0 0))
        exact⟨⟨9,false,⟨s.toArray⟩,la,m,lc,none,0,0,none,0,0,none,0,0,none,0,0⟩,I,xf,rfl,HIB.o.1,HIB.o.2,f1,f2,f3⟩
      | true=>
       rw [hk,if_pos rfl] at hr;have HR1:=Hd hr;have HQW:=Hd (lB HG.o.rs true hk 0);have hIl:=bQ (nR hk);clear hk hr;go_wp2_with fail;refine HQW.o.mono ?_;rintro e wq ⟨rfl,dq,rfl⟩;obtain⟨wk,hw2⟩:∃wk,wk=wr.drewN dq:=⟨_,rfl⟩;rw [←hw2];have hkw:K0 wr wk:=by rw [hw2];exact (aB.refl _ _).drewN _
       replace HG:=Hd (HG.o.keep0 hkw);clear hw2 hkw;clear c0 c1 c2 f1 f2 hlt;go_wp2_with fail;refine (kI K HSC.o wk Lo B ps n I deep tv T HD.o HG.o.rs).mono ?_;rintro e w4 ⟨wd,ta,tc,J,y,rfl,hpt,hsm,hj1,hj2,hs4,hk4,hor⟩;have hJT:=hj2 hIT;obtain⟨wl,hwl⟩:∃wl,wl=wd.length:=⟨_,rfl⟩;rw [←hwl];have hnk:=HG.o.rc.lt;obtain⟨xs,hown4,hrec4,hF⟩:=HG.o.more (G':=True) (y:=y) (J:=J) (us:=[.slice ta wl tc]) (d2:=[bG wd]) HPS.o (Nat.lt_succ_self _) HNX.o (by have:=HNE.o;omega) hk4 hs4 (fun _=>HG1.o) (fun _=>⟨by rw [hwl];exact (nC hpt).mono (fun b _ hb=>.inl hb),trivial⟩) (fun b hb=>hb.elim)
       have HF:=Hd hF;have HOR:=Hd (show (y=0∧I+1≤J∧res=iN K s (cW (bC (aC K)) M (acc++[bG wd]) (T.drop J)))∨(y≠0∧res=.error y) from by
        rcases hor with ⟨h1,h2,_,hw⟩ | ⟨h1,hw⟩
        ·exact .inl ⟨h1,by omega,by rw [HR1.o,hw,h2]⟩
        ·exact .inr ⟨h1,by rw [HR1.o,hw];rfl⟩)
       have hrec4':=(show aH w4 N [.int .i64 9,.bool false,.string ⟨s.toArray⟩,.slice la m lc,.slice none 0 0,.slice none 0 0,.slice none 0 0,.slice none 0 0] from hrec4);obtain⟨⟨x0,x1,x2,x3,x4,x5,x6,x7⟩,⟨xf0,xf1,xf2,xf3,xf4,xf5,xf6,xf7⟩⟩:=hrec4'.eight;have hNl:=hrec4.lt;have HJ1:=Hd hj1;clear hF hrec4 hrec4' hs4 hk4 hpt hsm hor hwl hnk hj1 hj2;go_wp2_with (at_builtin;refine wpList_append_lies _ rfl (.tmp 50) (.tmp 52) _ rfl 0 29 i0 _ 1 24 Tryz.underlying39 hi0 hz0 hz1 hz2 rfl (by omega) (.slice la m lc) m xs rfl (hown4.alloc _) ⟨w4.heap.size,0,none⟩ 1 1 [.slice ta wl tc] rfl rfl (World.news_of_block (cs:=#[.slice ta wl tc]) (t:=29) (fr:=(0,0)) (heap_alloc_new w4 _)) (by simp [Value.oneCell']) (by omega) (by unfold maxLen;omega) (by omega) (by simp) (w4.heap.size+1) (by simp) ?_;intro gg cap w5 hown2 hgrow hat hlt5;have hG5:=HF.o gg (m+1) cap w5 _ hown2 ((aB.refl _ _).alloc _) hgrow (hat.imp id (fun h=>by omega));obtain⟨hrec5,hq5,hk5⟩:=hG5;have hrec5:=(show aH w5 N [.int .i64 9,.bool false,.string ⟨s.toArray⟩,.slice la m lc,.slice none 0 0,.slice none 0 0,.slice none 0 0,.slice none 0 0] from hrec5);obtain⟨⟨z0,z1,z2,z3,z4,z5,z6,z7⟩,⟨zf0,zf1,zf2,zf3,zf4,zf5,zf6,zf7⟩⟩:=hrec5.eight;have hN5:=hrec5.lt;have HG5:=Hd (show QR (fun _=>False) True w (w5.setCell ⟨N,3,none⟩ (.slice (some ⟨gg,0,none⟩) (m+1) cap)) Lo B ps tv n T (w.heap.size+1) N [.int .i64 0,.bool false,.string ⟨#[]⟩,.slice none 0 0,.slice none 0 0,.slice none 0 0,.slice none 0 0,.slice none 0 0] [.int 9,.bool false,.str s] [.sl 2 [],.sl 2 [],.sl 8 [],.sl 2 []] [.int .i64 9,.bool false,.string ⟨s.toArray⟩] [.slice none 0 0,.slice none 0 0,.slice none 0 0,.slice none 0 0] 1 29 J y (m+1) (some ⟨gg,0,none⟩) cap (acc++[bG wd]) from hq5);clear hrec5 hq5 hk5;clear hown2 hgrow hat)
       rcases HOR.o with ⟨h1,h2,hr⟩ | ⟨h1,hr⟩
       ·go_roundg (T.length+2000 - J)
        case measure=>have:=HGK.o;omega
        case rel=>exact⟨True,J,y,m+1,_,_,acc++[bG wd],.inl ⟨h1,rfl⟩,by omega,hJT,fun _=>by omega,HG5,Hd (.inl ⟨trivial,h1,M,by omega,hr⟩)⟩
       ·go_roundg 0
        case measure=>have:=HGK.o;omega
        case rel=>exact⟨True,J,y,m+1,_,_,acc++[bG wd],.inr ⟨h1,rfl⟩,by have:=HJ1.o;omega,hJT,fun h=>absurd h h1,HG5,Hd (.inr ⟨h1,hr⟩)⟩
     ·have t:((x:Int)==0)=false:=by rw [beq_eq_false_iff_ne];omega
      have HEX:=Hd (show EXs gd (res=iN K s (.ok (acc,T.drop I))) x res from .inr ⟨hx,by rcases HST.o with ⟨_,h9,_⟩ | ⟨_,h9⟩;exact absurd h9 hx;exact h9⟩);clear hx HST;go_upto_region 12 with fail;clear c0 c1 c2 f1 f2 hlt;have HIB:=Hd (show i≤I∧I≤T.length+(2*K+2) by have:=HJ0.o;omega);by_cases hor:aG [59] (T.drop I)=true∨aG [10] (T.drop I)=true
      ·have hIl:I<T.length:=by rcases hor with h | h<;>exact bQ (dO h)
       have hsumI:IntKind.i64.wrap ((I:Int)+1)=(I:Int)+1:=IntWalk.i64_in _ (by omega);cases o1:aG [59] (T.drop I) with
       | true=>
        have HQ:=Hd (a8 HG.o.rs [59] true o1 0);clear o1;have HE:=Hd (show EXs gd (res=iV s acc (dQ (aC K) (aF (T.drop (I+1))))) x res from by
         rcases HEX.o with ⟨g,h0,hr⟩ | h
         ·refine .inl ⟨g,h0,?_⟩;rw [hr];unfold iN;dsimp only;rw [if_pos (by rw [Bool.or_eq_true];exact hor),aS]
         ·exact .inr h)
        clear hor HEX;go_wp2_with fail;refine HQ.o.mono ?_;rintro e wq ⟨rfl,dq,rfl⟩;obtain⟨wa,hwa⟩:∃wa,wa=wr.drewN dq:=⟨_,rfl⟩;rw [←hwa];replace HG:=Hd (HG.o.keep0 (show K0 wr wa by rw [hwa];exact (aB.refl _ _).drewN _));clear hwa;obtain⟨c0,c1,c2,f1,f2⟩:=HG.o.rs.cells;have hlt:=HG.o.rs.lt;go_wp2_with fail;go_meet
        case rel=>
         have hG:=HG.o.inc HPS.o (Nat.lt_succ_self _) HNX.o (by omega);have hall:=fun g=>hG.all g;exact⟨gd,I+1,x,la,m,lc,acc,_,rfl,Hd ⟨by have:=HJ0.o;omega,by omega⟩,Hd hG.rs,Hd hG.kp,Hd hG.zr,Hd hG.rc,Hd (fun g=>qC hG g),Hd HE.o⟩
       | false=>
        have o2:aG [10] (T.drop I)=true:=by rcases hor with h | h;rw [h] at o1;cases o1;exact h
        have HQ:=Hd (a8 HG.o.rs [59] false o1 0);have HQ2:=Hd (fun q=>a8 HG.o.rs [10] true o2 q);clear o1 o2;have HE:=Hd (show EXs gd (res=iV s acc (dQ (aC K) (aF (T.drop (I+1))))) x res from by
         rcases HEX.o with ⟨g,h0,hr⟩ | h
         ·refine .inl ⟨g,h0,?_⟩;rw [hr];unfold iN;dsimp only;rw [if_pos (by rw [Bool.or_eq_true];exact hor),aS]
         ·exact .inr h)
        clear hor HEX;go_wp2_with fail;refine HQ.o.mono ?_;rintro e wq ⟨rfl,dq,rfl⟩;go_wp2_with fail;refine (HQ2.o dq).mono ?_;rintro e wq ⟨rfl,dq2,rfl⟩;obtain⟨wa,hwa⟩:∃wa,wa=wr.drewN dq2:=⟨_,rfl⟩;rw [←hwa];replace HG:=Hd (HG.o.keep0 (show K0 wr wa by rw [hwa];exact (aB.refl _ _).drewN _));clear hwa;obtain⟨c0,c1,c2,f1,f2⟩:=HG.o.rs.cells;have hlt:=HG.o.rs.lt;go_wp2_with fail
        go_meet
        case rel=>
         have hG:=HG.o.inc HPS.o (Nat.lt_succ_self _) HNX.o (by omega);have hall:=fun g=>hG.all g;exact⟨gd,I+1,x,la,m,lc,acc,_,rfl,Hd ⟨by have:=HJ0.o;omega,by omega⟩,Hd hG.rs,Hd hG.kp,Hd hG.zr,Hd hG.rc,Hd (fun g=>qC hG g),Hd HE.o⟩
      ·obtain⟨o1,o2⟩:=not_or.1 hor;rw [Bool.not_eq_true] at o1 o2;obtain⟨xf,hxf⟩:∃xf,xf=zT x:=⟨_,rfl⟩;have HBAD:=Hd (show ∀w D us,QF false w D T res us I xf from fun _ _ _=>by
        rcases HEX.o with ⟨g,h0,hr⟩ | ⟨h0,hr⟩
        ·rw [show zT x=2 from if_pos h0] at hxf;refine QF.err (by omega) ?_;rw [hr,hxf];unfold iN;dsimp only;rw [o1,o2,if_neg (by simp)]
        ·rw [show zT x=x from if_neg h0] at hxf;exact QF.err (by omega) (by rw [hr,hxf]))
       have HXF:=Hd hxf;have HQ:=Hd (a8 HG.o.rs [59] false o1 0);have HQ2:=Hd (fun q=>a8 HG.o.rs [10] false o2 q);clear hor o1 o2 HEX hxf;go_wp2_with fail;refine HQ.o.mono ?_;rintro e wq ⟨rfl,dq,rfl⟩;go_wp2_with fail;refine (HQ2.o dq).mono ?_;rintro e wq ⟨rfl,dq2,rfl⟩;obtain⟨wa,hwa⟩:∃wa,wa=wr.drewN dq2:=⟨_,rfl⟩;rw [←hwa];replace HG:=Hd (HG.o.keep0 (show K0 wr wa by rw [hwa];exact (aB.refl _ _).drewN _))
       clear hwa;go_wp2_with fail;refine (eD wa Lo B ps n I x 2 tv T HG.o.rs).mono ?_;rintro e wy ⟨rfl,hsy,hky⟩;have hsy:=(show QS wy Lo B ps tv n T I xf by rw [HXF.o];exact hsy);have hG:=HG.o.move HPS.o (Nat.lt_succ_self _) HNX.o hky hsy;have HS:=Hd hG.rs;have HK:=Hd hG.kp;have HZ:=Hd hG.zr;have HR:=Hd (show aH wy N [.int .i64 9,.bool false,.string ⟨s.toArray⟩,.slice la m lc,.slice none 0 0,.slice none 0 0,.slice none 0 0,.slice none 0 0] from hG.rc)
       clear hsy hky hG;obtain⟨⟨x0,x1,x2,x3,x4,x5,x6,x7⟩,⟨xf0,xf1,xf2,xf3,xf4,xf5,xf6,xf7⟩⟩:=HR.o.eight;have hNl:=HR.o.lt;have HF:=Hd (show QF false wy (fun b=>Qd Lo B w.heap.size b∧b≠w.heap.size) T res [.int .i64 9,.bool false,.string ⟨s.toArray⟩,.slice la m lc,.slice none 0 0,.slice none 0 0,.slice none 0 0,.slice none 0 0] I xf from HBAD.o _ _ _);obtain⟨⟨z0,z1,z2,z3,z4,z5,z6,z7⟩,⟨zf0,zf1,zf2,zf3,zf4,zf5,zf6,zf7⟩⟩:=HZ.o.eight
       have hzl:=HZ.o.lt;go_wp2_with fail;refine bodyPost_ret (v:=.agg #[.int .i64 9,.bool false,.string ⟨s.toArray⟩,.slice la m lc,.slice none 0 0,.slice none 0 0,.slice none 0 0,.slice none 0 0]) (by simp [results,Tryz.results182,go_sem,z0,z1,z2,z3,z4,z5,z6,z7]) rfl ?_;obtain⟨f1,f2,f3⟩:=bS HK.o HS.o HPS.o HF.o (aJ wy w.heap.size (.int .i64 9) (.bool false) (.string ⟨s.toArray⟩) (.slice la m lc) (.slice none 0 0) (.slice none 0 0) (.slice none 0 0) (.slice none 0 0))
       exact⟨⟨9,false,⟨s.toArray⟩,la,m,lc,none,0,0,none,0,0,none,0,0,none,0,0⟩,I,xf,rfl,HIB.o.1,HIB.o.2,f1,f2,f3⟩
   | false=>
    have HRW:=Hd (show res=iV s [bG [.mk 3 [] [64] [] [] true]] (dQ (aC K) (aF (if aG [59] (T.drop j) then (T.drop j).tail else T.drop j))) by
     rw [HRES.o,Kp (by rw [HSS.o];exact HNK.o) (by rw [HL.o,cX HS2.o];exact HBQ.o),HSS.o,HL.o])
    obtain⟨⟨x0,x1,x2,x3,x4,x5,x6,x7⟩,⟨xf0,xf1,xf2,xf3,xf4,xf5,xf6,xf7⟩⟩:=HR.o.eight;have hNl:=HR.o.lt;go_upto_region 17 with fail;obtain⟨W7,hW7⟩:∃W7,W7=((W6.setCell ⟨N,3,none⟩ (.slice (some ⟨W6.heap.size+1,0,none⟩) 1 1)).alloc (.cells #[.int .i64 3,.string ⟨#[]⟩,.string ⟨#[64]⟩,.string ⟨#[]⟩,.slice none 0 0,.bool true] 67)).alloc (.cells #[.slice (some ⟨W6.heap.size,0,none⟩) 1 1] 29):=⟨_,rfl⟩;rw [←hW7]
    have HW7:=Hd (xP (D:=fun b=>Qd Lo B (w.heap.size+1) b∧b≠N) hNl (by have:=HNE.o;omega) hW7 (fun b hb=>⟨.inr (by have:=HNE.o;omega),by omega⟩));have hkN:=HW7.o.1;have hnx:=HNX.o;have hpx:=HPS.o;replace HS:=Hd (HS.o.keep hkN (fun b hb (e:b=N)=>by have:=HS.o.ps;omega) (fun (e:ps=N)=>by omega));replace HK:=Hd (HK.o.fresh hkN (fun b (e:b=N)=>by omega));replace HZ:=Hd (HZ.o.keep hkN (fun (e:w.heap.size=N)=>by omega))
    have HR7:=Hd (show aH W7 N [.int .i64 9,.bool false,.string ⟨s.toArray⟩,.slice (some ⟨W6.heap.size+1,0,none⟩) 1 1,.slice none 0 0,.slice none 0 0,.slice none 0 0,.slice none 0 0] by rw [hW7];exact ((HR.o.set 3 _).keep (S:=fun _=>False) ((aB.refl _ _).alloc _) (fun h=>h)).keep (S:=fun _=>False) ((aB.refl _ _).alloc _) (fun h=>h));clear hW7 hkN x0 x1 x2 x3 x4 x5 x6 x7 xf0 xf1 xf2 xf3 xf4 xf5 xf6 xf7 hNl hnx hpx HR
    have HRD:=Hd HW7.o.2;cases o1:aG [59] (T.drop j) with
    | true=>
     have HQ:=Hd (a8 HS.o [59] true o1 0);have hjl:=bQ (dO o1);have hsumJ:IntKind.i64.wrap ((j:Int)+1)=(j:Int)+1:=IntWalk.i64_in _ (by omega);have HE:=Hd (show res=iV s [bG [.mk 3 [] [64] [] [] true]] (dQ (aC K) (aF (T.drop (j+1)))) by rw [HRW.o,o1,if_pos rfl,aS]);clear o1;go_wp2_with fail;refine HQ.o.mono ?_;rintro e wq ⟨rfl,dq,rfl⟩;obtain⟨W8,hw2⟩:∃W8,W8=W7.drewN dq:=⟨_,rfl⟩
     rw [←hw2];have hkw:K0 W7 W8:=by rw [hw2];exact (aB.refl _ _).drewN _
     replace HS:=Hd (HS.o.keep0 hkw);replace HZ:=Hd (HZ.o.keep hkw (fun h=>h));replace HK:=Hd (HK.o.trans hkw (fun _ _ h=>h.elim));replace HR7:=Hd (HR7.o.keep hkw (fun h=>h));replace HRD:=Hd (HRD.o.keep hkw (fun _ _ _ h=>h));clear hw2 hkw;obtain⟨c0,c1,c2,f1,f2⟩:=HS.o.cells;have hlt:=HS.o.lt;go_wp2_with fail;go_meet
     case rel=>
      obtain⟨a1,a2⟩:=eM HS.o (by omega);have hnx:=HNX.o;have hpx:=HPS.o;exact⟨True,j+1,0,_,1,1,_,_,rfl,Hd ⟨by have:=HJ.o;omega,by omega⟩,Hd a1,Hd (HK.o.trans a2 k3),Hd (HZ.o.keep a2 (fun e=>by omega)),Hd (HR7.o.keep a2 (fun e=>by omega)),Hd (fun _=>HRD.o.keep a2 (fun b _ hb e=>iX (X:=w.heap.size+1) HS.o.ps (by omega) hb.1 e)),Hd (.inl ⟨trivial,rfl,HE.o⟩)⟩
    | false=>
     have HQ:=Hd (a8 HS.o [59] false o1 0);have HE:=Hd (show res=iV s [bG [.mk 3 [] [64] [] [] true]] (dQ (aC K) (aF (T.drop j))) by rw [HRW.o,o1,if_neg (by simp)]);clear o1;go_wp2_with fail;refine HQ.o.mono ?_;rintro e wq ⟨rfl,dq,rfl⟩;obtain⟨W8,hw2⟩:∃W8,W8=W7.drewN dq:=⟨_,rfl⟩;rw [←hw2];have hkw:K0 W7 W8:=by rw [hw2];exact (aB.refl _ _).drewN _
     replace HS:=Hd (HS.o.keep0 hkw);replace HZ:=Hd (HZ.o.keep hkw (fun h=>h));replace HK:=Hd (HK.o.trans hkw (fun _ _ h=>h.elim));replace HR7:=Hd (HR7.o.keep hkw (fun h=>h));replace HRD:=Hd (HRD.o.keep hkw (fun _ _ _ h=>h));clear hw2 hkw;go_wp2_with fail;go_meet
     case rel=>exact⟨True,j,0,_,1,1,_,_,rfl,Hd ⟨HJ.o.1,HJ.o.2⟩,HS,HK,HZ,HR7,Hd (fun _=>HRD.o),Hd (.inl ⟨trivial,rfl,HE.o⟩)⟩
  case rest=>
  clear HS HK HZ HR HJ HL HQ2 HQ HNM;obtain⟨gd,j,x,wa,wm,wc1,wsl,wy,hwy,HJ,HS,HK,HZ,HR,HRD,HST⟩:=hcut;subst hwy;have hjT:=HJ.o.2;go_wp2_with fail;refine (cY wy Lo B ps n j x tv T HS.o).mono ?_;rintro e w2 ⟨rfl,j2,hl1,hl2,hl3,hl4,hsl4,hkl4⟩;replace HS:=Hd hsl4;replace HZ:=Hd (HZ.o.keep hkl4 (fun e=>by have:=HPS.o;omega));replace HK:=Hd (HK.o.trans hkl4 k3);replace HR:=Hd (HR.o.keep hkl4 (fun e=>by have:=HNX.o;have:=HPS.o;omega))
  have hj2T:=hl2 hjT;have HRD2:=Hd (fun g=>(HRD.o g).keep hkl4 (fun b _ hb e=>iX (X:=w.heap.size+1) hsl4.ps (by have:=HPS.o;omega) hb.1 e));have HST2:=Hd (show (gd∧x=0∧res=iV s wsl (dQ (aC K) (T.drop j2)))∨(x≠0∧res=.error x) by rw [hl4];exact HST.o);have HJ2:=Hd hl1;clear hl1 hl2 hl3 hl4 hsl4 hkl4 HRD HST;go_wp2_with fail;refine (rZ K HC.o w2 Lo B ps n j2 x deep tv T HS.o (fun _=>hj2T) (by omega) HD.o).mono ?_
  rintro e w3 ⟨v,j3,xb,rfl,hj3,hj3b,hs3,hk3,hf3⟩;go_upto_region 21 with fail;obtain⟨NB,hNB⟩:∃NB,NB=w3.heap.size:=⟨_,rfl⟩;obtain⟨W4,hW4⟩:∃W4,W4=w3.alloc (.cells #[.int .i64 v.k,.bool v.nt,.string v.nm,.slice v.a0 v.n0 v.c0,.slice v.a1 v.n1 v.c1,.slice v.a2 v.n2 v.c2,.slice v.a3 v.n3 v.c3,.slice v.a4 v.n4 v.c4] 44):=⟨_,rfl⟩;rw [←hW4]
  try rw [←hNB]
  have hk4:K0 w3 W4:=by rw [hW4];exact (aB.refl _ _).alloc _
  have HNB:=Hd (show aH W4 NB [.int .i64 v.k,.bool v.nt,.string v.nm,.slice v.a0 v.n0 v.c0,.slice v.a1 v.n1 v.c1,.slice v.a2 v.n2 v.c2,.slice v.a3 v.n3 v.c3,.slice v.a4 v.n4 v.c4] by rw [hW4,hNB];exact aK _ _ _ _ _ _ _ _ _ _);have hkk:=hk3.trans hk4 (fun _ _ h=>h.elim);have hw2:=HR.o.lt;have hsz3:=hk3.size;have hne:N≠NB:=by omega
  replace HS:=Hd (hs3.keep0 hk4);replace HZ:=Hd (HZ.o.keep hkk (fun e=>by have:=HPS.o;omega));replace HK:=Hd (HK.o.trans hkk k3);replace HR:=Hd (HR.o.keep hkk (fun e=>by have:=HNX.o;have:=HPS.o;omega));have HRD4:=Hd (fun g=>(HRD2.o g).keep hkk (fun b _ hb e=>iX (X:=w.heap.size+1) hs3.ps (by have:=HPS.o;omega) hb.1 e));have HB4:=Hd (show (x=0∧QF false W4 (fun b=>Qd Lo B (w.heap.size+1) b∧b≠N) T (dQ (aC K) (T.drop j2)) v.vals j3 xb)∨(x≠0∧xb=x) from by
   rcases hf3 with ⟨h0,hq⟩ | h
   ·refine .inl ⟨h0,?_⟩;cases hbo:dQ (aC K) (T.drop j2) with
    | error y=>rw [hbo] at hq;exact hq
    | ok p=>
     obtain⟨ds,r⟩:=p;rw [hbo] at hq;rcases hq with ⟨a1,a2,a3,a4,a5⟩ | a
     ·exact .inl ⟨a1,a2,(a3.keep hk4 (fun _ _ _ h=>h)).mono (fun b _ hb=>by have:=hs3.ps;have:=HPS.o;have:=HNE.o;rcases hb with h | h;exact⟨.inl h,by omega⟩;exact⟨.inr (by omega),by omega⟩),a4,a5⟩
     ·exact .inr a
   ·exact .inr h)
  have HIB:=Hd (show i≤j3∧j3≤T.length+(2*K+2) by have:=HJ.o;have:=HJ2.o;omega);clear hs3 hk3 hf3 hk4 hkk hW4 hNB hsz3 hw2 hj3 hj3b HRD2;obtain⟨⟨x0,x1,x2,x3,x4,x5,x6,x7⟩,⟨xf0,xf1,xf2,xf3,xf4,xf5,xf6,xf7⟩⟩:=HR.o.eight;obtain⟨⟨u0,u1,u2,u3,u4,u5,u6,u7⟩,⟨uf0,uf1,uf2,uf3,uf4,uf5,uf6,uf7⟩⟩:=HNB.o.eight;have hNl:=HR.o.lt;have hNBl:=HNB.o.lt;have hnz:N≠w.heap.size:=by have:=HNX.o;omega
  obtain⟨⟨z0,z1,z2,z3,z4,z5,z6,z7⟩,⟨zf0,zf1,zf2,zf3,zf4,zf5,zf6,zf7⟩⟩:=HZ.o.eight;have hzl:=HZ.o.lt;go_wp2_with fail;refine bodyPost_ret (v:=.agg #[.int .i64 9,.bool false,.string ⟨s.toArray⟩,.slice wa wm wc1,.slice none 0 0,.slice none 0 0,.slice (some ⟨W4.heap.size,0,none⟩) 1 1,.slice none 0 0]) (by simp [results,Tryz.results182,go_sem,z0,z1,z2,z3,z4,z5,z6,z7,hzl]) rfl ?_;obtain⟨f1,f2,f3⟩:=My HK.o HS.o HPS.o HNE.o HR.o.lt HST2.o HB4.o HRD4.o ((aB.refl (fun b=>b=N) W4).setCell ⟨N,6,none⟩ (.slice (some ⟨W4.heap.size,0,none⟩) 1 1) (fun _=>rfl)) (aJ (W4.setCell ⟨N,6,none⟩ (.slice (some ⟨W4.heap.size,0,none⟩) 1 1)) w.heap.size (.int .i64 9) (.bool false) (.string ⟨s.toArray⟩) (.slice wa wm wc1) (.slice none 0 0) (.slice none 0 0) (.slice (some ⟨W4.heap.size,0,none⟩) 1 1) (.slice none 0 0)) (by simp [World.setCell]) rfl
  exact⟨⟨9,false,⟨s.toArray⟩,wa,wm,wc1,none,0,0,none,0,0,some ⟨W4.heap.size,0,none⟩,1,1,none,0,0⟩,j3,xb,rfl,HIB.o.1,HIB.o.2,f1,f2,f3⟩
def l8 (wd:List Pt) (p:PR (List Dt)):PR (List Dt):=match p with
 | .error e=>.error e
 | .ok (l,r2)=>.ok (ndR 10 false [] [bG wd] [] [] [] l,r2)
def zG (K M:Nat) (acc:List Dt) (p:PR (List Dt)):PR (List Dt):=match p with
 | .error e=>.error e
 | .ok (a,r)=>if aG [59,59] r then cQ (aC K) (bC (aC K)) M (acc++a) (aF r.tail) else match fA [101,115,97,99] r with
  | .error e=>.error e
  | .ok (_,r2)=>.ok (acc++a,r2)
def tC (K:Nat) (ps:List Dt) (ts:List Tk):PR (List Dt):=if d9 ts then (match cU (aC K) ts with
 | .error e=>.error e
 | .ok (b,r3)=>.ok ([.sl 1 ps,.sl 8 b],r3))
 else .ok ([.sl 1 ps,.sl 8 []],ts)
def mA (K:Nat) (p:PR (List Dt)):PR (List Dt):=match p with
 | .error e=>.error e
 | .ok (ps,r1)=>match fK [41] r1 with
  | .error e=>.error e
  | .ok (_,r2)=>tC K ps (aF r2)
theorem N2 (K:Nat) (ts:List Tk):pJ (aC K) (bC (aC K)) ts=match eC (bC (aC K)) (if aG [40] ts then ts.tail else ts) with
 | .error e=>.error e
 | .ok (w,r)=>mA K (dF (bC (aC K)) (r.length+1) [bG w] r):=by
 unfold pJ;cases eC (bC (aC K)) (if aG [40] ts then ts.tail else ts) with
 | error e=>rfl
 | ok p=>
  obtain⟨w,r⟩:=p;dsimp only;unfold mA;cases dF (bC (aC K)) (r.length+1) [bG w] r with
  | error e=>rfl
  | ok p=>
   obtain⟨ps,r1⟩:=p;dsimp only;cases fK [41] r1 with
   | error e=>rfl
   | ok q=>
    obtain⟨_,r2⟩:=q;dsimp only;unfold tC;by_cases hm:d9 (aF r2)=true
    ·rw [if_pos hm,if_pos hm];cases cU (aC K) (aF r2)<;>rfl
    ·rw [if_neg hm,if_neg hm]
theorem Ea (K M:Nat) (acc:List Dt) (ts:List Tk):cQ (aC K) (bC (aC K)) (M+1) acc ts=if aT [101,115,97,99] ts then .ok (acc,ts.tail) else zG K M acc (pJ (aC K) (bC (aC K)) ts):=by
 conv=>lhs;unfold cQ
 unfold zG;by_cases h:aT [101,115,97,99] ts=true
 ·rw [if_pos h,if_pos h]
 ·rw [if_neg h,if_neg h];cases pJ (aC K) (bC (aC K)) ts<;>rfl
theorem Jk (K:Nat) (ts:List Tk):gC (aC K) (bC (aC K)) ts=match eC (bC (aC K)) ts with
 | .error e=>.error e
 | .ok (w,r)=>if aT [105,110] (aF r) then l8 w (cQ (aC K) (bC (aC K)) ((aF (aF r).tail).length+1) [] (aF (aF r).tail)) else .error 2:=by
 unfold gC;cases eC (bC (aC K)) ts with
 | error e=>rfl
 | ok p=>
  obtain⟨w,r⟩:=p;dsimp only;cases h:aT [105,110] (aF r) with
  | false=>rw [k8 h];rfl
  | true=>
   rw [kM h,if_pos rfl];dsimp only;unfold l8;cases cQ (aC K) (bC (aC K)) ((aF (aF r).tail).length+1) [] (aF (aF r).tail)<;>rfl
theorem Di (scr:Bs→Except Nat Unit) (n:Nat) (acc:List Dt) (ts:List Tk):dF scr (n+1) acc ts=if aG [124] ts then (match eC scr ts.tail with
 | .error e=>.error e
 | .ok (w,r)=>dF scr n (acc++[bG w]) r) else .ok (acc,ts):=rfl
def qK (K M:Nat) (wd:List Pt) (acc:List Dt) (p:PR (List Dt)):PR (List Dt):=l8 wd (zG K M acc p)
theorem F5 {K M:Nat} {wd:List Pt} {acc a:List Dt} {r:List Tk} (h1:aG [59,59] r=false) (h2:aT [101,115,97,99] r=false):qK K M wd acc (.ok (a,r))=.error 2:=by
 unfold qK zG;dsimp only;rw [h1,if_neg (by simp),k8 h2];rfl
theorem Hb {K M:Nat} {wd:List Pt} {acc a:List Dt} {r:List Tk} (h1:aG [59,59] r=false) (h2:aT [101,115,97,99] r=true):qK K M wd acc (.ok (a,r))=.ok (ndR 10 false [] [bG wd] [] [] [] (acc++a),r.tail):=by
 unfold qK zG;dsimp only;rw [h1,if_neg (by simp),kM h2];rfl
theorem Gy {K M:Nat} {wd:List Pt} {acc a:List Dt} {r:List Tk} (h1:aG [59,59] r=true):qK K M wd acc (.ok (a,r))=l8 wd (cQ (aC K) (bC (aC K)) M (acc++a) (aF r.tail)):=by
 unfold qK zG;dsimp only;rw [h1,if_pos rfl]
theorem K3 {K:Nat} {ps:List Dt} {r:List Tk} (h:aG [41] r=false):mA K (.ok (ps,r))=.error 2:=by
 unfold mA;dsimp only;rw [oT h]
theorem Io {K:Nat} {ps:List Dt} {r:List Tk} (h:aG [41] r=true):mA K (.ok (ps,r))=tC K ps (aF r.tail):=by
 unfold mA;dsimp only;rw [mZ h]
theorem Cb {K M:Nat} {wd:List Pt} {acc ps:List Dt} {T:List Tk} {j x:Nat} {gd:Prop} {res:PR (List Dt)} (h:EXs gd (res=qK K M wd acc (tC K ps (T.drop j))) x res) (hj:x=0→j≤T.length) (hc:aG [59,59] (T.drop j)=true∨aT [101,115,97,99] (T.drop j)=true) :
 QSt gd (res=qK K M wd acc (.ok ([.sl 1 ps,.sl 8 []],T.drop j))) T j x res:=by
 have hcl:cZ (T.drop j)=true:=by
  rcases hc with hc | hc
  ·unfold cZ;rw [hc,Bool.or_true,Bool.true_or]
  ·exact Fe (s:=[101,115,97,99]) (by decide) _ hc
 rcases h with ⟨g,hx,hr⟩ | h
 ·refine .inl ⟨g,hx,hj hx,?_⟩;rw [hr];unfold tC;rw [tK hcl,if_neg (by simp)]
 ·exact .inr (.inl h)
theorem M1 {K M:Nat} {wd:List Pt} {acc ps:List Dt} {T:List Tk} {j x jb xb:Nat} {gd:Prop} {res:PR (List Dt)} {w:World} {D:Nat→Prop} {us:List Value} (h:EXs gd (res=qK K M wd acc (tC K ps (T.drop j))) x res) (hl:aF (T.drop j)=T.drop j) (h1:aG [59,59] (T.drop j)=false) (h2:aT [101,115,97,99] (T.drop j)=false)
 (hf:(x=0∧QF true w D T (cU (aC K) (T.drop j)) us jb xb)∨(x≠0∧xb=x)) :
 ∃(gb:Prop) (db:List Dt),(gb→gd∧NdD db∧RdL w D db us)∧QSt gb (res=qK K M wd acc (.ok ([.sl 1 ps,.sl 8 db],T.drop jb))) T jb xb res:=by
 rcases h with ⟨g,hx,hr⟩ | ⟨hx,hr⟩
 ·rcases hf with ⟨_,hq⟩ | ⟨h9,_⟩
  ·unfold tC at hr;by_cases hm:d9 (T.drop j)=true
   ·rw [if_pos hm] at hr;obtain⟨gb,db,hg,hst⟩:=hq.state (fun p=>qK K M wd acc (match p with
     | .error e=>.error e
     | .ok (b,r3)=>.ok ([.sl 1 ps,.sl 8 b],r3))) (fun e=>rfl) (fun _ ds r hc=>by
      dsimp only;refine F5 ?_ (Aw (by decide) hc);unfold cZ at hc;simp only [Bool.or_eq_false_iff] at hc;exact hc.1.2) hr
    exact⟨gb,db,fun g'=>⟨g,hg g'⟩,hst⟩
   ·rw [if_neg hm] at hr;rw [I7 K (by rw [hl];simpa using hm)] at hq;rw [F5 h1 h2] at hr;refine⟨False,[],fun h=>h.elim,?_⟩;rcases hq with ⟨a,b⟩ | ⟨_,a,b⟩
    ·exact .inr (.inl ⟨by omega,by rw [hr,a]⟩)
    ·exact .inr (.inr ⟨a,b,hr⟩)
  ·exact absurd hx h9
 ·rcases hf with ⟨h9,_⟩ | ⟨_,rfl⟩
  ·exact absurd h9 hx
  ·exact⟨False,[],fun h=>h.elim,.inr (.inl ⟨hx,hr⟩)⟩
theorem rM {gd A:Prop} {T:List Tk} {j x xe:Nat} {res:PR (List Dt)} {ds:List Dt} (h:QSt gd A T j x res) (hxe:xe=if x=0 then (if aT [101,115,97,99] (T.drop j) then 0 else 2) else x)
 (hA:A→(aT [101,115,97,99] (T.drop j)=true→res=.ok (ds,(T.drop j).tail))∧(aT [101,115,97,99] (T.drop j)=false→res=.error 2)) :
 (gd∧xe=0∧j+1≤T.length∧res=.ok (ds,T.drop (j+1)))∨(xe≠0∧res=.error xe):=by
 rcases h with ⟨g,hx,hj,ha⟩ | ⟨hx,hr⟩ | ⟨hx,ho,hr⟩
 ·rw [if_pos hx] at hxe;cases hw:aT [101,115,97,99] (T.drop j) with
  | true=>
   rw [hw,if_pos rfl] at hxe;have:=bQ (cJ (by decide) hw);exact .inl ⟨g,hxe,by omega,by rw [(hA ha).1 hw,aS]⟩
  | false=>
   rw [hw,if_neg (by simp)] at hxe;exact .inr ⟨by omega,by rw [hxe];exact (hA ha).2 hw⟩
 ·rw [if_neg hx] at hxe;subst hxe;exact .inr ⟨hx,hr⟩
 ·rw [if_pos hx,xM (by decide) _ ho,if_neg (by simp)] at hxe;exact .inr ⟨by omega,by rw [hxe];exact hr⟩
end Go.Proofs.YtiihpbccabeoeaaGreatDoor
