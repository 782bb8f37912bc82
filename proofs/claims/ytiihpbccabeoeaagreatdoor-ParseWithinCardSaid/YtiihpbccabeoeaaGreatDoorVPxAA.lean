/- The walk: a part. -/
import Derived.Test.YtiihpbccabeoeaaGreatDoorVM
import Derived.Test.YtiihpbccabeoeaaGreatDoorVPxZ
namespace Go.Proofs.YtiihpbccabeoeaaGreatDoor
open Go.RowKit
set_option linter.unusedVariables false
set_option maxRecDepth 100000
set_option maxHeartbeats 16000000
def iW (s:Bs) (ws:List Dt) (p:PR (List Dt)):PR (List Dt):=match p with
 | .error e=>.error e
 | .ok (b,r2)=>.ok (cE 9 false s ws [] [] b [],r2)
def mh (K:Nat) (s:Bs) (p:PR (List Dt)):PR (List Dt):=match p with
 | .error e=>.error e
 | .ok (ws,r)=>if aj [59] r || aj [10] r then iW s ws (cL (ab K) (ai r.tail)) else .error 2
theorem Od {K:Nat} {ts:List Tk} (h:bK (aJ (ch ts))=false):fh (ab K) (av (ab K)) ts=.error 2:=by
 unfold fh;rw [nF (by rw [h];simp)]
theorem Oc {K:Nat} {ts:List Tk} (h:bK (aJ (ch ts))=true) (h2:aF [105,110] (ai ts.tail)=true):fh (ab K) (av (ab K)) ts=mh K (aJ (ch ts)) (bC (av (ab K)) ((ai ts.tail).tail.length+1) [] (ai ts.tail).tail):=by
 unfold fh mh;rw [nE h,nE h2];cases bC (av (ab K)) ((ai ts.tail).tail.length+1) [] (ai ts.tail).tail with
 | error e=>rfl
 | ok p=>rfl
theorem K8 {K:Nat} {ts:List Tk} (h:bK (aJ (ch ts))=true) (h2:aF [105,110] (ai ts.tail)=false):fh (ab K) (av (ab K)) ts=iW (aJ (ch ts)) [aB [.mk 3 [] [64] [] [] true]] (cL (ab K) (ai (if aj [59] (ai ts.tail) then (ai ts.tail).tail else ai ts.tail))):=by
 unfold fh iW;rw [nE h,nF (by rw [h2];simp)];cases cL (ab K) (ai (if aj [59] (ai ts.tail) then (ai ts.tail).tail else ai ts.tail))<;>rfl
theorem Cx (scr:Bs→Except Nat Unit) (n:Nat) (acc:List Dt) (ts:List Tk):bC scr (n+1) acc ts=if (ch ts).kind==1 then (match ca scr ts with
 | .error e=>.error e
 | .ok (w,r)=>bC scr n (acc++[aB w]) r) else .ok (acc,ts):=rfl
theorem zo {s:Bs} (h:bK s=true):s≠[]:=by
 intro e;subst e;cases h
theorem tY {T:List Tk} (h:NM T) (i:Nat):(aJ (ch (T.drop i))).length≤40000:=by
 rcases nP i T.length with hi | hi
 ·rw [fY hi];have h1:=(h.2 _ (uD hi)).2;generalize T[i]=t at h1;unfold aJ;split
  ·split
   ·next p hp=>
    split
    ·exact (ns h1.2 (by rw [hp];exact List.mem_cons_self ..)).1
    ·exact nB _
   ·exact nB _
  ·exact nB _
 ·rw [iM hi];exact nB _
def IY (gd A:Prop) (x:Nat) (res:PR (List Dt)):Prop:=(gd∧x=0∧A)∨(x≠0∧res=.error x)
def Ab (x:Nat):Nat:=if x=0 then 2 else x
theorem wV {E:Nat→Prop} {G:Prop} {w wr:World} {Lo B ps:Nat} {tv:Value} {n:Nat} {T:List Tk} {X N:Nat} {Z:List Value} {pre post:List Dt} {vpre vpost:List Value} {k:Nat} {Ty:TypeId} {I x m:Nat} {la:OA} {lc:Nat} {ds:List Dt}
 (h:QR E G w wr Lo B ps tv n T X N Z pre post vpre vpost k Ty I x m la lc ds) (g:G):Rd wr (λ b=>Qd Lo B X b∧b≠N) (.sl k ds) (.slice la m lc):=by
 obtain⟨xs,h1,h2⟩:=h.own;exact eM.reads (D:=λ b=>Qd Lo B X b∧b≠N) ⟨xs,h1 g,h2⟩ (λ g hg=>⟨.inr (h.low g hg).1,(h.low g hg).2⟩)
theorem x9 {D:Nat→Prop} {w w7:World} {N:Nat} (hN:N<w.heap.size) (h0:0<w.heap.size) (hw:w7=((w.setCell ⟨N,3,none⟩ (.slice (some ⟨w.heap.size+1,0,none⟩) 1 1)).alloc (.cells #[.int .i64 3,eS,.string ⟨#[64]⟩,eS,(),true] 67)).alloc (.cells #[.slice (some ⟨w.heap.size,0,none⟩) 1 1] 29)) (hD:∀b,w.heap.size≤b→D b) :
 ae (λ b=>b=N) w w7∧Rd w7 D (.sl 1 [aB [.mk 3 [] [64] [] [] true]]) (.slice (some ⟨w.heap.size+1,0,none⟩) 1 1):=by
 obtain⟨w1,dM⟩:∃w1,w1=w.setCell ⟨N,3,none⟩ (.slice (some ⟨w.heap.size+1,0,none⟩) 1 1):=⟨_,rfl⟩;obtain⟨w2,aQ⟩:∃w2,w2=w1.alloc (.cells #[.int .i64 3,eS,.string ⟨#[64]⟩,eS,(),true] 67):=⟨_,rfl⟩;rw [←dM,←aQ] at hw;have dL:w1.heap.size=w.heap.size:=by rw [dM];simp [World.setCell]
 have cj:w2.heap.size=w.heap.size+1:=by rw [aQ];simp [dL]
 have bt:ae (λ b=>b=N) w w1:=by rw [dM];exact (ae.refl _ _).setCell _ _ λ_=>rfl
 have aS:K0 w1 w2:=by rw [aQ];exact (ae.refl _ _).alloc _
 have i5:K0 w2 w7:=by rw [hw];exact (ae.refl _ _).alloc _
 refine⟨(bt.trans aS (λ_ _ h=>h.elim)).trans i5 (λ_ _ h=>h.elim),?_⟩;have h1:=fk (D:=D) (cs:=cg [.mk 3 [] [64] [] [] true]) (vs:=[.int .i64 3,.string ⟨#[]⟩,.string ⟨#[64]⟩,.string ⟨#[]⟩,.slice none 0 0,.bool true]) (k:=6) (m:=1) (by
  rw [iA,gp,rX];exact⟨.int _,.str _,.str _,.str _,by rw [show aB (Pt.word (.mk 3 [] [64] [] [] true))=.sl 6 [] from by show Dt.sl 6 (cg [])=_;rw [gp]];exact .nil _ _ _ (nB _),.bool _,trivial⟩) (by rw [li];rfl) dC aQ (hD _ oM)
 rw [dL] at h1;have h2:=fk (D:=D) (cs:=[aB [.mk 3 [] [64] [] [] true]]) (vs:=[.slice (some ⟨w.heap.size,0,none⟩) 1 1]) (k:=1) (m:=1) ⟨h1,trivial⟩ rfl dC hw (hD _ oM);rw [cj] at h2;exact h2
theorem K9 {K:Nat} {s:Bs} {MS:List Dt} {w w3 wN w8 wE:World} {Lo B ps:Nat} {tv:Value} {n:Nat} {T:List Tk} {j j3 x x3 N:Nat} {gd:Prop} {res:PR (List Dt)} {wv:Value} {v:NV} (hk:ae (λ b=>b=ps) w w3) (hs:QS w3 Lo B ps tv n T j3 x3) (hc:ps<w.heap.size) (hN:N=w.heap.size+1) (hw:N<w3.heap.size)
 (e9:(gd∧x=0∧res=iW s MS (cL (ab K) (T.drop j)))∨(x≠0∧res=.error x)) (hb:(x=0∧QF false w3 (λ b=>Qd Lo B (w.heap.size+1) b∧b≠N) T (cL (ab K) (T.drop j)) v.vals j3 x3)∨(x≠0∧x3=x))
 (eo:gd→Rd w3 (λ b=>Qd Lo B (w.heap.size+1) b∧b≠N) (.sl 1 MS) wv) (h1:ae (λ b=>b=N) w3 wN) (h8:ae (λ b=>b=w.heap.size) wN w8) (ek:w8.heap.size=w3.heap.size) (hE:wE=w8.alloc (.cells v.vals.toArray 44)) :
 QS wE Lo B ps tv n T j3 x3∧ae (λ b=>b=ps) w wE∧QF false wE (Qd Lo B w.heap.size) T res [.int .i64 9,.bool false,.string ⟨s.toArray⟩,wv,.slice none 0 0,.slice none 0 0,.slice (some ⟨w3.heap.size,0,none⟩) 1 1,.slice none 0 0] j3 x3:=by
 have hB:=hs.ps;have Oq:K0 w8 wE:=by rw [hE];exact (ae.refl _ _).alloc _
 have ac6:=h1.size;have h18:ae (λ b=>b=N∨b=w.heap.size) w3 w8:=(h1.mono (λ_ _ h=>.inl h)).trans (h8.mono (λ_ _ h=>.inr h)) k3;refine⟨((hs.keep h18 (λ b hb e=>oM) (λ e=>oM)).keep0 Oq),(hk.fresh h18 (λ b e=>oM)).trans Oq (λ_ _ e=>e.elim),?_⟩;rcases e9 with ⟨g,hx,hr⟩ | ⟨hx,hr⟩
 ·rcases hb with ⟨_,hq⟩ | ⟨h9,_⟩
  ·rcases hq.split (iW s MS) (λ e=>rfl) (λ h=>by cases h) with ⟨ds,r,hr3,h0,hn,hd,hj,hl⟩ | ⟨h0,hr3⟩ | ⟨h0,ho,hr3⟩
   ·have k1:∀{dd vv},bV w3 (λ b=>Qd Lo B (w.heap.size+1) b∧b≠N) dd vv→bV w8 (Qd Lo B w.heap.size) dd vv:=λ hh=>(hh.keep h18 (λ b _ hb e=>by rcases e with e | e;exact hb.2 e;have:=hb.1;unfold Qd at this;omega)).mono (λ b _ hb=>by rcases hb.1 with h | h;exact .inl h;exact .inr oM);have h2:=fk (k:=8) (m:=1) (k1 hd) (by rw [hn.len]) dC hE (.inr oM);rw [ek] at h2
    have h3:bV wE (Qd Lo B w.heap.size) [.sl 1 MS] [wv]:=(k1 (dd:=[.sl 1 MS]) (vv:=[wv]) ⟨eo g,trivial⟩).keep Oq (λ_ _ _ h=>h);exact QF.good (ds:=cE 9 false s MS [] [] ds []) (r:=r) (by rw [hr,hr3];rfl) h0 ⟨_,_,_,_,_,_,_,_,rfl⟩ ⟨.int _,.bool _,.str _,h3.1,.nil _ _ _ (nB _),.nil _ _ _ (nB _),h2,.nil _ _ _ (nB _),trivial⟩ hj hl
   ·exact QF.err h0 (by rw [hr,hr3])
   ·exact QF.stk ho h0 (by rw [hr,hr3])
  ·exact nQ hx h9
 ·rcases hb with ⟨h9,_⟩ | ⟨_,rfl⟩
  ·exact nQ h9 hx
  ·exact QF.err hx hr
theorem Ip (K:Nat) (bw:ez K) (cR:iK K) (w:World) (Lo B ps n i aN:Nat) (tv:Value) (T:List Tk) (h:QS w Lo B ps tv n T i 0) (hi:i≤T.length) (hd:aN+1+K=41) :
 Calls Tryz.prog 182 #[.pointer (some ⟨ps,0,none⟩),.int .i64 (aN:Nat)] w (iw w Lo B ps tv n T i (2*K+2) false (fh (ab K) (av (ab K)) (T.drop i))):=by
 obtain⟨res,ag⟩:∃res,res=fh (ab K) (av (ab K)) (T.drop i):=⟨_,rfl⟩;rw [←ag];have D7:Tryz.prog.cellsOf 29=1:=kR
 have yT:=bW;have ov:=aT;have AF:(Tryz.prog.info? 29).map (λ i=>(i.zero,i.size,i.bytes))=some (some (.slice none 0 0),1,24):=kR
 obtain⟨i0,fo,fC,fp,fq⟩:=info_parts AF;obtain⟨s,hs⟩:∃s,aJ (ch (T.drop i))=s:=⟨_,rfl⟩;have ay:=Hd ag;have HC:=Hd bw;have cK:=Hd cR;have HD:=Hd hd;have bA:=Hd h.lt;have AK:T.length≤20000:=h.sm.1;have Jl:s.length≤140737488351232:=by
  rw [←hs];have:=tY h.sm i;omega
 have sw:=Hd hs;have HS:=Lib.hid h;clear ag bw cR h AF hs;go_enter Tryz.func182,Tryz.ntmps182;go_wp2_with fail;obtain⟨W,hW⟩:∃W,W=w.alloc (.cells #[.int .i64 0,false,eS,(),(),(),(),()] 44):=⟨_,rfl⟩;have dt:K0 w W:=by rw [hW];exact (ae.refl _ _).alloc _
 have HZ:=Hd (show af W w.heap.size [.int .i64 0,false,eS,(),(),(),(),()] by rw [hW];exact aD w _ _ _ _ _ _ _ _ _);have hWs:W.heap.size=w.heap.size+1:=by rw [hW];simp
 rw [←hW];have HK:=Hd (dt.mono (T:=λ b=>b=ps) (λ_ _ h=>h.elim));replace HS:=Hd (HS.o.keep0 dt);have HWS:=Hd hWs;clear dt hW hWs;have HQ:=Hd (di HS.o s sw.o 0);refine HQ.o.mono ?_;rintro e wq ⟨rfl,dq,rfl⟩;obtain⟨W1,aQ⟩:∃W1,W1=W.drewN dq:=⟨_,rfl⟩;rw [←aQ];have aZ:K0 W W1:=by rw [aQ];exact (ae.refl _ _).drewN _
 replace HS:=Hd (HS.o.keep0 aZ);replace HZ:=Hd (HZ.o.keep aZ (λ h=>h));replace HK:=Hd (HK.o.trans aZ (λ_ _ h=>h.elim));have Pi:=Hd (show W1.heap.size=W.heap.size by rw [aQ];simp);clear aQ aZ;go_upto_region 2 with fail;obtain⟨N,hN⟩:∃N,N=W1.heap.size:=⟨_,rfl⟩;obtain⟨W2,et⟩:∃W2,W2=W1.alloc (.cells #[.int .i64 9,false,.string ⟨s.toArray⟩,(),(),(),(),()] 44):=⟨_,rfl⟩
 rw [←et]
 try rw [←hN]
 have aZ:K0 W1 W2:=by rw [et];exact (ae.refl _ _).alloc _
 have HR:=Hd (show af W2 N [.int .i64 9,false,.string ⟨s.toArray⟩,(),(),(),(),()] by rw [et,hN];exact aD W1 _ _ _ _ _ _ _ _ _);replace HS:=Hd (HS.o.keep0 aZ);replace HZ:=Hd (HZ.o.keep aZ (λ h=>h));replace HK:=Hd (HK.o.trans aZ (λ_ _ h=>h.elim));have qk:=Hd (show N=w.heap.size+1 by rw [hN,Pi.o];exact HWS.o)
 have gE:=Hd (show w.heap.size<N by have:=qk.o;omega);clear aZ et hN;obtain⟨⟨x0,x1,x2,x3,x4,x5,x6,x7⟩,⟨f8,gf,hC,hU,hV,hY,hZ,ia⟩⟩:=HR.o.eight;have fR:=HR.o.lt;cases hb:bK s with
 | false=>
  have JX:=Hd (tg s W2 false Jl hb);have uo:=Hd (show ∀w D us,QF false w D T res us i 2 from λ_ _ _=>QF.err dC (by rw [ay.o,Od (by rw [sw.o];exact hb)]));clear hb;go_wp2_with fail;refine JX.o.mono ?_;rintro e wq ⟨rfl,dq,rfl⟩;obtain⟨W3,aQ⟩:∃W3,W3=W2.drewN dq:=⟨_,rfl⟩;rw [←aQ];have aZ:K0 W2 W3:=by rw [aQ];exact (ae.refl _ _).drewN _
  replace HS:=Hd (HS.o.keep0 aZ);replace HZ:=Hd (HZ.o.keep aZ (λ h=>h));replace HK:=Hd (HK.o.trans aZ (λ_ _ h=>h.elim));replace HR:=Hd (HR.o.keep aZ (λ h=>h));clear aQ aZ;clear x0 x1 x2 x3 x4 x5 x6 x7 f8 gf hC hU hV hY hZ ia fR;go_wp2_with fail;refine (eg W3 Lo B ps n i 0 2 tv T HS.o).mono ?_;rintro e w4 ⟨rfl,dR,be⟩;rw [nE rfl] at dR;replace HS:=Hd dR
  replace HZ:=Hd (HZ.o.keep be (λ e=>by have:=bA.o;omega));replace HK:=Hd (HK.o.trans be k3);replace HR:=Hd (HR.o.keep be (λ e=>by have:=gE.o;have:=bA.o;omega));clear dR be;obtain⟨⟨x0,x1,x2,x3,x4,x5,x6,x7⟩,⟨f8,gf,hC,hU,hV,hY,hZ,ia⟩⟩:=HR.o.eight;have fR:=HR.o.lt;have HF:=Hd (show QF false w4 (λ b=>Qd Lo B w.heap.size b∧b≠w.heap.size) T res [.int .i64 9,false,.string ⟨s.toArray⟩,(),(),(),(),()] i 2 from uo.o _ _ _)
  obtain⟨⟨z0,z1,z2,z3,z4,z5,z6,z7⟩,⟨gO,gP,ib,ic,ie,ig,ii,ij⟩⟩:=HZ.o.eight;have fT:=HZ.o.lt;go_wp2_with fail;refine nJ (v:=.agg #[.int .i64 9,false,.string ⟨s.toArray⟩,(),(),(),(),()]) (by simp [results,Tryz.results182,go_sem,z0,z1,z2,z3,z4,z5,z6,z7]) rfl ?_;obtain⟨f1,f2,f3⟩:=cI HK.o HS.o bA.o HF.o (ap w4 w.heap.size (.int .i64 9) (.bool false) (.string ⟨s.toArray⟩) (.slice none 0 0) (.slice none 0 0) (.slice none 0 0) (.slice none 0 0) (.slice none 0 0))
  exact⟨⟨9,false,⟨s.toArray⟩,none,0,0,none,0,0,none,0,0,none,0,0,none,0,0⟩,i,2,rfl,nC _,oM,f1,f2,f3⟩
 | true=>
  have JX:=Hd (tg s W2 true Jl hb);have Pn:=Hd hb;have fa:i<T.length:=bL (cY (zo hb) (show aF s (T.drop i)=true by rw [cN sw.o,beq_self_eq_true]));have pW:IntKind.i64.wrap ((i:Int)+1)=(i:Int)+1:=nL _ oM;clear hb;go_wp2_with fail;refine JX.o.mono ?_;rintro e wq ⟨rfl,dq,rfl⟩;obtain⟨W3,aQ⟩:∃W3,W3=W2.drewN dq:=⟨_,rfl⟩;rw [←aQ];have aZ:K0 W2 W3:=by rw [aQ];exact (ae.refl _ _).drewN _
  replace HS:=Hd (HS.o.keep0 aZ);replace HZ:=Hd (HZ.o.keep aZ (λ h=>h));replace HK:=Hd (HK.o.trans aZ (λ_ _ h=>h.elim));replace HR:=Hd (HR.o.keep aZ (λ h=>h));clear aQ aZ;clear x0 x1 x2 x3 x4 x5 x6 x7 f8 gf hC hU hV hY hZ ia fR;obtain⟨c0,c1,c2,f1,f2⟩:=HS.o.cells;have aW:=HS.o.lt;go_wp2_with fail;obtain⟨W4,aQ⟩:∃W4,W4=W3.setCell ⟨ps,1,none⟩ (.int .i64 ((i:Int)+1)):=⟨_,rfl⟩
  rw [←aQ];obtain⟨iP,fm⟩:=eE HS.o oM;rw [←aQ] at iP fm;replace HS:=Hd iP;replace HZ:=Hd (HZ.o.keep fm (λ e=>by have:=bA.o;omega));replace HK:=Hd (HK.o.trans fm k3);replace HR:=Hd (HR.o.keep fm (λ e=>by have:=gE.o;have:=bA.o;omega));clear aQ iP fm;clear c0 c1 c2 f1 f2 aW;refine (de W4 Lo B ps n (i+1) 0 tv T HS.o).mono ?_;rintro e W5 ⟨rfl,j,uK,hl2,qB,sC,kD,iE⟩
  replace HS:=Hd kD;replace HZ:=Hd (HZ.o.keep iE (λ e=>by have:=bA.o;omega));replace HK:=Hd (HK.o.trans iE k3);replace HR:=Hd (HR.o.keep iE (λ e=>by have:=gE.o;have:=bA.o;omega));have HJ:=Hd (show i+1≤j∧j≤T.length from⟨uK,hl2 oM⟩);have HL:=Hd (show ai (T.drop i).tail=T.drop j by rw [aG];exact sC.symm);clear uK hl2 qB sC kD iE;obtain⟨s2,cj⟩:∃s2,aJ (ch (T.drop j))=s2:=⟨_,rfl⟩
  have gS:=Hd cj;obtain⟨bq,hbq⟩:∃bq,(s2==[105,110])=bq:=⟨_,rfl⟩;have HBQ:=Hd hbq;have je:=Hd (di HS.o s2 cj 0);clear cj;go_wp2_with fail;refine je.o.mono ?_;rintro e wq ⟨rfl,dq,rfl⟩;obtain⟨W6,aQ⟩:∃W6,W6=W5.drewN dq:=⟨_,rfl⟩;rw [←aQ];have aZ:K0 W5 W6:=by rw [aQ];exact (ae.refl _ _).drewN _
  replace HS:=Hd (HS.o.keep0 aZ);replace HZ:=Hd (HZ.o.keep aZ (λ h=>h));replace HK:=Hd (HK.o.trans aZ (λ_ _ h=>h.elim));replace HR:=Hd (HR.o.keep aZ (λ h=>h));clear aQ aZ;go_upto_if 29 with fail;go_cut [6] from 28 to 85 (λ v6 wx=>∃(gd:Prop) (j x:Nat) (wa:OA) (wm wc:Nat) (MS:List Dt) (wy:World),wy=wx∧Hid (i+1≤j∧j≤T.length)∧Hid (QS wy Lo B ps tv n T j x)∧Hid (ae (λ b=>b=ps) w wy)∧Hid (af wy w.heap.size [.int .i64 0,false,eS,(),(),(),(),()])∧Hid (af wy N [.int .i64 9,false,.string ⟨s.toArray⟩,.slice wa wm wc,(),(),(),()])∧Hid (gd→Rd wy (λ b=>Qd Lo B (w.heap.size+1) b∧b≠N) (.sl 1 MS) (.slice wa wm wc))∧Hid ((gd∧x=0∧res=iW s MS (cL (ab K) (ai (T.drop j))))∨(x≠0∧res=.error x)))
  case first=>
   cases bq with
   | true=>
    have I4:=Hd (show aF [105,110] (T.drop j)=true by rw [cN gS.o];exact HBQ.o);have uy:=bL (cY dC I4.o);have X3:IntKind.i64.wrap ((j:Int)+1)=(j:Int)+1:=nL _ oM;have NE:=Hd (show res=mh K s (bC (av (ab K)) (T.length - (j+1)+1) [] (T.drop (j+1))) by
     rw [ay.o,Oc (by rw [sw.o];exact Pn.o) (by rw [HL.o];exact I4.o),sw.o,HL.o,aG,nI])
    obtain⟨c0,c1,c2,f1,f2⟩:=HS.o.cells;have aW:=HS.o.lt;go_wp2_with fail;obtain⟨W7,aQ⟩:∃W7,W7=W6.setCell ⟨ps,1,none⟩ (.int .i64 ((j:Int)+1)):=⟨_,rfl⟩;rw [←aQ];obtain⟨iP,fm⟩:=eE HS.o oM;rw [←aQ] at iP fm;replace HS:=Hd iP;replace HZ:=Hd (HZ.o.keep fm (λ e=>by have:=bA.o;omega));replace HK:=Hd (HK.o.trans fm k3);replace HR:=Hd (HR.o.keep fm (λ e=>by have:=gE.o;have:=bA.o;omega))
    clear aQ iP fm;clear c0 c1 c2 f1 f2 aW;have HG:=Hd (show QR (λ_=>False) True w W7 Lo B ps tv n T (w.heap.size+1) N [.int .i64 0,false,eS,(),(),(),(),()] [.int 9,.bool false,.str s] [.sl 2 [],.sl 2 [],.sl 8 [],.sl 2 []] [.int .i64 9,false,.string ⟨s.toArray⟩] [(),(),(),()] 1 29 (j+1) 0 0 none 0 [] from⟨HS.o,HK.o,HZ.o,HR.o,⟨[],λ_=>trivial,World.ownsRow_nil _ _ _ _⟩,λ g hg=>(by cases hg),λ g hg=>(by cases hg),λ_=>⟨.int _,.bool _,.str _,trivial⟩,λ_=>⟨.nil _ _ _ (nB _),.nil _ _ _ (nB _),.nil _ _ _ (nB _),.nil _ _ _ (nB _),trivial⟩⟩)
    have Pk:=Hd (show i+1≤j from HJ.o.1);clear HS HK HZ HR HJ;go_loopg [6] (T.length+2000 - (j+1)) (λ g v6 wr=>∃(gd:Prop) (I x m:Nat) (la:OA) (lc:Nat) (acc:List Dt),((x=0∧g=T.length+2000 - I)∨(x≠0∧g=0))∧j+1≤I∧I≤T.length∧(x=0→m≤I)∧Hid (QR (λ_=>False) gd w wr Lo B ps tv n T (w.heap.size+1) N [.int .i64 0,false,eS,(),(),(),(),()] [.int 9,.bool false,.str s] [.sl 2 [],.sl 2 [],.sl 8 [],.sl 2 []] [.int .i64 9,false,.string ⟨s.toArray⟩] [(),(),(),()] 1 29 I x m la lc acc)∧Hid ((gd∧x=0∧∃M,T.length - I+1≤M∧res=mh K s (bC (av (ab K)) M acc (T.drop I)))∨(x≠0∧res=.error x)))
    case atStart=>exact⟨True,j+1,0,0,none,0,[],.inl ⟨rfl,rfl⟩,nC _,oM,λ_=>nB _,HG,Hd (.inl ⟨trivial,rfl,_,nC _,NE.o⟩)⟩
    case round=>
     clear HG NE;obtain⟨gd,I,x,m,la,lc,acc,eH,hjI,p8,yj,HG,eI⟩:=hrel;have fK:=Hd eH;clear eH;obtain⟨c0,c1,c2,f1,f2⟩:=HG.o.rs.cells;have aW:=HG.o.rs.lt;by_cases hx:x=0
     ·subst hx;obtain⟨g,M,hM,hr⟩:gd∧∃M,T.length - I+1≤M∧res=mh K s (bC (av (ab K)) M acc (T.drop I)):=by
       exact Ks
      obtain⟨M,rfl⟩:∃M',M=M'+1:=⟨M - 1,oM⟩;have sq:=Hd g;have yj:=yj rfl;rw [Cx] at hr;clear g eI;cases hk:((ch (T.drop I)).kind==1) with
      | false=>
       have yw:=Hd (show IY gd (res=mh K s (.ok (acc,T.drop I))) 0 res from .inl ⟨sq.o,rfl,by rw [hr,hk,nF sI]⟩);have Z5:=Hd (ll HG.o.rs false hk 0);clear hk hr;go_wp2_with fail;refine Z5.o.mono ?_;rintro e wq ⟨rfl,dq,rfl⟩;obtain⟨wk,aQ⟩:∃wk,wk=wr.drewN dq:=⟨_,rfl⟩;rw [←aQ];have aZ:K0 wr wk:=by rw [aQ];exact (ae.refl _ _).drewN _
       replace HG:=Hd (HG.o.keep0 aZ);clear aQ aZ;clear c0 c1 c2 f1 f2 aW;have fv:=Hd (show i≤I∧I≤T.length+(2*K+2) by have:=Pk.o;omega);by_cases fB:aj [59] (T.drop I)=true∨aj [10] (T.drop I)=true
       ·have Ti:I<T.length:=by rcases fB with h | h<;>exact bL (dA h)
        have RG:IntKind.i64.wrap ((I:Int)+1)=(I:Int)+1:=nL _ oM;cases o1:aj [59] (T.drop I) with
        | true=>
         have HQ:=Hd (aY HG.o.rs [59] true o1 0);clear o1;have HE:=Hd (show IY gd (res=iW s acc (cL (ab K) (ai (T.drop (I+1))))) 0 res from by
          rcases yw.o with ⟨g,h0,hr⟩ | h
          ·exact N3
          ·exact .inr h)
         clear fB yw;go_wp2_with fail;refine HQ.o.mono ?_;rintro e wq ⟨rfl,dq,rfl⟩;obtain⟨wa,rp⟩:∃wa,wa=wk.drewN dq:=⟨_,rfl⟩;exact Wq
        | false=>
         have o2:aj [10] (T.drop I)=true:=by rcases fB with h | h;rw [h] at o1;cases o1;exact h
         have HQ:=Hd (aY HG.o.rs [59] false o1 0);have je:=Hd (λ q=>aY HG.o.rs [10] true o2 q);clear o1 o2;have HE:=Hd (show IY gd (res=iW s acc (cL (ab K) (ai (T.drop (I+1))))) 0 res from by
          rcases yw.o with ⟨g,h0,hr⟩ | h
          ·exact N3
          ·exact .inr h)
         clear fB yw;go_wp2_with fail;refine HQ.o.mono ?_;rintro e wq ⟨rfl,dq,rfl⟩;go_wp2_with fail;refine (je.o dq).mono ?_;rintro e wq ⟨rfl,DV,rfl⟩;obtain⟨wa,rp⟩:∃wa,wa=wk.drewN DV:=⟨_,rfl⟩;exact Wq
       ·obtain⟨o1,o2⟩:=not_or.1 fB;rw [Bool.not_eq_true] at o1 o2;obtain⟨xf,sD⟩:∃xf,xf=Ab 0:=⟨_,rfl⟩;have uo:=Hd (show ∀w D us,QF false w D T res us I xf from λ_ _ _=>by
         rcases yw.o with ⟨g,h0,hr⟩ | ⟨h0,hr⟩
         ·rw [show Ab 0=2 from nE h0] at sD;exact Qw
         ·rw [show Ab 0=0 from nF h0] at sD;exact QF.err oM (by rw [hr,sD]))
        have Uw:=Hd sD;have HQ:=Hd (aY HG.o.rs [59] false o1 0);have je:=Hd (λ q=>aY HG.o.rs [10] false o2 q);clear fB o1 o2 yw sD;go_wp2_with fail;refine HQ.o.mono ?_;rintro e wq ⟨rfl,dq,rfl⟩;go_wp2_with fail;refine (je.o dq).mono ?_;rintro e wq ⟨rfl,DV,rfl⟩;obtain⟨wa,rp⟩:∃wa,wa=wk.drewN DV:=⟨_,rfl⟩;rw [←rp];replace HG:=Hd (HG.o.keep0 (show K0 wk wa by rw [rp];exact (ae.refl _ _).drewN _))
        clear rp;go_wp2_with fail;refine (eg wa Lo B ps n I 0 2 tv T HG.o.rs).mono ?_;exact V3
      | true=>
       rw [hk,nE rfl] at hr;have ot:=Hd hr;have Z5:=Hd (ll HG.o.rs true hk 0);have Ti:=bL (o4 hk);clear hk hr;go_wp2_with fail;refine Z5.o.mono ?_;rintro e wq ⟨rfl,dq,rfl⟩;obtain⟨wk,aQ⟩:∃wk,wk=wr.drewN dq:=⟨_,rfl⟩;rw [←aQ];have aZ:K0 wr wk:=by rw [aQ];exact (ae.refl _ _).drewN _
       replace HG:=Hd (HG.o.keep0 aZ);clear aQ aZ;clear c0 c1 c2 f1 f2 aW;go_wp2_with fail;refine (kM K cK.o wk Lo B ps n I aN tv T HD.o HG.o.rs).mono ?_;rintro e w4 ⟨wd,ta,tc,J,y,rfl,iH,gM,ku,hj2,dR,be,fB⟩;have hJT:=hj2 p8;obtain⟨wl,iZ⟩:∃wl,wl=wd.length:=⟨_,rfl⟩;rw [←iZ];have Bm:=HG.o.rc.lt;obtain⟨xs,hown4,aL,hF⟩:=HG.o.more (G':=True) (y:=y) (J:=J) (us:=[.slice ta wl tc]) (d2:=[aB wd]) bA.o (nM _) gE.o (by have:=qk.o;omega) be dR (λ_=>sq.o) (λ_=>⟨by rw [iZ];exact (gv iH).mono (λ b _ hb=>.inl hb),trivial⟩) (λ b hb=>hb.elim)
       have HF:=Hd hF;have Bg:=Hd (show (y=0∧I+1≤J∧res=mh K s (bC (av (ab K)) M (acc++[aB wd]) (T.drop J)))∨(y≠0∧res=.error y) from by
        rcases fB with ⟨h1,h2,_,hw⟩ | ⟨h1,hw⟩
        ·exact .inl ⟨h1,oM,by rw [ot.o,hw,h2]⟩
        ·exact .inr ⟨h1,by rw [ot.o,hw];rfl⟩)
       have dz:=(show af w4 N [.int .i64 9,false,.string ⟨s.toArray⟩,.slice la m lc,(),(),(),()] from aL);obtain⟨⟨x0,x1,x2,x3,x4,x5,x6,x7⟩,⟨f8,gf,hC,hU,hV,hY,hZ,ia⟩⟩:=dz.eight;have fR:=aL.lt;have Uo:=Hd ku;clear hF aL dz dR be iH gM fB iZ Bm ku hj2;go_wp2_with (at_builtin;refine nR _ rfl (.tmp 50) (.tmp 52) _ rfl 0 29 i0 _ 1 24 Tryz.underlying39 fo fC fp fq rfl oM (.slice la m lc) m xs rfl (hown4.alloc _) ⟨w4.heap.size,0,none⟩ 1 1 [.slice ta wl tc] rfl rfl (nK (cs:=#[.slice ta wl tc]) (t:=29) (fr:=(0,0)) (nG w4 _)) oC oM uM oM sI (w4.heap.size+1) sI ?_;intro gg aC w5 aK ao bf gT;have gA:=HF.o gg (m+1) aC w5 _ aK ((ae.refl _ _).alloc _) ao (bf.imp id (λ h=>oM));obtain⟨aH,lB,bi⟩:=gA;have aH:=(show af w5 N [.int .i64 9,false,.string ⟨s.toArray⟩,.slice la m lc,(),(),(),()] from aH);obtain⟨⟨z0,z1,z2,z3,z4,z5,z6,z7⟩,⟨gO,gP,ib,ic,ie,ig,ii,ij⟩⟩:=aH.eight;have qy:=aH.lt;have fc:=Hd (show QR (λ_=>False) True w (w5.setCell ⟨N,3,none⟩ (.slice (some ⟨gg,0,none⟩) (m+1) aC)) Lo B ps tv n T (w.heap.size+1) N [.int .i64 0,false,eS,(),(),(),(),()] [.int 9,.bool false,.str s] [.sl 2 [],.sl 2 [],.sl 8 [],.sl 2 []] [.int .i64 9,false,.string ⟨s.toArray⟩] [(),(),(),()] 1 29 J y (m+1) (some ⟨gg,0,none⟩) aC (acc++[aB wd]) from lB);clear aH lB bi;clear aK ao bf)
       rcases Bg.o with ⟨h1,h2,hr⟩ | ⟨h1,hr⟩
       ·go_roundg (T.length+2000 - J)
        case measure=>have:=fK.o;omega
        case rel=>exact⟨True,J,y,m+1,_,_,acc++[aB wd],.inl ⟨h1,rfl⟩,oM,hJT,λ_=>oM,fc,Hd (.inl ⟨trivial,h1,M,oM,hr⟩)⟩
       ·go_roundg 0
        case measure=>have:=fK.o;omega
        case rel=>exact⟨True,J,y,m+1,_,_,acc++[aB wd],.inr ⟨h1,rfl⟩,by have:=Uo.o;omega,hJT,λ h=>nQ h h1,fc,Hd (.inr ⟨h1,hr⟩)⟩
     ·have t:((x:Int)==0)=false:=by rw [nA];omega
      have yw:=Hd (show IY gd (res=mh K s (.ok (acc,T.drop I))) x res from .inr ⟨hx,by rcases eI.o with ⟨_,h9,_⟩ | ⟨_,h9⟩;exact nQ h9 hx;exact h9⟩);clear hx eI;go_upto_region 12 with fail;clear c0 c1 c2 f1 f2 aW;have fv:=Hd (show i≤I∧I≤T.length+(2*K+2) by have:=Pk.o;omega);by_cases fB:aj [59] (T.drop I)=true∨aj [10] (T.drop I)=true
      ·have Ti:I<T.length:=by rcases fB with h | h<;>exact bL (dA h)
       have RG:IntKind.i64.wrap ((I:Int)+1)=(I:Int)+1:=nL _ oM;cases o1:aj [59] (T.drop I) with
       | true=>
        have HQ:=Hd (aY HG.o.rs [59] true o1 0);clear o1;have HE:=Hd (show IY gd (res=iW s acc (cL (ab K) (ai (T.drop (I+1))))) x res from by
         rcases yw.o with ⟨g,h0,hr⟩ | h
         ·exact N3
         ·exact .inr h)
        clear fB yw;go_wp2_with fail;refine HQ.o.mono ?_;rintro e wq ⟨rfl,dq,rfl⟩;obtain⟨wa,rp⟩:∃wa,wa=wr.drewN dq:=⟨_,rfl⟩;exact Wr
       | false=>
        have o2:aj [10] (T.drop I)=true:=by rcases fB with h | h;rw [h] at o1;cases o1;exact h
        have HQ:=Hd (aY HG.o.rs [59] false o1 0);have je:=Hd (λ q=>aY HG.o.rs [10] true o2 q);clear o1 o2;have HE:=Hd (show IY gd (res=iW s acc (cL (ab K) (ai (T.drop (I+1))))) x res from by
         rcases yw.o with ⟨g,h0,hr⟩ | h
         ·exact N3
         ·exact .inr h)
        clear fB yw;go_wp2_with fail;refine HQ.o.mono ?_;rintro e wq ⟨rfl,dq,rfl⟩;go_wp2_with fail;refine (je.o dq).mono ?_;rintro e wq ⟨rfl,DV,rfl⟩;obtain⟨wa,rp⟩:∃wa,wa=wr.drewN DV:=⟨_,rfl⟩;exact Wr
      ·obtain⟨o1,o2⟩:=not_or.1 fB;rw [Bool.not_eq_true] at o1 o2;obtain⟨xf,sD⟩:∃xf,xf=Ab x:=⟨_,rfl⟩;have uo:=Hd (show ∀w D us,QF false w D T res us I xf from λ_ _ _=>by
        rcases yw.o with ⟨g,h0,hr⟩ | ⟨h0,hr⟩
        ·rw [show Ab x=2 from nE h0] at sD;exact Qw
        ·rw [show Ab x=x from nF h0] at sD;exact QF.err oM (by rw [hr,sD]))
       have Uw:=Hd sD;have HQ:=Hd (aY HG.o.rs [59] false o1 0);have je:=Hd (λ q=>aY HG.o.rs [10] false o2 q);clear fB o1 o2 yw sD;go_wp2_with fail;refine HQ.o.mono ?_;rintro e wq ⟨rfl,dq,rfl⟩;go_wp2_with fail;refine (je.o dq).mono ?_;rintro e wq ⟨rfl,DV,rfl⟩;obtain⟨wa,rp⟩:∃wa,wa=wr.drewN DV:=⟨_,rfl⟩;rw [←rp];replace HG:=Hd (HG.o.keep0 (show K0 wr wa by rw [rp];exact (ae.refl _ _).drewN _))
       clear rp;go_wp2_with fail;refine (eg wa Lo B ps n I x 2 tv T HG.o.rs).mono ?_;exact V3
   | false=>
    have NE:=Hd (show res=iW s [aB [.mk 3 [] [64] [] [] true]] (cL (ab K) (ai (if aj [59] (T.drop j) then (T.drop j).tail else T.drop j))) by
     rw [ay.o,K8 (by rw [sw.o];exact Pn.o) (by rw [HL.o,cN gS.o];exact HBQ.o),sw.o,HL.o])
    obtain⟨⟨x0,x1,x2,x3,x4,x5,x6,x7⟩,⟨f8,gf,hC,hU,hV,hY,hZ,ia⟩⟩:=HR.o.eight;have fR:=HR.o.lt;go_upto_region 17 with fail;obtain⟨W7,D3⟩:∃W7,W7=((W6.setCell ⟨N,3,none⟩ (.slice (some ⟨W6.heap.size+1,0,none⟩) 1 1)).alloc (.cells #[.int .i64 3,eS,.string ⟨#[64]⟩,eS,(),true] 67)).alloc (.cells #[.slice (some ⟨W6.heap.size,0,none⟩) 1 1] 29):=⟨_,rfl⟩;rw [←D3]
    have YI:=Hd (x9 (D:=λ b=>Qd Lo B (w.heap.size+1) b∧b≠N) fR (by have:=qk.o;omega) D3 (λ b hb=>⟨.inr (by have:=qk.o;omega),oM⟩));have Rs:=YI.o.1;have vS:=gE.o;have Ry:=bA.o;replace HS:=Hd (HS.o.keep Rs (λ b hb (e:b=N)=>by have:=HS.o.ps;omega) (λ (e:ps=N)=>oM));replace HK:=Hd (HK.o.fresh Rs (λ b (e:b=N)=>oM));replace HZ:=Hd (HZ.o.keep Rs (λ (e:w.heap.size=N)=>oM))
    have C4:=Hd (show af W7 N [.int .i64 9,false,.string ⟨s.toArray⟩,.slice (some ⟨W6.heap.size+1,0,none⟩) 1 1,(),(),(),()] by rw [D3];exact ((HR.o.set 3 _).keep (S:=λ_=>False) ((ae.refl _ _).alloc _) (λ h=>h)).keep (S:=λ_=>False) ((ae.refl _ _).alloc _) (λ h=>h));clear D3 Rs x0 x1 x2 x3 x4 x5 x6 x7 f8 gf hC hU hV hY hZ ia fR vS Ry HR
    have zV:=Hd YI.o.2;cases o1:aj [59] (T.drop j) with
    | true=>
     have HQ:=Hd (aY HS.o [59] true o1 0);have uy:=bL (dA o1);have X3:IntKind.i64.wrap ((j:Int)+1)=(j:Int)+1:=nL _ oM;have HE:=Hd (show res=iW s [aB [.mk 3 [] [64] [] [] true]] (cL (ab K) (ai (T.drop (j+1)))) by rw [NE.o,o1,nE rfl,aG]);clear o1;go_wp2_with fail;refine HQ.o.mono ?_;rintro e wq ⟨rfl,dq,rfl⟩;obtain⟨W8,aQ⟩:∃W8,W8=W7.drewN dq:=⟨_,rfl⟩
     rw [←aQ];have aZ:K0 W7 W8:=by rw [aQ];exact (ae.refl _ _).drewN _
     replace HS:=Hd (HS.o.keep0 aZ);replace HZ:=Hd (HZ.o.keep aZ (λ h=>h));replace HK:=Hd (HK.o.trans aZ (λ_ _ h=>h.elim));replace C4:=Hd (C4.o.keep aZ (λ h=>h));replace zV:=Hd (zV.o.keep aZ (λ_ _ _ h=>h));clear aQ aZ;obtain⟨c0,c1,c2,f1,f2⟩:=HS.o.cells;have aW:=HS.o.lt;go_wp2_with fail;go_meet
     case rel=>
      obtain⟨a1,a2⟩:=eE HS.o oM;have vS:=gE.o;have Ry:=bA.o;exact⟨True,j+1,0,_,1,1,_,_,rfl,Hd ⟨by have:=HJ.o;omega,oM⟩,Hd a1,Hd (HK.o.trans a2 k3),Hd (HZ.o.keep a2 (λ e=>oM)),Hd (C4.o.keep a2 (λ e=>oM)),Hd (λ_=>zV.o.keep a2 (λ b _ hb e=>jV (X:=w.heap.size+1) HS.o.ps oM hb.1 e)),Hd (.inl ⟨trivial,rfl,HE.o⟩)⟩
    | false=>
     have HQ:=Hd (aY HS.o [59] false o1 0);have HE:=Hd (show res=iW s [aB [.mk 3 [] [64] [] [] true]] (cL (ab K) (ai (T.drop j))) by rw [NE.o,o1,nF sI]);clear o1;go_wp2_with fail;refine HQ.o.mono ?_;rintro e wq ⟨rfl,dq,rfl⟩;obtain⟨W8,aQ⟩:∃W8,W8=W7.drewN dq:=⟨_,rfl⟩;rw [←aQ];have aZ:K0 W7 W8:=by rw [aQ];exact (ae.refl _ _).drewN _
     replace HS:=Hd (HS.o.keep0 aZ);replace HZ:=Hd (HZ.o.keep aZ (λ h=>h));replace HK:=Hd (HK.o.trans aZ (λ_ _ h=>h.elim));replace C4:=Hd (C4.o.keep aZ (λ h=>h));replace zV:=Hd (zV.o.keep aZ (λ_ _ _ h=>h));clear aQ aZ;go_wp2_with fail;go_meet
     case rel=>exact⟨True,j,0,_,1,1,_,_,rfl,Hd ⟨HJ.o.1,HJ.o.2⟩,HS,HK,HZ,C4,Hd (λ_=>zV.o),Hd (.inl ⟨trivial,rfl,HE.o⟩)⟩
  case rest=>
  clear HS HK HZ HR HJ HL je HQ JX;obtain⟨gd,j,x,wa,wm,wc1,MS,wy,Cb,HJ,HS,HK,HZ,HR,zV,eI⟩:=hcut;subst Cb;have yi:=HJ.o.2;go_wp2_with fail;refine (de wy Lo B ps n j x tv T HS.o).mono ?_;rintro e w2 ⟨rfl,j2,uK,hl2,qB,sC,kD,iE⟩;replace HS:=Hd kD;replace HZ:=Hd (HZ.o.keep iE (λ e=>by have:=bA.o;omega));replace HK:=Hd (HK.o.trans iE k3);replace HR:=Hd (HR.o.keep iE (λ e=>by have:=gE.o;have:=bA.o;omega))
  have Om:=hl2 yi;have Vt:=Hd (λ g=>(zV.o g).keep iE (λ b _ hb e=>jV (X:=w.heap.size+1) kD.ps (by have:=bA.o;omega) hb.1 e));have aaC:=Hd (show (gd∧x=0∧res=iW s MS (cL (ab K) (T.drop j2)))∨(x≠0∧res=.error x) by rw [sC];exact eI.o);have Sd:=Hd uK;clear uK hl2 qB sC kD iE zV eI;go_wp2_with fail;refine (s9 K HC.o w2 Lo B ps n j2 x aN tv T HS.o (λ_=>Om) oM HD.o).mono ?_
  rintro e w3 ⟨v,j3,xb,rfl,ow,aa7,d6,aV,tP⟩;go_upto_region 21 with fail;obtain⟨NB,ke⟩:∃NB,NB=w3.heap.size:=⟨_,rfl⟩;obtain⟨W4,gL⟩:∃W4,W4=w3.alloc (.cells #[v.k,v.nt,v.nm,.slice v.a0 v.n0 v.c0,.slice v.a1 v.n1 v.c1,.slice v.a2 v.n2 v.c2,.slice v.a3 v.n3 v.c3,.slice v.a4 v.n4 v.c4] 44):=⟨_,rfl⟩;rw [←gL]
  try rw [←ke]
  have be:K0 w3 W4:=by rw [gL];exact (ae.refl _ _).alloc _
  have xJ:=Hd (show af W4 NB [v.k,v.nt,v.nm,.slice v.a0 v.n0 v.c0,.slice v.a1 v.n1 v.c1,.slice v.a2 v.n2 v.c2,.slice v.a3 v.n3 v.c3,.slice v.a4 v.n4 v.c4] by rw [gL,ke];exact aD _ _ _ _ _ _ _ _ _ _);have bp:=aV.trans be (λ_ _ h=>h.elim);have aQ:=HR.o.lt;have TG:=aV.size;have cM:N≠NB:=oM
  replace HS:=Hd (d6.keep0 be);replace HZ:=Hd (HZ.o.keep bp (λ e=>by have:=bA.o;omega));replace HK:=Hd (HK.o.trans bp k3);replace HR:=Hd (HR.o.keep bp (λ e=>by have:=gE.o;have:=bA.o;omega));have Dm:=Hd (λ g=>(Vt.o g).keep bp (λ b _ hb e=>jV (X:=w.heap.size+1) d6.ps (by have:=bA.o;omega) hb.1 e));have Zz:=Hd (show (x=0∧QF false W4 (λ b=>Qd Lo B (w.heap.size+1) b∧b≠N) T (cL (ab K) (T.drop j2)) v.vals j3 xb)∨(x≠0∧xb=x) from by
   rcases tP with ⟨h0,hq⟩ | h
   ·refine .inl ⟨h0,?_⟩;cases hbo:cL (ab K) (T.drop j2) with
    | error y=>rw [hbo] at hq;exact hq
    | ok p=>
     obtain⟨ds,r⟩:=p;rw [hbo] at hq;rcases hq with ⟨a1,a2,a3,a4,a5⟩ | a
     ·exact .inl ⟨a1,a2,(a3.keep be (λ_ _ _ h=>h)).mono (λ b _ hb=>by have:=d6.ps;have:=bA.o;have:=qk.o;rcases hb with h | h;exact⟨.inl h,oM⟩;exact⟨.inr oM,oM⟩),a4,a5⟩
     ·exact .inr a
   ·exact .inr h)
  have fv:=Hd (show i≤j3∧j3≤T.length+(2*K+2) by have:=HJ.o;have:=Sd.o;omega);clear d6 aV tP be bp gL ke TG aQ ow aa7 Vt;obtain⟨⟨x0,x1,x2,x3,x4,x5,x6,x7⟩,⟨f8,gf,hC,hU,hV,hY,hZ,ia⟩⟩:=HR.o.eight;obtain⟨⟨u0,u1,u2,u3,u4,u5,u6,u7⟩,⟨E1,E2,E3,E4,E5,E6,E7,E8⟩⟩:=xJ.o.eight;have fR:=HR.o.lt;have AB:=xJ.o.lt;have hnz:N≠w.heap.size:=by have:=gE.o;omega
  obtain⟨⟨z0,z1,z2,z3,z4,z5,z6,z7⟩,⟨gO,gP,ib,ic,ie,ig,ii,ij⟩⟩:=HZ.o.eight;have fT:=HZ.o.lt;go_wp2_with fail;refine nJ (v:=.agg #[.int .i64 9,false,.string ⟨s.toArray⟩,.slice wa wm wc1,(),(),.slice (some ⟨W4.heap.size,0,none⟩) 1 1,()]) (by simp [results,Tryz.results182,go_sem,z0,z1,z2,z3,z4,z5,z6,z7,fT]) rfl ?_;obtain⟨f1,f2,f3⟩:=K9 HK.o HS.o bA.o qk.o HR.o.lt aaC.o Zz.o Dm.o ((ae.refl (λ b=>b=N) W4).setCell ⟨N,6,none⟩ (.slice (some ⟨W4.heap.size,0,none⟩) 1 1) (λ_=>rfl)) (ap (W4.setCell ⟨N,6,none⟩ (.slice (some ⟨W4.heap.size,0,none⟩) 1 1)) w.heap.size (.int .i64 9) (.bool false) (.string ⟨s.toArray⟩) (.slice wa wm wc1) (.slice none 0 0) (.slice none 0 0) (.slice (some ⟨W4.heap.size,0,none⟩) 1 1) (.slice none 0 0)) wC rfl
  exact⟨⟨9,false,⟨s.toArray⟩,wa,wm,wc1,none,0,0,none,0,0,some ⟨W4.heap.size,0,none⟩,1,1,none,0,0⟩,j3,xb,rfl,fv.o.1,fv.o.2,f1,f2,f3⟩
def mz (wd:List Pt) (p:PR (List Dt)):PR (List Dt):=match p with
 | .error e=>.error e
 | .ok (l,r2)=>.ok (cE 10 false [] [aB wd] [] [] [] l,r2)
def zm (K M:Nat) (acc:List Dt) (p:PR (List Dt)):PR (List Dt):=match p with
 | .error e=>.error e
 | .ok (a,r)=>if aj [59,59] r then bF (ab K) (av (ab K)) M (acc++a) (ai r.tail) else match cO [101,115,97,99] r with
  | .error e=>.error e
  | .ok (_,r2)=>.ok (acc++a,r2)
def tZ (K:Nat) (ps:List Dt) (ts:List Tk):PR (List Dt):=if fj ts then (match bz (ab K) ts with
 | .error e=>.error e
 | .ok (b,r3)=>.ok ([.sl 1 ps,.sl 8 b],r3))
 else .ok ([.sl 1 ps,.sl 8 []],ts)
def my (K:Nat) (p:PR (List Dt)):PR (List Dt):=match p with
 | .error e=>.error e
 | .ok (ps,r1)=>match en [41] r1 with
  | .error e=>.error e
  | .ok (_,r2)=>tZ K ps (ai r2)
theorem OZ (K:Nat) (ts:List Tk):lu (ab K) (av (ab K)) ts=match ca (av (ab K)) (if aj [40] ts then ts.tail else ts) with
 | .error e=>.error e
 | .ok (w,r)=>my K (bT (av (ab K)) (r.length+1) [aB w] r):=by
 unfold lu;cases ca (av (ab K)) (if aj [40] ts then ts.tail else ts) with
 | error e=>rfl
 | ok p=>
  obtain⟨w,r⟩:=p;dsimp only;unfold my;cases bT (av (ab K)) (r.length+1) [aB w] r with
  | error e=>rfl
  | ok p=>
   obtain⟨ps,r1⟩:=p;dsimp only;cases en [41] r1 with
   | error e=>rfl
   | ok q=>
    obtain⟨_,r2⟩:=q;dsimp only;unfold tZ;by_cases hm:fj (ai r2)=true
    ·rw [nE hm,nE hm];cases bz (ab K) (ai r2)<;>rfl
    ·rw [nF hm,nF hm]
theorem Ex (K M:Nat) (acc:List Dt) (ts:List Tk):bF (ab K) (av (ab K)) (M+1) acc ts=if aF [101,115,97,99] ts then .ok (acc,ts.tail) else zm K M acc (lu (ab K) (av (ab K)) ts):=by
 conv=>lhs;unfold bF
 unfold zm;by_cases h:aF [101,115,97,99] ts=true
 ·rw [nE h,nE h]
 ·rw [nF h,nF h];cases lu (ab K) (av (ab K)) ts<;>rfl
theorem Io (K:Nat) (ts:List Tk):eA (ab K) (av (ab K)) ts=match ca (av (ab K)) ts with
 | .error e=>.error e
 | .ok (w,r)=>if aF [105,110] (ai r) then mz w (bF (ab K) (av (ab K)) ((ai (ai r).tail).length+1) [] (ai (ai r).tail)) else .error 2:=by
 unfold eA;cases ca (av (ab K)) ts with
 | error e=>rfl
 | ok p=>
  obtain⟨w,r⟩:=p;dsimp only;cases h:aF [105,110] (ai r) with
  | false=>rw [lh h];rfl
  | true=>
   rw [kL h,nE rfl];dsimp only;unfold mz;cases bF (ab K) (av (ab K)) ((ai (ai r).tail).length+1) [] (ai (ai r).tail)<;>rfl
theorem EC (scr:Bs→Except Nat Unit) (n:Nat) (acc:List Dt) (ts:List Tk):bT scr (n+1) acc ts=if aj [124] ts then (match ca scr ts.tail with
 | .error e=>.error e
 | .ok (w,r)=>bT scr n (acc++[aB w]) r) else .ok (acc,ts):=rfl
def qK (K M:Nat) (wd:List Pt) (acc:List Dt) (p:PR (List Dt)):PR (List Dt):=mz wd (zm K M acc p)
theorem F7 {K M:Nat} {wd:List Pt} {acc a:List Dt} {r:List Tk} (h1:aj [59,59] r=false) (h2:aF [101,115,97,99] r=false):qK K M wd acc (.ok (a,r))=.error 2:=by
 unfold qK zm;dsimp only;rw [h1,nF sI,lh h2];rfl
theorem F6 {K M:Nat} {wd:List Pt} {acc a:List Dt} {r:List Tk} (h1:aj [59,59] r=false) (h2:aF [101,115,97,99] r=true):qK K M wd acc (.ok (a,r))=.ok (cE 10 false [] [aB wd] [] [] [] (acc++a),r.tail):=by
 unfold qK zm;dsimp only;rw [h1,nF sI,kL h2];rfl
theorem OY {K M:Nat} {wd:List Pt} {acc a:List Dt} {r:List Tk} (h1:aj [59,59] r=true):qK K M wd acc (.ok (a,r))=mz wd (bF (ab K) (av (ab K)) M (acc++a) (ai r.tail)):=by
 unfold qK zm;dsimp only;rw [h1,nE rfl]
theorem Mq {K:Nat} {ps:List Dt} {r:List Tk} (h:aj [41] r=false):my K (.ok (ps,r))=.error 2:=by
 unfold my;dsimp only;rw [sY h]
theorem Ik {K:Nat} {ps:List Dt} {r:List Tk} (h:aj [41] r=true):my K (.ok (ps,r))=tZ K ps (ai r.tail):=by
 unfold my;dsimp only;rw [qL h]
theorem BD {K M:Nat} {wd:List Pt} {acc ps:List Dt} {T:List Tk} {j x:Nat} {gd:Prop} {res:PR (List Dt)} (h:IY gd (res=qK K M wd acc (tZ K ps (T.drop j))) x res) (hj:x=0→j≤T.length) (hc:aj [59,59] (T.drop j)=true∨aF [101,115,97,99] (T.drop j)=true) :
 C6 gd (res=qK K M wd acc (.ok ([.sl 1 ps,.sl 8 []],T.drop j))) T j x res:=by
 have mj:dk (T.drop j)=true:=by
  rcases hc with hc | hc
  ·unfold dk;rw [hc,Bool.or_true,Bool.true_or]
  ·exact E9 (s:=[101,115,97,99]) dC _ hc
 rcases h with ⟨g,hx,hr⟩ | h
 ·refine .inl ⟨g,hx,hj hx,?_⟩;rw [hr];unfold tZ;rw [tE mj,nF sI]
 ·exact .inr (.inl h)
theorem Kk {K M:Nat} {wd:List Pt} {acc ps:List Dt} {T:List Tk} {j x jb xb:Nat} {gd:Prop} {res:PR (List Dt)} {w:World} {D:Nat→Prop} {us:List Value} (h:IY gd (res=qK K M wd acc (tZ K ps (T.drop j))) x res) (hl:ai (T.drop j)=T.drop j) (h1:aj [59,59] (T.drop j)=false) (h2:aF [101,115,97,99] (T.drop j)=false)
 (hf:(x=0∧QF true w D T (bz (ab K) (T.drop j)) us jb xb)∨(x≠0∧xb=x)) :
 ∃(gb:Prop) (db:List Dt),(gb→gd∧jA db∧bV w D db us)∧C6 gb (res=qK K M wd acc (.ok ([.sl 1 ps,.sl 8 db],T.drop jb))) T jb xb res:=by
 rcases h with ⟨g,hx,hr⟩ | ⟨hx,hr⟩
 ·rcases hf with ⟨_,hq⟩ | ⟨h9,_⟩
  ·unfold tZ at hr;by_cases hm:fj (T.drop j)=true
   ·rw [nE hm] at hr;obtain⟨gb,db,hg,e9⟩:=hq.state (λ p=>qK K M wd acc (match p with
     | .error e=>.error e
     | .ok (b,r3)=>.ok ([.sl 1 ps,.sl 8 b],r3))) (λ e=>rfl) (λ_ ds r hc=>by
      dsimp only;refine F7 ?_ (Am dC hc);unfold dk at hc;simp only [Bool.or_eq_false_iff] at hc;exact hc.1.2) hr
    exact⟨gb,db,λ g'=>⟨g,hg g'⟩,e9⟩
   ·rw [nF hm] at hr;rw [Hx K (by rw [hl];simpa using hm)] at hq;rw [F7 h1 h2] at hr;refine⟨False,[],λ h=>h.elim,?_⟩;rcases hq with ⟨a,b⟩ | ⟨_,a,b⟩
    ·exact .inr (.inl ⟨oM,by rw [hr,a]⟩)
    ·exact .inr (.inr ⟨a,b,hr⟩)
  ·exact nQ hx h9
 ·rcases hf with ⟨h9,_⟩ | ⟨_,rfl⟩
  ·exact nQ h9 hx
  ·exact⟨False,[],λ h=>h.elim,.inr (.inl ⟨hx,hr⟩)⟩
theorem rH {gd A:Prop} {T:List Tk} {j x xe:Nat} {res:PR (List Dt)} {ds:List Dt} (h:C6 gd A T j x res) (i8:xe=if x=0 then (if aF [101,115,97,99] (T.drop j) then 0 else 2) else x)
 (hA:A→(aF [101,115,97,99] (T.drop j)=true→res=.ok (ds,(T.drop j).tail))∧(aF [101,115,97,99] (T.drop j)=false→res=.error 2)) :
 (gd∧xe=0∧j+1≤T.length∧res=.ok (ds,T.drop (j+1)))∨(xe≠0∧res=.error xe):=by
 rcases h with ⟨g,hx,hj,ha⟩ | ⟨hx,hr⟩ | ⟨hx,ho,hr⟩
 ·rw [nE hx] at i8;cases hw:aF [101,115,97,99] (T.drop j) with
  | true=>
   rw [hw,nE rfl] at i8;have:=bL (cY dC hw);exact .inl ⟨g,i8,oM,by rw [(hA ha).1 hw,aG]⟩
  | false=>
   rw [hw,nF sI] at i8;exact .inr ⟨oM,by rw [i8];exact (hA ha).2 hw⟩
 ·rw [nF hx] at i8;subst i8;exact .inr ⟨hx,hr⟩
 ·rw [nE hx,yt dC _ ho,nF sI] at i8;exact .inr ⟨oM,by rw [i8];exact hr⟩
end Go.Proofs.YtiihpbccabeoeaaGreatDoor
