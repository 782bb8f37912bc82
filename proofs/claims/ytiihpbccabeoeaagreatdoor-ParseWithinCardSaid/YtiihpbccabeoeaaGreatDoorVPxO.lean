/- The walk: a part. -/
import Derived.Test.YtiihpbccabeoeaaGreatDoorVM
import Derived.Test.YtiihpbccabeoeaaGreatDoorVPxN
namespace Go.Proofs.YtiihpbccabeoeaaGreatDoor
open Go.RowKit
set_option linter.unusedVariables false
set_option maxRecDepth 100000
set_option maxHeartbeats 16000000
def SO (K:Nat) (p:PR (List Dt)):PR (List Dt):=match p with
 | .error e=>.error e
 | .ok (d,r)=>ck (ab K) (r.length+1) d r
def GC (K M k:Nat) (acc:List Dt) (p:PR (List Dt)):PR (List Dt):=match p with
 | .error e=>.error e
 | .ok (d,r)=>ck (ab K) M (cE k false [] [] [] [] (acc++d) []) r
theorem SP (K:Nat) (ts:List Tk):da (ab K) ts=SO K (bh (ab K) ts):=by
 unfold da SO;cases bh (ab K) ts with
 | error e=>rfl
 | ok p=>rfl
theorem GE {K M:Nat} {acc:List Dt} {ts:List Tk} (h:aj [38,38] ts=true):ck (ab K) (M+1) acc ts=GC K M 3 acc (bh (ab K) (ai ts.tail)):=by
 rw [gH,h,nE rfl];exact QJ
theorem GF {K M:Nat} {acc:List Dt} {ts:List Tk} (h1:aj [38,38] ts=false) (h:aj [124,124] ts=true):ck (ab K) (M+1) acc ts=GC K M 4 acc (bh (ab K) (ai ts.tail)):=by
 rw [gH,h1,nF sI,h,nE rfl];exact QJ
theorem Kh {K M:Nat} {acc:List Dt} {ts:List Tk} (h1:aj [38,38] ts=false) (h:aj [124,124] ts=false):ck (ab K) (M+1) acc ts=.ok (acc,ts):=by
 rw [gH,h1,nF sI,h,nF sI]
theorem TW {s t:Bs} {ts:List Tk} (h:aj s ts=true) (hs:t≠s):aj t ts=false:=by
 exact P1
def AG (K:Nat) (acc:List Dt) (T:List Tk) (I:Nat) (res:PR (List Dt)):Prop:=∃M,T.length - I+1≤M∧res=ck (ab K) M acc (T.drop I)
theorem Fl {K:Nat} {acc:List Dt} {T:List Tk} {I x:Nat} {res:PR (List Dt)} {gd:Prop} {w:World} {D:Nat→Prop} {us:List Value} (e9:C6 gd (AG K acc T I res) T I x res) (hx:x≠0∨(aj [38,38] (T.drop I)=false∧aj [124,124] (T.drop I)=false))
 (hr:gd→jA acc∧bV w D acc us):QF false w D T res us I x:=by
 rcases hx with hx | ⟨h1,h2⟩
 ·exact Qe
 ·refine e9.fin (λ g hp=>?_) (λ g hp=>hr g);obtain⟨M,hM,h⟩:=hp;obtain⟨M,rfl⟩:∃M',M=M'+1:=⟨M - 1,oM⟩;rw [h,Kh h1 h2]
structure AQ (gd:Prop) (w wr:World) (Lo B ps:Nat) (tv:Value) (n:Nat) (T:List Tk) (N I x:Nat) (v:NV) (acc:List Dt):Prop where
 rs:QS wr Lo B ps tv n T I x
 kp:ae (λ b=>b=ps) w wr
 zr:af wr w.heap.size [.int .i64 0,false,eS,(),(),(),(),()]
 rc:af wr N v.vals
 rd:gd→jA acc∧bV wr (λ b=>Qd Lo B (w.heap.size+1) b∧b≠N) acc v.vals
section
variable {gd gd2:Prop} {w wr w4:World} {Lo B ps:Nat} {tv:Value} {n:Nat} {T:List Tk} {N I J x y:Nat} {v v2:NV} {acc d2:List Dt}
theorem AQ.move (h:AQ gd w wr Lo B ps tv n T N I x v acc) (hc:ps<w.heap.size) (hN:w.heap.size<N) (hk:ae (λ b=>b=ps) wr w4) (du:QS w4 Lo B ps tv n T J y):AQ gd w w4 Lo B ps tv n T N J y v acc:=by
 have hB:=du.ps;exact⟨du,h.kp.trans hk (λ_ _ e=>e),h.zr.keep hk (λ e=>oM),h.rc.keep hk (λ e=>oM),λ g=>⟨(h.rd g).1,(h.rd g).2.keep hk (λ b _ hb e=>jV (X:=w.heap.size+1) hB oM hb.1 e)⟩⟩
theorem AQ.keep0 (h:AQ gd w wr Lo B ps tv n T N I x v acc) (hk:K0 wr w4):AQ gd w w4 Lo B ps tv n T N I x v acc:=
 ⟨h.rs.keep0 hk,h.kp.trans hk (λ_ _ e=>e.elim),h.zr.keep hk (λ e=>e),h.rc.keep hk (λ e=>e),λ g=>⟨(h.rd g).1,(h.rd g).2.keep hk (λ_ _ _ e=>e)⟩⟩
theorem AQ.inc (h:AQ gd w wr Lo B ps tv n T N I x v acc) (hc:ps<w.heap.size) (hN:w.heap.size<N) (hI:I+1≤T.length+1000):AQ gd w (wr.setCell ⟨ps,1,none⟩ (.int .i64 ((I:Int)+1))) Lo B ps tv n T N (I+1) x v acc:=
 h.move hc hN (eE h.rs hI).2 (eE h.rs hI).1
theorem AQ.next {k:Nat} {W7:World} (h:AQ gd w wr Lo B ps tv n T N I x v acc) (hc:ps<w.heap.size) (hN:w.heap.size<N) (hg:gd2→gd) (hd:gd2→jA d2∧bV wr (λ b=>Qd Lo B (w.heap.size+1) b∧b≠N) d2 v2.vals)
 (hW:W7=(((((((((wr.setCell ⟨N,0,none⟩ (.int .i64 (k:Nat))).setCell ⟨N,1,none⟩ (.bool false)).setCell ⟨N,2,none⟩ (.string ⟨#[]⟩)).setCell ⟨N,3,none⟩ (.slice none 0 0)).setCell ⟨N,4,none⟩ (.slice none 0 0)).setCell ⟨N,5,none⟩ (.slice none 0 0)).setCell ⟨N,6,none⟩ (.slice (some ⟨wr.heap.size,0,none⟩) 2 2)).setCell ⟨N,7,none⟩ (.slice none 0 0)).alloc (.cells (v.vals++v2.vals).toArray 44))) :
 AQ gd2 w W7 Lo B ps tv n T N I x ⟨(k:Nat),false,⟨#[]⟩,none,0,0,none,0,0,none,0,0,some ⟨wr.heap.size,0,none⟩,2,2,none,0,0⟩ (cE k false [] [] [] [] (acc++d2) []):=by
 have hB:=h.rs.ps;have fR:=h.rc.lt;have lz:=ap wr N (.int .i64 (k:Nat)) (.bool false) (.string ⟨#[]⟩) (.slice none 0 0) (.slice none 0 0) (.slice none 0 0) (.slice (some ⟨wr.heap.size,0,none⟩) 2 2) (.slice none 0 0);have Eh:=lo h.rc (.int .i64 (k:Nat)) (.bool false) (.string ⟨#[]⟩) (.slice none 0 0) (.slice none 0 0) (.slice none 0 0) (.slice (some ⟨wr.heap.size,0,none⟩) 2 2) (.slice none 0 0)
 obtain⟨w8,Hm⟩:∃w8,w8=((((((((wr.setCell ⟨N,0,none⟩ (.int .i64 (k:Nat))).setCell ⟨N,1,none⟩ (.bool false)).setCell ⟨N,2,none⟩ (.string ⟨#[]⟩)).setCell ⟨N,3,none⟩ (.slice none 0 0)).setCell ⟨N,4,none⟩ (.slice none 0 0)).setCell ⟨N,5,none⟩ (.slice none 0 0)).setCell ⟨N,6,none⟩ (.slice (some ⟨wr.heap.size,0,none⟩) 2 2)).setCell ⟨N,7,none⟩ (.slice none 0 0)):=⟨_,rfl⟩;have ek:w8.heap.size=wr.heap.size:=by rw [Hm];simp [World.setCell]
 rw [←Hm] at lz Eh hW;have i5:K0 w8 W7:=by rw [hW];exact (ae.refl _ _).alloc _
 refine⟨(h.rs.keep lz (λ b hb e=>oM) (λ e=>oM)).keep0 i5,(h.kp.fresh lz (λ b e=>oM)).trans i5 (λ_ _ e=>e.elim),(h.zr.keep lz (λ e=>oM)).keep i5 (λ e=>e),Eh.keep i5 (λ e=>e),λ g=>⟨⟨_,_,_,_,_,_,_,_,rfl⟩,?_⟩⟩;have h1:=(((h.rd (hg g)).2.app (hd g).2).lt.keep lz (λ b _ hb e=>hb.1.2 e));have hl:(acc++d2).length=2*8:=by rw [lA,(h.rd (hg g)).1.len,(hd g).1.len]
 have h2:=fk (m:=2) (Ty:=44) (h1.mono (λ b _ hb=>hb.1)) hl dC hW ⟨.inr oM,oM⟩;rw [ek] at h2;exact⟨.int _,.bool _,.str _,.nil _ _ _ (nB _),.nil _ _ _ (nB _),.nil _ _ _ (nB _),h2,.nil _ _ _ (nB _),trivial⟩
end
theorem Ew (K:Nat) (bw:ez K) (w:World) (Lo B ps n i aN:Nat) (tv:Value) (T:List Tk) (h:QS w Lo B ps tv n T i 0) (hi:i≤T.length) (hd:aN+K=41) :
 Calls Tryz.prog 94 #[.pointer (some ⟨ps,0,none⟩),.int .i64 (aN:Nat)] w (iw w Lo B ps tv n T i (2*K) false (da (ab K) (T.drop i))):=by
 obtain⟨res,ag⟩:∃res,res=da (ab K) (T.drop i):=⟨_,rfl⟩;rw [←ag];rw [SP K] at ag;have ov:=aT;have ay:=Hd ag;have HC:=Hd bw;have HD:=Hd hd;have bA:=Hd h.lt;have AK:T.length≤20000:=h.sm.1;have HS:=Lib.hid h;clear ag bw h;go_enter Tryz.func94,Tryz.ntmps94;go_wp2_with fail;obtain⟨W,hW⟩:∃W,W=w.alloc (.cells #[.int .i64 0,false,eS,(),(),(),(),()] 44):=⟨_,rfl⟩
 have dt:K0 w W:=by rw [hW];exact (ae.refl _ _).alloc _
 have HZ:=Hd (show af W w.heap.size [.int .i64 0,false,eS,(),(),(),(),()] by rw [hW];exact aD w _ _ _ _ _ _ _ _ _);rw [←hW];have mF:=Hd dt;have HWS:=Hd (show W.heap.size=w.heap.size+1 by rw [hW];simp);replace HS:=Hd (HS.o.keep0 dt);clear dt hW;refine (th K HC.o W Lo B ps n i aN tv T HS.o hi HD.o).mono ?_
 rintro e w2 ⟨v,j2,bd,rfl,yh,Eb,cj,aS,Jf⟩;obtain⟨gd,dd,yV,e9⟩:=Jf.state (SO K) (λ e=>rfl) (λ h=>by cases h) ay.o;have eI:=Hd (e9.map (good2:=AG K dd T j2 res) (λ_ h=>⟨(T.drop j2).length+1,by rw [nI];omega,h⟩));obtain⟨N,hN⟩:∃N,N=w2.heap.size:=⟨_,rfl⟩;obtain⟨W2,et⟩:∃W2,W2=w2.alloc (.cells #[v.k,v.nt,v.nm,.slice v.a0 v.n0 v.c0,.slice v.a1 v.n1 v.c1,.slice v.a2 v.n2 v.c2,.slice v.a3 v.n3 v.c3,.slice v.a4 v.n4 v.c4] 44):=⟨_,rfl⟩
 have aV:K0 w2 W2:=by rw [et];exact (ae.refl _ _).alloc _
 have AM:=aS.size;have Nm:=HWS.o;have HG:=Hd (show AQ gd w W2 Lo B ps tv n T N j2 bd v dd from⟨cj.keep0 aV,((mF.o.mono (λ_ _ h=>h.elim)).trans aS k3).trans aV (λ_ _ h=>h.elim),(HZ.o.keep aS (λ e=>by have:=bA.o;omega)).keep aV (λ h=>h),by rw [et,hN];exact aD _ _ _ _ _ _ _ _ _ _,
  λ g=>⟨(yV g).1,((yV g).2.lt.keep aV (λ_ _ _ h=>h)).mono (λ b _ hb=>⟨by rcases hb.1 with h | h;exact .inl h;exact .inr oM,by have:=hb.2;omega⟩)⟩⟩)
 have gE:=Hd (show w.heap.size<N by omega);have HN:=Hd hN;have SE:=Hd et;clear yV e9 cj aS Jf aV AM Nm hN et HZ mF HS ay;go_wp2_with fail;rw [←SE.o,←HN.o];clear SE HN;go_loopg [] (T.length+2000 - j2) (λ g wr=>∃(gd:Prop) (I x:Nat) (v:NV) (acc:List Dt),g=T.length+2000 - I∧i≤I∧I≤T.length+2*K∧Hid (AQ gd w wr Lo B ps tv n T N I x v acc)∧Hid (C6 gd (AG K acc T I res) T I x res))
 case atStart=>exact⟨gd,j2,bd,v,dd,rfl,yh,Eb,HG,eI⟩
 case round=>
  clear HG eI;obtain⟨gd,I,x,v,acc,eH,mI,Ng,HG,eI⟩:=hrel;have fK:=Hd eH;clear eH;obtain⟨c0,c1,c2,f1,f2⟩:=HG.o.rs.cells;have aW:=HG.o.rs.lt;by_cases hx:x=0
  ·subst hx;by_cases fB:aj [38,38] (T.drop I)=true∨aj [124,124] (T.drop I)=true
   ·obtain⟨g,p8,M,hM,hr⟩:gd∧I≤T.length∧AG K acc T I res:=by
     rcases eI.o with ⟨g,_,p8,hp⟩ | ⟨h9,_⟩ | ⟨_,h9,_⟩
     ·exact⟨g,p8,hp⟩
     ·exact nQ rfl h9
     ·rcases fB with fB | fB
      ·rw [lQ h9 [38,38] dC] at fB;cases fB
      ·rw [lQ h9 [124,124] dC] at fB;cases fB
    obtain⟨M,rfl⟩:∃M',M=M'+1:=⟨M - 1,oM⟩;have fa:I<T.length:=by rcases fB with fB | fB<;>exact bL (dA fB)
    have iD:=Hd g;have pW:IntKind.i64.wrap ((I:Int)+1)=(I:Int)+1:=nL _ oM;cases o1:aj [38,38] (T.drop I) with
    | true=>
     have o2:aj [124,124] (T.drop I)=false:=TW o1 dC;rw [GE o1] at hr;have HR:=Hd hr;have HQ:=Hd (aY HG.o.rs [38,38] true o1 0);have je:=Hd (λ q=>aY HG.o.rs [124,124] false o2 q);clear o1 o2 fB hr g eI;go_wp2_with fail;refine HQ.o.mono ?_;rintro e wq ⟨rfl,q,rfl⟩;go_wp2_with fail;refine (je.o q).mono ?_;rintro e wq ⟨rfl,q2,rfl⟩;obtain⟨w2,aQ⟩:∃w2,w2=wr.drewN q2:=⟨_,rfl⟩
     rw [←aQ];replace HG:=Hd (HG.o.keep0 (show K0 wr w2 by rw [aQ];exact (ae.refl _ _).drewN _));clear aQ;obtain⟨c0,c1,c2,f1,f2⟩:=HG.o.rs.cells;have aW:=HG.o.rs.lt;go_wp2_with fail;obtain⟨w3,aQ⟩:∃w3,w3=w2.setCell ⟨ps,1,none⟩ (.int .i64 ((I:Int)+1)):=⟨_,rfl⟩;rw [←aQ];replace HG:=Hd (by have h9:=HG.o.inc bA.o gE.o oM;rw [←aQ] at h9;exact h9);clear aQ
     refine (de _ Lo B ps n (I+1) 0 tv T HG.o.rs).mono ?_;rintro e w4 ⟨rfl,j,ku,hj2,ow,kB,dR,be⟩;have yi:j≤T.length:=hj2 oM;replace HG:=Hd (HG.o.move bA.o gE.o be dR);replace HR:=Hd (show res=GC K M 3 acc (bh (ab K) (T.drop j)) by rw [kB,←aG];exact HR.o);clear dR be kB ow hj2 c0 c1 c2 f1 f2 aW;go_wp2_with fail;refine (th K HC.o w4 Lo B ps n j aN tv T HG.o.rs yi HD.o).mono ?_
     rintro e w5 ⟨v2,j5,UB,rfl,XB,Oo,dV,bi,G5⟩;obtain⟨Rk,d5,Ea,Ek⟩:=G5.state (GC K M 3 acc) (λ e=>rfl) (λ h=>by cases h) HR.o;have eI:=Hd (Ek.map (good2:=AG K (cE 3 false [] [] [] [] (acc++d5) []) T j5 res) (λ_ h=>⟨M,oM,h⟩));exact VZ
    | false=>
     have o2:aj [124,124] (T.drop I)=true:=by rcases fB with h | h;rw [h] at o1;cases o1;exact h
     rw [GF o1 o2] at hr;have HR:=Hd hr;have HQ:=Hd (aY HG.o.rs [38,38] false o1 0);have je:=Hd (λ q=>aY HG.o.rs [124,124] true o2 q);clear o1 o2 fB hr g eI;go_wp2_with fail;refine HQ.o.mono ?_;rintro e wq ⟨rfl,q,rfl⟩;go_wp2_with fail;refine (je.o q).mono ?_;rintro e wq ⟨rfl,q2,rfl⟩;go_wp2_with fail;refine (je.o q2).mono ?_;rintro e wq ⟨rfl,q3,rfl⟩;obtain⟨w2,aQ⟩:∃w2,w2=wr.drewN q3:=⟨_,rfl⟩
     rw [←aQ];replace HG:=Hd (HG.o.keep0 (show K0 wr w2 by rw [aQ];exact (ae.refl _ _).drewN _));clear aQ;obtain⟨c0,c1,c2,f1,f2⟩:=HG.o.rs.cells;have aW:=HG.o.rs.lt;go_wp2_with fail;obtain⟨w3,aQ⟩:∃w3,w3=w2.setCell ⟨ps,1,none⟩ (.int .i64 ((I:Int)+1)):=⟨_,rfl⟩;rw [←aQ];replace HG:=Hd (by have h9:=HG.o.inc bA.o gE.o oM;rw [←aQ] at h9;exact h9);clear aQ
     refine (de _ Lo B ps n (I+1) 0 tv T HG.o.rs).mono ?_;rintro e w4 ⟨rfl,j,ku,hj2,ow,kB,dR,be⟩;have yi:j≤T.length:=hj2 oM;replace HG:=Hd (HG.o.move bA.o gE.o be dR);replace HR:=Hd (show res=GC K M 4 acc (bh (ab K) (T.drop j)) by rw [kB,←aG];exact HR.o);clear dR be kB ow hj2 c0 c1 c2 f1 f2 aW;go_wp2_with fail;refine (th K HC.o w4 Lo B ps n j aN tv T HG.o.rs yi HD.o).mono ?_
     rintro e w5 ⟨v2,j5,UB,rfl,XB,Oo,dV,bi,G5⟩;obtain⟨Rk,d5,Ea,Ek⟩:=G5.state (GC K M 4 acc) (λ e=>rfl) (λ h=>by cases h) HR.o;have eI:=Hd (Ek.map (good2:=AG K (cE 4 false [] [] [] [] (acc++d5) []) T j5 res) (λ_ h=>⟨M,oM,h⟩));exact VZ
   ·obtain⟨o1,o2⟩:=not_or.1 fB;rw [Bool.not_eq_true] at o1 o2;have HX:=Hd (show 0≠0∨(aj [38,38] (T.drop I)=false∧aj [124,124] (T.drop I)=false) from .inr ⟨o1,o2⟩);have HQ:=Hd (aY HG.o.rs [38,38] false o1 0);have je:=Hd (λ q=>aY HG.o.rs [124,124] false o2 q);clear o1 o2 fB;go_wp2_with fail;refine HQ.o.mono ?_;rintro e wq ⟨rfl,q,rfl⟩;go_wp2_with fail;refine (je.o q).mono ?_
    rintro e wq ⟨rfl,q2,rfl⟩;obtain⟨wf,qF⟩:∃wf,wf=wr.drewN q2:=⟨_,rfl⟩;rw [←qF];replace HG:=Hd (HG.o.keep0 (show K0 wr wf by rw [qF];exact (ae.refl _ _).drewN _));clear qF;clear c0 c1 c2 f1 f2 aW;have hf:=Fl (w:=wf) (D:=λ b=>Qd Lo B w.heap.size b∧b≠w.heap.size) (us:=[.int .i64 v.k,.bool v.nt,.string v.nm,.slice v.a0 v.n0 v.c0,.slice v.a1 v.n1 v.c1,.slice v.a2 v.n2 v.c2,.slice v.a3 v.n3 v.c3,.slice v.a4 v.n4 v.c4]) eI.o HX.o (λ g=>⟨(HG.o.rd g).1,(HG.o.rd g).2.mono (λ b _ hb=>⟨by rcases hb.1 with h | h;exact .inl h;exact .inr oM,by rcases hb.1 with h | h;exact (by have:=bA.o;have:=HG.o.rs.ps;omega);exact oM⟩)⟩)
    have HF:=Hd hf;have HK:=Hd HG.o.kp;have HS:=Hd HG.o.rs;have Bn:=(show af wf N [v.k,v.nt,v.nm,.slice v.a0 v.n0 v.c0,.slice v.a1 v.n1 v.c1,.slice v.a2 v.n2 v.c2,.slice v.a3 v.n3 v.c3,.slice v.a4 v.n4 v.c4] from HG.o.rc);obtain⟨⟨x0,x1,x2,x3,x4,x5,x6,x7⟩,⟨f8,gf,hC,hU,hV,hY,hZ,ia⟩⟩:=Bn.eight;have fR:=Bn.lt;have vS:=gE.o;clear hf Bn;obtain⟨⟨z0,z1,z2,z3,z4,z5,z6,z7⟩,⟨gO,gP,ib,ic,ie,ig,ii,ij⟩⟩:=HG.o.zr.eight
    have fT:=HG.o.zr.lt;go_wp2_with fail;refine nJ (v:=.agg #[v.k,v.nt,v.nm,.slice v.a0 v.n0 v.c0,.slice v.a1 v.n1 v.c1,.slice v.a2 v.n2 v.c2,.slice v.a3 v.n3 v.c3,.slice v.a4 v.n4 v.c4]) (by simp [results,Tryz.results94,go_sem,z0,z1,z2,z3,z4,z5,z6,z7]) rfl ?_;exact WF
  ·have t:((x:Int)==0)=false:=by rw [nA];omega
   have HX:=Hd (show x≠0∨(aj [38,38] (T.drop I)=false∧aj [124,124] (T.drop I)=false) from .inl hx);obtain⟨wf,qF⟩:∃wf,wf=wr:=⟨_,rfl⟩;rw [←qF];rw [←qF] at HG c0 c1 c2 f1 f2 aW;clear hx qF;have hf:=Fl (w:=wf) (D:=λ b=>Qd Lo B w.heap.size b∧b≠w.heap.size) (us:=[.int .i64 v.k,.bool v.nt,.string v.nm,.slice v.a0 v.n0 v.c0,.slice v.a1 v.n1 v.c1,.slice v.a2 v.n2 v.c2,.slice v.a3 v.n3 v.c3,.slice v.a4 v.n4 v.c4]) eI.o HX.o (λ g=>⟨(HG.o.rd g).1,(HG.o.rd g).2.mono (λ b _ hb=>⟨by rcases hb.1 with h | h;exact .inl h;exact .inr oM,by rcases hb.1 with h | h;exact (by have:=bA.o;have:=HG.o.rs.ps;omega);exact oM⟩)⟩)
   have HF:=Hd hf;have HK:=Hd HG.o.kp;have HS:=Hd HG.o.rs;have Bn:=(show af wf N [v.k,v.nt,v.nm,.slice v.a0 v.n0 v.c0,.slice v.a1 v.n1 v.c1,.slice v.a2 v.n2 v.c2,.slice v.a3 v.n3 v.c3,.slice v.a4 v.n4 v.c4] from HG.o.rc);obtain⟨⟨x0,x1,x2,x3,x4,x5,x6,x7⟩,⟨f8,gf,hC,hU,hV,hY,hZ,ia⟩⟩:=Bn.eight;have fR:=Bn.lt;have vS:=gE.o;clear hf Bn;obtain⟨⟨z0,z1,z2,z3,z4,z5,z6,z7⟩,⟨gO,gP,ib,ic,ie,ig,ii,ij⟩⟩:=HG.o.zr.eight
   have fT:=HG.o.zr.lt;go_wp2_with fail;refine nJ (v:=.agg #[v.k,v.nt,v.nm,.slice v.a0 v.n0 v.c0,.slice v.a1 v.n1 v.c1,.slice v.a2 v.n2 v.c2,.slice v.a3 v.n3 v.c3,.slice v.a4 v.n4 v.c4]) (by simp [results,Tryz.results94,go_sem,z0,z1,z2,z3,z4,z5,z6,z7]) rfl ?_;exact WG
end Go.Proofs.YtiihpbccabeoeaaGreatDoor
