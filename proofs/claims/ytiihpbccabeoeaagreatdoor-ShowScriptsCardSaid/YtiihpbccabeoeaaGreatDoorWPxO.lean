/- The walk: a part. -/
import Derived.Test.YtiihpbccabeoeaaGreatDoorWPxN
namespace Go.Proofs.YtiihpbccabeoeaaGreatDoor
open Go.RowKit
set_option linter.unusedVariables false
set_option maxRecDepth 100000
set_option maxHeartbeats 16000000
def Pa (K:Nat) (p:PR (List Dt)):PR (List Dt):=match p with
 | .error e=>.error e
 | .ok (d,r)=>dU (aC K) (r.length+1) d r
def Jj (K M k:Nat) (acc:List Dt) (p:PR (List Dt)):PR (List Dt):=match p with
 | .error e=>.error e
 | .ok (d,r)=>dU (aC K) M (ndR k false [] [] [] [] (acc++d) []) r
theorem Pk (K:Nat) (ts:List Tk):eN (aC K) ts=Pa K (bM (aC K) ts):=by
 unfold eN Pa;cases bM (aC K) ts with
 | error e=>rfl
 | ok p=>rfl
theorem Hf {K M:Nat} {acc:List Dt} {ts:List Tk} (h:aG [38,38] ts=true):dU (aC K) (M+1) acc ts=Jj K M 3 acc (bM (aC K) (aF ts.tail)):=by
 rw [mR,h,if_pos rfl];cases bM (aC K) (aF ts.tail) with
 | error e=>rfl
 | ok p=>rfl
theorem Ie {K M:Nat} {acc:List Dt} {ts:List Tk} (h1:aG [38,38] ts=false) (h:aG [124,124] ts=true):dU (aC K) (M+1) acc ts=Jj K M 4 acc (bM (aC K) (aF ts.tail)):=by
 rw [mR,h1,if_neg (by simp),h,if_pos rfl];cases bM (aC K) (aF ts.tail) with
 | error e=>rfl
 | ok p=>rfl
theorem M9 {K M:Nat} {acc:List Dt} {ts:List Tk} (h1:aG [38,38] ts=false) (h:aG [124,124] ts=false):dU (aC K) (M+1) acc ts=.ok (acc,ts):=by
 rw [mR,h1,if_neg (by simp),h,if_neg (by simp)]
theorem Pb {s t:Bs} {ts:List Tk} (h:aG s ts=true) (hs:t≠s):aG t ts=false:=by
 unfold aG at h ⊢;rw [Bool.and_eq_true] at h;rw [h.1,Bool.true_and,beq_iff_eq.1 h.2,beq_eq_false_iff_ne];exact fun e=>hs e.symm
def AG (K:Nat) (acc:List Dt) (T:List Tk) (I:Nat) (res:PR (List Dt)):Prop:=∃M,T.length - I+1≤M∧res=dU (aC K) M acc (T.drop I)
theorem Gq {K:Nat} {acc:List Dt} {T:List Tk} {I x:Nat} {res:PR (List Dt)} {gd:Prop} {w:World} {D:Nat→Prop} {us:List Value} (hst:QSt gd (AG K acc T I res) T I x res) (hx:x≠0∨(aG [38,38] (T.drop I)=false∧aG [124,124] (T.drop I)=false))
 (hr:gd→NdD acc∧RdL w D acc us):QF false w D T res us I x:=by
 rcases hx with hx | ⟨h1,h2⟩
 ·rcases hst with ⟨_,h0,_⟩ | ⟨_,h⟩ | ⟨h0,_⟩
  ·exact absurd h0 hx
  ·exact QF.err hx h
  ·exact absurd h0 hx
 ·refine hst.fin (fun g hp=>?_) (fun g hp=>hr g);obtain⟨M,hM,h⟩:=hp;obtain⟨M,rfl⟩:∃M',M=M'+1:=⟨M - 1,by omega⟩;rw [h,M9 h1 h2]
structure AQ (gd:Prop) (w wr:World) (Lo B ps:Nat) (tv:Value) (n:Nat) (T:List Tk) (N I x:Nat) (v:NV) (acc:List Dt):Prop where
 rs:QS wr Lo B ps tv n T I x
 kp:aB (fun b=>b=ps) w wr
 zr:aH wr w.heap.size [.int .i64 0,.bool false,.string ⟨#[]⟩,.slice none 0 0,.slice none 0 0,.slice none 0 0,.slice none 0 0,.slice none 0 0]
 rc:aH wr N v.vals
 rd:gd→NdD acc∧RdL wr (fun b=>Qd Lo B (w.heap.size+1) b∧b≠N) acc v.vals
section
variable {gd gd2:Prop} {w wr w4:World} {Lo B ps:Nat} {tv:Value} {n:Nat} {T:List Tk} {N I J x y:Nat} {v v2:NV} {acc d2:List Dt}
theorem AQ.move (h:AQ gd w wr Lo B ps tv n T N I x v acc) (hc:ps<w.heap.size) (hN:w.heap.size<N) (hk:aB (fun b=>b=ps) wr w4) (hrs:QS w4 Lo B ps tv n T J y):AQ gd w w4 Lo B ps tv n T N J y v acc:=by
 have hB:=hrs.ps;exact⟨hrs,h.kp.trans hk (fun _ _ e=>e),h.zr.keep hk (fun e=>by omega),h.rc.keep hk (fun e=>by omega),fun g=>⟨(h.rd g).1,(h.rd g).2.keep hk (fun b _ hb e=>iX (X:=w.heap.size+1) hB (by omega) hb.1 e)⟩⟩
theorem AQ.keep0 (h:AQ gd w wr Lo B ps tv n T N I x v acc) (hk:K0 wr w4):AQ gd w w4 Lo B ps tv n T N I x v acc:=
 ⟨h.rs.keep0 hk,h.kp.trans hk (fun _ _ e=>e.elim),h.zr.keep hk (fun e=>e),h.rc.keep hk (fun e=>e),fun g=>⟨(h.rd g).1,(h.rd g).2.keep hk (fun _ _ _ e=>e)⟩⟩
theorem AQ.inc (h:AQ gd w wr Lo B ps tv n T N I x v acc) (hc:ps<w.heap.size) (hN:w.heap.size<N) (hI:I+1≤T.length+1000):AQ gd w (wr.setCell ⟨ps,1,none⟩ (.int .i64 ((I:Int)+1))) Lo B ps tv n T N (I+1) x v acc:=
 h.move hc hN (eM h.rs hI).2 (eM h.rs hI).1
theorem AQ.next {k:Nat} {W7:World} (h:AQ gd w wr Lo B ps tv n T N I x v acc) (hc:ps<w.heap.size) (hN:w.heap.size<N) (hg:gd2→gd) (hd:gd2→NdD d2∧RdL wr (fun b=>Qd Lo B (w.heap.size+1) b∧b≠N) d2 v2.vals)
 (hW:W7=(((((((((wr.setCell ⟨N,0,none⟩ (.int .i64 (k:Nat))).setCell ⟨N,1,none⟩ (.bool false)).setCell ⟨N,2,none⟩ (.string ⟨#[]⟩)).setCell ⟨N,3,none⟩ (.slice none 0 0)).setCell ⟨N,4,none⟩ (.slice none 0 0)).setCell ⟨N,5,none⟩ (.slice none 0 0)).setCell ⟨N,6,none⟩ (.slice (some ⟨wr.heap.size,0,none⟩) 2 2)).setCell ⟨N,7,none⟩ (.slice none 0 0)).alloc (.cells (v.vals++v2.vals).toArray 44))) :
 AQ gd2 w W7 Lo B ps tv n T N I x ⟨(k:Nat),false,⟨#[]⟩,none,0,0,none,0,0,none,0,0,some ⟨wr.heap.size,0,none⟩,2,2,none,0,0⟩ (ndR k false [] [] [] [] (acc++d2) []):=by
 have hB:=h.rs.ps;have hNl:=h.rc.lt;have hk8:=aJ wr N (.int .i64 (k:Nat)) (.bool false) (.string ⟨#[]⟩) (.slice none 0 0) (.slice none 0 0) (.slice none 0 0) (.slice (some ⟨wr.heap.size,0,none⟩) 2 2) (.slice none 0 0);have hr8:=Lx h.rc (.int .i64 (k:Nat)) (.bool false) (.string ⟨#[]⟩) (.slice none 0 0) (.slice none 0 0) (.slice none 0 0) (.slice (some ⟨wr.heap.size,0,none⟩) 2 2) (.slice none 0 0)
 obtain⟨w8,hw8⟩:∃w8,w8=((((((((wr.setCell ⟨N,0,none⟩ (.int .i64 (k:Nat))).setCell ⟨N,1,none⟩ (.bool false)).setCell ⟨N,2,none⟩ (.string ⟨#[]⟩)).setCell ⟨N,3,none⟩ (.slice none 0 0)).setCell ⟨N,4,none⟩ (.slice none 0 0)).setCell ⟨N,5,none⟩ (.slice none 0 0)).setCell ⟨N,6,none⟩ (.slice (some ⟨wr.heap.size,0,none⟩) 2 2)).setCell ⟨N,7,none⟩ (.slice none 0 0)):=⟨_,rfl⟩;have hsz:w8.heap.size=wr.heap.size:=by rw [hw8];simp [World.setCell]
 rw [←hw8] at hk8 hr8 hW;have hk7:K0 w8 W7:=by rw [hW];exact (aB.refl _ _).alloc _
 refine⟨(h.rs.keep hk8 (fun b hb e=>by omega) (fun e=>by omega)).keep0 hk7,(h.kp.fresh hk8 (fun b e=>by omega)).trans hk7 (fun _ _ e=>e.elim),(h.zr.keep hk8 (fun e=>by omega)).keep hk7 (fun e=>e),hr8.keep hk7 (fun e=>e),fun g=>⟨⟨_,_,_,_,_,_,_,_,rfl⟩,?_⟩⟩;have h1:=(((h.rd (hg g)).2.app (hd g).2).lt.keep hk8 (fun b _ hb e=>hb.1.2 e));have hl:(acc++d2).length=2*8:=by rw [lA,(h.rd (hg g)).1.len,(hd g).1.len]
 have h2:=mV (m:=2) (Ty:=44) (h1.mono (fun b _ hb=>hb.1)) hl (by decide) hW ⟨.inr (by omega),by omega⟩;rw [hsz] at h2;exact⟨.int _,.bool _,.str _,.nil _ _ _ (Nat.zero_le _),.nil _ _ _ (Nat.zero_le _),.nil _ _ _ (Nat.zero_le _),h2,.nil _ _ _ (Nat.zero_le _),trivial⟩
end
theorem E7 (K:Nat) (hcmd:eU K) (w:World) (Lo B ps n i deep:Nat) (tv:Value) (T:List Tk) (h:QS w Lo B ps tv n T i 0) (hi:i≤T.length) (hd:deep+K=41) :
 Calls Tryz.prog 94 #[.pointer (some ⟨ps,0,none⟩),.int .i64 (deep:Nat)] w (iJ w Lo B ps tv n T i (2*K) false (eN (aC K) (T.drop i))):=by
 obtain⟨res,hres⟩:∃res,res=eN (aC K) (T.drop i):=⟨_,rfl⟩;rw [←hres];rw [Pk K] at hres;have hc8:=bV;have HRES:=Hd hres;have HC:=Hd hcmd;have HD:=Hd hd;have HPS:=Hd h.lt;have hmT:T.length≤20000:=h.sm.1;have HS:=Lib.hid h;clear hres hcmd h;go_enter Tryz.func94,Tryz.ntmps94;go_wp2_with fail;obtain⟨W,hW⟩:∃W,W=w.alloc (.cells #[.int .i64 0,.bool false,.string ⟨#[]⟩,.slice none 0 0,.slice none 0 0,.slice none 0 0,.slice none 0 0,.slice none 0 0] 44):=⟨_,rfl⟩
 have hk0:K0 w W:=by rw [hW];exact (aB.refl _ _).alloc _
 have HZ:=Hd (show aH W w.heap.size [.int .i64 0,.bool false,.string ⟨#[]⟩,.slice none 0 0,.slice none 0 0,.slice none 0 0,.slice none 0 0,.slice none 0 0] by rw [hW];exact aK w _ _ _ _ _ _ _ _ _);rw [←hW];have HK0:=Hd hk0;have HWS:=Hd (show W.heap.size=w.heap.size+1 by rw [hW];simp);replace HS:=Hd (HS.o.keep0 hk0);clear hk0 hW;refine (sK K HC.o W Lo B ps n i deep tv T HS.o hi HD.o).mono ?_
 rintro e w2 ⟨v,j2,bd,rfl,hij2,hj2b,hs2,hk2,hf2⟩;obtain⟨gd,dd,hgd,hst⟩:=hf2.state (Pa K) (fun e=>rfl) (fun h=>by cases h) HRES.o;have HST:=Hd (hst.map (good2:=AG K dd T j2 res) (fun _ h=>⟨(T.drop j2).length+1,by rw [List.length_drop];omega,h⟩));obtain⟨N,hN⟩:∃N,N=w2.heap.size:=⟨_,rfl⟩;obtain⟨W2,hW2⟩:∃W2,W2=w2.alloc (.cells #[.int .i64 v.k,.bool v.nt,.string v.nm,.slice v.a0 v.n0 v.c0,.slice v.a1 v.n1 v.c1,.slice v.a2 v.n2 v.c2,.slice v.a3 v.n3 v.c3,.slice v.a4 v.n4 v.c4] 44):=⟨_,rfl⟩
 have hk3:K0 w2 W2:=by rw [hW2];exact (aB.refl _ _).alloc _
 have hsz2:=hk2.size;have hws:=HWS.o;have HG:=Hd (show AQ gd w W2 Lo B ps tv n T N j2 bd v dd from⟨hs2.keep0 hk3,((HK0.o.mono (fun _ _ h=>h.elim)).trans hk2 k3).trans hk3 (fun _ _ h=>h.elim),(HZ.o.keep hk2 (fun e=>by have:=HPS.o;omega)).keep hk3 (fun h=>h),by rw [hW2,hN];exact aK _ _ _ _ _ _ _ _ _ _,
  fun g=>⟨(hgd g).1,((hgd g).2.lt.keep hk3 (fun _ _ _ h=>h)).mono (fun b _ hb=>⟨by rcases hb.1 with h | h;exact .inl h;exact .inr (by omega),by have:=hb.2;omega⟩)⟩⟩)
 have HNX:=Hd (show w.heap.size<N by omega);have HN:=Hd hN;have HW2:=Hd hW2;clear hgd hst hs2 hk2 hf2 hk3 hsz2 hws hN hW2 HZ HK0 HS HRES;go_wp2_with fail;rw [←HW2.o,←HN.o];clear HW2 HN;go_loopg [] (T.length+2000 - j2) (fun g wr=>∃(gd:Prop) (I x:Nat) (v:NV) (acc:List Dt),g=T.length+2000 - I∧i≤I∧I≤T.length+2*K∧Hid (AQ gd w wr Lo B ps tv n T N I x v acc)∧Hid (QSt gd (AG K acc T I res) T I x res))
 case atStart=>exact⟨gd,j2,bd,v,dd,rfl,hij2,hj2b,HG,HST⟩
 case round=>
  clear HG HST;obtain⟨gd,I,x,v,acc,hgk,hiI,hIb,HG,HST⟩:=hrel;have HGK:=Hd hgk;clear hgk;obtain⟨c0,c1,c2,f1,f2⟩:=HG.o.rs.cells;have hlt:=HG.o.rs.lt;by_cases hx:x=0
  ·subst hx;by_cases hor:aG [38,38] (T.drop I)=true∨aG [124,124] (T.drop I)=true
   ·obtain⟨g,hIT,M,hM,hr⟩:gd∧I≤T.length∧AG K acc T I res:=by
     rcases HST.o with ⟨g,_,hIT,hp⟩ | ⟨h9,_⟩ | ⟨_,h9,_⟩
     ·exact⟨g,hIT,hp⟩
     ·exact absurd rfl h9
     ·rcases hor with hor | hor
      ·rw [lH h9 [38,38] (by decide)] at hor;cases hor
      ·rw [lH h9 [124,124] (by decide)] at hor;cases hor
    obtain⟨M,rfl⟩:∃M',M=M'+1:=⟨M - 1,by omega⟩;have hpos:I<T.length:=by rcases hor with hor | hor<;>exact bQ (dO hor)
    have HG0:=Hd g;have hsum:IntKind.i64.wrap ((I:Int)+1)=(I:Int)+1:=IntWalk.i64_in _ (by omega);cases o1:aG [38,38] (T.drop I) with
    | true=>
     have o2:aG [124,124] (T.drop I)=false:=Pb o1 (by decide);rw [Hf o1] at hr;have HR:=Hd hr;have HQ:=Hd (a8 HG.o.rs [38,38] true o1 0);have HQ2:=Hd (fun q=>a8 HG.o.rs [124,124] false o2 q);clear o1 o2 hor hr g HST;go_wp2_with fail;refine HQ.o.mono ?_;rintro e wq ⟨rfl,q,rfl⟩;go_wp2_with fail;refine (HQ2.o q).mono ?_;rintro e wq ⟨rfl,q2,rfl⟩;obtain⟨w2,hw2⟩:∃w2,w2=wr.drewN q2:=⟨_,rfl⟩
     rw [←hw2];replace HG:=Hd (HG.o.keep0 (show K0 wr w2 by rw [hw2];exact (aB.refl _ _).drewN _));clear hw2;obtain⟨c0,c1,c2,f1,f2⟩:=HG.o.rs.cells;have hlt:=HG.o.rs.lt;go_wp2_with fail;obtain⟨w3,hw2⟩:∃w3,w3=w2.setCell ⟨ps,1,none⟩ (.int .i64 ((I:Int)+1)):=⟨_,rfl⟩;rw [←hw2];replace HG:=Hd (by have h9:=HG.o.inc HPS.o HNX.o (by omega);rw [←hw2] at h9;exact h9);clear hw2
     refine (cY _ Lo B ps n (I+1) 0 tv T HG.o.rs).mono ?_;rintro e w4 ⟨rfl,j,hj1,hj2,hj3,hj4,hs4,hk4⟩;have hjT:j≤T.length:=hj2 (by omega);replace HG:=Hd (HG.o.move HPS.o HNX.o hk4 hs4);replace HR:=Hd (show res=Jj K M 3 acc (bM (aC K) (T.drop j)) by rw [hj4,←aS];exact HR.o);clear hs4 hk4 hj4 hj3 hj2 c0 c1 c2 f1 f2 hlt;go_wp2_with fail;refine (sK K HC.o w4 Lo B ps n j deep tv T HG.o.rs hjT HD.o).mono ?_
     rintro e w5 ⟨v2,j5,bd5,rfl,hj15,hj5b,hs5,hk5,hf5⟩;obtain⟨gd5,d5,hgd5,hst5⟩:=hf5.state (Jj K M 3 acc) (fun e=>rfl) (fun h=>by cases h) HR.o;have HST:=Hd (hst5.map (good2:=AG K (ndR 3 false [] [] [] [] (acc++d5) []) T j5 res) (fun _ h=>⟨M,by omega,h⟩));have hN4:=HG.o.rc.lt;have hnx:=HNX.o;replace HG:=Hd (HG.o.move HPS.o HNX.o hk5 hs5);go_upto_region 9 with fail;obtain⟨NC,hNC⟩:∃NC,NC=w5.heap.size:=⟨_,rfl⟩
     obtain⟨W6,hW6⟩:∃W6,W6=w5.alloc (.cells #[.int .i64 v2.k,.bool v2.nt,.string v2.nm,.slice v2.a0 v2.n0 v2.c0,.slice v2.a1 v2.n1 v2.c1,.slice v2.a2 v2.n2 v2.c2,.slice v2.a3 v2.n3 v2.c3,.slice v2.a4 v2.n4 v2.c4] 44):=⟨_,rfl⟩;rw [←hW6]
     try rw [←hNC]
     have hk6:K0 w5 W6:=by rw [hW6];exact (aB.refl _ _).alloc _
     have HMR:=Hd (show aH W6 NC [.int .i64 v2.k,.bool v2.nt,.string v2.nm,.slice v2.a0 v2.n0 v2.c0,.slice v2.a1 v2.n1 v2.c1,.slice v2.a2 v2.n2 v2.c2,.slice v2.a3 v2.n3 v2.c3,.slice v2.a4 v2.n4 v2.c4] by rw [hW6,hNC];exact aK _ _ _ _ _ _ _ _ _ _);replace HG:=Hd (HG.o.keep0 hk6);have HD5:=Hd (show gd5→NdD d5∧RdL W6 (fun b=>Qd Lo B (w.heap.size+1) b∧b≠N) d5 v2.vals from fun g=>⟨(hgd5 g).1,((hgd5 g).2.keep hk6 (fun _ _ _ h=>h)).mono (fun b _ hb=>by rcases hb with h | h;exact⟨.inl h,by have:=HPS.o;have:=hs5.ps;omega⟩;exact⟨.inr (by omega),by omega⟩)⟩)
     have hNW:=HG.o.rc.lt;have hne:N≠NC:=by have:=hk5.size;omega
     have hrc:=(show aH W6 N [.int .i64 v.k,.bool v.nt,.string v.nm,.slice v.a0 v.n0 v.c0,.slice v.a1 v.n1 v.c1,.slice v.a2 v.n2 v.c2,.slice v.a3 v.n3 v.c3,.slice v.a4 v.n4 v.c4] from HG.o.rc);obtain⟨⟨x0,x1,x2,x3,x4,x5,x6,x7⟩,⟨xf0,xf1,xf2,xf3,xf4,xf5,xf6,xf7⟩⟩:=hrc.eight;obtain⟨⟨u0,u1,u2,u3,u4,u5,u6,u7⟩,⟨uf0,uf1,uf2,uf3,uf4,uf5,uf6,uf7⟩⟩:=HMR.o.eight;have hNCl:=HMR.o.lt;clear hgd5 hst5 hs5 hk5 hf5 hk6 hW6 hNC hrc hN4 hnx
     go_wp2_with fail;go_roundg (T.length+2000 - j5)
     case measure=>have:=HGK.o;omega
     case rel=>exact⟨gd5,j5,bd5,_,_,rfl,by omega,hj5b,Hd (HG.o.next HPS.o HNX.o (fun _=>HG0.o) HD5.o rfl),HST⟩
    | false=>
     have o2:aG [124,124] (T.drop I)=true:=by rcases hor with h | h;rw [h] at o1;cases o1;exact h
     rw [Ie o1 o2] at hr;have HR:=Hd hr;have HQ:=Hd (a8 HG.o.rs [38,38] false o1 0);have HQ2:=Hd (fun q=>a8 HG.o.rs [124,124] true o2 q);clear o1 o2 hor hr g HST;go_wp2_with fail;refine HQ.o.mono ?_;rintro e wq ⟨rfl,q,rfl⟩;go_wp2_with fail;refine (HQ2.o q).mono ?_;rintro e wq ⟨rfl,q2,rfl⟩;go_wp2_with fail;refine (HQ2.o q2).mono ?_;rintro e wq ⟨rfl,q3,rfl⟩;obtain⟨w2,hw2⟩:∃w2,w2=wr.drewN q3:=⟨_,rfl⟩
     rw [←hw2];replace HG:=Hd (HG.o.keep0 (show K0 wr w2 by rw [hw2];exact (aB.refl _ _).drewN _));clear hw2;obtain⟨c0,c1,c2,f1,f2⟩:=HG.o.rs.cells;have hlt:=HG.o.rs.lt;go_wp2_with fail;obtain⟨w3,hw2⟩:∃w3,w3=w2.setCell ⟨ps,1,none⟩ (.int .i64 ((I:Int)+1)):=⟨_,rfl⟩;rw [←hw2];replace HG:=Hd (by have h9:=HG.o.inc HPS.o HNX.o (by omega);rw [←hw2] at h9;exact h9);clear hw2
     refine (cY _ Lo B ps n (I+1) 0 tv T HG.o.rs).mono ?_;rintro e w4 ⟨rfl,j,hj1,hj2,hj3,hj4,hs4,hk4⟩;have hjT:j≤T.length:=hj2 (by omega);replace HG:=Hd (HG.o.move HPS.o HNX.o hk4 hs4);replace HR:=Hd (show res=Jj K M 4 acc (bM (aC K) (T.drop j)) by rw [hj4,←aS];exact HR.o);clear hs4 hk4 hj4 hj3 hj2 c0 c1 c2 f1 f2 hlt;go_wp2_with fail;refine (sK K HC.o w4 Lo B ps n j deep tv T HG.o.rs hjT HD.o).mono ?_
     rintro e w5 ⟨v2,j5,bd5,rfl,hj15,hj5b,hs5,hk5,hf5⟩;obtain⟨gd5,d5,hgd5,hst5⟩:=hf5.state (Jj K M 4 acc) (fun e=>rfl) (fun h=>by cases h) HR.o;have HST:=Hd (hst5.map (good2:=AG K (ndR 4 false [] [] [] [] (acc++d5) []) T j5 res) (fun _ h=>⟨M,by omega,h⟩));have hN4:=HG.o.rc.lt;have hnx:=HNX.o;replace HG:=Hd (HG.o.move HPS.o HNX.o hk5 hs5);go_upto_region 9 with fail;obtain⟨NC,hNC⟩:∃NC,NC=w5.heap.size:=⟨_,rfl⟩
     obtain⟨W6,hW6⟩:∃W6,W6=w5.alloc (.cells #[.int .i64 v2.k,.bool v2.nt,.string v2.nm,.slice v2.a0 v2.n0 v2.c0,.slice v2.a1 v2.n1 v2.c1,.slice v2.a2 v2.n2 v2.c2,.slice v2.a3 v2.n3 v2.c3,.slice v2.a4 v2.n4 v2.c4] 44):=⟨_,rfl⟩;rw [←hW6]
     try rw [←hNC]
     have hk6:K0 w5 W6:=by rw [hW6];exact (aB.refl _ _).alloc _
     have HMR:=Hd (show aH W6 NC [.int .i64 v2.k,.bool v2.nt,.string v2.nm,.slice v2.a0 v2.n0 v2.c0,.slice v2.a1 v2.n1 v2.c1,.slice v2.a2 v2.n2 v2.c2,.slice v2.a3 v2.n3 v2.c3,.slice v2.a4 v2.n4 v2.c4] by rw [hW6,hNC];exact aK _ _ _ _ _ _ _ _ _ _);replace HG:=Hd (HG.o.keep0 hk6);have HD5:=Hd (show gd5→NdD d5∧RdL W6 (fun b=>Qd Lo B (w.heap.size+1) b∧b≠N) d5 v2.vals from fun g=>⟨(hgd5 g).1,((hgd5 g).2.keep hk6 (fun _ _ _ h=>h)).mono (fun b _ hb=>by rcases hb with h | h;exact⟨.inl h,by have:=HPS.o;have:=hs5.ps;omega⟩;exact⟨.inr (by omega),by omega⟩)⟩)
     have hNW:=HG.o.rc.lt;have hne:N≠NC:=by have:=hk5.size;omega
     have hrc:=(show aH W6 N [.int .i64 v.k,.bool v.nt,.string v.nm,.slice v.a0 v.n0 v.c0,.slice v.a1 v.n1 v.c1,.slice v.a2 v.n2 v.c2,.slice v.a3 v.n3 v.c3,.slice v.a4 v.n4 v.c4] from HG.o.rc);obtain⟨⟨x0,x1,x2,x3,x4,x5,x6,x7⟩,⟨xf0,xf1,xf2,xf3,xf4,xf5,xf6,xf7⟩⟩:=hrc.eight;obtain⟨⟨u0,u1,u2,u3,u4,u5,u6,u7⟩,⟨uf0,uf1,uf2,uf3,uf4,uf5,uf6,uf7⟩⟩:=HMR.o.eight;have hNCl:=HMR.o.lt;clear hgd5 hst5 hs5 hk5 hf5 hk6 hW6 hNC hrc hN4 hnx
     go_wp2_with fail;go_roundg (T.length+2000 - j5)
     case measure=>have:=HGK.o;omega
     case rel=>exact⟨gd5,j5,bd5,_,_,rfl,by omega,hj5b,Hd (HG.o.next HPS.o HNX.o (fun _=>HG0.o) HD5.o rfl),HST⟩
   ·obtain⟨o1,o2⟩:=not_or.1 hor;rw [Bool.not_eq_true] at o1 o2;have HX:=Hd (show 0≠0∨(aG [38,38] (T.drop I)=false∧aG [124,124] (T.drop I)=false) from .inr ⟨o1,o2⟩);have HQ:=Hd (a8 HG.o.rs [38,38] false o1 0);have HQ2:=Hd (fun q=>a8 HG.o.rs [124,124] false o2 q);clear o1 o2 hor;go_wp2_with fail;refine HQ.o.mono ?_;rintro e wq ⟨rfl,q,rfl⟩;go_wp2_with fail;refine (HQ2.o q).mono ?_
    rintro e wq ⟨rfl,q2,rfl⟩;obtain⟨wf,hwf⟩:∃wf,wf=wr.drewN q2:=⟨_,rfl⟩;rw [←hwf];replace HG:=Hd (HG.o.keep0 (show K0 wr wf by rw [hwf];exact (aB.refl _ _).drewN _));clear hwf;clear c0 c1 c2 f1 f2 hlt;have hf:=Gq (w:=wf) (D:=fun b=>Qd Lo B w.heap.size b∧b≠w.heap.size) (us:=[.int .i64 v.k,.bool v.nt,.string v.nm,.slice v.a0 v.n0 v.c0,.slice v.a1 v.n1 v.c1,.slice v.a2 v.n2 v.c2,.slice v.a3 v.n3 v.c3,.slice v.a4 v.n4 v.c4]) HST.o HX.o (fun g=>⟨(HG.o.rd g).1,(HG.o.rd g).2.mono (fun b _ hb=>⟨by rcases hb.1 with h | h;exact .inl h;exact .inr (by omega),by rcases hb.1 with h | h;exact (by have:=HPS.o;have:=HG.o.rs.ps;omega);exact (by omega)⟩)⟩)
    have HF:=Hd hf;have HK:=Hd HG.o.kp;have HS:=Hd HG.o.rs;have hrc:=(show aH wf N [.int .i64 v.k,.bool v.nt,.string v.nm,.slice v.a0 v.n0 v.c0,.slice v.a1 v.n1 v.c1,.slice v.a2 v.n2 v.c2,.slice v.a3 v.n3 v.c3,.slice v.a4 v.n4 v.c4] from HG.o.rc);obtain⟨⟨x0,x1,x2,x3,x4,x5,x6,x7⟩,⟨xf0,xf1,xf2,xf3,xf4,xf5,xf6,xf7⟩⟩:=hrc.eight;have hNl:=hrc.lt;have hnx:=HNX.o;clear hf hrc;obtain⟨⟨z0,z1,z2,z3,z4,z5,z6,z7⟩,⟨zf0,zf1,zf2,zf3,zf4,zf5,zf6,zf7⟩⟩:=HG.o.zr.eight
    have hzl:=HG.o.zr.lt;go_wp2_with fail;refine bodyPost_ret (v:=.agg #[.int .i64 v.k,.bool v.nt,.string v.nm,.slice v.a0 v.n0 v.c0,.slice v.a1 v.n1 v.c1,.slice v.a2 v.n2 v.c2,.slice v.a3 v.n3 v.c3,.slice v.a4 v.n4 v.c4]) (by simp [results,Tryz.results94,go_sem,z0,z1,z2,z3,z4,z5,z6,z7]) rfl ?_;obtain⟨f1,f2,f3⟩:=bS HK.o HS.o HPS.o HF.o (aJ wf w.heap.size (.int .i64 v.k) (.bool v.nt) (.string v.nm) (.slice v.a0 v.n0 v.c0) (.slice v.a1 v.n1 v.c1) (.slice v.a2 v.n2 v.c2) (.slice v.a3 v.n3 v.c3) (.slice v.a4 v.n4 v.c4))
    exact⟨v,I,0,rfl,hiI,hIb,f1,f2,f3⟩
  ·have t:((x:Int)==0)=false:=by rw [beq_eq_false_iff_ne];omega
   have HX:=Hd (show x≠0∨(aG [38,38] (T.drop I)=false∧aG [124,124] (T.drop I)=false) from .inl hx);obtain⟨wf,hwf⟩:∃wf,wf=wr:=⟨_,rfl⟩;rw [←hwf];rw [←hwf] at HG c0 c1 c2 f1 f2 hlt;clear hx hwf;have hf:=Gq (w:=wf) (D:=fun b=>Qd Lo B w.heap.size b∧b≠w.heap.size) (us:=[.int .i64 v.k,.bool v.nt,.string v.nm,.slice v.a0 v.n0 v.c0,.slice v.a1 v.n1 v.c1,.slice v.a2 v.n2 v.c2,.slice v.a3 v.n3 v.c3,.slice v.a4 v.n4 v.c4]) HST.o HX.o (fun g=>⟨(HG.o.rd g).1,(HG.o.rd g).2.mono (fun b _ hb=>⟨by rcases hb.1 with h | h;exact .inl h;exact .inr (by omega),by rcases hb.1 with h | h;exact (by have:=HPS.o;have:=HG.o.rs.ps;omega);exact (by omega)⟩)⟩)
   have HF:=Hd hf;have HK:=Hd HG.o.kp;have HS:=Hd HG.o.rs;have hrc:=(show aH wf N [.int .i64 v.k,.bool v.nt,.string v.nm,.slice v.a0 v.n0 v.c0,.slice v.a1 v.n1 v.c1,.slice v.a2 v.n2 v.c2,.slice v.a3 v.n3 v.c3,.slice v.a4 v.n4 v.c4] from HG.o.rc);obtain⟨⟨x0,x1,x2,x3,x4,x5,x6,x7⟩,⟨xf0,xf1,xf2,xf3,xf4,xf5,xf6,xf7⟩⟩:=hrc.eight;have hNl:=hrc.lt;have hnx:=HNX.o;clear hf hrc;obtain⟨⟨z0,z1,z2,z3,z4,z5,z6,z7⟩,⟨zf0,zf1,zf2,zf3,zf4,zf5,zf6,zf7⟩⟩:=HG.o.zr.eight
   have hzl:=HG.o.zr.lt;go_wp2_with fail;refine bodyPost_ret (v:=.agg #[.int .i64 v.k,.bool v.nt,.string v.nm,.slice v.a0 v.n0 v.c0,.slice v.a1 v.n1 v.c1,.slice v.a2 v.n2 v.c2,.slice v.a3 v.n3 v.c3,.slice v.a4 v.n4 v.c4]) (by simp [results,Tryz.results94,go_sem,z0,z1,z2,z3,z4,z5,z6,z7]) rfl ?_;obtain⟨f1,f2,f3⟩:=bS HK.o HS.o HPS.o HF.o (aJ wf w.heap.size (.int .i64 v.k) (.bool v.nt) (.string v.nm) (.slice v.a0 v.n0 v.c0) (.slice v.a1 v.n1 v.c1) (.slice v.a2 v.n2 v.c2) (.slice v.a3 v.n3 v.c3) (.slice v.a4 v.n4 v.c4))
   exact⟨v,I,x,rfl,hiI,hIb,f1,f2,f3⟩
end Go.Proofs.YtiihpbccabeoeaaGreatDoor
