/- The walk: a part. -/
import Derived.Test.YtiihpbccabeoeaaGreatDoorVM
import Derived.Test.YtiihpbccabeoeaaGreatDoorVPkG
namespace Go.Proofs.YtiihpbccabeoeaaGreatDoor
open Go.RowKit
set_option linter.unusedVariables false
set_option maxRecDepth 100000
set_option maxHeartbeats 16000000
theorem Ll {w4:World} {X N:Nat} {P:Nat→Prop} {v v2 v3:Value} {k k2 k3 m m2 m3:Nat} {Ty T2 T3:TypeId} {ds WT WU d2:List Dt} {us:List Value} {L0:Nat}
 (hP:∀b,P b→(X≤b∧b≠N)∧v.ownBlock≠some b∧v2.ownBlock≠some b∧v3.ownBlock≠some b)
 (h1:eM w4 P v k Ty m ds) (h2:eM w4 P v2 k2 T2 m2 WT) (h3:eM w4 P v3 k3 T3 m3 WU)
 (l1:∀g,v.ownBlock=some g→X≤g∧g≠N∧v2.ownBlock≠some g∧v3.ownBlock≠some g) (l2:∀g,v2.ownBlock=some g→g≠N) (l3:∀g,v3.ownBlock=some g→g≠N)
 (hL:X≤L0∧N<L0∧L0≤w4.heap.size∧∀g,(v.ownBlock=some g∨v2.ownBlock=some g∨v3.ownBlock=some g)→g<L0) (Oi:∀b,L0≤b→P b)
 (hx:bV w4 (λ b=>L0≤b) d2 us) :
 ∃xs,w4.ownsRow 0 Ty k v m xs∧∀(gg aC:Nat) (w5:World) (o:Obj) (f:Nat) (P':Nat→Prop),w5.ownsRow 0 Ty k (.slice (some ⟨gg,0,none⟩) (m+1) aC) (m+1) (xs++us)→(w4.alloc o).grownBy w5 v.ownBlock→(v.ownBlock=some gg∨gg=w4.heap.size+1)→
  (∀b,P b→gg≠b→P' b)→
  (X≤gg∧gg≠N∧v2.ownBlock≠some gg∧v3.ownBlock≠some gg)∧ae (λ b=>v.ownBlock=some b) w4 w5∧
  eM (w5.setCell ⟨N,f,none⟩ (.slice (some ⟨gg,0,none⟩) (m+1) aC)) P' (.slice (some ⟨gg,0,none⟩) (m+1) aC) k Ty (m+1) (ds++d2)∧
  eM (w5.setCell ⟨N,f,none⟩ (.slice (some ⟨gg,0,none⟩) (m+1) aC)) P' v2 k2 T2 m2 WT∧eM (w5.setCell ⟨N,f,none⟩ (.slice (some ⟨gg,0,none⟩) (m+1) aC)) P' v3 k3 T3 m3 WU:=by
 obtain⟨hXL,hNL,hLw,Xu⟩:=hL;obtain⟨xs,hr,ho⟩:=h1;refine⟨xs,ho,λ gg aC w5 o f P' aU ao bf Xi=>?_⟩;have bi:ae (λ b=>v.ownBlock=some b) w4 w5:=((ae.refl _ w4).alloc o).grown ao (λ k hk _=>hk);have UM:gg≠N:=by
  rcases bf with h | h
  ·exact (l1 gg h).2.1
  ·omega
 have Xv:X≤gg:=by
  rcases bf with h | h
  ·exact (l1 gg h).1
  ·omega
 have tQ:v2.ownBlock≠some gg∧v3.ownBlock≠some gg:=by
  exact PX
 have cu:ae (λ b=>b=N) w5 (w5.setCell ⟨N,f,none⟩ (.slice (some ⟨gg,0,none⟩) (m+1) aC)):=(ae.refl _ _).setCell _ _ λ_=>rfl;have cM:∀b,b<w4.heap.size→v.ownBlock≠some b→gg≠b:=λ b hb hv e=>by
  rcases bf with h | h
  ·exact hv (by rw [h,e])
  ·omega
 have qC:∀{vv:Value} {kk mm:Nat} {TT:TypeId} {dd:List Dt},eM w4 P vv kk TT mm dd→(∀g,vv.ownBlock=some g→v.ownBlock≠some g∧g≠N)→
  eM (w5.setCell ⟨N,f,none⟩ (.slice (some ⟨gg,0,none⟩) (m+1) aC)) P' vv kk TT mm dd:=by
  intro vv kk mm TT dd hh hv;obtain⟨ys,hy,hyo⟩:=hh;have qG:=((hy.lt.keep bi (λ b _ hb e=>(hP b hb.1.1).2.1 e)).keep cu (λ b _ hb e=>(hP b hb.1.1).1.2 e));have cm:=qG.mono (D':=λ b=>P' b∧vv.ownBlock≠some b) λ b _ hb=>⟨Xi b hb.1.1 (cM b hb.2 (hP b hb.1.1).2.1),hb.1.2⟩;exact WD
 refine⟨⟨Xv,UM,tQ⟩,bi,?_,qC h2 (λ g hg=>⟨λ e=>(l1 g e).2.2.1 hg,l2 g hg⟩),qC h3 (λ g hg=>⟨λ e=>(l1 g e).2.2.2 hg,l3 g hg⟩)⟩;have pX:bV w4 (λ b=>P b∧v.ownBlock≠some b) d2 us:=hx.mono λ b _ hb=>⟨Oi b hb,λ e=>by have:=Xu b (.inl e);omega⟩;have dU:=hr.app pX;have hr3:=((dU.lt.keep bi (λ b _ hb e=>hb.1.2 e)).keep cu (λ b _ hb e=>(hP b hb.1.1).1.2 e));have qb:=hr3.mono (D':=λ b=>P' b∧(Value.slice (some ⟨gg,0,none⟩) (m+1) aC).ownBlock≠some b) λ b _ hb=>⟨Xi b hb.1.1 (cM b hb.2 hb.1.2),λ e=>cM b hb.2 hb.1.2 (nD e)⟩
 refine⟨xs++us,qb,aU.1,?_⟩;exact NU
def Pr (X N:Nat) (o1 o2 o3:Option Nat) (b:Nat):Prop:=(X≤b∧b≠N)∧o1≠some b∧o2≠some b∧o3≠some b
structure SI (w wr:World) (B cs:Nat) (tv:Value) (n:Nat) (T:List Tk) (d X N I:Nat) (wa:OA) (wm wc:Nat) (ws:List Dt) (ga:OA) (gm gc:Nat) (gs:List Dt) (ra:OA) (rm rc:Nat) (rd:List Dt):Prop where
 rs:RS wr B cs tv n T I d
 kp:ae (λ b=>b=cs) w wr
 zr:af wr w.heap.size [.int .i64 0,false,eS,(),(),(),(),()]
 ro:af wr N [.int .i64 1,false,eS,.slice wa wm wc,.slice ga gm gc,.slice ra rm rc,(),()]
 o1:eM wr (Pr X N (Value.slice wa wm wc).ownBlock (Value.slice ga gm gc).ownBlock (Value.slice ra rm rc).ownBlock) (.slice wa wm wc) 1 29 wm ws
 o2:eM wr (Pr X N (Value.slice wa wm wc).ownBlock (Value.slice ga gm gc).ownBlock (Value.slice ra rm rc).ownBlock) (.slice ga gm gc) 2 84 gm gs
 o3:eM wr (Pr X N (Value.slice wa wm wc).ownBlock (Value.slice ga gm gc).ownBlock (Value.slice ra rm rc).ownBlock) (.slice ra rm rc) 2 86 rm rd
 l1:∀g,(Value.slice wa wm wc).ownBlock=some g→X≤g∧g≠N∧(Value.slice ga gm gc).ownBlock≠some g∧(Value.slice ra rm rc).ownBlock≠some g
 l2:∀g,(Value.slice ga gm gc).ownBlock=some g→X≤g∧g≠N∧(Value.slice wa wm wc).ownBlock≠some g∧(Value.slice ra rm rc).ownBlock≠some g
 l3:∀g,(Value.slice ra rm rc).ownBlock=some g→X≤g∧g≠N∧(Value.slice wa wm wc).ownBlock≠some g∧(Value.slice ga gm gc).ownBlock≠some g
section
variable {w wr w4:World} {B cs:Nat} {tv:Value} {n:Nat} {T:List Tk} {d X N I J:Nat} {wa:OA} {wm wc:Nat} {ws:List Dt} {ga:OA} {gm gc:Nat} {gs:List Dt} {ra:OA} {rm rc:Nat} {rd:List Dt}
theorem SI.move (h:SI w wr B cs tv n T d X N I wa wm wc ws ga gm gc gs ra rm rc rd) (hc:cs<w.heap.size) (hX:w.heap.size<X) (hN:w.heap.size<N) (hk:ae (λ b=>b=cs) wr w4) (du:RS w4 B cs tv n T J d) :
 SI w w4 B cs tv n T d X N J wa wm wc ws ga gm gc gs ra rm rc rd:=
 ⟨du,h.kp.trans hk (λ_ _ e=>e),h.zr.keep hk (λ e=>oM),h.ro.keep hk (λ e=>oM),
  h.o1.keep hk (λ b _ hb e=>by have:=hb.1.1;omega) (λ g hg e=>by have:=(h.l1 g hg).1;omega),h.o2.keep hk (λ b _ hb e=>by have:=hb.1.1;omega) (λ g hg e=>by have:=(h.l2 g hg).1;omega),
  h.o3.keep hk (λ b _ hb e=>by have:=hb.1.1;omega) (λ g hg e=>by have:=(h.l3 g hg).1;omega),h.l1,h.l2,h.l3⟩
theorem SI.keep0 (h:SI w wr B cs tv n T d X N I wa wm wc ws ga gm gc gs ra rm rc rd) (hk:K0 wr w4) :
 SI w w4 B cs tv n T d X N I wa wm wc ws ga gm gc gs ra rm rc rd:=
 ⟨h.rs.keep0 hk,h.kp.trans hk (λ_ _ e=>e.elim),h.zr.keep hk (λ e=>e),h.ro.keep hk (λ e=>e),
  h.o1.keep hk (λ b _ _ e=>e) (λ g _ e=>e),h.o2.keep hk (λ b _ _ e=>e) (λ g _ e=>e),h.o3.keep hk (λ b _ _ e=>e) (λ g _ e=>e),h.l1,h.l2,h.l3⟩
theorem SI.sizes (h:SI w wr B cs tv n T d X N I wa wm wc ws ga gm gc gs ra rm rc rd) (sB:X≤wr.heap.size):X≤wr.heap.size∧N<wr.heap.size∧∀g,((Value.slice wa wm wc).ownBlock=some g∨(Value.slice ga gm gc).ownBlock=some g∨(Value.slice ra rm rc).ownBlock=some g)→g<wr.heap.size:=
 ⟨sB,h.ro.lt,λ g hg=>by rcases hg with hg | hg | hg;exact h.o1.lt hg;exact h.o2.lt hg;exact h.o3.lt hg⟩
theorem SI.rest {w5 w6:World} {v u:Value} {f:Nat} (h:SI w w4 B cs tv n T d X N J wa wm wc ws ga gm gc gs ra rm rc rd) (hc:cs<w.heap.size) (hX:w.heap.size<X) (hN:w.heap.size<N)
 (hv:∀g,v.ownBlock=some g→X≤g∧g≠N) (bi:ae (λ b=>v.ownBlock=some b) w4 w5) (im:w6=w5.setCell ⟨N,f,none⟩ u) :
 RS w6 B cs tv n T J d∧ae (λ b=>b=cs) w w6∧af w6 w.heap.size [.int .i64 0,false,eS,(),(),(),(),()]∧
 af w5 N [.int .i64 1,false,eS,.slice wa wm wc,.slice ga gm gc,.slice ra rm rc,(),()]∧
 af w6 N ([.int .i64 1,.bool false,.string ⟨#[]⟩,.slice wa wm wc,.slice ga gm gc,.slice ra rm rc,.slice none 0 0,.slice none 0 0].set f u):=by
 have hB:=h.rs.cs;have cu:ae (λ b=>b=N) w5 w6:=by rw [im];exact (ae.refl _ _).setCell _ _ λ_=>rfl
 have vU:=h.ro.keep bi (λ e=>(hv N e).2 rfl);refine⟨(h.rs.keep bi (λ b hb e=>by have:=(hv b e).1;omega) (λ e=>by have:=(hv cs e).1;omega)).keep cu (λ b hb e=>oM) (λ e=>oM),
  (h.kp.trans bi (λ b hb e=>by have:=(hv b e).1;omega)).fresh cu (λ b e=>oM),(h.zr.keep bi (λ e=>by have:=(hv _ e).1;omega)).keep cu (λ e=>oM),vU,?_⟩
 rw [im];exact vU.set f u
theorem SI.moreR (h:SI w wr B cs tv n T d X N I wa wm wc ws ga gm gc gs ra rm rc rd) (hc:cs<w.heap.size) (hX:w.heap.size<X) (hN:w.heap.size<N) (sB:X≤wr.heap.size) (hk:ae (λ b=>b=cs) wr w4) (du:RS w4 B cs tv n T J d) {d2:List Dt} {us:List Value} (hx:bV w4 (λ b=>wr.heap.size≤b) d2 us) :
 ∃xs,w4.ownsRow 0 86 2 (.slice ra rm rc) rm xs∧af w4 N [.int .i64 1,false,eS,.slice wa wm wc,.slice ga gm gc,.slice ra rm rc,(),()]∧
  ∀(gg aC:Nat) (w5:World) (o:Obj),w5.ownsRow 0 86 2 (.slice (some ⟨gg,0,none⟩) (rm+1) aC) (rm+1) (xs++us)→(w4.alloc o).grownBy w5 (Value.slice ra rm rc).ownBlock→((Value.slice ra rm rc).ownBlock=some gg∨gg=w4.heap.size+1)→
   af w5 N [.int .i64 1,false,eS,.slice wa wm wc,.slice ga gm gc,.slice ra rm rc,(),()]∧
   SI w (w5.setCell ⟨N,5,none⟩ (.slice (some ⟨gg,0,none⟩) (rm+1) aC)) B cs tv n T d X N J wa wm wc ws ga gm gc gs (some ⟨gg,0,none⟩) (rm+1) aC (rd++d2):=by
 have h4:=h.move hc hX hN hk du;obtain⟨s1,s2,s3⟩:=h.sizes sB;obtain⟨xs,ho,hF⟩:=Ll (λ b hb=>⟨hb.1,hb.2.2.2,hb.2.1,hb.2.2.1⟩) h4.o3 h4.o1 h4.o2 h4.l3 (λ g hg=>(h4.l1 g hg).2.1) (λ g hg=>(h4.l2 g hg).2.1)
  ⟨s1,s2,hk.size,λ g hg=>by rcases hg with hg | hg | hg;exact s3 g (.inr (.inr hg));exact s3 g (.inl hg);exact s3 g (.inr (.inl hg))⟩
  (λ b hb=>⟨⟨oM,oM⟩,λ e=>by have:=s3 b (.inl e);omega,λ e=>by have:=s3 b (.inr (.inl e));omega,λ e=>by have:=s3 b (.inr (.inr e));omega⟩) hx
 refine⟨xs,ho,h4.ro,λ gg aC w5 o aU ao bf=>?_⟩;obtain⟨⟨a1,a2,a3,a4⟩,bi,p1,p2,p3⟩:=hF gg aC w5 o 5 (Pr X N (Value.slice wa wm wc).ownBlock (Value.slice ga gm gc).ownBlock (Value.slice (some ⟨gg,0,none⟩) (rm+1) aC).ownBlock) aU ao bf (λ b hb hg=>⟨hb.1,hb.2.1,hb.2.2.1,λ e=>hg (nD e)⟩);obtain⟨r1,r2,r3,r4,r5⟩:=h4.rest hc hX hN (λ g hg=>⟨(h4.l3 g hg).1,(h4.l3 g hg).2.1⟩) bi (f:=5) (u:=.slice (some ⟨gg,0,none⟩) (rm+1) aC) rfl
 exact Wz
theorem SI.moreW (h:SI w wr B cs tv n T d X N I wa wm wc ws ga gm gc gs ra rm rc rd) (hc:cs<w.heap.size) (hX:w.heap.size<X) (hN:w.heap.size<N) (sB:X≤wr.heap.size) (hk:ae (λ b=>b=cs) wr w4) (du:RS w4 B cs tv n T J d) {d2:List Dt} {us:List Value} (hx:bV w4 (λ b=>wr.heap.size≤b) d2 us) :
 ∃xs,w4.ownsRow 0 29 1 (.slice wa wm wc) wm xs∧af w4 N [.int .i64 1,false,eS,.slice wa wm wc,.slice ga gm gc,.slice ra rm rc,(),()]∧
  ∀(gg aC:Nat) (w5:World) (o:Obj),w5.ownsRow 0 29 1 (.slice (some ⟨gg,0,none⟩) (wm+1) aC) (wm+1) (xs++us)→(w4.alloc o).grownBy w5 (Value.slice wa wm wc).ownBlock→((Value.slice wa wm wc).ownBlock=some gg∨gg=w4.heap.size+1)→
   af w5 N [.int .i64 1,false,eS,.slice wa wm wc,.slice ga gm gc,.slice ra rm rc,(),()]∧
   SI w (w5.setCell ⟨N,3,none⟩ (.slice (some ⟨gg,0,none⟩) (wm+1) aC)) B cs tv n T d X N J (some ⟨gg,0,none⟩) (wm+1) aC (ws++d2) ga gm gc gs ra rm rc rd:=by
 have h4:=h.move hc hX hN hk du;obtain⟨s1,s2,s3⟩:=h.sizes sB;obtain⟨xs,ho,hF⟩:=Ll (λ b hb=>⟨hb.1,hb.2.1,hb.2.2.1,hb.2.2.2⟩) h4.o1 h4.o2 h4.o3 h4.l1 (λ g hg=>(h4.l2 g hg).2.1) (λ g hg=>(h4.l3 g hg).2.1)
  ⟨s1,s2,hk.size,s3⟩
  (λ b hb=>⟨⟨oM,oM⟩,λ e=>by have:=s3 b (.inl e);omega,λ e=>by have:=s3 b (.inr (.inl e));omega,λ e=>by have:=s3 b (.inr (.inr e));omega⟩) hx
 refine⟨xs,ho,h4.ro,λ gg aC w5 o aU ao bf=>?_⟩;obtain⟨⟨a1,a2,a3,a4⟩,bi,p1,p2,p3⟩:=hF gg aC w5 o 3 (Pr X N (Value.slice (some ⟨gg,0,none⟩) (wm+1) aC).ownBlock (Value.slice ga gm gc).ownBlock (Value.slice ra rm rc).ownBlock) aU ao bf (λ b hb hg=>⟨hb.1,λ e=>hg (nD e),hb.2.2.1,hb.2.2.2⟩);obtain⟨r1,r2,r3,r4,r5⟩:=h4.rest hc hX hN (λ g hg=>⟨(h4.l1 g hg).1,(h4.l1 g hg).2.1⟩) bi (f:=3) (u:=.slice (some ⟨gg,0,none⟩) (wm+1) aC) rfl
 exact Wx
theorem SI.moreA (h:SI w wr B cs tv n T d X N I wa wm wc ws ga gm gc gs ra rm rc rd) (hc:cs<w.heap.size) (hX:w.heap.size<X) (hN:w.heap.size<N) (sB:X≤wr.heap.size) (hk:ae (λ b=>b=cs) wr w4) (du:RS w4 B cs tv n T J d) {d2:List Dt} {us:List Value} (hx:bV w4 (λ b=>wr.heap.size≤b) d2 us) :
 ∃xs,w4.ownsRow 0 84 2 (.slice ga gm gc) gm xs∧af w4 N [.int .i64 1,false,eS,.slice wa wm wc,.slice ga gm gc,.slice ra rm rc,(),()]∧
  ∀(gg aC:Nat) (w5:World) (o:Obj),w5.ownsRow 0 84 2 (.slice (some ⟨gg,0,none⟩) (gm+1) aC) (gm+1) (xs++us)→(w4.alloc o).grownBy w5 (Value.slice ga gm gc).ownBlock→((Value.slice ga gm gc).ownBlock=some gg∨gg=w4.heap.size+1)→
   af w5 N [.int .i64 1,false,eS,.slice wa wm wc,.slice ga gm gc,.slice ra rm rc,(),()]∧
   SI w (w5.setCell ⟨N,4,none⟩ (.slice (some ⟨gg,0,none⟩) (gm+1) aC)) B cs tv n T d X N J wa wm wc ws (some ⟨gg,0,none⟩) (gm+1) aC (gs++d2) ra rm rc rd:=by
 have h4:=h.move hc hX hN hk du;obtain⟨s1,s2,s3⟩:=h.sizes sB;obtain⟨xs,ho,hF⟩:=Ll (λ b hb=>⟨hb.1,hb.2.2.1,hb.2.1,hb.2.2.2⟩) h4.o2 h4.o1 h4.o3 h4.l2 (λ g hg=>(h4.l1 g hg).2.1) (λ g hg=>(h4.l3 g hg).2.1)
  ⟨s1,s2,hk.size,λ g hg=>by rcases hg with hg | hg | hg;exact s3 g (.inr (.inl hg));exact s3 g (.inl hg);exact s3 g (.inr (.inr hg))⟩
  (λ b hb=>⟨⟨oM,oM⟩,λ e=>by have:=s3 b (.inl e);omega,λ e=>by have:=s3 b (.inr (.inl e));omega,λ e=>by have:=s3 b (.inr (.inr e));omega⟩) hx
 refine⟨xs,ho,h4.ro,λ gg aC w5 o aU ao bf=>?_⟩;obtain⟨⟨a1,a2,a3,a4⟩,bi,p1,p2,p3⟩:=hF gg aC w5 o 4 (Pr X N (Value.slice wa wm wc).ownBlock (Value.slice (some ⟨gg,0,none⟩) (gm+1) aC).ownBlock (Value.slice ra rm rc).ownBlock) aU ao bf (λ b hb hg=>⟨hb.1,hb.2.1,λ e=>hg (nD e),hb.2.2.2⟩);obtain⟨r1,r2,r3,r4,r5⟩:=h4.rest hc hX hN (λ g hg=>⟨(h4.l2 g hg).1,(h4.l2 g hg).2.1⟩) bi (f:=4) (u:=.slice (some ⟨gg,0,none⟩) (gm+1) aC) rfl
 exact Wy
theorem SI.all (h:SI w wr B cs tv n T d X N I wa wm wc ws ga gm gc gs ra rm rc rd):bV wr (λ b=>X≤b) (cE 1 false [] ws gs rd [] []) [.int .i64 1,false,eS,.slice wa wm wc,.slice ga gm gc,.slice ra rm rc,(),()]:=by
 have gC:∀{v:Value} {k m:Nat} {Ty:TypeId} {ds:List Dt} {P:Nat→Prop},eM wr P v k Ty m ds→(∀b,P b→X≤b)→(∀g,v.ownBlock=some g→X≤g)→Rd wr (λ b=>X≤b) (.sl k ds) v:=λ ho hP hv=>by
  obtain⟨us,hu,hoo⟩:=ho;exact eM.reads (D:=λ b=>X≤b) ⟨us,hu.mono λ b _ hb=>⟨hP b hb.1,hb.2⟩,hoo⟩ hv
 exact WM
end
theorem vY:(Tryz.prog.info? 86).map (λ i=>(i.zero,i.size,i.bytes))=some (some (.agg #[eS,()]),2,40):=kR
theorem Cc:(Tryz.prog.info? 84).map (λ i=>(i.zero,i.size,i.bytes))=some (some (.agg #[eS,()]),2,40):=kR
theorem tC:Tryz.prog.cellsOf 86=2:=kR
theorem Ad:Tryz.prog.cellsOf 84=2:=kR
def pM (scr:Bs→Except Nat Unit) (M:Nat) (ws gs rd:List Dt) (x:List Pt) (r:List Tk):PR (List Dt):=match (if ws.isEmpty then dw x else none) with
 | some (nm,v)=>bj scr M ws (gs++[.str nm,aB v]) rd r
 | none=>bj scr M (ws++[aB x]) gs rd r
theorem CK (scr:Bs→Except Nat Unit) (M:Nat) (ws gs rd:List Dt) (ts:List Tk):bj scr (M+1) ws gs rd ts=if bP ts then (match dN scr ts with
 | .error e=>.error e
 | .ok (d,r)=>bj scr M ws gs (rd++d) r)
 else if (ch ts).kind==1 then (match ca scr ts with
  | .error e=>.error e
  | .ok (w,r)=>pM scr M ws gs rd w r)
 else .ok (cE 1 false [] ws gs rd [] [],ts):=rfl
theorem EO (K:Nat) (bw:iI K) (cR:oI K) (w:World) (B cs n i d:Nat) (tv:Value) (T:List Tk) (h:RS w B cs tv n T i d) (hd:d+K=40) :
 Calls Tryz.prog 176 #[.pointer (some ⟨cs,0,none⟩)] w (eu w B cs tv n T i d vd (bj (av (ab K)) ((T.drop i).length+1) [] [] [] (T.drop i))):=by
 obtain⟨res,ag⟩:∃res,res=bj (av (ab K)) ((T.drop i).length+1) [] [] [] (T.drop i):=⟨_,rfl⟩;rw [←ag];rw [nI] at ag;have cK:=Hd cR;clear cR;have D7:=mS;have tN:=tC;have Jd:=Ad;obtain⟨i1,iP,hy0,Da,qG⟩:=info_parts Cc;obtain⟨i2,fm,Hn,xP,pX⟩:=info_parts sW;have ov:=aT;obtain⟨i0,fo,fC,fp,fq⟩:=info_parts vY
 have ay:=Hd ag;have HH:=Lib.hid h;have HC:=Hd bw;have HD:=Hd hd;have cF:=Hd h.lt;clear ag h bw hd;go_enter Tryz.func176,Tryz.ntmps176;go_wp2_with fail;obtain⟨W,hW⟩:∃W,W=w.alloc (.cells #[.int .i64 0,false,eS,(),(),(),(),()] 44):=⟨_,rfl⟩;have eG:K0 w W:=by rw [hW];exact (ae.refl _ _).alloc _
 have HR:=Hd (show af W w.heap.size [.int .i64 0,false,eS,(),(),(),(),()] by rw [hW];exact aD _ _ _ _ _ _ _ _ _ _);rw [←hW];have dO:=Hd eG;have HX:=Hd (show w.heap.size<W.heap.size by rw [hW];simp);have sz:=Hd (show W.heap.size=w.heap.size+1 by rw [hW];simp);have HS:=Hd (HH.o.keep0 eG);clear eG hW;obtain⟨wr,gU⟩:∃wr,wr=W.alloc (.cells #[.int .i64 1,false,eS,(),(),(),(),()] 44):=⟨_,rfl⟩
 have aV:K0 W wr:=by rw [gU];exact (ae.refl _ _).alloc _
 obtain⟨N,hN⟩:∃N,N=W.heap.size:=⟨_,rfl⟩;obtain⟨X,hX⟩:∃X,X=W.heap.size:=⟨_,rfl⟩;have sF:=HX.o;have iD:=Hd (show SI w wr B cs tv n T d X N i none 0 0 [] none 0 0 [] none 0 0 [] from
  ⟨HS.o.keep0 aV,(dO.o.mono (λ_ _ h=>h.elim)).trans aV (λ_ _ h=>h.elim),HR.o.keep aV (λ e=>e),by rw [gU,hN];exact aD _ _ _ _ _ _ _ _ _ _,eM.nil _ _ _ _,eM.nil _ _ _ _,eM.nil _ _ _ _,λ g hg=>(by cases hg),λ g hg=>(by cases hg),λ g hg=>(by cases hg)⟩)
 have ct:=Hd (show w.heap.size<X∧w.heap.size<N by omega);have mG:=Hd (show X≤w.heap.size+1 by have:=sz.o;omega);have HN:=Hd hN;have rg:=Hd gU;clear gU aV hN hX sF;go_wp2_with fail;rw [←rg.o];rw [←sz.o,←HN.o];clear rg;go_loopg [] (T.length - i) (λ g wr=>∃(I M:Nat) (wa:OA) (wm wc:Nat) (ws:List Dt) (ga:OA) (gm gc:Nat) (gs:List Dt) (ra:OA) (rm rc:Nat) (rd:List Dt),g=T.length - I∧i≤I∧wm≤I∧gm≤I∧rm≤I∧T.length - I+1≤M∧Hid (SI w wr B cs tv n T d X N I wa wm wc ws ga gm gc gs ra rm rc rd)∧Hid (res=bj (av (ab K)) M ws gs rd (T.drop I)))
 case atStart=>exact⟨i,_,none,0,0,[],none,0,0,[],none,0,0,[],rfl,nC _,nB _,nB _,nB _,nC _,iD,ay⟩
 case round=>
  obtain⟨I,M,wa,wm,wc,ws,ga,gm,gc,gs,ra,rm,rc,rd,eH,mI,hmW,hmG,hmR,hM,HG,gG⟩:=hrel;have fK:=Hd eH;have p8:=HG.o.rs.i;have vO:=HG.o.rs.sm.1;obtain⟨M,rfl⟩:∃M',M=M'+1:=⟨M - 1,oM⟩;clear eH iD ay;have bf:=jf wr B cs n I d tv T HG.o.rs;have Y7:=qu;have LD:bP (T.drop I)=true→(ch (T.drop I)).kind=2:=λ h=>by unfold bP at h;rw [nW,nH] at h;exact h.1
  obtain⟨tk,gB⟩:∃tk,tk=ch (T.drop I):=⟨_,rfl⟩;rw [←gB] at bf LD;have kP:=Hd bf;have C7:=CK (av (ab K)) M ws gs rd (T.drop I);rw [←gB] at C7;clear bf gB;cases hq:bP (T.drop I) with
  | true=>
   have aS:=LD hq;have t0:((tk.kind:Int)==1)=false:=by rw [nA];omega
   have lZ:=Hd (mB hq);have gh:=Hd (show res=match dN (av (ab K)) (T.drop I) with
    | .error e=>.error e
    | .ok (d,r)=>bj (av (ab K)) M ws gs (rd++d) r by rw [gG.o,C7,hq,nE rfl])
   have HQ:=Hd hq;clear C7 aS gG LD hq;go_wp2_with fail;refine kP.o.mono ?_;rintro e wx ⟨a,c,rfl,hp,hk⟩;have JL:=Hd (HG.o.keep0 hk);clear hp hk HG kP;go_wp2_with fail;refine (cT wx B cs n I d tv T true JL.o.rs HQ.o).mono ?_;rintro e wy ⟨rfl,hk⟩;have rr:=Hd (JL.o.keep0 hk);clear hk JL;go_wp2_with fail;refine (cT wy B cs n I d tv T true rr.o.rs HQ.o).mono ?_
   rintro e wb ⟨rfl,hk⟩;have fM:=Hd (rr.o.keep0 hk);clear hk rr;go_wp2_with fail;have sB:=ct.o.1;have pR:=Hd (show X≤wb.heap.size by have h1:=fM.o.zr.lt;have h2:=mG.o;omega);obtain⟨⟨x0,x1,x2,x3,x4,x5,x6,x7⟩,⟨f8,gf,hC,hU,hV,hY,hZ,ia⟩⟩:=(show af wb N [.int .i64 1,false,eS,.slice wa wm wc,.slice ga gm gc,.slice ra rm rc,(),()] from fM.o.ro).eight
   have fR:=fM.o.ro.lt;cases bo:dN (av (ab K)) (T.drop I) with
   | error y=>
    have bO:=Hd (show res=.error y by rw [gh.o,bo]);have kS:=Hd bo;clear bo;go_wp2_with fail;refine uF (S:=(λ w'=>af w' N [.int .i64 1,false,eS,.slice wa wm wc,.slice ga gm gc,.slice ra rm rc,(),()])) kR (fM.o.ro.keep (S:=λ_=>False) (ae.refl _ _).drew (λ h=>h)) (λ dJ=>?_);refine nS (i:=0) (v:=.pointer (some ⟨N,5,none⟩)) rfl kR kR kR (λ_ _ _ h=>h) (Or.inl ⟨rF,?_⟩) dJ ?_
    ·(intro ww jP;have ⟨⟨g0,g1,g2,g3,g4,g5,g6,g7⟩,_⟩:=af.eight jP;go_simp;all_goals (first | done | with_reducible rfl))
    refine nS (i:=1) (v:=.slice ra rm rc) rfl kR kR kR (λ_ _ _ h=>h) (Or.inl ⟨rF,?_⟩) dJ ?_
    ·(intro ww jP;have ⟨⟨g0,g1,g2,g3,g4,g5,g6,g7⟩,_⟩:=af.eight jP;go_simp;all_goals (first | done | with_reducible rfl))
    exact Rc
   | ok dr=>
    obtain⟨d2,r2⟩:=dr;have bO:=Hd (show res=bj (av (ab K)) M ws gs (rd++d2) r2 by rw [gh.o,bo]);have kS:=Hd bo;clear bo;have dv:=Hd (show ∀e w4,mL wb.drew B cs tv n T I d GA (.ok (d2,r2)) e w4→∃(j4:Nat) (sv:ByteArray) (a5:OA) (m5 c5:Nat) (xs:List Value),e=.returned (.agg #[sv,.slice a5 m5 c5])∧(I≤j4∧j4≤T.length∧T.drop j4=r2∧True)∧w4.ownsRow 0 86 2 (.slice ra rm rc) rm xs∧af w4 N [.int .i64 1,false,eS,.slice wa wm wc,.slice ga gm gc,.slice ra rm rc,(),()]∧
     (∀(gg aC:Nat) (w5:World) (o:Obj),w5.ownsRow 0 86 2 (.slice (some ⟨gg,0,none⟩) (rm+1) aC) (rm+1) (xs++[.string sv,.slice a5 m5 c5])→(w4.alloc o).grownBy w5 (Value.slice ra rm rc).ownBlock→((Value.slice ra rm rc).ownBlock=some gg∨gg=w4.heap.size+1)→
      af w5 N [.int .i64 1,false,eS,.slice wa wm wc,.slice ga gm gc,.slice ra rm rc,(),()]∧SI w (w5.setCell ⟨N,5,none⟩ (.slice (some ⟨gg,0,none⟩) (rm+1) aC)) B cs tv n T d X N j4 wa wm wc ws ga gm gc gs (some ⟨gg,0,none⟩) (rm+1) aC (rd++d2)) from λ e w4 hp=>by
     obtain⟨vs,⟨he,j4,kB,iY,cG,be⟩,⟨sv,a5,m5,c5,rfl⟩,f7⟩:=hp;obtain⟨xs,ho,cQ,hF⟩:=fM.o.moreR cF.o ct.o.1 ct.o.2 pR.o ((ae.refl (λ b=>b=cs) wb).drew.trans be k3) cG f7;exact⟨j4,sv,a5,m5,c5,xs,he,⟨kB,cG.i,iY,trivial⟩,ho,cQ,hF⟩)
    go_wp2_with fail;go_region_law (first
     | (
      refine step_append_lies _ rF _ _ _ rF 0 86 i0 _ 2 40 Tryz.underlying41 fo fC fp fq rfl oM (.slice ra rm rc) rm xs rF (hown4.alloc _)
       ⟨w4.heap.size,0,none⟩ 1 1 [sv,.slice a5 m5 c5] rF rF (nK (cs:=#[.string sv,.slice a5 m5 c5]) (t:=86) (fr:=(0,0)) (nG w4 _)) oC
       oM uM oM sI (w4.heap.size+1) sI ?_;intro gg aC w5 aK ao bf gT
      obtain⟨aH,gA⟩:=HF.o gg aC w5 _ aK ao bf;obtain⟨⟨z0,z1,z2,z3,z4,z5,z6,z7⟩,⟨gO,gP,ib,ic,ie,ig,ii,ij⟩⟩:=af.eight aH;have qy:=aH.lt;have fc:=Hd gA;clear aH gA aK ao bf)
     | (go_simp;go_at_call 197;refine (mA K cK.o _ B cs n I d tv T (fM.o.rs.keep0 (ae.refl _ _).drew) HD.o lZ.o).mono ?_;rw [kS.o];intro e w4 hp;obtain⟨j4,sv,a5,m5,c5,xs,he,mc,hown4,aL,hF⟩:=dv.o e w4 hp;subst he;obtain⟨⟨y0,y1,y2,y3,y4,y5,y6,y7⟩,⟨JC,JD,MW,MX,MY,MZ,M0,M1⟩⟩:=af.eight aL;have Jc:=aL.lt;have HF:=Hd hF;have kJ:=Hd mc;clear hp hF mc aL))
    all_goals
     obtain⟨w3,kh⟩:∃w3,w3=w5.setCell ⟨N,5,none⟩ (.slice (some ⟨gg,0,none⟩) (rm+1) aC):=⟨_,rfl⟩;rw [←kh] at fc;rw [←kh];have qn:=Hd (show res=bj (av (ab K)) M ws gs (rd++d2) (T.drop j4) by rw [bO.o,kJ.o.2.2.1]);have Tr:I+1≤j4:=by
      have h1:=iu kS.o;exact S1
     have ux:=kJ.o.2.1;clear kh kJ kS;go_wp2_with fail;go_roundg (T.length - j4)
     case measure=>have:=fK.o;omega
     case rel=>exact⟨j4,M,wa,wm,wc,ws,ga,gm,gc,gs,_,(rm+1),aC,(rd++d2),rfl,oM,oM,oM,oM,oM,fc,qn⟩
  | false=>
  cases bp:tk.kind==1 with
  | false=>
   have t0:((tk.kind:Int)==1)=false:=by rw [nA] at bp ⊢;omega
   have bO:=Hd (show res=.ok (cE 1 false [] ws gs rd [] [],T.drop I) by rw [gG.o,C7,hq,bp];rfl);have HQ:=Hd hq;clear C7 bp gG LD hq;go_wp2_with fail;refine kP.o.mono ?_;rintro e wx ⟨a,c,rfl,hp,hk⟩;have JL:=Hd (HG.o.keep0 hk);clear hp hk HG kP;go_wp2_with fail;refine (cT wx B cs n I d tv T false JL.o.rs HQ.o).mono ?_;rintro e wy ⟨rfl,hk⟩;have rr:=Hd (JL.o.keep0 hk)
   clear hk JL;have cQ:=(show af wy N [.int .i64 1,false,eS,.slice wa wm wc,.slice ga gm gc,.slice ra rm rc,(),()] from rr.o.ro);obtain⟨⟨v0,v1,v2,v3,v4,v5,v6,v7⟩,_⟩:=cQ.eight;have oW:=cQ.lt;have eV:=Hd rr.o.zr;have bZ:=Hd rr.o.kp;have eF:=Hd rr.o.rs;have eW:=Hd rr.o.all;have uQ:=Hd ct.o.1;have lY:=Hd (show jA (cE 1 false [] ws gs rd [] []) from⟨_,_,_,_,_,_,_,_,rfl⟩)
   clear cQ;obtain⟨⟨z0,z1,z2,z3,z4,z5,z6,z7⟩,y0,y1,y2,y3,y4,y5,y6,y7⟩:=eV.o.eight;have fT:=eV.o.lt;go_wp2_with fail;refine nJ (v:=.agg #[.int .i64 1,false,eS,.slice wa wm wc,.slice ga gm gc,.slice ra rm rc,(),()]) (by simp [results,Tryz.results176,go_sem,z0,z1,z2,z3,z4,z5,z6,z7]) rfl ?_;obtain⟨f1,f2,f3⟩:=eK bZ.o eF.o uQ.o cF.o eW.o (ap wy w.heap.size (.int .i64 1) (.bool false) (.string ⟨#[]⟩) (.slice wa wm wc) (.slice ga gm gc) (.slice ra rm rc) (.slice none 0 0) (.slice none 0 0))
   rw [bO.o];exact⟨[.int .i64 1,false,eS,.slice wa wm wc,.slice ga gm gc,.slice ra rm rc,(),()],⟨rfl,_,mI,rfl,f1,f2⟩,trivial,lY.o,f3⟩
  | true=>
   have t0:((tk.kind:Int)==1)=true:=by rw [nH] at bp ⊢;omega
   have gh:=Hd (show res=match ca (av (ab K)) (T.drop I) with
    | .error e=>.error e
    | .ok (w,r)=>pM (av (ab K)) M ws gs rd w r by rw [gG.o,C7,hq,bp];rfl)
   have HQ:=Hd hq;clear C7 bp gG LD hq;go_wp2_with fail;refine kP.o.mono ?_;rintro e wx ⟨a,c,rfl,hp,hk⟩;have JL:=Hd (HG.o.keep0 hk);clear hp hk HG kP;go_wp2_with fail;refine (cT wx B cs n I d tv T false JL.o.rs HQ.o).mono ?_;rintro e wb ⟨rfl,hk⟩;have fM:=Hd (JL.o.keep0 hk);have pR:=Hd (show X≤wb.heap.size by have h1:=fM.o.zr.lt;have h2:=mG.o;omega);clear hk JL
   go_wp2_with fail;refine (jY K cK.o wb B cs n I d tv T fM.o.rs HD.o).mono ?_;intro e w4 hp;cases bo:ca (av (ab K)) (T.drop I) with
   | error y=>
    rw [bo] at hp;obtain⟨rfl,be⟩:=hp;have bO:=Hd (show res=.error y by rw [gh.o,bo]);exact Rb
   | ok xr=>
    obtain⟨x,r2⟩:=xr;rw [bo] at hp;obtain⟨xa,xc,mm,⟨rfl,j4,kB,iY,cG,be⟩,xM,B9⟩:=hp;have Dg:=Hd (fM.o.move cF.o ct.o.1 ct.o.2 be cG);have iJ:=Hd (show res=pM (av (ab K)) M ws gs rd x (T.drop j4) by rw [gh.o,bo,iY]);have cM:=(mE bo).2.2.2;have Tr:I+1≤j4:=by
     have h1:=g9 bo;have h2:=congrArg List.length iY;have h3:=cG.i;rw [nI] at h1 h2;omega
    have ux:=cG.i;have RH:=be.size;have Xm:=DA w4 B mm (λ b=>wb.heap.size≤b) x xa xc cG.ev xM B9 cM;have iZ:ws.length=wm:=by have:=Dg.o.o1.len;omega
    have Nr:=Hd Xm;obtain⟨xl,sE⟩:∃xl,xl=x.length:=⟨_,rfl⟩;rw [←sE] at Nr xM;rw [←sE];have So:=Hd xM;have Na:=Hd RH;have eU:=Hd be;have I9:=Hd sE;clear bo iY cG be xM B9 cM Xm gh RH sE;go_wp2_with fail;refine Nr.o.mono ?_;intro e wk hp;cases FL:dw x with
    | none=>
     rw [FL] at hp;obtain⟨rfl,bi⟩:=hp;obtain⟨we,Bo⟩:∃we,we=wk.alloc (.cells #[eS,()] 84):=⟨_,rfl⟩;have Jh:K0 wk we:=by rw [Bo];exact (ae.refl _ _).alloc _
     have sU:=bi.trans Jh k3;have zQ:=Hd (Dg.o.keep0 sU);have qn:=Hd (show res=bj (av (ab K)) M (ws++[aB x]) gs rd (T.drop j4) by rw [iJ.o];unfold pM;rw [FL,ite_self]);have ur:=Hd (eU.o.trans sU (λ_ _ h=>h.elim));have YJ:=Hd (show bV we (λ b=>wb.heap.size≤b) [aB x] [.slice xa xl xc] from by have h9:=So.o.keep sU (λ_ _ _ h=>h);rw [I9.o] at h9 ⊢;exact⟨gv h9,trivial⟩)
     have SH:=Hd Bo;clear bi Bo Jh sU FL Dg Nr So iJ;exact VW
    | some nv=>
     obtain⟨nm,v⟩:=nv;rw [FL] at hp;obtain⟨va,vc,vm,rfl,Jk,bi⟩:=hp;obtain⟨vl,nc⟩:∃vl,vl=v.length:=⟨_,rfl⟩;rw [←nc] at Jk;rw [←nc];obtain⟨we,Bo⟩:∃we,we=wk.alloc (.cells #[.string ⟨nm.toArray⟩,.slice va vl vc] 84):=⟨_,rfl⟩;have Jh:K0 wk we:=by rw [Bo];exact (ae.refl _ _).alloc _
     have UG:=Hd (show af we wk.heap.size [.string ⟨nm.toArray⟩,.slice va vl vc] by rw [Bo];exact rW _ _ _ _);have sU:=bi.trans Jh k3;have X4:=Na.o;have X5:=bi.size;have zQ:=Hd (Dg.o.keep0 sU);have ur:=Hd (eU.o.trans sU (λ_ _ h=>h.elim));have SH:=Hd Bo;by_cases hz:wm=0
     ·have t1:((wm:Int)==0)=true:=by rw [nH];omega
      have Nm:ws.isEmpty=true:=by rw [List.isEmpty_iff];exact nO oM
      have qn:=Hd (show res=bj (av (ab K)) M ws (gs++[.str nm,aB v]) rd (T.drop j4) by rw [iJ.o];unfold pM;rw [FL,Nm,nE rfl]);have LV:bV we (λ b=>wb.heap.size≤b) [.str nm,aB v] [.string ⟨nm.toArray⟩,.slice va vl vc]:=by
       have h9:=(Jk.keep Jh (λ_ _ _ h=>h)).mono (λ b _ hb=>show wb.heap.size≤b by rcases hb with hb | hb;exact hb;omega);rw [nc] at h9 ⊢;exact⟨.str _,gv h9,trivial⟩
      obtain⟨xs,hown4,aL,hF⟩:=fM.o.moreA cF.o ct.o.1 ct.o.2 pR.o ur.o zQ.o.rs LV;have dz:=(show af we N [.int .i64 1,false,eS,.slice wa wm wc,.slice ga gm gc,.slice ra rm rc,(),()] from aL);obtain⟨⟨x0,x1,x2,x3,x4,x5,x6,x7⟩,f8,gf,hC,hU,hV,hY,hZ,ia⟩:=dz.eight;have fR:=aL.lt;have HF:=Hd (show ∀(gg aC:Nat) (w5:World) (o:Obj),w5.ownsRow 0 84 2 (.slice (some ⟨gg,0,none⟩) (gm+1) aC) (gm+1) (xs++[.string ⟨nm.toArray⟩,.slice va vl vc])→(we.alloc o).grownBy w5 (Value.slice ga gm gc).ownBlock→((Value.slice ga gm gc).ownBlock=some gg∨gg=we.heap.size+1)→
       af w5 N [.int .i64 1,false,eS,.slice wa wm wc,.slice ga gm gc,.slice ra rm rc,(),()]∧SI w (w5.setCell ⟨N,4,none⟩ (.slice (some ⟨gg,0,none⟩) (gm+1) aC)) B cs tv n T d X N j4 wa wm wc ws (some ⟨gg,0,none⟩) (gm+1) aC (gs++[.str nm,aB v]) ra rm rc rd from λ gg aC w5 o=>hF gg aC w5 o)
      obtain⟨⟨r0,r1⟩,_⟩:=UG.out.two;have hAl:=UG.out.lt;clear hF aL dz Jk bi Bo Jh sU FL Dg Nr So iJ X4 X5 nc Nm LV;go_upto_region 7 with fail;rw [←SH.o];go_upto_region 8 with fail;go_wp2_with (at_builtin;refine nR _ rfl (.tmp 40) (.tmp 42) _ rfl 0 84 i1 _ 2 40 Tryz.underlying40 iP hy0 Da qG rfl oM (.slice ga gm gc) gm xs rfl (hown4.alloc _) ⟨we.heap.size,0,none⟩ 1 1 [.string ⟨nm.toArray⟩,.slice va vl vc] rfl rfl (nK (cs:=#[.string ⟨nm.toArray⟩,.slice va vl vc]) (t:=84) (fr:=(0,0)) (nG we _)) oC oM uM oM sI (we.heap.size+1) sI ?_;intro gg aC w5 aK ao bf gT;obtain⟨aH,gA⟩:=HF.o gg aC w5 _ aK ao bf;obtain⟨⟨z0,z1,z2,z3,z4,z5,z6,z7⟩,gO,gP,ib,ic,ie,ig,ii,ij⟩:=af.eight aH;have qy:=aH.lt;have fc:=Hd gA;clear aH gA aK ao bf)
      obtain⟨w6,im⟩:∃w6,w6=w5.setCell ⟨N,4,none⟩ (.slice (some ⟨gg,0,none⟩) (gm+1) aC):=⟨_,rfl⟩;rw [←im] at fc;rw [←im];clear im;go_wp2_with fail;go_roundg (T.length - j4)
      case measure=>have:=fK.o;omega
      case rel=>exact⟨j4,M,wa,wm,wc,ws,_,(gm+1),aC,(gs++[.str nm,aB v]),ra,rm,rc,rd,rfl,oM,oM,oM,oM,oM,fc,qn⟩
     ·have t1:((wm:Int)==0)=false:=by rw [nA];omega
      have Nm:ws.isEmpty=false:=by cases ws with
       | nil=>exact nQ iZ.symm hz
       | cons _ _=>rfl
      have qn:=Hd (show res=bj (av (ab K)) M (ws++[aB x]) gs rd (T.drop j4) by rw [iJ.o];unfold pM;rw [Nm];rfl);have YJ:=Hd (show bV we (λ b=>wb.heap.size≤b) [aB x] [.slice xa xl xc] from by have h9:=So.o.keep sU (λ_ _ _ h=>h);rw [I9.o] at h9 ⊢;exact⟨gv h9,trivial⟩);obtain⟨⟨r0,r1⟩,_⟩:=UG.out.two;clear Jk bi Bo Jh sU FL Dg Nr So iJ X4 X5 nc Nm
      exact VW
theorem RS.two {w:World} {B cs:Nat} {tv:Value} {n:Nat} {T:List Tk} {i d:Nat} (h:RS w B cs tv n T i d) (hj:2≤(T.drop i).length) :
 RS (w.setCell ⟨cs,1,none⟩ (.int .i64 ((i:Int)+2))) B cs tv n T (i+2) d∧ae (λ b=>b=cs) w (w.setCell ⟨cs,1,none⟩ (.int .i64 ((i:Int)+2))):=by
 rw [nI] at hj;have:=h.set1 (j:=i+2) oM;rw [show (((i+2:Nat):Int))=(i:Int)+2 by omega] at this;exact this
theorem Oe {w w9 wz wF:World} {B cs:Nat} {tv:Value} {n:Nat} {T:List Tk} {d J:Nat} {ds:List Dt} {vs:List Value} (hk:ae (λ b=>b=cs) w w9) (du:RS w9 B cs tv n T J d) (hc:cs<w.heap.size)
 (hr:bV w9 (λ b=>w.heap.size<b) ds vs) (hl:ds.length=8) (hz:ae (λ b=>b=w.heap.size) w9 wz) (hs:wz.heap.size=w9.heap.size) (hF:wF=wz.alloc (.cells vs.toArray 44)) :
 RS wF B cs tv n T J d∧ae (λ b=>b=cs) w wF∧Rd wF (λ b=>w.heap.size≤b) (.sl 8 ds) (.slice (some ⟨w9.heap.size,0,none⟩) 1 1):=by
 have hB:=du.cs;have B7:=hk.size;have hkF:K0 wz wF:=by rw [hF];exact (ae.refl _ _).alloc _
 refine⟨(du.keep hz (λ b hb e=>oM) (λ e=>oM)).keep0 hkF,(hk.fresh hz (λ b e=>oM)).trans hkF (λ_ _ h=>h.elim),?_⟩;rw [←hs];exact fk (k:=8) (m:=1) (Ty:=44) (D:=λ b=>w.heap.size≤b) ((hr.keep hz (λ b _ hb e=>oM)).mono (λ b _ hb=>Nat.le_of_lt hb)) hl dC hF oM
theorem BW (cmd:List Tk→PR (List Dt)) (nm:Bs) (ts:List Tk):cy cmd nm ts=if aj [41] ts.tail.tail then
 (if bB (ai ts.tail.tail.tail) && (aj [40] (ai ts.tail.tail.tail) || bJ.contains (aJ (ch (ai ts.tail.tail.tail)))) then (match cmd (ai ts.tail.tail.tail) with
  | .error e=>.error e
  | .ok (d,r2)=>.ok (cE 11 false nm [] [] [] d [],r2))
 else .error 2) else .error 2:=by
 unfold cy en;cases aj [41] ts.tail.tail<;>rfl
theorem Ay (K:Nat) (bw:iI K) (w:World) (B cs n i d:Nat) (tv:Value) (T:List Tk) (nm:Bs) (h:RS w B cs tv n T i d) (hd:d+K=40) (fa:2≤(T.drop i).length) :
 Calls Tryz.prog 196 #[.pointer (some ⟨cs,0,none⟩),.string ⟨nm.toArray⟩] w (eu w B cs tv n T i d vd (cy (ab K) nm (T.drop i))):=by
 obtain⟨res,ag⟩:∃res,res=cy (ab K) nm (T.drop i):=⟨_,rfl⟩;rw [←ag];rw [BW,aG,aG,aG] at ag;have ov:=aT;have ay:=Hd ag;have HH:=Lib.hid h;have HC:=Hd bw;have HD:=Hd hd;have cF:=Hd h.lt;obtain⟨c0,c1,c2,Nd,Nf⟩:=h.cells;have mj:=h.lt;have hI1:=h.i;have hT1:=h.sm.1;have p0:(i:Int)≤20000:=oM
 have Yi:(0:Int)≤(i:Int):=oM
 have lZ:=Hd fa;clear fa ag h bw hd;go_enter Tryz.func196,Tryz.ntmps196;go_wp2_with fail;obtain⟨wq,TP⟩:∃wq,wq=w.setCell ⟨cs,1,none⟩ (.int .i64 ((i:Int)+2)):=⟨_,rfl⟩;obtain⟨Bl,hn2⟩:=HH.o.two lZ.o;rw [←TP] at Bl hn2;have hzq:wq.heap.size=w.heap.size:=by rw [TP];simp
 obtain⟨W,hW⟩:∃W,W=wq.alloc (.cells #[.int .i64 0,false,eS,(),(),(),(),()] 44):=⟨_,rfl⟩;have eG:K0 wq W:=by rw [hW];exact (ae.refl _ _).alloc _
 have HR:=Hd (show af W w.heap.size [.int .i64 0,false,eS,(),(),(),(),()] by rw [hW,←hzq];exact aD _ _ _ _ _ _ _ _ _ _);have dO:=Hd (hn2.trans eG (λ_ _ h=>h.elim));have HX:=Hd (show w.heap.size<W.heap.size by rw [hW,←hzq];simp);have HS:=Hd (Bl.keep0 eG);have hl2:i+2≤T.length:=by have h9:=lZ.o;rw [nI] at h9;omega
 rw [←TP,←hW];clear eG hW Bl hn2 hzq TP c0 c1 c2 Nd Nf;cases hq:aj [41] (T.drop (i+2)) with
 | false=>
  have bO:=Hd (show res=.error 2 by rw [ay.o,hq];rfl);refine (cP W B cs n (i+2) d tv T [41] false HS.o hq).mono ?_;rintro e w1 ⟨rfl,j1,ku,ko,jj,bt⟩;have bZ:=Hd (dO.o.trans bt k3);clear jj bt ko hq;exact KM
 | true=>
  refine (cP W B cs n (i+2) d tv T [41] true HS.o hq).mono ?_;rintro e w1 ⟨rfl,j1,ku,ko,jj,bt⟩;have dF:=Hd jj;have dp:=Hd bt;have X6:T.drop j1=T.drop (i+2+1):=by rw [←aG];exact ko
  have fN:=Hd (show res=if bB (ai (T.drop j1)) && (aj [40] (ai (T.drop j1)) || bJ.contains (aJ (ch (ai (T.drop j1))))) then (match ab K (ai (T.drop j1)) with
   | .error e=>.error e
   | .ok (d,r2)=>.ok (cE 11 false nm [] [] [] d [],r2)) else .error 2 by rw [ay.o,hq,nE rfl,X6])
  clear jj bt ko X6 hq ay;go_wp2_with fail;refine (df _).mono ?_;rintro e w2 ⟨rfl,rfl⟩;go_wp2_with fail;refine (dH w1 B cs n j1 d tv T dF.o).mono ?_;rintro e w2 ⟨rfl,j2,hj2,il,ee,aS⟩;have gS:=Hd ee;have cA:=Hd (dp.o.trans aS k3);have cJ:=Hd (show res=if bB (T.drop j2) && (aj [40] (T.drop j2) || bJ.contains (aJ (ch (T.drop j2)))) then (match ab K (T.drop j2) with
   | .error e=>.error e
   | .ok (d,r2)=>.ok (cE 11 false nm [] [] [] d [],r2)) else .error 2 by rw [fN.o,il])
  clear ee aS il fN;go_wp2_with fail;cases hb:bB (T.drop j2) with
  | false=>
   have bO:=Hd (show res=.error 2 by rw [cJ.o,hb];rfl);refine (iB w2 B cs n j2 d tv T false gS.o hb).mono ?_;rintro e w3 ⟨rfl,aV⟩;have bZ:=Hd ((dO.o.trans cA.o k3).trans aV (λ_ _ h=>h.elim));clear aV hb;exact FD
  | true=>
   have lG:=Hd (show res=if aj [40] (T.drop j2) || bJ.contains (aJ (ch (T.drop j2))) then (match ab K (T.drop j2) with
    | .error e=>.error e
    | .ok (d,r2)=>.ok (cE 11 false nm [] [] [] d [],r2)) else .error 2 by rw [cJ.o,hb,Bool.true_and])
   refine (iB w2 B cs n j2 d tv T true gS.o hb).mono ?_;rintro e w3 ⟨rfl,aV⟩;have eF:=Hd (gS.o.keep0 aV);have bZ:=Hd (cA.o.trans aV (λ_ _ h=>h.elim));clear aV hb cJ;go_wp2_with fail;cases ho:aj [40] (T.drop j2) with
   | true=>
    refine (jT w3 B cs n j2 d tv T [40] true eF.o ho).mono ?_;rintro e w4 ⟨rfl,be⟩;have iG:=Hd (eF.o.keep0 be);have eU:=Hd (bZ.o.trans be (λ_ _ h=>h.elim));have oF:=Hd (show res=match ab K (T.drop j2) with
     | .error e=>.error e
     | .ok (d,r2)=>.ok (cE 11 false nm [] [] [] d [],r2) by rw [lG.o,ho];rfl)
    clear be ho;go_wp2_with fail;refine (df _).mono ?_;rintro e w5 ⟨rfl,rfl⟩;go_wp2_with fail;refine (HC.o w4 B cs n j2 d tv T iG.o HD.o).mono ?_;intro e w9 hp;cases bo:ab K (T.drop j2) with
    | error y=>
     rw [bo] at hp;obtain⟨rfl,iQ⟩:=hp;have bO:=Hd (show res=.error y by rw [oF.o,bo]);have JO:=Hd ((dO.o.trans eU.o k3).trans iQ k3);clear bo iQ;exact Kv
    | ok dr=>
     obtain⟨acc,r⟩:=dr;rw [bo] at hp;obtain⟨vs,⟨rfl,j9,XC,OI,AL,iQ⟩,_,eJ,eo⟩:=hp;obtain⟨k,b,s,a0,n0,c0,a1,n1,c1,a2,n2,c2,a3,n3,c3,a4,n4,c4,rfl⟩:=cC eJ eo;have bO:=Hd (show res=.ok (cE 11 false nm [] [] [] acc [],r) by rw [oF.o,bo]);have ek:W.heap.size≤w4.heap.size:=eU.o.size;have OF:=iQ.size;have bp:=(eU.o.trans iQ k3);exact V2
   | false=>
    refine (jT w3 B cs n j2 d tv T [40] false eF.o ho).mono ?_;rintro e w4 ⟨rfl,be⟩;have iG:=Hd (eF.o.keep0 be);have eU:=Hd (bZ.o.trans be (λ_ _ h=>h.elim));have oF:=Hd (show res=if bJ.contains (aJ (ch (T.drop j2))) then (match ab K (T.drop j2) with
     | .error e=>.error e
     | .ok (d,r2)=>.ok (cE 11 false nm [] [] [] d [],r2)) else .error 2 by rw [lG.o,ho,Bool.false_or])
    clear be ho;go_wp2_with fail;refine (jf w4 B cs n j2 d tv T iG.o).mono ?_;rintro e w5 ⟨a,c,rfl,hp,bi⟩;have l6:=Hd (iG.o.keep0 bi);have fL:=Hd (eU.o.trans bi (λ_ _ h=>h.elim));have HP:=Hd hp;clear hp bi;go_wp2_with fail;refine (fV _ _ _ _ _ _ HP.o).mono ?_;rintro e w6 ⟨rfl,cu⟩;have xW:=Hd (l6.o.keep0 cu);have st:=Hd (fL.o.trans cu (λ_ _ h=>h.elim));clear cu
    go_wp2_with fail;refine (ni _ w6 B xW.o.ev).mono ?_;rintro e w7 ⟨rfl,i5⟩;have Bi:=Hd (xW.o.keep0 i5);have C1:=Hd (st.o.trans i5 (λ_ _ h=>h.elim));clear i5;cases hr:bJ.contains (aJ (ch (T.drop j2))) with
    | false=>
     have bO:=Hd (show res=.error 2 by rw [oF.o,hr];rfl);have JO:=Hd (dO.o.trans C1.o k3);clear hr;go_wp2_with fail;refine (jE _).mono ?_;rintro e w8 ⟨rfl,rfl⟩;exact Kv
    | true=>
     have tr:=Hd (show res=match ab K (T.drop j2) with
      | .error e=>.error e
      | .ok (d,r2)=>.ok (cE 11 false nm [] [] [] d [],r2) by rw [oF.o,hr,nE rfl])
     clear hr;go_wp2_with fail;refine (df _).mono ?_;rintro e w8 ⟨rfl,rfl⟩;go_wp2_with fail;refine (HC.o w7 B cs n j2 d tv T Bi.o HD.o).mono ?_;intro e w9 hp;cases bo:ab K (T.drop j2) with
     | error y=>
      rw [bo] at hp;obtain⟨rfl,iQ⟩:=hp;have bO:=Hd (show res=.error y by rw [tr.o,bo]);have JO:=Hd ((dO.o.trans C1.o k3).trans iQ k3);clear bo iQ;exact Kv
     | ok dr=>
      obtain⟨acc,r⟩:=dr;rw [bo] at hp;obtain⟨vs,⟨rfl,j9,XC,OI,AL,iQ⟩,_,eJ,eo⟩:=hp;obtain⟨k,b,s,a0,n0,c0,a1,n1,c1,a2,n2,c2,a3,n3,c3,a4,n4,c4,rfl⟩:=cC eJ eo;have bO:=Hd (show res=.ok (cE 11 false nm [] [] [] acc [],r) by rw [tr.o,bo]);have ek:W.heap.size≤w7.heap.size:=C1.o.size;have OF:=iQ.size;have bp:=(C1.o.trans iQ k3);exact V2
def gw (ds:List Dt) (p:PR (List Dt)):PR (List Dt):=match p with
 | .error e=>.error e
 | .ok (rs,r2)=>.ok (ds.set 5 (.sl 2 rs),r2)
theorem A9 (scr:Bs→Except Nat Unit) (ds:List Dt) (r:List Tk):aM scr (.ok (ds,r))=gw ds (bm scr (r.length+1) [] r):=by
 unfold aM gw;dsimp only;cases bm scr (r.length+1) [] r with
 | error y=>rfl
 | ok x=>rfl
theorem iC (scr:Bs→Except Nat Unit) (n:Nat) (acc:List Dt) (ts:List Tk):bm scr (n+1) acc ts=if bP ts then (match dN scr ts with
 | .error e=>.error e
 | .ok (d,r)=>bm scr n (acc++d) r) else .ok (acc,ts):=rfl
theorem Mf {ts:List Tk} (h:bK (aJ (ch ts))=true):1≤ts.length:=by
 cases ts with
 | nil=>exact nQ h dC
 | cons _ _=>simp
theorem Ia {ts:List Tk} (h:fF ts=true):2≤ts.length:=by
 have:=dA h;rw [List.length_tail] at this;omega
section
variable (cmd:List Tk→PR (List Dt)) (scr:Bs→Except Nat Unit)
def DK (ts:List Tk):Option (PR (List Dt)):=if bK (aJ (ch ts)) && fF ts then some (cy cmd (aJ (ch ts)) ts) else none
def Aj (ts:List Tk):Option (PR (List Dt)):=if aF [99,97,115,101] ts then some (aM scr (eA cmd scr ts.tail)) else DK cmd ts
def Ai (ts:List Tk):Option (PR (List Dt)):=if aF [102,111,114] ts then some (aM scr (fh cmd scr ts.tail)) else Aj cmd scr ts
def Ah (ts:List Tk):Option (PR (List Dt)):=if aF [117,110,116,105,108] ts then some (aM scr (dE cmd 8 ts.tail)) else Ai cmd scr ts
def Ag (ts:List Tk):Option (PR (List Dt)):=if aF [119,104,105,108,101] ts then some (aM scr (dE cmd 7 ts.tail)) else Ah cmd scr ts
def Af (ts:List Tk):Option (PR (List Dt)):=if aF [105,102] ts then some (aM scr (dx cmd ts.tail)) else Ag cmd scr ts
def Ae (ts:List Tk):Option (PR (List Dt)):=if aF [123] ts then some (aM scr (fu cmd 12 (cO [125]) ts.tail)) else Af cmd scr ts
theorem tF (ts:List Tk):cw cmd scr ts=if aj [40] ts then some (aM scr (fu cmd 13 (en [41]) ts.tail)) else Ae cmd scr ts:=rfl
end
def JF (w:World) (B cs:Nat) (tv:Value) (n:Nat) (T:List Tk) (i d:Nat) (res:Option (PR (List Dt))) (e:Ending) (w':World):Prop:=match res with
 | none=>gX w B cs tv n T i d (.tuple #[.agg #[.int .i64 0,false,eS,(),(),(),(),()],false]) (T.drop i) e w'
 | some (.ok (ds,r))=>∃vs,gX w B cs tv n T i d (.tuple #[.agg vs.toArray,true]) r e w'∧jA ds∧bV w' (λ b=>w.heap.size≤b) ds vs
 | some (.error x)=>e=lL x∧ae (λ b=>b=cs) w w'
section
variable {w wr:World} {B cs:Nat} {tv:Value} {n:Nat} {T:List Tk} {d J X N:Nat}
theorem Av {ds:List Dt} {k:Int} {b:Bool} {s:ByteArray} {a0:OA} {n0 c0:Nat} {a1:OA} {n1 c1:Nat} {a3:OA} {n3 c3:Nat} {a4:OA} {n4 c4:Nat} {Z:List Value}
 (eJ:jA ds) (eo:bV wr (λ b=>X≤b) ds [k,b,s,.slice a0 n0 c0,.slice a1 n1 c1,(),.slice a3 n3 c3,.slice a4 n4 c4])
 (du:RS wr B cs tv n T J d) (hk:ae (λ b=>b=cs) w wr) (hz:af wr w.heap.size Z) (hn:af wr N [k,b,s,.slice a0 n0 c0,.slice a1 n1 c1,(),.slice a3 n3 c3,.slice a4 n4 c4]) (hX:N<X) :
 ∃p0 p1 p2 p3 p4 q6 q7,(∀x,ds.set 5 x=[p0,p1,p2,p3,p4,x,q6,q7])∧(∀rs,jA (ds.set 5 (.sl 2 rs)))∧GI w wr B cs tv n T d X N Z [p0,p1,p2,p3,p4] [q6,q7] [k,b,s,.slice a0 n0 c0,.slice a1 n1 c1] [.slice a3 n3 c3,.slice a4 n4 c4] 2 86 J 0 none 0 []:=by
 obtain⟨kind,nt,nm,ws,gs,rs,ks,ar,rfl⟩:=eJ;obtain⟨h0,h1,h2,h3,h4,h5,h6,h7,_⟩:=eo;have hm:∀{dd:List Dt} {vv:List Value},bV wr (λ b=>X≤b) dd vv→bV wr (λ b=>(X≤b∧b≠N)∧(Value.slice none 0 0).ownBlock≠some b) dd vv:=λ hh=>hh.mono λ b _ hb=>⟨⟨hb,oM⟩,λ e=>by cases e⟩;exact⟨_,_,_,_,_,_,_,λ_=>rfl,λ r=>⟨kind,nt,nm,ws,gs,r,ks,ar,rfl⟩,du,hk,hz,hn,eM.nil _ _ _ _,λ g hg=>(by cases hg),hm ⟨h0,h1,h2,h3,h4,trivial⟩,hm ⟨h6,h7,trivial⟩⟩
theorem GK {D:Nat→Prop} {ds:List Dt} {vs:List Value} (eJ:jA ds) (eo:bV wr D ds vs) (hb:Bp vs):∃(k:Int) (b:Bool) (s:ByteArray) (a0:OA) (n0 c0:Nat) (a1:OA) (n1 c1:Nat) (a3:OA) (n3 c3:Nat) (a4:OA) (n4 c4:Nat),
 vs=[.int .i64 k,.bool b,.string s,.slice a0 n0 c0,.slice a1 n1 c1,.slice none 0 0,.slice a3 n3 c3,.slice a4 n4 c4]:=by
 obtain⟨k,b,s,a0,n0,c0,a1,n1,c1,a2,n2,c2,a3,n3,c3,a4,n4,c4,rfl⟩:=cC eJ eo;have h:(Value.slice a2 n2 c2)=.slice none 0 0:=nD hb;rw [h];exact⟨k,b,s,a0,n0,c0,a1,n1,c1,a3,n3,c3,a4,n4,c4,rfl⟩
end
end Go.Proofs.YtiihpbccabeoeaaGreatDoor
