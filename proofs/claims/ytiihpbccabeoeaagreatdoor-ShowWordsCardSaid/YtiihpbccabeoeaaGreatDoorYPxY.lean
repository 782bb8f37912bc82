/- The walk: a part. -/
import Derived.Test.YtiihpbccabeoeaaGreatDoorYPxX
namespace Go.Proofs.YtiihpbccabeoeaaGreatDoor
open Go.RowKit
set_option linter.unusedVariables false
set_option maxRecDepth 100000
set_option maxHeartbeats 16000000
def OwnG (G:Prop) (w:World) (D:Nat→Prop) (v:Value) (k:Nat) (T:TypeId) (n:Nat) (cs:List Dt):Prop:=∃vs,(G→RdL w (fun b=>D b∧v.ownBlock≠some b) cs vs)∧w.ownsRow 0 T k v n vs
theorem OwnG.nil (G:Prop) (w:World) (D:Nat→Prop) (k:Nat) (T:TypeId):OwnG G w D (.slice none 0 0) k T 0 []:=⟨[],fun _=>trivial,World.ownsRow_nil _ _ _ _⟩
theorem OwnG.lt {G:Prop} {w:World} {D:Nat→Prop} {v:Value} {k n:Nat} {T:TypeId} {cs:List Dt} (h:OwnG G w D v k T n cs) {g:Nat} (hg:v.ownBlock=some g):g<w.heap.size:=by
 obtain⟨vs,hr,ho⟩:=h;exact (ho.lt g hg).2
theorem OwnG.keep {G:Prop} {w w':World} {D S:Nat→Prop} {v:Value} {k n:Nat} {T:TypeId} {cs:List Dt} (h:OwnG G w D v k T n cs) (hk:Keeps S w w') (hD:∀b,b<w.heap.size→D b→¬S b) (hv:∀g,v.ownBlock=some g→¬S g):OwnG G w' D v k T n cs:=by
 obtain⟨vs,hr,ho⟩:=h;exact⟨vs,fun g=>(hr g).keep hk (fun b hb hd=>hD b hb hd.1),owns_keep ho hk hv⟩
theorem grow3q {G G':Prop} {w4:World} {Lo B X N:Nat} {P:Nat→Prop} {v v2 v3:Value} {k k2 k3 m m2 m3:Nat} {Ty T2 T3:TypeId} {ds ds2 ds3 d2:List Dt} {us:List Value} {L0:Nat}
 (hP:∀b,P b→(Qd Lo B X b∧b≠N)∧v.ownBlock≠some b∧v2.ownBlock≠some b∧v3.ownBlock≠some b)
 (h1:OwnG G w4 P v k Ty m ds) (h2:OwnG G w4 P v2 k2 T2 m2 ds2) (h3:OwnG G w4 P v3 k3 T3 m3 ds3)
 (l1:∀g,v.ownBlock=some g→X≤g∧g≠N∧v2.ownBlock≠some g∧v3.ownBlock≠some g) (l2:∀g,v2.ownBlock=some g→g≠N) (l3:∀g,v3.ownBlock=some g→g≠N)
 (hL:X≤L0∧N<L0∧L0≤w4.heap.size∧∀g,(v.ownBlock=some g∨v2.ownBlock=some g∨v3.ownBlock=some g)→g<L0) (hPL:∀b,Qd Lo B L0 b→P b) (hG:G'→G)
 (hx:G'→RdL w4 (Qd Lo B L0) d2 us) (hBX:B≤X) :
 ∃xs,w4.ownsRow 0 Ty k v m xs∧∀(gg m' cap:Nat) (w5 wo:World) (f:Nat) (P':Nat→Prop),w5.ownsRow 0 Ty k (.slice (some ⟨gg,0,none⟩) m' cap) m' (xs++us)→Keeps (fun _=>False) w4 wo→wo.grownBy w5 v.ownBlock→(v.ownBlock=some gg∨w4.heap.size≤gg)→
  (∀b,P b→gg≠b→P' b)→
  (X≤gg∧gg≠N∧v2.ownBlock≠some gg∧v3.ownBlock≠some gg)∧Keeps (fun b=>v.ownBlock=some b) w4 w5∧
  OwnG G' (w5.setCell ⟨N,f,none⟩ (.slice (some ⟨gg,0,none⟩) m' cap)) P' (.slice (some ⟨gg,0,none⟩) m' cap) k Ty m' (ds++d2)∧
  OwnG G' (w5.setCell ⟨N,f,none⟩ (.slice (some ⟨gg,0,none⟩) m' cap)) P' v2 k2 T2 m2 ds2∧OwnG G' (w5.setCell ⟨N,f,none⟩ (.slice (some ⟨gg,0,none⟩) m' cap)) P' v3 k3 T3 m3 ds3:=by
 obtain⟨hXL,hNL,hLw,hgL⟩:=hL;obtain⟨xs,hr,ho⟩:=h1;refine⟨xs,ho,fun gg m' cap w5 wo f P' hown hwo hgrow hat hP'=>?_⟩;have hk5:Keeps (fun b=>v.ownBlock=some b) w4 w5:=(hwo.mono (fun _ _ h=>h.elim)).grown hgrow (fun k hk _=>hk);have hgN:gg≠N:=by
  rcases hat with h | h
  ·exact (l1 gg h).2.1
  ·omega
 have hgX:X≤gg:=by
  rcases hat with h | h
  ·exact (l1 gg h).1
  ·omega
 have hg2:v2.ownBlock≠some gg∧v3.ownBlock≠some gg:=by
  rcases hat with h | h
  ·exact (l1 gg h).2.2
  ·exact⟨fun e=>by have:=hgL gg (.inr (.inl e));omega,fun e=>by have:=hgL gg (.inr (.inr e));omega⟩
 have hk6:Keeps (fun b=>b=N) w5 (w5.setCell ⟨N,f,none⟩ (.slice (some ⟨gg,0,none⟩) m' cap)):=(Keeps.refl _ _).setCell _ _ fun _=>rfl;have hne:∀b,b<w4.heap.size→v.ownBlock≠some b→gg≠b:=fun b hb hv e=>by
  rcases hat with h | h
  ·exact hv (by rw [h,e])
  ·omega
 have hoth:∀{vv:Value} {kk mm:Nat} {TT:TypeId} {dd:List Dt},OwnG G w4 P vv kk TT mm dd→(∀g,vv.ownBlock=some g→v.ownBlock≠some g∧g≠N)→
  OwnG G' (w5.setCell ⟨N,f,none⟩ (.slice (some ⟨gg,0,none⟩) m' cap)) P' vv kk TT mm dd:=by
  intro vv kk mm TT dd hh hv;obtain⟨ys,hy,hyo⟩:=hh;have hy2:=fun g':G'=>(((hy (hG g')).lt.keep hk5 (fun b _ hb e=>(hP b hb.1.1).2.1 e)).keep hk6 (fun b _ hb e=>(hP b hb.1.1).1.2 e));have hfin:=fun g':G'=>(hy2 g').mono (D':=fun b=>P' b∧vv.ownBlock≠some b) fun b _ hb=>⟨hP' b hb.1.1 (hne b hb.2 (hP b hb.1.1).2.1),hb.1.2⟩;refine⟨ys,hfin,hyo.1,?_⟩;rcases hyo.2 with h0 | ⟨g',cap',cur,e,hb,hg,rest⟩
  ·exact .inl h0
  ·have hq:=hv g' (by rw [e];rfl);have hgl:=(Array.getElem?_eq_some_iff.1 hg).1;exact .inr ⟨g',cap',cur,e,hb,(hk6.block g' (Nat.lt_of_lt_of_le hgl hk5.size) hq.2).trans ((hk5.block g' hgl hq.1).trans hg),rest⟩
 refine⟨⟨hgX,hgN,hg2⟩,hk5,?_,hoth h2 (fun g hg=>⟨fun e=>(l1 g e).2.2.1 hg,l2 g hg⟩),hoth h3 (fun g hg=>⟨fun e=>(l1 g e).2.2.2 hg,l3 g hg⟩)⟩;have hx2:G'→RdL w4 (fun b=>P b∧v.ownBlock≠some b) d2 us:=fun g'=>(hx g').mono fun b _ hb=>⟨hPL b hb,fun e=>by have h8:=hgL b (.inl e);have h7:=(l1 b e).1;rcases hb with hb | hb<;>omega⟩;have hr2:=fun g':G'=>(hr (hG g')).app (hx2 g');have hr3:=fun g':G'=>(((hr2 g').lt.keep hk5 (fun b _ hb e=>hb.1.2 e)).keep hk6 (fun b _ hb e=>(hP b hb.1.1).1.2 e))
 have hr4:=fun g':G'=>(hr3 g').mono (D':=fun b=>P' b∧(Value.slice (some ⟨gg,0,none⟩) m' cap).ownBlock≠some b) fun b _ hb=>⟨hP' b hb.1.1 (hne b hb.2 hb.1.2),fun e=>hne b hb.2 hb.1.2 (Option.some.inj e)⟩;refine⟨xs++us,hr4,hown.1,?_⟩;rcases hown.2 with ⟨e,h0⟩ | ⟨g',cap',cur,e,hb,hg,rest⟩
 ·cases e
 ·have e1:gg=g':=by injection e with e1;injection e1 with e1;injection e1
  exact .inr ⟨g',cap',cur,e,hb,(hk6.block g' (Array.getElem?_eq_some_iff.1 hg).1 (fun e2=>hgN (e1.trans e2))).trans hg,rest⟩
def PrQ (Lo B X N:Nat) (o1 o2 o3:Option Nat) (b:Nat):Prop:=(Qd Lo B X b∧b≠N)∧o1≠some b∧o2≠some b∧o3≠some b
structure SQ (G:Prop) (w wr:World) (Lo B ps:Nat) (tv:Value) (n:Nat) (T:List Tk) (X N I x:Nat) (wa:Option Addr) (wm wc:Nat) (ws:List Dt) (ga:Option Addr) (gm gc:Nat) (gs:List Dt) (ra:Option Addr) (rm rc:Nat) (rd:List Dt):Prop where
 rs:QS wr Lo B ps tv n T I x
 kp:Keeps (fun b=>b=ps) w wr
 zr:RecAt wr w.heap.size [.int .i64 0,.bool false,.string ⟨#[]⟩,.slice none 0 0,.slice none 0 0,.slice none 0 0,.slice none 0 0,.slice none 0 0]
 ro:RecAt wr N [.int .i64 1,.bool false,.string ⟨#[]⟩,.slice wa wm wc,.slice ga gm gc,.slice ra rm rc,.slice none 0 0,.slice none 0 0]
 o1:OwnG G wr (PrQ Lo B X N (Value.slice wa wm wc).ownBlock (Value.slice ga gm gc).ownBlock (Value.slice ra rm rc).ownBlock) (.slice wa wm wc) 1 29 wm ws
 o2:OwnG G wr (PrQ Lo B X N (Value.slice wa wm wc).ownBlock (Value.slice ga gm gc).ownBlock (Value.slice ra rm rc).ownBlock) (.slice ga gm gc) 2 84 gm gs
 o3:OwnG G wr (PrQ Lo B X N (Value.slice wa wm wc).ownBlock (Value.slice ga gm gc).ownBlock (Value.slice ra rm rc).ownBlock) (.slice ra rm rc) 2 86 rm rd
 l1:∀g,(Value.slice wa wm wc).ownBlock=some g→X≤g∧g≠N∧(Value.slice ga gm gc).ownBlock≠some g∧(Value.slice ra rm rc).ownBlock≠some g
 l2:∀g,(Value.slice ga gm gc).ownBlock=some g→X≤g∧g≠N∧(Value.slice wa wm wc).ownBlock≠some g∧(Value.slice ra rm rc).ownBlock≠some g
 l3:∀g,(Value.slice ra rm rc).ownBlock=some g→X≤g∧g≠N∧(Value.slice wa wm wc).ownBlock≠some g∧(Value.slice ga gm gc).ownBlock≠some g
section
variable {G G':Prop} {w wr w4:World} {Lo B ps:Nat} {tv:Value} {n:Nat} {T:List Tk} {X N I J x y:Nat} {wa:Option Addr} {wm wc:Nat} {ws:List Dt} {ga:Option Addr} {gm gc:Nat} {gs:List Dt} {ra:Option Addr} {rm rc:Nat} {rd:List Dt}
theorem SQ.move (h:SQ G w wr Lo B ps tv n T X N I x wa wm wc ws ga gm gc gs ra rm rc rd) (hc:ps<w.heap.size) (hX:w.heap.size<X) (hN:w.heap.size<N) (hk:Keeps (fun b=>b=ps) wr w4) (hrs:QS w4 Lo B ps tv n T J y) :
 SQ G w w4 Lo B ps tv n T X N J y wa wm wc ws ga gm gc gs ra rm rc rd:=
 ⟨hrs,h.kp.trans hk (fun _ _ e=>e),h.zr.keep hk (fun e=>by omega),h.ro.keep hk (fun e=>by omega),
  h.o1.keep hk (fun b _ hb e=>qd_ne (X:=X) hrs.ps (by omega) hb.1.1 e) (fun g hg e=>by have:=(h.l1 g hg).1;omega),h.o2.keep hk (fun b _ hb e=>qd_ne (X:=X) hrs.ps (by omega) hb.1.1 e) (fun g hg e=>by have:=(h.l2 g hg).1;omega),
  h.o3.keep hk (fun b _ hb e=>qd_ne (X:=X) hrs.ps (by omega) hb.1.1 e) (fun g hg e=>by have:=(h.l3 g hg).1;omega),h.l1,h.l2,h.l3⟩
theorem SQ.keep0 (h:SQ G w wr Lo B ps tv n T X N I x wa wm wc ws ga gm gc gs ra rm rc rd) (hk:Keeps (fun _=>False) wr w4) :
 SQ G w w4 Lo B ps tv n T X N I x wa wm wc ws ga gm gc gs ra rm rc rd:=
 ⟨h.rs.keep0 hk,h.kp.trans hk (fun _ _ e=>e.elim),h.zr.keep hk (fun e=>e),h.ro.keep hk (fun e=>e),
  h.o1.keep hk (fun b _ _ e=>e) (fun g _ e=>e),h.o2.keep hk (fun b _ _ e=>e) (fun g _ e=>e),h.o3.keep hk (fun b _ _ e=>e) (fun g _ e=>e),h.l1,h.l2,h.l3⟩
theorem SQ.sizes (h:SQ G w wr Lo B ps tv n T X N I x wa wm wc ws ga gm gc gs ra rm rc rd) (hXw:X≤wr.heap.size):X≤wr.heap.size∧N<wr.heap.size∧∀g,((Value.slice wa wm wc).ownBlock=some g∨(Value.slice ga gm gc).ownBlock=some g∨(Value.slice ra rm rc).ownBlock=some g)→g<wr.heap.size:=
 ⟨hXw,h.ro.lt,fun g hg=>by rcases hg with hg | hg | hg;exact h.o1.lt hg;exact h.o2.lt hg;exact h.o3.lt hg⟩
theorem SQ.rest {w5 w6:World} {v u:Value} {f:Nat} (h:SQ G w w4 Lo B ps tv n T X N J y wa wm wc ws ga gm gc gs ra rm rc rd) (hc:ps<w.heap.size) (hX:w.heap.size<X) (hN:w.heap.size<N)
 (hv:∀g,v.ownBlock=some g→X≤g∧g≠N) (hk5:Keeps (fun b=>v.ownBlock=some b) w4 w5) (hw6:w6=w5.setCell ⟨N,f,none⟩ u) :
 QS w6 Lo B ps tv n T J y∧Keeps (fun b=>b=ps) w w6∧RecAt w6 w.heap.size [.int .i64 0,.bool false,.string ⟨#[]⟩,.slice none 0 0,.slice none 0 0,.slice none 0 0,.slice none 0 0,.slice none 0 0]∧
 RecAt w5 N [.int .i64 1,.bool false,.string ⟨#[]⟩,.slice wa wm wc,.slice ga gm gc,.slice ra rm rc,.slice none 0 0,.slice none 0 0]∧
 RecAt w6 N ([.int .i64 1,.bool false,.string ⟨#[]⟩,.slice wa wm wc,.slice ga gm gc,.slice ra rm rc,.slice none 0 0,.slice none 0 0].set f u):=by
 have hB:=h.rs.ps;have hk6:Keeps (fun b=>b=N) w5 w6:=by rw [hw6];exact (Keeps.refl _ _).setCell _ _ fun _=>rfl
 have hrc5:=h.ro.keep hk5 (fun e=>(hv N e).2 rfl);refine⟨(h.rs.keep hk5 (fun b hb e=>by have:=(hv b e).1;omega) (fun e=>by have:=(hv ps e).1;omega)).keep hk6 (fun b hb e=>by omega) (fun e=>by omega),
  (h.kp.trans hk5 (fun b hb e=>by have:=(hv b e).1;omega)).fresh hk6 (fun b e=>by omega),(h.zr.keep hk5 (fun e=>by have:=(hv _ e).1;omega)).keep hk6 (fun e=>by omega),hrc5,?_⟩
 rw [hw6];exact hrc5.set f u
theorem SQ.moreR (h:SQ G w wr Lo B ps tv n T X N I x wa wm wc ws ga gm gc gs ra rm rc rd) (hc:ps<w.heap.size) (hX:w.heap.size<X) (hN:w.heap.size<N) (hXw:X≤wr.heap.size) (hk:Keeps (fun b=>b=ps) wr w4) (hrs:QS w4 Lo B ps tv n T J y) {d2:List Dt} {us:List Value} (hG:G'→G) (hx:G'→RdL w4 (Qd Lo B wr.heap.size) d2 us) :
 ∃xs,w4.ownsRow 0 86 2 (.slice ra rm rc) rm xs∧RecAt w4 N [.int .i64 1,.bool false,.string ⟨#[]⟩,.slice wa wm wc,.slice ga gm gc,.slice ra rm rc,.slice none 0 0,.slice none 0 0]∧
  ∀(gg m' cap:Nat) (w5 wo:World),w5.ownsRow 0 86 2 (.slice (some ⟨gg,0,none⟩) m' cap) m' (xs++us)→Keeps (fun _=>False) w4 wo→wo.grownBy w5 (Value.slice ra rm rc).ownBlock→((Value.slice ra rm rc).ownBlock=some gg∨w4.heap.size≤gg)→
   RecAt w5 N [.int .i64 1,.bool false,.string ⟨#[]⟩,.slice wa wm wc,.slice ga gm gc,.slice ra rm rc,.slice none 0 0,.slice none 0 0]∧
   SQ G' w (w5.setCell ⟨N,5,none⟩ (.slice (some ⟨gg,0,none⟩) m' cap)) Lo B ps tv n T X N J y wa wm wc ws ga gm gc gs (some ⟨gg,0,none⟩) m' cap (rd++d2):=by
 have h4:=h.move hc hX hN hk hrs;obtain⟨s1,s2,s3⟩:=h.sizes hXw;have hBX:B≤X:=by have:=hrs.ps;omega
 have hPL:∀b,Qd Lo B wr.heap.size b→PrQ Lo B X N (Value.slice wa wm wc).ownBlock (Value.slice ga gm gc).ownBlock (Value.slice ra rm rc).ownBlock b:=fun b hb=>by
  have k1:∀g,(Value.slice wa wm wc).ownBlock=some g→X≤g∧g<wr.heap.size:=fun g hg=>⟨(h.l1 g hg).1,s3 g (.inl hg)⟩;have k2:∀g,(Value.slice ga gm gc).ownBlock=some g→X≤g∧g<wr.heap.size:=fun g hg=>⟨(h.l2 g hg).1,s3 g (.inr (.inl hg))⟩;have k3:∀g,(Value.slice ra rm rc).ownBlock=some g→X≤g∧g<wr.heap.size:=fun g hg=>⟨(h.l3 g hg).1,s3 g (.inr (.inr hg))⟩;have hB:=hrs.ps;rcases hb with hb | hb
  ·exact⟨⟨.inl hb,by omega⟩,fun e=>by have:=k1 b e;omega,fun e=>by have:=k2 b e;omega,fun e=>by have:=k3 b e;omega⟩
  ·exact⟨⟨.inr (by omega),by omega⟩,fun e=>by have:=k1 b e;omega,fun e=>by have:=k2 b e;omega,fun e=>by have:=k3 b e;omega⟩
 obtain⟨xs,ho,hF⟩:=grow3q (G':=G') (Lo:=Lo) (B:=B) (fun b hb=>⟨hb.1,hb.2.2.2,hb.2.1,hb.2.2.1⟩) h4.o3 h4.o1 h4.o2 h4.l3 (fun g hg=>(h4.l1 g hg).2.1) (fun g hg=>(h4.l2 g hg).2.1)
  ⟨s1,s2,hk.size,fun g hg=>by rcases hg with hg | hg | hg;exact s3 g (.inr (.inr hg));exact s3 g (.inl hg);exact s3 g (.inr (.inl hg))⟩
  (fun b hb=>hPL b hb) hG hx hBX
 refine⟨xs,ho,h4.ro,fun gg m' cap w5 wo hown hwo hgrow hat=>?_⟩;obtain⟨⟨a1,a2,a3,a4⟩,hk5,p1,p2,p3⟩:=hF gg m' cap w5 wo 5 (PrQ Lo B X N (Value.slice wa wm wc).ownBlock (Value.slice ga gm gc).ownBlock (Value.slice (some ⟨gg,0,none⟩) m' cap).ownBlock) hown hwo hgrow hat (fun b hb hg=>⟨hb.1,hb.2.1,hb.2.2.1,fun e=>hg (Option.some.inj e)⟩);obtain⟨r1,r2,r3,r4,r5⟩:=h4.rest hc hX hN (fun g hg=>⟨(h4.l3 g hg).1,(h4.l3 g hg).2.1⟩) hk5 (f:=5) (u:=.slice (some ⟨gg,0,none⟩) m' cap) rfl
 exact⟨r4,⟨r1,r2,r3,r5,p2,p3,p1,fun g hg=>⟨(h4.l1 g hg).1,(h4.l1 g hg).2.1,(h4.l1 g hg).2.2.1,fun e=>by have h9:gg=g:=Option.some.inj e;exact a3 (by rw [h9];exact hg)⟩,
  fun g hg=>⟨(h4.l2 g hg).1,(h4.l2 g hg).2.1,(h4.l2 g hg).2.2.1,fun e=>by have h9:gg=g:=Option.some.inj e;exact a4 (by rw [h9];exact hg)⟩,fun g hg=>by have h9:gg=g:=Option.some.inj hg;subst h9;exact⟨a1,a2,a3,a4⟩⟩⟩
theorem SQ.moreW (h:SQ G w wr Lo B ps tv n T X N I x wa wm wc ws ga gm gc gs ra rm rc rd) (hc:ps<w.heap.size) (hX:w.heap.size<X) (hN:w.heap.size<N) (hXw:X≤wr.heap.size) (hk:Keeps (fun b=>b=ps) wr w4) (hrs:QS w4 Lo B ps tv n T J y) {d2:List Dt} {us:List Value} (hG:G'→G) (hx:G'→RdL w4 (Qd Lo B wr.heap.size) d2 us) :
 ∃xs,w4.ownsRow 0 29 1 (.slice wa wm wc) wm xs∧RecAt w4 N [.int .i64 1,.bool false,.string ⟨#[]⟩,.slice wa wm wc,.slice ga gm gc,.slice ra rm rc,.slice none 0 0,.slice none 0 0]∧
  ∀(gg m' cap:Nat) (w5 wo:World),w5.ownsRow 0 29 1 (.slice (some ⟨gg,0,none⟩) m' cap) m' (xs++us)→Keeps (fun _=>False) w4 wo→wo.grownBy w5 (Value.slice wa wm wc).ownBlock→((Value.slice wa wm wc).ownBlock=some gg∨w4.heap.size≤gg)→
   RecAt w5 N [.int .i64 1,.bool false,.string ⟨#[]⟩,.slice wa wm wc,.slice ga gm gc,.slice ra rm rc,.slice none 0 0,.slice none 0 0]∧
   SQ G' w (w5.setCell ⟨N,3,none⟩ (.slice (some ⟨gg,0,none⟩) m' cap)) Lo B ps tv n T X N J y (some ⟨gg,0,none⟩) m' cap (ws++d2) ga gm gc gs ra rm rc rd:=by
 have h4:=h.move hc hX hN hk hrs;obtain⟨s1,s2,s3⟩:=h.sizes hXw;have hBX:B≤X:=by have:=hrs.ps;omega
 have hPL:∀b,Qd Lo B wr.heap.size b→PrQ Lo B X N (Value.slice wa wm wc).ownBlock (Value.slice ga gm gc).ownBlock (Value.slice ra rm rc).ownBlock b:=fun b hb=>by
  have k1:∀g,(Value.slice wa wm wc).ownBlock=some g→X≤g∧g<wr.heap.size:=fun g hg=>⟨(h.l1 g hg).1,s3 g (.inl hg)⟩;have k2:∀g,(Value.slice ga gm gc).ownBlock=some g→X≤g∧g<wr.heap.size:=fun g hg=>⟨(h.l2 g hg).1,s3 g (.inr (.inl hg))⟩;have k3:∀g,(Value.slice ra rm rc).ownBlock=some g→X≤g∧g<wr.heap.size:=fun g hg=>⟨(h.l3 g hg).1,s3 g (.inr (.inr hg))⟩;have hB:=hrs.ps;rcases hb with hb | hb
  ·exact⟨⟨.inl hb,by omega⟩,fun e=>by have:=k1 b e;omega,fun e=>by have:=k2 b e;omega,fun e=>by have:=k3 b e;omega⟩
  ·exact⟨⟨.inr (by omega),by omega⟩,fun e=>by have:=k1 b e;omega,fun e=>by have:=k2 b e;omega,fun e=>by have:=k3 b e;omega⟩
 obtain⟨xs,ho,hF⟩:=grow3q (G':=G') (Lo:=Lo) (B:=B) (fun b hb=>⟨hb.1,hb.2.1,hb.2.2.1,hb.2.2.2⟩) h4.o1 h4.o2 h4.o3 h4.l1 (fun g hg=>(h4.l2 g hg).2.1) (fun g hg=>(h4.l3 g hg).2.1)
  ⟨s1,s2,hk.size,s3⟩
  (fun b hb=>hPL b hb) hG hx hBX
 refine⟨xs,ho,h4.ro,fun gg m' cap w5 wo hown hwo hgrow hat=>?_⟩;obtain⟨⟨a1,a2,a3,a4⟩,hk5,p1,p2,p3⟩:=hF gg m' cap w5 wo 3 (PrQ Lo B X N (Value.slice (some ⟨gg,0,none⟩) m' cap).ownBlock (Value.slice ga gm gc).ownBlock (Value.slice ra rm rc).ownBlock) hown hwo hgrow hat (fun b hb hg=>⟨hb.1,fun e=>hg (Option.some.inj e),hb.2.2.1,hb.2.2.2⟩);obtain⟨r1,r2,r3,r4,r5⟩:=h4.rest hc hX hN (fun g hg=>⟨(h4.l1 g hg).1,(h4.l1 g hg).2.1⟩) hk5 (f:=3) (u:=.slice (some ⟨gg,0,none⟩) m' cap) rfl
 exact⟨r4,⟨r1,r2,r3,r5,p1,p2,p3,fun g hg=>(by have h9:gg=g:=Option.some.inj hg;subst h9;exact⟨a1,a2,a3,a4⟩),
  fun g hg=>⟨(h4.l2 g hg).1,(h4.l2 g hg).2.1,fun e=>(by have h9:gg=g:=Option.some.inj e;exact a3 (by rw [h9];exact hg)),(h4.l2 g hg).2.2.2⟩,
  fun g hg=>⟨(h4.l3 g hg).1,(h4.l3 g hg).2.1,fun e=>(by have h9:gg=g:=Option.some.inj e;exact a4 (by rw [h9];exact hg)),(h4.l3 g hg).2.2.2⟩⟩⟩
theorem SQ.moreA (h:SQ G w wr Lo B ps tv n T X N I x wa wm wc ws ga gm gc gs ra rm rc rd) (hc:ps<w.heap.size) (hX:w.heap.size<X) (hN:w.heap.size<N) (hXw:X≤wr.heap.size) (hk:Keeps (fun b=>b=ps) wr w4) (hrs:QS w4 Lo B ps tv n T J y) {d2:List Dt} {us:List Value} (hG:G'→G) (hx:G'→RdL w4 (Qd Lo B wr.heap.size) d2 us) :
 ∃xs,w4.ownsRow 0 84 2 (.slice ga gm gc) gm xs∧RecAt w4 N [.int .i64 1,.bool false,.string ⟨#[]⟩,.slice wa wm wc,.slice ga gm gc,.slice ra rm rc,.slice none 0 0,.slice none 0 0]∧
  ∀(gg m' cap:Nat) (w5 wo:World),w5.ownsRow 0 84 2 (.slice (some ⟨gg,0,none⟩) m' cap) m' (xs++us)→Keeps (fun _=>False) w4 wo→wo.grownBy w5 (Value.slice ga gm gc).ownBlock→((Value.slice ga gm gc).ownBlock=some gg∨w4.heap.size≤gg)→
   RecAt w5 N [.int .i64 1,.bool false,.string ⟨#[]⟩,.slice wa wm wc,.slice ga gm gc,.slice ra rm rc,.slice none 0 0,.slice none 0 0]∧
   SQ G' w (w5.setCell ⟨N,4,none⟩ (.slice (some ⟨gg,0,none⟩) m' cap)) Lo B ps tv n T X N J y wa wm wc ws (some ⟨gg,0,none⟩) m' cap (gs++d2) ra rm rc rd:=by
 have h4:=h.move hc hX hN hk hrs;obtain⟨s1,s2,s3⟩:=h.sizes hXw;have hBX:B≤X:=by have:=hrs.ps;omega
 have hPL:∀b,Qd Lo B wr.heap.size b→PrQ Lo B X N (Value.slice wa wm wc).ownBlock (Value.slice ga gm gc).ownBlock (Value.slice ra rm rc).ownBlock b:=fun b hb=>by
  have k1:∀g,(Value.slice wa wm wc).ownBlock=some g→X≤g∧g<wr.heap.size:=fun g hg=>⟨(h.l1 g hg).1,s3 g (.inl hg)⟩;have k2:∀g,(Value.slice ga gm gc).ownBlock=some g→X≤g∧g<wr.heap.size:=fun g hg=>⟨(h.l2 g hg).1,s3 g (.inr (.inl hg))⟩;have k3:∀g,(Value.slice ra rm rc).ownBlock=some g→X≤g∧g<wr.heap.size:=fun g hg=>⟨(h.l3 g hg).1,s3 g (.inr (.inr hg))⟩;have hB:=hrs.ps;rcases hb with hb | hb
  ·exact⟨⟨.inl hb,by omega⟩,fun e=>by have:=k1 b e;omega,fun e=>by have:=k2 b e;omega,fun e=>by have:=k3 b e;omega⟩
  ·exact⟨⟨.inr (by omega),by omega⟩,fun e=>by have:=k1 b e;omega,fun e=>by have:=k2 b e;omega,fun e=>by have:=k3 b e;omega⟩
 obtain⟨xs,ho,hF⟩:=grow3q (G':=G') (Lo:=Lo) (B:=B) (fun b hb=>⟨hb.1,hb.2.2.1,hb.2.1,hb.2.2.2⟩) h4.o2 h4.o1 h4.o3 h4.l2 (fun g hg=>(h4.l1 g hg).2.1) (fun g hg=>(h4.l3 g hg).2.1)
  ⟨s1,s2,hk.size,fun g hg=>by rcases hg with hg | hg | hg;exact s3 g (.inr (.inl hg));exact s3 g (.inl hg);exact s3 g (.inr (.inr hg))⟩
  (fun b hb=>hPL b hb) hG hx hBX
 refine⟨xs,ho,h4.ro,fun gg m' cap w5 wo hown hwo hgrow hat=>?_⟩;obtain⟨⟨a1,a2,a3,a4⟩,hk5,p1,p2,p3⟩:=hF gg m' cap w5 wo 4 (PrQ Lo B X N (Value.slice wa wm wc).ownBlock (Value.slice (some ⟨gg,0,none⟩) m' cap).ownBlock (Value.slice ra rm rc).ownBlock) hown hwo hgrow hat (fun b hb hg=>⟨hb.1,hb.2.1,fun e=>hg (Option.some.inj e),hb.2.2.2⟩);obtain⟨r1,r2,r3,r4,r5⟩:=h4.rest hc hX hN (fun g hg=>⟨(h4.l2 g hg).1,(h4.l2 g hg).2.1⟩) hk5 (f:=4) (u:=.slice (some ⟨gg,0,none⟩) m' cap) rfl
 exact⟨r4,⟨r1,r2,r3,r5,p2,p1,p3,fun g hg=>⟨(h4.l1 g hg).1,(h4.l1 g hg).2.1,fun e=>(by have h9:gg=g:=Option.some.inj e;exact a3 (by rw [h9];exact hg)),(h4.l1 g hg).2.2.2⟩,
  fun g hg=>(by have h9:gg=g:=Option.some.inj hg;subst h9;exact⟨a1,a2,a3,a4⟩),
  fun g hg=>⟨(h4.l3 g hg).1,(h4.l3 g hg).2.1,(h4.l3 g hg).2.2.1,fun e=>(by have h9:gg=g:=Option.some.inj e;exact a4 (by rw [h9];exact hg))⟩⟩⟩
theorem SQ.all (h:SQ G w wr Lo B ps tv n T X N I x wa wm wc ws ga gm gc gs ra rm rc rd) (g:G):RdL wr (Qd Lo B X) (ndR 1 false [] ws gs rd [] []) [.int .i64 1,.bool false,.string ⟨#[]⟩,.slice wa wm wc,.slice ga gm gc,.slice ra rm rc,.slice none 0 0,.slice none 0 0]:=by
 have key:∀{v:Value} {k m:Nat} {Ty:TypeId} {ds:List Dt} {P:Nat→Prop},OwnG G wr P v k Ty m ds→(∀b,P b→Qd Lo B X b)→(∀g,v.ownBlock=some g→X≤g)→Rd wr (Qd Lo B X) (.sl k ds) v:=fun ho hP hv=>by
  obtain⟨us,hu,hoo⟩:=ho;exact OwnD.reads (D:=Qd Lo B X) ⟨us,(hu g).mono fun b _ hb=>⟨hP b hb.1,hb.2⟩,hoo⟩ (fun g hg=>.inr (hv g hg))
 exact⟨.int _,.bool _,.str _,key h.o1 (fun b hb=>hb.1.1) (fun g hg=>(h.l1 g hg).1),key h.o2 (fun b hb=>hb.1.1) (fun g hg=>(h.l2 g hg).1),key h.o3 (fun b hb=>hb.1.1) (fun g hg=>(h.l3 g hg).1),.nil _ _ _ (Nat.zero_le _),.nil _ _ _ (Nat.zero_le _),trivial⟩
end
end Go.Proofs.YtiihpbccabeoeaaGreatDoor
