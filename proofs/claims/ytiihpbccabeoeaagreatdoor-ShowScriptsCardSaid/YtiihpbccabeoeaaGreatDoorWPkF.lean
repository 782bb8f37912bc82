/- The walk: a part. -/
import Derived.Test.YtiihpbccabeoeaaGreatDoorWPkE
import Derived.Lib.IndexMore
namespace Go.Proofs.YtiihpbccabeoeaaGreatDoor
open Go.RowKit
set_option linter.unusedVariables false
set_option maxRecDepth 100000
set_option maxHeartbeats 16000000
theorem aH.two {w:World} {b:Nat} {a0 a1:Value} (h:aH w b [a0,a1]):(w.cell? ⟨b,0,none⟩=some a0∧w.cell? ⟨b,1,none⟩=some a1)∧(w.frozen? ⟨b,0,none⟩=false∧w.frozen? ⟨b,1,none⟩=false):=by
 obtain⟨T,h⟩:=h;refine⟨⟨?_,?_⟩,?_,?_⟩<;>simp [World.cell?,World.frozen?,h]
theorem jB (w:World) (b:Nat) (u0 u1:Value):aB (fun x=>x=b) w ((w.setCell ⟨b,0,none⟩ u0).setCell ⟨b,1,none⟩ u1):=by
 have h0:=(aB.refl (fun x=>x=b) w).set1 0 u0 rfl;exact h0.set1 1 u1 rfl
theorem xX {w:World} {D:Nat→Prop} {n:Nat} {l:List Pt} {g o c:Nat} (h:aV w D n l (.slice (some ⟨g,o,none⟩) l.length c)):∃vs:List Value,vs.length=l.length∧
 (∀W,K0 w W→∀j u,(cL l vs)[j]? = some u→W.cell? ((⟨g,o,none⟩:Addr).add j)=some u)∧(∀u∈cL l vs,u.oneCell'=true)∧∀i (hi:i<l.length) (hi':i<vs.length),aV w D n l[i].word vs[i]:=by
 cases n with
 | zero=>
  obtain⟨rfl,_⟩:=h;exact⟨[],rfl,fun W _ j u hj=>(by simp [cL] at hj),fun u hu=>(by simp [cL] at hu),fun i hi=>absurd hi (Nat.not_lt_zero _)⟩
 | succ n=>
 obtain⟨a,c,e,hc1,hc2,H⟩:=h;injection e with e1 e2 e3;have Hw:∀i (hi:i<l.length),∃wv,lO w g (o+i*6) l[i] wv∧aV w D n l[i].word wv∧g<w.heap.size:=fun i hi=>by
  obtain⟨g',o',wv,e,hb,_,hp,hq⟩:=H i hi;obtain⟨rfl,rfl⟩:g=g'∧o=o':=by simpa using e1.trans e
  exact⟨wv,hp,hq,hb⟩
 obtain⟨vs,hl,hvs⟩:∃vs:List Value,vs.length=l.length∧∀i (hi:i<l.length) (hi':i<vs.length),lO w g (o+i*6) l[i] vs[i]∧aV w D n l[i].word vs[i]∧g<w.heap.size:=
  ⟨List.ofFn (fun i:Fin l.length=>Classical.choose (Hw i.1 i.2)),by simp,fun i hi hi'=>by
   have:=Classical.choose_spec (Hw i hi);simpa using this⟩
 refine⟨vs,hl,fun W hk j u hj=>?_,Ho hl fun i hi hi'=>?_,fun i hi hi'=>(hvs i hi hi').2.1.succ⟩
 ·obtain⟨i,r,hi,rfl,hu⟩:=vG hl hj;obtain⟨h1,_,h3⟩:=hvs i hi (by omega);have:=h1 r u hu;rw [show o+i*6+r=o+(i*6+r) by omega] at this;rw [Addr.add_lit,World.cell?_of_block (hk.block g h3 (fun h=>h))];exact this
 ·obtain⟨a2,c2,e2,_,_⟩:=(hvs i hi hi').2.1.shape;exact⟨_,_,_,e2⟩
def Nh (w:World) (D:Nat→Prop) (res:Option (Bs×List Pt)) (e:Ending) (w':World):Prop:=match res with
 | none=>e=.returned (.tuple #[.agg #[.string ⟨#[]⟩,.slice none 0 0],.bool false])∧K0 w w'
 | some (nm,v)=>∃(a:OA) (c m:Nat),e=.returned (.tuple #[.agg #[.string ⟨nm.toArray⟩,.slice a v.length c],.bool true])∧aV w' (fun b=>D b∨w.heap.size≤b) m v (.slice a v.length c)∧K0 w w'
theorem aV.tail {w:World} {D:Nat→Prop} {n g o c:Nat} {p:Pt} {t:List Pt} (h:aV w D n (p::t) (.slice (some ⟨g,o,none⟩) (p::t).length c)) (a:OA) (ha:a=some ⟨g,o+6,none⟩∨t=[]):aV w D n t (.slice a t.length (c - 1)):=by
 cases n with
 | zero=>obtain⟨e,_⟩:=h;cases e
 | succ n=>
  obtain⟨a',c',e,h1,h2,H⟩:=h;injection e with e1 e2 e3;subst e1 e3;rw [lC] at h1;refine⟨a,c - 1,rfl,by omega,by omega,fun i hi=>?_⟩;rcases ha with rfl | rfl
  ·obtain⟨b,off,wv,e,hb,hd,hc,hw⟩:=H (i+1) (by rw [lC];omega);obtain⟨rfl,rfl⟩:g=b∧o=off:=by simpa using e
   refine⟨g,o+6,wv,rfl,hb,hd,?_,hw⟩;rw [show o+6+i*6=o+(i+1)*6 by omega];exact hc
  ·simp at hi
def NdD (ds:List Dt):Prop:=∃(kind:Nat) (nt:Bool) (nm:List UInt8) (ws gs rs ks ar:List Dt),ds=ndR kind nt nm ws gs rs ks ar
theorem NdD.len {ds:List Dt} (h:NdD ds):ds.length=8:=by
 obtain⟨_,_,_,_,_,_,_,_,rfl⟩:=h;rfl
def jP (l:List Dt):Prop:=∃xs:List (List Dt),l=xs.flatten∧∀x∈xs,NdD x
theorem jP.nil:jP []:=⟨[],rfl,fun x hx=>by cases hx⟩
theorem jP.of {d:List Dt} (h:NdD d):jP d:=⟨[d],by simp,fun x hx=>by rw [List.mem_singleton.1 hx];exact h⟩
theorem jP.app {l m:List Dt} (h:jP l) (k:jP m):jP (l++m):=by
 obtain⟨xs,rfl,hx⟩:=h;obtain⟨ys,rfl,hy⟩:=k;exact⟨xs++ys,by simp,fun x h=>by rcases List.mem_append.1 h with h | h;exact hx x h;exact hy x h⟩
theorem Ck:∀{xs:List (List Dt)},(∀x∈xs,NdD x)→xs.flatten.length=xs.length*8
 | [],_=>rfl
 | x::xs,h=>by
  rw [List.flatten_cons,lA,(h x (List.mem_cons_self ..)).len,Ck (fun y hy=>h y (List.mem_cons_of_mem _ hy)),lC];omega
theorem jP.one {l:List Dt} (h:jP l) (hl:l.length=8):NdD l:=by
 obtain⟨xs,rfl,hx⟩:=h;rw [Ck hx] at hl;cases xs with
 | nil=>simp at hl
 | cons x t=>
  cases t with
  | nil=>
   rw [List.flatten_cons,List.flatten_nil,List.append_nil];exact hx x (List.mem_cons_self ..)
  | cons y z=>rw [lC,lC] at hl;omega
theorem aH.eight {w:World} {b:Nat} {v0 v1 v2 v3 v4 v5 v6 v7:Value} (h:aH w b [v0,v1,v2,v3,v4,v5,v6,v7]) :
 (w.cell? ⟨b,0,none⟩=some v0∧w.cell? ⟨b,1,none⟩=some v1∧w.cell? ⟨b,2,none⟩=some v2∧w.cell? ⟨b,3,none⟩=some v3∧w.cell? ⟨b,4,none⟩=some v4∧w.cell? ⟨b,5,none⟩=some v5∧w.cell? ⟨b,6,none⟩=some v6∧w.cell? ⟨b,7,none⟩=some v7)∧
 (w.frozen? ⟨b,0,none⟩=false∧w.frozen? ⟨b,1,none⟩=false∧w.frozen? ⟨b,2,none⟩=false∧w.frozen? ⟨b,3,none⟩=false∧w.frozen? ⟨b,4,none⟩=false∧w.frozen? ⟨b,5,none⟩=false∧w.frozen? ⟨b,6,none⟩=false∧w.frozen? ⟨b,7,none⟩=false):=by
 obtain⟨T,h⟩:=h;refine⟨⟨?_,?_,?_,?_,?_,?_,?_,?_⟩,?_,?_,?_,?_,?_,?_,?_,?_⟩<;>simp [World.cell?,World.frozen?,h]
theorem aJ (w:World) (b:Nat) (u0 u1 u2 u3 u4 u5 u6 u7:Value):aB (fun x=>x=b) w ((((((((w.setCell ⟨b,0,none⟩ u0).setCell ⟨b,1,none⟩ u1).setCell ⟨b,2,none⟩ u2).setCell ⟨b,3,none⟩ u3).setCell ⟨b,4,none⟩ u4).setCell ⟨b,5,none⟩ u5).setCell ⟨b,6,none⟩ u6).setCell ⟨b,7,none⟩ u7):=by
 have h0:=(aB.refl (fun x=>x=b) w).set1 0 u0 rfl;have h1:=h0.set1 1 u1 rfl;have h2:=h1.set1 2 u2 rfl;have h3:=h2.set1 3 u3 rfl;have h4:=h3.set1 4 u4 rfl;have h5:=h4.set1 5 u5 rfl;have h6:=h5.set1 6 u6 rfl;exact h6.set1 7 u7 rfl
theorem Lx {w:World} {b:Nat} {v0 v1 v2 v3 v4 v5 v6 v7:Value} (h:aH w b [v0,v1,v2,v3,v4,v5,v6,v7]) (u0 u1 u2 u3 u4 u5 u6 u7:Value):aH ((((((((w.setCell ⟨b,0,none⟩ u0).setCell ⟨b,1,none⟩ u1).setCell ⟨b,2,none⟩ u2).setCell ⟨b,3,none⟩ u3).setCell ⟨b,4,none⟩ u4).setCell ⟨b,5,none⟩ u5).setCell ⟨b,6,none⟩ u6).setCell ⟨b,7,none⟩ u7) b [u0,u1,u2,u3,u4,u5,u6,u7]:=
 (((((((h.set 0 u0).set 1 u1).set 2 u2).set 3 u3).set 4 u4).set 5 u5).set 6 u6).set 7 u7
theorem aK (w:World) (v0 v1 v2 v3 v4 v5 v6 v7:Value) (t:TypeId):aH (w.alloc (.cells #[v0,v1,v2,v3,v4,v5,v6,v7] t)) w.heap.size [v0,v1,v2,v3,v4,v5,v6,v7]:=⟨t,heap_alloc_new w _⟩
theorem bV:Tryz.prog.cellsOf 44=8:=by kernel_rfl
theorem sX:(Tryz.prog.info? 44).map (fun i=>(i.zero,i.size,i.bytes))=some (some (.agg #[.int .i64 0,.bool false,.string ⟨#[]⟩,.slice none 0 0,.slice none 0 0,.slice none 0 0,.slice none 0 0,.slice none 0 0]),8,152):=by kernel_rfl
structure LI (w0 w:World) (B cs:Nat) (tv:Value) (n:Nat) (T:List Tk) (d I:Nat) (l:Value) (k:Nat) (Ty:TypeId) (m:Nat) (ds:List Dt):Prop where
 rs:RS w B cs tv n T I d
 own:lD w (fun b=>w0.heap.size≤b) l k Ty m ds
 low:∀g,l.ownBlock=some g→w0.heap.size≤g
 kp:aB (fun b=>b=cs) w0 w
section
variable {w0 w w4:World} {B cs:Nat} {tv:Value} {n:Nat} {T:List Tk} {d I J:Nat} {l:Value} {k:Nat} {Ty:TypeId} {m:Nat} {ds:List Dt}
theorem LI.move (h:LI w0 w B cs tv n T d I l k Ty m ds) (hc:cs<w0.heap.size) (hk:aB (fun b=>b=cs) w w4) (hrs:RS w4 B cs tv n T J d):LI w0 w4 B cs tv n T d J l k Ty m ds:=
 ⟨hrs,h.own.keep hk (fun b _ hb e=>by omega) (fun g hg e=>by have:=h.low g hg;omega),h.low,h.kp.trans hk (fun _ _ e=>e)⟩
theorem LI.keep0 (h:LI w0 w B cs tv n T d I l k Ty m ds) (hk:K0 w w4):LI w0 w4 B cs tv n T d I l k Ty m ds:=
 ⟨h.rs.keep0 hk,h.own.keep hk (fun b _ _ e=>e) (fun g _ e=>e),h.low,h.kp.trans hk (fun _ _ e=>e.elim)⟩
theorem LI.more (h:LI w0 w B cs tv n T d I l k Ty m ds) (hc:cs<w0.heap.size) (hk:aB (fun b=>b=cs) w w4) (hrs:RS w4 B cs tv n T J d) {d2:List Dt} {us:List Value} (hx:RdL w4 (fun b=>w.heap.size≤b) d2 us) :
 ∃xs,w4.ownsRow 0 Ty k l m xs∧∀(gg cap:Nat) (w5:World) (o:Obj),w5.ownsRow 0 Ty k (.slice (some ⟨gg,0,none⟩) (m+1) cap) (m+1) (xs++us)→(w4.alloc o).grownBy w5 l.ownBlock→(l.ownBlock=some gg∨gg=w4.heap.size+1)→
  LI w0 w5 B cs tv n T d J (.slice (some ⟨gg,0,none⟩) (m+1) cap) k Ty (m+1) (ds++d2):=by
 have h4:=h.move hc hk hrs;have hsz:=h.kp.size;have hB:=hrs.cs;obtain⟨xs,hr,ho⟩:=h4.own;refine⟨xs,ho,fun gg cap w5 o hown hgrow hat=>?_⟩;have hk5:aB (fun b=>l.ownBlock=some b) w4 w5:=((aB.refl _ w4).alloc o).grown hgrow (fun k hk _=>hk);have hlow:=h4.low;have hsz4:=hk.size;refine⟨hrs.keep hk5 (fun b hb e=>by have:=hlow b e;omega) (fun e=>by have:=hlow cs e;omega),?_,fun g hg=>?_,h4.kp.trans hk5 (fun b hb e=>by have:=hlow b e;omega)⟩
 ·have hx2:RdL w4 (fun b=>w0.heap.size≤b∧l.ownBlock≠some b) d2 us:=hx.mono fun b _ hb=>⟨by omega,fun e=>by have:=h.own.lt e;omega⟩;exact lD.grow (B:=w0.heap.size) hr hx2 hown hk5 (fun y hy=>by
   have hy2:gg=y:=Option.some.inj hy;rcases hat with h1 | h1
   ·exact .inl (by rw [h1,hy2])
   ·exact .inr (by omega))
 ·have hg2:gg=g:=Option.some.inj hg;rcases hat with h1 | h1
  ·exact hlow g (by rw [h1,hg2])
  ·omega
theorem LI.one {us:List Value} {d2:List Dt} {w1:World} (hrs:RS w4 B cs tv n T J d) (hx:RdL w4 (fun b=>w0.heap.size≤b) d2 us) (hk:aB (fun b=>b=cs) w0 w4) (hl:us.length=k) (hw:w1=w4.alloc (.cells us.toArray Ty)) :
 LI w0 w1 B cs tv n T d J (.slice (some ⟨w4.heap.size,0,none⟩) 1 1) k Ty 1 d2:=by
 have hk1:K0 w4 w1:=by rw [hw];exact (aB.refl _ _).alloc _
 have hsz:=hk.size;refine⟨hrs.keep0 hk1,⟨us,?_,?_⟩,fun g hg=>by have h1:w4.heap.size=g:=Option.some.inj hg;omega,hk.trans hk1 (fun _ _ e=>e.elim)⟩
 ·have h2:RdL w4 (fun b=>w0.heap.size≤b∧b<w4.heap.size) d2 us:=hx.lt;exact (h2.keep hk1 (fun _ _ _ e=>e)).mono fun b _ hb=>⟨hb.1,fun e=>by have h3:w4.heap.size=b:=Option.some.inj e;omega⟩
 ·rw [hw];have:=World.ownsRow_lit (base:=0) (e:=Ty) (size:=k) w4 us.toArray 1 (Nat.zero_le _) (by decide) (by simp [hl]);simpa using this
end
def nD (q:Bool) (p:PR (List Dt)):PR (List Dt):=match p with
 | .error e=>.error e
 | .ok (l,r2)=>if l.length=8∧q=false then .ok (l,r2) else .ok (ndR 2 q [] [] [] [] l [],r2)
theorem C9 (cmd:List Tk→PR (List Dt)) (ts:List Tk):bM cmd ts=match cmd (goF (aT [33] ts) ts) with
 | .error e=>.error e
 | .ok (d,r)=>nD (aT [33] ts) (dE cmd (r.length+1) d r):=by
 unfold bM nD;have e:goF (aT [33] ts) ts=if aT [33] ts then ts.tail else ts:=by cases aT [33] ts<;>rfl
 rw [e];cases cmd (if aT [33] ts=true then ts.tail else ts) with
 | error y=>rfl
 | ok x=>rfl
theorem pP (cmd:List Tk→PR (List Dt)) (n:Nat) (acc:List Dt) (ts:List Tk):dE cmd (n+1) acc ts=if aG [124] ts then (match cmd (aF ts.tail) with
 | .error e=>.error e
 | .ok (d,r)=>dE cmd n (acc++d) r) else .ok (acc,ts):=rfl
theorem RdL.cells {w w1:World} {D:Nat→Prop} {cs:List Dt} {vs:List Value} {Ty:TypeId} (hr:RdL w D cs vs) (hw:w1=w.alloc (.cells vs.toArray Ty)):∀j (hj:j<cs.length),w1.cell? ⟨w.heap.size,0+j,none⟩=some (vs.getD j (.int .i64 0))∧Rd w D cs[j] (vs.getD j (.int .i64 0)):=by
 intro j hj;have hl:=hr.len;have hb:w1.heap[w.heap.size]? = some (.cells vs.toArray Ty):=by rw [hw];exact heap_alloc_new w _
 have e:vs.getD j (.int .i64 0)=vs[j]'(by omega):=by
  rw [List.getD_eq_getElem?_getD,List.getElem?_eq_getElem (by omega)];rfl
 rw [e];refine⟨?_,hr.at hj (by omega)⟩;rw [cell_of_row _ _ (0+j) _ _ _ hb,Nat.zero_add];simp
theorem mV {w w1:World} {D:Nat→Prop} {cs:List Dt} {vs:List Value} {Ty:TypeId} {k m:Nat} (hr:RdL w D cs vs) (hm:cs.length=m*k) (hx:m≤maxLen) (hw:w1=w.alloc (.cells vs.toArray Ty)) (hD:D w.heap.size) :
 Rd w1 D (.sl k cs) (.slice (some ⟨w.heap.size,0,none⟩) m m):=by
 have hk:K0 w w1:=by rw [hw];exact (aB.refl _ _).alloc _
 refine .sl k cs w.heap.size 0 m m (fun j=>vs.getD j (.int .i64 0)) hm (Nat.le_refl _) hx (by rw [hw];simp) hD (fun j hj=>?_) (fun j hj=>?_)
 ·have h:=(hr.cells hw j hj).1;exact h
 ·exact (hr.cells hw j hj).2.keep hk (fun _ _ _ h=>h)
theorem mR (cmd:List Tk→PR (List Dt)) (n:Nat) (acc:List Dt) (ts:List Tk):dU cmd (n+1) acc ts=if aG [38,38] ts then (match bM cmd (aF ts.tail) with
 | .error e=>.error e
 | .ok (d,r)=>dU cmd n (ndR 3 false [] [] [] [] (acc++d) []) r)
 else if aG [124,124] ts then (match bM cmd (aF ts.tail) with
  | .error e=>.error e
  | .ok (d,r)=>dU cmd n (ndR 4 false [] [] [] [] (acc++d) []) r)
 else .ok (acc,ts):=rfl
structure GI (w wr:World) (B cs:Nat) (tv:Value) (n:Nat) (T:List Tk) (d X N:Nat) (Z:List Value) (pre post:List Dt) (vpre vpost:List Value) (k:Nat) (Ty:TypeId) (I m:Nat) (la:OA) (lc:Nat) (ds:List Dt):Prop where
 rs:RS wr B cs tv n T I d
 kp:aB (fun b=>b=cs) w wr
 zr:aH wr w.heap.size Z
 rc:aH wr N (vpre++.slice la m lc::vpost)
 own:lD wr (fun b=>X≤b∧b≠N) (.slice la m lc) k Ty m ds
 low:∀g,(Value.slice la m lc).ownBlock=some g→X≤g∧g≠N
 pr:RdL wr (fun b=>(X≤b∧b≠N)∧(Value.slice la m lc).ownBlock≠some b) pre vpre
 po:RdL wr (fun b=>(X≤b∧b≠N)∧(Value.slice la m lc).ownBlock≠some b) post vpost
section
variable {w wr w4:World} {B cs:Nat} {tv:Value} {n:Nat} {T:List Tk} {d X N:Nat} {Z:List Value} {pre post:List Dt} {vpre vpost:List Value} {k:Nat} {Ty:TypeId} {I J m:Nat} {la:OA} {lc:Nat} {ds:List Dt}
theorem GI.move (h:GI w wr B cs tv n T d X N Z pre post vpre vpost k Ty I m la lc ds) (hc:cs<w.heap.size) (hX:w.heap.size<X) (hN:w.heap.size<N) (hk:aB (fun b=>b=cs) wr w4) (hrs:RS w4 B cs tv n T J d) :
 GI w w4 B cs tv n T d X N Z pre post vpre vpost k Ty J m la lc ds:=
 ⟨hrs,h.kp.trans hk (fun _ _ e=>e),h.zr.keep hk (fun e=>by omega),h.rc.keep hk (fun e=>by omega),h.own.keep hk (fun b _ hb e=>by omega) (fun g hg e=>by have:=h.low g hg;omega),h.low,
  h.pr.keep hk (fun b _ hb e=>by omega),h.po.keep hk (fun b _ hb e=>by omega)⟩
theorem GI.keep0 (h:GI w wr B cs tv n T d X N Z pre post vpre vpost k Ty I m la lc ds) (hk:K0 wr w4) :
 GI w w4 B cs tv n T d X N Z pre post vpre vpost k Ty I m la lc ds:=
 ⟨h.rs.keep0 hk,h.kp.trans hk (fun _ _ e=>e.elim),h.zr.keep hk (fun e=>e),h.rc.keep hk (fun e=>e),h.own.keep hk (fun b _ _ e=>e) (fun g _ e=>e),h.low,
  h.pr.keep hk (fun b _ _ e=>e),h.po.keep hk (fun b _ _ e=>e)⟩
theorem Fv {α} (a:List α) (x y:α) (b:List α):(a++x::b).set a.length y=a++y::b:=by
 rw [List.set_append_right _ _ (Nat.le_refl _),Nat.sub_self,List.set_cons_zero]
theorem GI.more (h:GI w wr B cs tv n T d X N Z pre post vpre vpost k Ty I m la lc ds) (hc:cs<w.heap.size) (hX:w.heap.size<X) (hN:w.heap.size<N) (hXw:X≤wr.heap.size) (hk:aB (fun b=>b=cs) wr w4) (hrs:RS w4 B cs tv n T J d) {d2:List Dt} {us:List Value} (hx:RdL w4 (fun b=>wr.heap.size≤b) d2 us) :
 ∃xs,w4.ownsRow 0 Ty k (.slice la m lc) m xs∧aH w4 N (vpre++.slice la m lc::vpost)∧
  ∀(gg cap:Nat) (w5:World) (o:Obj),w5.ownsRow 0 Ty k (.slice (some ⟨gg,0,none⟩) (m+1) cap) (m+1) (xs++us)→(w4.alloc o).grownBy w5 (Value.slice la m lc).ownBlock→((Value.slice la m lc).ownBlock=some gg∨gg=w4.heap.size+1)→
   aH w5 N (vpre++.slice la m lc::vpost)∧GI w (w5.setCell ⟨N,vpre.length,none⟩ (.slice (some ⟨gg,0,none⟩) (m+1) cap)) B cs tv n T d X N Z pre post vpre vpost k Ty J (m+1) (some ⟨gg,0,none⟩) cap (ds++d2):=by
 have h4:=h.move hc hX hN hk hrs;have hB:=hrs.cs;have hsz:=hk.size;have hNl:=h4.rc.lt;have hNr:=h.rc.lt;have hlow:=h4.low;have hzl:=h4.zr.lt;obtain⟨xs,hr,ho⟩:=h4.own;refine⟨xs,ho,h4.rc,fun gg cap w5 o hown hgrow hat=>?_⟩;have hk5:aB (fun b=>(Value.slice la m lc).ownBlock=some b) w4 w5:=((aB.refl _ w4).alloc o).grown hgrow (fun k hk _=>hk);have hgN:gg≠N:=by
  rcases hat with h1 | h1
  ·exact (hlow gg h1).2
  ·omega
 have hgX:X≤gg:=by
  rcases hat with h1 | h1
  ·exact (hlow gg h1).1
  ·have:=hk.size;omega
 have hrc5:=h4.rc.keep hk5 (fun e=>(hlow N e).2 rfl);have hk6:aB (fun b=>b=N) w5 (w5.setCell ⟨N,vpre.length,none⟩ (.slice (some ⟨gg,0,none⟩) (m+1) cap)):=(aB.refl _ _).setCell _ _ fun _=>rfl;have hrs5:=hrs.keep hk5 (fun b hb e=>by have:=hlow b e;omega) (fun e=>by have:=hlow cs e;omega);have hx2:RdL w4 (fun b=>(X≤b∧b≠N)∧(Value.slice la m lc).ownBlock≠some b) d2 us:=hx.mono fun b _ hb=>⟨⟨by omega,by omega⟩,fun e=>by have:=h.own.lt e;omega⟩
 have hoth:∀{dd:List Dt} {vv:List Value},RdL w4 (fun b=>(X≤b∧b≠N)∧(Value.slice la m lc).ownBlock≠some b) dd vv→
  RdL (w5.setCell ⟨N,vpre.length,none⟩ (.slice (some ⟨gg,0,none⟩) (m+1) cap)) (fun b=>(X≤b∧b≠N)∧(Value.slice (some ⟨gg,0,none⟩) (m+1) cap).ownBlock≠some b) dd vv:=fun hh=>
  ((
   (hh.lt.keep hk5 (fun b _ hb e=>hb.1.2 e)).keep hk6 (fun b _ hb e=>hb.1.1.2 e)).mono fun b _ hb=>⟨hb.1.1,fun e=>by
   have h3:gg=b:=Option.some.inj e;rcases hat with h1 | h1
   ·exact hb.1.2 (by rw [h1,h3])
   ·have:=hb.2;omega⟩)
 refine⟨hrc5,?_⟩;refine⟨hrs5.keep hk6 (fun b hb e=>by omega) (fun e=>by omega),(h4.kp.trans hk5 (fun b hb e=>by have:=hlow b e;omega)).fresh hk6 (fun b e=>by omega),(h4.zr.keep hk5 (fun e=>by have:=hlow _ e;omega)).keep hk6 (fun e=>by omega),?_,?_,?_,hoth h4.pr,hoth h4.po⟩
 ·have:=hrc5.set vpre.length (.slice (some ⟨gg,0,none⟩) (m+1) cap);rw [Fv] at this;exact this
 ·have hr2:=hr.app hx2;have hr3:=((hr2.lt.keep hk5 (fun b _ hb e=>hb.1.2 e)).keep hk6 (fun b _ hb e=>hb.1.1.2 e));have hr4:RdL (w5.setCell ⟨N,vpre.length,none⟩ (.slice (some ⟨gg,0,none⟩) (m+1) cap)) (fun b=>(X≤b∧b≠N)∧(Value.slice (some ⟨gg,0,none⟩) (m+1) cap).ownBlock≠some b) (ds++d2) (xs++us):=hr3.mono fun b _ hb=>⟨hb.1.1,fun e=>by
   have h3:gg=b:=Option.some.inj e;rcases hat with h1 | h1
   ·exact hb.1.2 (by rw [h1,h3])
   ·have:=hb.2;omega⟩
  refine⟨xs++us,hr4,?_⟩
  ·refine⟨hown.1,?_⟩;rcases hown.2 with ⟨e,h0⟩ | ⟨g',cap',cur,e,hb,hg,rest⟩
   ·cases e
   ·have e1:gg=g':=by injection e with e1;injection e1 with e1;injection e1
    exact .inr ⟨g',cap',cur,e,hb,(hk6.block g' (Array.getElem?_eq_some_iff.1 hg).1 (fun e2=>hgN (e1.trans e2))).trans hg,rest⟩
 ·intro g hg;have h3:gg=g:=Option.some.inj hg;exact⟨by omega,by omega⟩
theorem GI.all (h:GI w wr B cs tv n T d X N Z pre post vpre vpost k Ty I m la lc ds):RdL wr (fun b=>X≤b) (pre++.sl k ds::post) (vpre++.slice la m lc::vpost):=by
 have h1:=h.own.reads (fun g hg=>h.low g hg);exact (h.pr.mono fun b _ hb=>hb.1.1).app ⟨h1.mono fun b _ hb=>hb.1,h.po.mono fun b _ hb=>hb.1.1⟩
end
end Go.Proofs.YtiihpbccabeoeaaGreatDoor
