/- The walk: a part. -/
import Derived.Test.YtiihpbccabeoeaaGreatDoorWPkB
import Derived.Deep.CutBlock
import Derived.Defers
import Derived.Recover
import Derived.Laws.Pointers
import Derived.Lib.SliceRun
import Derived.Deep.RegionHeld3
import Derived.StillTailTactics
import Derived.Deep.Upon
import Derived.Test.YtiihpbccabeoeaaGreatDoorProg
import Derived.WalkKit
import Derived.ProofKit
import Derived.SliceStrings
import Derived.Lib.Hide
import Derived.Lib.Strings
import Derived.SizedLaws
import Derived.Deep.QuietTactic
namespace Go.Proofs.YtiihpbccabeoeaaGreatDoor
open Go.RowKit
set_option linter.unusedVariables false
set_option maxRecDepth 100000
set_option maxHeartbeats 16000000
def aH (w:World) (b:Nat) (l:List Value):Prop:=∃T,w.heap[b]? = some (.cells l.toArray T (0,0))
theorem aH.lt {w:World} {b:Nat} {l:List Value} (h:aH w b l):b<w.heap.size:=by
 obtain⟨T,h⟩:=h;exact (Array.getElem?_eq_some_iff.1 h).1
theorem aH.six {w:World} {b:Nat} {a0 a1 a2 a3 a4 a5:Value} (h:aH w b [a0,a1,a2,a3,a4,a5]) :
 (w.cell? ⟨b,0,none⟩=some a0∧w.cell? ⟨b,1,none⟩=some a1∧w.cell? ⟨b,2,none⟩=some a2∧w.cell? ⟨b,3,none⟩=some a3∧w.cell? ⟨b,4,none⟩=some a4∧w.cell? ⟨b,5,none⟩=some a5)∧
 (w.frozen? ⟨b,0,none⟩=false∧w.frozen? ⟨b,1,none⟩=false∧w.frozen? ⟨b,2,none⟩=false∧w.frozen? ⟨b,3,none⟩=false∧w.frozen? ⟨b,4,none⟩=false):=by
 obtain⟨T,h⟩:=h;refine⟨⟨?_,?_,?_,?_,?_,?_⟩,?_,?_,?_,?_,?_⟩<;>simp [World.cell?,World.frozen?,h]
theorem aH.set {w:World} {b:Nat} {l:List Value} (h:aH w b l) (k:Nat) (v:Value):aH (w.setCell ⟨b,k,none⟩ v) b (l.set k v):=by
 obtain⟨T,h⟩:=h;exact⟨T,by simp [World.setCell,Array.getElem?_modify,h]⟩
theorem aH.keep {w w':World} {b:Nat} {l:List Value} {S:Nat→Prop} (h:aH w b l) (hk:aB S w w') (hb:¬S b):aH w' b l:=by
 have hl:=h.lt;obtain⟨T,h⟩:=h;exact⟨T,(hk.block b hl hb).trans h⟩
theorem oA {w:World} {cs pb:Nat} {s:ByteArray} {i d:Int} {l:List Value} (hs:aD w cs s i d) (hr:aH w pb l) (hne:cs≠pb) (k:Nat) (v:Value) :
 ∃w1,w1=w.setCell ⟨pb,k,none⟩ v∧aD w1 cs s i d∧aH w1 pb (l.set k v)∧aB (fun b=>b=pb) w w1:=by
 have hk:aB (fun b=>b=pb) w (w.setCell ⟨pb,k,none⟩ v):=(aB.refl _ _).setCell _ _ fun _=>rfl;exact⟨_,rfl,hs.keep hk hne,hr.set k v,hk⟩
theorem O9 {s:ByteArray} {l:List UInt8} (h:s.data.toList≠l):(s.toList==l)=false:=by
 rw [Lib.toList_data];exact beq_eq_false_iff_ne.2 h
theorem jM {s:ByteArray} {l:List UInt8} (h:s.data.toList=l):e8 l=.string s:=by
 unfold e8;rw [←h]
theorem Iz (s:ByteArray) (i:Nat):(if bK (rest s i) then (rest s i).tail else rest s i)=rest s (i+(bK (rest s i)).toNat):=by
 cases bK (rest s i)
 ·rfl
 ·show (rest s i).tail=_;exact uV s i
theorem Nl {s:ByteArray} {i:Nat} (hi:i≤s.size):i+(bK (rest s i)).toNat≤s.size:=by
 rcases Nat.lt_or_ge i s.size with h | h
 ·have:=Bool.toNat_le (bK (rest s i));omega
 ·have:bK (rest s i)=false:=by rw [bU h];rfl
  rw [this];exact hi
theorem l6 (s:ByteArray) (i:Nat):(rest s i).tail=rest s (i+1):=uV s i
theorem uS:∀{o l:List UInt8},aI o l=true→o.length≤l.length
 | [],_,_=>Nat.zero_le _
 | a::p,[],h=>by cases h
 | a::p,b::r,h=>by
  have h2:aI p r=true:=by
   unfold aI at h;simp only [Bool.and_eq_true] at h;exact h.2
  have:=uS h2;simp only [lC];omega
theorem Cg (L:List (List UInt8)) (l:List UInt8):(gH L l).length≤l.length:=by
 unfold gH;cases h:L.find? fun o=>aI o l with
 | none=>exact Nat.zero_le _
 | some o=>
  have h2:(fun o=>aI o l) o=true:=List.find?_some (p:=fun o=>aI o l) h;exact uS h2
theorem Lq (l:List UInt8):(opF l).length≤l.length:=Cg _ l
theorem fN (c:UInt8) (t:List UInt8):dM false (c::t)=if c==32 || c==9 then dM false t
 else if c==35 then dM true t
 else if c==92 then (match t with
  | []=>c::t
  | x::t'=>if x==10 then dM false t' else c::t)
 else c::t:=by rw [dM.eq_def];rfl
def gF (r:List UInt8):Except Nat (Tk×List UInt8):=
 if (eK r).isEmpty then
  if aW 38 r then .error 2 else match i5 false (r.length+1) r with
  | .error e=>.error e
  | .ok (l,r1)=>.ok (⟨1,[],cT l⟩,r1)
 else .ok (⟨2,eK r,[]⟩,r.drop (eK r).length)
theorem Oe (n:Nat) (r:List UInt8):qA (n+1) r=match dM false r with
 | []=>.ok []
 | c::t=>
  if (eK (c::t)).isEmpty then
   if c==38 then .error 2 else match i5 false ((c::t).length+1) (c::t) with
   | .error e=>.error e
   | .ok (l,r1)=>tD ⟨1,[],cT l⟩ (qA n r1)
  else tD ⟨2,eK (c::t),[]⟩ (qA n ((c::t).drop (eK (c::t)).length)):=rfl
theorem mC (n:Nat) (r:List UInt8):qA (n+1) r=match dM false r with
 | []=>.ok []
 | c::t=>match gF (c::t) with
  | .error e=>.error e
  | .ok (x,r1)=>tD x (qA n r1):=by
 rw [Oe];cases dM false r with
 | nil=>rfl
 | cons c t=>
  dsimp only;unfold gF;by_cases h:(eK (c::t)).isEmpty=true
  ·rw [if_pos h,if_pos h];by_cases h2:(c==38)=true
   ·rw [if_pos h2,if_pos (show aW 38 (c::t)=true from h2)]
   ·rw [if_neg h2,if_neg (show ¬aW 38 (c::t)=true from h2)];cases i5 false ((c::t).length+1) (c::t) with
    | error e=>rfl
    | ok lr=>obtain⟨l,r1⟩:=lr;rfl
  ·rw [if_neg h,if_neg h]
theorem B8 (l:List UInt8):(eK l).length≤l.length:=Cg _ l
theorem aH.three {w:World} {b:Nat} {a0 a1 a2:Value} (h:aH w b [a0,a1,a2]) :
 (w.cell? ⟨b,0,none⟩=some a0∧w.cell? ⟨b,1,none⟩=some a1∧w.cell? ⟨b,2,none⟩=some a2)∧
 (w.frozen? ⟨b,0,none⟩=false∧w.frozen? ⟨b,1,none⟩=false∧w.frozen? ⟨b,2,none⟩=false):=by
 obtain⟨T,h⟩:=h;refine⟨⟨?_,?_,?_⟩,?_,?_,?_⟩<;>simp [World.cell?,World.frozen?,h]
theorem jJ (wh:Bool) (n:Nat) (r:List UInt8):i5 wh (n+1) r=match r with
 | []=>.ok ([],[])
 | c::_=>if !wh && bJ c then .ok ([],r) else match dJ (2*r.length+2) (.one false) 0 r with
  | .error e=>.error e
  | .ok (l,r1)=>(i5 wh n r1).ahead l:=by cases r<;>rfl
theorem vG {l:List Pt} {vs:List Value} (hl:vs.length=l.length) {j:Nat} {u:Value} (h:(cL l vs)[j]? = some u):∃(i r:Nat) (hi:i<l.length),j=i*6+r∧(fL l[i] (vs[i]'(by omega)))[r]? = some u:=by
 have hj:j<l.length*6:=by
  have:=(List.getElem?_eq_some_iff.1 h).1;rw [k6 hl] at this;exact this
 have hi:j / 6<l.length:=by omega
 have hr:j%6<(fL l[j / 6] (vs[j / 6]'(by omega))).length:=by rw [jG];exact Nat.mod_lt _ (by decide)
 obtain⟨u',hu'⟩:∃u',(fL l[j / 6] (vs[j / 6]'(by omega)))[j%6]? = some u':=⟨_,List.getElem?_eq_getElem hr⟩;have h2:=kL hl hi (j%6) u' hu';rw [show j / 6*6+j%6=j by omega,h] at h2;refine⟨j / 6,j%6,hi,by omega,?_⟩;rw [hu',Option.some.inj h2]
def vM (w wr:World) (R:Nat):Prop:=∃T T',wr.heap[R]? = some (.cells #[.slice none 0 0] T (0,0))∧wr.heap[R+1]? = some (.cells #[.int .i64 0] T' (0,0))
theorem vM.keep {w wr wr':World} {R:Nat} {S:Nat→Prop} (h:vM w wr R) (hk:aB S wr wr') (h0:¬S R) (h1:¬S (R+1)):vM w wr' R:=by
 obtain⟨T,T',a,b⟩:=h;exact⟨T,T',(hk.block R (Array.getElem?_eq_some_iff.1 a).1 h0).trans a,(hk.block (R+1) (Array.getElem?_eq_some_iff.1 b).1 h1).trans b⟩
theorem vM.cells {w wr:World} {R:Nat} (h:vM w wr R):wr.cell? ⟨R,0,none⟩=some (.slice none 0 0)∧wr.cell? ⟨R+1,0,none⟩=some (.int .i64 0)∧wr.frozen? ⟨R,0,none⟩=false∧wr.frozen? ⟨R+1,0,none⟩=false∧R+1<wr.heap.size:=by
 obtain⟨T,T',a,b⟩:=h;refine⟨?_,?_,?_,?_,(Array.getElem?_eq_some_iff.1 b).1⟩<;>simp [World.cell?,World.frozen?,a,b]
theorem aH.one {w:World} {b:Nat} {a0:Value} (h:aH w b [a0]):w.cell? ⟨b,0,none⟩=some a0∧w.frozen? ⟨b,0,none⟩=false:=by
 obtain⟨T,h⟩:=h;refine⟨?_,?_⟩<;>simp [World.cell?,World.frozen?,h]
theorem O0 (s:ByteArray):rest s 0=s.data.toList:=List.drop_zero
def iT (t:Tk) (v:Value):List Value:=[.int .i64 t.kind,e8 t.text,v]
theorem wF (t:Tk) (v:Value):(iT t v).length=3:=rfl
def Gl (w:World) (b o:Nat) (t:Tk) (v:Value):Prop:=∀j u,(iT t v)[j]? = some u→w.cell? ⟨b,o+j,none⟩=some u
def g6 (w:World) (D:Nat→Prop) (n:Nat) (l:List Tk) (v:Value):Prop:=
 ∃a c,v=.slice a l.length c∧l.length≤c∧c≤maxLen∧
  ∀i (h:i<l.length),∃b off wv,a=some ⟨b,off,none⟩∧b<w.heap.size∧D b∧Gl w b (off+i*3) l[i] wv∧aV w D n l[i].word wv
theorem g6.keep {w w':World} {D S:Nat→Prop} (hk:aB S w w') (hD:∀b,b<w.heap.size→D b→¬S b) {n:Nat} {l:List Tk} {v:Value}:g6 w D n l v→g6 w' D n l v
 | ⟨a,c,h1,h2,h3,h⟩=>⟨a,c,h1,h2,h3,fun i hi=>by
  obtain⟨b,off,wv,e,hb,hd,hc,hw⟩:=h i hi;refine⟨b,off,wv,e,Nat.lt_of_lt_of_le hb hk.size,hd,fun j u hu=>?_,aV.keep hk hD hw⟩;rw [World.cell?_of_block (hk.block b hb (hD b hb hd))];exact hc j u hu⟩
theorem g6.mono {w:World} {D D':Nat→Prop} (hD:∀b,b<w.heap.size→D b→D' b) {n:Nat} {l:List Tk} {v:Value}:g6 w D n l v→g6 w D' n l v
 | ⟨a,c,h1,h2,h3,h⟩=>⟨a,c,h1,h2,h3,fun i hi=>by
  obtain⟨b,off,wv,e,hb,hd,hc,hw⟩:=h i hi;exact⟨b,off,wv,e,hb,hD b hb hd,hc,aV.mono hD hw⟩⟩
theorem g6.nil (w:World) (D:Nat→Prop) (n:Nat):g6 w D n [] (.slice none 0 0):=⟨none,0,rfl,Nat.le_refl _,Nat.zero_le _,fun i hi=>absurd hi (Nat.not_lt_zero _)⟩
theorem g6.le {w:World} {D:Nat→Prop} {n m:Nat} {l:List Tk} {v:Value} (hm:n≤m):g6 w D n l v→g6 w D m l v
 | ⟨a,c,h1,h2,h3,h⟩=>⟨a,c,h1,h2,h3,fun i hi=>by
  obtain⟨b,off,wv,e,hb,hd,hc,hw⟩:=h i hi;exact⟨b,off,wv,e,hb,hd,hc,hw.le hm⟩⟩
def fT:List Tk→List Value→List Value
 | p::l,v::vs=>iT p v++fT l vs
 | _,_=>[]
theorem lY:∀{l m:List Tk} {vs us:List Value},vs.length=l.length→fT (l++m) (vs++us)=fT l vs++fT m us
 | [],m,[],us,_=>rfl
 | p::l,m,v::vs,us,h=>by
  simp only [List.cons_append,fT,lY (l:=l) (vs:=vs) (by simpa using h),aA]
theorem yT:∀{l:List Tk} {vs:List Value} {i:Nat} (h:vs.length=l.length) (hi:i<l.length) (j:Nat) (u:Value),(iT l[i] (vs[i]'(by omega)))[j]? = some u→(fT l vs)[i*3+j]? = some u
 | p::l,v::vs,0,h,hi,j,u,hu=>by
  simp only [List.getElem_cons_zero] at hu;rw [Nat.zero_mul,Nat.zero_add];simp only [fT];rw [List.getElem?_append_left]
  ·exact hu
  ·exact (List.getElem?_eq_some_iff.1 hu).1
 | p::l,v::vs,i+1,h,hi,j,u,hu=>by
  simp only [List.getElem_cons_succ] at hu;simp only [fT];rw [List.getElem?_append_right (by rw [wF];omega),wF,show (i+1)*3+j - 3=i*3+j by omega];exact yT (by simpa using h) (by simpa using hi) j u hu
def eI (w:World) (D:Nat→Prop) (v:Value) (raw:List Tk):Prop:=
 ∃vs n,vs.length=raw.length∧w.ownsRow 0 109 3 v raw.length (fT raw vs)∧
  ∀i (h:i<raw.length) (h':i<vs.length),aV w (fun b=>D b∧v.ownBlock≠some b) n raw[i].word vs[i]
theorem eI.nil (w:World) (D:Nat→Prop):eI w D (.slice none 0 0) []:=
 ⟨[],0,rfl,World.ownsRow_nil _ _ _ _,fun i h=>absurd h (Nat.not_lt_zero _)⟩
theorem eI.shape {w:World} {D:Nat→Prop} {v:Value} {raw:List Tk} (h:eI w D v raw):∃a c,v=.slice a raw.length c∧raw.length≤c∧c≤maxLen:=by
 obtain⟨vs,n,hl,ho,_⟩:=h;rcases ho.2 with ⟨rfl,h0⟩ | ⟨g,cap,cur,rfl,_,_,h1,h2,_⟩
 ·exact⟨none,0,by rw [h0],by omega,Nat.zero_le _⟩
 ·exact⟨_,cap,rfl,h1,h2⟩
theorem eI.lt {w:World} {D:Nat→Prop} {v:Value} {raw:List Tk} (h:eI w D v raw) {g:Nat} (hg:v.ownBlock=some g):g<w.heap.size:=by
 obtain⟨vs,n,hl,ho,_⟩:=h;exact (ho.lt g hg).2
theorem eI.keep {w w':World} {D S:Nat→Prop} {v:Value} {raw:List Tk} (h:eI w D v raw) (hk:aB S w w') (hD:∀b,b<w.heap.size→D b→¬S b) (hv:∀g,v.ownBlock=some g→¬S g):eI w' D v raw:=by
 obtain⟨vs,n,hl,ho,hn⟩:=h;refine⟨vs,n,hl,⟨ho.1,?_⟩,fun i h h'=>(hn i h h').keep hk fun b hb hd=>hD b hb hd.1⟩;rcases ho.2 with h0 | ⟨g,cap,cur,rfl,hb,hg,rest⟩
 ·exact .inl h0
 ·exact .inr ⟨g,cap,cur,rfl,hb,(hk.block g (Array.getElem?_eq_some_iff.1 hg).1 (hv g rfl)).trans hg,rest⟩
theorem eI.reads {w:World} {D:Nat→Prop} {v:Value} {raw:List Tk} (h:eI w D v raw) (hD:∀g,v.ownBlock=some g→D g):∃n,g6 w D n raw v:=by
 have hs:=h.shape;obtain⟨vs,n,hl,ho,hn⟩:=h;obtain⟨a,c,e,h1,h2⟩:=hs;subst e;refine⟨n,a,c,rfl,h1,h2,fun i hi=>?_⟩;rcases ho.2 with ⟨_,h0⟩ | ⟨g,cap,cur,e,_,hg,_⟩
 ·omega
 simp only [Value.slice.injEq] at e;obtain⟨rfl,_,rfl⟩:=e;refine⟨g,0,vs[i]'(by omega),rfl,(Array.getElem?_eq_some_iff.1 hg).1,hD g rfl,fun j u hu=>?_,(hn i hi (by omega)).mono fun b _ hb=>hb.1⟩;have hj:j<3:=(List.getElem?_eq_some_iff.1 hu).1;rw [ho.cellAt _ (by omega),Nat.zero_add];exact yT hl hi j u hu
theorem Cr {w w':World} {v v':Value} {B:Nat} {raw:List Tk} {x:Tk} {vs:List Value} {n m:Nat} {wv:Value} (hx:aV w (fun b=>B≤b∧v.ownBlock≠some b) m x.word wv) (hl:vs.length=raw.length)
 (hnest:∀i (h:i<raw.length) (h':i<vs.length),aV w (fun b=>B≤b∧v.ownBlock≠some b) n raw[i].word vs[i])
 (hown:w'.ownsRow 0 109 3 v' (raw.length+1) (fT raw vs++iT x wv)) (hk:aB (fun b=>v.ownBlock=some b) w w')
 (hg:∀y,v'.ownBlock=some y→v.ownBlock=some y∨w.heap.size≤y) :
 eI w' (fun b=>B≤b) v' (raw++[x]):=by
 have key:∀(k:Nat) (l:List Pt) (u:Value),aV w (fun b=>B≤b∧v.ownBlock≠some b) k l u→aV w' (fun b=>B≤b∧v'.ownBlock≠some b) k l u:=fun k l u h=>by
  have h2:aV w (fun b=>(B≤b∧v.ownBlock≠some b)∧b<w.heap.size) k l u:=h.mono fun b hb hd=>⟨hd,hb⟩;refine (h2.keep hk (fun b _ hd s=>hd.1.2 s)).mono fun b _ hd=>⟨hd.1.1,fun e=>?_⟩;rcases hg b e with h3 | h3
  ·exact hd.1.2 h3
  ·have:=hd.2;omega
 refine⟨vs++[wv],max n m,by simp [hl],?_,fun i h h'=>?_⟩
 ·rw [lY hl];simpa [fT] using hown
 ·by_cases hi:i<raw.length
  ·rw [List.getElem_append_left hi,List.getElem_append_left (by omega)];exact (key _ _ _ (hnest i hi (by omega))).le (by omega)
  ·have hi2:i=raw.length:=by simp at h;omega
   subst hi2;rw [List.getElem_append_right (Nat.le_refl _),List.getElem_append_right (by omega)];simp only [hl,Nat.sub_self,List.getElem_cons_zero];exact (key _ _ _ hx).le (by omega)
theorem Ey:(Tryz.prog.info? 109).map (fun i=>(i.zero,i.size,i.bytes))=some (some (.agg #[.int .i64 0,.string ⟨#[]⟩,.slice none 0 0]),3,48):=by kernel_rfl
theorem fW:Tryz.prog.cellsOf 109=3:=by kernel_rfl
def g9 (l:List Tk):Except Nat (List Tk)→Except Nat (List Tk)
 | .error e=>.error e
 | .ok m=>.ok (l++m)
theorem Jv (r:Except Nat (List Tk)):g9 [] r=r:=by cases r<;>rfl
theorem nB (l:List Tk) (x:Tk) (r:Except Nat (List Tk)):g9 l (tD x r)=g9 (l++[x]) r:=by
 cases r with
 | error e=>rfl
 | ok m=>show Except.ok (l++(x::m))=Except.ok ((l++[x])++m);rw [aA];rfl
theorem pG (wh:Bool):∀(n:Nat) (r:List UInt8) (l:List Pt) (r1:List UInt8),i5 wh n r=.ok (l,r1)→r1.length≤r.length
 | 0,r,l,r1,h=>by cases h
 | n+1,[],l,r1,h=>by
  obtain⟨_,rfl⟩:=Prod.mk.inj (Except.ok.inj h);exact Nat.le_refl _
 | n+1,c::t,l,r1,h=>by
  rw [jJ] at h;dsimp only at h;split at h
  ·obtain⟨_,rfl⟩:=Prod.mk.inj (Except.ok.inj h);exact Nat.le_refl _
  ·cases h2:dJ (2*(c::t).length+2) (.one false) 0 (c::t) with
   | error e=>rw [h2] at h;cases h
   | ok x=>
    obtain⟨l2,r2⟩:=x;rw [h2] at h;obtain⟨m',h3,_⟩:=eL h;have h4:=dV _ _ _ _ _ _ h2;have h5:=pG wh n _ _ _ h3;omega
theorem sO (c:UInt8) (t:List UInt8) (ho:eK (c::t)=[]) (h38:c≠38) (h32:(c==32 || c==9)=false):bJ c=false:=by
 cases hb:bJ c with
 | false=>rfl
 | true=>
  exfalso;have h1:c=10∨c=59∨c=124∨c=40∨c=41∨c=60∨c=62:=by
   simp only [bJ,Bool.or_eq_true,beq_iff_eq,Bool.or_eq_false_iff,beq_eq_false_iff_ne] at hb h32;simp only [or_assoc] at hb;rcases hb with h | h | h | h | h | h | h | h | h | h<;>simp_all
  have h2:∀o∈pL,aI o (c::t)=true→o≠[]→eK (c::t)≠[]:=by
   intro o hm hs hne he;unfold eK gH at he;cases hf:pL.find? (fun o=>aI o (c::t)) with
   | none=>exact absurd hs (by simpa using List.find?_eq_none.1 hf o hm)
   | some p=>
    rw [hf] at he;have hp:p∈pL:=List.mem_of_find?_eq_some hf;have:p=[]:=he;subst this;exact absurd hp (by decide)
  rcases h1 with rfl | rfl | rfl | rfl | rfl | rfl | rfl
  ·exact h2 [10] (by decide) rfl (by decide) ho
  ·exact h2 [59] (by decide) rfl (by decide) ho
  ·exact h2 [124] (by decide) rfl (by decide) ho
  ·exact h2 [40] (by decide) rfl (by decide) ho
  ·exact h2 [41] (by decide) rfl (by decide) ho
  ·exact h2 [60] (by decide) rfl (by decide) ho
  ·exact h2 [62] (by decide) rfl (by decide) ho
theorem jX:∀(k:Nat) (m:Bool) (r:List UInt8) (c:UInt8) (t:List UInt8),r.length≤k→dM m r=c::t→(c==32 || c==9)=false
 | _,m,[],c,t,_,h=>by cases m<;>cases h
 | 0,m,x::r,c,t,hk,h=>by simp at hk
 | k+1,true,x::r,c,t,hk,h=>by
  unfold dM at h;split at h
  ·next hx=>
   obtain⟨rfl,rfl⟩:=List.cons.inj h;rw [beq_iff_eq.1 hx];rfl
  ·exact jX k true r c t (by simpa using hk) h
 | k+1,false,x::r,c,t,hk,h=>by
  rw [fN] at h;cases hx:(x==32 || x==9) with
  | true=>rw [hx,if_pos rfl] at h;exact jX k false r c t (by simpa using hk) h
  | false=>
   rw [hx,if_neg (by simp)] at h;split at h
   ·exact jX k true r c t (by simpa using hk) h
   ·split at h
    ·cases r with
     | nil=>obtain⟨rfl,rfl⟩:=List.cons.inj h;exact hx
     | cons y r'=>
      dsimp only at h;split at h
      ·exact jX k false r' c t (by simp at hk;omega) h
      ·obtain⟨rfl,rfl⟩:=List.cons.inj h;exact hx
    ·obtain⟨rfl,rfl⟩:=List.cons.inj h;exact hx
theorem o8 {r:List UInt8} {c:UInt8} {t:List UInt8} (h:dM false r=c::t):(c==32 || c==9)=false:=jX _ _ _ _ _ (Nat.le_refl _) h
theorem kO:∀(k:Nat) (m:Bool) (r:List UInt8),r.length≤k→(dM m r).length≤r.length
 | _,m,[],_=>by cases m<;>exact Nat.le_refl _
 | 0,m,x::r,hk=>by simp at hk
 | k+1,true,x::r,hk=>by
  unfold dM;split
  ·exact Nat.le_refl _
  ·have:=kO k true r (by simpa using hk);simp;omega
 | k+1,false,x::r,hk=>by
  rw [fN];have h1:=kO k false r (by simpa using hk);have h2:=kO k true r (by simpa using hk);split
  ·simp;omega
  ·split
   ·simp;omega
   ·split
    ·cases r with
     | nil=>exact Nat.le_refl _
     | cons y r'=>
      dsimp only;split
      ·have h3:=kO k false r' (by simp at hk;omega);simp;omega
      ·exact Nat.le_refl _
    ·exact Nat.le_refl _
theorem qG (m:Bool) (r:List UInt8):(dM m r).length≤r.length:=kO _ m r (Nat.le_refl _)
theorem mY {c:UInt8} {t:List UInt8} {x:Tk} {r1:List UInt8} (h32:(c==32 || c==9)=false) (h:gF (c::t)=.ok (x,r1)):r1.length≤t.length:=by
 unfold gF at h;by_cases ho:eK (c::t)=[]
 ·rw [ho,if_pos (by rfl)] at h;by_cases h38:c=38
  ·rw [if_pos (show aW 38 (c::t)=true by rw [h38];rfl)] at h;cases h
  ·rw [if_neg (show ¬aW 38 (c::t)=true from fun h=>h38 (beq_iff_eq.1 h))] at h;have hb:=sO c t ho h38 h32;rw [jJ] at h;dsimp only at h;rw [hb,if_neg (by simp)] at h;cases h2:dJ (2*(c::t).length+2) (.one false) 0 (c::t) with
   | error e=>rw [h2] at h;cases h
   | ok y=>
    obtain⟨l2,r2⟩:=y;rw [h2] at h;dsimp only at h;have h4:=dV _ _ _ _ _ _ h2;cases h5:i5 false (c::t).length r2 with
    | error e=>rw [h5] at h;cases h
    | ok z=>
     obtain⟨l3,r3⟩:=z;rw [h5] at h;obtain⟨_,rfl⟩:=Prod.mk.inj (Except.ok.inj h);have h6:=pG _ _ _ _ _ h5;simp only [Md.least,lC] at h4;omega
 ·rw [if_neg (by simpa using ho)] at h;obtain⟨_,rfl⟩:=Prod.mk.inj (Except.ok.inj h);rw [List.length_drop,lC];have:=List.length_pos_iff.2 ho;omega
structure sT (W wr:World) (R cs:Nat) (s:ByteArray) (I:Nat) (l:List Tk) (v:Value):Prop where
 sc:aD wr cs s I ((0:Nat):Int)
 r0:aH wr R [v]
 r1:aH wr (R+1) [.int .i64 0]
 own:eI wr (fun b=>W.heap.size≤b) v l
 low:∀g,v.ownBlock=some g→W.heap.size≤g
 kp:aB (fun b=>b=cs∨b=R) W wr
 len:l.length≤I
theorem sT.move {W wr w':World} {R cs:Nat} {s:ByteArray} {I J:Nat} {l:List Tk} {v:Value} (h:sT W wr R cs s I l v) (hk:aB (fun b=>b=cs) wr w') (hs:aD w' cs s J ((0:Nat):Int)) (hI:I≤J) (h1:cs≠R) (h2:cs≠R+1) (h3:cs<W.heap.size):sT W w' R cs s J l v:=
 ⟨hs,h.r0.keep hk (fun e=>h1 e.symm),h.r1.keep hk (fun e=>h2 e.symm),h.own.keep hk (fun b _ hb e=>by omega) (fun g hg e=>by have:=h.low g hg;omega),h.low,h.kp.trans hk (fun _ _ e=>.inl e),Nat.le_trans h.len hI⟩
theorem sT.more {W wr w1:World} {R cs:Nat} {s:ByteArray} {I J:Nat} {l:List Tk} {v:Value} (h:sT W wr R cs s I l v) (hk:aB (fun b=>b=cs) wr w1) (hs:aD w1 cs s J ((0:Nat):Int)) (hI:I<J) (h1:cs≠R) (h2:cs≠R+1) (h3:cs<W.heap.size) (hR:R+1<W.heap.size)
 {x:Tk} {wv:Value} {n:Nat} (hx:aV w1 (fun b=>wr.heap.size≤b) n x.word wv) :
 ∃xs,w1.ownsRow 0 109 3 v l.length xs∧v.ownBlock≠some R∧∀(g cap:Nat) (w2:World) (o:Obj),w2.ownsRow 0 109 3 (.slice (some ⟨g,0,none⟩) (l.length+1) cap) (l.length+1) (xs++iT x wv)→(w1.alloc o).grownBy w2 v.ownBlock→(v.ownBlock=some g∨g=w1.heap.size+1)→
  w2.cell? ⟨R,0,none⟩=some v∧w2.frozen? ⟨R,0,none⟩=false∧sT W (w2.setCell ⟨R,0,none⟩ (.slice (some ⟨g,0,none⟩) (l.length+1) cap)) R cs s J (l++[x]) (.slice (some ⟨g,0,none⟩) (l.length+1) cap):=by
 have hm:=h.move hk hs (by omega) h1 h2 h3;have hm0:=hm.own;obtain⟨vs,m,hl,ho,hn⟩:=hm.own;have hWw:=hm.kp.size;refine⟨_,ho,fun e=>by have:=h.low _ e;omega,fun g cap w2 o hown hg hat=>?_⟩;have hvR:∀b,v.ownBlock=some b→W.heap.size≤b:=h.low;have k:aB (fun b=>v.ownBlock=some b) w1 w2:=((aB.refl _ w1).alloc o).grown hg fun k hk _=>hk;have hr0:=hm.r0.keep k (fun e=>by have:=hvR _ e;omega);have hgW:W.heap.size≤g:=by
  rcases hat with e | e
  ·exact hvR _ e
  ·omega
 have hk2:aB (fun b=>b=R) w2 (w2.setCell ⟨R,0,none⟩ (.slice (some ⟨g,0,none⟩) (l.length+1) cap)):=(aB.refl _ _).setCell _ _ fun _=>rfl;have hgrow:=Cr (B:=W.heap.size) (v:=v) (w:=w1) (x:=x) (m:=n) (hx.mono fun b hb hd=>⟨by have:=h.kp.size;omega,fun e=>by have:=h.own.lt e;omega⟩) hl hn hown k (fun y hy=>by
  obtain rfl:g=y:=Option.some.inj hy;rcases hat with e | e
  ·exact .inl e
  ·exact .inr (by omega))
 refine⟨hr0.one.1,hr0.one.2,(hm.sc.keep k (fun e=>by have:=hvR _ e;omega)).keep hk2 h1,?_,(hm.r1.keep k (fun e=>by have:=hvR _ e;omega)).keep hk2 (by omega),hgrow.keep hk2 (fun b _ hb e=>by omega) (fun y hy e=>by obtain rfl:g=y:=Option.some.inj hy;omega),fun y hy=>by obtain rfl:g=y:=Option.some.inj hy;exact hgW,?_,?_⟩
 ·exact hr0.set 0 _
 ·exact (hm.kp.trans k (fun b hb e=>by have:=hvR _ e;omega)).trans hk2 (fun _ _ e=>.inr e)
 ·rw [lA];have:=h.len;show l.length+1≤J;omega
theorem Pt.ext {x y:Pt} (h0:x.kind=y.kind) (h1:x.text=y.text) (h2:x.name=y.name) (h3:x.op=y.op) (h4:x.word=y.word) (h5:x.quoted=y.quoted):x=y:=by
 cases x;cases y;simp only [Pt.kind,Pt.text,Pt.name,Pt.op,Pt.word,Pt.quoted] at h0 h1 h2 h3 h4 h5;subst h0 h1 h2 h3 h4 h5;rfl
theorem lO.keep {w w':World} {b o:Nat} {p:Pt} {v:Value} (hk:K0 w w') (hb:b<w.heap.size) (h:lO w b o p v):lO w' b o p v:=fun j u hu=>by
 rw [World.cell?_of_block (hk.block b hb (fun x=>x))];exact h j u hu
theorem aV.at {w wr:World} {D:Nat→Prop} {n:Nat} {l:List Pt} {ad:OA} {k c i:Nat} (h:aV w D n l (.slice ad k c)) (hk:K0 w wr) (hi:i<l.length) :
 ∃(g o:Nat) (xa:OA) (xl xc:Nat),ad=some ⟨g,o,none⟩∧Six wr g (o+i*6) l[i] (.slice xa xl xc)∧aV wr D (n - 1) l[i].word (.slice xa xl xc)∧0<n∧g<wr.heap.size:=by
 cases n with
 | zero=>obtain⟨rfl,_⟩:=h;simp at hi
 | succ n=>
  obtain⟨a,c,e,_,_,H⟩:=h;obtain⟨b,off,wv,ea,hb,hd,hc,hw⟩:=H i hi;obtain⟨xa,xc,rfl,_,_⟩:=hw.shape;injection e with e1 e2 e3;exact⟨b,off,xa,_,xc,e1.trans ea,Fg (hc.keep hk hb),hw.keep hk (fun _ _ _ s=>s),Nat.succ_pos _,Nat.lt_of_lt_of_le hb hk.size⟩
def bY (w:World) (P:Prop) (e:Ending) (w':World):Prop:=∃r,e=.returned (.bool r)∧(r=true↔P)∧K0 w w'
theorem fG {α} {a b:List α} {k:Nat} (hk:k<a.length) (hk2:k<b.length) (h:a.take k=b.take k) (e:a[k]=b[k]):a.take (k+1)=b.take (k+1):=by
 rw [List.take_succ_eq_append_getElem hk,List.take_succ_eq_append_getElem hk2,h,e]
def O5 (w:World) (b o:Nat) (p:Tk) (v:Value):Prop:=
 w.cell? ⟨b,o,none⟩=some (.int .i64 (p.kind:Nat))∧w.cell? ⟨b,o+1,none⟩=some (e8 p.text)∧w.cell? ⟨b,o+2,none⟩=some v
theorem Kk {w:World} {b o:Nat} {p:Tk} {v:Value} (h:Gl w b o p v):O5 w b o p v:=
 ⟨h 0 _ rfl,h 1 _ rfl,h 2 _ rfl⟩
theorem g6.shape {w:World} {D:Nat→Prop} {n:Nat} {l:List Tk} {v:Value} (h:g6 w D n l v):∃a c,v=.slice a l.length c∧l.length≤c∧c≤maxLen:=by
 obtain⟨a,c,e,h1,h2,_⟩:=h;exact⟨a,c,e,h1,h2⟩
theorem g6.at {w wr:World} {D:Nat→Prop} {n:Nat} {l:List Tk} {ad:OA} {k c i:Nat} (h:g6 w D n l (.slice ad k c)) (hk:K0 w wr) (hi:i<l.length) :
 ∃(g o:Nat) (xa:OA) (xl xc:Nat),ad=some ⟨g,o,none⟩∧O5 wr g (o+i*3) l[i] (.slice xa xl xc)∧aV wr D n l[i].word (.slice xa xl xc)∧g<wr.heap.size:=by
 obtain⟨a,c,e,_,_,H⟩:=h;obtain⟨b,off,wv,ea,hb,hd,hc,hw⟩:=H i hi;obtain⟨xa,xc,rfl,_,_⟩:=hw.shape;injection e with e1 e2 e3;refine⟨b,off,xa,_,xc,e1.trans ea,Kk fun j u hu=>?_,hw.keep hk (fun _ _ _ s=>s),Nat.lt_of_lt_of_le hb hk.size⟩;rw [World.cell?_of_block (hk.block b hb (fun x=>x))];exact hc j u hu
def Md.need (md:Md) (r:List UInt8):Nat:=match md with
 | .one _=>max 1 (2*r.length)
 | _=>2*r.length+1
theorem jV {c:UInt8} {r:List UInt8} (h:aW c r=true):∃t,r=c::t:=by
 cases r with
 | nil=>cases h
 | cons x t=>exact⟨t,by rw [beq_iff_eq.1 h]⟩
theorem Hp:∀(n m:Nat) (md:Md) (d:Nat) (r:List UInt8),md.need r≤n→md.need r≤m→dJ n md d r=dJ m md d r:=by
 intro n;induction n with
 | zero=>intro m md d r hn;cases md<;>simp [Md.need] at hn<;>omega
 | succ n ih=>
  intro m md d r hn hm;cases m with
  | zero=>cases md<;>simp [Md.need] at hm<;>omega
  | succ m=>
   cases md with
   | one q=>
    cases r with
    | nil=>cases q<;>rfl
    | cons c t=>
     simp only [Md.need,lC] at hn hm;have e1:∀d,dJ n .dq d t=dJ m .dq d t:=fun d=>ih m .dq d t (by simp only [Md.need];omega) (by simp only [Md.need];omega);have e2:∀q d,dJ n (.dol q) d t=dJ m (.dol q) d t:=fun q d=>ih m (.dol q) d t (by simp only [Md.need];omega) (by simp only [Md.need];omega);cases q with
     | false=>rw [kP,kP,e1,e2]
     | true=>rw [mG,mG,e2]
   | dq=>
    rw [oS,oS];cases r with
    | nil=>rfl
    | cons c t=>
     simp only [Md.need,lC] at hn hm;dsimp only;rw [ih m (.one true) d (c::t) (by simp only [Md.need,lC];omega) (by simp only [Md.need,lC];omega)];split
     ·rfl
     ·cases h:dJ m (.one true) d (c::t) with
      | error e=>rfl
      | ok x=>
       obtain⟨l,r1⟩:=x;have hl:=dV _ _ _ _ _ _ h;simp only [Md.least,lC] at hl;dsimp only;rw [ih m .dq d r1 (by simp only [Md.need];omega) (by simp only [Md.need];omega)]
   | br q=>
    rw [o0,o0];cases r with
    | nil=>rfl
    | cons c t=>
     simp only [Md.need,lC] at hn hm;dsimp only;rw [ih m (.one q) d (c::t) (by simp only [Md.need,lC];omega) (by simp only [Md.need,lC];omega)];split
     ·rfl
     ·cases h:dJ m (.one q) d (c::t) with
      | error e=>rfl
      | ok x=>
       obtain⟨l,r1⟩:=x;have hl:=dV _ _ _ _ _ _ h;simp only [Md.least,lC] at hl;dsimp only;rw [ih m (.br q) d r1 (by simp only [Md.need];omega) (by simp only [Md.need];omega)]
   | dol q=>
    rw [mH,mH];by_cases h:aW 123 r=true
    ·obtain⟨t,rfl⟩:=jV h;simp only [Md.need,lC] at hn hm;rw [if_pos h,if_pos h];exact ih m (.brace q) d t (by simp only [Md.need];omega) (by simp only [Md.need];omega)
    ·rw [if_neg h,if_neg h]
   | brace q=>
    rw [jA,jA];obtain⟨r1,hr1⟩:∃r1,r1=if bK r then r.tail else r:=⟨_,rfl⟩;have hl1:r1.length≤r.length:=by rw [hr1];split<;>simp
    rw [←hr1];by_cases h0:bT true r1=0
    ·rw [if_pos h0,if_pos h0]
    ·rw [if_neg h0,if_neg h0];have hk:=nV true r1;have hl2:((r1.drop (bT true r1)).drop (opF (r1.drop (bT true r1))).length).length+1≤r.length:=by
      rw [List.length_drop,List.length_drop];omega
     rw [ih m (.br q) (d+1) _ (by simp only [Md.need] at hn ⊢;omega) (by simp only [Md.need] at hm ⊢;omega)]
def cS (md:Md) (d:Nat) (r:List UInt8):Res:=dJ (2*r.length+2) md d r
theorem kF {n:Nat} {md:Md} {d:Nat} {r:List UInt8} (h:md.need r≤n):dJ n md d r=cS md d r:=
 Hp _ _ _ _ _ h (by cases md<;>simp only [Md.need]<;>omega)
theorem Fn (wh:Bool):∀(n m:Nat) (r:List UInt8),r.length<n→r.length<m→i5 wh n r=i5 wh m r:=by
 intro n;induction n with
 | zero=>intro m r hn;omega
 | succ n ih=>
  intro m r hn hm;cases m with
  | zero=>omega
  | succ m=>
   rw [jJ,jJ];cases r with
   | nil=>rfl
   | cons c t=>
    dsimp only;split
    ·rfl
    ·cases h:dJ (2*(c::t).length+2) (.one false) 0 (c::t) with
     | error e=>rfl
     | ok x=>
      obtain⟨l,r1⟩:=x;have hl:=dV _ _ _ _ _ _ h;simp only [Md.least,lC] at hl hn hm;dsimp only;rw [ih m r1 (by omega) (by omega)]
def oB (wh:Bool) (r:List UInt8):Res:=i5 wh (r.length+1) r
theorem kN (wh:Bool) (c:UInt8) (t:List UInt8):oB wh (c::t)=if !wh && bJ c then .ok ([],c::t) else match cS (.one false) 0 (c::t) with
 | .error e=>.error e
 | .ok (l,r1)=>(oB wh r1).ahead l:=by
 unfold oB;rw [jJ];dsimp only;split
 ·rfl
 ·show (match cS (.one false) 0 (c::t) with | .error e=>_ | .ok (l,r1)=>_)=_;cases h:cS (.one false) 0 (c::t) with
  | error e=>rfl
  | ok x=>
   obtain⟨l,r1⟩:=x;have hl:=dV _ _ _ _ _ _ h;simp only [Md.least,lC] at hl;dsimp only;rw [Fn wh (c::t).length (r1.length+1) r1 (by simp only [lC];omega) (by omega)]
theorem I8:∀(n m:Nat) (r:List UInt8),r.length<n→r.length<m→qA n r=qA m r:=by
 intro n;induction n with
 | zero=>intro m r hn;omega
 | succ n ih=>
  intro m r hn hm;cases m with
  | zero=>omega
  | succ m=>
   rw [mC,mC];have hs:=qG false r;cases h:dM false r with
   | nil=>rfl
   | cons c t=>
    dsimp only;rw [h] at hs;simp only [lC] at hs;cases h2:gF (c::t) with
    | error e=>rfl
    | ok x=>
     obtain⟨y,r1⟩:=x;have hl:=mY (o8 h) h2;dsimp only;rw [ih m r1 (by omega) (by omega)]
def gJ (r:List UInt8):Except Nat (List Tk):=qA (r.length+1) r
theorem iF (r:List UInt8):gJ r=match dM false r with
 | []=>.ok []
 | c::t=>match gF (c::t) with
  | .error e=>.error e
  | .ok (x,r1)=>tD x (gJ r1):=by
 unfold gJ;rw [mC];have hs:=qG false r;cases h:dM false r with
 | nil=>rfl
 | cons c t=>
  dsimp only;rw [h] at hs;simp only [lC] at hs;cases h2:gF (c::t) with
  | error e=>rfl
  | ok x=>
   obtain⟨y,r1⟩:=x;have hl:=mY (o8 h) h2;dsimp only;rw [I8 r.length (r1.length+1) r1 (by omega) (by omega)]
theorem nT {r:List UInt8} (h:eK r=[]) (h38:aW 38 r=false):gF r=match oB false r with
 | .error e=>.error e
 | .ok (l,r1)=>.ok (⟨1,[],cT l⟩,r1):=by
 unfold gF oB;rw [if_pos (by rw [h];rfl),if_neg (by rw [h38];simp)];try rfl
theorem sY {r:List UInt8} (h:eK r≠[]):gF r=.ok (⟨2,eK r,[]⟩,r.drop (eK r).length):=by
 unfold gF;rw [if_neg (by simpa using h)]
theorem yR (s:List UInt8) (h:pH s=0):kC s=gJ s:=by unfold kC gJ;rw [if_pos h]
def sW (c:UInt8):Bool:=!(c==39 || c==34 || c==92 || c==96 || c==36)
theorem D0 {c:UInt8} (h:sW c=true) (d:Nat) (t:List UInt8):cS (.one false) d (c::t)=.ok ([eG [c]],t):=by
 unfold cS;rw [kP];simp only [sW,Bool.not_eq_true',Bool.or_eq_false_iff] at h;obtain⟨⟨⟨⟨h1,h2⟩,h3⟩,h4⟩,h5⟩:=h;rw [h1,h2,h3,h4,h5];rfl
theorem Jc (l m:List Pt) (R:Res):(R.ahead m).ahead l=R.ahead (l++m):=by
 cases R with
 | error e=>rfl
 | ok x=>obtain⟨a,b⟩:=x;show Except.ok _=Except.ok _;rw [aA]
theorem eJ (d:Nat) (c:UInt8) (t:List UInt8):cS (.one false) d (c::t) =
 if c==39 then (match fJ 39 t with
  | none=>.error 2
  | some k=>.ok ([cG (t.take k)],t.drop (k+1)))
 else if c==34 then (cS .dq d t).ahead [cG []]
 else if c==92 then (match t with
  | []=>.ok ([cG [92]],[])
  | x::t'=>if x==10 then .ok ([],t') else .ok ([cG [x]],t'))
 else if c==96 then .error 2
 else if c==36 then cS (.dol false) d t
 else .ok ([eG [c]],t):=by
 unfold cS;rw [kP,kF (md:=.dq) (r:=t) (by simp only [Md.need,lC];omega),kF (md:=.dol false) (r:=t) (by simp only [Md.need,lC];omega)];rfl
theorem nO (d:Nat) (c:UInt8) (t:List UInt8):cS (.one true) d (c::t) =
 if c==34 || c==96 then .error 2
 else if c==92 && aW 10 t then .ok ([],t.tail)
 else if c==92 && nM (t.headD 0) then .ok ([cG [t.headD 0]],t.tail)
 else if c==36 then cS (.dol true) d t
 else .ok ([cG [c]],t):=by
 unfold cS;rw [mG,kF (md:=.dol true) (r:=t) (by simp only [Md.need,lC];omega)];rfl
theorem rE (d:Nat) (r:List UInt8):cS .dq d r=match r with
 | []=>.error 2
 | c::t=>if c==34 then .ok ([],t) else match cS (.one true) d r with
  | .error e=>.error e
  | .ok (l,r1)=>(cS .dq d r1).ahead l:=by
 cases r with
 | nil=>rfl
 | cons c t=>
  show dJ (2*(c::t).length+1+1) .dq d (c::t)=_;rw [oS,kF (md:=.one true) (r:=c::t) (by simp only [Md.need,lC];omega)];dsimp only;cases h:cS (.one true) d (c::t) with
  | error e=>rfl
  | ok x=>
   obtain⟨l,r1⟩:=x;have hl:=dV _ _ _ _ _ _ h;simp only [Md.least,lC] at hl;dsimp only;rw [kF (md:=.dq) (r:=r1) (by simp only [Md.need,lC];omega)]
theorem uF (d:Nat) (q:Bool) (r:List UInt8):cS (.br q) d r=match r with
 | []=>.error 2
 | c::t=>if c==125 then .ok ([],t) else match cS (.one q) d r with
  | .error e=>.error e
  | .ok (l,r1)=>(cS (.br q) d r1).ahead l:=by
 cases r with
 | nil=>rfl
 | cons c t=>
  show dJ (2*(c::t).length+1+1) (.br q) d (c::t)=_;rw [o0,kF (md:=.one q) (r:=c::t) (by simp only [Md.need,lC];omega)];dsimp only;cases h:cS (.one q) d (c::t) with
  | error e=>rfl
  | ok x=>
   obtain⟨l,r1⟩:=x;have hl:=dV _ _ _ _ _ _ h;simp only [Md.least,lC] at hl;dsimp only;rw [kF (md:=.br q) (r:=r1) (by simp only [Md.need,lC];omega)]
theorem nQ (d:Nat) (q:Bool) (r:List UInt8):cS (.dol q) d r =
 if aW 123 r then cS (.brace q) d r.tail
 else if aI [40,40] r then (match cV 0 (r.drop 2) with
  | none=>.error 2
  | some k=>.ok ([.mk 4 ((r.drop 2).take k) [] [] [] q],(r.drop 2).drop (k+2)))
 else if aW 40 r then (match bP .n 0 r.tail with
  | none=>.error 2
  | some k=>.ok ([.mk 5 (r.tail.take k) [] [] [] q],r.tail.drop (k+1)))
 else if bT false r=0 then .ok ([if q then cG [36] else eG [36]],r)
 else .ok ([.mk 3 [] (r.take (bT false r)) [] [] q],r.drop (bT false r)):=by
 show dJ (2*r.length+1+1) (.dol q) d r=_;rw [mH];by_cases h:aW 123 r=true
 ·rw [if_pos h,if_pos h];obtain⟨t,rfl⟩:=jV h;exact kF (by simp only [Md.need,lC,List.tail_cons];omega)
 ·rw [if_neg h,if_neg h];rfl
theorem nJ (d:Nat) (q:Bool) (r:List UInt8):cS (.brace q) d r =
 if bT true (if bK r then r.tail else r)=0 then .error 2
 else if aW 125 ((if bK r then r.tail else r).drop (bT true (if bK r then r.tail else r))) then .ok ([.mk 3 [] ((if bK r then r.tail else r).take (bT true (if bK r then r.tail else r))) (if bK r then [76] else []) [] q],((if bK r then r.tail else r).drop (bT true (if bK r then r.tail else r))).tail)
 else if (opF ((if bK r then r.tail else r).drop (bT true (if bK r then r.tail else r)))).isEmpty || bK r then .error 2
 else if d=40 then .error 3
 else match cS (.br q) (d+1) (((if bK r then r.tail else r).drop (bT true (if bK r then r.tail else r))).drop (opF ((if bK r then r.tail else r).drop (bT true (if bK r then r.tail else r)))).length) with
  | .error e=>.error e
  | .ok (l,r3)=>.ok ([.mk 3 [] ((if bK r then r.tail else r).take (bT true (if bK r then r.tail else r))) (opF ((if bK r then r.tail else r).drop (bT true (if bK r then r.tail else r)))) (cT l) q],r3):=by
 show dJ (2*r.length+1+1) (.brace q) d r=_;rw [jA];by_cases h0:bT true (if bK r then r.tail else r)=0
 ·rw [if_pos h0,if_pos h0]
 ·rw [if_neg h0,if_neg h0];have hl1:(if bK r then r.tail else r).length≤r.length:=by split<;>simp
  rw [kF (md:=.br q) (by
   simp only [Md.need];rw [List.length_drop,List.length_drop];have hk:=nV true (if bK r then r.tail else r);omega)]
  rfl
theorem E2 {P:UInt8→Bool} (h:∀n:Fin 256,P (UInt8.ofNat n.val)=true) (c:UInt8):P c=true:=by
 have:=h ⟨c.toNat,c.toNat_lt⟩;simpa using this
theorem yN {c:UInt8} (h1:(c==32 || c==9)=false) (h2:(c==35)=false) (h3:(c==92)=false) (t:List UInt8):dM false (c::t)=c::t:=by
 rw [fN,h1,h2,h3];simp
theorem D7 {w:World} {D:Nat→Prop} {v:Value} {raw:List Pt} (hown:w.ownsRow 0 67 6 v raw.length (cL raw (raw.map fun _=>.slice none 0 0))) (hw:∀i (h:i<raw.length),raw[i].word=[]) (hD:∀g,v.ownBlock=some g→D g):∃n,aV w D n raw v:=
 gE.reads (D:=D) ⟨raw.map fun _=>.slice none 0 0,0,by simp,hown,fun i h h'=>by
  rw [hw i h];simp only [List.getElem_map];exact aV.nil _ _ 0⟩ hD
theorem p9 {c:UInt8} (h:(c==32 || c==9)=true) (r:List UInt8):gJ (c::r)=gJ r:=by
 rw [iF,iF r,fN,if_pos h]
theorem vH:∀{m:List Tk} {us:List Value} {x:Value},x∈fT m us→∃p∈m,∃v∈us,x∈iT p v
 | [],us,x,h=>by cases us<;>cases h
 | p::l,[],x,h=>by cases h
 | p::l,v::vs,x,h=>by
  simp only [fT,List.mem_append] at h;rcases h with h | h
  ·exact⟨p,List.mem_cons_self ..,v,List.mem_cons_self ..,h⟩
  ·obtain⟨q,hq,u,hu,hx⟩:=vH h;exact⟨q,List.mem_cons_of_mem _ hq,u,List.mem_cons_of_mem _ hu,hx⟩
theorem eI.news {w:World} {E:Nat→Prop} {u:Value} {m:List Tk} (h:eI w E u m) (hm:0<m.length) :
 ∃ad c us k,u=.slice (some ad) m.length c∧us.length=m.length∧(fT m us).length=m.length*3∧(∀j x,(fT m us)[j]? = some x→w.cell? (ad.add j)=some x)∧(∀x∈fT m us,x.oneCell'=true)∧∀i (h:i<m.length) (h':i<us.length),aV w E k m[i].word us[i]:=by
 obtain⟨vs,n,hl,ho,hn⟩:=h;obtain⟨g,cap,rfl,_,_⟩:=ho.form hm;refine⟨⟨g,0,none⟩,cap,vs,n,rfl,hl,ho.1,fun j x hx=>?_,fun x hx=>?_,fun i h h'=>(hn i h h').mono fun b _ hb=>hb.1⟩
 ·have hj:j<m.length*3:=by rw [←ho.1];exact (List.getElem?_eq_some_iff.1 hx).1
  have:=ho.cellAt j hj;rw [hx] at this;rw [←this];exact congrArg w.cell? (by unfold Addr.add;split<;>simp [*])
 ·obtain⟨p,hp,v,hv,hx⟩:=vH hx;obtain⟨i,hi,rfl⟩:=List.mem_iff_getElem.1 hv;obtain⟨a,c,e,_⟩:=(hn i (by omega) hi).shape;rw [e] at hx;simp only [iT,List.mem_cons,List.not_mem_nil,or_false] at hx;rcases hx with rfl | rfl | rfl
  ·rfl
  ·rfl
  ·rfl
theorem Ko {w w':World} {v v':Value} {E:Nat→Prop} {raw more:List Tk} {vs us:List Value} {n m:Nat} (hl:vs.length=raw.length) (hl2:us.length=more.length)
 (hnest:∀i (h:i<raw.length) (h':i<vs.length),aV w (fun b=>v.ownBlock≠some b) n raw[i].word vs[i])
 (hmore:∀i (h:i<more.length) (h':i<us.length),aV w E m more[i].word us[i]) (hE:∀b,E b→v.ownBlock≠some b)
 (hown:w'.ownsRow 0 109 3 v' (raw.length+more.length) (fT raw vs++fT more us)) (hk:aB (fun b=>v.ownBlock=some b) w w')
 (hg:∀y,v'.ownBlock=some y→v.ownBlock=some y∨w.heap.size≤y) :
 eI w' (fun _=>True) v' (raw++more):=by
 have key:∀(k:Nat) (l:List Pt) (u:Value),aV w (fun b=>v.ownBlock≠some b) k l u→aV w' (fun b=>True∧v'.ownBlock≠some b) k l u:=fun k l u h=>by
  have h2:aV w (fun b=>v.ownBlock≠some b∧b<w.heap.size) k l u:=h.mono fun b hb hd=>⟨hd,hb⟩;refine (h2.keep hk (fun b _ hd s=>hd.1 s)).mono fun b _ hd=>⟨trivial,fun e=>?_⟩;rcases hg b e with h3 | h3
  ·exact hd.1 h3
  ·have:=hd.2;omega
 refine⟨vs++us,max n m,by simp [hl,hl2],?_,fun i h h'=>?_⟩
 ·rw [lY hl,lA];exact hown
 ·by_cases hi:i<raw.length
  ·rw [List.getElem_append_left hi,List.getElem_append_left (by omega)];exact (key _ _ _ (hnest i hi (by omega))).le (by omega)
  ·rw [lA] at h;rw [List.getElem_append_right (by omega),List.getElem_append_right (by omega)];simp only [hl];exact (key _ _ _ ((hmore (i - raw.length) (by omega) (by omega)).mono fun b _ hb=>hE b hb)).le (by omega)
theorem eI.join {w:World} {D E:Nat→Prop} {v:Value} {l m:List Tk} {ua:OA} {un uc:Nat} (h:eI w D v l) (hu:eI w E (.slice ua un uc) m) (hm:0<m.length) (hE:∀b,E b→v.ownBlock≠some b) :
 un=m.length∧∃ad xs news,ua=some ad∧w.ownsRow 0 109 3 v l.length xs∧news.length=m.length*3∧(∀j x,news[j]? = some x→w.cell? (ad.add j)=some x)∧(∀x∈news,x.oneCell'=true)∧
  ∀g cap (w':World),w'.ownsRow 0 109 3 (.slice (some ⟨g,0,none⟩) (l.length+m.length) cap) (l.length+m.length) (xs++news)→w.grownBy w' v.ownBlock→(v.ownBlock=some g∨g=w.heap.size)→
   (∃n,g6 w' (fun _=>True) n (l++m) (.slice (some ⟨g,0,none⟩) (l.length+m.length) cap))∧aB (fun b=>v.ownBlock=some b) w w':=by
 obtain⟨ad,c,us,k,e,h1,h2,h3,h4,h5⟩:=hu.news hm;injection e with e1 e2 e3;refine⟨e2,ad,?_⟩;obtain⟨vs,n,hl,ho,hn⟩:=h;refine⟨fT l vs,fT m us,e1,ho,h2,h3,h4,fun g cap w' hown hg hat=>?_⟩;have hk:aB (fun b=>v.ownBlock=some b) w w':=(aB.refl _ w).grown hg fun k hk _=>hk;refine⟨?_,hk⟩;have ho:=Ko (v:=v) (v':=.slice (some ⟨g,0,none⟩) (l.length+m.length) cap) hl h1 (fun i h h'=>(hn i h h').mono fun b _ hb=>hb.2) h5 hE hown hk (fun y hy=>by
  obtain rfl:g=y:=Option.some.inj hy;rcases hat with e | e
  ·exact .inl e
  ·exact .inr (by omega))
 exact ho.reads (fun _ _=>trivial)
def qN (r:List UInt8):Prop:=∀c∈r,(c==35)=false∧(c==92)=false
theorem qN.tail {c:UInt8} {t:List UInt8} (h:qN (c::t)):qN t:=fun x hx=>h x (List.mem_cons_of_mem _ hx)
theorem qN.drop {r:List UInt8} (h:qN r) (k:Nat):qN (r.drop k):=fun x hx=>h x (List.mem_of_mem_drop hx)
theorem qN.tl {r:List UInt8} (h:qN r):qN r.tail:=fun x hx=>h x (List.mem_of_mem_tail hx)
theorem pB:∀(r e:List UInt8) (o k:Nat),cV o r=some k→cV o (r++e)=some k∧k+2≤r.length
 | [],_,_,_,h=>by cases h
 | c::t,e,o,k,h=>by
  unfold cV at h;rw [List.cons_append];unfold cV;by_cases h1:(c==40)=true
  ·rw [if_pos h1] at h ⊢;cases h2:cV (o+1) t with
   | none=>rw [h2] at h;cases h
   | some j=>
    rw [h2] at h;obtain rfl:=Option.some.inj h;obtain⟨i1,i2⟩:=pB t e _ j h2;rw [i1];exact⟨rfl,by simp only [lC];omega⟩
  rw [if_neg h1] at h ⊢;by_cases h3:(c==41)=true
  ·rw [if_pos h3] at h ⊢;by_cases h0:o=0
   ·rw [if_pos h0] at h ⊢;cases t with
    | nil=>cases h
    | cons x t'=>
     have hh:aW 41 (x::t'++e)=aW 41 (x::t'):=rfl;rw [hh];split at h
     ·next hx=>obtain rfl:=Option.some.inj h;rw [if_pos hx];exact⟨rfl,by simp only [lC];omega⟩
     ·cases h
   ·rw [if_neg h0] at h ⊢;cases h2:cV (o - 1) t with
    | none=>rw [h2] at h;cases h
    | some j=>
     rw [h2] at h;obtain rfl:=Option.some.inj h;obtain⟨i1,i2⟩:=pB t e _ j h2;rw [i1];exact⟨rfl,by simp only [lC];omega⟩
  rw [if_neg h3] at h ⊢;cases h2:cV o t with
  | none=>rw [h2] at h;cases h
  | some j=>
   rw [h2] at h;obtain rfl:=Option.some.inj h;obtain⟨i1,i2⟩:=pB t e _ j h2;rw [i1];exact⟨rfl,by simp only [lC];omega⟩
theorem map_some {o:Option Nat} {k:Nat} (h:o.map (· + 1)=some k):∃j,o=some j∧k=j+1:=by
 cases o with
 | none=>cases h
 | some j=>exact⟨j,rfl,(Option.some.inj h).symm⟩
theorem Bm:∀(r e:List UInt8) (m:SM) (o k:Nat),bP m o r=some k→bP m o (r++e)=some k∧k<r.length
 | [],_,m,_,_,h=>by cases m<;>cases h
 | c::t,e,m,o,k,h=>by
  have key:∀(m':SM) (o':Nat),(bP m' o' t).map (· + 1)=some k→(bP m' o' (t++e)).map (· + 1)=some k∧k<(c::t).length:=fun m' o' h'=>by
   obtain⟨j,hj,rfl⟩:=map_some h';obtain⟨i1,i2⟩:=Bm t e m' o' j hj;rw [i1];exact⟨rfl,by simp only [lC];omega⟩
  rw [List.cons_append];cases m with
  | n=>
   unfold bP at h ⊢;by_cases h1:(c==39)=true
   ·rw [if_pos h1] at h ⊢;exact key _ _ h
   rw [if_neg h1] at h ⊢;by_cases h2:(c==34)=true
   ·rw [if_pos h2] at h ⊢;exact key _ _ h
   rw [if_neg h2] at h ⊢;by_cases h3:(c==92)=true
   ·rw [if_pos h3] at h ⊢;exact key _ _ h
   rw [if_neg h3] at h ⊢;by_cases h4:(c==40)=true
   ·rw [if_pos h4] at h ⊢;exact key _ _ h
   rw [if_neg h4] at h ⊢;by_cases h5:(c==41)=true
   ·rw [if_pos h5] at h ⊢;by_cases h0:o=0
    ·rw [if_pos h0] at h ⊢;obtain rfl:=Option.some.inj h;exact⟨rfl,Nat.succ_pos _⟩
    ·rw [if_neg h0] at h ⊢;exact key _ _ h
   ·rw [if_neg h5] at h ⊢;exact key _ _ h
  | q1=>unfold bP at h ⊢;exact key _ _ h
  | q2=>unfold bP at h ⊢;exact key _ _ h
  | bn=>unfold bP at h ⊢;exact key _ _ h
  | bq=>unfold bP at h ⊢;exact key _ _ h
theorem xF {α} {p q:α→Bool}:∀(l:List α),(∀a∈l,p a=q a)→l.find? p=l.find? q
 | [],_=>rfl
 | a::l,h=>by
  rw [List.find?_cons,List.find?_cons,h a (List.mem_cons_self ..),xF l fun y hy=>h y (List.mem_cons_of_mem _ hy)]
end Go.Proofs.YtiihpbccabeoeaaGreatDoor
