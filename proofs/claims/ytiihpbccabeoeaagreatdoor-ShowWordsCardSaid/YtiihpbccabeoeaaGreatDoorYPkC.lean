/- The walk: a part. -/
import Derived.Test.YtiihpbccabeoeaaGreatDoorYPkB
import Derived.Deep.CutBlock
import Derived.Defers
import Derived.Recover
import Derived.Laws.Pointers
import Derived.Lib.SliceRun
import Derived.Deep.RegionHeld3
namespace Go.Proofs.YtiihpbccabeoeaaGreatDoor
open Go.RowKit
set_option linter.unusedVariables false
set_option maxRecDepth 100000
set_option maxHeartbeats 16000000
def RecAt (w:World) (b:Nat) (l:List Value):Prop:=∃T,w.heap[b]? = some (.cells l.toArray T (0,0))
theorem RecAt.lt {w:World} {b:Nat} {l:List Value} (h:RecAt w b l):b<w.heap.size:=by
 obtain⟨T,h⟩:=h;exact (Array.getElem?_eq_some_iff.1 h).1
theorem RecAt.six {w:World} {b:Nat} {a0 a1 a2 a3 a4 a5:Value} (h:RecAt w b [a0,a1,a2,a3,a4,a5]) :
 (w.cell? ⟨b,0,none⟩=some a0∧w.cell? ⟨b,1,none⟩=some a1∧w.cell? ⟨b,2,none⟩=some a2∧w.cell? ⟨b,3,none⟩=some a3∧w.cell? ⟨b,4,none⟩=some a4∧w.cell? ⟨b,5,none⟩=some a5)∧
 (w.frozen? ⟨b,0,none⟩=false∧w.frozen? ⟨b,1,none⟩=false∧w.frozen? ⟨b,2,none⟩=false∧w.frozen? ⟨b,3,none⟩=false∧w.frozen? ⟨b,4,none⟩=false):=by
 obtain⟨T,h⟩:=h;refine⟨⟨?_,?_,?_,?_,?_,?_⟩,?_,?_,?_,?_,?_⟩<;>simp [World.cell?,World.frozen?,h]
theorem RecAt.set {w:World} {b:Nat} {l:List Value} (h:RecAt w b l) (k:Nat) (v:Value):RecAt (w.setCell ⟨b,k,none⟩ v) b (l.set k v):=by
 obtain⟨T,h⟩:=h;exact⟨T,by simp [World.setCell,Array.getElem?_modify,h]⟩
theorem RecAt.keep {w w':World} {b:Nat} {l:List Value} {S:Nat→Prop} (h:RecAt w b l) (hk:Keeps S w w') (hb:¬S b):RecAt w' b l:=by
 have hl:=h.lt;obtain⟨T,h⟩:=h;exact⟨T,(hk.block b hl hb).trans h⟩
theorem part_set {w:World} {cs pb:Nat} {s:ByteArray} {i d:Int} {l:List Value} (hs:ScanAt w cs s i d) (hr:RecAt w pb l) (hne:cs≠pb) (k:Nat) (v:Value) :
 ∃w1,w1=w.setCell ⟨pb,k,none⟩ v∧ScanAt w1 cs s i d∧RecAt w1 pb (l.set k v)∧Keeps (fun b=>b=pb) w w1:=by
 have hk:Keeps (fun b=>b=pb) w (w.setCell ⟨pb,k,none⟩ v):=(Keeps.refl _ _).setCell _ _ fun _=>rfl;exact⟨_,rfl,hs.keep hk hne,hr.set k v,hk⟩
theorem ba_not {s:ByteArray} {l:List UInt8} (h:s.data.toList≠l):(s.toList==l)=false:=by
 rw [Lib.toList_data];exact beq_eq_false_iff_ne.2 h
theorem strV_of {s:ByteArray} {l:List UInt8} (h:s.data.toList=l):strV l=.string s:=by
 unfold strV;rw [←h]
theorem long_rest (s:ByteArray) (i:Nat):(if longB (rest s i) then (rest s i).tail else rest s i)=rest s (i+(longB (rest s i)).toNat):=by
 cases longB (rest s i)
 ·rfl
 ·show (rest s i).tail=_;exact rest_drop1 s i
theorem long_le {s:ByteArray} {i:Nat} (hi:i≤s.size):i+(longB (rest s i)).toNat≤s.size:=by
 rcases Nat.lt_or_ge i s.size with h | h
 ·have:=Bool.toNat_le (longB (rest s i));omega
 ·have:longB (rest s i)=false:=by rw [rest_nil h];rfl
  rw [this];exact hi
theorem rest_tail (s:ByteArray) (i:Nat):(rest s i).tail=rest s (i+1):=rest_drop1 s i
theorem startsF_le:∀{o l:List UInt8},startsF o l=true→o.length≤l.length
 | [],_,_=>Nat.zero_le _
 | a::p,[],h=>by cases h
 | a::p,b::r,h=>by
  have h2:startsF p r=true:=by
   unfold startsF at h;simp only [Bool.and_eq_true] at h;exact h.2
  have:=startsF_le h2;simp only [List.length_cons];omega
theorem findF_le (L:List (List UInt8)) (l:List UInt8):(findF L l).length≤l.length:=by
 unfold findF;cases h:L.find? fun o=>startsF o l with
 | none=>exact Nat.zero_le _
 | some o=>
  have h2:(fun o=>startsF o l) o=true:=List.find?_some (p:=fun o=>startsF o l) h;exact startsF_le h2
theorem opF_le (l:List UInt8):(opF l).length≤l.length:=findF_le _ l
theorem skipF_cons (c:UInt8) (t:List UInt8):skipF false (c::t)=if c==32 || c==9 then skipF false t
 else if c==35 then skipF true t
 else if c==92 then (match t with
  | []=>c::t
  | x::t'=>if x==10 then skipF false t' else c::t)
 else c::t:=by rw [skipF.eq_def];rfl
def tokOne (r:List UInt8):Except Nat (Tk×List UInt8):=
 if (operF r).isEmpty then
  if headIs 38 r then .error 2 else match wordD false (r.length+1) r with
  | .error e=>.error e
  | .ok (l,r1)=>.ok (⟨1,[],tidyF l⟩,r1)
 else .ok (⟨2,operF r,[]⟩,r.drop (operF r).length)
theorem tokD_eq (n:Nat) (r:List UInt8):tokD (n+1) r=match skipF false r with
 | []=>.ok []
 | c::t=>
  if (operF (c::t)).isEmpty then
   if c==38 then .error 2 else match wordD false ((c::t).length+1) (c::t) with
   | .error e=>.error e
   | .ok (l,r1)=>consT ⟨1,[],tidyF l⟩ (tokD n r1)
  else consT ⟨2,operF (c::t),[]⟩ (tokD n ((c::t).drop (operF (c::t)).length)):=rfl
theorem tokD_succ (n:Nat) (r:List UInt8):tokD (n+1) r=match skipF false r with
 | []=>.ok []
 | c::t=>match tokOne (c::t) with
  | .error e=>.error e
  | .ok (x,r1)=>consT x (tokD n r1):=by
 rw [tokD_eq];cases skipF false r with
 | nil=>rfl
 | cons c t=>
  dsimp only;unfold tokOne;by_cases h:(operF (c::t)).isEmpty=true
  ·rw [if_pos h,if_pos h];by_cases h2:(c==38)=true
   ·rw [if_pos h2,if_pos (show headIs 38 (c::t)=true from h2)]
   ·rw [if_neg h2,if_neg (show ¬headIs 38 (c::t)=true from h2)];cases wordD false ((c::t).length+1) (c::t) with
    | error e=>rfl
    | ok lr=>obtain⟨l,r1⟩:=lr;rfl
  ·rw [if_neg h,if_neg h]
theorem operF_le (l:List UInt8):(operF l).length≤l.length:=findF_le _ l
theorem RecAt.three {w:World} {b:Nat} {a0 a1 a2:Value} (h:RecAt w b [a0,a1,a2]) :
 (w.cell? ⟨b,0,none⟩=some a0∧w.cell? ⟨b,1,none⟩=some a1∧w.cell? ⟨b,2,none⟩=some a2)∧
 (w.frozen? ⟨b,0,none⟩=false∧w.frozen? ⟨b,1,none⟩=false∧w.frozen? ⟨b,2,none⟩=false):=by
 obtain⟨T,h⟩:=h;refine⟨⟨?_,?_,?_⟩,?_,?_,?_⟩<;>simp [World.cell?,World.frozen?,h]
theorem wordD_succ (wh:Bool) (n:Nat) (r:List UInt8):wordD wh (n+1) r=match r with
 | []=>.ok ([],[])
 | c::_=>if !wh && breaksB c then .ok ([],r) else match lexD (2*r.length+2) (.one false) 0 r with
  | .error e=>.error e
  | .ok (l,r1)=>(wordD wh n r1).ahead l:=by cases r<;>rfl
theorem cellsL_inv {l:List Pt} {vs:List Value} (hl:vs.length=l.length) {j:Nat} {u:Value} (h:(cellsL l vs)[j]? = some u):∃(i r:Nat) (hi:i<l.length),j=i*6+r∧(cellsP l[i] (vs[i]'(by omega)))[r]? = some u:=by
 have hj:j<l.length*6:=by
  have:=(List.getElem?_eq_some_iff.1 h).1;rw [cellsL_len hl] at this;exact this
 have hi:j / 6<l.length:=by omega
 have hr:j%6<(cellsP l[j / 6] (vs[j / 6]'(by omega))).length:=by rw [cellsP_len];exact Nat.mod_lt _ (by decide)
 obtain⟨u',hu'⟩:∃u',(cellsP l[j / 6] (vs[j / 6]'(by omega)))[j%6]? = some u':=⟨_,List.getElem?_eq_getElem hr⟩;have h2:=cellsL_at hl hi (j%6) u' hu';rw [show j / 6*6+j%6=j by omega,h] at h2;refine⟨j / 6,j%6,hi,by omega,?_⟩;rw [hu',Option.some.inj h2]
def Cells2 (w wr:World) (R:Nat):Prop:=∃T T',wr.heap[R]? = some (.cells #[.slice none 0 0] T (0,0))∧wr.heap[R+1]? = some (.cells #[.int .i64 0] T' (0,0))
theorem Cells2.keep {w wr wr':World} {R:Nat} {S:Nat→Prop} (h:Cells2 w wr R) (hk:Keeps S wr wr') (h0:¬S R) (h1:¬S (R+1)):Cells2 w wr' R:=by
 obtain⟨T,T',a,b⟩:=h;exact⟨T,T',(hk.block R (Array.getElem?_eq_some_iff.1 a).1 h0).trans a,(hk.block (R+1) (Array.getElem?_eq_some_iff.1 b).1 h1).trans b⟩
theorem Cells2.cells {w wr:World} {R:Nat} (h:Cells2 w wr R):wr.cell? ⟨R,0,none⟩=some (.slice none 0 0)∧wr.cell? ⟨R+1,0,none⟩=some (.int .i64 0)∧wr.frozen? ⟨R,0,none⟩=false∧wr.frozen? ⟨R+1,0,none⟩=false∧R+1<wr.heap.size:=by
 obtain⟨T,T',a,b⟩:=h;refine⟨?_,?_,?_,?_,(Array.getElem?_eq_some_iff.1 b).1⟩<;>simp [World.cell?,World.frozen?,a,b]
theorem RecAt.one {w:World} {b:Nat} {a0:Value} (h:RecAt w b [a0]):w.cell? ⟨b,0,none⟩=some a0∧w.frozen? ⟨b,0,none⟩=false:=by
 obtain⟨T,h⟩:=h;refine⟨?_,?_⟩<;>simp [World.cell?,World.frozen?,h]
theorem rest0 (s:ByteArray):rest s 0=s.data.toList:=List.drop_zero
def cellsK (t:Tk) (v:Value):List Value:=[.int .i64 t.kind,strV t.text,v]
theorem cellsK_len (t:Tk) (v:Value):(cellsK t v).length=3:=rfl
def TkCells (w:World) (b o:Nat) (t:Tk) (v:Value):Prop:=∀j u,(cellsK t v)[j]? = some u→w.cell? ⟨b,o+j,none⟩=some u
def TksAt (w:World) (D:Nat→Prop) (n:Nat) (l:List Tk) (v:Value):Prop:=
 ∃a c,v=.slice a l.length c∧l.length≤c∧c≤maxLen∧
  ∀i (h:i<l.length),∃b off wv,a=some ⟨b,off,none⟩∧b<w.heap.size∧D b∧TkCells w b (off+i*3) l[i] wv∧PtsAt w D n l[i].word wv
theorem TksAt.keep {w w':World} {D S:Nat→Prop} (hk:Keeps S w w') (hD:∀b,b<w.heap.size→D b→¬S b) {n:Nat} {l:List Tk} {v:Value}:TksAt w D n l v→TksAt w' D n l v
 | ⟨a,c,h1,h2,h3,h⟩=>⟨a,c,h1,h2,h3,fun i hi=>by
  obtain⟨b,off,wv,e,hb,hd,hc,hw⟩:=h i hi;refine⟨b,off,wv,e,Nat.lt_of_lt_of_le hb hk.size,hd,fun j u hu=>?_,PtsAt.keep hk hD hw⟩;rw [World.cell?_of_block (hk.block b hb (hD b hb hd))];exact hc j u hu⟩
theorem TksAt.mono {w:World} {D D':Nat→Prop} (hD:∀b,b<w.heap.size→D b→D' b) {n:Nat} {l:List Tk} {v:Value}:TksAt w D n l v→TksAt w D' n l v
 | ⟨a,c,h1,h2,h3,h⟩=>⟨a,c,h1,h2,h3,fun i hi=>by
  obtain⟨b,off,wv,e,hb,hd,hc,hw⟩:=h i hi;exact⟨b,off,wv,e,hb,hD b hb hd,hc,PtsAt.mono hD hw⟩⟩
theorem TksAt.nil (w:World) (D:Nat→Prop) (n:Nat):TksAt w D n [] (.slice none 0 0):=⟨none,0,rfl,Nat.le_refl _,Nat.zero_le _,fun i hi=>absurd hi (Nat.not_lt_zero _)⟩
theorem TksAt.le {w:World} {D:Nat→Prop} {n m:Nat} {l:List Tk} {v:Value} (hm:n≤m):TksAt w D n l v→TksAt w D m l v
 | ⟨a,c,h1,h2,h3,h⟩=>⟨a,c,h1,h2,h3,fun i hi=>by
  obtain⟨b,off,wv,e,hb,hd,hc,hw⟩:=h i hi;exact⟨b,off,wv,e,hb,hd,hc,hw.le hm⟩⟩
def cellsT:List Tk→List Value→List Value
 | p::l,v::vs=>cellsK p v++cellsT l vs
 | _,_=>[]
theorem cellsT_append:∀{l m:List Tk} {vs us:List Value},vs.length=l.length→cellsT (l++m) (vs++us)=cellsT l vs++cellsT m us
 | [],m,[],us,_=>rfl
 | p::l,m,v::vs,us,h=>by
  simp only [List.cons_append,cellsT,cellsT_append (l:=l) (vs:=vs) (by simpa using h),List.append_assoc]
theorem cellsT_at:∀{l:List Tk} {vs:List Value} {i:Nat} (h:vs.length=l.length) (hi:i<l.length) (j:Nat) (u:Value),(cellsK l[i] (vs[i]'(by omega)))[j]? = some u→(cellsT l vs)[i*3+j]? = some u
 | p::l,v::vs,0,h,hi,j,u,hu=>by
  simp only [List.getElem_cons_zero] at hu;rw [Nat.zero_mul,Nat.zero_add];simp only [cellsT];rw [List.getElem?_append_left]
  ·exact hu
  ·exact (List.getElem?_eq_some_iff.1 hu).1
 | p::l,v::vs,i+1,h,hi,j,u,hu=>by
  simp only [List.getElem_cons_succ] at hu;simp only [cellsT];rw [List.getElem?_append_right (by rw [cellsK_len];omega),cellsK_len,show (i+1)*3+j - 3=i*3+j by omega];exact cellsT_at (by simpa using h) (by simpa using hi) j u hu
def OwnTks (w:World) (D:Nat→Prop) (v:Value) (raw:List Tk):Prop:=
 ∃vs n,vs.length=raw.length∧w.ownsRow 0 109 3 v raw.length (cellsT raw vs)∧
  ∀i (h:i<raw.length) (h':i<vs.length),PtsAt w (fun b=>D b∧v.ownBlock≠some b) n raw[i].word vs[i]
theorem OwnTks.nil (w:World) (D:Nat→Prop):OwnTks w D (.slice none 0 0) []:=
 ⟨[],0,rfl,World.ownsRow_nil _ _ _ _,fun i h=>absurd h (Nat.not_lt_zero _)⟩
theorem OwnTks.shape {w:World} {D:Nat→Prop} {v:Value} {raw:List Tk} (h:OwnTks w D v raw):∃a c,v=.slice a raw.length c∧raw.length≤c∧c≤maxLen:=by
 obtain⟨vs,n,hl,ho,_⟩:=h;rcases ho.2 with ⟨rfl,h0⟩ | ⟨g,cap,cur,rfl,_,_,h1,h2,_⟩
 ·exact⟨none,0,by rw [h0],by omega,Nat.zero_le _⟩
 ·exact⟨_,cap,rfl,h1,h2⟩
theorem OwnTks.lt {w:World} {D:Nat→Prop} {v:Value} {raw:List Tk} (h:OwnTks w D v raw) {g:Nat} (hg:v.ownBlock=some g):g<w.heap.size:=by
 obtain⟨vs,n,hl,ho,_⟩:=h;exact (ho.lt g hg).2
theorem OwnTks.keep {w w':World} {D S:Nat→Prop} {v:Value} {raw:List Tk} (h:OwnTks w D v raw) (hk:Keeps S w w') (hD:∀b,b<w.heap.size→D b→¬S b) (hv:∀g,v.ownBlock=some g→¬S g):OwnTks w' D v raw:=by
 obtain⟨vs,n,hl,ho,hn⟩:=h;refine⟨vs,n,hl,⟨ho.1,?_⟩,fun i h h'=>(hn i h h').keep hk fun b hb hd=>hD b hb hd.1⟩;rcases ho.2 with h0 | ⟨g,cap,cur,rfl,hb,hg,rest⟩
 ·exact .inl h0
 ·exact .inr ⟨g,cap,cur,rfl,hb,(hk.block g (Array.getElem?_eq_some_iff.1 hg).1 (hv g rfl)).trans hg,rest⟩
theorem OwnTks.reads {w:World} {D:Nat→Prop} {v:Value} {raw:List Tk} (h:OwnTks w D v raw) (hD:∀g,v.ownBlock=some g→D g):∃n,TksAt w D n raw v:=by
 have hs:=h.shape;obtain⟨vs,n,hl,ho,hn⟩:=h;obtain⟨a,c,e,h1,h2⟩:=hs;subst e;refine⟨n,a,c,rfl,h1,h2,fun i hi=>?_⟩;rcases ho.2 with ⟨_,h0⟩ | ⟨g,cap,cur,e,_,hg,_⟩
 ·omega
 simp only [Value.slice.injEq] at e;obtain⟨rfl,_,rfl⟩:=e;refine⟨g,0,vs[i]'(by omega),rfl,(Array.getElem?_eq_some_iff.1 hg).1,hD g rfl,fun j u hu=>?_,(hn i hi (by omega)).mono fun b _ hb=>hb.1⟩;have hj:j<3:=(List.getElem?_eq_some_iff.1 hu).1;rw [ho.cellAt _ (by omega),Nat.zero_add];exact cellsT_at hl hi j u hu
theorem grow_tks {w w':World} {v v':Value} {B:Nat} {raw:List Tk} {x:Tk} {vs:List Value} {n m:Nat} {wv:Value} (hx:PtsAt w (fun b=>B≤b∧v.ownBlock≠some b) m x.word wv) (hl:vs.length=raw.length)
 (hnest:∀i (h:i<raw.length) (h':i<vs.length),PtsAt w (fun b=>B≤b∧v.ownBlock≠some b) n raw[i].word vs[i])
 (hown:w'.ownsRow 0 109 3 v' (raw.length+1) (cellsT raw vs++cellsK x wv)) (hk:Keeps (fun b=>v.ownBlock=some b) w w')
 (hg:∀y,v'.ownBlock=some y→v.ownBlock=some y∨w.heap.size≤y) :
 OwnTks w' (fun b=>B≤b) v' (raw++[x]):=by
 have key:∀(k:Nat) (l:List Pt) (u:Value),PtsAt w (fun b=>B≤b∧v.ownBlock≠some b) k l u→PtsAt w' (fun b=>B≤b∧v'.ownBlock≠some b) k l u:=fun k l u h=>by
  have h2:PtsAt w (fun b=>(B≤b∧v.ownBlock≠some b)∧b<w.heap.size) k l u:=h.mono fun b hb hd=>⟨hd,hb⟩;refine (h2.keep hk (fun b _ hd s=>hd.1.2 s)).mono fun b _ hd=>⟨hd.1.1,fun e=>?_⟩;rcases hg b e with h3 | h3
  ·exact hd.1.2 h3
  ·have:=hd.2;omega
 refine⟨vs++[wv],max n m,by simp [hl],?_,fun i h h'=>?_⟩
 ·rw [cellsT_append hl];simpa [cellsT] using hown
 ·by_cases hi:i<raw.length
  ·rw [List.getElem_append_left hi,List.getElem_append_left (by omega)];exact (key _ _ _ (hnest i hi (by omega))).le (by omega)
  ·have hi2:i=raw.length:=by simp at h;omega
   subst hi2;rw [List.getElem_append_right (Nat.le_refl _),List.getElem_append_right (by omega)];simp only [hl,Nat.sub_self,List.getElem_cons_zero];exact (key _ _ _ hx).le (by omega)
theorem info_token:(Tryz.prog.info? 109).map (fun i=>(i.zero,i.size,i.bytes))=some (some (.agg #[.int .i64 0,.string ⟨#[]⟩,.slice none 0 0]),3,48):=by kernel_rfl
theorem cells_token:Tryz.prog.cellsOf 109=3:=by kernel_rfl
def consL (l:List Tk):Except Nat (List Tk)→Except Nat (List Tk)
 | .error e=>.error e
 | .ok m=>.ok (l++m)
theorem consL_nil (r:Except Nat (List Tk)):consL [] r=r:=by cases r<;>rfl
theorem consL_cons (l:List Tk) (x:Tk) (r:Except Nat (List Tk)):consL l (consT x r)=consL (l++[x]) r:=by
 cases r with
 | error e=>rfl
 | ok m=>show Except.ok (l++(x::m))=Except.ok ((l++[x])++m);rw [List.append_assoc];rfl
theorem wordD_len (wh:Bool):∀(n:Nat) (r:List UInt8) (l:List Pt) (r1:List UInt8),wordD wh n r=.ok (l,r1)→r1.length≤r.length
 | 0,r,l,r1,h=>by cases h
 | n+1,[],l,r1,h=>by
  obtain⟨_,rfl⟩:=Prod.mk.inj (Except.ok.inj h);exact Nat.le_refl _
 | n+1,c::t,l,r1,h=>by
  rw [wordD_succ] at h;dsimp only at h;split at h
  ·obtain⟨_,rfl⟩:=Prod.mk.inj (Except.ok.inj h);exact Nat.le_refl _
  ·cases h2:lexD (2*(c::t).length+2) (.one false) 0 (c::t) with
   | error e=>rw [h2] at h;cases h
   | ok x=>
    obtain⟨l2,r2⟩:=x;rw [h2] at h;obtain⟨m',h3,_⟩:=ahead_ok h;have h4:=lexD_len _ _ _ _ _ _ h2;have h5:=wordD_len wh n _ _ _ h3;omega
theorem breaks_op (c:UInt8) (t:List UInt8) (ho:operF (c::t)=[]) (h38:c≠38) (h32:(c==32 || c==9)=false):breaksB c=false:=by
 cases hb:breaksB c with
 | false=>rfl
 | true=>
  exfalso;have h1:c=10∨c=59∨c=124∨c=40∨c=41∨c=60∨c=62:=by
   simp only [breaksB,Bool.or_eq_true,beq_iff_eq,Bool.or_eq_false_iff,beq_eq_false_iff_ne] at hb h32;simp only [or_assoc] at hb;rcases hb with h | h | h | h | h | h | h | h | h | h<;>simp_all
  have h2:∀o∈operL,startsF o (c::t)=true→o≠[]→operF (c::t)≠[]:=by
   intro o hm hs hne he;unfold operF findF at he;cases hf:operL.find? (fun o=>startsF o (c::t)) with
   | none=>exact absurd hs (by simpa using List.find?_eq_none.1 hf o hm)
   | some p=>
    rw [hf] at he;have hp:p∈operL:=List.mem_of_find?_eq_some hf;have:p=[]:=he;subst this;exact absurd hp (by decide)
  rcases h1 with rfl | rfl | rfl | rfl | rfl | rfl | rfl
  ·exact h2 [10] (by decide) rfl (by decide) ho
  ·exact h2 [59] (by decide) rfl (by decide) ho
  ·exact h2 [124] (by decide) rfl (by decide) ho
  ·exact h2 [40] (by decide) rfl (by decide) ho
  ·exact h2 [41] (by decide) rfl (by decide) ho
  ·exact h2 [60] (by decide) rfl (by decide) ho
  ·exact h2 [62] (by decide) rfl (by decide) ho
theorem skip_head_n:∀(k:Nat) (m:Bool) (r:List UInt8) (c:UInt8) (t:List UInt8),r.length≤k→skipF m r=c::t→(c==32 || c==9)=false
 | _,m,[],c,t,_,h=>by cases m<;>cases h
 | 0,m,x::r,c,t,hk,h=>by simp at hk
 | k+1,true,x::r,c,t,hk,h=>by
  unfold skipF at h;split at h
  ·next hx=>
   obtain⟨rfl,rfl⟩:=List.cons.inj h;rw [beq_iff_eq.1 hx];rfl
  ·exact skip_head_n k true r c t (by simpa using hk) h
 | k+1,false,x::r,c,t,hk,h=>by
  rw [skipF_cons] at h;cases hx:(x==32 || x==9) with
  | true=>rw [hx,if_pos rfl] at h;exact skip_head_n k false r c t (by simpa using hk) h
  | false=>
   rw [hx,if_neg (by simp)] at h;split at h
   ·exact skip_head_n k true r c t (by simpa using hk) h
   ·split at h
    ·cases r with
     | nil=>obtain⟨rfl,rfl⟩:=List.cons.inj h;exact hx
     | cons y r'=>
      dsimp only at h;split at h
      ·exact skip_head_n k false r' c t (by simp at hk;omega) h
      ·obtain⟨rfl,rfl⟩:=List.cons.inj h;exact hx
    ·obtain⟨rfl,rfl⟩:=List.cons.inj h;exact hx
theorem skip_head {r:List UInt8} {c:UInt8} {t:List UInt8} (h:skipF false r=c::t):(c==32 || c==9)=false:=skip_head_n _ _ _ _ _ (Nat.le_refl _) h
theorem skip_len_n:∀(k:Nat) (m:Bool) (r:List UInt8),r.length≤k→(skipF m r).length≤r.length
 | _,m,[],_=>by cases m<;>exact Nat.le_refl _
 | 0,m,x::r,hk=>by simp at hk
 | k+1,true,x::r,hk=>by
  unfold skipF;split
  ·exact Nat.le_refl _
  ·have:=skip_len_n k true r (by simpa using hk);simp;omega
 | k+1,false,x::r,hk=>by
  rw [skipF_cons];have h1:=skip_len_n k false r (by simpa using hk);have h2:=skip_len_n k true r (by simpa using hk);split
  ·simp;omega
  ·split
   ·simp;omega
   ·split
    ·cases r with
     | nil=>exact Nat.le_refl _
     | cons y r'=>
      dsimp only;split
      ·have h3:=skip_len_n k false r' (by simp at hk;omega);simp;omega
      ·exact Nat.le_refl _
    ·exact Nat.le_refl _
theorem skip_len (m:Bool) (r:List UInt8):(skipF m r).length≤r.length:=skip_len_n _ m r (Nat.le_refl _)
theorem tokOne_len {c:UInt8} {t:List UInt8} {x:Tk} {r1:List UInt8} (h32:(c==32 || c==9)=false) (h:tokOne (c::t)=.ok (x,r1)):r1.length≤t.length:=by
 unfold tokOne at h;by_cases ho:operF (c::t)=[]
 ·rw [ho,if_pos (by rfl)] at h;by_cases h38:c=38
  ·rw [if_pos (show headIs 38 (c::t)=true by rw [h38];rfl)] at h;cases h
  ·rw [if_neg (show ¬headIs 38 (c::t)=true from fun h=>h38 (beq_iff_eq.1 h))] at h;have hb:=breaks_op c t ho h38 h32;rw [wordD_succ] at h;dsimp only at h;rw [hb,if_neg (by simp)] at h;cases h2:lexD (2*(c::t).length+2) (.one false) 0 (c::t) with
   | error e=>rw [h2] at h;cases h
   | ok y=>
    obtain⟨l2,r2⟩:=y;rw [h2] at h;dsimp only at h;have h4:=lexD_len _ _ _ _ _ _ h2;cases h5:wordD false (c::t).length r2 with
    | error e=>rw [h5] at h;cases h
    | ok z=>
     obtain⟨l3,r3⟩:=z;rw [h5] at h;obtain⟨_,rfl⟩:=Prod.mk.inj (Except.ok.inj h);have h6:=wordD_len _ _ _ _ _ h5;simp only [Md.least,List.length_cons] at h4;omega
 ·rw [if_neg (by simpa using ho)] at h;obtain⟨_,rfl⟩:=Prod.mk.inj (Except.ok.inj h);rw [List.length_drop,List.length_cons];have:=List.length_pos_iff.2 ho;omega
structure TkLoop (W wr:World) (R cs:Nat) (s:ByteArray) (I:Nat) (l:List Tk) (v:Value):Prop where
 sc:ScanAt wr cs s I ((0:Nat):Int)
 r0:RecAt wr R [v]
 r1:RecAt wr (R+1) [.int .i64 0]
 own:OwnTks wr (fun b=>W.heap.size≤b) v l
 low:∀g,v.ownBlock=some g→W.heap.size≤g
 kp:Keeps (fun b=>b=cs∨b=R) W wr
 len:l.length≤I
theorem TkLoop.move {W wr w':World} {R cs:Nat} {s:ByteArray} {I J:Nat} {l:List Tk} {v:Value} (h:TkLoop W wr R cs s I l v) (hk:Keeps (fun b=>b=cs) wr w') (hs:ScanAt w' cs s J ((0:Nat):Int)) (hI:I≤J) (h1:cs≠R) (h2:cs≠R+1) (h3:cs<W.heap.size):TkLoop W w' R cs s J l v:=
 ⟨hs,h.r0.keep hk (fun e=>h1 e.symm),h.r1.keep hk (fun e=>h2 e.symm),h.own.keep hk (fun b _ hb e=>by omega) (fun g hg e=>by have:=h.low g hg;omega),h.low,h.kp.trans hk (fun _ _ e=>.inl e),Nat.le_trans h.len hI⟩
theorem TkLoop.more {W wr w1:World} {R cs:Nat} {s:ByteArray} {I J:Nat} {l:List Tk} {v:Value} (h:TkLoop W wr R cs s I l v) (hk:Keeps (fun b=>b=cs) wr w1) (hs:ScanAt w1 cs s J ((0:Nat):Int)) (hI:I<J) (h1:cs≠R) (h2:cs≠R+1) (h3:cs<W.heap.size) (hR:R+1<W.heap.size)
 {x:Tk} {wv:Value} {n:Nat} (hx:PtsAt w1 (fun b=>wr.heap.size≤b) n x.word wv) :
 ∃xs,w1.ownsRow 0 109 3 v l.length xs∧v.ownBlock≠some R∧∀(g cap:Nat) (w2:World) (o:Obj),w2.ownsRow 0 109 3 (.slice (some ⟨g,0,none⟩) (l.length+1) cap) (l.length+1) (xs++cellsK x wv)→(w1.alloc o).grownBy w2 v.ownBlock→(v.ownBlock=some g∨g=w1.heap.size+1)→
  w2.cell? ⟨R,0,none⟩=some v∧w2.frozen? ⟨R,0,none⟩=false∧TkLoop W (w2.setCell ⟨R,0,none⟩ (.slice (some ⟨g,0,none⟩) (l.length+1) cap)) R cs s J (l++[x]) (.slice (some ⟨g,0,none⟩) (l.length+1) cap):=by
 have hm:=h.move hk hs (by omega) h1 h2 h3;have hm0:=hm.own;obtain⟨vs,m,hl,ho,hn⟩:=hm.own;have hWw:=hm.kp.size;refine⟨_,ho,fun e=>by have:=h.low _ e;omega,fun g cap w2 o hown hg hat=>?_⟩;have hvR:∀b,v.ownBlock=some b→W.heap.size≤b:=h.low;have k:Keeps (fun b=>v.ownBlock=some b) w1 w2:=((Keeps.refl _ w1).alloc o).grown hg fun k hk _=>hk;have hr0:=hm.r0.keep k (fun e=>by have:=hvR _ e;omega);have hgW:W.heap.size≤g:=by
  rcases hat with e | e
  ·exact hvR _ e
  ·omega
 have hk2:Keeps (fun b=>b=R) w2 (w2.setCell ⟨R,0,none⟩ (.slice (some ⟨g,0,none⟩) (l.length+1) cap)):=(Keeps.refl _ _).setCell _ _ fun _=>rfl;have hgrow:=grow_tks (B:=W.heap.size) (v:=v) (w:=w1) (x:=x) (m:=n) (hx.mono fun b hb hd=>⟨by have:=h.kp.size;omega,fun e=>by have:=h.own.lt e;omega⟩) hl hn hown k (fun y hy=>by
  obtain rfl:g=y:=Option.some.inj hy;rcases hat with e | e
  ·exact .inl e
  ·exact .inr (by omega))
 refine⟨hr0.one.1,hr0.one.2,(hm.sc.keep k (fun e=>by have:=hvR _ e;omega)).keep hk2 h1,?_,(hm.r1.keep k (fun e=>by have:=hvR _ e;omega)).keep hk2 (by omega),hgrow.keep hk2 (fun b _ hb e=>by omega) (fun y hy e=>by obtain rfl:g=y:=Option.some.inj hy;omega),fun y hy=>by obtain rfl:g=y:=Option.some.inj hy;exact hgW,?_,?_⟩
 ·exact hr0.set 0 _
 ·exact (hm.kp.trans k (fun b hb e=>by have:=hvR _ e;omega)).trans hk2 (fun _ _ e=>.inr e)
 ·rw [List.length_append];have:=h.len;show l.length+1≤J;omega
end Go.Proofs.YtiihpbccabeoeaaGreatDoor
