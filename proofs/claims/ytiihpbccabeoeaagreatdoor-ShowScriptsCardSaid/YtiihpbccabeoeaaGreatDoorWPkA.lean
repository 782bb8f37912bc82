/- The walk: a part. -/
import Derived.Test.YtiihpbccabeoeaaGreatDoorProg
import Derived.WalkKit
import Derived.WalkSpells
import Derived.WalkLawsBesides
import Derived.WalkArith
import Derived.Lib.Strings
import Derived.Lib.Bytealg
import Derived.Lib.IndexLaws
import Derived.Lib.Hide
import Derived.Outline
import Derived.Deep.QuietTactic
import Derived.BigQuiet
import Derived.IntWalk
import Derived.Test.YtiihpbccabeoeaaGreatDoorWShelf
import Derived.Deep.RegionHeld3
import Derived.Deep.AppendLies
import Derived.Laws.OwnMore
import Derived.OneCell
import Derived.RegionTactic
import Derived.ChangeAlike
theorem Go.RowKit.Hid.o {p:Prop} (h:Go.RowKit.Hid p):p:=h.out
namespace Go.Proofs.YtiihpbccabeoeaaGreatDoor
open Go.RowKit
set_option linter.unusedVariables false
set_option maxRecDepth 100000
set_option maxHeartbeats 16000000
theorem lA {α:Type _} {a b:List α}:(a++b).length=a.length+b.length:=List.length_append
theorem lC {α:Type _} {a:α} {l:List α}:(a::l).length=l.length+1:=List.length_cons
theorem lN {α:Type _}:([]:List α).length=0:=List.length_nil
theorem aA {α:Type _} (a b c:List α):a++b++c=a++(b++c):=List.append_assoc a b c
theorem k3 {α:Sort _} {β γ:α→Prop} (a:α) (_:β a) (h:γ a):γ a:=h
abbrev OA:=Option Addr
theorem Hd {p : Prop} (h : p) : Hid p:=Lib.hid h
structure aB (S:Nat→Prop) (w w':World):Prop where
 os:w'.os=w.os
 tape:w'.tape=w.tape
 output:w'.output=w.output
 size:w.heap.size≤w'.heap.size
 block:∀k,k<w.heap.size→¬S k→w'.heap[k]? = w.heap[k]?
abbrev K0:=aB (fun _=>False)
theorem aB.refl (S:Nat→Prop) (w:World):aB S w w:=⟨rfl,rfl,rfl,Nat.le_refl _,fun _ _ _=>rfl⟩
theorem aB.trans {S T:Nat→Prop} {a b c:World} (h:aB S a b) (k:aB T b c) (hT:∀x,x<a.heap.size→T x→S x):aB S a c:=
 ⟨k.os.trans h.os,k.tape.trans h.tape,k.output.trans h.output,Nat.le_trans h.size k.size,fun x hx hs=>(k.block x (Nat.lt_of_lt_of_le hx h.size) (fun t=>hs (hT x hx t))).trans (h.block x hx hs)⟩
theorem aB.mono {S T:Nat→Prop} {a b:World} (h:aB S a b) (hT:∀x,x<a.heap.size→S x→T x):aB T a b:=
 ⟨h.os,h.tape,h.output,h.size,fun x hx hs=>h.block x hx (fun s=>hs (hT x hx s))⟩
theorem aB.drewN {S:Nat→Prop} {a b:World} (h:aB S a b) (n:Nat):aB S a (b.drewN n):=by
 induction n with
 | zero=>exact h
 | succ n ih=>exact⟨ih.os,ih.tape,ih.output,ih.size,ih.block⟩
theorem aB.drew {S:Nat→Prop} {a b:World} (h:aB S a b):aB S a b.drew:=⟨h.os,h.tape,h.output,h.size,h.block⟩
theorem aB.alloc {S:Nat→Prop} {a b:World} (h:aB S a b) (o:Obj):aB S a (b.alloc o):=
 ⟨h.os,h.tape,h.output,Nat.le_trans h.size (by simp),fun x hx hs=>(Below.heap_alloc _ _ _ (Nat.lt_of_lt_of_le hx h.size)).trans (h.block x hx hs)⟩
theorem aB.setCell {S:Nat→Prop} {a b:World} (h:aB S a b) (p:Addr) (v:Value) (hp:p.block<a.heap.size→S p.block):aB S a (b.setCell p v):=
 ⟨h.os,h.tape,h.output,Nat.le_trans h.size (by simp [World.setCell]),fun x hx hs=>(Below.heap_setCell _ _ _ _ (fun e=>hs (by rw [e];exact hp (by rw [←e];exact hx)))).trans (h.block x hx hs)⟩
theorem aB.grown {S:Nat→Prop} {a b c:World} {row:Option Nat} (h:aB S a b) (hg:b.grownBy c row) (hr:∀k,row=some k→k<a.heap.size→S k):aB S a c:=
 ⟨hg.os.trans h.os,hg.tape.trans h.tape,hg.output.trans h.output,Nat.le_trans h.size hg.size,fun x hx hs=>(hg.block x (Nat.lt_of_lt_of_le hx h.size) (fun e=>hs (hr x e.symm hx))).trans (h.block x hx hs)⟩
theorem aB.below {a b:World} {B:Nat} (h:aB (fun k=>B≤k) a b) (hB:B≤a.heap.size):Below B a b:=
 ⟨h.os,h.tape,h.output,h.size,fun k hk=>h.block k (by omega) (by omega)⟩
theorem aB.of_below {a b:World} (h:Below a.heap.size a b) (S:Nat→Prop):aB S a b:=
 ⟨h.os,h.tape,h.output,h.size,fun k hk _=>h.block k hk⟩
def aD (w:World) (b:Nat) (s:ByteArray) (i d:Int):Prop:=∃T,w.heap[b]? = some (.cells #[.string s,.int .i64 i,.int .i64 d] T (0,0))
theorem aD.lt {w:World} {b:Nat} {s:ByteArray} {i d:Int} (h:aD w b s i d):b<w.heap.size:=by
 obtain⟨T,h⟩:=h;exact (Array.getElem?_eq_some_iff.1 h).1
theorem aD.cells {w:World} {b:Nat} {s:ByteArray} {i d:Int} (h:aD w b s i d) :
 w.cell? ⟨b,0,none⟩=some (.string s)∧w.cell? ⟨b,1,none⟩=some (.int .i64 i)∧w.cell? ⟨b,2,none⟩=some (.int .i64 d)∧
 w.frozen? ⟨b,1,none⟩=false∧w.frozen? ⟨b,2,none⟩=false:=by
 obtain⟨T,h⟩:=h;refine⟨?_,?_,?_,?_,?_⟩<;>simp [World.cell?,World.frozen?,h]
theorem aD.set1 {w:World} {b:Nat} {s:ByteArray} {i d:Int} (h:aD w b s i d) (j:Int):aD (w.setCell ⟨b,1,none⟩ (.int .i64 j)) b s j d:=by
 obtain⟨T,h⟩:=h;exact⟨T,by simp [World.setCell,Array.getElem?_modify,h]⟩
theorem aD.set2 {w:World} {b:Nat} {s:ByteArray} {i d:Int} (h:aD w b s i d) (j:Int):aD (w.setCell ⟨b,2,none⟩ (.int .i64 j)) b s i j:=by
 obtain⟨T,h⟩:=h;exact⟨T,by simp [World.setCell,Array.getElem?_modify,h]⟩
theorem aD.keep {w w':World} {b:Nat} {s:ByteArray} {i d:Int} {S:Nat→Prop} (h:aD w b s i d) (hk:aB S w w') (hb:¬S b):aD w' b s i d:=by
 have hl:=h.lt;obtain⟨T,h⟩:=h;exact⟨T,(hk.block b hl hb).trans h⟩
theorem aD.drewN {w:World} {b:Nat} {s:ByteArray} {i d:Int} (h:aD w b s i d) (n:Nat):aD (w.drewN n) b s i d:=
 h.keep (S:=fun _=>False) ((aB.refl _ _).drewN n) (fun x=>x)
theorem aD.alloc {w:World} {b:Nat} {s:ByteArray} {i d:Int} (h:aD w b s i d) (o:Obj):aD (w.alloc o) b s i d:=
 h.keep (S:=fun _=>False) ((aB.refl _ _).alloc o) (fun x=>x)
theorem aD.new (w:World) (s:ByteArray) (i d:Int) (T:TypeId):aD (w.alloc (.cells #[.string s,.int .i64 i,.int .i64 d] T)) w.heap.size s i d:=⟨T,heap_alloc_new w _⟩
def aM (s:ByteArray) (k:Nat):UInt8:=s.data.toList.getD k 0
theorem gB {s:ByteArray} {k:Nat} (h:k<s.size):s[k]=aM s k:=by
 unfold aM;have h':k<s.data.toList.length:=by simpa using h
 rw [List.getD_eq_getElem?_getD,List.getElem?_eq_getElem h'];simp;rfl
def Bn (w w':World):Prop:=∃q,w'=w.drewN q
theorem Pj (w:World) (a b:Nat):Bn w ((w.drewN a).drewN b):=⟨_,World.drewN_drewN ..⟩
def rest (s:ByteArray) (i:Nat):List UInt8:=s.data.toList.drop i
inductive Pt where
 | mk (kind:Nat) (text name op:List UInt8) (word:List Pt) (quoted:Bool)
def Pt.kind:Pt→Nat | .mk k _ _ _ _ _=>k
def Pt.text:Pt→List UInt8 | .mk _ t _ _ _ _=>t
def Pt.name:Pt→List UInt8 | .mk _ _ n _ _ _=>n
def Pt.op:Pt→List UInt8 | .mk _ _ _ o _ _=>o
def Pt.word:Pt→List Pt | .mk _ _ _ _ w _=>w
def Pt.quoted:Pt→Bool | .mk _ _ _ _ _ q=>q
def eG (s:List UInt8):Pt:=.mk 1 s [] [] [] false
def cG (s:List UInt8):Pt:=.mk 2 s [] [] [] false
def Pt.isE (x:Pt):Bool:=x.kind==2 && x.text.isEmpty
def Pt.joins (y x:Pt):Bool:=y.kind==x.kind && (x.kind==1 || x.kind==2)
def Pt.join (y x:Pt):Pt:=.mk y.kind (y.text++x.text) y.name y.op y.word y.quoted
def iA (out:List Pt) (x:Pt):List Pt:=match out.getLast? with
 | some y=>if y.joins x then out.dropLast++[y.join x] else out++[x]
 | none=>[x]
def cH (a:List Pt×Bool) (x:Pt):List Pt×Bool:=if x.isE then (a.1,true) else (iA a.1 x,true)
def eS (l:List Pt):List Pt×Bool:=l.foldl cH ([],false)
def cT (l:List Pt):List Pt:=if (eS l).1.isEmpty && (eS l).2 then [cG []] else (eS l).1
theorem zN (a b:List Pt):eS (a++b)=b.foldl cH (eS a):=by unfold eS;rw [List.foldl_append]
theorem Bf {a b:List Pt} (h:eS a=eS b):cT a=cT b:=by unfold cT;rw [h]
def A8 (l:List Pt):Prop:=∀p∈l,(p.kind=1∨p.kind=2)→p=.mk p.kind p.text [] [] [] false
def wtF:List Pt→Nat
 | []=>0
 | p::l=>p.text.length+1+wtF l
theorem bE (a b:List Pt):wtF (a++b)=wtF a+wtF b:=by
 induction a with
 | nil=>simp [wtF]
 | cons p l ih=>simp only [List.cons_append,wtF,ih];omega
theorem lJ (a:List Pt):a.length≤wtF a:=by
 induction a with
 | nil=>exact Nat.zero_le _
 | cons p l ih=>simp only [lC,wtF];omega
theorem A8.append {a b:List Pt} (ha:A8 a) (hb:A8 b):A8 (a++b):=fun p hp=>by
 rcases List.mem_append.1 hp with h | h
 ·exact ha p h
 ·exact hb p h
def aZ (c:UInt8):Bool:=(97≤c.toNat && c.toNat≤122) || (65≤c.toNat && c.toNat≤90) || c.toNat==95
def bD (c:UInt8):Bool:=48≤c.toNat && c.toNat≤57
def dL (c:UInt8):Bool:=c==63 || c==35 || c==64 || c==42
def bJ (c:UInt8):Bool:=c==32 || c==9 || c==10 || c==59 || c==38 || c==124 || c==40 || c==41 || c==60 || c==62
def nM (c:UInt8):Bool:=c==36 || c==34 || c==92 || c==96
def aW (c:UInt8):List UInt8→Bool
 | []=>false
 | x::_=>x==c
def aI:List UInt8→List UInt8→Bool
 | [],_=>true
 | _::_,[]=>false
 | a::p,b::r=>a==b && aI p r
def bH:List UInt8→Nat
 | []=>0
 | c::t=>if aZ c || bD c then bH t+1 else 0
def dK:List UInt8→Nat
 | []=>0
 | c::t=>if aZ c then bH t+1 else 0
def eT:List UInt8→Nat
 | []=>0
 | c::t=>if bD c then eT t+1 else 0
def bT (braces:Bool) (r:List UInt8):Nat:=
 if dK r > 0 then dK r else match r with
 | []=>0
 | c::t=>if bD c then (if braces then eT t+1 else 1) else if dL c then 1 else 0
def gH (l:List (List UInt8)) (r:List UInt8):List UInt8:=((l.find? fun o=>aI o r)).getD []
def gG:List (List UInt8):=[[58,45],[58,61],[58,63],[58,43],[37,37],[35,35],[45],[61],[63],[43],[37],[35]]
def opF (r:List UInt8):List UInt8:=gH gG r
def pL:List (List UInt8):=[[50,62,62],[50,62],[59,59],[38,38],[124,124],[62,62],[59],[124],[40],[41],[60],[62],[10]]
def eK (r:List UInt8):List UInt8:=gH pL r
def fJ (c:UInt8):List UInt8→Option Nat
 | []=>none
 | x::t=>if x==c then some 0 else (fJ c t).map (· + 1)
def cV:Nat→List UInt8→Option Nat
 | _,[]=>none
 | o,c::t=>if c==40 then (cV (o+1) t).map (· + 1)
  else if c==41 then (if o=0 then (if aW 41 t then some 0 else none) else (cV (o - 1) t).map (· + 1))
  else (cV o t).map (· + 1)
inductive SM where
 | n | q1 | q2 | bn | bq
 deriving DecidableEq
def bP:SM→Nat→List UInt8→Option Nat
 | _,_,[]=>none
 | .n,o,c::t=>
  if c==39 then (bP .q1 o t).map (· + 1) else if c==34 then (bP .q2 o t).map (· + 1) else if c==92 then (bP .bn o t).map (· + 1)
  else if c==40 then (bP .n (o+1) t).map (· + 1)
  else if c==41 then (if o=0 then some 0 else (bP .n (o - 1) t).map (· + 1))
  else (bP .n o t).map (· + 1)
 | .q1,o,c::t=>(bP (if c==39 then .n else .q1) o t).map (· + 1)
 | .q2,o,c::t=>(bP (if c==34 then .n else if c==92 then .bq else .q2) o t).map (· + 1)
 | .bn,o,_::t=>(bP .n o t).map (· + 1)
 | .bq,o,_::t=>(bP .q2 o t).map (· + 1)
inductive Md where
 | one (q:Bool) | dq | br (q:Bool) | dol (q:Bool) | brace (q:Bool)
 deriving DecidableEq
abbrev Res:=Except Nat (List Pt×List UInt8)
def Res.ahead (l:List Pt):Res→Res
 | .error e=>.error e
 | .ok (m,r)=>.ok (l++m,r)
def bK (r:List UInt8):Bool:=aW 35 r && !aW 125 r.tail && (opF r.tail).isEmpty
def dJ:Nat→Md→Nat→List UInt8→Res
 | 0,_,_,_=>.error 0
 | _+1,.one _,_,[]=>.ok ([],[])
 | n+1,.one false,d,c::t=>
  if c==39 then (match fJ 39 t with
   | none=>.error 2
   | some k=>.ok ([cG (t.take k)],t.drop (k+1)))
  else if c==34 then (dJ n .dq d t).ahead [cG []]
  else if c==92 then (match t with
   | []=>.ok ([cG [92]],[])
   | x::t'=>if x==10 then .ok ([],t') else .ok ([cG [x]],t'))
  else if c==96 then .error 2
  else if c==36 then dJ n (.dol false) d t
  else .ok ([eG [c]],t)
 | n+1,.one true,d,c::t=>
  if c==34 || c==96 then .error 2
  else if c==92 && aW 10 t then .ok ([],t.tail)
  else if c==92 && nM (t.headD 0) then .ok ([cG [t.headD 0]],t.tail)
  else if c==36 then dJ n (.dol true) d t
  else .ok ([cG [c]],t)
 | n+1,.dq,d,r=>match r with
  | []=>.error 2
  | c::t=>if c==34 then .ok ([],t) else match dJ n (.one true) d r with
   | .error e=>.error e
   | .ok (l,r1)=>(dJ n .dq d r1).ahead l
 | n+1,.br q,d,r=>match r with
  | []=>.error 2
  | c::t=>if c==125 then .ok ([],t) else match dJ n (.one q) d r with
   | .error e=>.error e
   | .ok (l,r1)=>(dJ n (.br q) d r1).ahead l
 | n+1,.dol q,d,r=>
  if aW 123 r then dJ n (.brace q) d r.tail
  else if aI [40,40] r then (match cV 0 (r.drop 2) with
   | none=>.error 2
   | some k=>.ok ([.mk 4 ((r.drop 2).take k) [] [] [] q],(r.drop 2).drop (k+2)))
  else if aW 40 r then (match bP .n 0 r.tail with
   | none=>.error 2
   | some k=>.ok ([.mk 5 (r.tail.take k) [] [] [] q],r.tail.drop (k+1)))
  else if bT false r=0 then .ok ([if q then cG [36] else eG [36]],r)
  else .ok ([.mk 3 [] (r.take (bT false r)) [] [] q],r.drop (bT false r))
 | n+1,.brace q,d,r=>
  let r1:=if bK r then r.tail else r
  let k:=bT true r1
  let r2:=r1.drop k
  if k=0 then .error 2
  else if aW 125 r2 then .ok ([.mk 3 [] (r1.take k) (if bK r then [76] else []) [] q],r2.tail)
  else if (opF r2).isEmpty || bK r then .error 2
  else if d=40 then .error 3
  else match dJ n (.br q) (d+1) (r2.drop (opF r2).length) with
   | .error e=>.error e
   | .ok (l,r3)=>.ok ([.mk 3 [] (r1.take k) (opF r2) (cT l) q],r3)
def i5 (whole:Bool):Nat→List UInt8→Res
 | 0,_=>.error 0
 | n+1,r=>match r with
  | []=>.ok ([],[])
  | c::_=>if !whole && bJ c then .ok ([],r) else match dJ (2*r.length+2) (.one false) 0 r with
   | .error e=>.error e
   | .ok (l,r1)=>(i5 whole n r1).ahead l
def dM:Bool→List UInt8→List UInt8
 | _,[]=>[]
 | true,c::t=>if c==10 then c::t else dM true t
 | false,c::t=>if c==32 || c==9 then dM false t
  else if c==35 then dM true t
  else if c==92 then (match t with
   | []=>c::t
   | x::t'=>if x==10 then dM false t' else c::t)
  else c::t
structure Tk where
 kind:Nat
 text:List UInt8
 word:List Pt
def tD (x:Tk):Except Nat (List Tk)→Except Nat (List Tk)
 | .error e=>.error e
 | .ok l=>.ok (x::l)
def qA:Nat→List UInt8→Except Nat (List Tk)
 | 0,_=>.error 0
 | n+1,r=>match dM false r with
  | []=>.ok []
  | c::t=>
   if (eK (c::t)).isEmpty then
    if c==38 then .error 2 else match i5 false ((c::t).length+1) (c::t) with
    | .error e=>.error e
    | .ok (l,r1)=>tD ⟨1,[],cT l⟩ (qA n r1)
   else tD ⟨2,eK (c::t),[]⟩ (qA n ((c::t).drop (eK (c::t)).length))
def pH (s:List UInt8):Nat:=if 16384<s.length then 3 else if s.contains 0 then 2 else 0
def kC (s:List UInt8):Except Nat (List Tk):=if pH s=0 then qA (s.length+1) s else .error (pH s)
def e8 (l:List UInt8):Value:=.string ⟨l.toArray⟩
def fL (p:Pt) (v:Value):List Value:=[.int .i64 p.kind,e8 p.text,e8 p.name,e8 p.op,v,.bool p.quoted]
theorem jG (p:Pt) (v:Value):(fL p v).length=6:=rfl
def lO (w:World) (b o:Nat) (p:Pt) (v:Value):Prop:=∀j u,(fL p v)[j]? = some u→w.cell? ⟨b,o+j,none⟩=some u
def aV (w:World) (D:Nat→Prop):Nat→List Pt→Value→Prop
 | 0,l,v=>l=[]∧∃a c,v=.slice a 0 c∧c≤maxLen
 | n+1,l,v=>∃a c,v=.slice a l.length c∧l.length≤c∧c≤maxLen∧
  ∀i (h:i<l.length),∃b off wv,a=some ⟨b,off,none⟩∧b<w.heap.size∧D b∧lO w b (off+i*6) l[i] wv∧aV w D n l[i].word wv
theorem aV.keep {w w':World} {D S:Nat→Prop} (hk:aB S w w') (hD:∀b,b<w.heap.size→D b→¬S b):∀{n:Nat} {l:List Pt} {v:Value},aV w D n l v→aV w' D n l v
 | 0,_,_,h=>h
 | n+1,l,v,⟨a,c,h1,h2,h3,h⟩=>⟨a,c,h1,h2,h3,fun i hi=>by
  obtain⟨b,off,wv,e,hb,hd,hc,hw⟩:=h i hi;refine⟨b,off,wv,e,Nat.lt_of_lt_of_le hb hk.size,hd,fun j u hu=>?_,aV.keep hk hD hw⟩;rw [World.cell?_of_block (hk.block b hb (hD b hb hd))];exact hc j u hu⟩
theorem aV.mono {w:World} {D D':Nat→Prop} (hD:∀b,b<w.heap.size→D b→D' b):∀{n:Nat} {l:List Pt} {v:Value},aV w D n l v→aV w D' n l v
 | 0,_,_,h=>h
 | n+1,l,v,⟨a,c,h1,h2,h3,h⟩=>⟨a,c,h1,h2,h3,fun i hi=>by
  obtain⟨b,off,wv,e,hb,hd,hc,hw⟩:=h i hi;exact⟨b,off,wv,e,hb,hD b hb hd,hc,aV.mono hD hw⟩⟩
theorem aV.succ {w:World} {D:Nat→Prop}:∀{n:Nat} {l:List Pt} {v:Value},aV w D n l v→aV w D (n+1) l v
 | 0,l,v,⟨h,a,c,e,hc⟩=>by
  subst h;exact⟨a,c,e,Nat.zero_le _,hc,fun i hi=>absurd hi (Nat.not_lt_zero _)⟩
 | n+1,l,v,⟨a,c,h1,h2,h3,h⟩=>⟨a,c,h1,h2,h3,fun i hi=>by
  obtain⟨b,off,wv,e,hb,hd,hc,hw⟩:=h i hi;exact⟨b,off,wv,e,hb,hd,hc,aV.succ hw⟩⟩
theorem aV.le {w:World} {D:Nat→Prop} {n m:Nat} {l:List Pt} {v:Value} (h:aV w D n l v) (hm:n≤m):aV w D m l v:=by
 induction m with
 | zero=>
  obtain rfl:n=0:=by omega
  exact h
 | succ m ih=>
  by_cases e:n=m+1
  ·subst e;exact h
  ·exact (ih (by omega)).succ
theorem aV.nil (w:World) (D:Nat→Prop) (n:Nat):aV w D n [] (.slice none 0 0):=aV.le (n:=0) ⟨rfl,none,0,rfl,Nat.zero_le _⟩ (Nat.zero_le _)
theorem aV.shape {w:World} {D:Nat→Prop} {n:Nat} {l:List Pt} {v:Value} (h:aV w D n l v):∃a c,v=.slice a l.length c∧l.length≤c∧c≤maxLen:=by
 cases n with
 | zero=>obtain⟨rfl,a,c,e,hc⟩:=h;exact⟨a,c,e,Nat.zero_le _,hc⟩
 | succ n=>obtain⟨a,c,h1,h2,h3,_⟩:=h;exact⟨a,c,h1,h2,h3⟩
def cL:List Pt→List Value→List Value
 | p::l,v::vs=>fL p v++cL l vs
 | _,_=>[]
theorem k6:∀{l:List Pt} {vs:List Value},vs.length=l.length→(cL l vs).length=l.length*6
 | [],[],_=>rfl
 | p::l,v::vs,h=>by
  have:=k6 (l:=l) (vs:=vs) (by simpa using h);simp only [cL,lA,jG,this,lC];omega
theorem iD:∀{l m:List Pt} {vs us:List Value},vs.length=l.length→cL (l++m) (vs++us)=cL l vs++cL m us
 | [],m,[],us,_=>rfl
 | p::l,m,v::vs,us,h=>by
  simp only [List.cons_append,cL,iD (l:=l) (vs:=vs) (by simpa using h),aA]
theorem kL:∀{l:List Pt} {vs:List Value} {i:Nat} (h:vs.length=l.length) (hi:i<l.length) (j:Nat) (u:Value),(fL l[i] (vs[i]'(by omega)))[j]? = some u→(cL l vs)[i*6+j]? = some u
 | p::l,v::vs,0,h,hi,j,u,hu=>by
  simp only [List.getElem_cons_zero] at hu;rw [Nat.zero_mul,Nat.zero_add];simp only [cL];rw [List.getElem?_append_left]
  ·exact hu
  ·exact (List.getElem?_eq_some_iff.1 hu).1
 | p::l,v::vs,i+1,h,hi,j,u,hu=>by
  simp only [List.getElem_cons_succ] at hu;simp only [cL];rw [List.getElem?_append_right (by rw [jG];omega),jG,show (i+1)*6+j - 6=i*6+j by omega];exact kL (by simpa using h) (by simpa using hi) j u hu
def gE (w:World) (D:Nat→Prop) (v:Value) (raw:List Pt):Prop:=
 ∃vs n,vs.length=raw.length∧w.ownsRow 0 67 6 v raw.length (cL raw vs)∧
  ∀i (h:i<raw.length) (h':i<vs.length),aV w (fun b=>D b∧v.ownBlock≠some b) n raw[i].word vs[i]
theorem gE.nil (w:World) (D:Nat→Prop):gE w D (.slice none 0 0) []:=
 ⟨[],0,rfl,World.ownsRow_nil _ _ _ _,fun i h=>absurd h (Nat.not_lt_zero _)⟩
theorem gE.shape {w:World} {D:Nat→Prop} {v:Value} {raw:List Pt} (h:gE w D v raw):∃a c,v=.slice a raw.length c∧raw.length≤c∧c≤maxLen:=by
 obtain⟨vs,n,hl,ho,_⟩:=h;rcases ho.2 with ⟨rfl,h0⟩ | ⟨g,cap,cur,rfl,_,_,h1,h2,_⟩
 ·exact⟨none,0,by rw [h0],by omega,Nat.zero_le _⟩
 ·exact⟨_,cap,rfl,h1,h2⟩
theorem gE.lt {w:World} {D:Nat→Prop} {v:Value} {raw:List Pt} (h:gE w D v raw) {g:Nat} (hg:v.ownBlock=some g):g<w.heap.size:=by
 obtain⟨vs,n,hl,ho,_⟩:=h;exact (ho.lt g hg).2
theorem gE.keep {w w':World} {D S:Nat→Prop} {v:Value} {raw:List Pt} (h:gE w D v raw) (hk:aB S w w') (hD:∀b,b<w.heap.size→D b→¬S b) (hv:∀g,v.ownBlock=some g→¬S g):gE w' D v raw:=by
 obtain⟨vs,n,hl,ho,hn⟩:=h;refine⟨vs,n,hl,⟨ho.1,?_⟩,fun i h h'=>(hn i h h').keep hk fun b hb hd=>hD b hb hd.1⟩;rcases ho.2 with h0 | ⟨g,cap,cur,rfl,hb,hg,rest⟩
 ·exact .inl h0
 ·exact .inr ⟨g,cap,cur,rfl,hb,(hk.block g (Array.getElem?_eq_some_iff.1 hg).1 (hv g rfl)).trans hg,rest⟩
theorem gE.reads {w:World} {D:Nat→Prop} {v:Value} {raw:List Pt} (h:gE w D v raw) (hD:∀g,v.ownBlock=some g→D g):∃n,aV w D n raw v:=by
 have hs:=h.shape;obtain⟨vs,n,hl,ho,hn⟩:=h;obtain⟨a,c,e,h1,h2⟩:=hs;subst e;refine⟨n+1,a,c,rfl,h1,h2,fun i hi=>?_⟩;rcases ho.2 with ⟨_,h0⟩ | ⟨g,cap,cur,e,_,hg,_⟩
 ·omega
 simp only [Value.slice.injEq] at e;obtain⟨rfl,_,rfl⟩:=e;refine⟨g,0,vs[i]'(by omega),rfl,(Array.getElem?_eq_some_iff.1 hg).1,hD g rfl,fun j u hu=>?_,(hn i hi (by omega)).mono fun b _ hb=>hb.1⟩;have hj:j<6:=(List.getElem?_eq_some_iff.1 hu).1;rw [ho.cellAt _ (by omega),Nat.zero_add];exact kL hl hi j u hu
def kW (w:World) (b:Nat) (v:Value):Prop:=∃T,w.heap[b]? = some (.cells #[v] T (0,0))
theorem kW.lt {w:World} {b:Nat} {v:Value} (h:kW w b v):b<w.heap.size:=by
 obtain⟨T,h⟩:=h;exact (Array.getElem?_eq_some_iff.1 h).1
theorem kW.cell {w:World} {b:Nat} {v:Value} (h:kW w b v):w.cell? ⟨b,0,none⟩=some v∧w.frozen? ⟨b,0,none⟩=false:=by
 obtain⟨T,h⟩:=h;refine⟨?_,?_⟩<;>simp [World.cell?,World.frozen?,h]
theorem kW.set {w:World} {b:Nat} {v:Value} (h:kW w b v) (u:Value):kW (w.setCell ⟨b,0,none⟩ u) b u:=by
 obtain⟨T,h⟩:=h;exact⟨T,by simp [World.setCell,Array.getElem?_modify,h]⟩
theorem kW.keep {w w':World} {b:Nat} {v:Value} {S:Nat→Prop} (h:kW w b v) (hk:aB S w w') (hb:¬S b):kW w' b v:=by
 have hl:=h.lt;obtain⟨T,h⟩:=h;exact⟨T,(hk.block b hl hb).trans h⟩
theorem i9:(Tryz.prog.info? 67).map (fun i=>(i.zero,i.size,i.bytes))=some (some (.agg #[.int .i64 0,.string ⟨#[]⟩,.string ⟨#[]⟩,.string ⟨#[]⟩,.slice none 0 0,.bool false]),6,88):=by kernel_rfl
theorem dN:Tryz.prog.cellsOf 67=6:=by kernel_rfl
theorem Mm {xs ys:List Value} {o j:Nat} (h:xs.length=o) (u:Value):(xs++ys).set (o+j) u=xs++ys.set j u:=by
 rw [List.set_append_right _ _ (by omega),h,show o+j - o=j by omega]
theorem aB.set1 {S:Nat→Prop} {a b:World} {g:Nat} (h:aB S a b) (o:Nat) (v:Value) (hp:S g):aB S a (b.setCell ⟨g,o,none⟩ v):=h.setCell _ _ fun _=>hp
def Bag (w:World) (B cs wb:Nat) (g:Option Nat) (N:List Pt×Bool) (m:Nat):Prop:=
 ∃v raw,kW w wb v∧gE w (fun b=>B≤b∧b≠wb) v raw∧v.ownBlock=g∧g≠some wb∧g≠some cs∧(cs<B∧B≤wb)∧eS raw=N∧A8 raw∧wtF raw≤m
def Fp (cs wb:Nat) (g:Option Nat) (b:Nat):Prop:=b=cs∨b=wb∨g=some b
def vS (w:World) (g g':Option Nat):Prop:=g'=g∨∃x,g'=some x∧w.heap.size≤x
theorem vS.refl (w:World) (g:Option Nat):vS w g g:=.inl rfl
theorem vS.trans {w w':World} {g g' g'':Option Nat} (h:vS w g g') (hs:w.heap.size≤w'.heap.size) (k:vS w' g' g''):vS w g g'':=by
 rcases k with rfl | ⟨x,e,hx⟩
 ·exact h
 ·exact .inr ⟨x,e,by omega⟩
theorem aB.next {w w1 w2:World} {cs wb:Nat} {g g1:Option Nat} (h:aB (Fp cs wb g) w w1) (hn:vS w g g1) (k:aB (Fp cs wb g1) w1 w2):aB (Fp cs wb g) w w2:=
 h.trans k fun x hx t=>by
  rcases t with t | t | t
  ·exact .inl t
  ·exact .inr (.inl t)
  ·rcases hn with rfl | ⟨y,e,hy⟩
   ·exact .inr (.inr t)
   ·rw [e] at t;obtain rfl:y=x:=Option.some.inj t;omega
theorem Bag.keep {w w':World} {B cs wb:Nat} {g:Option Nat} {N:List Pt×Bool} {m:Nat} {S:Nat→Prop} (h:Bag w B cs wb g N m) (hk:aB S w w') (hS:∀b,b<w.heap.size→S b→b=cs):Bag w' B cs wb g N m:=by
 obtain⟨v,raw,hw,ho,rfl,h1,h2,h3,h4,h5,h6⟩:=h;have lw:=hw.lt;refine⟨v,raw,hw.keep hk fun s=>by have:=hS _ lw s;omega,ho.keep hk (fun b hb hd s=>by have:=hS b hb s;have:=hd.1;omega) (fun x hx s=>h2 (by rw [hx,hS x (ho.lt hx) s])),rfl,h1,h2,h3,h4,h5,h6⟩
theorem Bag.wlt {w:World} {B cs wb:Nat} {g:Option Nat} {N:List Pt×Bool} {m:Nat} (h:Bag w B cs wb g N m):wb<w.heap.size:=by
 obtain⟨v,raw,hw,_⟩:=h;exact hw.lt
theorem Bag.mono {w:World} {B cs wb:Nat} {g:Option Nat} {N:List Pt×Bool} {m m':Nat} (h:Bag w B cs wb g N m) (hm:m≤m'):Bag w B cs wb g N m':=by
 obtain⟨v,raw,hw,ho,e,h1,h2,h3,h4,h5,h6⟩:=h;exact⟨v,raw,hw,ho,e,h1,h2,h3,h4,h5,by omega⟩
theorem kR {s:ByteArray} (h:s.data.toList=[]):s.toList.isEmpty=true∧(s.toList==[])=true:=by
 rw [Lib.toList_data,h];exact⟨rfl,rfl⟩
theorem lQ {s:ByteArray} (h:s.data.toList≠[]):s.toList.isEmpty=false∧(s.toList==[])=false:=by
 rw [Lib.toList_data];cases hs:s.data.toList with
 | nil=>exact absurd hs h
 | cons x y=>exact⟨rfl,rfl⟩
theorem xJ (raw:List Pt):raw=[]∨∃l p,raw=l++[p]:=by
 rcases List.eq_nil_or_concat raw with h | ⟨l,p,h⟩
 ·exact .inl h
 ·exact .inr ⟨l,p,by rw [h,List.concat_eq_append]⟩
theorem cM (s:ByteArray) (i:Nat):(rest s i).length=s.size - i:=by
 unfold rest;rw [List.length_drop,←Lib.size_eq]
theorem dY (s:ByteArray) (i k:Nat):(rest s i).drop k=rest s (i+k):=by
 unfold rest;rw [List.drop_drop]
theorem Be {w:World} {b:Nat} {s:ByteArray} {i d j j':Int} (h:aD w b s i d) (n:Nat) (hj:j'=j):aD ((w.drewN n).setCell ⟨b,1,none⟩ (.int .i64 j)) b s j' d:=by
 subst hj;exact (h.drewN n).set1 _
theorem Jy (w:World) (n b o:Nat) (v:Value):aB (fun k=>k=b) w ((w.drewN n).setCell ⟨b,o,none⟩ v):=((aB.refl _ _).drewN _).setCell _ _ fun _=>rfl
theorem Ht (w:World) (b o:Nat) (v:Value):aB (fun k=>k=b) w (w.setCell ⟨b,o,none⟩ v):=(aB.refl _ _).setCell _ _ fun _=>rfl
theorem d8 {a b:Bool} (h:a=b):Ending.returned (.bool a)=.returned (.bool b):=by rw [h]
theorem Az {a b:Int} (h:a=b):Ending.returned (.int .i64 a)=.returned (.int .i64 b):=by rw [h]
theorem Hq (c:UInt8) (w:World) :
 Calls Tryz.prog 108 #[.int .u8 (c.toNat:Nat)] w fun e w'=>e=.returned (.bool (bD c))∧w=w':=by
 unfold bD;generalize c.toNat=n;go_enter Tryz.func108,Tryz.ntmps108;go_wp2
 all_goals (go_ret;exact⟨d8 (by rw [Bool.eq_iff_iff];simp;omega),rfl⟩)
theorem xZ (c:UInt8) (w:World) :
 Calls Tryz.prog 107 #[.int .u8 (c.toNat:Nat)] w fun e w'=>e=.returned (.bool (aZ c))∧w=w':=by
 unfold aZ;generalize c.toNat=n;go_enter Tryz.func107,Tryz.ntmps107;go_wp2
 all_goals (go_ret;exact⟨d8 (by rw [Bool.eq_iff_iff];simp;omega),rfl⟩)
theorem pW (c:UInt8) (w:World) :
 Calls Tryz.prog 70 #[.int .u8 (c.toNat:Nat)] w fun e w'=>e=.returned (.bool (bD c))∧w=w':=by
 unfold bD;generalize c.toNat=n;go_enter Tryz.func70,Tryz.ntmps70;go_wp2
 all_goals (go_ret;exact⟨d8 (by rw [Bool.eq_iff_iff];simp;omega),rfl⟩)
theorem mP (c:UInt8) (w:World) :
 Calls Tryz.prog 103 #[.int .u8 (c.toNat:Nat)] w fun e w'=>e=.returned (.bool (aZ c))∧w=w':=by
 unfold aZ;generalize c.toNat=n;go_enter Tryz.func103,Tryz.ntmps103;go_wp2
 all_goals (go_ret;exact⟨d8 (by rw [Bool.eq_iff_iff];simp;omega),rfl⟩)
def oN (l:List UInt8) (k:Nat):Prop:=k≤l.length∧(k=0∨1≤k∧dK l=k+bH (l.drop k))
theorem oN.start (l:List UInt8):oN l 0:=⟨Nat.zero_le _,.inl rfl⟩
theorem qR {l:List UInt8} {k:Nat} {c:UInt8} (hk:l[k]? = some c):l.drop k=c::l.drop (k+1):=by
 have h:=(List.getElem?_eq_some_iff.1 hk);obtain⟨h1,h2⟩:=h;rw [List.drop_eq_getElem_cons h1,h2]
theorem sA (c:UInt8) (t:List UInt8):dK (c::t)=if aZ c then bH t+1 else 0:=rfl
theorem oN.next {l:List UInt8} {k:Nat} {c:UInt8} (h:oN l k) (hk:l[k]? = some c) (hc:(aZ c || decide (0<k) && bD c)=true):oN l (k+1):=by
 have hlt:=(List.getElem?_eq_some_iff.1 hk).1;have hd:=qR hk;refine⟨hlt,.inr ⟨by omega,?_⟩⟩;rcases h.2 with rfl | ⟨h1,h2⟩
 ·have e:aZ c=true:=by simpa using hc
  rw [List.drop_zero] at hd;rw [hd,sA,if_pos e];simp;omega
 ·rw [h2,hd];rw [bH,if_pos (by cases hl:aZ c<;>rw [hl] at hc<;>simp at hc ⊢;exact hc.2)];omega
theorem oN.stop {l:List UInt8} {k:Nat} {c:UInt8} (h:oN l k) (hk:l[k]? = some c) (hc:(aZ c || decide (0<k) && bD c)=false):dK l=k:=by
 have hd:=qR hk;have hl:aZ c=false:=by cases e:aZ c;rfl;rw [e] at hc;simp at hc
 rcases h.2 with rfl | ⟨h1,h2⟩
 ·rw [List.drop_zero] at hd;rw [hd,sA,hl];rfl
 ·have hg:bD c=false:=by rw [hl,decide_eq_true (by omega:0<k)] at hc;simpa using hc
  rw [h2,hd,bH,hl,hg];simp
theorem oN.over {l:List UInt8} {k:Nat} (h:oN l k) (hk:k=l.length):dK l=k:=by
 rcases h.2 with rfl | ⟨h1,h2⟩
 ·have:l=[]:=List.eq_nil_of_length_eq_zero hk.symm;rw [this];rfl
 ·rw [h2,hk,List.drop_length];rfl
theorem Bk {s:ByteArray} {k:Nat} (hk:k<s.size):s.data.toList[k]? = some s[k]:=by
 have h':k<s.data.toList.length:=by simpa using hk
 rw [List.getElem?_eq_getElem h'];simp;rfl
theorem qW {s:ByteArray} {i k:Nat} (hk:i+k<s.size):(rest s i)[k]? = some s[i+k]:=by
 unfold rest;rw [List.getElem?_drop,Bk hk]
theorem dG (s:ByteArray) (i:Nat) (w:World) (hs:s.size≤140737488351232) (hi:i≤s.size) :
 Calls Tryz.prog 69 #[.string s,.int .i64 i] w fun e w'=>e=.returned (.int .i64 (dK (rest s i)))∧w=w':=by
 generalize hR:dK (rest s i)=R;have HR:=Hd hR;clear hR;have hlen:=cM s i;have HLEN:=Hd hlen;clear hlen;go_enter Tryz.func69,Tryz.ntmps69;go_wp2_with fail;go_loop [5] (fun n=>∃k:Nat,n=.int .i64 k∧Hid (oN (rest s i) k)) (fun n=>s.size - i - (intOf n).toNat)
 case atStart=>exact⟨0,rfl,Hd (oN.start _)⟩
 case round=>
  obtain⟨k,rfl,HK⟩:=hrel;have hk:=HK.o.1;rw [HLEN.o] at hk;have e2:((i:Int)+(k:Int)).toNat=i+k:=by omega
  have p0:0≤(i:Int)+(k:Int):=by omega
  by_cases hlt:i+k<s.size
  ·have HG:=Hd (qW hlt);have p1:(i:Int)+(k:Int)<(s.size:Int):=by omega
   cases hl:aZ s[i+k]
   ·have HL:=Hd hl;clear hl;by_cases h0:0<k
    ·cases hd:bD s[i+k]
     ·have hr:(k:Nat)=R:=by rw [←HR.o];exact (HK.o.stop HG.o (by rw [HL.o,hd];simp)).symm
      have HD:=Hd hd;clear hd;have HRR:=Hd hr;clear hr;go_wp2_with (first | (go_at_call 103;refine (mP _ _).mono ?_;rintro e w1 ⟨rfl,rfl⟩;rw [HL.o]) | (go_at_call 70;refine (pW _ _).mono ?_;rintro e w1 ⟨rfl,rfl⟩;rw [HD.o]));go_ret;exact⟨Az (by rw [HRR.o]),rfl⟩
     ·have hn:=HK.o.next HG.o (by rw [HL.o,hd,decide_eq_true h0];rfl);have HN:=Hd hn;clear hn;have HD:=Hd hd;clear hd;go_wp2_with (first | (go_at_call 103;refine (mP _ _).mono ?_;rintro e w1 ⟨rfl,rfl⟩;rw [HL.o]) | (go_at_call 70;refine (pW _ _).mono ?_;rintro e w1 ⟨rfl,rfl⟩;rw [HD.o]));go_round
      case rel=>exact⟨k+1,by go_num,HN⟩
      case measure=>simp [intOf];omega
    ·obtain rfl:k=0:=by omega
     have hr:(0:Nat)=R:=by rw [←HR.o];exact (HK.o.stop HG.o (by rw [HL.o];simp)).symm
     have HRR:=Hd hr;clear hr;go_wp2_with (first | (go_at_call 103;refine (mP _ _).mono ?_;rintro e w1 ⟨rfl,rfl⟩;first | rw [HL.o] | (simp only [Nat.add_zero] at HL;rw [HL.o])));go_ret;exact⟨Az (by rw [←HRR.o];rfl),rfl⟩
   ·have hn:=HK.o.next HG.o (by rw [hl];rfl);have HN:=Hd hn;clear hn;have HL:=Hd hl;clear hl;go_wp2_with (first | (go_at_call 103;refine (mP _ _).mono ?_;rintro e w1 ⟨rfl,rfl⟩;rw [HL.o]));go_round
    case rel=>exact⟨k+1,by go_num,HN⟩
    case measure=>simp [intOf];omega
  ·have hr:(k:Nat)=R:=by rw [←HR.o];exact (HK.o.over (by rw [HLEN.o];omega)).symm
   have HRR:=Hd hr;clear hr;go_wp2_with fail;go_ret;exact⟨Az (by rw [HRR.o]),rfl⟩
theorem rL:∀{l:List (List UInt8)} {r:List UInt8} {k:Nat},(∀j,j<k→aI (l.getD j []) r=false)→k<l.length→aI (l.getD k []) r=true→gH l r=l.getD k []
 | [],_,_,_,hk,_=>absurd hk (Nat.not_lt_zero _)
 | o::l,r,0,_,_,h=>by
  simp at h;simp [gH,h]
 | o::l,r,k+1,hn,hk,h=>by
  have h0:=hn 0 (by omega);simp at h0;have ih:=rL (l:=l) (r:=r) (k:=k) (fun j hj=>by simpa using hn (j+1) (by omega)) (by simpa using hk) (by simpa using h);simp only [gH,List.find?_cons,h0];simpa [gH] using ih
theorem pY {l:List (List UInt8)} {r:List UInt8} (h:∀j,j<l.length→aI (l.getD j []) r=false):gH l r=[]:=by
 unfold gH;rw [List.find?_eq_none.2 (fun o ho=>by
  obtain⟨j,hj,rfl⟩:=List.mem_iff_getElem.1 ho;have:=h j hj;rw [List.getD_eq_getElem?_getD,List.getElem?_eq_getElem hj] at this;simpa using this)]
 rfl
theorem rN {l:List (List UInt8)} {r:List UInt8} {k:Nat} (h:∀j,j<k→aI (l.getD j []) r=false) (hk:aI (l.getD k []) r=false):∀j,j<k+1→aI (l.getD j []) r=false:=fun j hj=>by
 by_cases e:j=k
 ·subst e;exact hk
 ·exact h j (by omega)
def opC:Array Value:=#[.string ⟨#[58,45]⟩,.string ⟨#[58,61]⟩,.string ⟨#[58,63]⟩,.string ⟨#[58,43]⟩,.string ⟨#[37,37]⟩,.string ⟨#[35,35]⟩,.string ⟨#[45]⟩,.string ⟨#[61]⟩,.string ⟨#[63]⟩,.string ⟨#[43]⟩,.string ⟨#[37]⟩,.string ⟨#[35]⟩]
theorem Qg (k:Nat) (hk:k<12):opC[k]? = some (e8 (gG.getD k [])):=by
 obtain rfl | rfl | rfl | rfl | rfl | rfl | rfl | rfl | rfl | rfl | rfl | rfl:k=0∨k=1∨k=2∨k=3∨k=4∨k=5∨k=6∨k=7∨k=8∨k=9∨k=10∨k=11:=by omega
 all_goals rfl
theorem N3 (k:Nat) (hk:k<12):(gG.getD k []).length≤3:=by
 have:∀k:Fin 12,(gG.getD k.val []).length≤3:=by decide +kernel
 exact this ⟨k,hk⟩
theorem A9 (s:ByteArray) (i:Nat):aM s i=(rest s i).headD 0:=by
 unfold aM rest;rw [List.getD_eq_getElem?_getD,List.headD_eq_head?_getD,List.head?_drop]
theorem O2 {x c:UInt8}:(((x.toNat:Nat):Int)==((c.toNat:Nat):Int))=(x==c):=by
 rw [Bool.eq_iff_iff,beq_iff_eq,beq_iff_eq];constructor
 ·intro h;exact UInt8.toNat.inj (by omega)
 ·intro h;rw [h]
end Go.Proofs.YtiihpbccabeoeaaGreatDoor
