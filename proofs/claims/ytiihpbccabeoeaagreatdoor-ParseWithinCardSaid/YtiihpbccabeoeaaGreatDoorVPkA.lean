/- The walk: a part. -/
import Derived.Test.YtiihpbccabeoeaaGreatDoorVM
import Derived.Test.YtiihpbccabeoeaaGreatDoorProg
import Derived.WalkKit
import Derived.WalkSpells
import Derived.WalkLawsBesides
import Derived.WalkArith
import Derived.Lib.Strings
import Derived.Lib.Bytealg
import Derived.Lib.IndexLaws
import Derived.Lib.Hide
import Derived.Outline
import Derived.Deep.QuietTactic
import Derived.BigQuiet
import Derived.IntWalk
import Derived.Test.YtiihpbccabeoeaaGreatDoorVShelf
import Derived.Deep.RegionHeld3
import Derived.Deep.AppendLies
import Derived.Laws.OwnMore
import Derived.OneCell
import Derived.RegionTactic
import Derived.ChangeAlike
theorem Go.RowKit.Hid.o {p:Prop} (h:Go.RowKit.Hid p):p:=h.out
namespace Go.Proofs.YtiihpbccabeoeaaGreatDoor
open Go.RowKit
set_option linter.unusedVariables false
set_option maxRecDepth 100000
set_option maxHeartbeats 16000000
theorem lA {α:Type _} {a b:List α}:(a++b).length=a.length+b.length:=List.length_append
theorem lC {α:Type _} {a:α} {l:List α}:(a::l).length=l.length+1:=List.length_cons
theorem lN {α:Type _}:([]:List α).length=0:=List.length_nil
theorem aA {α:Type _} (a b c:List α):a++b++c=a++(b++c):=List.append_assoc a b c
theorem k3 {α:Sort _} {β γ:α→Prop} (a:α) (_:β a) (h:γ a):γ a:=h
abbrev OA:=Option Addr
theorem Hd {p : Prop} (h : p) : Hid p:=Lib.hid h
structure ae (S:Nat→Prop) (w w':World):Prop where
 os:w'.os=w.os
 tape:w'.tape=w.tape
 output:w'.output=w.output
 size:w.heap.size≤w'.heap.size
 block:∀k,k<w.heap.size→¬S k→w'.heap[k]? = w.heap[k]?
abbrev K0:=ae (λ_=>False)
theorem ae.refl (S:Nat→Prop) (w:World):ae S w w:=⟨rfl,rfl,rfl,nC _,λ_ _ _=>rfl⟩
theorem ae.trans {S T:Nat→Prop} {a b c:World} (h:ae S a b) (k:ae T b c) (hT:∀x,x<a.heap.size→T x→S x):ae S a c:=
 ⟨k.os.trans h.os,k.tape.trans h.tape,k.output.trans h.output,nY h.size k.size,λ x hx hs=>(k.block x (uG hx h.size) (λ t=>hs (hT x hx t))).trans (h.block x hx hs)⟩
theorem ae.mono {S T:Nat→Prop} {a b:World} (h:ae S a b) (hT:∀x,x<a.heap.size→S x→T x):ae T a b:=
 ⟨h.os,h.tape,h.output,h.size,λ x hx hs=>h.block x hx (λ s=>hs (hT x hx s))⟩
theorem ae.drewN {S:Nat→Prop} {a b:World} (h:ae S a b) (n:Nat):ae S a (b.drewN n):=by
 induction n with
 | zero=>exact h
 | succ n ih=>exact⟨ih.os,ih.tape,ih.output,ih.size,ih.block⟩
theorem ae.drew {S:Nat→Prop} {a b:World} (h:ae S a b):ae S a b.drew:=⟨h.os,h.tape,h.output,h.size,h.block⟩
theorem ae.alloc {S:Nat→Prop} {a b:World} (h:ae S a b) (o:Obj):ae S a (b.alloc o):=
 ⟨h.os,h.tape,h.output,nY h.size sI,λ x hx hs=>(Below.heap_alloc _ _ _ (uG hx h.size)).trans (h.block x hx hs)⟩
theorem ae.setCell {S:Nat→Prop} {a b:World} (h:ae S a b) (p:Addr) (v:Value) (hp:p.block<a.heap.size→S p.block):ae S a (b.setCell p v):=
 ⟨h.os,h.tape,h.output,nY h.size wC,λ x hx hs=>(Below.heap_setCell _ _ _ _ (λ e=>hs (by rw [e];exact hp (by rw [←e];exact hx)))).trans (h.block x hx hs)⟩
theorem ae.grown {S:Nat→Prop} {a b c:World} {row:Option Nat} (h:ae S a b) (hg:b.grownBy c row) (hr:∀k,row=some k→k<a.heap.size→S k):ae S a c:=
 ⟨hg.os.trans h.os,hg.tape.trans h.tape,hg.output.trans h.output,nY h.size hg.size,λ x hx hs=>(hg.block x (uG hx h.size) (λ e=>hs (hr x e.symm hx))).trans (h.block x hx hs)⟩
theorem ae.below {a b:World} {B:Nat} (h:ae (λ k=>B≤k) a b) (hB:B≤a.heap.size):Below B a b:=
 ⟨h.os,h.tape,h.output,h.size,λ k hk=>h.block k oM oM⟩
def ah (w:World) (b:Nat) (s:ByteArray) (i d:Int):Prop:=∃T,w.heap[b]? = some (.cells #[s,i,d] T (0,0))
theorem ah.lt {w:World} {b:Nat} {s:ByteArray} {i d:Int} (h:ah w b s i d):b<w.heap.size:=by
 exact Kz
theorem ah.cells {w:World} {b:Nat} {s:ByteArray} {i d:Int} (h:ah w b s i d) :
 w.cell? ⟨b,0,none⟩=some (.string s)∧w.cell? ⟨b,1,none⟩=some (.int .i64 i)∧w.cell? ⟨b,2,none⟩=some (.int .i64 d)∧
 w.frozen? ⟨b,1,none⟩=false∧w.frozen? ⟨b,2,none⟩=false:=by
 obtain⟨T,h⟩:=h;refine⟨?_,?_,?_,?_,?_⟩<;>simp [World.cell?,World.frozen?,h]
theorem ah.set1 {w:World} {b:Nat} {s:ByteArray} {i d:Int} (h:ah w b s i d) (j:Int):ah (w.setCell ⟨b,1,none⟩ (.int .i64 j)) b s j d:=by
 exact N6
theorem ah.set2 {w:World} {b:Nat} {s:ByteArray} {i d:Int} (h:ah w b s i d) (j:Int):ah (w.setCell ⟨b,2,none⟩ (.int .i64 j)) b s i j:=by
 exact N6
theorem ah.keep {w w':World} {b:Nat} {s:ByteArray} {i d:Int} {S:Nat→Prop} (h:ah w b s i d) (hk:ae S w w') (hb:¬S b):ah w' b s i d:=by
 exact Ku
theorem ah.drewN {w:World} {b:Nat} {s:ByteArray} {i d:Int} (h:ah w b s i d) (n:Nat):ah (w.drewN n) b s i d:=
 h.keep (S:=λ_=>False) ((ae.refl _ _).drewN n) (λ x=>x)
theorem ah.alloc {w:World} {b:Nat} {s:ByteArray} {i d:Int} (h:ah w b s i d) (o:Obj):ah (w.alloc o) b s i d:=
 h.keep (S:=λ_=>False) ((ae.refl _ _).alloc o) (λ x=>x)
theorem ah.new (w:World) (s:ByteArray) (i d:Int) (T:TypeId):ah (w.alloc (.cells #[s,i,d] T)) w.heap.size s i d:=⟨T,nG w _⟩
def au (s:ByteArray) (k:Nat):UInt8:=s.data.toList.getD k 0
theorem gI {s:ByteArray} {k:Nat} (h:k<s.size):s[k]=au s k:=by
 unfold au;have h':k<s.data.toList.length:=by simpa using h
 rw [List.getD_eq_getElem?_getD,List.getElem?_eq_getElem h'];simp;rfl
def oA (w w':World):Prop:=∃q,w'=w.drewN q
theorem Tb (w:World) (a b:Nat):oA w ((w.drewN a).drewN b):=⟨_,World.drewN_drewN ..⟩
theorem ST (b:Nat) (s:ByteArray) (i k:Nat) (d:Int) (w:World) (h:ah w b s i d) (hs:s.size≤140737488351232) (hi:i≤140737488351232) (hk:k≤140737488351232) :
 Calls Tryz.prog 113 #[.pointer (some ⟨b,0,none⟩),k] w λ e w'=>e=.returned (.int .u8 (au s (i+k)).toNat)∧oA w w':=by
 obtain⟨c0,c1,_,_,_⟩:=h.cells;by_cases aW:i+k<s.size
 ·have e:=gI aW;generalize au s (i+k)=x at e;have E:=Hd e;clear e;have ew:IntKind.i64.wrap ((i:Int)+(k:Int))=(i:Int)+(k:Int):=nL _ oM;have e0:0≤(i:Int)+(k:Int):=oM
  have e1:(i:Int)+(k:Int)<(s.size:Int):=oM
  have e2:((i:Int)+(k:Int)).toNat=i+k:=oM
  go_enter Tryz.func113,Tryz.ntmps113;exact P0
 ·have e:au s (i+k)=0:=by
   unfold au;exact vy
  rw [e];clear e;go_enter Tryz.func113,Tryz.ntmps113;exact KS
theorem dT (b:Nat) (s:ByteArray) (i:Nat) (d:Int) (w:World) (h:ah w b s i d) :
 Calls Tryz.prog 86 #[.pointer (some ⟨b,0,none⟩)] w λ e w'=>e=.returned (.bool (decide (s.size≤i)))∧oA w w':=by
 obtain⟨c0,c1,_,_,_⟩:=h.cells;go_enter Tryz.func86,Tryz.ntmps86;exact QG
def rest (s:ByteArray) (i:Nat):List UInt8:=s.data.toList.drop i
theorem kN (s:ByteArray) (i:Nat):List.take (s.size - i) (List.drop i s.data.toList)=rest s i:=by
 unfold rest;rw [List.take_of_length_le (by rw [nI,←nT];omega)]
theorem gkz (b:Nat) (s t:ByteArray) (i:Nat) (d:Int) (w:World) (h:ah w b s i d) (hi:i≤s.size) (hp:Lib.hasPrefix (rest s i) t.data.toList=false) :
 Calls Tryz.prog 112 #[.pointer (some ⟨b,0,none⟩),t] w λ e w'=>e=.returned (.bool false)∧oA w w':=by
 obtain⟨c0,c1,_,_,_⟩:=h.cells;rw [←kN] at hp;go_enter Tryz.func112,Tryz.ntmps112;go_wp2_with fail;go_quiet ((go_at_call 25;exact nX (Tryz.strings_HasPrefix _ _ _)));exact KX
def VN (w:World) (b:Nat) (s:ByteArray) (j d:Int) (e:Ending) (w':World):Prop:=
 e=.returned (.bool true)∧ah w' b s j d∧ae (λ k=>k=b) w w'
theorem kq (b:Nat) (s t:ByteArray) (i:Nat) (d:Int) (w:World) (h:ah w b s i d) (hs:s.size≤140737488351232) (hi:i≤s.size) (ht:t.size≤100) (hp:Lib.hasPrefix (rest s i) t.data.toList=true) :
 Calls Tryz.prog 112 #[.pointer (some ⟨b,0,none⟩),t] w (VN w b s ((i+t.size:Nat):Int) d):=by
 obtain⟨c0,c1,c2,f1,f2⟩:=h.cells;rw [←kN] at hp;go_enter Tryz.func112,Tryz.ntmps112;go_wp2_with fail;go_quiet ((go_at_call 25;exact nX (Tryz.strings_HasPrefix _ _ _)));go_wp2_with fail;go_ret;exact⟨rfl,by simpa using (h.drewN nq).set1 _,((ae.refl _ _).drewN nq).setCell _ _ (λ_=>rfl)⟩
theorem yC (b:Nat) (s t:ByteArray) (i:Nat) (d:Int) (w:World) (h:ah w b s i d) (hi:s.size≤i) :
 Calls Tryz.prog 111 #[.pointer (some ⟨b,0,none⟩),t] w λ e w'=>e=.returned (.bool false)∧oA w w':=by
 have e:decide (s.size≤i)=true:=nU hi;have E:=Hd e;clear e;go_enter Tryz.func111,Tryz.ntmps111;go_wp2_with fail;go_quiet ((go_at_call 86;exact Calls.quiet_of ((dT b s i d _ (h.drewN _)).mono (λ e w' hh=>by rw [E.out] at hh;exact hh))));exact KX
def xX (t:ByteArray) (c:UInt8):Bool:=decide (0≤Lib.indexByte t.data.toList c)
theorem gi (b:Nat) (s t:ByteArray) (i:Nat) (d:Int) (w:World) (h:ah w b s i d) (hs:s.size≤140737488351232) (hi:i<s.size) (r:Bool) (hr:xX t (au s i)=r) :
 Calls Tryz.prog 111 #[.pointer (some ⟨b,0,none⟩),t] w λ e w'=>e=.returned (.bool r)∧oA w w':=by
 have e:decide (s.size≤i)=false:=nV oM;have E:=Hd e;clear e;obtain⟨c0,c1,_,_,_⟩:=h.cells;have ei:=gI hi;rw [←ei] at hr;have HR:=Hd hr;clear ei hr;have e1:(i:Int)<(s.size:Int):=oM
 go_enter Tryz.func111,Tryz.ntmps111;go_wp2_with fail;go_quiet ((first | (go_at_call 86;exact Calls.quiet_of ((dT b s i d _ (h.drewN _)).mono (λ e w' hh=>by rw [E.out] at hh;exact hh))) | (go_at_call 78;exact nX (Tryz.strings_IndexByte _ _ _))));go_wp2_with fail;go_ret;refine⟨?_,_,rfl⟩;rw [←HR.o];unfold xX;simp
@[reducible] def sQ (x:Nat):Ending:=.panicked [{ v:=.iface 143 (.agg #[x]),recovered:=false }]
theorem fQ (x:Nat) (w:World) :
 Calls Tryz.prog 115 #[x] w λ e w'=>e=sQ x∧w=w':=by
 go_enter Tryz.func115,Tryz.ntmps115;go_wp2_with fail;exact⟨rfl,rfl,rfl⟩
inductive Pt where
 | mk (kind:Nat) (text name op:List UInt8) (word:List Pt) (quoted:Bool)
def Pt.kind:Pt→Nat | .mk k _ _ _ _ _=>k
def Pt.text:Pt→List UInt8 | .mk _ t _ _ _ _=>t
def Pt.name:Pt→List UInt8 | .mk _ _ n _ _ _=>n
def Pt.op:Pt→List UInt8 | .mk _ _ _ o _ _=>o
def Pt.word:Pt→List Pt | .mk _ _ _ _ w _=>w
def Pt.quoted:Pt→Bool | .mk _ _ _ _ _ q=>q
def dD (s:List UInt8):Pt:=.mk 1 s [] [] [] false
def cq (s:List UInt8):Pt:=.mk 2 s [] [] [] false
def Pt.isE (x:Pt):Bool:=x.kind==2 && x.text.isEmpty
def Pt.joins (y x:Pt):Bool:=y.kind==x.kind && (x.kind==1 || x.kind==2)
def Pt.join (y x:Pt):Pt:=.mk y.kind (y.text++x.text) y.name y.op y.word y.quoted
def qq (out:List Pt) (x:Pt):List Pt:=match out.getLast? with
 | some y=>if y.joins x then out.dropLast++[y.join x] else out++[x]
 | none=>[x]
def cd (a:List Pt×Bool) (x:Pt):List Pt×Bool:=if x.isE then (a.1,true) else (qq a.1 x,true)
def cZ (l:List Pt):List Pt×Bool:=l.foldl cd ([],false)
def eh (l:List Pt):List Pt:=if (cZ l).1.isEmpty && (cZ l).2 then [cq []] else (cZ l).1
theorem fE (a b:List Pt):cZ (a++b)=b.foldl cd (cZ a):=by unfold cZ;rw [List.foldl_append]
def vk (l:List Pt):Prop:=∀p∈l,(p.kind=1∨p.kind=2)→p=.mk p.kind p.text [] [] [] false
def er:List Pt→Nat
 | []=>0
 | p::l=>p.text.length+1+er l
theorem bv (a b:List Pt):er (a++b)=er a+er b:=by
 induction a with
 | nil=>simp [er]
 | cons p l ih=>simp only [nZ,er,ih];omega
theorem iq (a:List Pt):a.length≤er a:=by
 induction a with
 | nil=>exact nB _
 | cons p l ih=>simp only [lC,er];omega
theorem vk.append {a b:List Pt} (ha:vk a) (hb:vk b):vk (a++b):=λ p hp=>by
 rcases List.mem_append.1 hp with h | h
 ·exact ha p h
 ·exact hb p h
theorem Ep (a:List Pt) (s:List UInt8):cZ (a++[cq []]++[cq s])=cZ (a++[cq s]):=by
 have h:∀N,cd (cd N (cq [])) (cq s)=cd N (cq s):=λ N=>by
  unfold cd;rw [nE (show (cq []).isE=true from rfl)]
 rw [aA,fE,fE];exact h _
def bG (c:UInt8):Bool:=(97≤c.toNat && c.toNat≤122) || (65≤c.toNat && c.toNat≤90) || c.toNat==95
def bR (c:UInt8):Bool:=48≤c.toNat && c.toNat≤57
def cV (c:UInt8):Bool:=c==63 || c==35 || c==64 || c==42
def bY (c:UInt8):Bool:=c==32 || c==9 || c==10 || c==59 || c==38 || c==124 || c==40 || c==41 || c==60 || c==62
def Aw (c:UInt8):Bool:=c==36 || c==34 || c==92 || c==96
def aP (c:UInt8):List UInt8→Bool
 | []=>false
 | x::_=>x==c
def aI:List UInt8→List UInt8→Bool
 | [],_=>true
 | _::_,[]=>false
 | a::p,b::r=>a==b && aI p r
def bE:List UInt8→Nat
 | []=>0
 | c::t=>if bG c || bR c then bE t+1 else 0
def cU:List UInt8→Nat
 | []=>0
 | c::t=>if bG c then bE t+1 else 0
def fz:List UInt8→Nat
 | []=>0
 | c::t=>if bR c then fz t+1 else 0
def bQ (SV:Bool) (r:List UInt8):Nat:=
 if cU r > 0 then cU r else match r with
 | []=>0
 | c::t=>if bR c then (if SV then fz t+1 else 1) else if cV c then 1 else 0
def eO (l:List (List UInt8)) (r:List UInt8):List UInt8:=((l.find? λ o=>aI o r)).getD []
def it:List (List UInt8):=[[58,45],[58,61],[58,63],[58,43],[37,37],[35,35],[45],[61],[63],[43],[37],[35]]
def lF (r:List UInt8):List UInt8:=eO it r
def f6:List (List UInt8):=[[50,62,62],[50,62],[59,59],[38,38],[124,124],[62,62],[59],[124],[40],[41],[60],[62],[10]]
def dg (r:List UInt8):List UInt8:=eO f6 r
def bX (c:UInt8):List UInt8→Option Nat
 | []=>none
 | x::t=>if x==c then some 0 else (bX c t).map (· + 1)
def ci:Nat→List UInt8→Option Nat
 | _,[]=>none
 | o,c::t=>if c==40 then (ci (o+1) t).map (· + 1)
  else if c==41 then (if o=0 then (if aP 41 t then some 0 else none) else (ci (o - 1) t).map (· + 1))
  else (ci o t).map (· + 1)
inductive SM where
 | n | q1 | q2 | bn | bq
 deriving DecidableEq
def ce:SM→Nat→List UInt8→Option Nat
 | _,_,[]=>none
 | .n,o,c::t=>
  if c==39 then (ce .q1 o t).map (· + 1) else if c==34 then (ce .q2 o t).map (· + 1) else if c==92 then (ce .bn o t).map (· + 1)
  else if c==40 then (ce .n (o+1) t).map (· + 1)
  else if c==41 then (if o=0 then some 0 else (ce .n (o - 1) t).map (· + 1))
  else (ce .n o t).map (· + 1)
 | .q1,o,c::t=>(ce (if c==39 then .n else .q1) o t).map (· + 1)
 | .q2,o,c::t=>(ce (if c==34 then .n else if c==92 then .bq else .q2) o t).map (· + 1)
 | .bn,o,_::t=>(ce .n o t).map (· + 1)
 | .bq,o,_::t=>(ce .q2 o t).map (· + 1)
inductive Md where
 | one (q:Bool) | dq | br (q:Bool) | dol (q:Bool) | brace (q:Bool)
 deriving DecidableEq
abbrev mH:=Except Nat (List Pt×List UInt8)
def mH.ahead (l:List Pt):mH→mH
 | .error e=>.error e
 | .ok (m,r)=>.ok (l++m,r)
def bu (r:List UInt8):Bool:=aP 35 r && !aP 125 r.tail && (lF r.tail).isEmpty
def bN:Nat→Md→Nat→List UInt8→mH
 | 0,_,_,_=>.error 0
 | _+1,.one _,_,[]=>.ok ([],[])
 | n+1,.one false,d,c::t=>
  if c==39 then (match bX 39 t with
   | none=>.error 2
   | some k=>.ok ([cq (t.take k)],t.drop (k+1)))
  else if c==34 then (bN n .dq d t).ahead [cq []]
  else if c==92 then (match t with
   | []=>.ok ([cq [92]],[])
   | x::t'=>if x==10 then .ok ([],t') else .ok ([cq [x]],t'))
  else if c==96 then .error 2
  else if c==36 then bN n (.dol false) d t
  else .ok ([dD [c]],t)
 | n+1,.one true,d,c::t=>
  if c==34 || c==96 then .error 2
  else if c==92 && aP 10 t then .ok ([],t.tail)
  else if c==92 && Aw (t.headD 0) then .ok ([cq [t.headD 0]],t.tail)
  else if c==36 then bN n (.dol true) d t
  else .ok ([cq [c]],t)
 | n+1,.dq,d,r=>match r with
  | []=>.error 2
  | c::t=>if c==34 then .ok ([],t) else match bN n (.one true) d r with
   | .error e=>.error e
   | .ok (l,r1)=>(bN n .dq d r1).ahead l
 | n+1,.br q,d,r=>match r with
  | []=>.error 2
  | c::t=>if c==125 then .ok ([],t) else match bN n (.one q) d r with
   | .error e=>.error e
   | .ok (l,r1)=>(bN n (.br q) d r1).ahead l
 | n+1,.dol q,d,r=>
  if aP 123 r then bN n (.brace q) d r.tail
  else if aI [40,40] r then (match ci 0 (r.drop 2) with
   | none=>.error 2
   | some k=>.ok ([.mk 4 ((r.drop 2).take k) [] [] [] q],(r.drop 2).drop (k+2)))
  else if aP 40 r then (match ce .n 0 r.tail with
   | none=>.error 2
   | some k=>.ok ([.mk 5 (r.tail.take k) [] [] [] q],r.tail.drop (k+1)))
  else if bQ false r=0 then .ok ([if q then cq [36] else dD [36]],r)
  else .ok ([.mk 3 [] (r.take (bQ false r)) [] [] q],r.drop (bQ false r))
 | n+1,.brace q,d,r=>
  let r1:=if bu r then r.tail else r
  let k:=bQ true r1
  let r2:=r1.drop k
  if k=0 then .error 2
  else if aP 125 r2 then .ok ([.mk 3 [] (r1.take k) (if bu r then [76] else []) [] q],r2.tail)
  else if (lF r2).isEmpty || bu r then .error 2
  else if d=40 then .error 3
  else match bN n (.br q) (d+1) (r2.drop (lF r2).length) with
   | .error e=>.error e
   | .ok (l,r3)=>.ok ([.mk 3 [] (r1.take k) (lF r2) (eh l) q],r3)
def i9 (RQ:Bool):Nat→List UInt8→mH
 | 0,_=>.error 0
 | n+1,r=>match r with
  | []=>.ok ([],[])
  | c::_=>if !RQ && bY c then .ok ([],r) else match bN (2*r.length+2) (.one false) 0 r with
   | .error e=>.error e
   | .ok (l,r1)=>(i9 RQ n r1).ahead l
def bU:Bool→List UInt8→List UInt8
 | _,[]=>[]
 | true,c::t=>if c==10 then c::t else bU true t
 | false,c::t=>if c==32 || c==9 then bU false t
  else if c==35 then bU true t
  else if c==92 then (match t with
   | []=>c::t
   | x::t'=>if x==10 then bU false t' else c::t)
  else c::t
structure Tk where
 kind:Nat
 text:List UInt8
 word:List Pt
def oL (x:Tk):Except Nat (List Tk)→Except Nat (List Tk)
 | .error e=>.error e
 | .ok l=>.ok (x::l)
def nz:Nat→List UInt8→Except Nat (List Tk)
 | 0,_=>.error 0
 | n+1,r=>match bU false r with
  | []=>.ok []
  | c::t=>
   if (dg (c::t)).isEmpty then
    if c==38 then .error 2 else match i9 false ((c::t).length+1) (c::t) with
    | .error e=>.error e
    | .ok (l,r1)=>oL ⟨1,[],eh l⟩ (nz n r1)
   else oL ⟨2,dg (c::t),[]⟩ (nz n ((c::t).drop (dg (c::t)).length))
def jp (s:List UInt8):Nat:=if 16384<s.length then 3 else if s.contains 0 then 2 else 0
def ff (s:List UInt8):Except Nat (List Tk):=if jp s=0 then nz (s.length+1) s else .error (jp s)
def dj (l:List UInt8):Value:=.string ⟨l.toArray⟩
def cH (p:Pt) (v:Value):List Value:=[.int .i64 p.kind,dj p.text,dj p.name,dj p.op,v,.bool p.quoted]
theorem jh (p:Pt) (v:Value):(cH p v).length=6:=rfl
def ik (w:World) (b o:Nat) (p:Pt) (v:Value):Prop:=∀j u,(cH p v)[j]? = some u→w.cell? ⟨b,o+j,none⟩=some u
def az (w:World) (D:Nat→Prop):Nat→List Pt→Value→Prop
 | 0,l,v=>l=[]∧∃a c,v=.slice a 0 c∧c≤maxLen
 | n+1,l,v=>∃a c,v=.slice a l.length c∧l.length≤c∧c≤maxLen∧
  ∀i (h:i<l.length),∃b gQ wv,a=some ⟨b,gQ,none⟩∧b<w.heap.size∧D b∧ik w b (gQ+i*6) l[i] wv∧az w D n l[i].word wv
theorem az.keep {w w':World} {D S:Nat→Prop} (hk:ae S w w') (hD:∀b,b<w.heap.size→D b→¬S b):∀{n:Nat} {l:List Pt} {v:Value},az w D n l v→az w' D n l v
 | 0,_,_,h=>h
 | n+1,l,v,⟨a,c,h1,h2,h3,h⟩=>⟨a,c,h1,h2,h3,λ i hi=>by
  obtain⟨b,gQ,wv,e,hb,hd,hc,hw⟩:=h i hi;refine⟨b,gQ,wv,e,uG hb hk.size,hd,λ j u hu=>?_,az.keep hk hD hw⟩;rw [uH (hk.block b hb (hD b hb hd))];exact hc j u hu⟩
theorem az.mono {w:World} {D D':Nat→Prop} (hD:∀b,b<w.heap.size→D b→D' b):∀{n:Nat} {l:List Pt} {v:Value},az w D n l v→az w D' n l v
 | 0,_,_,h=>h
 | n+1,l,v,⟨a,c,h1,h2,h3,h⟩=>⟨a,c,h1,h2,h3,λ i hi=>by
  obtain⟨b,gQ,wv,e,hb,hd,hc,hw⟩:=h i hi;exact⟨b,gQ,wv,e,hb,hD b hb hd,hc,az.mono hD hw⟩⟩
theorem az.succ {w:World} {D:Nat→Prop}:∀{n:Nat} {l:List Pt} {v:Value},az w D n l v→az w D (n+1) l v
 | 0,l,v,⟨h,a,c,e,hc⟩=>by
  subst h;exact⟨a,c,e,nB _,hc,λ i hi=>nQ hi (uC _)⟩
 | n+1,l,v,⟨a,c,h1,h2,h3,h⟩=>⟨a,c,h1,h2,h3,λ i hi=>by
  obtain⟨b,gQ,wv,e,hb,hd,hc,hw⟩:=h i hi;exact⟨b,gQ,wv,e,hb,hd,hc,az.succ hw⟩⟩
theorem az.le {w:World} {D:Nat→Prop} {n m:Nat} {l:List Pt} {v:Value} (h:az w D n l v) (hm:n≤m):az w D m l v:=by
 induction m with
 | zero=>
  obtain rfl:n=0:=oM
  exact h
 | succ m ih=>
  by_cases e:n=m+1
  ·subst e;exact h
  ·exact (ih oM).succ
theorem az.nil (w:World) (D:Nat→Prop) (n:Nat):az w D n [] (.slice none 0 0):=az.le (n:=0) ⟨rfl,none,0,rfl,nB _⟩ (nB _)
theorem az.shape {w:World} {D:Nat→Prop} {n:Nat} {l:List Pt} {v:Value} (h:az w D n l v):∃a c,v=.slice a l.length c∧l.length≤c∧c≤maxLen:=by
 cases n with
 | zero=>obtain⟨rfl,a,c,e,hc⟩:=h;exact⟨a,c,e,nB _,hc⟩
 | succ n=>obtain⟨a,c,h1,h2,h3,_⟩:=h;exact⟨a,c,h1,h2,h3⟩
def bg:List Pt→List Value→List Value
 | p::l,v::vs=>cH p v++bg l vs
 | _,_=>[]
theorem fw:∀{l:List Pt} {vs:List Value},vs.length=l.length→(bg l vs).length=l.length*6
 | [],[],_=>rfl
 | p::l,v::vs,h=>by
  have:=fw (l:=l) (vs:=vs) (by simpa using h);simp only [bg,lA,jh,this,lC];omega
theorem eX:∀{l m:List Pt} {vs us:List Value},vs.length=l.length→bg (l++m) (vs++us)=bg l vs++bg m us
 | [],m,[],us,_=>rfl
 | p::l,m,v::vs,us,h=>by
  simp only [nZ,bg,eX (l:=l) (vs:=vs) (by simpa using h),aA]
theorem jg:∀{l:List Pt} {vs:List Value} {i:Nat} (h:vs.length=l.length) (hi:i<l.length) (j:Nat) (u:Value),(cH l[i] (vs[i]'oM))[j]? = some u→(bg l vs)[i*6+j]? = some u
 | p::l,v::vs,0,h,hi,j,u,hu=>by
  simp only [nN] at hu;rw [Nat.zero_mul,Nat.zero_add];simp only [bg];exact QD
 | p::l,v::vs,i+1,h,hi,j,u,hu=>by
  simp only [List.getElem_cons_succ] at hu;simp only [bg];rw [List.getElem?_append_right (by rw [jh];omega),jh,show (i+1)*6+j - 6=i*6+j by omega];exact jg (by simpa using h) (by simpa using hi) j u hu
def ey (w:World) (D:Nat→Prop) (v:Value) (raw:List Pt):Prop:=
 ∃vs n,vs.length=raw.length∧w.ownsRow 0 67 6 v raw.length (bg raw vs)∧
  ∀i (h:i<raw.length) (h':i<vs.length),az w (λ b=>D b∧v.ownBlock≠some b) n raw[i].word vs[i]
theorem ey.nil (w:World) (D:Nat→Prop):ey w D (.slice none 0 0) []:=
 ⟨[],0,rfl,World.ownsRow_nil _ _ _ _,λ i h=>nQ h (uC _)⟩
theorem ey.shape {w:World} {D:Nat→Prop} {v:Value} {raw:List Pt} (h:ey w D v raw):∃a c,v=.slice a raw.length c∧raw.length≤c∧c≤maxLen:=by
 obtain⟨vs,n,hl,ho,_⟩:=h;exact S6
theorem ey.lt {w:World} {D:Nat→Prop} {v:Value} {raw:List Pt} (h:ey w D v raw) {g:Nat} (hg:v.ownBlock=some g):g<w.heap.size:=by
 obtain⟨vs,n,hl,ho,_⟩:=h;exact (ho.lt g hg).2
theorem ey.keep {w w':World} {D S:Nat→Prop} {v:Value} {raw:List Pt} (h:ey w D v raw) (hk:ae S w w') (hD:∀b,b<w.heap.size→D b→¬S b) (hv:∀g,v.ownBlock=some g→¬S g):ey w' D v raw:=by
 exact Q3
theorem ey.reads {w:World} {D:Nat→Prop} {v:Value} {raw:List Pt} (h:ey w D v raw) (hD:∀g,v.ownBlock=some g→D g):∃n,az w D n raw v:=by
 have hs:=h.shape;obtain⟨vs,n,hl,ho,hn⟩:=h;obtain⟨a,c,e,h1,h2⟩:=hs;subst e;refine⟨n+1,a,c,rfl,h1,h2,λ i hi=>?_⟩;rcases ho.2 with ⟨_,h0⟩ | ⟨g,aC,x8,e,_,hg,_⟩
 ·omega
 simp only [Value.slice.injEq] at e;obtain⟨rfl,_,rfl⟩:=e;refine⟨g,0,vs[i]'oM,rfl,(Array.getElem?_eq_some_iff.1 hg).1,hD g rfl,λ j u hu=>?_,(hn i hi oM).mono λ b _ hb=>hb.1⟩;exact Qa
def dQ (w:World) (b:Nat) (v:Value):Prop:=∃T,w.heap[b]? = some (.cells #[v] T (0,0))
theorem dQ.lt {w:World} {b:Nat} {v:Value} (h:dQ w b v):b<w.heap.size:=by
 exact Kz
theorem dQ.cell {w:World} {b:Nat} {v:Value} (h:dQ w b v):w.cell? ⟨b,0,none⟩=some v∧w.frozen? ⟨b,0,none⟩=false:=by
 exact QN
theorem dQ.set {w:World} {b:Nat} {v:Value} (h:dQ w b v) (u:Value):dQ (w.setCell ⟨b,0,none⟩ u) b u:=by
 exact N6
theorem dQ.keep {w w':World} {b:Nat} {v:Value} {S:Nat→Prop} (h:dQ w b v) (hk:ae S w w') (hb:¬S b):dQ w' b v:=by
 exact Ku
theorem ef:(Tryz.prog.info? 67).map (λ i=>(i.zero,i.size,i.bytes))=some (some (.agg #[.int .i64 0,eS,eS,eS,(),false]),6,88):=kR
theorem bW:Tryz.prog.cellsOf 67=6:=kR
theorem qY {w:World} {e:TypeId} {g c L:Nat} {xs:List Value} (h:w.ownsRow 0 e 6 (.slice (some ⟨g,0,none⟩) (L+1) c) (L+1) (xs++[.int .i64 0,.string ⟨#[]⟩,.string ⟨#[]⟩,.string ⟨#[]⟩,.slice none 0 0,.bool false])) :
 w.cell? ⟨g,L*6,none⟩=some (.int .i64 0)∧w.cell? ⟨g,L*6+1,none⟩=some (.string ⟨#[]⟩)∧w.cell? ⟨g,L*6+2,none⟩=some (.string ⟨#[]⟩)∧w.cell? ⟨g,L*6+3,none⟩=some (.string ⟨#[]⟩)∧
 w.cell? ⟨g,L*6+4,none⟩=some (.slice none 0 0)∧w.cell? ⟨g,L*6+5,none⟩=some (.bool false)∧
 w.frozen? ⟨g,L*6,none⟩=false∧w.frozen? ⟨g,L*6+1,none⟩=false∧w.frozen? ⟨g,L*6+2,none⟩=false∧w.frozen? ⟨g,L*6+3,none⟩=false∧w.frozen? ⟨g,L*6+4,none⟩=false∧w.frozen? ⟨g,L*6+5,none⟩=false:=by
 have hx:xs.length=L*6:=by have:=h.1;simp at this;omega
 have gC:∀j,j<6→w.cell? ⟨g,L*6+j,none⟩=[Value.int .i64 0,.string ⟨#[]⟩,.string ⟨#[]⟩,.string ⟨#[]⟩,.slice none 0 0,.bool false][j]?:=λ j hj=>by
  rw [h.cellAt _ oM,List.getElem?_append_right oM,hx,show L*6+j - L*6=j by omega]
 exact⟨gC 0 oM,gC 1 oM,gC 2 oM,gC 3 oM,gC 4 oM,gC 5 oM,h.frozenAt _,h.frozenAt _,h.frozenAt _,h.frozenAt _,h.frozenAt _,h.frozenAt _⟩
theorem CZ {w:World} {e:TypeId} {g c:Nat} {xs:List Value} (h:w.ownsRow 0 e 6 (.slice (some ⟨g,0,none⟩) (0+1) c) (0+1) (xs++[.int .i64 0,.string ⟨#[]⟩,.string ⟨#[]⟩,.string ⟨#[]⟩,.slice none 0 0,.bool false])) :
 w.cell? ⟨g,0,none⟩=some (.int .i64 0)∧w.cell? ⟨g,1,none⟩=some (.string ⟨#[]⟩)∧w.cell? ⟨g,2,none⟩=some (.string ⟨#[]⟩)∧w.cell? ⟨g,3,none⟩=some (.string ⟨#[]⟩)∧
 w.cell? ⟨g,4,none⟩=some (.slice none 0 0)∧w.cell? ⟨g,5,none⟩=some (.bool false)∧
 w.frozen? ⟨g,0,none⟩=false∧w.frozen? ⟨g,1,none⟩=false∧w.frozen? ⟨g,2,none⟩=false∧w.frozen? ⟨g,3,none⟩=false∧w.frozen? ⟨g,4,none⟩=false∧w.frozen? ⟨g,5,none⟩=false:=by
 simpa using qY h
theorem xE {w w1:World} {o:Obj} {wb:Nat} {u v:Value} (c0:w.cell? ⟨wb,0,none⟩=some u) (f0:w.frozen? ⟨wb,0,none⟩=false) (lw:wb<w.heap.size) (hv:v.ownBlock≠some wb) (hg:(w.alloc o).drew.grownBy w1 v.ownBlock) :
 w1.cell? ⟨wb,0,none⟩=some u∧w1.frozen? ⟨wb,0,none⟩=false:=by
 have hb:w1.heap[wb]? = w.heap[wb]?:=(hg.block wb (by simp [World.drew];omega) (Ne.symm hv)).trans (Below.heap_alloc _ _ _ lw);exact⟨(uH (a:=⟨wb,0,none⟩) hb).trans c0,(World.frozen?_of_block (a:=⟨wb,0,none⟩) hb).trans f0⟩
theorem pL {v:Value} {wb gg H:Nat} (hv:v.ownBlock≠some wb) (bf:v.ownBlock=some gg∨gg=H+1) (lw:wb<H):gg≠wb:=by
 rcases bf with bf | bf
 ·exact λ e=>hv (e ▸ bf)
 ·omega
def f5 (w:World) (wb L:Nat) (v:Value) (xs:List Value) (e:Ending) (w':World):Prop:=
 e=.returned (.tuple #[])∧∃g aC,dQ w' wb (.slice (some ⟨g,0,none⟩) (L+1) aC)∧w'.ownsRow 0 67 6 (.slice (some ⟨g,0,none⟩) (L+1) aC) (L+1) xs∧
  (v.ownBlock=some g∨w.heap.size≤g)∧g≠wb∧ae (λ b=>b=wb∨v.ownBlock=some b) w w'
def IF (w:World) (g o:Nat) (u0 u1 u2 u3 u4 u5:Value):World:=
 (((((w.setCell ⟨g,o,none⟩ u0).setCell ⟨g,o+1,none⟩ u1).setCell ⟨g,o+2,none⟩ u2).setCell ⟨g,o+3,none⟩ u3).setCell ⟨g,o+4,none⟩ u4).setCell ⟨g,o+5,none⟩ u5
theorem jW {xs ys:List Value} {o j:Nat} (h:xs.length=o) (u:Value):(xs++ys).set (o+j) u=xs++ys.set j u:=by
 rw [List.set_append_right _ _ oM,h,show o+j - o=j by omega]
theorem xi {w:World} {e:TypeId} {g c n o:Nat} {xs:List Value} {z0 z1 z2 z3 z4 z5:Value} (hx:xs.length=o) (h:w.ownsRow 0 e 6 (.slice (some ⟨g,0,none⟩) n c) n (xs++[z0,z1,z2,z3,z4,z5])) (u0 u1 u2 u3 u4 u5:Value) :
 (IF w g o u0 u1 u2 u3 u4 u5).ownsRow 0 e 6 (.slice (some ⟨g,0,none⟩) n c) n (xs++[u0,u1,u2,u3,u4,u5]):=by
 have h0:=(h.stored (o+0) u0).1;rw [jW hx] at h0;have h1:=(h0.stored (o+1) u1).1;rw [jW hx] at h1;have h2:=(h1.stored (o+2) u2).1;rw [jW hx] at h2;have h3:=(h2.stored (o+3) u3).1;rw [jW hx] at h3;have h4:=(h3.stored (o+4) u4).1;rw [jW hx] at h4;have h5:=(h4.stored (o+5) u5).1;rw [jW hx] at h5;exact h5
theorem ae.set1 {S:Nat→Prop} {a b:World} {g:Nat} (h:ae S a b) (o:Nat) (v:Value) (hp:S g):ae S a (b.setCell ⟨g,o,none⟩ v):=h.setCell _ _ λ_=>hp
theorem ln (w:World) (g o:Nat) (u0 u1 u2 u3 u4 u5:Value):ae (λ b=>b=g) w (IF w g o u0 u1 u2 u3 u4 u5):=by
 unfold IF;have h0:=(ae.refl (λ b=>b=g) w).set1 o u0 rfl;have h1:=h0.set1 (o+1) u1 rfl;have h2:=h1.set1 (o+2) u2 rfl;have h3:=h2.set1 (o+3) u3 rfl;have h4:=h3.set1 (o+4) u4 rfl;exact h4.set1 (o+5) u5 rfl
theorem uX {w w1 w2:World} {o:Obj} {wb g aC L:Nat} {u v:Value} {xs:List Value} {z0 z1 z2 z3 z4 z5 u0 u1 u2 u3 u4 u5:Value}
 (aU:w1.ownsRow 0 67 6 (.slice (some ⟨g,0,none⟩) (L+1) aC) (L+1) (xs++[z0,z1,z2,z3,z4,z5])) (hg:(w.alloc o).drew.grownBy w1 v.ownBlock) (bf:v.ownBlock=some g∨g=w.heap.size+1) (oS:g≠wb) (hw:dQ w wb u)
 (hv:v.ownBlock≠some wb)
 (hc:w2=IF (w1.setCell ⟨wb,0,none⟩ (.slice (some ⟨g,0,none⟩) (L+1) aC)) g (L*6) u0 u1 u2 u3 u4 u5∨w2=(IF w1 g (L*6) u0 u1 u2 u3 u4 u5).setCell ⟨wb,0,none⟩ (.slice (some ⟨g,0,none⟩) (L+1) aC)) :
 f5 w wb L v (xs++[u0,u1,u2,u3,u4,u5]) (.returned (.tuple #[])) w2:=by
 have hx:xs.length=L*6:=by have:=aU.1;simp at this;omega
 have k1:ae (λ b=>b=wb∨v.ownBlock=some b) w w1:=((ae.refl _ w).alloc o).drew.grown hg λ k hk _=>.inr hk;have lw:=hw.lt;have dM:dQ w1 wb u:=by
  obtain⟨T,h⟩:=hw;exact⟨T,((hg.block wb (by simp [World.drew];omega) (Ne.symm hv)).trans (Below.heap_alloc _ _ _ lw)).trans h⟩
 have k2:∀k,k<w.heap.size→k=g→(k=wb∨v.ownBlock=some k):=λ k hk e=>by
  rcases bf with bf | bf
  ·exact .inr (by rw [bf,e])
  ·omega
 rcases hc with rfl | rfl
 ·refine⟨rfl,g,aC,?_,?_,?_,oS,?_⟩
  ·exact (dM.set _).keep (ln _ _ _ _ _ _ _ _ _) (Ne.symm oS)
  ·exact Ql
  ·exact Fy
  ·exact Qr
 ·refine⟨rfl,g,aC,?_,?_,?_,oS,?_⟩
  ·exact (dM.keep (ln _ _ _ _ _ _ _ _ _) (Ne.symm oS)).set _
  ·exact Go.ownsRow_setCell_other (xi hx aU _ _ _ _ _ _) (by simpa [Value.ownBlock] using oS) _
  ·exact Fy
  ·exact (k1.trans (ln _ _ _ _ _ _ _ _ _) λ k hk e=>k2 k hk e).setCell _ _ λ_=>.inl rfl
theorem Ii {w w1:World} {o:Obj} {wb g aC:Nat} {u v:Value} {xs:List Value} {z0 z1 z2 z3 z4 z5 u0 u1 u2 u3 u4 u5:Value}
 (aU:w1.ownsRow 0 67 6 (.slice (some ⟨g,0,none⟩) (0+1) aC) (0+1) (xs++[z0,z1,z2,z3,z4,z5])) (hg:(w.alloc o).drew.grownBy w1 v.ownBlock) (bf:v.ownBlock=some g∨g=w.heap.size+1) (oS:g≠wb) (hw:dQ w wb u)
 (hv:v.ownBlock≠some wb) :
 f5 w wb 0 v (xs++[u0,u1,u2,u3,u4,u5]) (.returned (.tuple #[])) (((((((w1.setCell ⟨wb,0,none⟩ (.slice (some ⟨g,0,none⟩) 1 aC)).setCell ⟨g,0,none⟩ u0).setCell ⟨g,1,none⟩ u1).setCell ⟨g,2,none⟩ u2).setCell ⟨g,3,none⟩ u3).setCell ⟨g,4,none⟩ u4).setCell ⟨g,5,none⟩ u5):=
 uX aU hg bf oS hw hv (.inl rfl)
theorem Ij {w w1:World} {o:Obj} {wb g aC:Nat} {u v:Value} {xs:List Value} {z0 z1 z2 z3 z4 z5 u0 u1 u2 u3 u4 u5:Value}
 (aU:w1.ownsRow 0 67 6 (.slice (some ⟨g,0,none⟩) (0+1) aC) (0+1) (xs++[z0,z1,z2,z3,z4,z5])) (hg:(w.alloc o).drew.grownBy w1 v.ownBlock) (bf:v.ownBlock=some g∨g=w.heap.size+1) (oS:g≠wb) (hw:dQ w wb u)
 (hv:v.ownBlock≠some wb) :
 f5 w wb 0 v (xs++[u0,u1,u2,u3,u4,u5]) (.returned (.tuple #[])) (((((((w1.setCell ⟨g,0,none⟩ u0).setCell ⟨g,1,none⟩ u1).setCell ⟨g,2,none⟩ u2).setCell ⟨g,3,none⟩ u3).setCell ⟨g,4,none⟩ u4).setCell ⟨g,5,none⟩ u5).setCell ⟨wb,0,none⟩ (.slice (some ⟨g,0,none⟩) 1 aC)):=
 uX aU hg bf oS hw hv (.inr rfl)
theorem F5 (wb:Nat) (a:OA) (c:Nat) (k:Int) (xs:List Value) (s:ByteArray) (w:World) (hw:dQ w wb (.slice a 0 c)) (aU:w.ownsRow 0 67 6 (.slice a 0 c) 0 xs) (hv:(Value.slice a 0 c).ownBlock≠some wb) (hk:(k==1)=true∧s.toList.isEmpty=false∧(s.toList==[])=false∨(k==1)=false) :
 Calls Tryz.prog 133 #[.pointer (some ⟨wb,0,none⟩),k,s] w (f5 w wb 0 (.slice a 0 c) (xs++[.int .i64 k,.string s,.string ⟨#[]⟩,.string ⟨#[]⟩,.slice none 0 0,.bool false])):=by
 have lw:=hw.lt;obtain⟨c0,f0⟩:=hw.cell;obtain⟨i0,fo,fC,fp,fq⟩:=info_parts ef;have yT:=bW;have HW:=Hd hw;clear hw;rcases hk with ⟨k1,k2,k3⟩ | k1
 all_goals
  go_enter Tryz.func133,Tryz.ntmps133;go_wp2_with fail;go_region_law
   ((
    refine step_append_lies _ rF _ _ _ rF 0 67 i0 _ 6 88 Tryz.underlying29 fo fC fp fq rfl oM (.slice a 0 c) 0 xs rF ((aU.alloc _).drew)
     ⟨w.heap.size,0,none⟩ 1 1 [.int .i64 0,eS,eS,eS,(),false] rF rF (nK (cs:=#[.int .i64 0,.string ⟨#[]⟩,.string ⟨#[]⟩,.string ⟨#[]⟩,.slice none 0 0,.bool false]) (t:=67) (fr:=(0,0)) (nG w _)) oC
     oM uM oM sI (w.heap.size+1) sI ?_;intro gg aC w1 fS ao bf aW
    obtain⟨t0,t1,t2,t3,t4,t5,z0,z1,z2,z3,z4,z5⟩:=CZ fS;have oS:=pL hv bf lw;obtain⟨y0,y1⟩:=xE c0 f0 lw hv ao
))
 all_goals (go_end0;first | (with_reducible exact Ii fS ao bf oS HW.o hv) | (with_reducible exact Ij fS ao bf oS HW.o hv))
def Ff (k lk:Int) (s lt:ByteArray):Prop:=
 ((k==1)=true∧s.toList.isEmpty=false∧(s.toList==[])=false∧(lk==2)=false)∨
 ((k==1)=true∧s.toList.isEmpty=false∧(s.toList==[])=false∧(lk==2)=true∧lt.toList.isEmpty=false∧(lt.toList==[])=false)∨
 ((k==1)=true∧s.toList.isEmpty=false∧(s.toList==[])=false∧(lk==2)=true∧lt.toList.isEmpty=true∧(lt.toList==[])=true∧(k==2)=false)∨
 ((k==1)=false∧(lk==2)=false)∨
 ((k==1)=false∧(lk==2)=true∧lt.toList.isEmpty=false∧(lt.toList==[])=false)
theorem Mo {w w1:World} {o:Obj} {wb g aC L:Nat} {u v:Value} {xs:List Value} {z0 z1 z2 z3 z4 z5 u0 u1 u2 u3 u4 u5:Value}
 (aU:w1.ownsRow 0 67 6 (.slice (some ⟨g,0,none⟩) (L+1) aC) (L+1) (xs++[z0,z1,z2,z3,z4,z5])) (hg:(w.alloc o).drew.grownBy w1 v.ownBlock) (bf:v.ownBlock=some g∨g=w.heap.size+1) (oS:g≠wb) (hw:dQ w wb u)
 (hv:v.ownBlock≠some wb) :
 f5 w wb L v (xs++[u0,u1,u2,u3,u4,u5]) (.returned (.tuple #[])) (((((((w1.setCell ⟨wb,0,none⟩ (.slice (some ⟨g,0,none⟩) (L+1) aC)).setCell ⟨g,L*6,none⟩ u0).setCell ⟨g,L*6+1,none⟩ u1).setCell ⟨g,L*6+2,none⟩ u2).setCell ⟨g,L*6+3,none⟩ u3).setCell ⟨g,L*6+4,none⟩ u4).setCell ⟨g,L*6+5,none⟩ u5):=
 uX aU hg bf oS hw hv (.inl rfl)
theorem Mp {w w1:World} {o:Obj} {wb g aC L:Nat} {u v:Value} {xs:List Value} {z0 z1 z2 z3 z4 z5 u0 u1 u2 u3 u4 u5:Value}
 (aU:w1.ownsRow 0 67 6 (.slice (some ⟨g,0,none⟩) (L+1) aC) (L+1) (xs++[z0,z1,z2,z3,z4,z5])) (hg:(w.alloc o).drew.grownBy w1 v.ownBlock) (bf:v.ownBlock=some g∨g=w.heap.size+1) (oS:g≠wb) (hw:dQ w wb u)
 (hv:v.ownBlock≠some wb) :
 f5 w wb L v (xs++[u0,u1,u2,u3,u4,u5]) (.returned (.tuple #[])) (((((((w1.setCell ⟨g,L*6,none⟩ u0).setCell ⟨g,L*6+1,none⟩ u1).setCell ⟨g,L*6+2,none⟩ u2).setCell ⟨g,L*6+3,none⟩ u3).setCell ⟨g,L*6+4,none⟩ u4).setCell ⟨g,L*6+5,none⟩ u5).setCell ⟨wb,0,none⟩ (.slice (some ⟨g,0,none⟩) (L+1) aC)):=
 uX aU hg bf oS hw hv (.inr rfl)
theorem Cp (wb g L c:Nat) (k lk:Int) (lt s:ByteArray) (xs:List Value) (w:World) (hw:dQ w wb (.slice (some ⟨g,0,none⟩) (L+1) c)) (aU:w.ownsRow 0 67 6 (.slice (some ⟨g,0,none⟩) (L+1) c) (L+1) xs) (oS:g≠wb) (hL:L≤1000000)
 (hk:xs[L*6]? = some (.int .i64 lk)) (ht:xs[L*6+1]? = some (.string lt))
 (hd:Ff k lk s lt) :
 Calls Tryz.prog 133 #[.pointer (some ⟨wb,0,none⟩),k,s] w (f5 w wb (L+1) (.slice (some ⟨g,0,none⟩) (L+1) c) (xs++[.int .i64 k,.string s,.string ⟨#[]⟩,.string ⟨#[]⟩,.slice none 0 0,.bool false])):=by
 have lw:=hw.lt;obtain⟨c0,f0⟩:=hw.cell;obtain⟨i0,fo,fC,fp,fq⟩:=info_parts ef;have yT:=bW;have p1:0≤(L:Int)+1:=oM
 have p2:(L:Int)<(L:Int)+1:=oM
 have q0:w.cell? ⟨g,L*6,none⟩=some (.int .i64 lk):=(aU.cellAt _ oM).trans hk;have q1:w.cell? ⟨g,L*6+1,none⟩=some (.string lt):=(aU.cellAt _ oM).trans ht;have hv:(Value.slice (some ⟨g,0,none⟩) (L+1) c).ownBlock≠some wb:=by simpa [Value.ownBlock] using oS
 have HW:=Hd hw;have HK:=Hd hk;have HT:=Hd ht;clear hw hk ht;unfold Ff at hd;rcases hd with ⟨k1,k2,k3,k4⟩ | ⟨k1,k2,k3,k4,k5,k6⟩ | ⟨k1,k2,k3,k4,k5,k6,k7⟩ | ⟨k1,k2⟩ | ⟨k1,k2,k3,k4⟩
 all_goals
  go_enter Tryz.func133,Tryz.ntmps133;go_wp2_with fail;go_region_law
   ((
    refine step_append_lies _ rF _ _ _ rF 0 67 i0 _ 6 88 Tryz.underlying29 fo fC fp fq rfl oM (.slice (some ⟨g,0,none⟩) (L+1) c) (L+1) xs rF ((aU.alloc _).drew)
     ⟨w.heap.size,0,none⟩ 1 1 [.int .i64 0,eS,eS,eS,(),false] rF rF (nK (cs:=#[.int .i64 0,.string ⟨#[]⟩,.string ⟨#[]⟩,.string ⟨#[]⟩,.slice none 0 0,.bool false]) (t:=67) (fr:=(0,0)) (nG w _)) oC
     oM uM oM sI (w.heap.size+1) sI ?_;intro gg aC w1 fS ao bf aW
    obtain⟨t0,t1,t2,t3,t4,t5,z0,z1,z2,z3,z4,z5⟩:=qY fS;obtain⟨y0,y1⟩:=xE c0 f0 lw hv ao;have G7:=pL hv bf lw))
  all_goals (go_end0;first | (with_reducible exact Mo fS ao bf G7 HW.o hv) | (with_reducible exact Mp fS ao bf G7 HW.o hv))
theorem OX (wb g L c:Nat) (lt s:ByteArray) (xs:List Value) (w:World) (hw:dQ w wb (.slice (some ⟨g,0,none⟩) (L+1) c)) (aU:w.ownsRow 0 67 6 (.slice (some ⟨g,0,none⟩) (L+1) c) (L+1) xs) (oS:g≠wb) (hL:L≤1000000)
 (hk:xs[L*6]? = some (.int .i64 2)) (ht:xs[L*6+1]? = some (.string lt)) (k5:lt.toList.isEmpty=true) (k6:(lt.toList==[])=true) :
 Calls Tryz.prog 133 #[.pointer (some ⟨wb,0,none⟩),.int .i64 2,s] w λ e w'=>e=.returned (.tuple #[])∧w'=w.setCell ⟨g,L*6+1,none⟩ (.string s):=by
 have lw:=hw.lt;obtain⟨c0,f0⟩:=hw.cell;have yT:=bW;have p1:0≤(L:Int)+1:=oM
 have p2:(L:Int)<(L:Int)+1:=oM
 have q0:w.cell? ⟨g,L*6,none⟩=some (.int .i64 2):=(aU.cellAt _ oM).trans hk;have q1:w.cell? ⟨g,L*6+1,none⟩=some (.string lt):=(aU.cellAt _ oM).trans ht;have q2:=aU.frozenAt (L*6+1);clear hw hk ht;go_enter Tryz.func133,Tryz.ntmps133;go_wp2_with fail;exact nJ (results_none rfl _ _ _) rfl ⟨rfl,rfl⟩
def ml (w:World) (B cs wb:Nat) (g:Option Nat) (N:List Pt×Bool) (m:Nat):Prop:=
 ∃v raw,dQ w wb v∧ey w (λ b=>B≤b∧b≠wb) v raw∧v.ownBlock=g∧g≠some wb∧g≠some cs∧(cs<B∧B≤wb)∧cZ raw=N∧vk raw∧er raw≤m
def Fp (cs wb:Nat) (g:Option Nat) (b:Nat):Prop:=b=cs∨b=wb∨g=some b
def jL (w:World) (g g':Option Nat):Prop:=g'=g∨∃x,g'=some x∧w.heap.size≤x
theorem jL.refl (w:World) (g:Option Nat):jL w g g:=.inl rfl
theorem jL.trans {w w':World} {g g' g'':Option Nat} (h:jL w g g') (hs:w.heap.size≤w'.heap.size) (k:jL w' g' g''):jL w g g'':=by
 rcases k with rfl | ⟨x,e,hx⟩
 ·exact h
 ·exact .inr ⟨x,e,oM⟩
theorem ae.next {w w1 w2:World} {cs wb:Nat} {g g1:Option Nat} (h:ae (Fp cs wb g) w w1) (hn:jL w g g1) (k:ae (Fp cs wb g1) w1 w2):ae (Fp cs wb g) w w2:=
 h.trans k λ x hx t=>by
  rcases t with t | t | t
  ·exact .inl t
  ·exact .inr (.inl t)
  ·rcases hn with rfl | ⟨y,e,hy⟩
   ·exact .inr (.inr t)
   ·rw [e] at t;obtain rfl:y=x:=nD t;omega
theorem ml.keep {w w':World} {B cs wb:Nat} {g:Option Nat} {N:List Pt×Bool} {m:Nat} {S:Nat→Prop} (h:ml w B cs wb g N m) (hk:ae S w w') (hS:∀b,b<w.heap.size→S b→b=cs):ml w' B cs wb g N m:=by
 obtain⟨v,raw,hw,ho,rfl,h1,h2,h3,h4,h5,h6⟩:=h;have lw:=hw.lt;refine⟨v,raw,hw.keep hk λ s=>by have:=hS _ lw s;omega,ho.keep hk (λ b hb hd s=>by have:=hS b hb s;have:=hd.1;omega) (λ x hx s=>h2 (by rw [hx,hS x (ho.lt hx) s])),rfl,h1,h2,h3,h4,h5,h6⟩
theorem ml.wlt {w:World} {B cs wb:Nat} {g:Option Nat} {N:List Pt×Bool} {m:Nat} (h:ml w B cs wb g N m):wb<w.heap.size:=by
 obtain⟨v,raw,hw,_⟩:=h;exact hw.lt
theorem ml.mono {w:World} {B cs wb:Nat} {g:Option Nat} {N:List Pt×Bool} {m m':Nat} (h:ml w B cs wb g N m) (hm:m≤m'):ml w B cs wb g N m':=by
 obtain⟨v,raw,hw,ho,e,h1,h2,h3,h4,h5,h6⟩:=h;exact⟨v,raw,hw,ho,e,h1,h2,h3,h4,h5,oM⟩
def jB (w:World) (B cs wb:Nat) (g:Option Nat) (N:List Pt×Bool) (m:Nat) (e:Ending) (w':World):Prop:=
 e=.returned (.tuple #[])∧∃g',ml w' B cs wb g' N m∧jL w g g'∧ae (λ b=>b=wb∨g=some b) w w'
theorem Ln {w w':World} {v v':Value} {B wb:Nat} {raw:List Pt} {x:Pt} {vs:List Value} {n:Nat} {wv:Value} (hx:x.word=[]) (hwv:wv=.slice none 0 0) (hl:vs.length=raw.length)
 (eD:∀i (h:i<raw.length) (h':i<vs.length),az w (λ b=>(B≤b∧b≠wb)∧v.ownBlock≠some b) n raw[i].word vs[i])
 (aU:w'.ownsRow 0 67 6 v' (raw.length+1) (bg raw vs++cH x wv)) (hk:ae (λ b=>b=wb∨v.ownBlock=some b) w w')
 (hg:∀y,v'.ownBlock=some y→v.ownBlock=some y∨w.heap.size≤y) (aW:∀i (h:i<raw.length) (h':i<vs.length),az w (λ b=>(B≤b∧b≠wb)∧v.ownBlock≠some b) n raw[i].word vs[i]) :
 ey w' (λ b=>B≤b∧b≠wb) v' (raw++[x]):=by
 refine⟨vs++[wv],n,by simp [hl],?_,λ i h h'=>?_⟩
 ·exact KD
 ·by_cases hi:i<raw.length
  ·rw [uA hi,uA oM];have h1:=(eD i hi oM).keep hk (λ b _ hd s=>by rcases s with s | s;exact hd.1.2 s;exact hd.2 s);have h2:az w (λ b=>((B≤b∧b≠wb)∧v.ownBlock≠some b)∧b<w.heap.size) n raw[i].word (vs[i]'oM):=(eD i hi oM).mono λ b hb hd=>⟨hd,hb⟩;exact PJ
  ·have fm:i=raw.length:=by simp at h;omega
   subst fm;rw [uB (nC _),uB oM];simp only [hl,Nat.sub_self,nN,hx,hwv];exact az.nil _ _ _
theorem eN {s:ByteArray} (h:s.data.toList=[]):s.toList.isEmpty=true∧(s.toList==[])=true:=by
 rw [Lib.toList_data,h];exact⟨rfl,rfl⟩
theorem fd {s:ByteArray} (h:s.data.toList≠[]):s.toList.isEmpty=false∧(s.toList==[])=false:=by
 rw [Lib.toList_data];cases hs:s.data.toList with
 | nil=>exact nQ hs h
 | cons x y=>exact⟨rfl,rfl⟩
theorem nf (raw:List Pt):raw=[]∨∃l p,raw=l++[p]:=by
 rcases List.eq_nil_or_concat raw with h | ⟨l,p,h⟩
 ·exact .inl h
 ·exact .inr ⟨l,p,by rw [h,List.concat_eq_append]⟩
theorem rB {w:World} {B cs wb:Nat} {v:Value} {raw:List Pt} {vs:List Value} {n m k:Nat} {s:ByteArray} {N:List Pt×Bool} {xs:List Value} {e:Ending} {w':World} (ho:v.ownBlock≠some cs) (qA:cs<B∧B≤wb) (hl:vs.length=raw.length)
 (oZ:xs=bg raw vs++[.int .i64 (k:Nat),.string s,.string ⟨#[]⟩,.string ⟨#[]⟩,.slice none 0 0,.bool false]) (L4:cs<w.heap.size)
 (eD:∀i (h:i<raw.length) (h':i<vs.length),az w (λ b=>(B≤b∧b≠wb)∧v.ownBlock≠some b) n raw[i].word vs[i])
 (pT:vk raw) (hN:cZ raw=N) (hm:er raw≤m) (hp:f5 w wb raw.length v xs e w') :
 jB w B cs wb v.ownBlock (cd N (.mk k s.data.toList [] [] [] false)) (m+s.size+1) e w':=by
 obtain⟨he,g,aC,h1,h2,h3,h4,h5⟩:=hp;have hx:xs=bg raw vs++cH (.mk k s.data.toList [] [] [] false) (.slice none 0 0):=by
  rw [oZ];simp only [cH,dj,Pt.kind,Pt.text,Pt.name,Pt.op,Pt.quoted]
 rw [hx] at h2;refine⟨he,some g,⟨_,raw++[.mk k s.data.toList [] [] [] false],h1,Ln (v:=v) rfl rfl hl eD h2 h5 (λ y hy=>?_) eD,rfl,λ e=>h4 (nD e),?_,qA,?_,pT.append (λ p hp _=>?_),?_⟩,?_,h5⟩
 ·obtain rfl:g=y:=nD hy;exact h3
 ·exact QA
 ·rw [fE,hN];rfl
 ·obtain rfl:=List.mem_singleton.1 hp;rfl
 ·rw [bv];simp only [er,Pt.text];rw [←nT];omega
 ·rcases h3 with h3 | h3
  ·exact .inl h3.symm
  ·exact .inr ⟨g,rfl,h3⟩
theorem vF {l:List Pt} {p:Pt} {vs:List Value} (hl:vs.length=(l++[p]).length):(bg (l++[p]) vs)[l.length*6]? = some (.int .i64 (p.kind:Nat))∧(bg (l++[p]) vs)[l.length*6+1]? = some (dj p.text):=by
 have hi:l.length<(l++[p]).length:=sI
 have e:(l++[p])[l.length]=p:=sI
 refine⟨jg hl hi 0 _ (by rw [e];rfl),jg hl hi 1 _ (by rw [e];rfl)⟩
theorem Co (B cs wb:Nat) (g:Option Nat) (N:List Pt×Bool) (m:Nat) (s:ByteArray) (w:World) (h:ml w B cs wb g N m) (hs:s.data.toList≠[]) (hm:m≤900000) (L4:cs<w.heap.size) :
 Calls Tryz.prog 133 #[.pointer (some ⟨wb,0,none⟩),.int .i64 1,s] w (jB w B cs wb g (cd N (dD s.data.toList)) (m+s.size+1)):=by
 obtain⟨v,raw,hw,ho,rfl,h1,h2,h3,h4,h5,h6⟩:=h;obtain⟨a,c,rfl,h7,h8⟩:=ho.shape;obtain⟨vs,n,hl,aU,eD⟩:=ho;obtain⟨s1,s2⟩:=fd hs;rcases nf raw with rfl | ⟨l,p,rfl⟩
 ·exact (F5 wb a c 1 _ s w hw aU h1 (.inl ⟨rfl,s1,s2⟩)).mono λ e w' hp=>rB (k:=1) h2 h3 hl rfl L4 eD h5 h4 h6 hp
 ·have bS:(l++[p]).length=l.length+1:=sI
  obtain⟨g,hg⟩:∃g,a=some ⟨g,0,none⟩:=by
   exact P4
  subst hg;obtain⟨k1,k2⟩:=vF hl;have iZ:=iq (l++[p]);rw [bS] at iZ;have gC:∀(hh:Ff 1 (p.kind:Nat) s ⟨p.text.toArray⟩),Calls Tryz.prog 133 #[.pointer (some ⟨wb,0,none⟩),.int .i64 1,s] w (jB w B cs wb (Value.slice (some ⟨g,0,none⟩) (l++[p]).length c).ownBlock (cd N (dD s.data.toList)) (m+s.size+1)):=λ hh=>by
   have hb:∀e w',f5 w wb (l++[p]).length (Value.slice (some ⟨g,0,none⟩) (l++[p]).length c) (bg (l++[p]) vs++[.int .i64 1,.string s,.string ⟨#[]⟩,.string ⟨#[]⟩,.slice none 0 0,.bool false]) e w'→jB w B cs wb (Value.slice (some ⟨g,0,none⟩) (l++[p]).length c).ownBlock (cd N (dD s.data.toList)) (m+s.size+1) e w':=
    λ e w' hp=>rB (k:=1) h2 h3 hl rfl L4 eD h5 h4 h6 hp
   rw [bS] at hw aU h1 h2 hb ⊢;exact (Cp wb g l.length c 1 _ _ s _ w hw aU (λ e=>h1 (by rw [e];rfl)) oM k1 k2 hh).mono λ e w' hp=>hb e w' hp
  by_cases e2:p.kind=2
  ·by_cases e3:p.text=[]
   ·obtain⟨t1,t2⟩:=eN (s:=⟨p.text.toArray⟩) e3;exact gC (.inr (.inr (.inl ⟨rfl,s1,s2,by rw [e2];rfl,t1,t2,rfl⟩)))
   ·obtain⟨t1,t2⟩:=fd (s:=⟨p.text.toArray⟩) e3;exact gC (.inr (.inl ⟨rfl,s1,s2,by rw [e2];rfl,t1,t2⟩))
  ·exact gC (.inl ⟨rfl,s1,s2,by rw [nA];omega⟩)
theorem DJ {l:List Pt} {p:Pt} {vs:List Value} {s:List UInt8} (hl:vs.length=(l++[p]).length) (hp:p=cq []):(bg (l++[p]) vs).set (l.length*6+1) (dj s)=bg (l++[cq s]) vs:=by
 obtain⟨us,u,rfl⟩:∃us u,vs=us++[u]:=by
  exact P3
 have hu:us.length=l.length:=by simpa using hl
 rw [eX hu,eX hu,jW (fw hu),hp];rfl
theorem mx (B cs wb:Nat) (g:Option Nat) (N:List Pt×Bool) (m:Nat) (s:ByteArray) (w:World) (h:ml w B cs wb g N m) (hm:m≤900000) (L4:cs<w.heap.size) :
 Calls Tryz.prog 133 #[.pointer (some ⟨wb,0,none⟩),.int .i64 2,s] w (jB w B cs wb g (cd N (cq s.data.toList)) (m+s.size+1)):=by
 obtain⟨v,raw,hw,ho,rfl,h1,h2,h3,h4,h5,h6⟩:=h;have tS:=ho;obtain⟨a,c,rfl,h7,h8⟩:=ho.shape;obtain⟨vs,n,hl,aU,eD⟩:=ho;rcases nf raw with rfl | ⟨l,p,rfl⟩
 ·exact (F5 wb a c 2 _ s w hw aU h1 (.inr rfl)).mono λ e w' hp=>rB (k:=2) h2 h3 hl rfl L4 eD h5 h4 h6 hp
 ·have bS:(l++[p]).length=l.length+1:=sI
  obtain⟨g,hg⟩:∃g,a=some ⟨g,0,none⟩:=by
   exact P4
  subst hg;obtain⟨k1,k2⟩:=vF hl;have iZ:=iq (l++[p]);rw [bS] at iZ;have gC:∀(hh:Ff 2 (p.kind:Nat) s ⟨p.text.toArray⟩),Calls Tryz.prog 133 #[.pointer (some ⟨wb,0,none⟩),.int .i64 2,s] w (jB w B cs wb (Value.slice (some ⟨g,0,none⟩) (l++[p]).length c).ownBlock (cd N (cq s.data.toList)) (m+s.size+1)):=λ hh=>by
   have hb:∀e w',f5 w wb (l++[p]).length (Value.slice (some ⟨g,0,none⟩) (l++[p]).length c) (bg (l++[p]) vs++[.int .i64 2,.string s,.string ⟨#[]⟩,.string ⟨#[]⟩,.slice none 0 0,.bool false]) e w'→jB w B cs wb (Value.slice (some ⟨g,0,none⟩) (l++[p]).length c).ownBlock (cd N (cq s.data.toList)) (m+s.size+1) e w':=
    λ e w' hp=>rB (k:=2) h2 h3 hl rfl L4 eD h5 h4 h6 hp
   rw [bS] at hw aU h1 h2 hb ⊢;exact (Cp wb g l.length c 2 _ _ s _ w hw aU (λ e=>h1 (by rw [e];rfl)) oM k1 k2 hh).mono λ e w' hp=>hb e w' hp
  by_cases e2:p.kind=2
  ·by_cases e3:p.text=[]
   ·obtain⟨t1,t2⟩:=eN (s:=⟨p.text.toArray⟩) e3;have hp:p=cq []:=by
     have:=h5 p sI (.inr e2);rw [e2,e3] at this;exact this
    have oS:g≠wb:=λ e=>h1 (by rw [e];rfl);have TL:=hw;have Rw:=aU;rw [bS] at TL Rw;refine (OX wb g l.length c ⟨p.text.toArray⟩ s _ w TL Rw oS oM (by rw [k1,e2];rfl) k2 t1 t2).mono λ e w' he=>?_;obtain⟨he,rfl⟩:=he;have e9:=(aU.stored (l.length*6+1) (.string s)).1;rw [show Value.string s=dj s.data.toList from rfl,DJ hl hp] at e9;have eP:ae (λ b=>b=g) w (w.setCell ⟨g,l.length*6+1,none⟩ (.string s)):=(ae.refl _ w).set1 _ _ rfl
    refine⟨he,some g,⟨.slice (some ⟨g,0,none⟩) (l++[p]).length c,l++[cq s.data.toList],hw.keep eP oS.symm,⟨vs,n,by simpa using hl,by simpa [dj] using e9,λ i hi ri=>?_⟩,rfl,h1,h2,h3,?_,λ q hq hqk=>?_,?_⟩,.inl rfl,eP.mono λ x _ hx=>.inr (by rw [hx];rfl)⟩
    ·have aQ:(l++[cq s.data.toList])[i].word=((l++[p])[i]'(by simpa using hi)).word:=by
      by_cases hil:i<l.length
      ·rw [uA hil,uA hil]
      ·have:i=l.length:=by simp at hi;omega
       subst this;simp [hp,cq,Pt.word]
     rw [aQ];exact (eD i (by simpa using hi) ri).keep eP (λ b _ hd e=>hd.2 (by rw [e];rfl))
    ·rw [←Ep,←hp,fE,h4];rfl
    ·rcases List.mem_append.1 hq with hq | hq
     ·exact h5 q (by simp [hq]) hqk
     ·obtain rfl:=List.mem_singleton.1 hq;rfl
    ·rw [bv] at h6 ⊢;simp only [er,cq,Pt.text];rw [←nT];omega
   ·obtain⟨t1,t2⟩:=fd (s:=⟨p.text.toArray⟩) e3;exact gC (.inr (.inr (.inr (.inr ⟨rfl,by rw [e2];rfl,t1,t2⟩))))
  ·exact gC (.inr (.inr (.inr (.inl ⟨rfl,by rw [nA];omega⟩))))
def Dw (c:UInt8) (l:List UInt8):Option Nat→Prop
 | none=>∀j:Nat,l[j]?≠some c
 | some k=>k<l.length∧l[k]? = some c∧∀j:Nat,j<k→l[j]?≠some c
theorem ui (c:UInt8) (l:List UInt8):Dw c l (bX c l):=by
 induction l with
 | nil=>intro j;simp
 | cons x t ih=>
  unfold bX;by_cases h:x=c
  ·subst h;rw [beq_self_eq_true,nE rfl];exact⟨sI,sI,λ j hj=>nQ hj (uC _)⟩
  ·rw [nA.2 h,nF sI];cases e:bX c t with
   | none=>
    rw [e] at ih;intro j;cases j with
    | zero=>simp [h]
    | succ j=>simpa using ih j
   | some k=>
    rw [e] at ih;obtain⟨h1,h3,h4⟩:=ih;refine⟨by simpa using h1,by simpa using h3,λ j hj=>?_⟩;cases j with
    | zero=>simp [h]
    | succ j=>simpa using h4 j (Nat.lt_of_succ_lt_succ hj)
theorem pj {c:UInt8} {l:List UInt8} (h:bX c l=none):Lib.indexByte l c = -1:=by
 have hs:Dw c l none:=h ▸ ui c l;have lv:=Lib.indexByte_ge l c;by_cases h1:Lib.indexByte l c = -1
 ·exact h1
 ·obtain⟨o,ho⟩:=Int.eq_ofNat_of_zero_le (show 0≤Lib.indexByte l c by omega);obtain⟨a,b⟩:=Lib.indexByte_some ho;exact nQ a (hs o)
theorem lU {c:UInt8} {l:List UInt8} {k:Nat} (h:bX c l=some k):Lib.indexByte l c=k∧k<l.length:=by
 have hs:Dw c l (some k):=h ▸ ui c l;obtain⟨h1,h2,h3⟩:=hs;refine⟨?_,h1⟩;have lv:=Lib.indexByte_ge l c;by_cases h4:Lib.indexByte l c = -1
 ·exact nQ h2 (Lib.indexByte_none h4 k)
 ·obtain⟨o,ho⟩:=Int.eq_ofNat_of_zero_le (show 0≤Lib.indexByte l c by omega);obtain⟨a,b⟩:=Lib.indexByte_some ho;rw [ho];rcases Nat.lt_trichotomy o k with x | x | x
  ·exact nQ a (h3 o x)
  ·rw [x]
  ·exact nQ h2 (b k x)
theorem aO (s:ByteArray) (i:Nat):(rest s i).length=s.size - i:=by
 unfold rest;rw [nI,←nT]
theorem b8 (s:ByteArray) (i k:Nat):(rest s i).drop k=rest s (i+k):=by
 unfold rest;rw [List.drop_drop]
theorem gx {w:World} {b:Nat} {s:ByteArray} {i d j j':Int} (h:ah w b s i d) (n:Nat) (hj:j'=j):ah ((w.drewN n).setCell ⟨b,1,none⟩ (.int .i64 j)) b s j' d:=by
 subst hj;exact (h.drewN n).set1 _
theorem jU (w:World) (n b o:Nat) (v:Value):ae (λ k=>k=b) w ((w.drewN n).setCell ⟨b,o,none⟩ v):=((ae.refl _ _).drewN _).setCell _ _ λ_=>rfl
theorem mt (w:World) (b o:Nat) (v:Value):ae (λ k=>k=b) w (w.setCell ⟨b,o,none⟩ v):=(ae.refl _ _).setCell _ _ λ_=>rfl
def GB (w:World) (b:Nat) (s:ByteArray) (t:List UInt8) (j d:Int) (e:Ending) (w':World):Prop:=
 ∃r:ByteArray,e=.returned (.string r)∧r.data.toList=t∧ah w' b s j d∧ae (λ k=>k=b) w w'
def vf (w:World) (b x:Nat) (e:Ending) (w':World):Prop:=e=sQ x∧ae (λ k=>k=b) w w'
theorem II (b:Nat) (s:ByteArray) (i:Nat) (d:Int) (w:World) (h:ah w b s i d) (hs:s.size≤140737488351232) (hi:i≤s.size) (hn:bX 39 (rest s i)=none) :
 Calls Tryz.prog 134 #[.pointer (some ⟨b,0,none⟩)] w (vf w b 2):=by
 obtain⟨c0,c1,c2,f1,f2⟩:=h.cells;have hn2:=pj hn;rw [←kN] at hn2;clear hn;go_enter Tryz.func134,Tryz.ntmps134;go_wp2_with fail;go_quiet ((go_at_call 78;exact nX (Tryz.strings_IndexByte _ _ _)));go_wp2_with fail;refine (fQ 2 _).mono ?_;rintro e w1 ⟨rfl,rfl⟩;go_wp2_with fail;exact⟨rfl,rfl,(ae.refl _ _).drewN _⟩
theorem EP (b:Nat) (s:ByteArray) (i k:Nat) (d:Int) (w:World) (h:ah w b s i d) (hs:s.size≤140737488351232) (hi:i≤s.size) (hn:bX 39 (rest s i)=some k) :
 Calls Tryz.prog 134 #[.pointer (some ⟨b,0,none⟩)] w (GB w b s ((rest s i).take k) ((i+(k+1):Nat):Int) d):=by
 obtain⟨c0,c1,c2,f1,f2⟩:=h.cells;obtain⟨hn2,hk⟩:=lU hn;rw [aO] at hk;rw [←kN] at hn2;clear hn;have e1:IntKind.i64.wrap ((i:Int)+(k:Int))=(i:Int)+(k:Int):=nL _ oM;have e2:((i:Int)+(k:Int)).toNat=i+k:=oM
 have p1:0≤(i:Int)+(k:Int):=oM
 have p2:(i:Int)+(k:Int)≤(s.size:Int):=oM
 have p3:(i:Int)≤(i:Int)+(k:Int):=oM
 go_enter Tryz.func134,Tryz.ntmps134;go_wp2_with fail;go_quiet ((go_at_call 78;exact nX (Tryz.strings_IndexByte _ _ _)));go_wp2_with fail;go_quiet (fail);go_wp2_with fail;go_ret;refine⟨_,rfl,?_,?_,?_⟩
 ·rw [Lib.extract_data];unfold rest;congr 1;omega
 ·exact gx h _ oM
 ·exact jU _ _ _ _ _
theorem sh {a b:Bool} (h:a=b):Ending.returned (.bool a)=.returned (.bool b):=by rw [h]
theorem A5 {a b:Int} (h:a=b):Ending.returned (.int .i64 a)=.returned (.int .i64 b):=by rw [h]
theorem gK (c:UInt8) (w:World) :
 Calls Tryz.prog 108 #[.int .u8 (c.toNat:Nat)] w λ e w'=>e=.returned (.bool (bR c))∧w=w':=by
 unfold bR;generalize c.toNat=n;go_enter Tryz.func108,Tryz.ntmps108;exact N4
theorem pN (c:UInt8) (w:World) :
 Calls Tryz.prog 107 #[.int .u8 (c.toNat:Nat)] w λ e w'=>e=.returned (.bool (bG c))∧w=w':=by
 unfold bG;generalize c.toNat=n;go_enter Tryz.func107,Tryz.ntmps107;exact N4
theorem qO (c:UInt8) (w:World) :
 Calls Tryz.prog 70 #[.int .u8 (c.toNat:Nat)] w λ e w'=>e=.returned (.bool (bR c))∧w=w':=by
 unfold bR;generalize c.toNat=n;go_enter Tryz.func70,Tryz.ntmps70;exact N4
theorem ng (c:UInt8) (w:World) :
 Calls Tryz.prog 103 #[.int .u8 (c.toNat:Nat)] w λ e w'=>e=.returned (.bool (bG c))∧w=w':=by
 unfold bG;generalize c.toNat=n;go_enter Tryz.func103,Tryz.ntmps103;exact N4
def mp (l:List UInt8) (k:Nat):Prop:=k≤l.length∧(k=0∨1≤k∧cU l=k+bE (l.drop k))
theorem mp.start (l:List UInt8):mp l 0:=⟨nB _,.inl rfl⟩
theorem mV {l:List UInt8} {k:Nat} {c:UInt8} (hk:l[k]? = some c):l.drop k=c::l.drop (k+1):=by
 have h:=(List.getElem?_eq_some_iff.1 hk);obtain⟨h1,h2⟩:=h;rw [List.drop_eq_getElem_cons h1,h2]
theorem tj (c:UInt8) (t:List UInt8):cU (c::t)=if bG c then bE t+1 else 0:=rfl
theorem mp.next {l:List UInt8} {k:Nat} {c:UInt8} (h:mp l k) (hk:l[k]? = some c) (hc:(bG c || decide (0<k) && bR c)=true):mp l (k+1):=by
 have aW:=(List.getElem?_eq_some_iff.1 hk).1;have hd:=mV hk;refine⟨aW,.inr ⟨oM,?_⟩⟩;rcases h.2 with rfl | ⟨h1,h2⟩
 ·have e:bG c=true:=by simpa using hc
  rw [List.drop_zero] at hd;rw [hd,tj,nE e];simp;omega
 ·rw [h2,hd];rw [bE,nE (by cases hl:bG c<;>rw [hl] at hc<;>simp at hc ⊢;exact hc.2)];omega
theorem mp.stop {l:List UInt8} {k:Nat} {c:UInt8} (h:mp l k) (hk:l[k]? = some c) (hc:(bG c || decide (0<k) && bR c)=false):cU l=k:=by
 have hd:=mV hk;have hl:bG c=false:=by cases e:bG c;rfl;rw [e] at hc;simp at hc
 rcases h.2 with rfl | ⟨h1,h2⟩
 ·rw [List.drop_zero] at hd;rw [hd,tj,hl];rfl
 ·have hg:bR c=false:=by rw [hl,nU (by omega:0<k)] at hc;simpa using hc
  rw [h2,hd,bE,hl,hg];simp
theorem mp.over {l:List UInt8} {k:Nat} (h:mp l k) (hk:k=l.length):cU l=k:=by
 rcases h.2 with rfl | ⟨h1,h2⟩
 ·have:l=[]:=nO hk.symm;rw [this];rfl
 ·rw [h2,hk,List.drop_length];rfl
theorem oJ {s:ByteArray} {k:Nat} (hk:k<s.size):s.data.toList[k]? = some s[k]:=by
 have h':k<s.data.toList.length:=by simpa using hk
 rw [List.getElem?_eq_getElem h'];simp;rfl
theorem nl (s:ByteArray) (w:World) (hs:s.size≤140737488351232) :
 Calls Tryz.prog 174 #[s] w λ e w'=>e=.returned (.int .i64 (cU s.data.toList))∧w=w':=by
 generalize hR:cU s.data.toList=R;have HR:=Hd hR;clear hR;go_enter Tryz.func174,Tryz.ntmps174;go_wp2_with fail;go_loop [3] (λ i=>∃k:Nat,i=.int .i64 k∧Hid (mp s.data.toList k)) (λ i=>s.size - (intOf i).toNat)
 case atStart=>exact⟨0,rfl,Hd (mp.start _)⟩
 case round=>
  obtain⟨k,rfl,HK⟩:=hrel;have hk:=HK.o.1;rw [←nT] at hk;by_cases aW:k<s.size
  ·have HG:=Hd (oJ aW);cases hl:bG s[k]
   ·have HL:=Hd hl;clear hl;by_cases h0:0<k
    ·cases hd:bR s[k]
     ·have hr:(k:Nat)=R:=by rw [←HR.o];exact (HK.o.stop HG.o (by rw [HL.o,hd];simp)).symm
      have HD:=Hd hd;clear hd;have pZ:=Hd hr;clear hr;go_wp2_with (first | (go_at_call 107;refine (pN _ _).mono ?_;rintro e w1 ⟨rfl,rfl⟩;rw [HL.o]) | (go_at_call 108;refine (gK _ _).mono ?_;rintro e w1 ⟨rfl,rfl⟩;rw [HD.o]));exact FB
     ·have hn:=HK.o.next HG.o (by rw [HL.o,hd,nU h0];rfl);have HN:=Hd hn;clear hn;have HD:=Hd hd;clear hd;go_wp2_with (first | (go_at_call 107;refine (pN _ _).mono ?_;rintro e w1 ⟨rfl,rfl⟩;rw [HL.o]) | (go_at_call 108;refine (gK _ _).mono ?_;rintro e w1 ⟨rfl,rfl⟩;rw [HD.o]));exact N5
    ·obtain rfl:k=0:=oM
     have hr:(0:Nat)=R:=by rw [←HR.o];exact (HK.o.stop HG.o (by rw [HL.o];simp)).symm
     have pZ:=Hd hr;clear hr;go_wp2_with (first | (go_at_call 107;refine (pN _ _).mono ?_;rintro e w1 ⟨rfl,rfl⟩;rw [HL.o]) | (go_at_call 108;refine (gK _ _).mono ?_;rintro e w1 ⟨rfl,rfl⟩;rw [HD.o]));go_ret;exact⟨A5 (by rw [←pZ.o];rfl),rfl⟩
   ·have hn:=HK.o.next HG.o (by rw [hl];rfl);have HN:=Hd hn;clear hn;have HL:=Hd hl;clear hl;go_wp2_with (first | (go_at_call 107;refine (pN _ _).mono ?_;rintro e w1 ⟨rfl,rfl⟩;rw [HL.o]));exact N5
  ·have hr:(k:Nat)=R:=by rw [←HR.o];exact (HK.o.over (by rw [←nT];omega)).symm
   have pZ:=Hd hr;clear hr;go_wp2_with fail;exact FB
theorem sg {s:ByteArray} {i k:Nat} (hk:i+k<s.size):(rest s i)[k]? = some s[i+k]:=by
 unfold rest;rw [List.getElem?_drop,oJ hk]
theorem dK (s:ByteArray) (i:Nat) (w:World) (hs:s.size≤140737488351232) (hi:i≤s.size) :
 Calls Tryz.prog 69 #[s,i] w λ e w'=>e=.returned (.int .i64 (cU (rest s i)))∧w=w':=by
 generalize hR:cU (rest s i)=R;have HR:=Hd hR;clear hR;have bS:=aO s i;have Di:=Hd bS;clear bS;go_enter Tryz.func69,Tryz.ntmps69;go_wp2_with fail;go_loop [5] (λ n=>∃k:Nat,n=.int .i64 k∧Hid (mp (rest s i) k)) (λ n=>s.size - i - (intOf n).toNat)
 case atStart=>exact⟨0,rfl,Hd (mp.start _)⟩
 case round=>
  obtain⟨k,rfl,HK⟩:=hrel;have hk:=HK.o.1;rw [Di.o] at hk;have e2:((i:Int)+(k:Int)).toNat=i+k:=oM
  have p0:0≤(i:Int)+(k:Int):=oM
  by_cases aW:i+k<s.size
  ·have HG:=Hd (sg aW);have p1:(i:Int)+(k:Int)<(s.size:Int):=oM
   cases hl:bG s[i+k]
   ·have HL:=Hd hl;clear hl;by_cases h0:0<k
    ·cases hd:bR s[i+k]
     ·have hr:(k:Nat)=R:=by rw [←HR.o];exact (HK.o.stop HG.o (by rw [HL.o,hd];simp)).symm
      have HD:=Hd hd;clear hd;have pZ:=Hd hr;clear hr;go_wp2_with (first | (go_at_call 103;refine (ng _ _).mono ?_;rintro e w1 ⟨rfl,rfl⟩;rw [HL.o]) | (go_at_call 70;refine (qO _ _).mono ?_;rintro e w1 ⟨rfl,rfl⟩;rw [HD.o]));exact FB
     ·have hn:=HK.o.next HG.o (by rw [HL.o,hd,nU h0];rfl);have HN:=Hd hn;clear hn;have HD:=Hd hd;clear hd;go_wp2_with (first | (go_at_call 103;refine (ng _ _).mono ?_;rintro e w1 ⟨rfl,rfl⟩;rw [HL.o]) | (go_at_call 70;refine (qO _ _).mono ?_;rintro e w1 ⟨rfl,rfl⟩;rw [HD.o]));exact N5
    ·obtain rfl:k=0:=oM
     have hr:(0:Nat)=R:=by rw [←HR.o];exact (HK.o.stop HG.o (by rw [HL.o];simp)).symm
     have pZ:=Hd hr;clear hr;go_wp2_with (first | (go_at_call 103;refine (ng _ _).mono ?_;rintro e w1 ⟨rfl,rfl⟩;first | rw [HL.o] | (simp only [Nat.add_zero] at HL;rw [HL.o])));go_ret;exact⟨A5 (by rw [←pZ.o];rfl),rfl⟩
   ·have hn:=HK.o.next HG.o (by rw [hl];rfl);have HN:=Hd hn;clear hn;have HL:=Hd hl;clear hl;go_wp2_with (first | (go_at_call 103;refine (ng _ _).mono ?_;rintro e w1 ⟨rfl,rfl⟩;rw [HL.o]));exact N5
  ·have hr:(k:Nat)=R:=by rw [←HR.o];exact (HK.o.over (by rw [Di.o];omega)).symm
   have pZ:=Hd hr;clear hr;go_wp2_with fail;exact FB
theorem aq:∀(p r:List UInt8),Lib.hasPrefix r p=aI p r:=by
 intro p;induction p with
 | nil=>intro r;cases r<;>rfl
 | cons a p ih=>
  intro r;cases r with
  | nil=>rfl
  | cons b r=>
   show _=(a==b && aI p r);rw [←ih r];simp [Lib.hasPrefix]
   try (constructor<;>(rintro⟨h1,h2⟩;exact⟨h1.symm,h2⟩))
theorem oQ:∀{l:List (List UInt8)} {r:List UInt8} {k:Nat},(∀j,j<k→aI (l.getD j []) r=false)→k<l.length→aI (l.getD k []) r=true→eO l r=l.getD k []
 | [],_,_,_,hk,_=>nQ hk (uC _)
 | o::l,r,0,_,_,h=>by
  simp at h;simp [eO,h]
 | o::l,r,k+1,hn,hk,h=>by
  have h0:=hn 0 oM;simp at h0;have ih:=oQ (l:=l) (r:=r) (k:=k) (λ j hj=>by simpa using hn (j+1) oM) (by simpa using hk) (by simpa using h);simp only [eO,List.find?_cons,h0];simpa [eO] using ih
theorem mW {l:List (List UInt8)} {r:List UInt8} (h:∀j,j<l.length→aI (l.getD j []) r=false):eO l r=[]:=by
 unfold eO;rw [List.find?_eq_none.2 (λ o ho=>by
  obtain⟨j,hj,rfl⟩:=List.mem_iff_getElem.1 ho;have:=h j hj;rw [List.getD_eq_getElem?_getD,List.getElem?_eq_getElem hj] at this;simpa using this)]
 rfl
def Fg (w:World) (b:Nat) (s:ByteArray) (o:List UInt8) (i:Nat) (d:Int) (e:Ending) (w':World):Prop:=
 ∃r:ByteArray,e=.returned (.string r)∧r.data.toList=o∧ah w' b s ((i+o.length:Nat):Int) d∧ae (λ k=>k=b) w w'
theorem oT {l:List (List UInt8)} {r:List UInt8} {k:Nat} (h:∀j,j<k→aI (l.getD j []) r=false) (hk:aI (l.getD k []) r=false):∀j,j<k+1→aI (l.getD j []) r=false:=λ j hj=>by
 by_cases e:j=k
 ·subst e;exact hk
 ·exact h j oM
def U0:Array Value:=#[.string ⟨#[58,45]⟩,.string ⟨#[58,61]⟩,.string ⟨#[58,63]⟩,.string ⟨#[58,43]⟩,.string ⟨#[37,37]⟩,.string ⟨#[35,35]⟩,.string ⟨#[45]⟩,.string ⟨#[61]⟩,.string ⟨#[63]⟩,.string ⟨#[43]⟩,.string ⟨#[37]⟩,.string ⟨#[35]⟩]
theorem Mh (k:Nat) (hk:k<12):U0[k]? = some (dj (it.getD k [])):=by
 obtain rfl | rfl | rfl | rfl | rfl | rfl | rfl | rfl | rfl | rfl | rfl | rfl:k=0∨k=1∨k=2∨k=3∨k=4∨k=5∨k=6∨k=7∨k=8∨k=9∨k=10∨k=11:=oM
 all_goals rfl
theorem F0 (k:Nat) (hk:k<12):(it.getD k []).length≤3:=by
 have:∀k:Fin 12,(it.getD k.val []).length≤3:=by decide +kernel
 exact this ⟨k,hk⟩
theorem OU (w:World) :
 Calls Tryz.prog 188 #[] w λ e w'=>e=.returned (.slice (some ⟨w.heap.size,0,none⟩) 12 12)∧w'=w.alloc (.cells U0 9):=by
 go_enter Tryz.func188,Tryz.ntmps188;go_wp2;go_ret;exact⟨rfl,rfl⟩
theorem Es (b:Nat) (s:ByteArray) (i:Nat) (d:Int) (w:World) (h:ah w b s i d) (hs:s.size≤140737488351232) (hi:i≤s.size) :
 Calls Tryz.prog 171 #[.pointer (some ⟨b,0,none⟩)] w (Fg w b s (lF (rest s i)) i d):=by
 have lb:=h.lt;go_enter Tryz.func171,Tryz.ntmps171;go_wp2_with fail;refine (OU _).mono ?_;rintro e w1 ⟨rfl,dM⟩;have eY:ah w1 b s i d:=by rw [dM];exact h.alloc _
 have pS:ae (λ k=>k=b) w w1:=by rw [dM];exact (ae.refl _ _).alloc _
 have vP:w1.heap[w.heap.size]? = some (.cells U0 9 (0,0)):=by rw [dM];exact nG w _
 generalize w.heap.size=B at lb vP ⊢;clear dM;have HB:=Hd vP;clear vP;have rt:=Hd pS;clear pS;go_wp2_with fail;go_loopw [7] (λ k' wr=>∃k q:Nat,k'=.int .i64 k∧k≤12∧wr=w1.drewN q∧Hid (∀j,j<k→aI (it.getD j []) (rest s i)=false)) (λ k' _=>12 - (intOf k').toNat)
 case atStart=>exact⟨0,0,rfl,oM,rfl,Hd (λ j hj=>nQ hj (uC _))⟩
 case round=>
  obtain⟨k,q,rfl,hk,rfl,HN⟩:=hrel;by_cases aW:k<12
  ·have hc:w1.cell? ⟨B,k,none⟩=some (dj (it.getD k [])):=by
    rw [cell_of_row w1 B k _ _ _ HB.o];exact Mh k aW
   have bS:=F0 k aW;have p1:(k:Int)<12:=oM
   unfold dj at hc;cases e9:aI (it.getD k []) (rest s i)
   ·have HS:=Hd e9;clear e9;have hn2:=oT HN.o HS.o;have Sj:=Hd hn2;clear hn2;generalize it.getD k []=t at hc HS bS;exact WO
   ·have hf:=oQ HN.o (show k<it.length from aW) e9;have HF:=Hd hf;clear hf;have HS:=Hd e9;clear e9;generalize it.getD k []=t at hc HS bS HF;go_wp2_with fail;refine (kq b s _ i d _ (eY.drewN q) hs hi (by rw [nT];simp;omega) (by rw [aq];exact HS.o)).mono ?_;rintro e w2 ⟨rfl,LM,aS⟩;have cK:=Hd LM;clear LM;have cA:=Hd aS;clear aS;go_wp2_with fail
    go_ret;refine⟨_,rfl,?_,?_,?_⟩
    ·rw [show lF (rest s i)=eO it (rest s i) from rfl,HF.o]
    ·rw [show lF (rest s i)=eO it (rest s i) from rfl,HF.o];have:=cK.o;rw [nT] at this;exact this
    ·exact (rt.o.drewN q).trans cA.o (λ x _ hx=>hx)
  ·obtain rfl:k=12:=oM
   have hf:=mW (l:=it) HN.o;have HF:=Hd hf;clear hf;go_wp2_with fail;go_ret;refine⟨_,rfl,?_,?_,?_⟩
   ·rw [show lF (rest s i)=eO it (rest s i) from rfl,HF.o]
   ·rw [show lF (rest s i)=eO it (rest s i) from rfl,HF.o];exact eY.drewN q
   ·exact rt.o.drewN q
def s6:Array Value:=#[.string ⟨#[50,62,62]⟩,.string ⟨#[50,62]⟩,.string ⟨#[59,59]⟩,.string ⟨#[38,38]⟩,.string ⟨#[124,124]⟩,.string ⟨#[62,62]⟩,.string ⟨#[59]⟩,.string ⟨#[124]⟩,.string ⟨#[40]⟩,.string ⟨#[41]⟩,.string ⟨#[60]⟩,.string ⟨#[62]⟩,.string ⟨#[10]⟩]
theorem AV (k:Nat) (hk:k<13):s6[k]? = some (dj (f6.getD k [])):=by
 exact PL
theorem yn (k:Nat) (hk:k<13):(f6.getD k []).length≤3:=by
 have:∀k:Fin 13,(f6.getD k.val []).length≤3:=by decide +kernel
 exact this ⟨k,hk⟩
theorem yo (w:World) :
 Calls Tryz.prog 132 #[] w λ e w'=>e=.returned (.slice (some ⟨w.heap.size,0,none⟩) 13 13)∧w'=w.alloc (.cells s6 9):=by
 go_enter Tryz.func132,Tryz.ntmps132;go_wp2;go_ret;exact⟨rfl,rfl⟩
theorem AW (b:Nat) (s:ByteArray) (i:Nat) (d:Int) (w:World) (h:ah w b s i d) (hs:s.size≤140737488351232) (hi:i≤s.size) :
 Calls Tryz.prog 114 #[.pointer (some ⟨b,0,none⟩)] w (Fg w b s (dg (rest s i)) i d):=by
 have lb:=h.lt;go_enter Tryz.func114,Tryz.ntmps114;go_wp2_with fail;refine (yo _).mono ?_;rintro e w1 ⟨rfl,dM⟩;have eY:ah w1 b s i d:=by rw [dM];exact h.alloc _
 have pS:ae (λ k=>k=b) w w1:=by rw [dM];exact (ae.refl _ _).alloc _
 have vP:w1.heap[w.heap.size]? = some (.cells s6 9 (0,0)):=by rw [dM];exact nG w _
 generalize w.heap.size=B at lb vP ⊢;clear dM;have HB:=Hd vP;clear vP;have rt:=Hd pS;clear pS;go_wp2_with fail;go_loopw [7] (λ k' wr=>∃k q:Nat,k'=.int .i64 k∧k≤13∧wr=w1.drewN q∧Hid (∀j,j<k→aI (f6.getD j []) (rest s i)=false)) (λ k' _=>13 - (intOf k').toNat)
 case atStart=>exact⟨0,0,rfl,oM,rfl,Hd (λ j hj=>nQ hj (uC _))⟩
 case round=>
  obtain⟨k,q,rfl,hk,rfl,HN⟩:=hrel;by_cases aW:k<13
  ·have hc:w1.cell? ⟨B,k,none⟩=some (dj (f6.getD k [])):=by
    rw [cell_of_row w1 B k _ _ _ HB.o];exact AV k aW
   have bS:=yn k aW;have p1:(k:Int)<13:=oM
   unfold dj at hc;cases e9:aI (f6.getD k []) (rest s i)
   ·have HS:=Hd e9;clear e9;have hn2:=oT HN.o HS.o;have Sj:=Hd hn2;clear hn2;generalize f6.getD k []=t at hc HS bS;exact WO
   ·have hf:=oQ HN.o (show k<f6.length from aW) e9;have HF:=Hd hf;clear hf;have HS:=Hd e9;clear e9;generalize f6.getD k []=t at hc HS bS HF;go_wp2_with fail;refine (kq b s _ i d _ (eY.drewN q) hs hi (by rw [nT];simp;omega) (by rw [aq];exact HS.o)).mono ?_;rintro e w2 ⟨rfl,LM,aS⟩;have cK:=Hd LM;clear LM;have cA:=Hd aS;clear aS;go_wp2_with fail
    go_ret;refine⟨_,rfl,?_,?_,?_⟩
    ·rw [show dg (rest s i)=eO f6 (rest s i) from rfl,HF.o]
    ·rw [show dg (rest s i)=eO f6 (rest s i) from rfl,HF.o];have:=cK.o;rw [nT] at this;exact this
    ·exact (rt.o.drewN q).trans cA.o (λ x _ hx=>hx)
  ·obtain rfl:k=13:=oM
   have hf:=mW (l:=f6) HN.o;have HF:=Hd hf;clear hf;go_wp2_with fail;go_ret;refine⟨_,rfl,?_,?_,?_⟩
   ·rw [show dg (rest s i)=eO f6 (rest s i) from rfl,HF.o]
   ·rw [show dg (rest s i)=eO f6 (rest s i) from rfl,HF.o];exact eY.drewN q
   ·exact rt.o.drewN q
theorem lI (s:ByteArray) (i:Nat):au s i=(rest s i).headD 0:=by
 unfold au rest;rw [List.getD_eq_getElem?_getD,List.headD_eq_head?_getD,List.head?_drop]
theorem yU {c:UInt8} (hc:c≠0) (s:ByteArray) (i:Nat):aP c (rest s i)=(au s i==c):=by
 rw [lI];cases rest s i with
 | nil=>
  show false=(0==c);rw [eq_comm,nA];exact Ne.symm hc
 | cons x t=>rfl
theorem oi {x c:UInt8}:(((x.toNat:Nat):Int)==((c.toNat:Nat):Int))=(x==c):=by
 rw [Bool.eq_iff_iff,nH,nH];constructor
 ·intro h;exact UInt8.toNat.inj oM
 ·intro h;rw [h]
theorem Ym {x c:UInt8}:(((x.toNat:Nat):Int) != ((c.toNat:Nat):Int)) = !(x==c):=by
 show (!(((x.toNat:Nat):Int)==((c.toNat:Nat):Int)))=_;rw [oi]
theorem cB (b:Nat) (s:ByteArray) (i:Nat) (d:Int) (w:World) (h:ah w b s i d) (hs:s.size≤140737488351232) (hi:i≤140737488351232) :
 Calls Tryz.prog 113 #[.pointer (some ⟨b,0,none⟩),.int .i64 0] w λ e w'=>e=.returned (.int .u8 (au s i).toNat)∧oA w w':=
 ST b s i 0 d w h hs hi oM
def J8 (w:World) (b:Nat) (s:ByteArray) (r:Bool) (j d:Int) (e:Ending) (w':World):Prop:=
 e=.returned (.bool r)∧ah w' b s j d∧ae (λ k=>k=b) w w'
theorem L6 (b:Nat) (s:ByteArray) (i:Nat) (d:Int) (w:World) (h:ah w b s i d) (hs:s.size≤140737488351232) (hi:i≤s.size) :
 Calls Tryz.prog 170 #[.pointer (some ⟨b,0,none⟩)] w (J8 w b s (bu (rest s i)) ((i+(bu (rest s i)).toNat:Nat):Int) d):=by
 obtain⟨r,hr⟩:∃r,r=bu (rest s i):=⟨_,rfl⟩;rw [←hr];cases h1:aP 35 (rest s i)
 ·have hl:bu (rest s i)=false:=by unfold bu;rw [h1];rfl
  rw [hl] at hr;subst hr;have hb:(((au s i).toNat:Int) != 35)=true:=by
   exact Qu
  clear hl h1;go_enter Tryz.func170,Tryz.ntmps170;go_wp2_with fail;refine (cB b s i d _ h hs oM).mono ?_;rintro e w1 ⟨rfl,q,rfl⟩;go_wp2_with fail;go_ret;exact⟨rfl,h.drewN _,(ae.refl _ _).drewN _⟩
 ·have hb:(((au s i).toNat:Int) != 35)=false:=by
   exact Qu
  have HR:=Hd hr;clear hr;obtain⟨c0,c1,c2,f1,f2⟩:=h.cells;have fm:i<s.size:=by
   rcases nP i s.size with x | x
   ·exact x
   ·have:rest s i=[]:=nO (by rw [aO];omega);rw [this] at h1;cases h1
  have RI:(rest s i).tail=rest s (i+1):=by rw [←b8,List.drop_one]
  have ew:IntKind.i64.wrap ((i:Int)+1)=(i:Int)+1:=nL _ oM;go_enter Tryz.func170,Tryz.ntmps170;go_wp2_with fail;refine (cB b s i d _ h hs oM).mono ?_;rintro e w1 ⟨rfl,q,rfl⟩;go_wp2_with fail;go_region;go_wp2_with fail;obtain⟨w1,dM⟩:∃w1,w1=(w.drewN (q+1)).alloc (.cells #[s,.int .i64 ((i:Int)+1),.int .i64 0] 128):=⟨_,rfl⟩;rw [←dM];have hB:ah w1 w.heap.size s ((i+1:Nat):Int) 0:=by rw [dM];exact ah.new (w.drewN (q+1)) s _ _ _
  have jD:ah w1 b s i d:=by rw [dM];exact (h.drewN _).alloc _
  have bt:ae (λ k=>k=b) w w1:=by rw [dM];exact ((ae.refl _ _).drewN _).alloc _
  have lb:=h.lt;have cM:b≠w.heap.size:=oM
  have aaX:=nC w.heap.size;generalize hBe:w.heap.size=B at hB cM aaX lb ⊢;have HBE:=Hd hBe;clear hBe;have I8:=Hd dM;clear dM h c0 c1 c2 f1 f2;cases h2:aP 125 (rest s (i+1))
  ·have qz:(((au s (i+1)).toNat:Int)==125)=false:=by
    exact Qp
   have hl:r=(lF (rest s (i+1))).isEmpty:=by
    rw [HR.o];unfold bu;rw [h1,RI,h2];simp
   have HL:=Hd hl;clear hl h1 h2;have HB:=Hd hB;clear hB;refine (cB B s (i+1) 0 _ HB.o hs oM).mono ?_;rintro e w2 ⟨rfl,q2,rfl⟩;go_wp2_with fail;refine (Es B s (i+1) 0 _ (HB.o.drewN q2) hs oM).mono ?_;rintro e w3 ⟨o,rfl,ho,eY,hk⟩;have Tn:ah w3 b s i d:=(jD.drewN q2).keep hk cM;have aV:ae (λ k=>k=b) w w3:=(bt.drewN q2).trans hk (λ x hx e=>by exfalso;have:=HBE.o;omega)
   have HO:=Hd ho;have bZ:=Hd aV;have Pg:=Hd Tn;obtain⟨c0,c1,c2,f1,f2⟩:=Tn.cells;clear ho aV hk eY jD bt Tn;by_cases Ee:lF (rest s (i+1))=[]
   ·obtain⟨t1,t2⟩:=eN (s:=o) (HO.o.trans Ee);have hr:r=true:=by rw [HL.o,Ee];rfl
    have pZ:=Hd hr;clear Ee hr;go_wp2_with fail;go_ret;exact⟨by rw [pZ.o];rfl,gx Pg.o 0 (by rw [pZ.o];simp),bZ.o.trans (mt _ _ _ _) (λ x _ hx=>hx)⟩
   ·obtain⟨t1,t2⟩:=fd (s:=o) (by rw [HO.o];exact Ee);have hr:r=false:=by
     rw [HL.o];cases tS:lF (rest s (i+1)) with
     | nil=>exact nQ tS Ee
     | cons x y=>rfl
    have pZ:=Hd hr;clear Ee hr;go_wp2_with fail;go_ret;exact⟨by rw [pZ.o];rfl,by rw [pZ.o];exact Pg.o,bZ.o⟩
  ·have qz:(((au s (i+1)).toNat:Int)==125)=true:=by
    exact Qp
   have hl:r=false:=by
    rw [HR.o];unfold bu;rw [h1,RI,h2];simp
   have HL:=Hd hl;clear hl;clear h1 h2;refine (cB B s (i+1) 0 _ hB hs oM).mono ?_;rintro e w2 ⟨rfl,q2,rfl⟩;go_wp2_with fail;go_ret;exact⟨by rw [HL.o];rfl,by rw [HL.o];exact jD.drewN _,bt.drewN _⟩
end Go.Proofs.YtiihpbccabeoeaaGreatDoor
