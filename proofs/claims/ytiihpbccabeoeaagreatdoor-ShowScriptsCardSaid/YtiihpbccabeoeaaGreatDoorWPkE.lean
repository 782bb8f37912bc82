/- The walk: a part. -/
import Derived.Test.YtiihpbccabeoeaaGreatDoorWPkA
import Derived.Test.YtiihpbccabeoeaaGreatDoorWPkC
import Derived.Lib.LaidTab
import Derived.StillTailTactics
import Derived.Lib.Fields
import Derived.Lib.SlicesS
namespace Go.Proofs.YtiihpbccabeoeaaGreatDoor
open Go.RowKit
set_option linter.unusedVariables false
set_option maxRecDepth 100000
set_option maxHeartbeats 16000000
abbrev Bs:=List UInt8
inductive Dt where
 | int (n:Int)
 | bool (b:Bool)
 | str (l:List UInt8)
 | sl (k:Nat) (cs:List Dt)
/-! Words as trees. -/
mutual
def vR:Pt→List Dt
 | .mk k t n o w q=>[.int (k:Nat),.str t,.str n,.str o,.sl 6 (aY w),.bool q]
def aY:List Pt→List Dt
 | []=>[]
 | p::l=>vR p++aY l
end
def bG (w:List Pt):Dt:=.sl 6 (aY w)
theorem oW (p:Pt):(vR p).length=6:=by cases p;simp [vR]
theorem xA (p:Pt):vR p=[.int (p.kind:Nat),.str p.text,.str p.name,.str p.op,bG p.word,.bool p.quoted]:=by cases p;simp [vR,bG,Pt.kind,Pt.text,Pt.name,Pt.op,Pt.word,Pt.quoted]
theorem i8:aY []=[]:=by simp [aY]
theorem jT (p:Pt) (l:List Pt):aY (p::l)=vR p++aY l:=by simp [aY]
theorem k7:∀l:List Pt,(aY l).length=l.length*6
 | []=>by simp [i8]
 | p::l=>by rw [jT,lA,oW,k7 l,lC];omega
theorem xT:∀{l:List Pt} {i:Nat} (hi:i<l.length) {j:Nat} (hj:j<6),(aY l)[i*6+j]? = (vR l[i])[j]?
 | p::l,0,hi,j,hj=>by
  rw [jT,Nat.zero_mul,Nat.zero_add,List.getElem?_append_left (by rw [oW];exact hj)];rfl
 | p::l,i+1,hi,j,hj=>by
  rw [jT,List.getElem?_append_right (by rw [oW];omega),oW,show (i+1)*6+j - 6=i*6+j by omega];exact xT (l:=l) (by simpa using hi) hj
def ndR (kind:Nat) (not:Bool) (name:List UInt8) (words assigns redirs kids arms:List Dt):List Dt:=
 [.int (kind:Nat),.bool not,.str name,.sl 1 words,.sl 2 assigns,.sl 2 redirs,.sl 8 kids,.sl 2 arms]
abbrev PR (α:Type):=Except Nat (α×List Tk)
def atF (ts:List Tk):Tk:=ts.headD ⟨0,[],[]⟩
def aG (s:Bs) (ts:List Tk):Bool:=(atF ts).kind==2 && (atF ts).text==s
def aR (t:Tk):Bs:=if t.kind==1 then (match t.word with
 | [p]=>if p.kind==1 then p.text else []
 | _=>[]) else []
def aT (s:Bs) (ts:List Tk):Bool:=aR (atF ts)==s
def cC:List Bs:=[[105,102],[116,104,101,110],[101,108,105,102],[101,108,115,101],[102,105],[119,104,105,108,101],[117,110,116,105,108],[100,111],[100,111,110,101],[102,111,114],[105,110],[99,97,115,101],[101,115,97,99],[123],[125],[33]]
def dS:List Bs:=[[105,102],[119,104,105,108,101],[117,110,116,105,108],[102,111,114],[99,97,115,101],[123]]
def jH:List Bs:=[[60],[62],[62,62],[50,62],[50,62,62]]
def bX (ts:List Tk):Bool:=(atF ts).kind==2 && jH.contains (atF ts).text
def bA (ts:List Tk):Bool:=
 if (atF ts).kind==1 then (if cC.contains (aR (atF ts)) then dS.contains (aR (atF ts)) else true) else aG [40] ts || bX ts
def d9 (ts:List Tk):Bool:=bA ts || aT [33] ts
def aF:List Tk→List Tk
 | []=>[]
 | t::r=>if t.kind==2 && t.text==[10] then aF r else t::r
def dW (ts:List Tk):Bool×List Tk:=if aG [59] ts || aG [10] ts then (true,aF ts.tail) else (false,ts)
def qJ (l:List Dt):List Dt:=if l.length=8 then l else ndR 5 false [] [] [] [] l []
def bO (s:Bs):Bool:=!s.isEmpty && decide (s.length≤60) && dK s==s.length
section
variable (cmd:List Tk→PR (List Dt)) (scr:Bs→Except Nat Unit)
def dE:Nat→List Dt→List Tk→PR (List Dt)
 | 0,_,_=>.error 0
 | n+1,acc,ts=>if aG [124] ts then (match cmd (aF ts.tail) with
  | .error e=>.error e
  | .ok (d,r)=>dE n (acc++d) r) else .ok (acc,ts)
def bM (ts:List Tk):PR (List Dt):=match cmd (if aT [33] ts then ts.tail else ts) with
 | .error e=>.error e
 | .ok (d,r)=>match dE cmd (r.length+1) d r with
  | .error e=>.error e
  | .ok (l,r2)=>if l.length=8∧aT [33] ts=false then .ok (l,r2) else .ok (ndR 2 (aT [33] ts) [] [] [] [] l [],r2)
def dU:Nat→List Dt→List Tk→PR (List Dt)
 | 0,_,_=>.error 0
 | n+1,acc,ts=>if aG [38,38] ts then (match bM cmd (aF ts.tail) with
  | .error e=>.error e
  | .ok (d,r)=>dU n (ndR 3 false [] [] [] [] (acc++d) []) r)
  else if aG [124,124] ts then (match bM cmd (aF ts.tail) with
   | .error e=>.error e
   | .ok (d,r)=>dU n (ndR 4 false [] [] [] [] (acc++d) []) r)
  else .ok (acc,ts)
def eN (ts:List Tk):PR (List Dt):=match bM cmd ts with
 | .error e=>.error e
 | .ok (d,r)=>dU cmd (r.length+1) d r
def eE:Nat→List Dt→List Tk→PR (List Dt)
 | 0,_,_=>.error 0
 | n+1,acc,ts=>if (dW ts).1 && d9 (dW ts).2 then (match eN cmd (dW ts).2 with
  | .error e=>.error e
  | .ok (d,r)=>eE n (acc++d) r) else .ok (acc,(dW ts).2)
def sC (ts:List Tk):PR (List Dt):=match eN cmd ts with
 | .error e=>.error e
 | .ok (d,r)=>eE cmd (r.length+1) d r
def cU (ts:List Tk):PR (List Dt):=match sC cmd (aF ts) with
 | .error e=>.error e
 | .ok (l,r)=>.ok (qJ l,r)
def fA (s:Bs) (ts:List Tk):PR Unit:=if aT s ts then .ok ((),ts.tail) else .error 2
def fK (s:Bs) (ts:List Tk):PR Unit:=if aG s ts then .ok ((),ts.tail) else .error 2
mutual
def O6:Pt→Except Nat Unit
 | .mk k t _ _ w _=>match (if k==5 then scr t else .ok ()) with
  | .error e=>.error e
  | .ok _=>gI w
def gI:List Pt→Except Nat Unit
 | []=>.ok ()
 | p::l=>match O6 p with
  | .error e=>.error e
  | .ok _=>gI l
end
def eC (ts:List Tk):PR (List Pt):=if (atF ts).kind==1 && !(atF ts).word.isEmpty then (match gI scr (atF ts).word with
 | .error e=>.error e
 | .ok _=>.ok ((atF ts).word,ts.tail)) else .error 2
def gZ (ts:List Tk):PR (List Dt):=match eC scr ts.tail with
 | .error e=>.error e
 | .ok (w,r)=>.ok ([.str (atF ts).text,bG w],r)
def cN:Nat→List Dt→List Tk→PR (List Dt)
 | 0,_,_=>.error 0
 | n+1,acc,ts=>if bX ts then (match gZ scr ts with
  | .error e=>.error e
  | .ok (d,r)=>cN n (acc++d) r) else .ok (acc,ts)
def j8:Bs→Option (Bs×Bs)
 | []=>none
 | c::t=>if c==61 then some ([],t) else (j8 t).map fun p=>(c::p.1,p.2)
def c8 (w:List Pt):Option (Bs×List Pt):=match w with
 | []=>none
 | p::t=>if p.kind==1 then (match j8 p.text with
  | none=>none
  | some (nm,rest)=>if bO nm then some (nm,if rest.isEmpty then t else eG rest::t) else none) else none
def bL:Nat→List Dt→List Dt→List Dt→List Tk→PR (List Dt)
 | 0,_,_,_,_=>.error 0
 | n+1,ws,gz,rs,ts=>if bX ts then (match gZ scr ts with
  | .error e=>.error e
  | .ok (d,r)=>bL n ws gz (rs++d) r)
  else if (atF ts).kind==1 then (match eC scr ts with
   | .error e=>.error e
   | .ok (w,r)=>match (if ws.isEmpty then c8 w else none) with
    | some (nm,v)=>bL n ws (gz++[.str nm,bG v]) rs r
    | none=>bL n (ws++[bG w]) gz rs r)
  else .ok (ndR 1 false [] ws gz rs [] [],ts)
def dQ (ts:List Tk):PR (List Dt):=match fA [100,111] ts with
 | .error e=>.error e
 | .ok (_,r)=>match cU cmd r with
  | .error e=>.error e
  | .ok (d,r2)=>match fA [100,111,110,101] r2 with
   | .error e=>.error e
   | .ok (_,r3)=>.ok (d,r3)
def fB (kind:Nat) (ts:List Tk):PR (List Dt):=match cU cmd ts with
 | .error e=>.error e
 | .ok (d,r)=>match dQ cmd r with
  | .error e=>.error e
  | .ok (b,r2)=>.ok (ndR kind false [] [] [] [] (d++b) [],r2)
def cA:Nat→List Dt→List Tk→PR (List Dt)
 | 0,_,_=>.error 0
 | n+1,acc,ts=>match cU cmd ts with
  | .error e=>.error e
  | .ok (c,r)=>match fA [116,104,101,110] r with
   | .error e=>.error e
   | .ok (_,r1)=>match cU cmd r1 with
    | .error e=>.error e
    | .ok (b,r2)=>
     if aT [101,108,105,102] r2 then cA n (acc++c++b) r2.tail
     else if aT [101,108,115,101] r2 then (match cU cmd r2.tail with
      | .error e=>.error e
      | .ok (x,r3)=>.ok (acc++c++b++x,r3))
     else .ok (acc++c++b,r2)
def eZ (ts:List Tk):PR (List Dt):=match cA cmd (ts.length+1) [] ts with
 | .error e=>.error e
 | .ok (l,r)=>match fA [102,105] r with
  | .error e=>.error e
  | .ok (_,r2)=>.ok (ndR 6 false [] [] [] [] l [],r2)
def cW:Nat→List Dt→List Tk→PR (List Dt)
 | 0,_,_=>.error 0
 | n+1,acc,ts=>if (atF ts).kind==1 then (match eC scr ts with
  | .error e=>.error e
  | .ok (w,r)=>cW n (acc++[bG w]) r) else .ok (acc,ts)
def gM (ts:List Tk):PR (List Dt):=
 if bO (aR (atF ts)) then
  (if aT [105,110] (aF ts.tail) then (match cW scr ((aF ts.tail).tail.length+1) [] (aF ts.tail).tail with
   | .error e=>.error e
   | .ok (ws,r)=>if aG [59] r || aG [10] r then (match dQ cmd (aF r.tail) with
    | .error e=>.error e
    | .ok (b,r2)=>.ok (ndR 9 false (aR (atF ts)) ws [] [] b [],r2)) else .error 2)
   else match dQ cmd (aF (if aG [59] (aF ts.tail) then (aF ts.tail).tail else aF ts.tail)) with
    | .error e=>.error e
    | .ok (b,r2)=>.ok (ndR 9 false (aR (atF ts)) [bG [.mk 3 [] [64] [] [] true]] [] [] b [],r2))
 else .error 2
def dF:Nat→List Dt→List Tk→PR (List Dt)
 | 0,_,_=>.error 0
 | n+1,acc,ts=>if aG [124] ts then (match eC scr ts.tail with
  | .error e=>.error e
  | .ok (w,r)=>dF n (acc++[bG w]) r) else .ok (acc,ts)
def pJ (ts:List Tk):PR (List Dt):=match eC scr (if aG [40] ts then ts.tail else ts) with
 | .error e=>.error e
 | .ok (w,r)=>match dF scr (r.length+1) [bG w] r with
  | .error e=>.error e
  | .ok (ps,r1)=>match fK [41] r1 with
   | .error e=>.error e
   | .ok (_,r2)=>if d9 (aF r2) then (match cU cmd (aF r2) with
    | .error e=>.error e
    | .ok (b,r3)=>.ok ([.sl 1 ps,.sl 8 b],r3))
    else .ok ([.sl 1 ps,.sl 8 []],aF r2)
def cQ:Nat→List Dt→List Tk→PR (List Dt)
 | 0,_,_=>.error 0
 | n+1,acc,ts=>if aT [101,115,97,99] ts then .ok (acc,ts.tail) else match pJ cmd scr ts with
  | .error e=>.error e
  | .ok (a,r)=>if aG [59,59] r then cQ n (acc++a) (aF r.tail) else match fA [101,115,97,99] r with
   | .error e=>.error e
   | .ok (_,r2)=>.ok (acc++a,r2)
def gC (ts:List Tk):PR (List Dt):=match eC scr ts with
 | .error e=>.error e
 | .ok (w,r)=>match fA [105,110] (aF r) with
  | .error e=>.error e
  | .ok (_,r1)=>match cQ cmd scr ((aF r1).length+1) [] (aF r1) with
   | .error e=>.error e
   | .ok (l,r2)=>.ok (ndR 10 false [] [bG w] [] [] [] l,r2)
def iQ (ts:List Tk):Bool:=aG [40] ts.tail
def eP (name:Bs) (ts:List Tk):PR (List Dt):=match fK [41] ts.tail.tail with
 | .error e=>.error e
 | .ok (_,r)=>if bA (aF r) && (aG [40] (aF r) || cC.contains (aR (atF (aF r)))) then (match cmd (aF r) with
  | .error e=>.error e
  | .ok (d,r2)=>.ok (ndR 11 false name [] [] [] d [],r2))
  else .error 2
def f8 (kind:Nat) (close:List Tk→PR Unit) (ts:List Tk):PR (List Dt):=match cU cmd ts with
 | .error e=>.error e
 | .ok (d,r)=>match close r with
  | .error e=>.error e
  | .ok (_,r2)=>.ok (ndR kind false [] [] [] [] d [],r2)
def bI (q:PR (List Dt)):PR (List Dt):=match q with
 | .error e=>.error e
 | .ok (d,r)=>match cN scr (r.length+1) [] r with
  | .error e=>.error e
  | .ok (rs,r2)=>.ok (d.set 5 (.sl 2 rs),r2)
def bR (ts:List Tk):Option (PR (List Dt)):=
 if aG [40] ts then some (bI scr (f8 cmd 13 (fK [41]) ts.tail))
 else if aT [123] ts then some (bI scr (f8 cmd 12 (fA [125]) ts.tail))
 else if aT [105,102] ts then some (bI scr (eZ cmd ts.tail))
 else if aT [119,104,105,108,101] ts then some (bI scr (fB cmd 7 ts.tail))
 else if aT [117,110,116,105,108] ts then some (bI scr (fB cmd 8 ts.tail))
 else if aT [102,111,114] ts then some (bI scr (gM cmd scr ts.tail))
 else if aT [99,97,115,101] ts then some (bI scr (gC cmd scr ts.tail))
 else if bO (aR (atF ts)) && iQ ts then some (eP cmd (aR (atF ts)) ts)
 else none
def gW (ts:List Tk):PR (List Dt):=match bR cmd scr ts with
 | some q=>q
 | none=>bL scr (ts.length+1) [] [] [] ts
def oI (ts:List Tk):Except Nat (List Dt):=if (aF ts).isEmpty then .ok [] else match sC cmd (aF ts) with
 | .error e=>.error e
 | .ok (l,r)=>if r.isEmpty then .ok (qJ l) else .error 2
def gQ (s:Bs):Except Nat (List Dt):=match kC s with
 | .error e=>.error e
 | .ok ts=>oI cmd ts
end
def bC (cmd:List Tk→PR (List Dt)) (s:Bs):Except Nat Unit:=match gQ cmd s with
 | .error 0=>.ok ()
 | .error (e+1)=>.error (e+1)
 | .ok _=>.ok ()
def aC:Nat→List Tk→PR (List Dt)
 | 0,ts=>if bA ts then .error 3 else .error 2
 | k+1,ts=>if bA ts then gW (aC k) (bC (aC k)) ts else .error 2
def iR (s:Bs):Except Nat (List Dt):=gQ (aC 40) s
inductive Rd (w:World) (D:Nat→Prop):Dt→Value→Prop
 | int (n:Int):Rd w D (.int n) (.int .i64 n)
 | bool (b:Bool):Rd w D (.bool b) (.bool b)
 | str (l:List UInt8):Rd w D (.str l) (e8 l)
 | nil (k c:Nat) (a:OA) (hc:c≤maxLen):Rd w D (.sl k []) (.slice a 0 c)
 | sl (k:Nat) (cs:List Dt) (b off m c:Nat) (vs:Nat→Value) (hm:cs.length=m*k) (hmc:m≤c) (hc:c≤maxLen) (hb:b<w.heap.size) (hD:D b)
  (hv:∀j,j<cs.length→w.cell? ⟨b,off+j,none⟩=some (vs j)) (h:∀j (h:j<cs.length),Rd w D cs[j] (vs j)):Rd w D (.sl k cs) (.slice (some ⟨b,off,none⟩) m c)
def RdL (w:World) (D:Nat→Prop):List Dt→List Value→Prop
 | [],[]=>True
 | d::ds,v::vs=>Rd w D d v∧RdL w D ds vs
 | _,_=>False
section
variable {w w':World} {D D' S:Nat→Prop} {d:Dt} {v:Value} {ds es:List Dt} {vs us:List Value}
theorem Rd.keep (hk:aB S w w') (hD:∀b,b<w.heap.size→D b→¬S b) (h:Rd w D d v):Rd w' D d v:=by
 induction h with
 | int n=>exact .int n
 | bool b=>exact .bool b
 | str l=>exact .str l
 | nil k c a hc=>exact .nil k c a hc
 | sl k cs b off m c vs hm hmc hc hb hd hv h ih=>
  refine .sl k cs b off m c vs hm hmc hc (Nat.lt_of_lt_of_le hb hk.size) hd (fun j hj=>?_) ih;rw [World.cell?_of_block (hk.block b hb (hD b hb hd))];exact hv j hj
theorem Rd.mono (hD:∀b,b<w.heap.size→D b→D' b) (h:Rd w D d v):Rd w D' d v:=by
 induction h with
 | int n=>exact .int n
 | bool b=>exact .bool b
 | str l=>exact .str l
 | nil k c a hc=>exact .nil k c a hc
 | sl k cs b off m c vs hm hmc hc hb hd hv h ih=>exact .sl k cs b off m c vs hm hmc hc hb (hD b hb hd) hv ih
theorem Rd.shape {k:Nat} {cs:List Dt} (hk:0<k) (h:Rd w D (.sl k cs) v):∃a m c,v=.slice a m c∧cs.length=m*k∧m≤c∧c≤maxLen:=by
 cases h with
 | nil _ c a hc=>exact⟨a,0,c,rfl,by simp,Nat.zero_le _,hc⟩
 | sl _ _ b off m c vs hm hmc hc hb hD hv h=>exact⟨_,m,c,rfl,hm,hmc,hc⟩
theorem Rd.cell {k:Nat} {cs:List Dt} {a:OA} {m c:Nat} (h:Rd w D (.sl k cs) (.slice a m c)) {j:Nat} (hj:j<cs.length) :
 ∃b off u,a=some ⟨b,off,none⟩∧b<w.heap.size∧D b∧w.cell? ⟨b,off+j,none⟩=some u∧Rd w D cs[j] u:=by
 cases h with
 | nil _ c a hc=>exact absurd hj (Nat.not_lt_zero _)
 | sl _ _ b off m c vs hm hmc hc hb hD hv h=>exact⟨b,off,vs j,rfl,hb,hD,hv j hj,h j hj⟩
theorem RdL.len:∀{ds:List Dt} {vs:List Value},RdL w D ds vs→vs.length=ds.length
 | [],[],_=>rfl
 | d::ds,v::vs,h=>by rw [lC,lC,RdL.len h.2]
theorem RdL.keep (hk:aB S w w') (hD:∀b,b<w.heap.size→D b→¬S b):∀{ds:List Dt} {vs:List Value},RdL w D ds vs→RdL w' D ds vs
 | [],[],_=>trivial
 | d::ds,v::vs,h=>⟨h.1.keep hk hD,RdL.keep hk hD h.2⟩
theorem RdL.mono (hD:∀b,b<w.heap.size→D b→D' b):∀{ds:List Dt} {vs:List Value},RdL w D ds vs→RdL w D' ds vs
 | [],[],_=>trivial
 | d::ds,v::vs,h=>⟨h.1.mono hD,RdL.mono hD h.2⟩
theorem RdL.lt {ds:List Dt} {vs:List Value} (h:RdL w D ds vs):RdL w (fun b=>D b∧b<w.heap.size) ds vs:=h.mono fun b hb hd=>⟨hd,hb⟩
theorem RdL.app:∀{ds es:List Dt} {vs us:List Value},RdL w D ds vs→RdL w D es us→RdL w D (ds++es) (vs++us)
 | [],es,[],us,_,h=>h
 | d::ds,es,v::vs,us,h,g=>⟨h.1,RdL.app h.2 g⟩
theorem RdL.at:∀{ds:List Dt} {vs:List Value} (h:RdL w D ds vs) {j:Nat} (hj:j<ds.length) (hj':j<vs.length),Rd w D ds[j] vs[j]
 | d::ds,v::vs,h,0,hj,hj'=>h.1
 | d::ds,v::vs,h,j+1,hj,hj'=>RdL.at h.2 (j:=j) (by simpa using hj) (by simpa using hj')
end
def lD (w:World) (D:Nat→Prop) (v:Value) (k:Nat) (T:TypeId) (n:Nat) (cs:List Dt):Prop:=
 ∃vs,RdL w (fun b=>D b∧v.ownBlock≠some b) cs vs∧w.ownsRow 0 T k v n vs
section
variable {w w':World} {D S:Nat→Prop} {v:Value} {k n:Nat} {T:TypeId} {cs:List Dt}
theorem lD.nil (w:World) (D:Nat→Prop) (k:Nat) (T:TypeId):lD w D (.slice none 0 0) k T 0 []:=⟨[],trivial,World.ownsRow_nil _ _ _ _⟩
theorem lD.len (h:lD w D v k T n cs):cs.length=n*k:=by
 obtain⟨vs,hr,ho⟩:=h;rw [←hr.len];exact ho.1
theorem lD.shape (h:lD w D v k T n cs):∃a c,v=.slice a n c∧n≤c∧c≤maxLen:=by
 obtain⟨vs,hr,ho⟩:=h;rcases ho.2 with ⟨rfl,h0⟩ | ⟨g,cap,cur,rfl,_,_,h1,h2,_⟩
 ·exact⟨none,0,by rw [h0],by omega,Nat.zero_le _⟩
 ·exact⟨_,cap,rfl,h1,h2⟩
theorem lD.lt (h:lD w D v k T n cs) {g:Nat} (hg:v.ownBlock=some g):g<w.heap.size:=by
 obtain⟨vs,hr,ho⟩:=h;exact (ho.lt g hg).2
theorem lD.keep (h:lD w D v k T n cs) (hk:aB S w w') (hD:∀b,b<w.heap.size→D b→¬S b) (hv:∀g,v.ownBlock=some g→¬S g):lD w' D v k T n cs:=by
 obtain⟨vs,hr,ho⟩:=h;refine⟨vs,hr.keep hk (fun b hb hd=>hD b hb hd.1),⟨ho.1,?_⟩⟩;rcases ho.2 with h0 | ⟨g,cap,cur,rfl,hb,hg,rest⟩
 ·exact .inl h0
 ·exact .inr ⟨g,cap,cur,rfl,hb,(hk.block g (Array.getElem?_eq_some_iff.1 hg).1 (hv g rfl)).trans hg,rest⟩
theorem lD.reads (h:lD w D v k T n cs) (hD:∀g,v.ownBlock=some g→D g):Rd w D (.sl k cs) v:=by
 have hl:=h.len;obtain⟨vs,hr,ho⟩:=h;rcases ho.2 with ⟨rfl,h0⟩ | ⟨g,cap,cur,rfl,hb,hg,h1,h2,h3⟩
 ·have:cs=[]:=List.eq_nil_of_length_eq_zero (by rw [hl,h0,Nat.zero_mul]);subst this;exact .nil k 0 none (Nat.zero_le _)
 ·refine .sl k cs g 0 n cap (fun j=>vs.getD j (.int .i64 0)) hl h1 h2 (Array.getElem?_eq_some_iff.1 hg).1 (hD g rfl) (fun j hj=>?_) (fun j hj=>?_)
  ·have hj':j<vs.length:=by rw [hr.len];exact hj
   have hc:=ho.cellAt j (by rw [←ho.1];exact hj');rw [Nat.zero_add,hc,List.getD_eq_getElem?_getD,List.getElem?_eq_getElem hj'];rfl
  ·have hj':j<vs.length:=by rw [hr.len];exact hj
   have h4:=(hr.at hj hj').mono (D':=D) (fun b _ hd=>hd.1);show Rd w D cs[j] (vs.getD j (.int .i64 0));rw [List.getD_eq_getElem?_getD,List.getElem?_eq_getElem hj'];exact h4
theorem lD.grow {v':Value} {vs us:List Value} {ds:List Dt} {B:Nat} (hr:RdL w (fun b=>B≤b∧v.ownBlock≠some b) cs vs) (hx:RdL w (fun b=>B≤b∧v.ownBlock≠some b) ds us)
 (hown:w'.ownsRow 0 T k v' n (vs++us)) (hk:aB (fun b=>v.ownBlock=some b) w w') (hg:∀y,v'.ownBlock=some y→v.ownBlock=some y∨w.heap.size≤y):lD w' (fun b=>B≤b) v' k T n (cs++ds):=by
 have h1:RdL w (fun b=>(B≤b∧v.ownBlock≠some b)∧b<w.heap.size) (cs++ds) (vs++us):=(hr.app hx).mono fun b hb hd=>⟨hd,hb⟩;refine⟨vs++us,(h1.keep hk (fun b _ hd s=>hd.1.2 s)).mono fun b _ hd=>⟨hd.1.1,fun e=>?_⟩,hown⟩;rcases hg b e with h3 | h3
 ·exact hd.1.2 h3
 ·have:=hd.2;omega
end
theorem nC {w:World} {D:Nat→Prop}:∀{n:Nat} {l:List Pt} {v:Value},aV w D n l v→Rd w D (bG l) v
 | 0,l,v,⟨h0,a,c,e,hc⟩=>by
  subst h0 e;rw [bG,i8];exact .nil 6 c a hc
 | n+1,l,v,⟨a,c,e,h1,h2,h⟩=>by
  subst e;cases l with
  | nil=>rw [bG,i8];exact .nil 6 c a h2
  | cons p0 t=>
   obtain⟨b,off,wv0,ea,hb,hd,_,_⟩:=h 0 (by simp);subst ea;have key:∀i (hi:i<(p0::t).length),∃wv,lO w b (off+i*6) (p0::t)[i] wv∧Rd w D (bG (p0::t)[i].word) wv:=fun i hi=>by
    obtain⟨b',off',wv,e,hb',hd',hc,hw⟩:=h i hi;obtain⟨rfl,rfl⟩:b=b'∧off=off':=by simpa using e
    exact⟨wv,hc,nC hw⟩
   have hex:∀j,j<(aY (p0::t)).length→∃u,w.cell? ⟨b,off+j,none⟩=some u∧∀(hj:j<(aY (p0::t)).length),Rd w D (aY (p0::t))[j] u:=fun j hj=>by
    have hj0:=hj;rw [k7] at hj;have hi:j / 6<(p0::t).length:=by omega
    have hr:j%6<6:=by omega
    have hje:j / 6*6+j%6=j:=by omega
    obtain⟨wv,hc,hw⟩:=key (j / 6) hi;have hp:=xT hi hr;rw [hje,List.getElem?_eq_getElem hj0,xA] at hp;have hcell:=hc (j%6);rw [show off+j / 6*6+j%6=off+j by omega] at hcell;generalize (p0::t)[j / 6]=q at *;have h6:j%6=0∨j%6=1∨j%6=2∨j%6=3∨j%6=4∨j%6=5:=by omega
    rcases h6 with e | e | e | e | e | e
    all_goals rw [e] at hp hcell
    ·exact⟨_,hcell _ rfl,fun hj=>by rw [Option.some.inj hp];exact .int _⟩
    ·exact⟨_,hcell _ rfl,fun hj=>by rw [Option.some.inj hp];exact .str _⟩
    ·exact⟨_,hcell _ rfl,fun hj=>by rw [Option.some.inj hp];exact .str _⟩
    ·exact⟨_,hcell _ rfl,fun hj=>by rw [Option.some.inj hp];exact .str _⟩
    ·exact⟨_,hcell _ rfl,fun hj=>by rw [Option.some.inj hp];exact hw⟩
    ·exact⟨_,hcell _ rfl,fun hj=>by rw [Option.some.inj hp];exact .bool _⟩
   have hvs:∃vs:Nat→Value,∀j,j<(aY (p0::t)).length→w.cell? ⟨b,off+j,none⟩=some (vs j)∧∀(hj:j<(aY (p0::t)).length),Rd w D (aY (p0::t))[j] (vs j):=
    ⟨fun j=>if hj:j<(aY (p0::t)).length then Classical.choose (hex j hj) else .int .i64 0,fun j hj=>by
     have e:(if hj:j<(aY (p0::t)).length then Classical.choose (hex j hj) else .int .i64 0)=Classical.choose (hex j hj):=dif_pos hj;show w.cell? _=some (if hj:j<(aY (p0::t)).length then Classical.choose (hex j hj) else .int .i64 0)∧∀(hj':j<(aY (p0::t)).length),Rd w D (aY (p0::t))[j] (if hj:j<(aY (p0::t)).length then Classical.choose (hex j hj) else .int .i64 0);rw [e];exact Classical.choose_spec (hex j hj)⟩
   obtain⟨vs,hvs⟩:=hvs;exact .sl 6 _ b off _ c vs (k7 _) h1 h2 hb hd (fun j hj=>(hvs j hj).1) (fun j hj=>(hvs j hj).2 hj)
def iM {α:Type} (f:List Tk→PR α):Prop:=∀ts d r,f ts=.ok (d,r)→r.length≤ts.length
theorem eB:∀ts:List Tk,(aF ts).length≤ts.length
 | []=>Nat.le_refl _
 | t::r=>by
  unfold aF;split
  ·have:=eB r;rw [lC];omega
  ·exact Nat.le_refl _
theorem dX (ts:List Tk):ts.tail.length≤ts.length:=by rw [List.length_tail];omega
theorem Kq (ts:List Tk):(dW ts).2.length≤ts.length:=by
 unfold dW;split
 ·exact Nat.le_trans (eB _) (dX _)
 ·exact Nat.le_refl _
theorem dO {s:List UInt8} {ts:List Tk} (h:aG s ts=true):1≤ts.length:=by
 cases ts with
 | nil=>unfold aG atF at h;simp at h
 | cons t r=>simp
theorem nR {ts:List Tk} (h:((atF ts).kind==1)=true):1≤ts.length:=by
 cases ts with
 | nil=>unfold atF at h;simp at h
 | cons t r=>simp
theorem sB {ts:List Tk} (h:bX ts=true):1≤ts.length:=by
 cases ts with
 | nil=>unfold bX atF at h;simp at h
 | cons t r=>simp
theorem cJ {s:List UInt8} {ts:List Tk} (hs:s≠[]) (h:aT s ts=true):1≤ts.length:=by
 cases ts with
 | nil=>
  unfold aT atF at h;rw [beq_iff_eq] at h;exact absurd h.symm hs
 | cons t r=>simp
section
variable {cmd:List Tk→PR (List Dt)} {scr:Bs→Except Nat Unit} (hc:iM cmd)
include hc
theorem rC:∀(n:Nat) (acc:List Dt) (ts:List Tk) (d:List Dt) (r:List Tk),dE cmd n acc ts=.ok (d,r)→r.length≤ts.length
 | 0,acc,ts,d,r,h=>by cases h
 | n+1,acc,ts,d,r,h=>by
  unfold dE at h;split at h
  ·split at h
   ·cases h
   ·next x y hq=>
    have h1:=hc _ _ _ hq;have h2:=rC n _ _ _ _ h;have:=eB ts.tail;have:=dX ts;omega
  ·cases h;exact Nat.le_refl _
theorem nA:iM (bM cmd):=by
 intro ts d r h;unfold bM at h;split at h
 ·cases h
 ·next x y hq=>
  have h1:=hc _ _ _ hq;have h0:(if aT [33] ts then ts.tail else ts).length≤ts.length:=by
   split
   ·exact dX ts
   ·exact Nat.le_refl _
  split at h
  ·cases h
  ·next l r2 hq2=>
   have h2:=rC hc _ _ _ _ _ hq2;have h3:r=r2:=by
    split at h<;>cases h<;>rfl
   subst h3;omega
theorem oH:∀(n:Nat) (acc:List Dt) (ts:List Tk) (d:List Dt) (r:List Tk),dU cmd n acc ts=.ok (d,r)→r.length≤ts.length
 | 0,acc,ts,d,r,h=>by cases h
 | n+1,acc,ts,d,r,h=>by
  have hl:=eB ts.tail;have ht:=dX ts;unfold dU at h;split at h
  ·split at h
   ·cases h
   ·next x y hq=>
    have h1:=nA hc _ _ _ hq;have h2:=oH n _ _ _ _ h;omega
  ·split at h
   ·split at h
    ·cases h
    ·next x y hq=>
     have h1:=nA hc _ _ _ hq;have h2:=oH n _ _ _ _ h;omega
   ·cases h;exact Nat.le_refl _
theorem pC:iM (eN cmd):=by
 intro ts d r h;unfold eN at h;split at h
 ·cases h
 ·next x y hq=>
  have h1:=nA hc _ _ _ hq;have h2:=oH hc _ _ _ _ _ h;omega
theorem tW:∀(n:Nat) (acc:List Dt) (ts:List Tk) (d:List Dt) (r:List Tk),eE cmd n acc ts=.ok (d,r)→r.length≤ts.length
 | 0,acc,ts,d,r,h=>by cases h
 | n+1,acc,ts,d,r,h=>by
  have he:=Kq ts;unfold eE at h;split at h
  ·split at h
   ·cases h
   ·next x y hq=>
    have h1:=pC hc _ _ _ hq;have h2:=tW n _ _ _ _ h;omega
  ·cases h;exact he
theorem N6:iM (sC cmd):=by
 intro ts d r h;unfold sC at h;split at h
 ·cases h
 ·next x y hq=>
  have h1:=pC hc _ _ _ hq;have h2:=tW hc _ _ _ _ _ h;omega
theorem kV:iM (cU cmd):=by
 intro ts d r h;unfold cU at h;split at h
 ·cases h
 ·next x y hq=>
  have h1:=N6 hc _ _ _ hq;have:=eB ts;cases h;omega
end
theorem jI {s:List UInt8}:iM (fA s):=by
 intro ts d r h;unfold fA at h;split at h
 ·cases h;exact dX ts
 ·cases h
theorem p7 {s:List UInt8}:iM (fK s):=by
 intro ts d r h;unfold fK at h;split at h
 ·cases h;exact dX ts
 ·cases h
theorem zK {scr:Bs→Except Nat Unit} {ts:List Tk} {w:List Pt} {r:List Tk} (h:eC scr ts=.ok (w,r)):r=ts.tail∧1≤ts.length∧w=(atF ts).word∧w≠[]:=by
 unfold eC at h;split at h
 ·next hk=>
  split at h
  ·cases h
  ·cases h;rw [Bool.and_eq_true] at hk;refine⟨rfl,nR hk.1,rfl,fun e=>?_⟩;rw [e] at hk;exact absurd hk.2 (by decide)
 ·cases h
theorem k4 {scr:Bs→Except Nat Unit} {ts:List Tk} {w:List Pt} {r:List Tk} (h:eC scr ts=.ok (w,r)):r.length+1≤ts.length:=by
 obtain⟨rfl,h1,_⟩:=zK h;rw [List.length_tail];omega
theorem kU {scr:Bs→Except Nat Unit} {ts:List Tk} {d:List Dt} {r:List Tk} (h:gZ scr ts=.ok (d,r)):r.length+1≤ts.length:=by
 unfold gZ at h;split at h
 ·cases h
 ·next w r1 hq=>
  have:=k4 hq;have:=dX ts;cases h;omega
theorem pT {scr:Bs→Except Nat Unit}:∀(n:Nat) (acc:List Dt) (ts:List Tk) (d:List Dt) (r:List Tk),cN scr n acc ts=.ok (d,r)→r.length≤ts.length
 | 0,acc,ts,d,r,h=>by cases h
 | n+1,acc,ts,d,r,h=>by
  unfold cN at h;split at h
  ·split at h
   ·cases h
   ·next x y hq=>
    have:=kU hq;have h2:=pT n _ _ _ _ h;omega
  ·cases h;exact Nat.le_refl _
theorem mO {scr:Bs→Except Nat Unit}:∀(n:Nat) (ws gz rs:List Dt) (ts:List Tk) (d:List Dt) (r:List Tk),bL scr n ws gz rs ts=.ok (d,r)→r.length≤ts.length
 | 0,ws,gz,rs,ts,d,r,h=>by cases h
 | n+1,ws,gz,rs,ts,d,r,h=>by
  unfold bL at h;split at h
  ·split at h
   ·cases h
   ·next x y hq=>
    have:=kU hq;have h2:=mO n _ _ _ _ _ _ h;omega
  ·split at h
   ·split at h
    ·cases h
    ·next x y hq=>
     have:=k4 hq;split at h
     ·have h2:=mO n _ _ _ _ _ _ h;omega
     ·have h2:=mO n _ _ _ _ _ _ h;omega
   ·cases h;exact Nat.le_refl _
theorem pQ {scr:Bs→Except Nat Unit}:∀(n:Nat) (acc:List Dt) (ts:List Tk) (d:List Dt) (r:List Tk),cW scr n acc ts=.ok (d,r)→r.length≤ts.length
 | 0,acc,ts,d,r,h=>by cases h
 | n+1,acc,ts,d,r,h=>by
  unfold cW at h;split at h
  ·split at h
   ·cases h
   ·next x y hq=>
    have:=k4 hq;have h2:=pQ n _ _ _ _ h;omega
  ·cases h;exact Nat.le_refl _
theorem qS {scr:Bs→Except Nat Unit}:∀(n:Nat) (acc:List Dt) (ts:List Tk) (d:List Dt) (r:List Tk),dF scr n acc ts=.ok (d,r)→r.length≤ts.length
 | 0,acc,ts,d,r,h=>by cases h
 | n+1,acc,ts,d,r,h=>by
  unfold dF at h;split at h
  ·split at h
   ·cases h
   ·next x y hq=>
    have:=k4 hq;have:=dX ts;have h2:=qS n _ _ _ _ h;omega
  ·cases h;exact Nat.le_refl _
section
variable {cmd:List Tk→PR (List Dt)} {scr:Bs→Except Nat Unit} (hc:iM cmd)
include hc
theorem vO:iM (dQ cmd):=by
 intro ts d r h;unfold dQ at h;split at h
 ·cases h
 ·next x y hq=>
  have h1:=jI _ _ _ hq;split at h
  ·cases h
  ·next x2 y2 hq2=>
   have h2:=kV hc _ _ _ hq2;split at h
   ·cases h
   ·next x3 y3 hq3=>
    have h3:=jI _ _ _ hq3;cases h;omega
theorem zM (kind:Nat):iM (fB cmd kind):=by
 intro ts d r h;unfold fB at h;split at h
 ·cases h
 ·next x y hq=>
  have h1:=kV hc _ _ _ hq;split at h
  ·cases h
  ·next x2 y2 hq2=>
   have h2:=vO hc _ _ _ hq2;cases h;omega
theorem oL:∀(n:Nat) (acc:List Dt) (ts:List Tk) (d:List Dt) (r:List Tk),cA cmd n acc ts=.ok (d,r)→r.length≤ts.length
 | 0,acc,ts,d,r,h=>by cases h
 | n+1,acc,ts,d,r,h=>by
  unfold cA at h;split at h
  ·cases h
  ·next c r0 hq=>
   have h1:=kV hc _ _ _ hq;split at h
   ·cases h
   ·next u r1 hq1=>
    have h2:=jI _ _ _ hq1;split at h
    ·cases h
    ·next b r2 hq2=>
     have h3:=kV hc _ _ _ hq2;have:=dX r2;split at h
     ·have:=oL n _ _ _ _ h;omega
     ·split at h
      ·split at h
       ·cases h
       ·next x r3 hq3=>
        have h4:=kV hc _ _ _ hq3;cases h;omega
      ·cases h;omega
theorem E0:iM (eZ cmd):=by
 intro ts d r h;unfold eZ at h;split at h
 ·cases h
 ·next x y hq=>
  have h1:=oL hc _ _ _ _ _ hq;split at h
  ·cases h
  ·next x2 y2 hq2=>
   have h2:=jI _ _ _ hq2;cases h;omega
theorem L3:iM (gM cmd scr):=by
 intro ts d r h;have a1:=dX ts;have a2:=eB ts.tail;have a3:=dX (aF ts.tail);unfold gM at h;split at h
 ·split at h
  ·split at h
   ·cases h
   ·next x y hq=>
    have h1:=pQ _ _ _ _ _ hq;have a4:=dX y;have a5:=eB y.tail;split at h
    ·split at h
     ·cases h
     ·next x2 y2 hq2=>
      have h2:=vO hc _ _ _ hq2;cases h;omega
    ·cases h
  ·have a6:(if aG [59] (aF ts.tail) then (aF ts.tail).tail else aF ts.tail).length≤(aF ts.tail).length:=by
    split
    ·exact a3
    ·exact Nat.le_refl _
   have a7:=eB (if aG [59] (aF ts.tail) then (aF ts.tail).tail else aF ts.tail);split at h
   ·cases h
   ·next x2 y2 hq2=>
    have h2:=vO hc _ _ _ hq2;cases h;omega
 ·cases h
theorem Np {ts:List Tk} {d:List Dt} {r:List Tk} (h:pJ cmd scr ts=.ok (d,r)):r.length+1≤ts.length:=by
 unfold pJ at h;have a0:(if aG [40] ts then ts.tail else ts).length≤ts.length:=by
  split
  ·exact dX ts
  ·exact Nat.le_refl _
 split at h
 ·cases h
 ·next w r0 hq=>
  have h1:=k4 hq;split at h
  ·cases h
  ·next ps r1 hq1=>
   have h2:=qS _ _ _ _ _ hq1;split at h
   ·cases h
   ·next u r2 hq2=>
    have h3:=p7 _ _ _ hq2;have a1:=eB r2;split at h
    ·split at h
     ·cases h
     ·next b r3 hq3=>
      have h4:=kV hc _ _ _ hq3;cases h;omega
    ·cases h;omega
theorem qL:∀(n:Nat) (acc:List Dt) (ts:List Tk) (d:List Dt) (r:List Tk),cQ cmd scr n acc ts=.ok (d,r)→r.length≤ts.length
 | 0,acc,ts,d,r,h=>by cases h
 | n+1,acc,ts,d,r,h=>by
  unfold cQ at h;split at h
  ·cases h;exact dX ts
  ·split at h
   ·cases h
   ·next a r0 hq=>
    have h1:=Np hc hq;have a1:=dX r0;have a2:=eB r0.tail;split at h
    ·have:=qL n _ _ _ _ h;omega
    ·split at h
     ·cases h
     ·next u r2 hq2=>
      have h3:=jI _ _ _ hq2;cases h;omega
theorem Hl:iM (gC cmd scr):=by
 intro ts d r h;unfold gC at h;split at h
 ·cases h
 ·next w r0 hq=>
  have h1:=k4 hq;have a1:=eB r0;split at h
  ·cases h
  ·next u r1 hq1=>
   have h2:=jI _ _ _ hq1;have a2:=eB r1;split at h
   ·cases h
   ·next l r2 hq2=>
    have h3:=qL hc _ _ _ _ _ hq2;cases h;omega
theorem As (name:Bs):iM (eP cmd name):=by
 intro ts d r h;have a1:=dX ts;have a2:=dX ts.tail;unfold eP at h;split at h
 ·cases h
 ·next u r0 hq=>
  have h1:=p7 _ _ _ hq;have a3:=eB r0;split at h
  ·split at h
   ·cases h
   ·next x y hq2=>
    have h2:=hc _ _ _ hq2;cases h;omega
  ·cases h
theorem A4 (kind:Nat) {close:List Tk→PR Unit} (hcl:iM close):iM (f8 cmd kind close):=by
 intro ts d r h;unfold f8 at h;split at h
 ·cases h
 ·next x y hq=>
  have h1:=kV hc _ _ _ hq;split at h
  ·cases h
  ·next x2 y2 hq2=>
   have h2:=hcl _ _ _ hq2;cases h;omega
omit hc in
theorem xD {q:PR (List Dt)} {n:Nat} (hq:∀d r,q=.ok (d,r)→r.length≤n) {d:List Dt} {r:List Tk} (h:bI scr q=.ok (d,r)):r.length≤n:=by
 unfold bI at h;split at h
 ·cases h
 ·next x y=>
  have h1:=hq _ _ rfl;split at h
  ·cases h
  ·next rs r2 hq2=>
   have h2:=pT _ _ _ _ _ hq2;cases h;omega
theorem Iw:iM (gW cmd scr):=by
 intro ts d r h;have a1:=dX ts;unfold gW at h;split at h
 ·next q hq=>
  subst h;unfold bR at hq;have key:∀{f:List Tk→PR (List Dt)},iM f→∀{d r},bI scr (f ts.tail)=.ok (d,r)→r.length≤ts.length:=fun hf d r h=>
   Nat.le_trans (xD (fun d r h=>hf _ _ _ h) h) a1
  split at hq
  ·exact key (A4 hc 13 p7) (Option.some.inj hq)
  ·split at hq
   ·exact key (A4 hc 12 jI) (Option.some.inj hq)
   ·split at hq
    ·exact key (E0 hc) (Option.some.inj hq)
    ·split at hq
     ·exact key (zM hc 7) (Option.some.inj hq)
     ·split at hq
      ·exact key (zM hc 8) (Option.some.inj hq)
      ·split at hq
       ·exact key (L3 hc) (Option.some.inj hq)
       ·split at hq
        ·exact key (Hl hc) (Option.some.inj hq)
        ·split at hq
         ·exact As hc _ _ _ _ (Option.some.inj hq)
         ·cases hq
 ·exact mO _ _ _ _ _ _ _ h
end
theorem nS:∀k,iM (aC k)
 | 0=>by
  intro ts d r h;unfold aC at h;split at h<;>cases h
 | k+1=>by
  intro ts d r h;unfold aC at h;split at h
  ·exact Iw (nS k) _ _ _ h
  ·cases h
mutual
def smP:Pt→Bool
 | .mk k t n o w _=>(k != 1 || w.isEmpty) && (decide (t.length≤40000) && (decide (w.length≤40000) && smL w))
def smL:List Pt→Bool
 | []=>true
 | p::l=>smP p && smL l
end
def Sm (l:List Pt):Prop:=l.length≤40000∧smL l=true
theorem Mw {p:Pt} {l:List Pt}:smL (p::l)=(smP p && smL l):=by simp [smL]
theorem Nd (p:Pt):smP p=true↔(p.kind=1→p.word=[])∧p.text.length≤40000∧Sm p.word:=by
 cases p with
 | mk k t n o w q=>
  simp only [smP,Bool.and_eq_true,decide_eq_true_eq,Pt.kind,Pt.word,Pt.text];refine and_congr ?_ Iff.rfl;rw [Bool.or_eq_true,bne_iff_ne,List.isEmpty_iff];by_cases h:k=1
  ·simp [h]
  ·simp [h]
theorem qT:∀{l:List Pt},smL l=true↔∀p∈l,(p.kind=1→p.word=[])∧p.text.length≤40000∧Sm p.word
 | []=>by simp [smL]
 | q::l=>by
  rw [Mw,Bool.and_eq_true,Nd,qT (l:=l)];simp
theorem A0 {l:List Pt} {p:Pt} (h:smL l=true) (hp:p∈l):p.text.length≤40000∧Sm p.word:=(qT.1 h p hp).2
theorem Kg {l:List Pt} {p:Pt} (h:smL l=true) (hp:p∈l):p.kind=1→p.word=[]:=(qT.1 h p hp).1
theorem Sm.nil:Sm []:=⟨Nat.zero_le _,by simp [smL]⟩
def SmT (T:List Tk):Prop:=T.length≤20000∧∀t∈T,t.text.length≤40000∧Sm t.word
def WSm (l:List Pt):Prop:=∀p∈l,Sm p.word∧(p.kind=1→p.word=[])
theorem WSm.append {a b:List Pt} (ha:WSm a) (hb:WSm b):WSm (a++b):=fun p hp=>by
 rcases List.mem_append.1 hp with h | h
 ·exact ha p h
 ·exact hb p h
theorem zZ (x:Pt):wtF [x]=x.text.length+1:=by simp [wtF]
theorem Le:∀{l:List Pt} {p:Pt},p∈l→p.text.length+1≤wtF l
 | q::l,p,h=>by
  rcases List.mem_cons.1 h with rfl | h
  ·simp only [wtF];omega
  ·have:=Le h;simp only [wtF];omega
theorem wI {l:List Pt} {y:Pt} (h:l.getLast? = some y):l=l.dropLast++[y]:=by
 obtain⟨ys,rfl⟩:=List.getLast?_eq_some_iff.1 h;simp
theorem Ov (out:List Pt) (x:Pt):wtF (iA out x)≤wtF out+wtF [x]:=by
 unfold iA;split
 ·next y hy=>
  split
  ·have e:=wI hy;have h1:wtF out=wtF (out.dropLast++[y]):=by rw [←e]
   rw [bE,h1,bE,zZ,zZ,zZ];cases y;cases x;simp only [Pt.join,Pt.text,Pt.kind,lA];omega
  ·rw [bE];exact Nat.le_refl _
 ·omega
theorem Ei {out:List Pt} {x:Pt} (ho:WSm out) (hx:Sm x.word∧(x.kind=1→x.word=[])):WSm (iA out x):=by
 unfold iA;split
 ·next y hy=>
  split
  ·have e:=wI hy;refine WSm.append (fun p hp=>ho p (List.dropLast_subset _ hp)) (fun p hp=>?_);rw [List.mem_singleton.1 hp];have:=ho y (by rw [e];simp);cases y;exact this
  ·refine WSm.append ho (fun p hp=>?_);rw [List.mem_singleton.1 hp];exact hx
 ·intro p hp;rw [List.mem_singleton.1 hp];exact hx
theorem vU:∀(l:List Pt) (a:List Pt×Bool),WSm l→WSm a.1→wtF (l.foldl cH a).1≤wtF a.1+wtF l∧WSm (l.foldl cH a).1
 | [],a,_,ha=>⟨by simp [wtF],ha⟩
 | x::l,a,hl,ha=>by
  rw [List.foldl_cons];have h1:wtF (cH a x).1≤wtF a.1+wtF [x]∧WSm (cH a x).1:=by
   unfold cH;split
   ·exact⟨Nat.le_add_right _ _,ha⟩
   ·exact⟨Ov _ _,Ei ha (hl x (List.mem_cons_self ..))⟩
  obtain⟨h2,h3⟩:=vU l (cH a x) (fun p hp=>hl p (List.mem_cons_of_mem _ hp)) h1.2;refine⟨?_,h3⟩;have h4:=h1.1;rw [zZ] at h4;simp only [wtF];omega
theorem uY {l:List Pt} (h:WSm l) (hw:wtF l≤39999):Sm (cT l):=by
 obtain⟨h1,h2⟩:=vU l ([],false) h (fun p hp=>by cases hp);unfold cT;split
 ·exact⟨by decide,qT.2 fun p hp=>by rw [List.mem_singleton.1 hp];exact⟨fun _=>rfl,by decide,Sm.nil⟩⟩
 ·have h3:wtF (eS l).1≤39999:=by
   show wtF (l.foldl cH ([],false)).1≤_;simp only [wtF] at h1;omega
  refine⟨by have:=lJ (eS l).1;omega,qT.2 fun p hp=>⟨(h2 p hp).2,?_,(h2 p hp).1⟩⟩;have:=Le hp;omega
theorem WSm.txt (s:List UInt8):WSm [eG s]:=fun p hp=>by rw [List.mem_singleton.1 hp];exact⟨Sm.nil,fun _=>rfl⟩
theorem WSm.quo (s:List UInt8):WSm [cG s]:=fun p hp=>by rw [List.mem_singleton.1 hp];exact⟨Sm.nil,fun _=>rfl⟩
theorem WSm.leaf (k:Nat) (t n o:List UInt8) (q:Bool):WSm [.mk k t n o [] q]:=fun p hp=>by rw [List.mem_singleton.1 hp];exact⟨Sm.nil,fun _=>rfl⟩
theorem WSm.nil:WSm []:=fun p hp=>by cases hp
def Md.slack:Md→Nat | .dol _=>2 | _=>0
theorem oR {l0:List Pt} {r:Res} {l:List Pt} {r1:List UInt8} (h:r.ahead l0=.ok (l,r1)):∃m,r=.ok (m,r1)∧l=l0++m:=by
 cases r with
 | error e=>cases h
 | ok x=>obtain⟨m,r2⟩:=x;cases h;exact⟨m,rfl,rfl⟩
theorem B1 {c:UInt8}:∀{l:List UInt8} {k:Nat},fJ c l=some k→k<l.length
 | x::t,k,h=>by
  unfold fJ at h;split at h
  ·cases h;simp
  ·cases h2:fJ c t with
   | none=>rw [h2] at h;cases h
   | some j=>rw [h2] at h;cases h;have:=B1 h2;simp;omega
theorem uG:∀{l:List UInt8} {o k:Nat},cV o l=some k→k+2≤l.length
 | [],o,k,h=>by cases h
 | c::t,o,k,h=>by
  unfold cV at h;split at h
  ·cases h2:cV (o+1) t with
   | none=>rw [h2] at h;cases h
   | some j=>rw [h2] at h;cases h;have:=uG h2;simp;omega
  ·split at h
   ·split at h
    ·split at h
     ·next hh=>
      cases h;cases t with
      | nil=>cases hh
      | cons y z=>simp
     ·cases h
    ·cases h2:cV (o - 1) t with
     | none=>rw [h2] at h;cases h
     | some j=>rw [h2] at h;cases h;have:=uG h2;simp;omega
   ·cases h2:cV o t with
    | none=>rw [h2] at h;cases h
    | some j=>rw [h2] at h;cases h;have:=uG h2;simp;omega
theorem nP {o:Option Nat} {k:Nat} (h:o.map (· + 1)=some k):∃j,o=some j∧k=j+1:=by
 cases o with
 | none=>cases h
 | some j=>cases h;exact⟨j,rfl,rfl⟩
theorem sV:∀{l:List UInt8} {m:SM} {o k:Nat},bP m o l=some k→k<l.length
 | [],m,o,k,h=>by cases m<;>cases h
 | c::t,m,o,k,h=>by
  cases m with
  | n=>
   unfold bP at h
   repeat' split at h
   all_goals first
    | (cases h;simp;done)
    | (obtain⟨j,h2,rfl⟩:=nP h;have:=sV h2;simp;omega)
  | q1=>obtain⟨j,h2,rfl⟩:=nP h;have:=sV h2;simp;omega
  | q2=>obtain⟨j,h2,rfl⟩:=nP h;have:=sV h2;simp;omega
  | bn=>obtain⟨j,h2,rfl⟩:=nP h;have:=sV h2;simp;omega
  | bq=>obtain⟨j,h2,rfl⟩:=nP h;have:=sV h2;simp;omega
theorem fM:∀(n:Nat) (m:Md) (d:Nat) (r:List UInt8) (l:List Pt) (r1:List UInt8),dJ n m d r=.ok (l,r1)→r.length≤16384→
 wtF l+2*r1.length≤2*r.length+m.slack∧WSm l
 | 0,m,d,r,l,r1,h,_=>by unfold dJ at h;cases h
 | n+1,.one q,d,[],l,r1,h,_=>by
  cases q<;>(unfold dJ at h;cases h;exact⟨by simp [wtF,Md.slack],WSm.nil⟩)
 | n+1,.one false,d,c::t,l,r1,h,hr=>by
  unfold dJ at h;simp only [lC] at hr ⊢;split at h
  ·split at h
   ·cases h
   ·next k hk=>
    cases h;have:=B1 hk;refine⟨?_,WSm.quo _⟩;simp only [wtF,cG,Pt.text,Md.slack,List.length_take,List.length_drop];omega
  ·split at h
   ·obtain⟨m,h2,rfl⟩:=oR h;obtain⟨h3,h4⟩:=fM n .dq d t m r1 h2 (by omega);refine⟨?_,WSm.append (WSm.quo _) h4⟩;rw [bE];simp only [wtF,cG,Pt.text,Md.slack,lN] at h3 ⊢;omega
   ·split at h
    ·split at h
     ·cases h;exact⟨by simp [wtF,cG,Pt.text,Md.slack],WSm.quo _⟩
     ·split at h
      ·cases h;exact⟨by simp [wtF,Md.slack];omega,WSm.nil⟩
      ·cases h;exact⟨by simp [wtF,cG,Pt.text,Md.slack];omega,WSm.quo _⟩
    ·split at h
     ·cases h
     ·split at h
      ·obtain⟨h3,h4⟩:=fM n (.dol false) d t l r1 h (by omega);refine⟨?_,h4⟩;simp only [Md.slack] at h3 ⊢;omega
      ·cases h;exact⟨by simp [wtF,eG,Pt.text,Md.slack];omega,WSm.txt _⟩
 | n+1,.one true,d,c::t,l,r1,h,hr=>by
  unfold dJ at h;simp only [lC] at hr ⊢;have ht:t.tail.length≤t.length:=by rw [List.length_tail];omega
  split at h
  ·cases h
  ·split at h
   ·cases h;exact⟨by simp [wtF,Md.slack];omega,WSm.nil⟩
   ·split at h
    ·cases h;exact⟨by simp [wtF,cG,Pt.text,Md.slack];omega,WSm.quo _⟩
    ·split at h
     ·obtain⟨h3,h4⟩:=fM n (.dol true) d t l r1 h (by omega);refine⟨?_,h4⟩;simp only [Md.slack] at h3 ⊢;omega
     ·cases h;exact⟨by simp [wtF,cG,Pt.text,Md.slack];omega,WSm.quo _⟩
 | n+1,.dq,d,r,l,r1,h,hr=>by
  unfold dJ at h;cases r with
  | nil=>cases h
  | cons c t=>
   dsimp only at h;split at h
   ·cases h;exact⟨by simp [wtF,Md.slack];omega,WSm.nil⟩
   ·split at h
    ·cases h
    ·next l1 r2 h1=>
     obtain⟨m,h2,rfl⟩:=oR h;obtain⟨h3,h4⟩:=fM n (.one true) d (c::t) l1 r2 h1 hr;simp only [Md.slack] at h3;obtain⟨h5,h6⟩:=fM n .dq d r2 m r1 h2 (by omega);refine⟨?_,h4.append h6⟩;rw [bE];simp only [Md.slack] at h5 ⊢;omega
 | n+1,.br q,d,r,l,r1,h,hr=>by
  unfold dJ at h;cases r with
  | nil=>cases h
  | cons c t=>
   dsimp only at h;split at h
   ·cases h;exact⟨by simp [wtF,Md.slack];omega,WSm.nil⟩
   ·split at h
    ·cases h
    ·next l1 r2 h1=>
     obtain⟨m,h2,rfl⟩:=oR h;obtain⟨h3,h4⟩:=fM n (.one q) d (c::t) l1 r2 h1 hr;simp only [Md.slack] at h3;obtain⟨h5,h6⟩:=fM n (.br q) d r2 m r1 h2 (by omega);refine⟨?_,h4.append h6⟩;rw [bE];simp only [Md.slack] at h5 ⊢;omega
 | n+1,.dol q,d,r,l,r1,h,hr=>by
  unfold dJ at h;have ht:r.tail.length≤r.length:=by rw [List.length_tail];omega
  split at h
  ·obtain⟨h3,h4⟩:=fM n (.brace q) d r.tail l r1 h (by omega);refine⟨?_,h4⟩;simp only [Md.slack] at h3 ⊢;omega
  ·split at h
   ·split at h
    ·cases h
    ·next k hk=>
     cases h;have:=uG hk;refine⟨?_,WSm.leaf _ _ _ _ _⟩;simp only [wtF,Pt.text,Md.slack,List.length_take,List.length_drop] at this ⊢;omega
   ·split at h
    ·split at h
     ·cases h
     ·next k hk=>
      cases h;have:=sV hk;refine⟨?_,WSm.leaf _ _ _ _ _⟩;simp only [wtF,Pt.text,Md.slack,List.length_take,List.length_drop] at this ⊢;omega
    ·split at h
     ·cases h;cases q
      ·exact⟨by simp [wtF,eG,Pt.text,Md.slack];omega,WSm.txt _⟩
      ·exact⟨by simp [wtF,cG,Pt.text,Md.slack];omega,WSm.quo _⟩
     ·cases h;refine⟨?_,WSm.leaf _ _ _ _ _⟩;simp only [wtF,Pt.text,Md.slack,List.length_drop,lN];omega
 | n+1,.brace q,d,r,l,r1,h,hr=>by
  unfold dJ at h;dsimp only at h;have ht:r.tail.length≤r.length:=by rw [List.length_tail];omega
  have hx:(if bK r then r.tail else r).length≤r.length:=by split<;>omega
  generalize (if bK r then r.tail else r)=x at h hx;split at h
  ·cases h
  ·next hk0=>
   have hd:(x.drop (bT true x)).length≤x.length - bT true x:=by rw [List.length_drop];exact Nat.le_refl _
   generalize x.drop (bT true x)=y at h hd;have hy:y.tail.length≤y.length:=by rw [List.length_tail];omega
   split at h
   ·next hh=>
    cases h;have h1:1≤y.length:=by
     cases y with
     | nil=>cases hh
     | cons a b=>simp
    refine⟨?_,WSm.leaf _ _ _ _ _⟩;simp only [wtF,Pt.text,Md.slack,lN,List.length_tail];omega
   ·split at h
    ·cases h
    ·next hop=>
     split at h
     ·cases h
     ·split at h
      ·cases h
      ·next l2 r3 h2=>
       have hop2:1≤(opF y).length:=by
        rcases Nat.eq_zero_or_pos (opF y).length with h0 | h0
        ·rw [List.eq_nil_of_length_eq_zero h0] at hop;exact absurd rfl hop
        ·exact h0
       have hlen:(y.drop (opF y).length).length≤y.length - 1:=by rw [List.length_drop];omega
       obtain⟨h3,h4⟩:=fM n (.br q) (d+1) _ l2 r3 h2 (by omega);cases h;simp only [Md.slack] at h3;refine⟨?_,fun p hp=>?_⟩
       ·simp only [wtF,Pt.text,Md.slack,lN];have:1≤y.length∨y.length=0:=by omega
        rcases this with h9 | h9
        ·omega
        ·have:(opF y).length≤y.length:=by
          obtain rfl:=List.eq_nil_of_length_eq_zero h9;decide
         omega
       ·rw [List.mem_singleton.1 hp];exact⟨uY h4 (by omega),fun h=>by have h9:(3:Nat)=1:=h;cases h9⟩
theorem tV (wh:Bool):∀(n:Nat) (r:List UInt8) (l:List Pt) (r1:List UInt8),i5 wh n r=.ok (l,r1)→r.length≤16384→wtF l+2*r1.length≤2*r.length∧WSm l
 | 0,r,l,r1,h,_=>by cases h
 | n+1,[],l,r1,h,_=>by cases h;exact⟨by simp [wtF],WSm.nil⟩
 | n+1,c::t,l,r1,h,hr=>by
  rw [jJ] at h;dsimp only at h;split at h
  ·cases h;exact⟨by simp [wtF],WSm.nil⟩
  ·split at h
   ·cases h
   ·next l1 r2 h1=>
    obtain⟨m,h2,rfl⟩:=oR h;obtain⟨h3,h4⟩:=fM _ _ _ _ _ _ h1 hr;simp only [Md.slack] at h3;obtain⟨h5,h6⟩:=tV wh n r2 m r1 h2 (by omega);exact⟨by rw [bE];omega,h4.append h6⟩
theorem Dw (r:List UInt8):(eK r).length≤3:=by
 unfold eK gH;cases hf:pL.find? (fun o=>aI o r) with
 | none=>decide
 | some p=>
  have hp:p∈pL:=List.mem_of_find?_eq_some hf;have h:∀q∈pL,q.length≤3:=by decide
  exact h p hp
theorem Aj {r:List UInt8} {x:Tk} {r1:List UInt8} (h:gF r=.ok (x,r1)) (hr:r.length≤16384):x.text.length≤40000∧Sm x.word:=by
 unfold gF at h;split at h
 ·split at h
  ·cases h
  ·split at h
   ·cases h
   ·next l r2 h2=>
    obtain⟨h3,h4⟩:=tV _ _ _ _ _ h2 hr;cases h;exact⟨Nat.zero_le _,uY h4 (by omega)⟩
 ·cases h;exact⟨by have:=Dw r;show (eK r).length≤_;omega,Sm.nil⟩
theorem wT:∀(n:Nat) (r:List UInt8) (T:List Tk),qA n r=.ok T→r.length≤16384→T.length≤r.length∧∀t∈T,t.text.length≤40000∧Sm t.word
 | 0,r,T,h,_=>by cases h
 | n+1,r,T,h,hr=>by
  rw [mC] at h;have hs:=qG false r;cases hsk:dM false r with
  | nil=>
   rw [hsk] at h;cases h;exact⟨Nat.zero_le _,fun t ht=>by cases ht⟩
  | cons c t=>
   rw [hsk] at h;dsimp only at h;rw [hsk] at hs;cases hto:gF (c::t) with
   | error e=>rw [hto] at h;cases h
   | ok xr=>
    obtain⟨x,r1⟩:=xr;rw [hto] at h;dsimp only at h;have h1:=Aj hto (by omega);have h2:=mY (o8 hsk) hto;rw [lC] at hs;cases htd:qA n r1 with
    | error e=>rw [htd] at h;cases h
    | ok T'=>
     rw [htd] at h;obtain⟨h3,h4⟩:=wT n r1 T' htd (by omega);cases h;refine⟨by rw [lC];omega,fun y hy=>?_⟩;rcases List.mem_cons.1 hy with rfl | hy
     ·exact h1
     ·exact h4 y hy
theorem Fr {s:List UInt8} {T:List Tk} (h:kC s=.ok T):SmT T:=by
 unfold kC at h;split at h
 ·next hm=>
  have hl:s.length≤16384:=by
   unfold pH at hm;split at hm
   ·cases hm
   ·omega
  obtain⟨h1,h2⟩:=wT _ _ _ h hl;exact⟨by omega,h2⟩
 ·cases h
structure Ev (w:World) (B:Nat):Prop where
 tab : Lib.TabIs Tryz.prog w "strings.asciiSpace" .u8 Lib.asciiSpaceTab
 big:∃m:Int,w.cell? ⟨0,0,none⟩=some (.int .i64 m)
 low:3<B∧0<B∧B≤w.heap.size
theorem Ev.keep {w w':World} {B:Nat} {S:Nat→Prop} (h:Ev w B) (hk:aB S w w') (hS:∀b,b<B→¬S b):Ev w' B:=by
 obtain⟨h1,⟨m,h2⟩,h3,h4,h5⟩:=h;refine⟨?_,⟨m,?_⟩,h3,h4,Nat.le_trans h5 hk.size⟩
 ·unfold Lib.TabIs World.var? at *;have hg : Tryz.prog.globalNamed "strings.asciiSpace" = some 3 := by kernel_rfl
  simp only [hg,Option.bind_some] at h1 ⊢;rw [hk.block _ (by omega) (hS _ h3)];exact h1
 ·have hb:=hk.block 0 (by omega) (hS _ h4);rw [World.cell?_of_block hb];exact h2
theorem Ev.mono {w:World} {B B':Nat} (h:Ev w B) (hB:B≤B') (hw:B'≤w.heap.size):Ev w B':=⟨h.tab,h.big,by have:=h.low;omega⟩
structure RS (w:World) (B cs:Nat) (tv:Value) (n:Nat) (T:List Tk) (i d:Nat):Prop where
 rd:aH w cs [tv,.int .i64 (i:Nat),.int .i64 (d:Nat)]
 ev:Ev w B
 toks:g6 w (fun b=>b<B) n T tv
 cs:B≤cs
 i:i≤T.length
 sm:SmT T
 d:d≤40
theorem RS.lt {w:World} {B cs:Nat} {tv:Value} {n:Nat} {T:List Tk} {i d:Nat} (h:RS w B cs tv n T i d):cs<w.heap.size:=h.rd.lt
theorem RS.keep {w w':World} {B cs:Nat} {tv:Value} {n:Nat} {T:List Tk} {i d:Nat} {S:Nat→Prop} (h:RS w B cs tv n T i d) (hk:aB S w w') (hS:∀b,b<B→¬S b) (hc:¬S cs):RS w' B cs tv n T i d:=
 ⟨h.rd.keep hk hc,h.ev.keep hk hS,h.toks.keep hk (fun b _ hb=>hS b hb),h.cs,h.i,h.sm,h.d⟩
theorem RS.keep0 {w w':World} {B cs:Nat} {tv:Value} {n:Nat} {T:List Tk} {i d:Nat} (h:RS w B cs tv n T i d) (hk:K0 w w'):RS w' B cs tv n T i d:=h.keep hk (fun _ _ x=>x) (fun x=>x)
theorem RS.shape {w:World} {B cs:Nat} {tv:Value} {n:Nat} {T:List Tk} {i d:Nat} (h:RS w B cs tv n T i d):∃a c,tv=.slice a T.length c∧T.length≤c∧c≤maxLen:=h.toks.shape
theorem RS.cells {w:World} {B cs:Nat} {tv:Value} {n:Nat} {T:List Tk} {i d:Nat} (h:RS w B cs tv n T i d) :
 w.cell? ⟨cs,0,none⟩=some tv∧w.cell? ⟨cs,1,none⟩=some (.int .i64 (i:Nat))∧w.cell? ⟨cs,2,none⟩=some (.int .i64 (d:Nat))∧
 w.frozen? ⟨cs,1,none⟩=false∧w.frozen? ⟨cs,2,none⟩=false:=by
 obtain⟨⟨c0,c1,c2⟩,f0,f1,f2⟩:=h.rd.three;exact⟨c0,c1,c2,f1,f2⟩
theorem RS.set1 {w:World} {B cs:Nat} {tv:Value} {n:Nat} {T:List Tk} {i d:Nat} (h:RS w B cs tv n T i d) {j:Nat} (hj:j≤T.length):RS (w.setCell ⟨cs,1,none⟩ (.int .i64 (j:Nat))) B cs tv n T j d∧aB (fun b=>b=cs) w (w.setCell ⟨cs,1,none⟩ (.int .i64 (j:Nat))):=by
 have hk:aB (fun b=>b=cs) w (w.setCell ⟨cs,1,none⟩ (.int .i64 (j:Nat))):=(aB.refl _ _).setCell _ _ fun _=>rfl;have hB:=h.cs;exact⟨⟨h.rd.set 1 _,h.ev.keep hk (fun b hb e=>by omega),h.toks.keep hk (fun b _ hb e=>by omega),h.cs,hj,h.sm,h.d⟩,hk⟩
theorem RS.set2 {w:World} {B cs:Nat} {tv:Value} {n:Nat} {T:List Tk} {i d:Nat} (h:RS w B cs tv n T i d) {j:Nat} (hj:j≤40):RS (w.setCell ⟨cs,2,none⟩ (.int .i64 (j:Nat))) B cs tv n T i j∧aB (fun b=>b=cs) w (w.setCell ⟨cs,2,none⟩ (.int .i64 (j:Nat))):=by
 have hk:aB (fun b=>b=cs) w (w.setCell ⟨cs,2,none⟩ (.int .i64 (j:Nat))):=(aB.refl _ _).setCell _ _ fun _=>rfl;have hB:=h.cs;exact⟨⟨h.rd.set 2 _,h.ev.keep hk (fun b hb e=>by omega),h.toks.keep hk (fun b _ hb e=>by omega),h.cs,h.i,h.sm,hj⟩,hk⟩
theorem iH {T:List Tk} {i:Nat} (h:i<T.length):atF (T.drop i)=T[i]:=by
 rw [List.drop_eq_getElem_cons h];rfl
theorem jK {T:List Tk} {i:Nat} (h:T.length≤i):atF (T.drop i)=⟨0,[],[]⟩:=by
 rw [List.drop_eq_nil_of_le h];rfl
theorem aB.fresh {S Q:Nat→Prop} {w w1 w2:World} (h:aB S w w1) (k:aB Q w1 w2) (hQ:∀b,Q b→w.heap.size≤b):aB S w w2:=h.trans k fun x hx e=>by have:=hQ x e;omega
def goF (q:Bool) (ts:List Tk):List Tk:=match q with | true=>ts.tail | false=>ts
theorem aS {α} (l:List α) (i:Nat):(l.drop i).tail=l.drop (i+1):=by
 rw [List.tail_drop]
theorem J8 {T:List Tk} {i:Nat} (h:1≤(T.drop i).length):i+1≤T.length:=by
 rw [List.length_drop] at h;omega
theorem RS.next {w:World} {B cs:Nat} {tv:Value} {n:Nat} {T:List Tk} {i d:Nat} (h:RS w B cs tv n T i d) (hj:1≤(T.drop i).length) :
 RS (w.setCell ⟨cs,1,none⟩ (.int .i64 ((i:Int)+1))) B cs tv n T (i+1) d∧aB (fun b=>b=cs) w (w.setCell ⟨cs,1,none⟩ (.int .i64 ((i:Int)+1))):=by
 have:=h.set1 (J8 hj);simpa using this
theorem tM:∀{l:List Pt} {vs:List Value} {k:Nat} (hl:vs.length=l.length) (hk:k<l.length) (u:Value),(cL l vs).set (k*6+4) u=cL l (vs.set k u)
 | p::l,v::vs,0,hl,hk,u=>by
  simp [cL,fL]
 | p::l,v::vs,k+1,hl,hk,u=>by
  have h:=tM (l:=l) (vs:=vs) (k:=k) (by simpa using hl) (by simpa using hk) u;rw [List.set_cons_succ];simp only [cL];rw [List.set_append_right _ _ (by rw [jG];omega),jG,show (k+1)*6+4 - 6=k*6+4 by omega,h]
theorem Ho {l:List Pt} {vs:List Value} (hl:vs.length=l.length) (hs:∀i (h:i<l.length) (h':i<vs.length),∃a n c,vs[i]=.slice a n c):∀u∈cL l vs,u.oneCell'=true:=by
 intro u hu;obtain⟨j,hj⟩:=List.mem_iff_getElem?.1 hu;obtain⟨i,r,hi,rfl,hu⟩:=vG hl hj;obtain⟨a2,n2,c2,e2⟩:=hs i hi (by omega);have hm:=List.mem_of_getElem? hu;rw [e2] at hm;simp only [fL,e8,List.mem_cons,List.not_mem_nil,or_false] at hm;rcases hm with rfl | rfl | rfl | rfl | rfl | rfl<;>rfl
structure lI (w wr:World) (D:Nat→Prop) (n:Nat) (l:List Pt) (g cap k m:Nat) (us:List Value):Prop where
 len:us.length=l.length
 own:wr.ownsRow w.heap.size 67 6 (.slice (some ⟨g,0,none⟩) l.length cap) l.length (cL l us)
 done:∀j (h:j<l.length) (h':j<us.length),j<k→aV wr (fun b=>w.heap.size≤b∧b≠g) m l[j].word us[j]
 todo:∀j (h:j<l.length) (h':j<us.length),k≤j→aV w D n l[j].word us[j]
 kp:K0 w wr
 low:w.heap.size≤g
theorem lI.alloc {w wr:World} {D:Nat→Prop} {n:Nat} {l:List Pt} {g cap k m:Nat} {us:List Value} (h:lI w wr D n l g cap k m us) (o:Obj):lI w (wr.alloc o) D n l g cap k m us:=
 ⟨h.len,h.own.alloc o,fun j hj hj' hk=>(h.done j hj hj' hk).keep ((aB.refl (fun _=>False) wr).alloc o) (fun _ _ _ h=>h),h.todo,h.kp.alloc o,h.low⟩
theorem lI.next {w w1 w2:World} {D:Nat→Prop} {n:Nat} {l:List Pt} {g cap k m m2:Nat} {us:List Value} {u:Value} (h:lI w w1 D n l g cap k m us) (hk:k<l.length) (h2:K0 w1 w2)
 (hu:aV w2 (fun b=>w1.heap.size≤b) m2 l[k].word u):lI w (w2.setCell ⟨g,k*6+4,none⟩ u) D n l g cap (k+1) (max m m2) (us.set k u):=by
 have hlt:=(h.own.lt g rfl).2;have hown2:w2.ownsRow w.heap.size 67 6 (.slice (some ⟨g,0,none⟩) l.length cap) l.length (cL l us):=by
  obtain⟨h1,h3⟩:=h.own;refine⟨h1,?_⟩;rcases h3 with ⟨e,h0⟩ | ⟨g',cap',cur,e,hb,hg,rest⟩
  ·exact .inl ⟨e,h0⟩
  ·exact .inr ⟨g',cap',cur,e,hb,(h2.block g' (Array.getElem?_eq_some_iff.1 hg).1 (fun h=>h)).trans hg,rest⟩
 have hk2:aB (fun b=>b=g) w2 (w2.setCell ⟨g,k*6+4,none⟩ u):=(aB.refl _ _).setCell _ _ fun _=>rfl;refine⟨by rw [List.length_set];exact h.len,?_,fun j hj hj' hjk=>?_,fun j hj hj' hjk=>?_,(h.kp.trans h2 k3).fresh hk2 (fun b e=>by have:=h.low;omega),h.low⟩
 ·rw [←tM h.len hk];exact (hown2.stored _ _).1
 ·by_cases e:j=k
  ·subst e;rw [List.getElem_set_self];refine (aV.le ((hu.mono (D':=fun b=>w.heap.size≤b∧b≠g) fun b _ hb=>⟨by have:=h.kp.size;omega,by omega⟩).keep hk2 (fun b _ hb e=>hb.2 e)) (by omega))
  ·rw [List.getElem_set_ne (by omega)];exact (((h.done j hj (by rw [List.length_set] at hj';exact hj') (by omega)).keep h2 (fun _ _ _ h=>h)).keep hk2 (fun b _ hb e=>hb.2 e)).le (by omega)
 ·rw [List.getElem_set_ne (by omega)];exact h.todo j hj (by rw [List.length_set] at hj';exact hj') (by omega)
theorem lI.cells {w wr:World} {D:Nat→Prop} {n:Nat} {l:List Pt} {g cap k m:Nat} {us:List Value} (h:lI w wr D n l g cap k m us) (hk:k<l.length) :
 ∃(xa:OA) (xl xc:Nat),Six wr g (0+k*6) l[k] (.slice xa xl xc)∧aV w D n l[k].word (.slice xa xl xc)∧g<wr.heap.size∧wr.frozen? ⟨g,k*6+4,none⟩=false:=by
 have hk':k<us.length:=by rw [h.len];exact hk
 have hp:=h.todo k hk hk' (Nat.le_refl _);obtain⟨xa,xc,e,_,_⟩:=hp.shape;rw [e] at hp;refine⟨xa,_,xc,Fg fun j u hu=>?_,hp,(h.own.lt g rfl).2,h.own.frozenAt _⟩;have hj:j<6:=(List.getElem?_eq_some_iff.1 hu).1;rw [h.own.cellAt _ (by omega),Nat.zero_add];exact kL h.len hk j u (by rw [e];exact hu)
end Go.Proofs.YtiihpbccabeoeaaGreatDoor
