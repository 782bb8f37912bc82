/- The walk: a part. -/
import Derived.Test.YtiihpbccabeoeaaGreatDoorYPkA
import Derived.Test.YtiihpbccabeoeaaGreatDoorYPkC
import Derived.Test.YtiihpbccabeoeaaGreatDoorYPkD
import Derived.Lib.LaidTab
import Derived.StillTailTactics
import Derived.Lib.Fields
import Derived.Lib.SlicesS
namespace Go.Proofs.YtiihpbccabeoeaaGreatDoor
open Go.RowKit
set_option linter.unusedVariables false
set_option maxRecDepth 100000
set_option maxHeartbeats 16000000
abbrev Bs:=List UInt8
inductive Dt where
 | int (n:Int)
 | bool (b:Bool)
 | str (l:List UInt8)
 | sl (k:Nat) (cs:List Dt)
/-! Words as trees. -/
mutual
def partR:Pt→List Dt
 | .mk k t n o w q=>[.int (k:Nat),.str t,.str n,.str o,.sl 6 (partsR w),.bool q]
def partsR:List Pt→List Dt
 | []=>[]
 | p::l=>partR p++partsR l
end
def wordR (w:List Pt):Dt:=.sl 6 (partsR w)
theorem partR_len (p:Pt):(partR p).length=6:=by cases p;simp [partR]
theorem partR_eq (p:Pt):partR p=[.int (p.kind:Nat),.str p.text,.str p.name,.str p.op,wordR p.word,.bool p.quoted]:=by cases p;simp [partR,wordR,Pt.kind,Pt.text,Pt.name,Pt.op,Pt.word,Pt.quoted]
theorem partsR_nil:partsR []=[]:=by simp [partsR]
theorem partsR_cons (p:Pt) (l:List Pt):partsR (p::l)=partR p++partsR l:=by simp [partsR]
theorem partsR_len:∀l:List Pt,(partsR l).length=l.length*6
 | []=>by simp [partsR_nil]
 | p::l=>by rw [partsR_cons,List.length_append,partR_len,partsR_len l,List.length_cons];omega
theorem partsR_at:∀{l:List Pt} {i:Nat} (hi:i<l.length) {j:Nat} (hj:j<6),(partsR l)[i*6+j]? = (partR l[i])[j]?
 | p::l,0,hi,j,hj=>by
  rw [partsR_cons,Nat.zero_mul,Nat.zero_add,List.getElem?_append_left (by rw [partR_len];exact hj)];rfl
 | p::l,i+1,hi,j,hj=>by
  rw [partsR_cons,List.getElem?_append_right (by rw [partR_len];omega),partR_len,show (i+1)*6+j - 6=i*6+j by omega];exact partsR_at (l:=l) (by simpa using hi) hj
def ndR (kind:Nat) (not:Bool) (name:List UInt8) (words assigns redirs kids arms:List Dt):List Dt:=
 [.int (kind:Nat),.bool not,.str name,.sl 1 words,.sl 2 assigns,.sl 2 redirs,.sl 8 kids,.sl 2 arms]
abbrev PR (α:Type):=Except Nat (α×List Tk)
def atF (ts:List Tk):Tk:=ts.headD ⟨0,[],[]⟩
def isOpF (s:Bs) (ts:List Tk):Bool:=(atF ts).kind==2 && (atF ts).text==s
def plainT (t:Tk):Bs:=if t.kind==1 then (match t.word with
 | [p]=>if p.kind==1 then p.text else []
 | _=>[]) else []
def isWF (s:Bs) (ts:List Tk):Bool:=plainT (atF ts)==s
def reservedL:List Bs:=[[105,102],[116,104,101,110],[101,108,105,102],[101,108,115,101],[102,105],[119,104,105,108,101],[117,110,116,105,108],[100,111],[100,111,110,101],[102,111,114],[105,110],[99,97,115,101],[101,115,97,99],[123],[125],[33]]
def startsL:List Bs:=[[105,102],[119,104,105,108,101],[117,110,116,105,108],[102,111,114],[99,97,115,101],[123]]
def redirL:List Bs:=[[60],[62],[62,62],[50,62],[50,62,62]]
def redirB (ts:List Tk):Bool:=(atF ts).kind==2 && redirL.contains (atF ts).text
def beginsF (ts:List Tk):Bool:=
 if (atF ts).kind==1 then (if reservedL.contains (plainT (atF ts)) then startsL.contains (plainT (atF ts)) else true) else isOpF [40] ts || redirB ts
def moreF (ts:List Tk):Bool:=beginsF ts || isWF [33] ts
def linesF:List Tk→List Tk
 | []=>[]
 | t::r=>if t.kind==2 && t.text==[10] then linesF r else t::r
def endsF (ts:List Tk):Bool×List Tk:=if isOpF [59] ts || isOpF [10] ts then (true,linesF ts.tail) else (false,ts)
def seqF (l:List Dt):List Dt:=if l.length=8 then l else ndR 5 false [] [] [] [] l []
def nameOkF (s:Bs):Bool:=!s.isEmpty && decide (s.length≤60) && runF s==s.length
section
variable (cmd:List Tk→PR (List Dt)) (scr:Bs→Except Nat Unit)
def pipeLoop:Nat→List Dt→List Tk→PR (List Dt)
 | 0,_,_=>.error 0
 | n+1,acc,ts=>if isOpF [124] ts then (match cmd (linesF ts.tail) with
  | .error e=>.error e
  | .ok (d,r)=>pipeLoop n (acc++d) r) else .ok (acc,ts)
def pipelineF (ts:List Tk):PR (List Dt):=match cmd (if isWF [33] ts then ts.tail else ts) with
 | .error e=>.error e
 | .ok (d,r)=>match pipeLoop cmd (r.length+1) d r with
  | .error e=>.error e
  | .ok (l,r2)=>if l.length=8∧isWF [33] ts=false then .ok (l,r2) else .ok (ndR 2 (isWF [33] ts) [] [] [] [] l [],r2)
def andLoop:Nat→List Dt→List Tk→PR (List Dt)
 | 0,_,_=>.error 0
 | n+1,acc,ts=>if isOpF [38,38] ts then (match pipelineF cmd (linesF ts.tail) with
  | .error e=>.error e
  | .ok (d,r)=>andLoop n (ndR 3 false [] [] [] [] (acc++d) []) r)
  else if isOpF [124,124] ts then (match pipelineF cmd (linesF ts.tail) with
   | .error e=>.error e
   | .ok (d,r)=>andLoop n (ndR 4 false [] [] [] [] (acc++d) []) r)
  else .ok (acc,ts)
def andOrF (ts:List Tk):PR (List Dt):=match pipelineF cmd ts with
 | .error e=>.error e
 | .ok (d,r)=>andLoop cmd (r.length+1) d r
def allLoop:Nat→List Dt→List Tk→PR (List Dt)
 | 0,_,_=>.error 0
 | n+1,acc,ts=>if (endsF ts).1 && moreF (endsF ts).2 then (match andOrF cmd (endsF ts).2 with
  | .error e=>.error e
  | .ok (d,r)=>allLoop n (acc++d) r) else .ok (acc,(endsF ts).2)
def allF (ts:List Tk):PR (List Dt):=match andOrF cmd ts with
 | .error e=>.error e
 | .ok (d,r)=>allLoop cmd (r.length+1) d r
def listF (ts:List Tk):PR (List Dt):=match allF cmd (linesF ts) with
 | .error e=>.error e
 | .ok (l,r)=>.ok (seqF l,r)
def needW (s:Bs) (ts:List Tk):PR Unit:=if isWF s ts then .ok ((),ts.tail) else .error 2
def needOp (s:Bs) (ts:List Tk):PR Unit:=if isOpF s ts then .ok ((),ts.tail) else .error 2
mutual
def subsP:Pt→Except Nat Unit
 | .mk k t _ _ w _=>match (if k==5 then scr t else .ok ()) with
  | .error e=>.error e
  | .ok _=>subsF w
def subsF:List Pt→Except Nat Unit
 | []=>.ok ()
 | p::l=>match subsP p with
  | .error e=>.error e
  | .ok _=>subsF l
end
def wordF (ts:List Tk):PR (List Pt):=if (atF ts).kind==1 && !(atF ts).word.isEmpty then (match subsF scr (atF ts).word with
 | .error e=>.error e
 | .ok _=>.ok ((atF ts).word,ts.tail)) else .error 2
def redirF (ts:List Tk):PR (List Dt):=match wordF scr ts.tail with
 | .error e=>.error e
 | .ok (w,r)=>.ok ([.str (atF ts).text,wordR w],r)
def redirsF:Nat→List Dt→List Tk→PR (List Dt)
 | 0,_,_=>.error 0
 | n+1,acc,ts=>if redirB ts then (match redirF scr ts with
  | .error e=>.error e
  | .ok (d,r)=>redirsF n (acc++d) r) else .ok (acc,ts)
def cutEq:Bs→Option (Bs×Bs)
 | []=>none
 | c::t=>if c==61 then some ([],t) else (cutEq t).map fun p=>(c::p.1,p.2)
def assignF (w:List Pt):Option (Bs×List Pt):=match w with
 | []=>none
 | p::t=>if p.kind==1 then (match cutEq p.text with
  | none=>none
  | some (nm,rest)=>if nameOkF nm then some (nm,if rest.isEmpty then t else txtP rest::t) else none) else none
def simpleF:Nat→List Dt→List Dt→List Dt→List Tk→PR (List Dt)
 | 0,_,_,_,_=>.error 0
 | n+1,ws,gz,rs,ts=>if redirB ts then (match redirF scr ts with
  | .error e=>.error e
  | .ok (d,r)=>simpleF n ws gz (rs++d) r)
  else if (atF ts).kind==1 then (match wordF scr ts with
   | .error e=>.error e
   | .ok (w,r)=>match (if ws.isEmpty then assignF w else none) with
    | some (nm,v)=>simpleF n ws (gz++[.str nm,wordR v]) rs r
    | none=>simpleF n (ws++[wordR w]) gz rs r)
  else .ok (ndR 1 false [] ws gz rs [] [],ts)
def bodyF (ts:List Tk):PR (List Dt):=match needW [100,111] ts with
 | .error e=>.error e
 | .ok (_,r)=>match listF cmd r with
  | .error e=>.error e
  | .ok (d,r2)=>match needW [100,111,110,101] r2 with
   | .error e=>.error e
   | .ok (_,r3)=>.ok (d,r3)
def whileF (kind:Nat) (ts:List Tk):PR (List Dt):=match listF cmd ts with
 | .error e=>.error e
 | .ok (d,r)=>match bodyF cmd r with
  | .error e=>.error e
  | .ok (b,r2)=>.ok (ndR kind false [] [] [] [] (d++b) [],r2)
def choiceLoop:Nat→List Dt→List Tk→PR (List Dt)
 | 0,_,_=>.error 0
 | n+1,acc,ts=>match listF cmd ts with
  | .error e=>.error e
  | .ok (c,r)=>match needW [116,104,101,110] r with
   | .error e=>.error e
   | .ok (_,r1)=>match listF cmd r1 with
    | .error e=>.error e
    | .ok (b,r2)=>
     if isWF [101,108,105,102] r2 then choiceLoop n (acc++c++b) r2.tail
     else if isWF [101,108,115,101] r2 then (match listF cmd r2.tail with
      | .error e=>.error e
      | .ok (x,r3)=>.ok (acc++c++b++x,r3))
     else .ok (acc++c++b,r2)
def choiceF (ts:List Tk):PR (List Dt):=match choiceLoop cmd (ts.length+1) [] ts with
 | .error e=>.error e
 | .ok (l,r)=>match needW [102,105] r with
  | .error e=>.error e
  | .ok (_,r2)=>.ok (ndR 6 false [] [] [] [] l [],r2)
def wordsLoop:Nat→List Dt→List Tk→PR (List Dt)
 | 0,_,_=>.error 0
 | n+1,acc,ts=>if (atF ts).kind==1 then (match wordF scr ts with
  | .error e=>.error e
  | .ok (w,r)=>wordsLoop n (acc++[wordR w]) r) else .ok (acc,ts)
def eachF (ts:List Tk):PR (List Dt):=
 if nameOkF (plainT (atF ts)) then
  (if isWF [105,110] (linesF ts.tail) then (match wordsLoop scr ((linesF ts.tail).tail.length+1) [] (linesF ts.tail).tail with
   | .error e=>.error e
   | .ok (ws,r)=>if isOpF [59] r || isOpF [10] r then (match bodyF cmd (linesF r.tail) with
    | .error e=>.error e
    | .ok (b,r2)=>.ok (ndR 9 false (plainT (atF ts)) ws [] [] b [],r2)) else .error 2)
   else match bodyF cmd (linesF (if isOpF [59] (linesF ts.tail) then (linesF ts.tail).tail else linesF ts.tail)) with
    | .error e=>.error e
    | .ok (b,r2)=>.ok (ndR 9 false (plainT (atF ts)) [wordR [.mk 3 [] [64] [] [] true]] [] [] b [],r2))
 else .error 2
def patsLoop:Nat→List Dt→List Tk→PR (List Dt)
 | 0,_,_=>.error 0
 | n+1,acc,ts=>if isOpF [124] ts then (match wordF scr ts.tail with
  | .error e=>.error e
  | .ok (w,r)=>patsLoop n (acc++[wordR w]) r) else .ok (acc,ts)
def armF (ts:List Tk):PR (List Dt):=match wordF scr (if isOpF [40] ts then ts.tail else ts) with
 | .error e=>.error e
 | .ok (w,r)=>match patsLoop scr (r.length+1) [wordR w] r with
  | .error e=>.error e
  | .ok (ps,r1)=>match needOp [41] r1 with
   | .error e=>.error e
   | .ok (_,r2)=>if moreF (linesF r2) then (match listF cmd (linesF r2) with
    | .error e=>.error e
    | .ok (b,r3)=>.ok ([.sl 1 ps,.sl 8 b],r3))
    else .ok ([.sl 1 ps,.sl 8 []],linesF r2)
def armsLoop:Nat→List Dt→List Tk→PR (List Dt)
 | 0,_,_=>.error 0
 | n+1,acc,ts=>if isWF [101,115,97,99] ts then .ok (acc,ts.tail) else match armF cmd scr ts with
  | .error e=>.error e
  | .ok (a,r)=>if isOpF [59,59] r then armsLoop n (acc++a) (linesF r.tail) else match needW [101,115,97,99] r with
   | .error e=>.error e
   | .ok (_,r2)=>.ok (acc++a,r2)
def casesF (ts:List Tk):PR (List Dt):=match wordF scr ts with
 | .error e=>.error e
 | .ok (w,r)=>match needW [105,110] (linesF r) with
  | .error e=>.error e
  | .ok (_,r1)=>match armsLoop cmd scr ((linesF r1).length+1) [] (linesF r1) with
   | .error e=>.error e
   | .ok (l,r2)=>.ok (ndR 10 false [] [wordR w] [] [] [] l,r2)
def opensF (ts:List Tk):Bool:=isOpF [40] ts.tail
def functionF (name:Bs) (ts:List Tk):PR (List Dt):=match needOp [41] ts.tail.tail with
 | .error e=>.error e
 | .ok (_,r)=>if beginsF (linesF r) && (isOpF [40] (linesF r) || reservedL.contains (plainT (atF (linesF r)))) then (match cmd (linesF r) with
  | .error e=>.error e
  | .ok (d,r2)=>.ok (ndR 11 false name [] [] [] d [],r2))
  else .error 2
def shutF (kind:Nat) (close:List Tk→PR Unit) (ts:List Tk):PR (List Dt):=match listF cmd ts with
 | .error e=>.error e
 | .ok (d,r)=>match close r with
  | .error e=>.error e
  | .ok (_,r2)=>.ok (ndR kind false [] [] [] [] d [],r2)
def withRedirs (q:PR (List Dt)):PR (List Dt):=match q with
 | .error e=>.error e
 | .ok (d,r)=>match redirsF scr (r.length+1) [] r with
  | .error e=>.error e
  | .ok (rs,r2)=>.ok (d.set 5 (.sl 2 rs),r2)
def compoundF (ts:List Tk):Option (PR (List Dt)):=
 if isOpF [40] ts then some (withRedirs scr (shutF cmd 13 (needOp [41]) ts.tail))
 else if isWF [123] ts then some (withRedirs scr (shutF cmd 12 (needW [125]) ts.tail))
 else if isWF [105,102] ts then some (withRedirs scr (choiceF cmd ts.tail))
 else if isWF [119,104,105,108,101] ts then some (withRedirs scr (whileF cmd 7 ts.tail))
 else if isWF [117,110,116,105,108] ts then some (withRedirs scr (whileF cmd 8 ts.tail))
 else if isWF [102,111,114] ts then some (withRedirs scr (eachF cmd scr ts.tail))
 else if isWF [99,97,115,101] ts then some (withRedirs scr (casesF cmd scr ts.tail))
 else if nameOkF (plainT (atF ts)) && opensF ts then some (functionF cmd (plainT (atF ts)) ts)
 else none
def innerF (ts:List Tk):PR (List Dt):=match compoundF cmd scr ts with
 | some q=>q
 | none=>simpleF scr (ts.length+1) [] [] [] ts
def treeF (ts:List Tk):Except Nat (List Dt):=if (linesF ts).isEmpty then .ok [] else match allF cmd (linesF ts) with
 | .error e=>.error e
 | .ok (l,r)=>if r.isEmpty then .ok (seqF l) else .error 2
def scriptF (s:Bs):Except Nat (List Dt):=match tokensF s with
 | .error e=>.error e
 | .ok ts=>treeF cmd ts
end
def scrF (cmd:List Tk→PR (List Dt)) (s:Bs):Except Nat Unit:=match scriptF cmd s with
 | .error 0=>.ok ()
 | .error (e+1)=>.error (e+1)
 | .ok _=>.ok ()
def commandF:Nat→List Tk→PR (List Dt)
 | 0,ts=>if beginsF ts then .error 3 else .error 2
 | k+1,ts=>if beginsF ts then innerF (commandF k) (scrF (commandF k)) ts else .error 2
def parseF (s:Bs):Except Nat (List Dt):=scriptF (commandF 40) s
inductive Rd (w:World) (D:Nat→Prop):Dt→Value→Prop
 | int (n:Int):Rd w D (.int n) (.int .i64 n)
 | bool (b:Bool):Rd w D (.bool b) (.bool b)
 | str (l:List UInt8):Rd w D (.str l) (strV l)
 | nil (k c:Nat) (a:Option Addr) (hc:c≤maxLen):Rd w D (.sl k []) (.slice a 0 c)
 | sl (k:Nat) (cs:List Dt) (b off m c:Nat) (vs:Nat→Value) (hm:cs.length=m*k) (hmc:m≤c) (hc:c≤maxLen) (hb:b<w.heap.size) (hD:D b)
  (hv:∀j,j<cs.length→w.cell? ⟨b,off+j,none⟩=some (vs j)) (h:∀j (h:j<cs.length),Rd w D cs[j] (vs j)):Rd w D (.sl k cs) (.slice (some ⟨b,off,none⟩) m c)
def RdL (w:World) (D:Nat→Prop):List Dt→List Value→Prop
 | [],[]=>True
 | d::ds,v::vs=>Rd w D d v∧RdL w D ds vs
 | _,_=>False
section
variable {w w':World} {D D' S:Nat→Prop} {d:Dt} {v:Value} {ds es:List Dt} {vs us:List Value}
theorem Rd.keep (hk:Keeps S w w') (hD:∀b,b<w.heap.size→D b→¬S b) (h:Rd w D d v):Rd w' D d v:=by
 induction h with
 | int n=>exact .int n
 | bool b=>exact .bool b
 | str l=>exact .str l
 | nil k c a hc=>exact .nil k c a hc
 | sl k cs b off m c vs hm hmc hc hb hd hv h ih=>
  refine .sl k cs b off m c vs hm hmc hc (Nat.lt_of_lt_of_le hb hk.size) hd (fun j hj=>?_) ih;rw [World.cell?_of_block (hk.block b hb (hD b hb hd))];exact hv j hj
theorem Rd.mono (hD:∀b,b<w.heap.size→D b→D' b) (h:Rd w D d v):Rd w D' d v:=by
 induction h with
 | int n=>exact .int n
 | bool b=>exact .bool b
 | str l=>exact .str l
 | nil k c a hc=>exact .nil k c a hc
 | sl k cs b off m c vs hm hmc hc hb hd hv h ih=>exact .sl k cs b off m c vs hm hmc hc hb (hD b hb hd) hv ih
theorem Rd.shape {k:Nat} {cs:List Dt} (hk:0<k) (h:Rd w D (.sl k cs) v):∃a m c,v=.slice a m c∧cs.length=m*k∧m≤c∧c≤maxLen:=by
 cases h with
 | nil _ c a hc=>exact⟨a,0,c,rfl,by simp,Nat.zero_le _,hc⟩
 | sl _ _ b off m c vs hm hmc hc hb hD hv h=>exact⟨_,m,c,rfl,hm,hmc,hc⟩
theorem Rd.cell {k:Nat} {cs:List Dt} {a:Option Addr} {m c:Nat} (h:Rd w D (.sl k cs) (.slice a m c)) {j:Nat} (hj:j<cs.length) :
 ∃b off u,a=some ⟨b,off,none⟩∧b<w.heap.size∧D b∧w.cell? ⟨b,off+j,none⟩=some u∧Rd w D cs[j] u:=by
 cases h with
 | nil _ c a hc=>exact absurd hj (Nat.not_lt_zero _)
 | sl _ _ b off m c vs hm hmc hc hb hD hv h=>exact⟨b,off,vs j,rfl,hb,hD,hv j hj,h j hj⟩
theorem RdL.len:∀{ds:List Dt} {vs:List Value},RdL w D ds vs→vs.length=ds.length
 | [],[],_=>rfl
 | d::ds,v::vs,h=>by rw [List.length_cons,List.length_cons,RdL.len h.2]
theorem RdL.keep (hk:Keeps S w w') (hD:∀b,b<w.heap.size→D b→¬S b):∀{ds:List Dt} {vs:List Value},RdL w D ds vs→RdL w' D ds vs
 | [],[],_=>trivial
 | d::ds,v::vs,h=>⟨h.1.keep hk hD,RdL.keep hk hD h.2⟩
theorem RdL.mono (hD:∀b,b<w.heap.size→D b→D' b):∀{ds:List Dt} {vs:List Value},RdL w D ds vs→RdL w D' ds vs
 | [],[],_=>trivial
 | d::ds,v::vs,h=>⟨h.1.mono hD,RdL.mono hD h.2⟩
theorem RdL.lt {ds:List Dt} {vs:List Value} (h:RdL w D ds vs):RdL w (fun b=>D b∧b<w.heap.size) ds vs:=h.mono fun b hb hd=>⟨hd,hb⟩
theorem RdL.app:∀{ds es:List Dt} {vs us:List Value},RdL w D ds vs→RdL w D es us→RdL w D (ds++es) (vs++us)
 | [],es,[],us,_,h=>h
 | d::ds,es,v::vs,us,h,g=>⟨h.1,RdL.app h.2 g⟩
theorem RdL.at:∀{ds:List Dt} {vs:List Value} (h:RdL w D ds vs) {j:Nat} (hj:j<ds.length) (hj':j<vs.length),Rd w D ds[j] vs[j]
 | d::ds,v::vs,h,0,hj,hj'=>h.1
 | d::ds,v::vs,h,j+1,hj,hj'=>RdL.at h.2 (j:=j) (by simpa using hj) (by simpa using hj')
end
def OwnD (w:World) (D:Nat→Prop) (v:Value) (k:Nat) (T:TypeId) (n:Nat) (cs:List Dt):Prop:=
 ∃vs,RdL w (fun b=>D b∧v.ownBlock≠some b) cs vs∧w.ownsRow 0 T k v n vs
section
variable {w w':World} {D S:Nat→Prop} {v:Value} {k n:Nat} {T:TypeId} {cs:List Dt}
theorem OwnD.nil (w:World) (D:Nat→Prop) (k:Nat) (T:TypeId):OwnD w D (.slice none 0 0) k T 0 []:=⟨[],trivial,World.ownsRow_nil _ _ _ _⟩
theorem OwnD.len (h:OwnD w D v k T n cs):cs.length=n*k:=by
 obtain⟨vs,hr,ho⟩:=h;rw [←hr.len];exact ho.1
theorem OwnD.shape (h:OwnD w D v k T n cs):∃a c,v=.slice a n c∧n≤c∧c≤maxLen:=by
 obtain⟨vs,hr,ho⟩:=h;rcases ho.2 with ⟨rfl,h0⟩ | ⟨g,cap,cur,rfl,_,_,h1,h2,_⟩
 ·exact⟨none,0,by rw [h0],by omega,Nat.zero_le _⟩
 ·exact⟨_,cap,rfl,h1,h2⟩
theorem OwnD.lt (h:OwnD w D v k T n cs) {g:Nat} (hg:v.ownBlock=some g):g<w.heap.size:=by
 obtain⟨vs,hr,ho⟩:=h;exact (ho.lt g hg).2
theorem OwnD.keep (h:OwnD w D v k T n cs) (hk:Keeps S w w') (hD:∀b,b<w.heap.size→D b→¬S b) (hv:∀g,v.ownBlock=some g→¬S g):OwnD w' D v k T n cs:=by
 obtain⟨vs,hr,ho⟩:=h;refine⟨vs,hr.keep hk (fun b hb hd=>hD b hb hd.1),⟨ho.1,?_⟩⟩;rcases ho.2 with h0 | ⟨g,cap,cur,rfl,hb,hg,rest⟩
 ·exact .inl h0
 ·exact .inr ⟨g,cap,cur,rfl,hb,(hk.block g (Array.getElem?_eq_some_iff.1 hg).1 (hv g rfl)).trans hg,rest⟩
theorem OwnD.reads (h:OwnD w D v k T n cs) (hD:∀g,v.ownBlock=some g→D g):Rd w D (.sl k cs) v:=by
 have hl:=h.len;obtain⟨vs,hr,ho⟩:=h;rcases ho.2 with ⟨rfl,h0⟩ | ⟨g,cap,cur,rfl,hb,hg,h1,h2,h3⟩
 ·have:cs=[]:=List.eq_nil_of_length_eq_zero (by rw [hl,h0,Nat.zero_mul]);subst this;exact .nil k 0 none (Nat.zero_le _)
 ·refine .sl k cs g 0 n cap (fun j=>vs.getD j (.int .i64 0)) hl h1 h2 (Array.getElem?_eq_some_iff.1 hg).1 (hD g rfl) (fun j hj=>?_) (fun j hj=>?_)
  ·have hj':j<vs.length:=by rw [hr.len];exact hj
   have hc:=ho.cellAt j (by rw [←ho.1];exact hj');rw [Nat.zero_add,hc,List.getD_eq_getElem?_getD,List.getElem?_eq_getElem hj'];rfl
  ·have hj':j<vs.length:=by rw [hr.len];exact hj
   have h4:=(hr.at hj hj').mono (D':=D) (fun b _ hd=>hd.1);show Rd w D cs[j] (vs.getD j (.int .i64 0));rw [List.getD_eq_getElem?_getD,List.getElem?_eq_getElem hj'];exact h4
theorem OwnD.grow {v':Value} {vs us:List Value} {ds:List Dt} {B:Nat} (hr:RdL w (fun b=>B≤b∧v.ownBlock≠some b) cs vs) (hx:RdL w (fun b=>B≤b∧v.ownBlock≠some b) ds us)
 (hown:w'.ownsRow 0 T k v' n (vs++us)) (hk:Keeps (fun b=>v.ownBlock=some b) w w') (hg:∀y,v'.ownBlock=some y→v.ownBlock=some y∨w.heap.size≤y):OwnD w' (fun b=>B≤b) v' k T n (cs++ds):=by
 have h1:RdL w (fun b=>(B≤b∧v.ownBlock≠some b)∧b<w.heap.size) (cs++ds) (vs++us):=(hr.app hx).mono fun b hb hd=>⟨hd,hb⟩;refine⟨vs++us,(h1.keep hk (fun b _ hd s=>hd.1.2 s)).mono fun b _ hd=>⟨hd.1.1,fun e=>?_⟩,hown⟩;rcases hg b e with h3 | h3
 ·exact hd.1.2 h3
 ·have:=hd.2;omega
end
theorem rd_pts {w:World} {D:Nat→Prop}:∀{n:Nat} {l:List Pt} {v:Value},PtsAt w D n l v→Rd w D (wordR l) v
 | 0,l,v,⟨h0,a,c,e,hc⟩=>by
  subst h0 e;rw [wordR,partsR_nil];exact .nil 6 c a hc
 | n+1,l,v,⟨a,c,e,h1,h2,h⟩=>by
  subst e;cases l with
  | nil=>rw [wordR,partsR_nil];exact .nil 6 c a h2
  | cons p0 t=>
   obtain⟨b,off,wv0,ea,hb,hd,_,_⟩:=h 0 (by simp);subst ea;have key:∀i (hi:i<(p0::t).length),∃wv,PtCells w b (off+i*6) (p0::t)[i] wv∧Rd w D (wordR (p0::t)[i].word) wv:=fun i hi=>by
    obtain⟨b',off',wv,e,hb',hd',hc,hw⟩:=h i hi;obtain⟨rfl,rfl⟩:b=b'∧off=off':=by simpa using e
    exact⟨wv,hc,rd_pts hw⟩
   have hex:∀j,j<(partsR (p0::t)).length→∃u,w.cell? ⟨b,off+j,none⟩=some u∧∀(hj:j<(partsR (p0::t)).length),Rd w D (partsR (p0::t))[j] u:=fun j hj=>by
    have hj0:=hj;rw [partsR_len] at hj;have hi:j / 6<(p0::t).length:=by omega
    have hr:j%6<6:=by omega
    have hje:j / 6*6+j%6=j:=by omega
    obtain⟨wv,hc,hw⟩:=key (j / 6) hi;have hp:=partsR_at hi hr;rw [hje,List.getElem?_eq_getElem hj0,partR_eq] at hp;have hcell:=hc (j%6);rw [show off+j / 6*6+j%6=off+j by omega] at hcell;generalize (p0::t)[j / 6]=q at *;have h6:j%6=0∨j%6=1∨j%6=2∨j%6=3∨j%6=4∨j%6=5:=by omega
    rcases h6 with e | e | e | e | e | e
    all_goals rw [e] at hp hcell
    ·exact⟨_,hcell _ rfl,fun hj=>by rw [Option.some.inj hp];exact .int _⟩
    ·exact⟨_,hcell _ rfl,fun hj=>by rw [Option.some.inj hp];exact .str _⟩
    ·exact⟨_,hcell _ rfl,fun hj=>by rw [Option.some.inj hp];exact .str _⟩
    ·exact⟨_,hcell _ rfl,fun hj=>by rw [Option.some.inj hp];exact .str _⟩
    ·exact⟨_,hcell _ rfl,fun hj=>by rw [Option.some.inj hp];exact hw⟩
    ·exact⟨_,hcell _ rfl,fun hj=>by rw [Option.some.inj hp];exact .bool _⟩
   have hvs:∃vs:Nat→Value,∀j,j<(partsR (p0::t)).length→w.cell? ⟨b,off+j,none⟩=some (vs j)∧∀(hj:j<(partsR (p0::t)).length),Rd w D (partsR (p0::t))[j] (vs j):=
    ⟨fun j=>if hj:j<(partsR (p0::t)).length then Classical.choose (hex j hj) else .int .i64 0,fun j hj=>by
     have e:(if hj:j<(partsR (p0::t)).length then Classical.choose (hex j hj) else .int .i64 0)=Classical.choose (hex j hj):=dif_pos hj;show w.cell? _=some (if hj:j<(partsR (p0::t)).length then Classical.choose (hex j hj) else .int .i64 0)∧∀(hj':j<(partsR (p0::t)).length),Rd w D (partsR (p0::t))[j] (if hj:j<(partsR (p0::t)).length then Classical.choose (hex j hj) else .int .i64 0);rw [e];exact Classical.choose_spec (hex j hj)⟩
   obtain⟨vs,hvs⟩:=hvs;exact .sl 6 _ b off _ c vs (partsR_len _) h1 h2 hb hd (fun j hj=>(hvs j hj).1) (fun j hj=>(hvs j hj).2 hj)
def Short {α:Type} (f:List Tk→PR α):Prop:=∀ts d r,f ts=.ok (d,r)→r.length≤ts.length
theorem lines_len:∀ts:List Tk,(linesF ts).length≤ts.length
 | []=>Nat.le_refl _
 | t::r=>by
  unfold linesF;split
  ·have:=lines_len r;rw [List.length_cons];omega
  ·exact Nat.le_refl _
theorem tail_len (ts:List Tk):ts.tail.length≤ts.length:=by rw [List.length_tail];omega
theorem ends_len (ts:List Tk):(endsF ts).2.length≤ts.length:=by
 unfold endsF;split
 ·exact Nat.le_trans (lines_len _) (tail_len _)
 ·exact Nat.le_refl _
theorem op_pos {s:List UInt8} {ts:List Tk} (h:isOpF s ts=true):1≤ts.length:=by
 cases ts with
 | nil=>unfold isOpF atF at h;simp at h
 | cons t r=>simp
theorem kind_pos {ts:List Tk} (h:((atF ts).kind==1)=true):1≤ts.length:=by
 cases ts with
 | nil=>unfold atF at h;simp at h
 | cons t r=>simp
theorem redir_pos {ts:List Tk} (h:redirB ts=true):1≤ts.length:=by
 cases ts with
 | nil=>unfold redirB atF at h;simp at h
 | cons t r=>simp
theorem isW_pos {s:List UInt8} {ts:List Tk} (hs:s≠[]) (h:isWF s ts=true):1≤ts.length:=by
 cases ts with
 | nil=>
  unfold isWF atF at h;rw [beq_iff_eq] at h;exact absurd h.symm hs
 | cons t r=>simp
section
variable {cmd:List Tk→PR (List Dt)} {scr:Bs→Except Nat Unit} (hc:Short cmd)
include hc
theorem pipeLoop_len:∀(n:Nat) (acc:List Dt) (ts:List Tk) (d:List Dt) (r:List Tk),pipeLoop cmd n acc ts=.ok (d,r)→r.length≤ts.length
 | 0,acc,ts,d,r,h=>by cases h
 | n+1,acc,ts,d,r,h=>by
  unfold pipeLoop at h;split at h
  ·split at h
   ·cases h
   ·next x y hq=>
    have h1:=hc _ _ _ hq;have h2:=pipeLoop_len n _ _ _ _ h;have:=lines_len ts.tail;have:=tail_len ts;omega
  ·cases h;exact Nat.le_refl _
theorem pipeline_len:Short (pipelineF cmd):=by
 intro ts d r h;unfold pipelineF at h;split at h
 ·cases h
 ·next x y hq=>
  have h1:=hc _ _ _ hq;have h0:(if isWF [33] ts then ts.tail else ts).length≤ts.length:=by
   split
   ·exact tail_len ts
   ·exact Nat.le_refl _
  split at h
  ·cases h
  ·next l r2 hq2=>
   have h2:=pipeLoop_len hc _ _ _ _ _ hq2;have h3:r=r2:=by
    split at h<;>cases h<;>rfl
   subst h3;omega
theorem andLoop_len:∀(n:Nat) (acc:List Dt) (ts:List Tk) (d:List Dt) (r:List Tk),andLoop cmd n acc ts=.ok (d,r)→r.length≤ts.length
 | 0,acc,ts,d,r,h=>by cases h
 | n+1,acc,ts,d,r,h=>by
  have hl:=lines_len ts.tail;have ht:=tail_len ts;unfold andLoop at h;split at h
  ·split at h
   ·cases h
   ·next x y hq=>
    have h1:=pipeline_len hc _ _ _ hq;have h2:=andLoop_len n _ _ _ _ h;omega
  ·split at h
   ·split at h
    ·cases h
    ·next x y hq=>
     have h1:=pipeline_len hc _ _ _ hq;have h2:=andLoop_len n _ _ _ _ h;omega
   ·cases h;exact Nat.le_refl _
theorem andOr_len:Short (andOrF cmd):=by
 intro ts d r h;unfold andOrF at h;split at h
 ·cases h
 ·next x y hq=>
  have h1:=pipeline_len hc _ _ _ hq;have h2:=andLoop_len hc _ _ _ _ _ h;omega
theorem allLoop_len:∀(n:Nat) (acc:List Dt) (ts:List Tk) (d:List Dt) (r:List Tk),allLoop cmd n acc ts=.ok (d,r)→r.length≤ts.length
 | 0,acc,ts,d,r,h=>by cases h
 | n+1,acc,ts,d,r,h=>by
  have he:=ends_len ts;unfold allLoop at h;split at h
  ·split at h
   ·cases h
   ·next x y hq=>
    have h1:=andOr_len hc _ _ _ hq;have h2:=allLoop_len n _ _ _ _ h;omega
  ·cases h;exact he
theorem all_len:Short (allF cmd):=by
 intro ts d r h;unfold allF at h;split at h
 ·cases h
 ·next x y hq=>
  have h1:=andOr_len hc _ _ _ hq;have h2:=allLoop_len hc _ _ _ _ _ h;omega
theorem list_len:Short (listF cmd):=by
 intro ts d r h;unfold listF at h;split at h
 ·cases h
 ·next x y hq=>
  have h1:=all_len hc _ _ _ hq;have:=lines_len ts;cases h;omega
end
theorem needW_len {s:List UInt8}:Short (needW s):=by
 intro ts d r h;unfold needW at h;split at h
 ·cases h;exact tail_len ts
 ·cases h
theorem needOp_len {s:List UInt8}:Short (needOp s):=by
 intro ts d r h;unfold needOp at h;split at h
 ·cases h;exact tail_len ts
 ·cases h
theorem word_tail {scr:Bs→Except Nat Unit} {ts:List Tk} {w:List Pt} {r:List Tk} (h:wordF scr ts=.ok (w,r)):r=ts.tail∧1≤ts.length∧w=(atF ts).word∧w≠[]:=by
 unfold wordF at h;split at h
 ·next hk=>
  split at h
  ·cases h
  ·cases h;rw [Bool.and_eq_true] at hk;refine⟨rfl,kind_pos hk.1,rfl,fun e=>?_⟩;rw [e] at hk;exact absurd hk.2 (by decide)
 ·cases h
theorem word_len {scr:Bs→Except Nat Unit} {ts:List Tk} {w:List Pt} {r:List Tk} (h:wordF scr ts=.ok (w,r)):r.length+1≤ts.length:=by
 obtain⟨rfl,h1,_⟩:=word_tail h;rw [List.length_tail];omega
theorem redirF_len {scr:Bs→Except Nat Unit} {ts:List Tk} {d:List Dt} {r:List Tk} (h:redirF scr ts=.ok (d,r)):r.length+1≤ts.length:=by
 unfold redirF at h;split at h
 ·cases h
 ·next w r1 hq=>
  have:=word_len hq;have:=tail_len ts;cases h;omega
theorem redirs_len {scr:Bs→Except Nat Unit}:∀(n:Nat) (acc:List Dt) (ts:List Tk) (d:List Dt) (r:List Tk),redirsF scr n acc ts=.ok (d,r)→r.length≤ts.length
 | 0,acc,ts,d,r,h=>by cases h
 | n+1,acc,ts,d,r,h=>by
  unfold redirsF at h;split at h
  ·split at h
   ·cases h
   ·next x y hq=>
    have:=redirF_len hq;have h2:=redirs_len n _ _ _ _ h;omega
  ·cases h;exact Nat.le_refl _
theorem simple_len {scr:Bs→Except Nat Unit}:∀(n:Nat) (ws gz rs:List Dt) (ts:List Tk) (d:List Dt) (r:List Tk),simpleF scr n ws gz rs ts=.ok (d,r)→r.length≤ts.length
 | 0,ws,gz,rs,ts,d,r,h=>by cases h
 | n+1,ws,gz,rs,ts,d,r,h=>by
  unfold simpleF at h;split at h
  ·split at h
   ·cases h
   ·next x y hq=>
    have:=redirF_len hq;have h2:=simple_len n _ _ _ _ _ _ h;omega
  ·split at h
   ·split at h
    ·cases h
    ·next x y hq=>
     have:=word_len hq;split at h
     ·have h2:=simple_len n _ _ _ _ _ _ h;omega
     ·have h2:=simple_len n _ _ _ _ _ _ h;omega
   ·cases h;exact Nat.le_refl _
theorem wordsLoop_len {scr:Bs→Except Nat Unit}:∀(n:Nat) (acc:List Dt) (ts:List Tk) (d:List Dt) (r:List Tk),wordsLoop scr n acc ts=.ok (d,r)→r.length≤ts.length
 | 0,acc,ts,d,r,h=>by cases h
 | n+1,acc,ts,d,r,h=>by
  unfold wordsLoop at h;split at h
  ·split at h
   ·cases h
   ·next x y hq=>
    have:=word_len hq;have h2:=wordsLoop_len n _ _ _ _ h;omega
  ·cases h;exact Nat.le_refl _
theorem patsLoop_len {scr:Bs→Except Nat Unit}:∀(n:Nat) (acc:List Dt) (ts:List Tk) (d:List Dt) (r:List Tk),patsLoop scr n acc ts=.ok (d,r)→r.length≤ts.length
 | 0,acc,ts,d,r,h=>by cases h
 | n+1,acc,ts,d,r,h=>by
  unfold patsLoop at h;split at h
  ·split at h
   ·cases h
   ·next x y hq=>
    have:=word_len hq;have:=tail_len ts;have h2:=patsLoop_len n _ _ _ _ h;omega
  ·cases h;exact Nat.le_refl _
section
variable {cmd:List Tk→PR (List Dt)} {scr:Bs→Except Nat Unit} (hc:Short cmd)
include hc
theorem body_len:Short (bodyF cmd):=by
 intro ts d r h;unfold bodyF at h;split at h
 ·cases h
 ·next x y hq=>
  have h1:=needW_len _ _ _ hq;split at h
  ·cases h
  ·next x2 y2 hq2=>
   have h2:=list_len hc _ _ _ hq2;split at h
   ·cases h
   ·next x3 y3 hq3=>
    have h3:=needW_len _ _ _ hq3;cases h;omega
theorem while_len (kind:Nat):Short (whileF cmd kind):=by
 intro ts d r h;unfold whileF at h;split at h
 ·cases h
 ·next x y hq=>
  have h1:=list_len hc _ _ _ hq;split at h
  ·cases h
  ·next x2 y2 hq2=>
   have h2:=body_len hc _ _ _ hq2;cases h;omega
theorem choiceLoop_len:∀(n:Nat) (acc:List Dt) (ts:List Tk) (d:List Dt) (r:List Tk),choiceLoop cmd n acc ts=.ok (d,r)→r.length≤ts.length
 | 0,acc,ts,d,r,h=>by cases h
 | n+1,acc,ts,d,r,h=>by
  unfold choiceLoop at h;split at h
  ·cases h
  ·next c r0 hq=>
   have h1:=list_len hc _ _ _ hq;split at h
   ·cases h
   ·next u r1 hq1=>
    have h2:=needW_len _ _ _ hq1;split at h
    ·cases h
    ·next b r2 hq2=>
     have h3:=list_len hc _ _ _ hq2;have:=tail_len r2;split at h
     ·have:=choiceLoop_len n _ _ _ _ h;omega
     ·split at h
      ·split at h
       ·cases h
       ·next x r3 hq3=>
        have h4:=list_len hc _ _ _ hq3;cases h;omega
      ·cases h;omega
theorem choice_len:Short (choiceF cmd):=by
 intro ts d r h;unfold choiceF at h;split at h
 ·cases h
 ·next x y hq=>
  have h1:=choiceLoop_len hc _ _ _ _ _ hq;split at h
  ·cases h
  ·next x2 y2 hq2=>
   have h2:=needW_len _ _ _ hq2;cases h;omega
theorem each_len:Short (eachF cmd scr):=by
 intro ts d r h;have a1:=tail_len ts;have a2:=lines_len ts.tail;have a3:=tail_len (linesF ts.tail);unfold eachF at h;split at h
 ·split at h
  ·split at h
   ·cases h
   ·next x y hq=>
    have h1:=wordsLoop_len _ _ _ _ _ hq;have a4:=tail_len y;have a5:=lines_len y.tail;split at h
    ·split at h
     ·cases h
     ·next x2 y2 hq2=>
      have h2:=body_len hc _ _ _ hq2;cases h;omega
    ·cases h
  ·have a6:(if isOpF [59] (linesF ts.tail) then (linesF ts.tail).tail else linesF ts.tail).length≤(linesF ts.tail).length:=by
    split
    ·exact a3
    ·exact Nat.le_refl _
   have a7:=lines_len (if isOpF [59] (linesF ts.tail) then (linesF ts.tail).tail else linesF ts.tail);split at h
   ·cases h
   ·next x2 y2 hq2=>
    have h2:=body_len hc _ _ _ hq2;cases h;omega
 ·cases h
theorem arm_len {ts:List Tk} {d:List Dt} {r:List Tk} (h:armF cmd scr ts=.ok (d,r)):r.length+1≤ts.length:=by
 unfold armF at h;have a0:(if isOpF [40] ts then ts.tail else ts).length≤ts.length:=by
  split
  ·exact tail_len ts
  ·exact Nat.le_refl _
 split at h
 ·cases h
 ·next w r0 hq=>
  have h1:=word_len hq;split at h
  ·cases h
  ·next ps r1 hq1=>
   have h2:=patsLoop_len _ _ _ _ _ hq1;split at h
   ·cases h
   ·next u r2 hq2=>
    have h3:=needOp_len _ _ _ hq2;have a1:=lines_len r2;split at h
    ·split at h
     ·cases h
     ·next b r3 hq3=>
      have h4:=list_len hc _ _ _ hq3;cases h;omega
    ·cases h;omega
theorem armsLoop_len:∀(n:Nat) (acc:List Dt) (ts:List Tk) (d:List Dt) (r:List Tk),armsLoop cmd scr n acc ts=.ok (d,r)→r.length≤ts.length
 | 0,acc,ts,d,r,h=>by cases h
 | n+1,acc,ts,d,r,h=>by
  unfold armsLoop at h;split at h
  ·cases h;exact tail_len ts
  ·split at h
   ·cases h
   ·next a r0 hq=>
    have h1:=arm_len hc hq;have a1:=tail_len r0;have a2:=lines_len r0.tail;split at h
    ·have:=armsLoop_len n _ _ _ _ h;omega
    ·split at h
     ·cases h
     ·next u r2 hq2=>
      have h3:=needW_len _ _ _ hq2;cases h;omega
theorem cases_len:Short (casesF cmd scr):=by
 intro ts d r h;unfold casesF at h;split at h
 ·cases h
 ·next w r0 hq=>
  have h1:=word_len hq;have a1:=lines_len r0;split at h
  ·cases h
  ·next u r1 hq1=>
   have h2:=needW_len _ _ _ hq1;have a2:=lines_len r1;split at h
   ·cases h
   ·next l r2 hq2=>
    have h3:=armsLoop_len hc _ _ _ _ _ hq2;cases h;omega
theorem function_len (name:Bs):Short (functionF cmd name):=by
 intro ts d r h;have a1:=tail_len ts;have a2:=tail_len ts.tail;unfold functionF at h;split at h
 ·cases h
 ·next u r0 hq=>
  have h1:=needOp_len _ _ _ hq;have a3:=lines_len r0;split at h
  ·split at h
   ·cases h
   ·next x y hq2=>
    have h2:=hc _ _ _ hq2;cases h;omega
  ·cases h
theorem shut_len (kind:Nat) {close:List Tk→PR Unit} (hcl:Short close):Short (shutF cmd kind close):=by
 intro ts d r h;unfold shutF at h;split at h
 ·cases h
 ·next x y hq=>
  have h1:=list_len hc _ _ _ hq;split at h
  ·cases h
  ·next x2 y2 hq2=>
   have h2:=hcl _ _ _ hq2;cases h;omega
omit hc in
theorem withRedirs_len {q:PR (List Dt)} {n:Nat} (hq:∀d r,q=.ok (d,r)→r.length≤n) {d:List Dt} {r:List Tk} (h:withRedirs scr q=.ok (d,r)):r.length≤n:=by
 unfold withRedirs at h;split at h
 ·cases h
 ·next x y=>
  have h1:=hq _ _ rfl;split at h
  ·cases h
  ·next rs r2 hq2=>
   have h2:=redirs_len _ _ _ _ _ hq2;cases h;omega
theorem inner_len:Short (innerF cmd scr):=by
 intro ts d r h;have a1:=tail_len ts;unfold innerF at h;split at h
 ·next q hq=>
  subst h;unfold compoundF at hq;have key:∀{f:List Tk→PR (List Dt)},Short f→∀{d r},withRedirs scr (f ts.tail)=.ok (d,r)→r.length≤ts.length:=fun hf d r h=>
   Nat.le_trans (withRedirs_len (fun d r h=>hf _ _ _ h) h) a1
  split at hq
  ·exact key (shut_len hc 13 needOp_len) (Option.some.inj hq)
  ·split at hq
   ·exact key (shut_len hc 12 needW_len) (Option.some.inj hq)
   ·split at hq
    ·exact key (choice_len hc) (Option.some.inj hq)
    ·split at hq
     ·exact key (while_len hc 7) (Option.some.inj hq)
     ·split at hq
      ·exact key (while_len hc 8) (Option.some.inj hq)
      ·split at hq
       ·exact key (each_len hc) (Option.some.inj hq)
       ·split at hq
        ·exact key (cases_len hc) (Option.some.inj hq)
        ·split at hq
         ·exact function_len hc _ _ _ _ (Option.some.inj hq)
         ·cases hq
 ·exact simple_len _ _ _ _ _ _ _ h
end
theorem command_len:∀k,Short (commandF k)
 | 0=>by
  intro ts d r h;unfold commandF at h;split at h<;>cases h
 | k+1=>by
  intro ts d r h;unfold commandF at h;split at h
  ·exact inner_len (command_len k) _ _ _ h
  ·cases h
mutual
def smP:Pt→Bool
 | .mk k t n o w _=>(k != 1 || w.isEmpty) && (decide (t.length≤40000) && (decide (w.length≤40000) && smL w))
def smL:List Pt→Bool
 | []=>true
 | p::l=>smP p && smL l
end
def Sm (l:List Pt):Prop:=l.length≤40000∧smL l=true
theorem smL_cons {p:Pt} {l:List Pt}:smL (p::l)=(smP p && smL l):=by simp [smL]
theorem smP_iff (p:Pt):smP p=true↔(p.kind=1→p.word=[])∧p.text.length≤40000∧Sm p.word:=by
 cases p with
 | mk k t n o w q=>
  simp only [smP,Bool.and_eq_true,decide_eq_true_eq,Pt.kind,Pt.word,Pt.text];refine and_congr ?_ Iff.rfl;rw [Bool.or_eq_true,bne_iff_ne,List.isEmpty_iff];by_cases h:k=1
  ·simp [h]
  ·simp [h]
theorem smL_iff:∀{l:List Pt},smL l=true↔∀p∈l,(p.kind=1→p.word=[])∧p.text.length≤40000∧Sm p.word
 | []=>by simp [smL]
 | q::l=>by
  rw [smL_cons,Bool.and_eq_true,smP_iff,smL_iff (l:=l)];simp
theorem smL_mem {l:List Pt} {p:Pt} (h:smL l=true) (hp:p∈l):p.text.length≤40000∧Sm p.word:=(smL_iff.1 h p hp).2
theorem smL_text {l:List Pt} {p:Pt} (h:smL l=true) (hp:p∈l):p.kind=1→p.word=[]:=(smL_iff.1 h p hp).1
theorem Sm.nil:Sm []:=⟨Nat.zero_le _,by simp [smL]⟩
def SmT (T:List Tk):Prop:=T.length≤20000∧∀t∈T,t.text.length≤40000∧Sm t.word
def WSm (l:List Pt):Prop:=∀p∈l,Sm p.word∧(p.kind=1→p.word=[])
theorem WSm.append {a b:List Pt} (ha:WSm a) (hb:WSm b):WSm (a++b):=fun p hp=>by
 rcases List.mem_append.1 hp with h | h
 ·exact ha p h
 ·exact hb p h
theorem wt_one (x:Pt):wtF [x]=x.text.length+1:=by simp [wtF]
theorem wt_mem:∀{l:List Pt} {p:Pt},p∈l→p.text.length+1≤wtF l
 | q::l,p,h=>by
  rcases List.mem_cons.1 h with rfl | h
  ·simp only [wtF];omega
  ·have:=wt_mem h;simp only [wtF];omega
theorem last_split {l:List Pt} {y:Pt} (h:l.getLast? = some y):l=l.dropLast++[y]:=by
 obtain⟨ys,rfl⟩:=List.getLast?_eq_some_iff.1 h;simp
theorem addP_wt (out:List Pt) (x:Pt):wtF (addP out x)≤wtF out+wtF [x]:=by
 unfold addP;split
 ·next y hy=>
  split
  ·have e:=last_split hy;have h1:wtF out=wtF (out.dropLast++[y]):=by rw [←e]
   rw [wtF_append,h1,wtF_append,wt_one,wt_one,wt_one];cases y;cases x;simp only [Pt.join,Pt.text,Pt.kind,List.length_append];omega
  ·rw [wtF_append];exact Nat.le_refl _
 ·omega
theorem addP_words {out:List Pt} {x:Pt} (ho:WSm out) (hx:Sm x.word∧(x.kind=1→x.word=[])):WSm (addP out x):=by
 unfold addP;split
 ·next y hy=>
  split
  ·have e:=last_split hy;refine WSm.append (fun p hp=>ho p (List.dropLast_subset _ hp)) (fun p hp=>?_);rw [List.mem_singleton.1 hp];have:=ho y (by rw [e];simp);cases y;exact this
  ·refine WSm.append ho (fun p hp=>?_);rw [List.mem_singleton.1 hp];exact hx
 ·intro p hp;rw [List.mem_singleton.1 hp];exact hx
theorem fold_small:∀(l:List Pt) (a:List Pt×Bool),WSm l→WSm a.1→wtF (l.foldl stepN a).1≤wtF a.1+wtF l∧WSm (l.foldl stepN a).1
 | [],a,_,ha=>⟨by simp [wtF],ha⟩
 | x::l,a,hl,ha=>by
  rw [List.foldl_cons];have h1:wtF (stepN a x).1≤wtF a.1+wtF [x]∧WSm (stepN a x).1:=by
   unfold stepN;split
   ·exact⟨Nat.le_add_right _ _,ha⟩
   ·exact⟨addP_wt _ _,addP_words ha (hl x (List.mem_cons_self ..))⟩
  obtain⟨h2,h3⟩:=fold_small l (stepN a x) (fun p hp=>hl p (List.mem_cons_of_mem _ hp)) h1.2;refine⟨?_,h3⟩;have h4:=h1.1;rw [wt_one] at h4;simp only [wtF];omega
theorem tidy_small {l:List Pt} (h:WSm l) (hw:wtF l≤39999):Sm (tidyF l):=by
 obtain⟨h1,h2⟩:=fold_small l ([],false) h (fun p hp=>by cases hp);unfold tidyF;split
 ·exact⟨by decide,smL_iff.2 fun p hp=>by rw [List.mem_singleton.1 hp];exact⟨fun _=>rfl,by decide,Sm.nil⟩⟩
 ·have h3:wtF (normF l).1≤39999:=by
   show wtF (l.foldl stepN ([],false)).1≤_;simp only [wtF] at h1;omega
  refine⟨by have:=wtF_len (normF l).1;omega,smL_iff.2 fun p hp=>⟨(h2 p hp).2,?_,(h2 p hp).1⟩⟩;have:=wt_mem hp;omega
theorem WSm.txt (s:List UInt8):WSm [txtP s]:=fun p hp=>by rw [List.mem_singleton.1 hp];exact⟨Sm.nil,fun _=>rfl⟩
theorem WSm.quo (s:List UInt8):WSm [quoP s]:=fun p hp=>by rw [List.mem_singleton.1 hp];exact⟨Sm.nil,fun _=>rfl⟩
theorem WSm.leaf (k:Nat) (t n o:List UInt8) (q:Bool):WSm [.mk k t n o [] q]:=fun p hp=>by rw [List.mem_singleton.1 hp];exact⟨Sm.nil,fun _=>rfl⟩
theorem WSm.nil:WSm []:=fun p hp=>by cases hp
def Md.slack:Md→Nat | .dol _=>2 | _=>0
theorem ahead_ok2 {l0:List Pt} {r:Res} {l:List Pt} {r1:List UInt8} (h:r.ahead l0=.ok (l,r1)):∃m,r=.ok (m,r1)∧l=l0++m:=by
 cases r with
 | error e=>cases h
 | ok x=>obtain⟨m,r2⟩:=x;cases h;exact⟨m,rfl,rfl⟩
theorem until_lt {c:UInt8}:∀{l:List UInt8} {k:Nat},untilF c l=some k→k<l.length
 | x::t,k,h=>by
  unfold untilF at h;split at h
  ·cases h;simp
  ·cases h2:untilF c t with
   | none=>rw [h2] at h;cases h
   | some j=>rw [h2] at h;cases h;have:=until_lt h2;simp;omega
theorem calc_lt:∀{l:List UInt8} {o k:Nat},calcF o l=some k→k+2≤l.length
 | [],o,k,h=>by cases h
 | c::t,o,k,h=>by
  unfold calcF at h;split at h
  ·cases h2:calcF (o+1) t with
   | none=>rw [h2] at h;cases h
   | some j=>rw [h2] at h;cases h;have:=calc_lt h2;simp;omega
  ·split at h
   ·split at h
    ·split at h
     ·next hh=>
      cases h;cases t with
      | nil=>cases hh
      | cons y z=>simp
     ·cases h
    ·cases h2:calcF (o - 1) t with
     | none=>rw [h2] at h;cases h
     | some j=>rw [h2] at h;cases h;have:=calc_lt h2;simp;omega
   ·cases h2:calcF o t with
    | none=>rw [h2] at h;cases h
    | some j=>rw [h2] at h;cases h;have:=calc_lt h2;simp;omega
theorem map_somE {o:Option Nat} {k:Nat} (h:o.map (· + 1)=some k):∃j,o=some j∧k=j+1:=by
 cases o with
 | none=>cases h
 | some j=>cases h;exact⟨j,rfl,rfl⟩
theorem sub_lt:∀{l:List UInt8} {m:SM} {o k:Nat},subF m o l=some k→k<l.length
 | [],m,o,k,h=>by cases m<;>cases h
 | c::t,m,o,k,h=>by
  cases m with
  | n=>
   unfold subF at h
   repeat' split at h
   all_goals first
    | (cases h;simp;done)
    | (obtain⟨j,h2,rfl⟩:=map_somE h;have:=sub_lt h2;simp;omega)
  | q1=>obtain⟨j,h2,rfl⟩:=map_somE h;have:=sub_lt h2;simp;omega
  | q2=>obtain⟨j,h2,rfl⟩:=map_somE h;have:=sub_lt h2;simp;omega
  | bn=>obtain⟨j,h2,rfl⟩:=map_somE h;have:=sub_lt h2;simp;omega
  | bq=>obtain⟨j,h2,rfl⟩:=map_somE h;have:=sub_lt h2;simp;omega
theorem lexD_small:∀(n:Nat) (m:Md) (d:Nat) (r:List UInt8) (l:List Pt) (r1:List UInt8),lexD n m d r=.ok (l,r1)→r.length≤16384→
 wtF l+2*r1.length≤2*r.length+m.slack∧WSm l
 | 0,m,d,r,l,r1,h,_=>by unfold lexD at h;cases h
 | n+1,.one q,d,[],l,r1,h,_=>by
  cases q<;>(unfold lexD at h;cases h;exact⟨by simp [wtF,Md.slack],WSm.nil⟩)
 | n+1,.one false,d,c::t,l,r1,h,hr=>by
  unfold lexD at h;simp only [List.length_cons] at hr ⊢;split at h
  ·split at h
   ·cases h
   ·next k hk=>
    cases h;have:=until_lt hk;refine⟨?_,WSm.quo _⟩;simp only [wtF,quoP,Pt.text,Md.slack,List.length_take,List.length_drop];omega
  ·split at h
   ·obtain⟨m,h2,rfl⟩:=ahead_ok2 h;obtain⟨h3,h4⟩:=lexD_small n .dq d t m r1 h2 (by omega);refine⟨?_,WSm.append (WSm.quo _) h4⟩;rw [wtF_append];simp only [wtF,quoP,Pt.text,Md.slack,List.length_nil] at h3 ⊢;omega
   ·split at h
    ·split at h
     ·cases h;exact⟨by simp [wtF,quoP,Pt.text,Md.slack],WSm.quo _⟩
     ·split at h
      ·cases h;exact⟨by simp [wtF,Md.slack];omega,WSm.nil⟩
      ·cases h;exact⟨by simp [wtF,quoP,Pt.text,Md.slack];omega,WSm.quo _⟩
    ·split at h
     ·cases h
     ·split at h
      ·obtain⟨h3,h4⟩:=lexD_small n (.dol false) d t l r1 h (by omega);refine⟨?_,h4⟩;simp only [Md.slack] at h3 ⊢;omega
      ·cases h;exact⟨by simp [wtF,txtP,Pt.text,Md.slack];omega,WSm.txt _⟩
 | n+1,.one true,d,c::t,l,r1,h,hr=>by
  unfold lexD at h;simp only [List.length_cons] at hr ⊢;have ht:t.tail.length≤t.length:=by rw [List.length_tail];omega
  split at h
  ·cases h
  ·split at h
   ·cases h;exact⟨by simp [wtF,Md.slack];omega,WSm.nil⟩
   ·split at h
    ·cases h;exact⟨by simp [wtF,quoP,Pt.text,Md.slack];omega,WSm.quo _⟩
    ·split at h
     ·obtain⟨h3,h4⟩:=lexD_small n (.dol true) d t l r1 h (by omega);refine⟨?_,h4⟩;simp only [Md.slack] at h3 ⊢;omega
     ·cases h;exact⟨by simp [wtF,quoP,Pt.text,Md.slack];omega,WSm.quo _⟩
 | n+1,.dq,d,r,l,r1,h,hr=>by
  unfold lexD at h;cases r with
  | nil=>cases h
  | cons c t=>
   dsimp only at h;split at h
   ·cases h;exact⟨by simp [wtF,Md.slack];omega,WSm.nil⟩
   ·split at h
    ·cases h
    ·next l1 r2 h1=>
     obtain⟨m,h2,rfl⟩:=ahead_ok2 h;obtain⟨h3,h4⟩:=lexD_small n (.one true) d (c::t) l1 r2 h1 hr;simp only [Md.slack] at h3;obtain⟨h5,h6⟩:=lexD_small n .dq d r2 m r1 h2 (by omega);refine⟨?_,h4.append h6⟩;rw [wtF_append];simp only [Md.slack] at h5 ⊢;omega
 | n+1,.br q,d,r,l,r1,h,hr=>by
  unfold lexD at h;cases r with
  | nil=>cases h
  | cons c t=>
   dsimp only at h;split at h
   ·cases h;exact⟨by simp [wtF,Md.slack];omega,WSm.nil⟩
   ·split at h
    ·cases h
    ·next l1 r2 h1=>
     obtain⟨m,h2,rfl⟩:=ahead_ok2 h;obtain⟨h3,h4⟩:=lexD_small n (.one q) d (c::t) l1 r2 h1 hr;simp only [Md.slack] at h3;obtain⟨h5,h6⟩:=lexD_small n (.br q) d r2 m r1 h2 (by omega);refine⟨?_,h4.append h6⟩;rw [wtF_append];simp only [Md.slack] at h5 ⊢;omega
 | n+1,.dol q,d,r,l,r1,h,hr=>by
  unfold lexD at h;have ht:r.tail.length≤r.length:=by rw [List.length_tail];omega
  split at h
  ·obtain⟨h3,h4⟩:=lexD_small n (.brace q) d r.tail l r1 h (by omega);refine⟨?_,h4⟩;simp only [Md.slack] at h3 ⊢;omega
  ·split at h
   ·split at h
    ·cases h
    ·next k hk=>
     cases h;have:=calc_lt hk;refine⟨?_,WSm.leaf _ _ _ _ _⟩;simp only [wtF,Pt.text,Md.slack,List.length_take,List.length_drop] at this ⊢;omega
   ·split at h
    ·split at h
     ·cases h
     ·next k hk=>
      cases h;have:=sub_lt hk;refine⟨?_,WSm.leaf _ _ _ _ _⟩;simp only [wtF,Pt.text,Md.slack,List.length_take,List.length_drop] at this ⊢;omega
    ·split at h
     ·cases h;cases q
      ·exact⟨by simp [wtF,txtP,Pt.text,Md.slack];omega,WSm.txt _⟩
      ·exact⟨by simp [wtF,quoP,Pt.text,Md.slack];omega,WSm.quo _⟩
     ·cases h;refine⟨?_,WSm.leaf _ _ _ _ _⟩;simp only [wtF,Pt.text,Md.slack,List.length_drop,List.length_nil];omega
 | n+1,.brace q,d,r,l,r1,h,hr=>by
  unfold lexD at h;dsimp only at h;have ht:r.tail.length≤r.length:=by rw [List.length_tail];omega
  have hx:(if longB r then r.tail else r).length≤r.length:=by split<;>omega
  generalize (if longB r then r.tail else r)=x at h hx;split at h
  ·cases h
  ·next hk0=>
   have hd:(x.drop (nameF true x)).length≤x.length - nameF true x:=by rw [List.length_drop];exact Nat.le_refl _
   generalize x.drop (nameF true x)=y at h hd;have hy:y.tail.length≤y.length:=by rw [List.length_tail];omega
   split at h
   ·next hh=>
    cases h;have h1:1≤y.length:=by
     cases y with
     | nil=>cases hh
     | cons a b=>simp
    refine⟨?_,WSm.leaf _ _ _ _ _⟩;simp only [wtF,Pt.text,Md.slack,List.length_nil,List.length_tail];omega
   ·split at h
    ·cases h
    ·next hop=>
     split at h
     ·cases h
     ·split at h
      ·cases h
      ·next l2 r3 h2=>
       have hop2:1≤(opF y).length:=by
        rcases Nat.eq_zero_or_pos (opF y).length with h0 | h0
        ·rw [List.eq_nil_of_length_eq_zero h0] at hop;exact absurd rfl hop
        ·exact h0
       have hlen:(y.drop (opF y).length).length≤y.length - 1:=by rw [List.length_drop];omega
       obtain⟨h3,h4⟩:=lexD_small n (.br q) (d+1) _ l2 r3 h2 (by omega);cases h;simp only [Md.slack] at h3;refine⟨?_,fun p hp=>?_⟩
       ·simp only [wtF,Pt.text,Md.slack,List.length_nil];have:1≤y.length∨y.length=0:=by omega
        rcases this with h9 | h9
        ·omega
        ·have:(opF y).length≤y.length:=by
          obtain rfl:=List.eq_nil_of_length_eq_zero h9;decide
         omega
       ·rw [List.mem_singleton.1 hp];exact⟨tidy_small h4 (by omega),fun h=>by have h9:(3:Nat)=1:=h;cases h9⟩
theorem wordD_small (wh:Bool):∀(n:Nat) (r:List UInt8) (l:List Pt) (r1:List UInt8),wordD wh n r=.ok (l,r1)→r.length≤16384→wtF l+2*r1.length≤2*r.length∧WSm l
 | 0,r,l,r1,h,_=>by cases h
 | n+1,[],l,r1,h,_=>by cases h;exact⟨by simp [wtF],WSm.nil⟩
 | n+1,c::t,l,r1,h,hr=>by
  rw [wordD_succ] at h;dsimp only at h;split at h
  ·cases h;exact⟨by simp [wtF],WSm.nil⟩
  ·split at h
   ·cases h
   ·next l1 r2 h1=>
    obtain⟨m,h2,rfl⟩:=ahead_ok2 h;obtain⟨h3,h4⟩:=lexD_small _ _ _ _ _ _ h1 hr;simp only [Md.slack] at h3;obtain⟨h5,h6⟩:=wordD_small wh n r2 m r1 h2 (by omega);exact⟨by rw [wtF_append];omega,h4.append h6⟩
theorem oper_short (r:List UInt8):(operF r).length≤3:=by
 unfold operF findF;cases hf:operL.find? (fun o=>startsF o r) with
 | none=>decide
 | some p=>
  have hp:p∈operL:=List.mem_of_find?_eq_some hf;have h:∀q∈operL,q.length≤3:=by decide
  exact h p hp
theorem tokOne_small {r:List UInt8} {x:Tk} {r1:List UInt8} (h:tokOne r=.ok (x,r1)) (hr:r.length≤16384):x.text.length≤40000∧Sm x.word:=by
 unfold tokOne at h;split at h
 ·split at h
  ·cases h
  ·split at h
   ·cases h
   ·next l r2 h2=>
    obtain⟨h3,h4⟩:=wordD_small _ _ _ _ _ h2 hr;cases h;exact⟨Nat.zero_le _,tidy_small h4 (by omega)⟩
 ·cases h;exact⟨by have:=oper_short r;show (operF r).length≤_;omega,Sm.nil⟩
theorem tokD_small:∀(n:Nat) (r:List UInt8) (T:List Tk),tokD n r=.ok T→r.length≤16384→T.length≤r.length∧∀t∈T,t.text.length≤40000∧Sm t.word
 | 0,r,T,h,_=>by cases h
 | n+1,r,T,h,hr=>by
  rw [tokD_succ] at h;have hs:=skip_len false r;cases hsk:skipF false r with
  | nil=>
   rw [hsk] at h;cases h;exact⟨Nat.zero_le _,fun t ht=>by cases ht⟩
  | cons c t=>
   rw [hsk] at h;dsimp only at h;rw [hsk] at hs;cases hto:tokOne (c::t) with
   | error e=>rw [hto] at h;cases h
   | ok xr=>
    obtain⟨x,r1⟩:=xr;rw [hto] at h;dsimp only at h;have h1:=tokOne_small hto (by omega);have h2:=tokOne_len (skip_head hsk) hto;rw [List.length_cons] at hs;cases htd:tokD n r1 with
    | error e=>rw [htd] at h;cases h
    | ok T'=>
     rw [htd] at h;obtain⟨h3,h4⟩:=tokD_small n r1 T' htd (by omega);cases h;refine⟨by rw [List.length_cons];omega,fun y hy=>?_⟩;rcases List.mem_cons.1 hy with rfl | hy
     ·exact h1
     ·exact h4 y hy
theorem toks_small {s:List UInt8} {T:List Tk} (h:tokensF s=.ok T):SmT T:=by
 unfold tokensF at h;split at h
 ·next hm=>
  have hl:s.length≤16384:=by
   unfold mayF at hm;split at hm
   ·cases hm
   ·omega
  obtain⟨h1,h2⟩:=tokD_small _ _ _ h hl;exact⟨by omega,h2⟩
 ·cases h
structure Ev (w:World) (B:Nat):Prop where
 tab : Lib.TabIs Tryz.prog w "strings.asciiSpace" .u8 Lib.asciiSpaceTab
 big:∃m:Int,w.cell? ⟨0,0,none⟩=some (.int .i64 m)
 low:3<B∧0<B∧B≤w.heap.size
theorem Ev.keep {w w':World} {B:Nat} {S:Nat→Prop} (h:Ev w B) (hk:Keeps S w w') (hS:∀b,b<B→¬S b):Ev w' B:=by
 obtain⟨h1,⟨m,h2⟩,h3,h4,h5⟩:=h;refine⟨?_,⟨m,?_⟩,h3,h4,Nat.le_trans h5 hk.size⟩
 ·unfold Lib.TabIs World.var? at *;have hg : Tryz.prog.globalNamed "strings.asciiSpace" = some 3 := by kernel_rfl
  simp only [hg,Option.bind_some] at h1 ⊢;rw [hk.block _ (by omega) (hS _ h3)];exact h1
 ·have hb:=hk.block 0 (by omega) (hS _ h4);rw [World.cell?_of_block hb];exact h2
theorem Ev.mono {w:World} {B B':Nat} (h:Ev w B) (hB:B≤B') (hw:B'≤w.heap.size):Ev w B':=⟨h.tab,h.big,by have:=h.low;omega⟩
structure RS (w:World) (B cs:Nat) (tv:Value) (n:Nat) (T:List Tk) (i d:Nat):Prop where
 rd:RecAt w cs [tv,.int .i64 (i:Nat),.int .i64 (d:Nat)]
 ev:Ev w B
 toks:TksAt w (fun b=>b<B) n T tv
 cs:B≤cs
 i:i≤T.length
 sm:SmT T
 d:d≤40
theorem RS.lt {w:World} {B cs:Nat} {tv:Value} {n:Nat} {T:List Tk} {i d:Nat} (h:RS w B cs tv n T i d):cs<w.heap.size:=h.rd.lt
theorem RS.keep {w w':World} {B cs:Nat} {tv:Value} {n:Nat} {T:List Tk} {i d:Nat} {S:Nat→Prop} (h:RS w B cs tv n T i d) (hk:Keeps S w w') (hS:∀b,b<B→¬S b) (hc:¬S cs):RS w' B cs tv n T i d:=
 ⟨h.rd.keep hk hc,h.ev.keep hk hS,h.toks.keep hk (fun b _ hb=>hS b hb),h.cs,h.i,h.sm,h.d⟩
theorem RS.keep0 {w w':World} {B cs:Nat} {tv:Value} {n:Nat} {T:List Tk} {i d:Nat} (h:RS w B cs tv n T i d) (hk:Keeps (fun _=>False) w w'):RS w' B cs tv n T i d:=h.keep hk (fun _ _ x=>x) (fun x=>x)
theorem RS.shape {w:World} {B cs:Nat} {tv:Value} {n:Nat} {T:List Tk} {i d:Nat} (h:RS w B cs tv n T i d):∃a c,tv=.slice a T.length c∧T.length≤c∧c≤maxLen:=h.toks.shape
theorem RS.cells {w:World} {B cs:Nat} {tv:Value} {n:Nat} {T:List Tk} {i d:Nat} (h:RS w B cs tv n T i d) :
 w.cell? ⟨cs,0,none⟩=some tv∧w.cell? ⟨cs,1,none⟩=some (.int .i64 (i:Nat))∧w.cell? ⟨cs,2,none⟩=some (.int .i64 (d:Nat))∧
 w.frozen? ⟨cs,1,none⟩=false∧w.frozen? ⟨cs,2,none⟩=false:=by
 obtain⟨⟨c0,c1,c2⟩,f0,f1,f2⟩:=h.rd.three;exact⟨c0,c1,c2,f1,f2⟩
theorem RS.set1 {w:World} {B cs:Nat} {tv:Value} {n:Nat} {T:List Tk} {i d:Nat} (h:RS w B cs tv n T i d) {j:Nat} (hj:j≤T.length):RS (w.setCell ⟨cs,1,none⟩ (.int .i64 (j:Nat))) B cs tv n T j d∧Keeps (fun b=>b=cs) w (w.setCell ⟨cs,1,none⟩ (.int .i64 (j:Nat))):=by
 have hk:Keeps (fun b=>b=cs) w (w.setCell ⟨cs,1,none⟩ (.int .i64 (j:Nat))):=(Keeps.refl _ _).setCell _ _ fun _=>rfl;have hB:=h.cs;exact⟨⟨h.rd.set 1 _,h.ev.keep hk (fun b hb e=>by omega),h.toks.keep hk (fun b _ hb e=>by omega),h.cs,hj,h.sm,h.d⟩,hk⟩
theorem RS.set2 {w:World} {B cs:Nat} {tv:Value} {n:Nat} {T:List Tk} {i d:Nat} (h:RS w B cs tv n T i d) {j:Nat} (hj:j≤40):RS (w.setCell ⟨cs,2,none⟩ (.int .i64 (j:Nat))) B cs tv n T i j∧Keeps (fun b=>b=cs) w (w.setCell ⟨cs,2,none⟩ (.int .i64 (j:Nat))):=by
 have hk:Keeps (fun b=>b=cs) w (w.setCell ⟨cs,2,none⟩ (.int .i64 (j:Nat))):=(Keeps.refl _ _).setCell _ _ fun _=>rfl;have hB:=h.cs;exact⟨⟨h.rd.set 2 _,h.ev.keep hk (fun b hb e=>by omega),h.toks.keep hk (fun b _ hb e=>by omega),h.cs,h.i,h.sm,hj⟩,hk⟩
theorem atF_in {T:List Tk} {i:Nat} (h:i<T.length):atF (T.drop i)=T[i]:=by
 rw [List.drop_eq_getElem_cons h];rfl
theorem atF_end {T:List Tk} {i:Nat} (h:T.length≤i):atF (T.drop i)=⟨0,[],[]⟩:=by
 rw [List.drop_eq_nil_of_le h];rfl
theorem Keeps.fresh {S Q:Nat→Prop} {w w1 w2:World} (h:Keeps S w w1) (k:Keeps Q w1 w2) (hQ:∀b,Q b→w.heap.size≤b):Keeps S w w2:=h.trans k fun x hx e=>by have:=hQ x e;omega
def goF (q:Bool) (ts:List Tk):List Tk:=match q with | true=>ts.tail | false=>ts
theorem drop_tail {α} (l:List α) (i:Nat):(l.drop i).tail=l.drop (i+1):=by
 rw [List.tail_drop]
theorem toks_pos {T:List Tk} {i:Nat} (h:1≤(T.drop i).length):i+1≤T.length:=by
 rw [List.length_drop] at h;omega
theorem RS.next {w:World} {B cs:Nat} {tv:Value} {n:Nat} {T:List Tk} {i d:Nat} (h:RS w B cs tv n T i d) (hj:1≤(T.drop i).length) :
 RS (w.setCell ⟨cs,1,none⟩ (.int .i64 ((i:Int)+1))) B cs tv n T (i+1) d∧Keeps (fun b=>b=cs) w (w.setCell ⟨cs,1,none⟩ (.int .i64 ((i:Int)+1))):=by
 have:=h.set1 (toks_pos hj);simpa using this
theorem cellsL_set4:∀{l:List Pt} {vs:List Value} {k:Nat} (hl:vs.length=l.length) (hk:k<l.length) (u:Value),(cellsL l vs).set (k*6+4) u=cellsL l (vs.set k u)
 | p::l,v::vs,0,hl,hk,u=>by
  simp [cellsL,cellsP]
 | p::l,v::vs,k+1,hl,hk,u=>by
  have h:=cellsL_set4 (l:=l) (vs:=vs) (k:=k) (by simpa using hl) (by simpa using hk) u;rw [List.set_cons_succ];simp only [cellsL];rw [List.set_append_right _ _ (by rw [cellsP_len];omega),cellsP_len,show (k+1)*6+4 - 6=k*6+4 by omega,h]
theorem cells_one {l:List Pt} {vs:List Value} (hl:vs.length=l.length) (hs:∀i (h:i<l.length) (h':i<vs.length),∃a n c,vs[i]=.slice a n c):∀u∈cellsL l vs,u.oneCell'=true:=by
 intro u hu;obtain⟨j,hj⟩:=List.mem_iff_getElem?.1 hu;obtain⟨i,r,hi,rfl,hu⟩:=cellsL_inv hl hj;obtain⟨a2,n2,c2,e2⟩:=hs i hi (by omega);have hm:=List.mem_of_getElem? hu;rw [e2] at hm;simp only [cellsP,strV,List.mem_cons,List.not_mem_nil,or_false] at hm;rcases hm with rfl | rfl | rfl | rfl | rfl | rfl<;>rfl
structure CloneAt (w wr:World) (D:Nat→Prop) (n:Nat) (l:List Pt) (g cap k m:Nat) (us:List Value):Prop where
 len:us.length=l.length
 own:wr.ownsRow w.heap.size 67 6 (.slice (some ⟨g,0,none⟩) l.length cap) l.length (cellsL l us)
 done:∀j (h:j<l.length) (h':j<us.length),j<k→PtsAt wr (fun b=>w.heap.size≤b∧b≠g) m l[j].word us[j]
 todo:∀j (h:j<l.length) (h':j<us.length),k≤j→PtsAt w D n l[j].word us[j]
 kp:Keeps (fun _=>False) w wr
 low:w.heap.size≤g
theorem CloneAt.alloc {w wr:World} {D:Nat→Prop} {n:Nat} {l:List Pt} {g cap k m:Nat} {us:List Value} (h:CloneAt w wr D n l g cap k m us) (o:Obj):CloneAt w (wr.alloc o) D n l g cap k m us:=
 ⟨h.len,h.own.alloc o,fun j hj hj' hk=>(h.done j hj hj' hk).keep ((Keeps.refl (fun _=>False) wr).alloc o) (fun _ _ _ h=>h),h.todo,h.kp.alloc o,h.low⟩
theorem CloneAt.next {w w1 w2:World} {D:Nat→Prop} {n:Nat} {l:List Pt} {g cap k m m2:Nat} {us:List Value} {u:Value} (h:CloneAt w w1 D n l g cap k m us) (hk:k<l.length) (h2:Keeps (fun _=>False) w1 w2)
 (hu:PtsAt w2 (fun b=>w1.heap.size≤b) m2 l[k].word u):CloneAt w (w2.setCell ⟨g,k*6+4,none⟩ u) D n l g cap (k+1) (max m m2) (us.set k u):=by
 have hlt:=(h.own.lt g rfl).2;have hown2:w2.ownsRow w.heap.size 67 6 (.slice (some ⟨g,0,none⟩) l.length cap) l.length (cellsL l us):=by
  obtain⟨h1,h3⟩:=h.own;refine⟨h1,?_⟩;rcases h3 with ⟨e,h0⟩ | ⟨g',cap',cur,e,hb,hg,rest⟩
  ·exact .inl ⟨e,h0⟩
  ·exact .inr ⟨g',cap',cur,e,hb,(h2.block g' (Array.getElem?_eq_some_iff.1 hg).1 (fun h=>h)).trans hg,rest⟩
 have hk2:Keeps (fun b=>b=g) w2 (w2.setCell ⟨g,k*6+4,none⟩ u):=(Keeps.refl _ _).setCell _ _ fun _=>rfl;refine⟨by rw [List.length_set];exact h.len,?_,fun j hj hj' hjk=>?_,fun j hj hj' hjk=>?_,(h.kp.trans h2 (fun _ _ h=>h)).fresh hk2 (fun b e=>by have:=h.low;omega),h.low⟩
 ·rw [←cellsL_set4 h.len hk];exact (hown2.stored _ _).1
 ·by_cases e:j=k
  ·subst e;rw [List.getElem_set_self];refine (PtsAt.le ((hu.mono (D':=fun b=>w.heap.size≤b∧b≠g) fun b _ hb=>⟨by have:=h.kp.size;omega,by omega⟩).keep hk2 (fun b _ hb e=>hb.2 e)) (by omega))
  ·rw [List.getElem_set_ne (by omega)];exact (((h.done j hj (by rw [List.length_set] at hj';exact hj') (by omega)).keep h2 (fun _ _ _ h=>h)).keep hk2 (fun b _ hb e=>hb.2 e)).le (by omega)
 ·rw [List.getElem_set_ne (by omega)];exact h.todo j hj (by rw [List.length_set] at hj';exact hj') (by omega)
theorem CloneAt.cells {w wr:World} {D:Nat→Prop} {n:Nat} {l:List Pt} {g cap k m:Nat} {us:List Value} (h:CloneAt w wr D n l g cap k m us) (hk:k<l.length) :
 ∃(xa:Option Addr) (xl xc:Nat),Six wr g (0+k*6) l[k] (.slice xa xl xc)∧PtsAt w D n l[k].word (.slice xa xl xc)∧g<wr.heap.size∧wr.frozen? ⟨g,k*6+4,none⟩=false:=by
 have hk':k<us.length:=by rw [h.len];exact hk
 have hp:=h.todo k hk hk' (Nat.le_refl _);obtain⟨xa,xc,e,_,_⟩:=hp.shape;rw [e] at hp;refine⟨xa,_,xc,six_of fun j u hu=>?_,hp,(h.own.lt g rfl).2,h.own.frozenAt _⟩;have hj:j<6:=(List.getElem?_eq_some_iff.1 hu).1;rw [h.own.cellAt _ (by omega),Nat.zero_add];exact cellsL_at h.len hk j u (by rw [e];exact hu)
end Go.Proofs.YtiihpbccabeoeaaGreatDoor
