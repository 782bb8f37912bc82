/- The walk: a part. -/
import Derived.Test.YtiihpbccabeoeaaGreatDoorVM
import Derived.Test.YtiihpbccabeoeaaGreatDoorVPkA
import Derived.Test.YtiihpbccabeoeaaGreatDoorVPkC
import Derived.Test.YtiihpbccabeoeaaGreatDoorVPkD
import Derived.Lib.LaidTab
import Derived.StillTailTactics
import Derived.Lib.Fields
import Derived.Lib.SlicesS
namespace Go.Proofs.YtiihpbccabeoeaaGreatDoor
open Go.RowKit
set_option linter.unusedVariables false
set_option maxRecDepth 100000
set_option maxHeartbeats 16000000
abbrev Bs:=List UInt8
inductive Dt where
 | int (n:Int)
 | bool (b:Bool)
 | str (l:List UInt8)
 | sl (k:Nat) (cs:List Dt)
/-! Words as trees. -/
mutual
def wP:Pt→List Dt
 | .mk k t n o w q=>[.int (k:Nat),.str t,.str n,.str o,.sl 6 (cg w),.bool q]
def cg:List Pt→List Dt
 | []=>[]
 | p::l=>wP p++cg l
end
def aB (w:List Pt):Dt:=.sl 6 (cg w)
theorem pG (p:Pt):(wP p).length=6:=by cases p;simp [wP]
theorem rX (p:Pt):wP p=[.int (p.kind:Nat),.str p.text,.str p.name,.str p.op,aB p.word,.bool p.quoted]:=by cases p;simp [wP,aB,Pt.kind,Pt.text,Pt.name,Pt.op,Pt.word,Pt.quoted]
theorem gp:cg []=[]:=by simp [cg]
theorem iA (p:Pt) (l:List Pt):cg (p::l)=wP p++cg l:=by simp [cg]
theorem li:∀l:List Pt,(cg l).length=l.length*6
 | []=>by simp [gp]
 | p::l=>by rw [iA,lA,pG,li l,lC];omega
theorem zh:∀{l:List Pt} {i:Nat} (hi:i<l.length) {j:Nat} (hj:j<6),(cg l)[i*6+j]? = (wP l[i])[j]?
 | p::l,0,hi,j,hj=>by
  rw [iA,Nat.zero_mul,Nat.zero_add,List.getElem?_append_left (by rw [pG];exact hj)];rfl
 | p::l,i+1,hi,j,hj=>by
  rw [iA,List.getElem?_append_right (by rw [pG];omega),pG,show (i+1)*6+j - 6=i*6+j by omega];exact zh (l:=l) (by simpa using hi) hj
def cE (kind:Nat) (not:Bool) (name:List UInt8) (Yp NR T4 ab1 aaM:List Dt):List Dt:=
 [.int (kind:Nat),.bool not,.str name,.sl 1 Yp,.sl 2 NR,.sl 2 T4,.sl 8 ab1,.sl 2 aaM]
abbrev PR (α:Type):=Except Nat (α×List Tk)
def ch (ts:List Tk):Tk:=ts.headD ⟨0,[],[]⟩
def aj (s:Bs) (ts:List Tk):Bool:=(ch ts).kind==2 && (ch ts).text==s
def aJ (t:Tk):Bs:=if t.kind==1 then (match t.word with
 | [p]=>if p.kind==1 then p.text else []
 | _=>[]) else []
def aF (s:Bs) (ts:List Tk):Bool:=aJ (ch ts)==s
def bJ:List Bs:=[[105,102],[116,104,101,110],[101,108,105,102],[101,108,115,101],[102,105],[119,104,105,108,101],[117,110,116,105,108],[100,111],[100,111,110,101],[102,111,114],[105,110],[99,97,115,101],[101,115,97,99],[123],[125],[33]]
def fe:List Bs:=[[105,102],[119,104,105,108,101],[117,110,116,105,108],[102,111,114],[99,97,115,101],[123]]
def wZ:List Bs:=[[60],[62],[62,62],[50,62],[50,62,62]]
def bP (ts:List Tk):Bool:=(ch ts).kind==2 && wZ.contains (ch ts).text
def bB (ts:List Tk):Bool:=
 if (ch ts).kind==1 then (if bJ.contains (aJ (ch ts)) then fe.contains (aJ (ch ts)) else true) else aj [40] ts || bP ts
def fj (ts:List Tk):Bool:=bB ts || aF [33] ts
def ai:List Tk→List Tk
 | []=>[]
 | t::r=>if t.kind==2 && t.text==[10] then ai r else t::r
def dm (ts:List Tk):Bool×List Tk:=if aj [59] ts || aj [10] ts then (true,ai ts.tail) else (false,ts)
def mi (l:List Dt):List Dt:=if l.length=8 then l else cE 5 false [] [] [] [] l []
def bK (s:Bs):Bool:=!s.isEmpty && decide (s.length≤60) && cU s==s.length
section
variable (cmd:List Tk→PR (List Dt)) (scr:Bs→Except Nat Unit)
def cr:Nat→List Dt→List Tk→PR (List Dt)
 | 0,_,_=>.error 0
 | n+1,acc,ts=>if aj [124] ts then (match cmd (ai ts.tail) with
  | .error e=>.error e
  | .ok (d,r)=>cr n (acc++d) r) else .ok (acc,ts)
def bh (ts:List Tk):PR (List Dt):=match cmd (if aF [33] ts then ts.tail else ts) with
 | .error e=>.error e
 | .ok (d,r)=>match cr cmd (r.length+1) d r with
  | .error e=>.error e
  | .ok (l,r2)=>if l.length=8∧aF [33] ts=false then .ok (l,r2) else .ok (cE 2 (aF [33] ts) [] [] [] [] l [],r2)
def ck:Nat→List Dt→List Tk→PR (List Dt)
 | 0,_,_=>.error 0
 | n+1,acc,ts=>if aj [38,38] ts then (match bh cmd (ai ts.tail) with
  | .error e=>.error e
  | .ok (d,r)=>ck n (cE 3 false [] [] [] [] (acc++d) []) r)
  else if aj [124,124] ts then (match bh cmd (ai ts.tail) with
   | .error e=>.error e
   | .ok (d,r)=>ck n (cE 4 false [] [] [] [] (acc++d) []) r)
  else .ok (acc,ts)
def da (ts:List Tk):PR (List Dt):=match bh cmd ts with
 | .error e=>.error e
 | .ok (d,r)=>ck cmd (r.length+1) d r
def cW:Nat→List Dt→List Tk→PR (List Dt)
 | 0,_,_=>.error 0
 | n+1,acc,ts=>if (dm ts).1 && fj (dm ts).2 then (match da cmd (dm ts).2 with
  | .error e=>.error e
  | .ok (d,r)=>cW n (acc++d) r) else .ok (acc,(dm ts).2)
def mM (ts:List Tk):PR (List Dt):=match da cmd ts with
 | .error e=>.error e
 | .ok (d,r)=>cW cmd (r.length+1) d r
def bz (ts:List Tk):PR (List Dt):=match mM cmd (ai ts) with
 | .error e=>.error e
 | .ok (l,r)=>.ok (mi l,r)
def cO (s:Bs) (ts:List Tk):PR Unit:=if aF s ts then .ok ((),ts.tail) else .error 2
def en (s:Bs) (ts:List Tk):PR Unit:=if aj s ts then .ok ((),ts.tail) else .error 2
mutual
def RO:Pt→Except Nat Unit
 | .mk k t _ _ w _=>match (if k==5 then scr t else .ok ()) with
  | .error e=>.error e
  | .ok _=>ec w
def ec:List Pt→Except Nat Unit
 | []=>.ok ()
 | p::l=>match RO p with
  | .error e=>.error e
  | .ok _=>ec l
end
def ca (ts:List Tk):PR (List Pt):=if (ch ts).kind==1 && !(ch ts).word.isEmpty then (match ec scr (ch ts).word with
 | .error e=>.error e
 | .ok _=>.ok ((ch ts).word,ts.tail)) else .error 2
def dN (ts:List Tk):PR (List Dt):=match ca scr ts.tail with
 | .error e=>.error e
 | .ok (w,r)=>.ok ([.str (ch ts).text,aB w],r)
def bm:Nat→List Dt→List Tk→PR (List Dt)
 | 0,_,_=>.error 0
 | n+1,acc,ts=>if bP ts then (match dN scr ts with
  | .error e=>.error e
  | .ok (d,r)=>bm n (acc++d) r) else .ok (acc,ts)
def iO:Bs→Option (Bs×Bs)
 | []=>none
 | c::t=>if c==61 then some ([],t) else (iO t).map λ p=>(c::p.1,p.2)
def dw (w:List Pt):Option (Bs×List Pt):=match w with
 | []=>none
 | p::t=>if p.kind==1 then (match iO p.text with
  | none=>none
  | some (nm,rest)=>if bK nm then some (nm,if rest.isEmpty then t else dD rest::t) else none) else none
def bj:Nat→List Dt→List Dt→List Dt→List Tk→PR (List Dt)
 | 0,_,_,_,_=>.error 0
 | n+1,ws,gz,rs,ts=>if bP ts then (match dN scr ts with
  | .error e=>.error e
  | .ok (d,r)=>bj n ws gz (rs++d) r)
  else if (ch ts).kind==1 then (match ca scr ts with
   | .error e=>.error e
   | .ok (w,r)=>match (if ws.isEmpty then dw w else none) with
    | some (nm,v)=>bj n ws (gz++[.str nm,aB v]) rs r
    | none=>bj n (ws++[aB w]) gz rs r)
  else .ok (cE 1 false [] ws gz rs [] [],ts)
def cL (ts:List Tk):PR (List Dt):=match cO [100,111] ts with
 | .error e=>.error e
 | .ok (_,r)=>match bz cmd r with
  | .error e=>.error e
  | .ok (d,r2)=>match cO [100,111,110,101] r2 with
   | .error e=>.error e
   | .ok (_,r3)=>.ok (d,r3)
def dE (kind:Nat) (ts:List Tk):PR (List Dt):=match bz cmd ts with
 | .error e=>.error e
 | .ok (d,r)=>match cL cmd r with
  | .error e=>.error e
  | .ok (b,r2)=>.ok (cE kind false [] [] [] [] (d++b) [],r2)
def bD:Nat→List Dt→List Tk→PR (List Dt)
 | 0,_,_=>.error 0
 | n+1,acc,ts=>match bz cmd ts with
  | .error e=>.error e
  | .ok (c,r)=>match cO [116,104,101,110] r with
   | .error e=>.error e
   | .ok (_,r1)=>match bz cmd r1 with
    | .error e=>.error e
    | .ok (b,r2)=>
     if aF [101,108,105,102] r2 then bD n (acc++c++b) r2.tail
     else if aF [101,108,115,101] r2 then (match bz cmd r2.tail with
      | .error e=>.error e
      | .ok (x,r3)=>.ok (acc++c++b++x,r3))
     else .ok (acc++c++b,r2)
def dx (ts:List Tk):PR (List Dt):=match bD cmd (ts.length+1) [] ts with
 | .error e=>.error e
 | .ok (l,r)=>match cO [102,105] r with
  | .error e=>.error e
  | .ok (_,r2)=>.ok (cE 6 false [] [] [] [] l [],r2)
def bC:Nat→List Dt→List Tk→PR (List Dt)
 | 0,_,_=>.error 0
 | n+1,acc,ts=>if (ch ts).kind==1 then (match ca scr ts with
  | .error e=>.error e
  | .ok (w,r)=>bC n (acc++[aB w]) r) else .ok (acc,ts)
def fh (ts:List Tk):PR (List Dt):=
 if bK (aJ (ch ts)) then
  (if aF [105,110] (ai ts.tail) then (match bC scr ((ai ts.tail).tail.length+1) [] (ai ts.tail).tail with
   | .error e=>.error e
   | .ok (ws,r)=>if aj [59] r || aj [10] r then (match cL cmd (ai r.tail) with
    | .error e=>.error e
    | .ok (b,r2)=>.ok (cE 9 false (aJ (ch ts)) ws [] [] b [],r2)) else .error 2)
   else match cL cmd (ai (if aj [59] (ai ts.tail) then (ai ts.tail).tail else ai ts.tail)) with
    | .error e=>.error e
    | .ok (b,r2)=>.ok (cE 9 false (aJ (ch ts)) [aB [.mk 3 [] [64] [] [] true]] [] [] b [],r2))
 else .error 2
def bT:Nat→List Dt→List Tk→PR (List Dt)
 | 0,_,_=>.error 0
 | n+1,acc,ts=>if aj [124] ts then (match ca scr ts.tail with
  | .error e=>.error e
  | .ok (w,r)=>bT n (acc++[aB w]) r) else .ok (acc,ts)
def lu (ts:List Tk):PR (List Dt):=match ca scr (if aj [40] ts then ts.tail else ts) with
 | .error e=>.error e
 | .ok (w,r)=>match bT scr (r.length+1) [aB w] r with
  | .error e=>.error e
  | .ok (ps,r1)=>match en [41] r1 with
   | .error e=>.error e
   | .ok (_,r2)=>if fj (ai r2) then (match bz cmd (ai r2) with
    | .error e=>.error e
    | .ok (b,r3)=>.ok ([.sl 1 ps,.sl 8 b],r3))
    else .ok ([.sl 1 ps,.sl 8 []],ai r2)
def bF:Nat→List Dt→List Tk→PR (List Dt)
 | 0,_,_=>.error 0
 | n+1,acc,ts=>if aF [101,115,97,99] ts then .ok (acc,ts.tail) else match lu cmd scr ts with
  | .error e=>.error e
  | .ok (a,r)=>if aj [59,59] r then bF n (acc++a) (ai r.tail) else match cO [101,115,97,99] r with
   | .error e=>.error e
   | .ok (_,r2)=>.ok (acc++a,r2)
def eA (ts:List Tk):PR (List Dt):=match ca scr ts with
 | .error e=>.error e
 | .ok (w,r)=>match cO [105,110] (ai r) with
  | .error e=>.error e
  | .ok (_,r1)=>match bF cmd scr ((ai r1).length+1) [] (ai r1) with
   | .error e=>.error e
   | .ok (l,r2)=>.ok (cE 10 false [] [aB w] [] [] [] l,r2)
def fF (ts:List Tk):Bool:=aj [40] ts.tail
def cy (name:Bs) (ts:List Tk):PR (List Dt):=match en [41] ts.tail.tail with
 | .error e=>.error e
 | .ok (_,r)=>if bB (ai r) && (aj [40] (ai r) || bJ.contains (aJ (ch (ai r)))) then (match cmd (ai r) with
  | .error e=>.error e
  | .ok (d,r2)=>.ok (cE 11 false name [] [] [] d [],r2))
  else .error 2
def fu (kind:Nat) (gZ:List Tk→PR Unit) (ts:List Tk):PR (List Dt):=match bz cmd ts with
 | .error e=>.error e
 | .ok (d,r)=>match gZ r with
  | .error e=>.error e
  | .ok (_,r2)=>.ok (cE kind false [] [] [] [] d [],r2)
def aM (q:PR (List Dt)):PR (List Dt):=match q with
 | .error e=>.error e
 | .ok (d,r)=>match bm scr (r.length+1) [] r with
  | .error e=>.error e
  | .ok (rs,r2)=>.ok (d.set 5 (.sl 2 rs),r2)
def cw (ts:List Tk):Option (PR (List Dt)):=
 if aj [40] ts then some (aM scr (fu cmd 13 (en [41]) ts.tail))
 else if aF [123] ts then some (aM scr (fu cmd 12 (cO [125]) ts.tail))
 else if aF [105,102] ts then some (aM scr (dx cmd ts.tail))
 else if aF [119,104,105,108,101] ts then some (aM scr (dE cmd 7 ts.tail))
 else if aF [117,110,116,105,108] ts then some (aM scr (dE cmd 8 ts.tail))
 else if aF [102,111,114] ts then some (aM scr (fh cmd scr ts.tail))
 else if aF [99,97,115,101] ts then some (aM scr (eA cmd scr ts.tail))
 else if bK (aJ (ch ts)) && fF ts then some (cy cmd (aJ (ch ts)) ts)
 else none
def gV (ts:List Tk):PR (List Dt):=match cw cmd scr ts with
 | some q=>q
 | none=>bj scr (ts.length+1) [] [] [] ts
def og (ts:List Tk):Except Nat (List Dt):=if (ai ts).isEmpty then .ok [] else match mM cmd (ai ts) with
 | .error e=>.error e
 | .ok (l,r)=>if r.isEmpty then .ok (mi l) else .error 2
def eQ (s:Bs):Except Nat (List Dt):=match ff s with
 | .error e=>.error e
 | .ok ts=>og cmd ts
end
def av (cmd:List Tk→PR (List Dt)) (s:Bs):Except Nat Unit:=match eQ cmd s with
 | .error 0=>.ok ()
 | .error (e+1)=>.error (e+1)
 | .ok _=>.ok ()
def ab:Nat→List Tk→PR (List Dt)
 | 0,ts=>if bB ts then .error 3 else .error 2
 | k+1,ts=>if bB ts then gV (ab k) (av (ab k)) ts else .error 2
def o6 (s:Bs):Except Nat (List Dt):=eQ (ab 40) s
inductive Rd (w:World) (D:Nat→Prop):Dt→Value→Prop
 | int (n:Int):Rd w D (.int n) (.int .i64 n)
 | bool (b:Bool):Rd w D (.bool b) (.bool b)
 | str (l:List UInt8):Rd w D (.str l) (dj l)
 | nil (k c:Nat) (a:OA) (hc:c≤maxLen):Rd w D (.sl k []) (.slice a 0 c)
 | sl (k:Nat) (cs:List Dt) (b gQ m c:Nat) (vs:Nat→Value) (hm:cs.length=m*k) (Ot:m≤c) (hc:c≤maxLen) (hb:b<w.heap.size) (hD:D b)
  (hv:∀j,j<cs.length→w.cell? ⟨b,gQ+j,none⟩=some (vs j)) (h:∀j (h:j<cs.length),Rd w D cs[j] (vs j)):Rd w D (.sl k cs) (.slice (some ⟨b,gQ,none⟩) m c)
def bV (w:World) (D:Nat→Prop):List Dt→List Value→Prop
 | [],[]=>True
 | d::ds,v::vs=>Rd w D d v∧bV w D ds vs
 | _,_=>False
section
variable {w w':World} {D D' S:Nat→Prop} {d:Dt} {v:Value} {ds es:List Dt} {vs us:List Value}
theorem Rd.keep (hk:ae S w w') (hD:∀b,b<w.heap.size→D b→¬S b) (h:Rd w D d v):Rd w' D d v:=by
 induction h with
 | int n=>exact .int n
 | bool b=>exact .bool b
 | str l=>exact .str l
 | nil k c a hc=>exact .nil k c a hc
 | sl k cs b gQ m c vs hm Ot hc hb hd hv h ih=>
  refine .sl k cs b gQ m c vs hm Ot hc (uG hb hk.size) hd (λ j hj=>?_) ih;rw [uH (hk.block b hb (hD b hb hd))];exact hv j hj
theorem Rd.mono (hD:∀b,b<w.heap.size→D b→D' b) (h:Rd w D d v):Rd w D' d v:=by
 induction h with
 | int n=>exact .int n
 | bool b=>exact .bool b
 | str l=>exact .str l
 | nil k c a hc=>exact .nil k c a hc
 | sl k cs b gQ m c vs hm Ot hc hb hd hv h ih=>exact .sl k cs b gQ m c vs hm Ot hc hb (hD b hb hd) hv ih
theorem Rd.shape {k:Nat} {cs:List Dt} (hk:0<k) (h:Rd w D (.sl k cs) v):∃a m c,v=.slice a m c∧cs.length=m*k∧m≤c∧c≤maxLen:=by
 cases h with
 | nil _ c a hc=>exact⟨a,0,c,rfl,sI,nB _,hc⟩
 | sl _ _ b gQ m c vs hm Ot hc hb hD hv h=>exact⟨_,m,c,rfl,hm,Ot,hc⟩
theorem Rd.cell {k:Nat} {cs:List Dt} {a:OA} {m c:Nat} (h:Rd w D (.sl k cs) (.slice a m c)) {j:Nat} (hj:j<cs.length) :
 ∃b gQ u,a=some ⟨b,gQ,none⟩∧b<w.heap.size∧D b∧w.cell? ⟨b,gQ+j,none⟩=some u∧Rd w D cs[j] u:=by
 cases h with
 | nil _ c a hc=>exact nQ hj (uC _)
 | sl _ _ b gQ m c vs hm Ot hc hb hD hv h=>exact⟨b,gQ,vs j,rfl,hb,hD,hv j hj,h j hj⟩
theorem bV.len:∀{ds:List Dt} {vs:List Value},bV w D ds vs→vs.length=ds.length
 | [],[],_=>rfl
 | d::ds,v::vs,h=>by rw [lC,lC,bV.len h.2]
theorem bV.keep (hk:ae S w w') (hD:∀b,b<w.heap.size→D b→¬S b):∀{ds:List Dt} {vs:List Value},bV w D ds vs→bV w' D ds vs
 | [],[],_=>trivial
 | d::ds,v::vs,h=>⟨h.1.keep hk hD,bV.keep hk hD h.2⟩
theorem bV.mono (hD:∀b,b<w.heap.size→D b→D' b):∀{ds:List Dt} {vs:List Value},bV w D ds vs→bV w D' ds vs
 | [],[],_=>trivial
 | d::ds,v::vs,h=>⟨h.1.mono hD,bV.mono hD h.2⟩
theorem bV.lt {ds:List Dt} {vs:List Value} (h:bV w D ds vs):bV w (λ b=>D b∧b<w.heap.size) ds vs:=h.mono λ b hb hd=>⟨hd,hb⟩
theorem bV.app:∀{ds es:List Dt} {vs us:List Value},bV w D ds vs→bV w D es us→bV w D (ds++es) (vs++us)
 | [],es,[],us,_,h=>h
 | d::ds,es,v::vs,us,h,g=>⟨h.1,bV.app h.2 g⟩
theorem bV.at:∀{ds:List Dt} {vs:List Value} (h:bV w D ds vs) {j:Nat} (hj:j<ds.length) (sT:j<vs.length),Rd w D ds[j] vs[j]
 | d::ds,v::vs,h,0,hj,sT=>h.1
 | d::ds,v::vs,h,j+1,hj,sT=>bV.at h.2 (j:=j) (by simpa using hj) (by simpa using sT)
end
def eM (w:World) (D:Nat→Prop) (v:Value) (k:Nat) (T:TypeId) (n:Nat) (cs:List Dt):Prop:=
 ∃vs,bV w (λ b=>D b∧v.ownBlock≠some b) cs vs∧w.ownsRow 0 T k v n vs
section
variable {w w':World} {D S:Nat→Prop} {v:Value} {k n:Nat} {T:TypeId} {cs:List Dt}
theorem eM.nil (w:World) (D:Nat→Prop) (k:Nat) (T:TypeId):eM w D (.slice none 0 0) k T 0 []:=⟨[],trivial,World.ownsRow_nil _ _ _ _⟩
theorem eM.len (h:eM w D v k T n cs):cs.length=n*k:=by
 obtain⟨vs,hr,ho⟩:=h;rw [←hr.len];exact ho.1
theorem eM.shape (h:eM w D v k T n cs):∃a c,v=.slice a n c∧n≤c∧c≤maxLen:=by
 obtain⟨vs,hr,ho⟩:=h;exact S6
theorem eM.lt (h:eM w D v k T n cs) {g:Nat} (hg:v.ownBlock=some g):g<w.heap.size:=by
 obtain⟨vs,hr,ho⟩:=h;exact (ho.lt g hg).2
theorem eM.keep (h:eM w D v k T n cs) (hk:ae S w w') (hD:∀b,b<w.heap.size→D b→¬S b) (hv:∀g,v.ownBlock=some g→¬S g):eM w' D v k T n cs:=by
 obtain⟨vs,hr,ho⟩:=h;refine⟨vs,hr.keep hk (λ b hb hd=>hD b hb hd.1),⟨ho.1,?_⟩⟩;exact WB
theorem eM.reads (h:eM w D v k T n cs) (hD:∀g,v.ownBlock=some g→D g):Rd w D (.sl k cs) v:=by
 have hl:=h.len;obtain⟨vs,hr,ho⟩:=h;rcases ho.2 with ⟨rfl,h0⟩ | ⟨g,aC,x8,rfl,hb,hg,h1,h2,h3⟩
 ·have:cs=[]:=nO (by rw [hl,h0,Nat.zero_mul]);subst this;exact .nil k 0 none (nB _)
 ·refine .sl k cs g 0 n aC (λ j=>vs.getD j (.int .i64 0)) hl h1 h2 (Array.getElem?_eq_some_iff.1 hg).1 (hD g rfl) (λ j hj=>?_) (λ j hj=>?_)
  ·have sT:j<vs.length:=by rw [hr.len];exact hj
   have hc:=ho.cellAt j (by rw [←ho.1];exact sT);rw [Nat.zero_add,hc,List.getD_eq_getElem?_getD,List.getElem?_eq_getElem sT];rfl
  ·have sT:j<vs.length:=by rw [hr.len];exact hj
   have h4:=(hr.at hj sT).mono (D':=D) (λ b _ hd=>hd.1);show Rd w D cs[j] (vs.getD j (.int .i64 0));rw [List.getD_eq_getElem?_getD,List.getElem?_eq_getElem sT];exact h4
theorem eM.grow {v':Value} {vs us:List Value} {ds:List Dt} {B:Nat} (hr:bV w (λ b=>B≤b∧v.ownBlock≠some b) cs vs) (hx:bV w (λ b=>B≤b∧v.ownBlock≠some b) ds us)
 (aU:w'.ownsRow 0 T k v' n (vs++us)) (hk:ae (λ b=>v.ownBlock=some b) w w') (hg:∀y,v'.ownBlock=some y→v.ownBlock=some y∨w.heap.size≤y):eM w' (λ b=>B≤b) v' k T n (cs++ds):=by
 have h1:bV w (λ b=>(B≤b∧v.ownBlock≠some b)∧b<w.heap.size) (cs++ds) (vs++us):=(hr.app hx).mono λ b hb hd=>⟨hd,hb⟩;refine⟨vs++us,(h1.keep hk (λ b _ hd s=>hd.1.2 s)).mono λ b _ hd=>⟨hd.1.1,λ e=>?_⟩,aU⟩;exact KO
end
theorem gv {w:World} {D:Nat→Prop}:∀{n:Nat} {l:List Pt} {v:Value},az w D n l v→Rd w D (aB l) v
 | 0,l,v,⟨h0,a,c,e,hc⟩=>by
  subst h0 e;rw [aB,gp];exact .nil 6 c a hc
 | n+1,l,v,⟨a,c,e,h1,h2,h⟩=>by
  subst e;cases l with
  | nil=>rw [aB,gp];exact .nil 6 c a h2
  | cons p0 t=>
   obtain⟨b,gQ,wv0,ea,hb,hd,_,_⟩:=h 0 sI;subst ea;have gC:∀i (hi:i<(p0::t).length),∃wv,ik w b (gQ+i*6) (p0::t)[i] wv∧Rd w D (aB (p0::t)[i].word) wv:=λ i hi=>by
    obtain⟨b',ab2,wv,e,hb',hd',hc,hw⟩:=h i hi;obtain⟨rfl,rfl⟩:b=b'∧gQ=ab2:=by simpa using e
    exact⟨wv,hc,gv hw⟩
   have UL:∀j,j<(cg (p0::t)).length→∃u,w.cell? ⟨b,gQ+j,none⟩=some u∧∀(hj:j<(cg (p0::t)).length),Rd w D (cg (p0::t))[j] u:=λ j hj=>by
    have hj0:=hj;rw [li] at hj;have hi:j / 6<(p0::t).length:=oM
    have hr:j%6<6:=oM
    have hje:j / 6*6+j%6=j:=oM
    obtain⟨wv,hc,hw⟩:=gC (j / 6) hi;have hp:=zh hi hr;rw [hje,List.getElem?_eq_getElem hj0,rX] at hp;have eB:=hc (j%6);rw [show gQ+j / 6*6+j%6=gQ+j by omega] at eB;generalize (p0::t)[j / 6]=q at *;have h6:j%6=0∨j%6=1∨j%6=2∨j%6=3∨j%6=4∨j%6=5:=oM
    rcases h6 with e | e | e | e | e | e
    all_goals rw [e] at hp eB
    ·exact⟨_,eB _ rfl,λ hj=>by rw [nD hp];exact .int _⟩
    ·exact Kt
    ·exact Kt
    ·exact Kt
    ·exact⟨_,eB _ rfl,λ hj=>by rw [nD hp];exact hw⟩
    ·exact⟨_,eB _ rfl,λ hj=>by rw [nD hp];exact .bool _⟩
   have yZ:∃vs:Nat→Value,∀j,j<(cg (p0::t)).length→w.cell? ⟨b,gQ+j,none⟩=some (vs j)∧∀(hj:j<(cg (p0::t)).length),Rd w D (cg (p0::t))[j] (vs j):=
    ⟨λ j=>if hj:j<(cg (p0::t)).length then Classical.choose (UL j hj) else .int .i64 0,λ j hj=>by
     have e:(if hj:j<(cg (p0::t)).length then Classical.choose (UL j hj) else .int .i64 0)=Classical.choose (UL j hj):=dif_pos hj;show w.cell? _=some (if hj:j<(cg (p0::t)).length then Classical.choose (UL j hj) else .int .i64 0)∧∀(sT:j<(cg (p0::t)).length),Rd w D (cg (p0::t))[j] (if hj:j<(cg (p0::t)).length then Classical.choose (UL j hj) else .int .i64 0);rw [e];exact Classical.choose_spec (UL j hj)⟩
   obtain⟨vs,yZ⟩:=yZ;exact .sl 6 _ b gQ _ c vs (li _) h1 h2 hb hd (λ j hj=>(yZ j hj).1) (λ j hj=>(yZ j hj).2 hj)
def ix {α:Type} (f:List Tk→PR α):Prop:=∀ts d r,f ts=.ok (d,r)→r.length≤ts.length
theorem dS:∀ts:List Tk,(ai ts).length≤ts.length
 | []=>nC _
 | t::r=>by
  unfold ai;split
  ·have:=dS r;rw [lC];omega
  ·exact nC _
theorem dP (ts:List Tk):ts.tail.length≤ts.length:=by rw [List.length_tail];omega
theorem Lb (ts:List Tk):(dm ts).2.length≤ts.length:=by
 unfold dm;split
 ·exact nY (dS _) (dP _)
 ·exact nC _
theorem dA {s:List UInt8} {ts:List Tk} (h:aj s ts=true):1≤ts.length:=by
 cases ts with
 | nil=>unfold aj ch at h;simp at h
 | cons t r=>simp
theorem o4 {ts:List Tk} (h:((ch ts).kind==1)=true):1≤ts.length:=by
 cases ts with
 | nil=>unfold ch at h;simp at h
 | cons t r=>simp
theorem mB {ts:List Tk} (h:bP ts=true):1≤ts.length:=by
 cases ts with
 | nil=>unfold bP ch at h;simp at h
 | cons t r=>simp
theorem cY {s:List UInt8} {ts:List Tk} (hs:s≠[]) (h:aF s ts=true):1≤ts.length:=by
 cases ts with
 | nil=>
  unfold aF ch at h;rw [nH] at h;exact nQ h.symm hs
 | cons t r=>simp
section
variable {cmd:List Tk→PR (List Dt)} {scr:Bs→Except Nat Unit} (hc:ix cmd)
include hc
theorem sb:∀(n:Nat) (acc:List Dt) (ts:List Tk) (d:List Dt) (r:List Tk),cr cmd n acc ts=.ok (d,r)→r.length≤ts.length
 | 0,acc,ts,d,r,h=>by cases h
 | n+1,acc,ts,d,r,h=>by
  unfold cr at h;split at h
  ·split at h
   ·cases h
   ·next x y hq=>
    have h1:=hc _ _ _ hq;have h2:=sb n _ _ _ _ h;have:=dS ts.tail;have:=dP ts;omega
  ·exact yJ
theorem sd:ix (bh cmd):=by
 intro ts d r h;unfold bh at h;split at h
 ·cases h
 ·next x y hq=>
  have h1:=hc _ _ _ hq;have h0:(if aF [33] ts then ts.tail else ts).length≤ts.length:=by
   split
   ·exact dP ts
   ·exact nC _
  split at h
  ·cases h
  ·next l r2 dy=>
   have h2:=sb hc _ _ _ _ _ dy;have h3:r=r2:=by
    split at h<;>cases h<;>rfl
   subst h3;omega
theorem tz:∀(n:Nat) (acc:List Dt) (ts:List Tk) (d:List Dt) (r:List Tk),ck cmd n acc ts=.ok (d,r)→r.length≤ts.length
 | 0,acc,ts,d,r,h=>by cases h
 | n+1,acc,ts,d,r,h=>by
  have hl:=dS ts.tail;have ht:=dP ts;unfold ck at h;split at h
  ·exact Qg
  ·split at h
   ·exact Qg
   ·exact yJ
theorem pu:ix (da cmd):=by
 intro ts d r h;unfold da at h;split at h
 ·cases h
 ·next x y hq=>
  have h1:=sd hc _ _ _ hq;have h2:=tz hc _ _ _ _ _ h;omega
theorem tw:∀(n:Nat) (acc:List Dt) (ts:List Tk) (d:List Dt) (r:List Tk),cW cmd n acc ts=.ok (d,r)→r.length≤ts.length
 | 0,acc,ts,d,r,h=>by cases h
 | n+1,acc,ts,d,r,h=>by
  have he:=Lb ts;unfold cW at h;split at h
  ·split at h
   ·cases h
   ·next x y hq=>
    have h1:=pu hc _ _ _ hq;have h2:=tw n _ _ _ _ h;omega
  ·cases h;exact he
theorem NO:ix (mM cmd):=by
 intro ts d r h;unfold mM at h;split at h
 ·cases h
 ·next x y hq=>
  have h1:=pu hc _ _ _ hq;have h2:=tw hc _ _ _ _ _ h;omega
theorem lg:ix (bz cmd):=by
 intro ts d r h;unfold bz at h;split at h
 ·cases h
 ·next x y hq=>
  have h1:=NO hc _ _ _ hq;have:=dS ts;cases h;omega
end
theorem jq {s:List UInt8}:ix (cO s):=by
 intro ts d r h;unfold cO at h;split at h
 ·cases h;exact dP ts
 ·cases h
theorem qJ {s:List UInt8}:ix (en s):=by
 intro ts d r h;unfold en at h;split at h
 ·cases h;exact dP ts
 ·cases h
theorem mE {scr:Bs→Except Nat Unit} {ts:List Tk} {w:List Pt} {r:List Tk} (h:ca scr ts=.ok (w,r)):r=ts.tail∧1≤ts.length∧w=(ch ts).word∧w≠[]:=by
 unfold ca at h;split at h
 ·next hk=>
  split at h
  ·cases h
  ·cases h;rw [nW] at hk;refine⟨rfl,o4 hk.1,rfl,λ e=>?_⟩;rw [e] at hk;exact nQ hk.2 dC
 ·cases h
theorem g9 {scr:Bs→Except Nat Unit} {ts:List Tk} {w:List Pt} {r:List Tk} (h:ca scr ts=.ok (w,r)):r.length+1≤ts.length:=by
 obtain⟨rfl,h1,_⟩:=mE h;rw [List.length_tail];omega
theorem iu {scr:Bs→Except Nat Unit} {ts:List Tk} {d:List Dt} {r:List Tk} (h:dN scr ts=.ok (d,r)):r.length+1≤ts.length:=by
 unfold dN at h;split at h
 ·cases h
 ·next w r1 hq=>
  have:=g9 hq;have:=dP ts;cases h;omega
theorem qP {scr:Bs→Except Nat Unit}:∀(n:Nat) (acc:List Dt) (ts:List Tk) (d:List Dt) (r:List Tk),bm scr n acc ts=.ok (d,r)→r.length≤ts.length
 | 0,acc,ts,d,r,h=>by cases h
 | n+1,acc,ts,d,r,h=>by
  unfold bm at h;split at h
  ·split at h
   ·cases h
   ·next x y hq=>
    have:=iu hq;have h2:=qP n _ _ _ _ h;omega
  ·exact yJ
theorem qQ {scr:Bs→Except Nat Unit}:∀(n:Nat) (ws gz rs:List Dt) (ts:List Tk) (d:List Dt) (r:List Tk),bj scr n ws gz rs ts=.ok (d,r)→r.length≤ts.length
 | 0,ws,gz,rs,ts,d,r,h=>by cases h
 | n+1,ws,gz,rs,ts,d,r,h=>by
  unfold bj at h;split at h
  ·split at h
   ·cases h
   ·next x y hq=>
    have:=iu hq;exact KG
  ·split at h
   ·split at h
    ·cases h
    ·next x y hq=>
     have:=g9 hq;split at h
     ·exact KG
     ·exact KG
   ·exact yJ
theorem qh {scr:Bs→Except Nat Unit}:∀(n:Nat) (acc:List Dt) (ts:List Tk) (d:List Dt) (r:List Tk),bC scr n acc ts=.ok (d,r)→r.length≤ts.length
 | 0,acc,ts,d,r,h=>by cases h
 | n+1,acc,ts,d,r,h=>by
  unfold bC at h;split at h
  ·split at h
   ·cases h
   ·next x y hq=>
    have:=g9 hq;have h2:=qh n _ _ _ _ h;omega
  ·exact yJ
theorem rZ {scr:Bs→Except Nat Unit}:∀(n:Nat) (acc:List Dt) (ts:List Tk) (d:List Dt) (r:List Tk),bT scr n acc ts=.ok (d,r)→r.length≤ts.length
 | 0,acc,ts,d,r,h=>by cases h
 | n+1,acc,ts,d,r,h=>by
  unfold bT at h;split at h
  ·split at h
   ·cases h
   ·next x y hq=>
    have:=g9 hq;have:=dP ts;have h2:=rZ n _ _ _ _ h;omega
  ·exact yJ
section
variable {cmd:List Tk→PR (List Dt)} {scr:Bs→Except Nat Unit} (hc:ix cmd)
include hc
theorem Kp:ix (cL cmd):=by
 intro ts d r h;unfold cL at h;split at h
 ·cases h
 ·next x y hq=>
  have h1:=jq _ _ _ hq;split at h
  ·cases h
  ·next x2 y2 dy=>
   have h2:=lg hc _ _ _ dy;split at h
   ·cases h
   ·next x3 y3 rn=>
    have h3:=jq _ _ _ rn;cases h;omega
theorem zH (kind:Nat):ix (dE cmd kind):=by
 intro ts d r h;unfold dE at h;split at h
 ·cases h
 ·next x y hq=>
  have h1:=lg hc _ _ _ hq;exact Kr
theorem oK:∀(n:Nat) (acc:List Dt) (ts:List Tk) (d:List Dt) (r:List Tk),bD cmd n acc ts=.ok (d,r)→r.length≤ts.length
 | 0,acc,ts,d,r,h=>by cases h
 | n+1,acc,ts,d,r,h=>by
  unfold bD at h;split at h
  ·cases h
  ·next c r0 hq=>
   have h1:=lg hc _ _ _ hq;split at h
   ·cases h
   ·next u r1 p9=>
    have h2:=jq _ _ _ p9;split at h
    ·cases h
    ·next b r2 dy=>
     have h3:=lg hc _ _ _ dy;have:=dP r2;split at h
     ·have:=oK n _ _ _ _ h;omega
     ·split at h
      ·split at h
       ·cases h
       ·next x r3 rn=>
        have h4:=lg hc _ _ _ rn;cases h;omega
      ·cases h;omega
theorem DQ:ix (dx cmd):=by
 intro ts d r h;unfold dx at h;split at h
 ·cases h
 ·next x y hq=>
  have h1:=oK hc _ _ _ _ _ hq;split at h
  ·cases h
  ·next x2 y2 dy=>
   have h2:=jq _ _ _ dy;cases h;omega
theorem La:ix (fh cmd scr):=by
 intro ts d r h;have a1:=dP ts;have a2:=dS ts.tail;have a3:=dP (ai ts.tail);unfold fh at h;split at h
 ·split at h
  ·split at h
   ·cases h
   ·next x y hq=>
    have h1:=qh _ _ _ _ _ hq;have a4:=dP y;have a5:=dS y.tail;split at h
    ·exact Kr
    ·cases h
  ·have a6:(if aj [59] (ai ts.tail) then (ai ts.tail).tail else ai ts.tail).length≤(ai ts.tail).length:=by
    split
    ·exact a3
    ·exact nC _
   have a7:=dS (if aj [59] (ai ts.tail) then (ai ts.tail).tail else ai ts.tail);exact Kr
 ·cases h
theorem Fm {ts:List Tk} {d:List Dt} {r:List Tk} (h:lu cmd scr ts=.ok (d,r)):r.length+1≤ts.length:=by
 unfold lu at h;have a0:(if aj [40] ts then ts.tail else ts).length≤ts.length:=by
  split
  ·exact dP ts
  ·exact nC _
 split at h
 ·cases h
 ·next w r0 hq=>
  have h1:=g9 hq;split at h
  ·cases h
  ·next ps r1 p9=>
   have h2:=rZ _ _ _ _ _ p9;split at h
   ·cases h
   ·next u r2 dy=>
    have h3:=qJ _ _ _ dy;have a1:=dS r2;split at h
    ·split at h
     ·cases h
     ·next b r3 rn=>
      have h4:=lg hc _ _ _ rn;cases h;omega
    ·cases h;omega
theorem rA:∀(n:Nat) (acc:List Dt) (ts:List Tk) (d:List Dt) (r:List Tk),bF cmd scr n acc ts=.ok (d,r)→r.length≤ts.length
 | 0,acc,ts,d,r,h=>by cases h
 | n+1,acc,ts,d,r,h=>by
  unfold bF at h;split at h
  ·cases h;exact dP ts
  ·split at h
   ·cases h
   ·next a r0 hq=>
    have h1:=Fm hc hq;have a1:=dP r0;have a2:=dS r0.tail;split at h
    ·have:=rA n _ _ _ _ h;omega
    ·split at h
     ·cases h
     ·next u r2 dy=>
      have h3:=jq _ _ _ dy;cases h;omega
theorem GO:ix (eA cmd scr):=by
 intro ts d r h;unfold eA at h;split at h
 ·cases h
 ·next w r0 hq=>
  have h1:=g9 hq;have a1:=dS r0;split at h
  ·cases h
  ·next u r1 p9=>
   have h2:=jq _ _ _ p9;have a2:=dS r1;split at h
   ·cases h
   ·next l r2 dy=>
    have h3:=rA hc _ _ _ _ _ dy;cases h;omega
theorem Az (name:Bs):ix (cy cmd name):=by
 intro ts d r h;have a1:=dP ts;have a2:=dP ts.tail;unfold cy at h;split at h
 ·cases h
 ·next u r0 hq=>
  have h1:=qJ _ _ _ hq;have a3:=dS r0;split at h
  ·split at h
   ·cases h
   ·next x y dy=>
    have h2:=hc _ _ _ dy;cases h;omega
  ·cases h
theorem CJ (kind:Nat) {gZ:List Tk→PR Unit} (mj:ix gZ):ix (fu cmd kind gZ):=by
 intro ts d r h;unfold fu at h;split at h
 ·cases h
 ·next x y hq=>
  have h1:=lg hc _ _ _ hq;split at h
  ·cases h
  ·next x2 y2 dy=>
   have h2:=mj _ _ _ dy;cases h;omega
omit hc in
theorem xC {q:PR (List Dt)} {n:Nat} (hq:∀d r,q=.ok (d,r)→r.length≤n) {d:List Dt} {r:List Tk} (h:aM scr q=.ok (d,r)):r.length≤n:=by
 unfold aM at h;split at h
 ·cases h
 ·next x y=>
  have h1:=hq _ _ rfl;split at h
  ·cases h
  ·next rs r2 dy=>
   have h2:=qP _ _ _ _ _ dy;cases h;omega
theorem Hr:ix (gV cmd scr):=by
 intro ts d r h;have a1:=dP ts;unfold gV at h;split at h
 ·next q hq=>
  subst h;unfold cw at hq;have gC:∀{f:List Tk→PR (List Dt)},ix f→∀{d r},aM scr (f ts.tail)=.ok (d,r)→r.length≤ts.length:=λ hf d r h=>
   nY (xC (λ d r h=>hf _ _ _ h) h) a1
  split at hq
  ·exact gC (CJ hc 13 qJ) (nD hq)
  ·split at hq
   ·exact gC (CJ hc 12 jq) (nD hq)
   ·split at hq
    ·exact gC (DQ hc) (nD hq)
    ·split at hq
     ·exact gC (zH hc 7) (nD hq)
     ·split at hq
      ·exact gC (zH hc 8) (nD hq)
      ·split at hq
       ·exact gC (La hc) (nD hq)
       ·split at hq
        ·exact gC (GO hc) (nD hq)
        ·split at hq
         ·exact Az hc _ _ _ _ (nD hq)
         ·cases hq
 ·exact qQ _ _ _ _ _ _ _ h
end
theorem lJ:∀k,ix (ab k)
 | 0=>by
  intro ts d r h;exact KH
 | k+1=>by
  intro ts d r h;unfold ab at h;split at h
  ·exact Hr (lJ k) _ _ _ h
  ·cases h
mutual
def Zp:Pt→Bool
 | .mk k t n o w _=>(k != 1 || w.isEmpty) && (decide (t.length≤40000) && (decide (w.length≤40000) && JA w))
def JA:List Pt→Bool
 | []=>true
 | p::l=>Zp p && JA l
end
def Sm (l:List Pt):Prop:=l.length≤40000∧JA l=true
theorem MG {p:Pt} {l:List Pt}:JA (p::l)=(Zp p && JA l):=by simp [JA]
theorem O7 (p:Pt):Zp p=true↔(p.kind=1→p.word=[])∧p.text.length≤40000∧Sm p.word:=by
 cases p with
 | mk k t n o w q=>
  simp only [Zp,nW,decide_eq_true_eq,Pt.kind,Pt.word,Pt.text];refine and_congr ?_ Iff.rfl;rw [Bool.or_eq_true,bne_iff_ne,List.isEmpty_iff];by_cases h:k=1
  ·simp [h]
  ·simp [h]
theorem sk:∀{l:List Pt},JA l=true↔∀p∈l,(p.kind=1→p.word=[])∧p.text.length≤40000∧Sm p.word
 | []=>by simp [JA]
 | q::l=>by
  rw [MG,nW,O7,sk (l:=l)];simp
theorem ns {l:List Pt} {p:Pt} (h:JA l=true) (hp:p∈l):p.text.length≤40000∧Sm p.word:=(sk.1 h p hp).2
theorem MH {l:List Pt} {p:Pt} (h:JA l=true) (hp:p∈l):p.kind=1→p.word=[]:=(sk.1 h p hp).1
theorem Sm.nil:Sm []:=⟨nB _,by simp [JA]⟩
def NM (T:List Tk):Prop:=T.length≤20000∧∀t∈T,t.text.length≤40000∧Sm t.word
def oj (l:List Pt):Prop:=∀p∈l,Sm p.word∧(p.kind=1→p.word=[])
theorem oj.append {a b:List Pt} (ha:oj a) (hb:oj b):oj (a++b):=λ p hp=>by
 rcases List.mem_append.1 hp with h | h
 ·exact ha p h
 ·exact hb p h
theorem Bc (x:Pt):er [x]=x.text.length+1:=by simp [er]
theorem MV:∀{l:List Pt} {p:Pt},p∈l→p.text.length+1≤er l
 | q::l,p,h=>by
  rcases List.mem_cons.1 h with rfl | h
  ·simp only [er];omega
  ·have:=MV h;simp only [er];omega
theorem wj {l:List Pt} {y:Pt} (h:l.getLast? = some y):l=l.dropLast++[y]:=by
 obtain⟨ys,rfl⟩:=List.getLast?_eq_some_iff.1 h;simp
theorem NN (out:List Pt) (x:Pt):er (qq out x)≤er out+er [x]:=by
 unfold qq;split
 ·next y hy=>
  split
  ·have e:=wj hy;have h1:er out=er (out.dropLast++[y]):=by rw [←e]
   rw [bv,h1,bv,Bc,Bc,Bc];cases y;cases x;simp only [Pt.join,Pt.text,Pt.kind,lA];omega
  ·rw [bv];exact nC _
 ·omega
theorem Dz {out:List Pt} {x:Pt} (ho:oj out) (hx:Sm x.word∧(x.kind=1→x.word=[])):oj (qq out x):=by
 unfold qq;split
 ·next y hy=>
  split
  ·have e:=wj hy;refine oj.append (λ p hp=>ho p (List.dropLast_subset _ hp)) (λ p hp=>?_);rw [List.mem_singleton.1 hp];have:=ho y (by rw [e];simp);cases y;exact this
  ·refine oj.append ho (λ p hp=>?_);rw [List.mem_singleton.1 hp];exact hx
 ·intro p hp;rw [List.mem_singleton.1 hp];exact hx
theorem vL:∀(l:List Pt) (a:List Pt×Bool),oj l→oj a.1→er (l.foldl cd a).1≤er a.1+er l∧oj (l.foldl cd a).1
 | [],a,_,ha=>⟨by simp [er],ha⟩
 | x::l,a,hl,ha=>by
  rw [List.foldl_cons];have h1:er (cd a x).1≤er a.1+er [x]∧oj (cd a x).1:=by
   unfold cd;split
   ·exact⟨Nat.le_add_right _ _,ha⟩
   ·exact⟨NN _ _,Dz ha (hl x (List.mem_cons_self ..))⟩
  obtain⟨h2,h3⟩:=vL l (cd a x) (λ p hp=>hl p (List.mem_cons_of_mem _ hp)) h1.2;refine⟨?_,h3⟩;have h4:=h1.1;rw [Bc] at h4;simp only [er];omega
theorem xu {l:List Pt} (h:oj l) (hw:er l≤39999):Sm (eh l):=by
 obtain⟨h1,h2⟩:=vL l ([],false) h (λ p hp=>by cases hp);unfold eh;split
 ·exact⟨dC,sk.2 λ p hp=>by rw [List.mem_singleton.1 hp];exact⟨λ_=>rfl,dC,Sm.nil⟩⟩
 ·have h3:er (cZ l).1≤39999:=by
   show er (l.foldl cd ([],false)).1≤_;simp only [er] at h1;omega
  refine⟨by have:=iq (cZ l).1;omega,sk.2 λ p hp=>⟨(h2 p hp).2,?_,(h2 p hp).1⟩⟩;have:=MV hp;omega
theorem oj.txt (s:List UInt8):oj [dD s]:=λ p hp=>by rw [List.mem_singleton.1 hp];exact⟨Sm.nil,λ_=>rfl⟩
theorem oj.quo (s:List UInt8):oj [cq s]:=λ p hp=>by rw [List.mem_singleton.1 hp];exact⟨Sm.nil,λ_=>rfl⟩
theorem oj.leaf (k:Nat) (t n o:List UInt8) (q:Bool):oj [.mk k t n o [] q]:=λ p hp=>by rw [List.mem_singleton.1 hp];exact⟨Sm.nil,λ_=>rfl⟩
theorem oj.nil:oj []:=λ p hp=>by cases hp
def Md.slack:Md→Nat | .dol _=>2 | _=>0
theorem pq {l0:List Pt} {r:mH} {l:List Pt} {r1:List UInt8} (h:r.ahead l0=.ok (l,r1)):∃m,r=.ok (m,r1)∧l=l0++m:=by
 cases r with
 | error e=>cases h
 | ok x=>obtain⟨m,r2⟩:=x;cases h;exact⟨m,rfl,rfl⟩
theorem CX {c:UInt8}:∀{l:List UInt8} {k:Nat},bX c l=some k→k<l.length
 | x::t,k,h=>by
  unfold bX at h;split at h
  ·cases h;simp
  ·cases h2:bX c t with
   | none=>rw [h2] at h;cases h
   | some j=>rw [h2] at h;cases h;have:=CX h2;simp;omega
theorem uT:∀{l:List UInt8} {o k:Nat},ci o l=some k→k+2≤l.length
 | [],o,k,h=>by cases h
 | c::t,o,k,h=>by
  unfold ci at h;split at h
  ·cases h2:ci (o+1) t with
   | none=>rw [h2] at h;cases h
   | some j=>rw [h2] at h;cases h;have:=uT h2;simp;omega
  ·split at h
   ·split at h
    ·split at h
     ·next hh=>
      cases h;cases t with
      | nil=>cases hh
      | cons y z=>simp
     ·cases h
    ·cases h2:ci (o - 1) t with
     | none=>rw [h2] at h;cases h
     | some j=>rw [h2] at h;cases h;have:=uT h2;simp;omega
   ·cases h2:ci o t with
    | none=>rw [h2] at h;cases h
    | some j=>rw [h2] at h;cases h;have:=uT h2;simp;omega
theorem o5 {o:Option Nat} {k:Nat} (h:o.map (· + 1)=some k):∃j,o=some j∧k=j+1:=by
 cases o with
 | none=>cases h
 | some j=>cases h;exact⟨j,rfl,rfl⟩
theorem tm:∀{l:List UInt8} {m:SM} {o k:Nat},ce m o l=some k→k<l.length
 | [],m,o,k,h=>by cases m<;>cases h
 | c::t,m,o,k,h=>by
  cases m with
  | n=>
   unfold ce at h
   repeat' split at h
   all_goals first
    | (cases h;simp;done)
    | (obtain⟨j,h2,rfl⟩:=o5 h;have:=tm h2;simp;omega)
  | q1=>obtain⟨j,h2,rfl⟩:=o5 h;have:=tm h2;simp;omega
  | q2=>obtain⟨j,h2,rfl⟩:=o5 h;have:=tm h2;simp;omega
  | bn=>obtain⟨j,h2,rfl⟩:=o5 h;have:=tm h2;simp;omega
  | bq=>obtain⟨j,h2,rfl⟩:=o5 h;have:=tm h2;simp;omega
theorem eZ:∀(n:Nat) (m:Md) (d:Nat) (r:List UInt8) (l:List Pt) (r1:List UInt8),bN n m d r=.ok (l,r1)→r.length≤16384→
 er l+2*r1.length≤2*r.length+m.slack∧oj l
 | 0,m,d,r,l,r1,h,_=>by unfold bN at h;cases h
 | n+1,.one q,d,[],l,r1,h,_=>by
  cases q<;>(unfold bN at h;cases h;exact⟨by simp [er,Md.slack],oj.nil⟩)
 | n+1,.one false,d,c::t,l,r1,h,hr=>by
  unfold bN at h;simp only [lC] at hr ⊢;split at h
  ·split at h
   ·cases h
   ·next k hk=>
    cases h;have:=CX hk;refine⟨?_,oj.quo _⟩;simp only [er,cq,Pt.text,Md.slack,List.length_take,nI];omega
  ·split at h
   ·obtain⟨m,h2,rfl⟩:=pq h;obtain⟨h3,h4⟩:=eZ n .dq d t m r1 h2 oM;refine⟨?_,oj.append (oj.quo _) h4⟩;rw [bv];simp only [er,cq,Pt.text,Md.slack,lN] at h3 ⊢;omega
   ·split at h
    ·split at h
     ·cases h;exact⟨by simp [er,cq,Pt.text,Md.slack],oj.quo _⟩
     ·split at h
      ·exact Fz
      ·cases h;exact Fx
    ·split at h
     ·cases h
     ·split at h
      ·obtain⟨h3,h4⟩:=eZ n (.dol false) d t l r1 h oM;exact KC
      ·cases h;exact⟨by simp [er,dD,Pt.text,Md.slack];omega,oj.txt _⟩
 | n+1,.one true,d,c::t,l,r1,h,hr=>by
  unfold bN at h;simp only [lC] at hr ⊢;have ht:t.tail.length≤t.length:=by rw [List.length_tail];omega
  split at h
  ·cases h
  ·split at h
   ·exact Fz
   ·split at h
    ·cases h;exact Fx
    ·split at h
     ·obtain⟨h3,h4⟩:=eZ n (.dol true) d t l r1 h oM;exact KC
     ·cases h;exact Fx
 | n+1,.dq,d,r,l,r1,h,hr=>by
  unfold bN at h;cases r with
  | nil=>cases h
  | cons c t=>
   dsimp only at h;split at h
   ·exact Fz
   ·split at h
    ·cases h
    ·next l1 r2 h1=>
     obtain⟨m,h2,rfl⟩:=pq h;obtain⟨h3,h4⟩:=eZ n (.one true) d (c::t) l1 r2 h1 hr;simp only [Md.slack] at h3;obtain⟨h5,h6⟩:=eZ n .dq d r2 m r1 h2 oM;exact QI
 | n+1,.br q,d,r,l,r1,h,hr=>by
  unfold bN at h;cases r with
  | nil=>cases h
  | cons c t=>
   dsimp only at h;split at h
   ·exact Fz
   ·split at h
    ·cases h
    ·next l1 r2 h1=>
     obtain⟨m,h2,rfl⟩:=pq h;obtain⟨h3,h4⟩:=eZ n (.one q) d (c::t) l1 r2 h1 hr;simp only [Md.slack] at h3;obtain⟨h5,h6⟩:=eZ n (.br q) d r2 m r1 h2 oM;exact QI
 | n+1,.dol q,d,r,l,r1,h,hr=>by
  unfold bN at h;have ht:r.tail.length≤r.length:=by rw [List.length_tail];omega
  split at h
  ·obtain⟨h3,h4⟩:=eZ n (.brace q) d r.tail l r1 h oM;exact KC
  ·split at h
   ·split at h
    ·cases h
    ·next k hk=>
     cases h;have:=uT hk;exact P9
   ·split at h
    ·split at h
     ·cases h
     ·next k hk=>
      cases h;have:=tm hk;exact P9
    ·split at h
     ·cases h;cases q
      ·exact⟨by simp [er,dD,Pt.text,Md.slack];omega,oj.txt _⟩
      ·exact Fx
     ·cases h;refine⟨?_,oj.leaf _ _ _ _ _⟩;simp only [er,Pt.text,Md.slack,nI,lN];omega
 | n+1,.brace q,d,r,l,r1,h,hr=>by
  unfold bN at h;dsimp only at h;have ht:r.tail.length≤r.length:=by rw [List.length_tail];omega
  have hx:(if bu r then r.tail else r).length≤r.length:=by split<;>omega
  generalize (if bu r then r.tail else r)=x at h hx;split at h
  ·cases h
  ·next dt=>
   have hd:(x.drop (bQ true x)).length≤x.length - bQ true x:=by rw [nI];exact nC _
   generalize x.drop (bQ true x)=y at h hd;have hy:y.tail.length≤y.length:=by rw [List.length_tail];omega
   split at h
   ·next hh=>
    cases h;have h1:1≤y.length:=by
     cases y with
     | nil=>cases hh
     | cons a b=>simp
    refine⟨?_,oj.leaf _ _ _ _ _⟩;simp only [er,Pt.text,Md.slack,lN,List.length_tail];omega
   ·split at h
    ·cases h
    ·next kZ=>
     split at h
     ·cases h
     ·split at h
      ·cases h
      ·next l2 r3 h2=>
       have ac7:1≤(lF y).length:=by
        rcases Nat.eq_zero_or_pos (lF y).length with h0 | h0
        ·rw [nO h0] at kZ;exact nQ rfl kZ
        ·exact h0
       have bS:(y.drop (lF y).length).length≤y.length - 1:=by rw [nI];omega
       obtain⟨h3,h4⟩:=eZ n (.br q) (d+1) _ l2 r3 h2 oM;cases h;simp only [Md.slack] at h3;refine⟨?_,λ p hp=>?_⟩
       ·simp only [er,Pt.text,Md.slack,lN];have:1≤y.length∨y.length=0:=oM
        rcases this with h9 | h9
        ·omega
        ·have:(lF y).length≤y.length:=by
          obtain rfl:=nO h9;decide
         omega
       ·rw [List.mem_singleton.1 hp];exact⟨xu h4 oM,λ h=>by have h9:(3:Nat)=1:=h;cases h9⟩
theorem uk (wh:Bool):∀(n:Nat) (r:List UInt8) (l:List Pt) (r1:List UInt8),i9 wh n r=.ok (l,r1)→r.length≤16384→er l+2*r1.length≤2*r.length∧oj l
 | 0,r,l,r1,h,_=>by cases h
 | n+1,[],l,r1,h,_=>by cases h;exact⟨by simp [er],oj.nil⟩
 | n+1,c::t,l,r1,h,hr=>by
  rw [fI] at h;dsimp only at h;split at h
  ·cases h;exact⟨by simp [er],oj.nil⟩
  ·split at h
   ·cases h
   ·next l1 r2 h1=>
    obtain⟨m,h2,rfl⟩:=pq h;obtain⟨h3,h4⟩:=eZ _ _ _ _ _ _ h1 hr;simp only [Md.slack] at h3;obtain⟨h5,h6⟩:=uk wh n r2 m r1 h2 oM;exact⟨by rw [bv];omega,h4.append h6⟩
theorem Et (r:List UInt8):(dg r).length≤3:=by
 unfold dg eO;cases hf:f6.find? (λ o=>aI o r) with
 | none=>decide
 | some p=>
  have hp:p∈f6:=List.mem_of_find?_eq_some hf;have h:∀q∈f6,q.length≤3:=dC
  exact h p hp
theorem A8 {r:List UInt8} {x:Tk} {r1:List UInt8} (h:ed r=.ok (x,r1)) (hr:r.length≤16384):x.text.length≤40000∧Sm x.word:=by
 unfold ed at h;split at h
 ·split at h
  ·cases h
  ·split at h
   ·cases h
   ·next l r2 h2=>
    obtain⟨h3,h4⟩:=uk _ _ _ _ _ h2 hr;cases h;exact⟨nB _,xu h4 oM⟩
 ·cases h;exact⟨by have:=Et r;show (dg r).length≤_;omega,Sm.nil⟩
theorem xw:∀(n:Nat) (r:List UInt8) (T:List Tk),nz n r=.ok T→r.length≤16384→T.length≤r.length∧∀t∈T,t.text.length≤40000∧Sm t.word
 | 0,r,T,h,_=>by cases h
 | n+1,r,T,h,hr=>by
  rw [mC] at h;have hs:=sj false r;cases TF:bU false r with
  | nil=>
   rw [TF] at h;cases h;exact⟨nB _,λ t ht=>by cases ht⟩
  | cons c t=>
   rw [TF] at h;dsimp only at h;rw [TF] at hs;cases ym:ed (c::t) with
   | error e=>rw [ym] at h;cases h
   | ok xr=>
    obtain⟨x,r1⟩:=xr;rw [ym] at h;dsimp only at h;have h1:=A8 ym oM;have h2:=jv (jt TF) ym;rw [lC] at hs;cases UW:nz n r1 with
    | error e=>rw [UW] at h;cases h
    | ok T'=>
     rw [UW] at h;obtain⟨h3,h4⟩:=xw n r1 T' UW oM;cases h;refine⟨by rw [lC];omega,λ y hy=>?_⟩;rcases List.mem_cons.1 hy with rfl | hy
     ·exact h1
     ·exact h4 y hy
theorem xy {s:List UInt8} {T:List Tk} (h:ff s=.ok T):NM T:=by
 unfold ff at h;split at h
 ·next hm=>
  have hl:s.length≤16384:=by
   unfold jp at hm;split at hm
   ·cases hm
   ·omega
  obtain⟨h1,h2⟩:=xw _ _ _ h hl;exact⟨oM,h2⟩
 ·cases h
structure Ev (w:World) (B:Nat):Prop where
 tab : Lib.TabIs Tryz.prog w "strings.asciiSpace" .u8 Lib.asciiSpaceTab
 big:∃m:Int,w.cell? ⟨0,0,none⟩=some (.int .i64 m)
 low:3<B∧0<B∧B≤w.heap.size
theorem Ev.keep {w w':World} {B:Nat} {S:Nat→Prop} (h:Ev w B) (hk:ae S w w') (hS:∀b,b<B→¬S b):Ev w' B:=by
 obtain⟨h1,⟨m,h2⟩,h3,h4,h5⟩:=h;refine⟨?_,⟨m,?_⟩,h3,h4,nY h5 hk.size⟩
 ·unfold Lib.TabIs World.var? at *;have hg : Tryz.prog.globalNamed "strings.asciiSpace" = some 3 := by kernel_rfl
  simp only [hg,Option.bind_some] at h1 ⊢;rw [hk.block _ oM (hS _ h3)];exact h1
 ·have hb:=hk.block 0 oM (hS _ h4);rw [uH hb];exact h2
theorem Ev.mono {w:World} {B B':Nat} (h:Ev w B) (hB:B≤B') (hw:B'≤w.heap.size):Ev w B':=⟨h.tab,h.big,by have:=h.low;omega⟩
structure RS (w:World) (B cs:Nat) (tv:Value) (n:Nat) (T:List Tk) (i d:Nat):Prop where
 rd:af w cs [tv,.int .i64 (i:Nat),.int .i64 (d:Nat)]
 ev:Ev w B
 toks:fO w (λ b=>b<B) n T tv
 cs:B≤cs
 i:i≤T.length
 sm:NM T
 d:d≤40
theorem RS.lt {w:World} {B cs:Nat} {tv:Value} {n:Nat} {T:List Tk} {i d:Nat} (h:RS w B cs tv n T i d):cs<w.heap.size:=h.rd.lt
theorem RS.keep {w w':World} {B cs:Nat} {tv:Value} {n:Nat} {T:List Tk} {i d:Nat} {S:Nat→Prop} (h:RS w B cs tv n T i d) (hk:ae S w w') (hS:∀b,b<B→¬S b) (hc:¬S cs):RS w' B cs tv n T i d:=
 ⟨h.rd.keep hk hc,h.ev.keep hk hS,h.toks.keep hk (λ b _ hb=>hS b hb),h.cs,h.i,h.sm,h.d⟩
theorem RS.keep0 {w w':World} {B cs:Nat} {tv:Value} {n:Nat} {T:List Tk} {i d:Nat} (h:RS w B cs tv n T i d) (hk:K0 w w'):RS w' B cs tv n T i d:=h.keep hk (λ_ _ x=>x) (λ x=>x)
theorem RS.shape {w:World} {B cs:Nat} {tv:Value} {n:Nat} {T:List Tk} {i d:Nat} (h:RS w B cs tv n T i d):∃a c,tv=.slice a T.length c∧T.length≤c∧c≤maxLen:=h.toks.shape
theorem RS.cells {w:World} {B cs:Nat} {tv:Value} {n:Nat} {T:List Tk} {i d:Nat} (h:RS w B cs tv n T i d) :
 w.cell? ⟨cs,0,none⟩=some tv∧w.cell? ⟨cs,1,none⟩=some (.int .i64 (i:Nat))∧w.cell? ⟨cs,2,none⟩=some (.int .i64 (d:Nat))∧
 w.frozen? ⟨cs,1,none⟩=false∧w.frozen? ⟨cs,2,none⟩=false:=by
 exact QO
theorem RS.set1 {w:World} {B cs:Nat} {tv:Value} {n:Nat} {T:List Tk} {i d:Nat} (h:RS w B cs tv n T i d) {j:Nat} (hj:j≤T.length):RS (w.setCell ⟨cs,1,none⟩ (.int .i64 (j:Nat))) B cs tv n T j d∧ae (λ b=>b=cs) w (w.setCell ⟨cs,1,none⟩ (.int .i64 (j:Nat))):=by
 have hk:ae (λ b=>b=cs) w (w.setCell ⟨cs,1,none⟩ (.int .i64 (j:Nat))):=(ae.refl _ _).setCell _ _ λ_=>rfl;have hB:=h.cs;exact⟨⟨h.rd.set 1 _,h.ev.keep hk (λ b hb e=>oM),h.toks.keep hk (λ b _ hb e=>oM),h.cs,hj,h.sm,h.d⟩,hk⟩
theorem RS.set2 {w:World} {B cs:Nat} {tv:Value} {n:Nat} {T:List Tk} {i d:Nat} (h:RS w B cs tv n T i d) {j:Nat} (hj:j≤40):RS (w.setCell ⟨cs,2,none⟩ (.int .i64 (j:Nat))) B cs tv n T i j∧ae (λ b=>b=cs) w (w.setCell ⟨cs,2,none⟩ (.int .i64 (j:Nat))):=by
 have hk:ae (λ b=>b=cs) w (w.setCell ⟨cs,2,none⟩ (.int .i64 (j:Nat))):=(ae.refl _ _).setCell _ _ λ_=>rfl;have hB:=h.cs;exact⟨⟨h.rd.set 2 _,h.ev.keep hk (λ b hb e=>oM),h.toks.keep hk (λ b _ hb e=>oM),h.cs,h.i,h.sm,hj⟩,hk⟩
theorem fY {T:List Tk} {i:Nat} (h:i<T.length):ch (T.drop i)=T[i]:=by
 rw [List.drop_eq_getElem_cons h];rfl
theorem iM {T:List Tk} {i:Nat} (h:T.length≤i):ch (T.drop i)=⟨0,[],[]⟩:=by
 rw [List.drop_eq_nil_of_le h];rfl
theorem ae.fresh {S Q:Nat→Prop} {w w1 w2:World} (h:ae S w w1) (k:ae Q w1 w2) (hQ:∀b,Q b→w.heap.size≤b):ae S w w2:=h.trans k λ x hx e=>by have:=hQ x e;omega
def RU (w:World) (B:Nat) (n:Nat) (tk:Tk) (e:Ending) (w':World):Prop:=
 ∃(a:OA) (c:Nat),e=.returned (.agg #[.int .i64 (tk.kind:Nat),.string ⟨tk.text.toArray⟩,.slice a tk.word.length c])∧az w' (λ b=>b<B) n tk.word (.slice a tk.word.length c)∧K0 w w'
theorem jf (w:World) (B cs n i d:Nat) (tv:Value) (T:List Tk) (h:RS w B cs tv n T i d) :
 Calls Tryz.prog 141 #[.pointer (some ⟨cs,0,none⟩)] w (RU w B n (ch (T.drop i))):=by
 obtain⟨c0,c1,_,_,_⟩:=h.cells;obtain⟨ta,tc,rfl,ko,il⟩:=h.shape;have aW:=h.lt;have Jd:=dY;have ek:=h.sm.1;have HB:=Hd (show B≤w.heap.size from h.ev.low.2.2);rcases nP i T.length with hi | hi
 ·obtain⟨g,o,xa,xl,xc,rfl,⟨q0,q1,q2⟩,hx,hg⟩:=h.toks.at (ae.refl _ _) hi;obtain⟨ya,yc,Ho,_,_⟩:=hx.shape;injection Ho with e1 e2 e3;rw [e2] at q2 hx;rw [fY hi];generalize T[i]=x at *;have p1:(i:Int)<(T.length:Int):=oM
  have HX:=Hd hx;unfold dj at q1;clear hx e1 e2 e3 h;obtain⟨L,hL⟩:∃L,L=T.length:=⟨_,rfl⟩;obtain⟨xl,sE⟩:∃xl,xl=x.word.length:=⟨_,rfl⟩;obtain⟨kd,kn⟩:∃kd,kd=x.kind:=⟨_,rfl⟩;rw [←sE] at q2;rw [←kn] at q0;have I9:=Hd sE;have Pl:=Hd kn;rw [←hL] at c0 p1 ko ek;clear hL sE kn hi;go_enter Tryz.func141,Tryz.ntmps141;go_wp2_with fail;go_quiet (fail);obtain⟨W1,tM⟩:∃W1,W1=(w.alloc (.cells #[.int .i64 0,eS,()] 109)).drewN nq:=⟨_,rfl⟩
  rw [←tM];have bt:K0 w W1:=by rw [tM];exact ((ae.refl _ _).alloc _).drewN _
  have hR:=Hd (show af W1 w.heap.size [.int .i64 0,eS,()] by rw [tM];exact (show af (w.alloc _) w.heap.size _ from⟨_,nG w _⟩).keep (S:=λ_=>False) ((ae.refl _ _).drewN _) (λ h=>h));have d0:=(uH (a:=⟨cs,0,none⟩) (bt.block cs aW (λ h=>h))).trans c0;have d1:=(uH (a:=⟨cs,1,none⟩) (bt.block cs aW (λ h=>h))).trans c1
  have r0:=(uH (a:=⟨g,o+i*3,none⟩) (bt.block g hg (λ h=>h))).trans q0;have r1:=(uH (a:=⟨g,o+i*3+1,none⟩) (bt.block g hg (λ h=>h))).trans q1;have r2:=(uH (a:=⟨g,o+i*3+2,none⟩) (bt.block g hg (λ h=>h))).trans q2;have dp:=Hd bt;clear tM bt q0 q1 q2 c0 c1;go_wp2_with fail;go_still_tail 10,kR;change wpList _ _ _ _ _ W1.drew
  obtain⟨W2,et⟩:∃W2,W2=W1.drew:=⟨_,rfl⟩;rw [←et];have aS:K0 W1 W2:=by rw [et];exact (ae.refl _ _).drew
  have gF:=hR.out.keep aS (λ h=>h);obtain⟨⟨z0,z1,z2⟩,f0,f1,f2⟩:=gF.three;have cA:=Hd (dp.o.trans aS k3);have YB:=Hd (HX.o.keep cA.o (λ_ _ _ h=>h));have eC:=gF.lt;clear et aS hR;go_wp2_with fail;refine nJ (v:=.agg #[.int .i64 (kd:Nat),.string ⟨x.text.toArray⟩,.slice xa xl xc]) (by simp [results,Tryz.results141,go_sem,z0,z1,z2]) rfl ?_;have aV:=nr W2 w.heap.size (.int .i64 (kd:Nat)) (.string ⟨x.text.toArray⟩) (.slice xa xl xc)
  refine⟨xa,xc,by rw [←I9.o,←Pl.o],?_,cA.o.fresh aV (λ b e=>oM)⟩;have hB:=HB.o;rw [←I9.o];have hp:=YB.o;rw [←I9.o] at hp;exact hp.keep aV (λ b hb h e=>oM)
 ·rw [iM hi];have p1:¬(i:Int)<(T.length:Int):=oM
  clear h;go_enter Tryz.func141,Tryz.ntmps141;go_wp2_with fail;go_quiet (fail);go_wp2_with fail;refine nJ (v:=.agg #[.int .i64 0,eS,()]) (by simp [results,Tryz.results141,go_sem]) rfl ?_;refine⟨none,0,rfl,az.nil _ _ _,?_⟩;exact (((ae.refl _ w).alloc _).drewN nq).fresh (nr _ w.heap.size (.int .i64 0) (.string ⟨#[]⟩) (.slice none 0 0)) (λ b e=>oM)
@[reducible] def lL (x:Nat):Ending:=.panicked [{ v:=.iface 131 (.agg #[x]),recovered:=false }]
theorem s7 (x:Nat) (w:World) :
 Calls Tryz.prog 122 #[x] w λ e w'=>e=lL x∧w=w':=by
 go_enter Tryz.func122,Tryz.ntmps122;go_wp2_with fail;exact⟨rfl,rfl,rfl⟩
theorem df (w:World) :
 Calls Tryz.prog 92 #[true] w λ e w'=>e=.returned (.tuple #[])∧w=w':=by
 go_enter Tryz.func92,Tryz.ntmps92;go_wp2_with fail;go_end0;exact⟨rfl,rfl⟩
theorem jE (w:World) :
 Calls Tryz.prog 92 #[false] w λ e w'=>e=lL 2∧w=w':=by
 go_enter Tryz.func92,Tryz.ntmps92;go_wp2_with fail;refine (s7 2 _).mono ?_;rintro e w1 ⟨rfl,rfl⟩;go_wp2_with fail;exact⟨rfl,rfl,rfl⟩
theorem qu (x:Int) (b:ByteArray) (a:OA) (n c:Nat) (w:World):(Instr.field 109 (.agg #[x,b,.slice a n c]) 0).run Tryz.prog w=.ok (.int .i64 x) w:=kR
theorem vK (x:Int) (b:ByteArray) (a:OA) (n c:Nat) (w:World):(Instr.field 109 (.agg #[x,b,.slice a n c]) 1).run Tryz.prog w=.ok (.string b) w:=kR
def jI (w:World) (q:Bool) (e:Ending) (w':World):Prop:=e=.returned (.bool q)∧K0 w w'
def gX (w:World) (B cs:Nat) (tv:Value) (n:Nat) (T:List Tk) (i d:Nat) (v:Value) (r:List Tk) (e:Ending) (w':World):Prop:=
 e=.returned v∧∃j,i≤j∧T.drop j=r∧RS w' B cs tv n T j d∧ae (λ b=>b=cs) w w'
def G0 (q:Bool) (ts:List Tk):List Tk:=match q with | true=>ts.tail | false=>ts
theorem aG {α} (l:List α) (i:Nat):(l.drop i).tail=l.drop (i+1):=by
 rw [List.tail_drop]
theorem eT {T:List Tk} {i:Nat} (h:1≤(T.drop i).length):i+1≤T.length:=by
 rw [nI] at h;omega
theorem jT (w:World) (B cs n i d:Nat) (tv:Value) (T:List Tk) (l:Bs) (q:Bool) (h:RS w B cs tv n T i d) (hq:aj l (T.drop i)=q) :
 Calls Tryz.prog 137 #[.pointer (some ⟨cs,0,none⟩),.string ⟨l.toArray⟩] w (jI w q):=by
 unfold aj at hq;have Y7:=qu;have hf1:=vK;have bf:=λ w h=>jf w B cs n i d tv T h;obtain⟨tk,gB⟩:∃tk,tk=ch (T.drop i):=⟨_,rfl⟩;rw [←gB] at hq bf;have kP:=Hd bf;have HH:=Lib.hid h;clear bf h gB;by_cases k:tk.kind=2
 ·have t0:((tk.kind:Int)==2)=true:=by rw [nH];omega
  have dy:(tk.text==l)=q:=by rw [←hq,k];simp
  clear hq k;go_enter Tryz.func137,Tryz.ntmps137;go_wp2_with fail;refine (kP.o _ HH.o).mono ?_;rintro e w1 ⟨a,c,rfl,hp,hk⟩;have HK:=Hd hk;clear hp hk;go_wp2_with fail;refine (kP.o _ (HH.o.keep0 HK.o)).mono ?_;rintro e w2 ⟨a,c,rfl,hp,hk⟩;have cA:=Hd (HK.o.trans hk k3);clear hp hk;exact KE
 ·have t0:((tk.kind:Int)==2)=false:=by rw [nA];omega
  have dy:q=false:=by rw [←hq,nA.2 k];rfl
  subst dy;clear hq k;go_enter Tryz.func137,Tryz.ntmps137;go_wp2_with fail;refine (kP.o _ HH.o).mono ?_;rintro e w1 ⟨a,c,rfl,hp,hk⟩;have HK:=Hd hk;clear hp hk;exact Fu
theorem RS.next {w:World} {B cs:Nat} {tv:Value} {n:Nat} {T:List Tk} {i d:Nat} (h:RS w B cs tv n T i d) (hj:1≤(T.drop i).length) :
 RS (w.setCell ⟨cs,1,none⟩ (.int .i64 ((i:Int)+1))) B cs tv n T (i+1) d∧ae (λ b=>b=cs) w (w.setCell ⟨cs,1,none⟩ (.int .i64 ((i:Int)+1))):=by
 have:=h.set1 (eT hj);simpa using this
theorem cP (w:World) (B cs n i d:Nat) (tv:Value) (T:List Tk) (l:Bs) (q:Bool) (h:RS w B cs tv n T i d) (hq:aj l (T.drop i)=q) :
 Calls Tryz.prog 118 #[.pointer (some ⟨cs,0,none⟩),.string ⟨l.toArray⟩] w (gX w B cs tv n T i d (.bool q) (G0 q (T.drop i))):=by
 have his:=jT w B cs n i d tv T l q h hq;have jJ:=Hd his;have HH:=Lib.hid h;clear his h;cases q with
 | false=>
  clear hq;go_enter Tryz.func118,Tryz.ntmps118;go_wp2_with fail;refine jJ.o.mono ?_;rintro e w1 ⟨rfl,hk⟩;have HK:=Hd hk;clear hk;go_wp2_with fail;go_ret;exact⟨rfl,i,nC _,rfl,HH.o.keep0 HK.o,HK.o.mono (λ_ _ h=>h.elim)⟩
 | true=>
  have HP:=Hd (dA hq);clear hq;go_enter Tryz.func118,Tryz.ntmps118;go_wp2_with fail;refine jJ.o.mono ?_;rintro e w1 ⟨rfl,hk⟩;have Yt:=Hd (HH.o.keep0 hk);have HK:=Hd hk;clear hk;obtain⟨c0,c1,c2,f1,f2⟩:=Yt.o.cells;have hI:=Yt.o.i;have hT:=Yt.o.sm.1;have p0:(i:Int)≤20000:=oM
  have p1:(0:Int)≤(i:Int):=oM
  go_wp2_with fail;go_ret;obtain⟨h2,k2⟩:=Yt.o.next HP.o;exact⟨rfl,i+1,Nat.le_succ _,(aG T i).symm,h2,(HK.o.mono (λ_ _ h=>h.elim)).trans k2 k3⟩
theorem fV (w:World) (D:Nat→Prop) (n:Nat) (tk:Tk) (a:OA) (c:Nat) (h:az w D n tk.word (.slice a tk.word.length c)) :
 Calls Tryz.prog 140 #[.agg #[.int .i64 (tk.kind:Nat),.string ⟨tk.text.toArray⟩,.slice a tk.word.length c]] w λ e w'=>e=.returned (.string ⟨(aJ tk).toArray⟩)∧K0 w w':=by
 obtain⟨r,hr⟩:∃r,r=aJ tk:=⟨_,rfl⟩;rw [←hr];unfold aJ at hr;by_cases k:tk.kind=1
 ·have t0:((tk.kind:Int)==1)=true:=by rw [nH];omega
  rw [k,nE rF] at hr;clear k;cases hw:tk.word with
  | nil=>
   rw [hw] at hr;dsimp only at hr;subst hr;clear h hw;exact NZ
  | cons p l=>
   rw [hw] at hr h;cases l with
   | nil=>
    dsimp only at hr;obtain⟨g,o,xa,xl,xc,rfl,⟨q0,q1,q2,q3,q4,q5⟩,hx,_,hg⟩:=h.at (ae.refl _ _) (i:=0) (Nat.succ_pos _);have q0':w.cell? ⟨g,o,none⟩=some (.int .i64 (p.kind:Nat)):=q0;have Yk:w.cell? ⟨g,o+1,none⟩=some (.string ⟨p.text.toArray⟩):=q1;have yT:=bW;clear q0 q1 q2 q3 q4 q5 hx hw h;by_cases k2:p.kind=1
    ·have t1:((p.kind:Int)==1)=true:=by rw [nH];omega
     rw [k2,nE rF] at hr;exact Q2
    ·have t1:((p.kind:Int)==1)=false:=by rw [nA];omega
     rw [nF (by simpa using k2)] at hr;exact Q2
   | cons p2 l2=>
    dsimp only at hr;subst hr;obtain⟨L,hL⟩:∃L,L=(p::p2::l2).length:=⟨_,rfl⟩;have t1:((L:Int)==1)=false:=by rw [nA,hL];simp only [lC];omega
    rw [←hL];clear h hL hw;exact NZ
 ·have t0:((tk.kind:Int)==1)=false:=by rw [nA];omega
  rw [nF (by simpa using k)] at hr;subst hr;clear h k;exact NZ
theorem cn (w:World) (B cs n i d:Nat) (tv:Value) (T:List Tk) (l:Bs) (q:Bool) (h:RS w B cs tv n T i d) (hl:l≠[]) (hq:aF l (T.drop i)=q) :
 Calls Tryz.prog 153 #[.pointer (some ⟨cs,0,none⟩),.string ⟨l.toArray⟩] w (gX w B cs tv n T i d (.bool q) (G0 q (T.drop i))):=by
 have bf:=jf w B cs n i d tv T h;have Tx:=hq;unfold aF at hq;obtain⟨tk,gB⟩:∃tk,tk=ch (T.drop i):=⟨_,rfl⟩;rw [←gB] at hq bf;obtain⟨pt,iH⟩:∃pt,pt=aJ tk:=⟨_,rfl⟩;rw [←iH] at hq;have kP:=Hd bf;have HH:=Lib.hid h;have zU:=Hd iH;clear bf h gB iH;cases q with
 | false=>
  clear hl Tx;go_enter Tryz.func153,Tryz.ntmps153;go_wp2_with fail;refine kP.o.mono ?_;rintro e w1 ⟨a,c,rfl,hp,hk⟩;have HK:=Hd hk;have Z1:=Hd hp;clear hk hp;go_wp2_with fail;refine (fV _ _ _ _ _ _ Z1.o).mono ?_;rintro e w2 ⟨rfl,hk⟩;rw [←zU.o];have cA:=Hd (HK.o.trans hk k3);clear hk;go_wp2_with fail;go_ret;exact⟨rfl,i,nC _,rfl,HH.o.keep0 cA.o,cA.o.mono (λ_ _ h=>h.elim)⟩
 | true=>
  have HP:=Hd (cY hl Tx);clear hl Tx;go_enter Tryz.func153,Tryz.ntmps153;go_wp2_with fail;refine kP.o.mono ?_;rintro e w1 ⟨a,c,rfl,hp,hk⟩;have HK:=Hd hk;have Z1:=Hd hp;clear hk hp;go_wp2_with fail;refine (fV _ _ _ _ _ _ Z1.o).mono ?_;rintro e w2 ⟨rfl,hk⟩;rw [←zU.o];have cA:=Hd (HK.o.trans hk k3);have Yu:=Hd (HH.o.keep0 cA.o);clear hk;obtain⟨c0,c1,c2,f1,f2⟩:=Yu.o.cells
  have hI:=Yu.o.i;have hT:=Yu.o.sm.1;have p0:(i:Int)≤20000:=oM
  have p1:(0:Int)≤(i:Int):=oM
  go_wp2_with fail;go_ret;obtain⟨h2,k2⟩:=Yu.o.next HP.o;exact⟨rfl,i+1,Nat.le_succ _,(aG T i).symm,h2,(cA.o.mono (λ_ _ h=>h.elim)).trans k2 k3⟩
theorem wD (t:Tk) (r:List Tk):ai (t::r)=if t.kind==2 && t.text==[10] then ai r else t::r:=by
 rw [ai]
theorem Hv {ts:List Tk} (h:aj [10] ts=true):ai ts=ai ts.tail:=by
 cases ts with
 | nil=>rfl
 | cons t r=>rw [wD,nE (show (t.kind==2 && t.text==[10])=true from h)];rfl
theorem L5 {ts:List Tk} (h:aj [10] ts=false):ai ts=ts:=by
 cases ts with
 | nil=>rfl
 | cons t r=>rw [wD,nF (show ¬(t.kind==2 && t.text==[10])=true from λ e=>by have e2:aj [10] (t::r)=true:=e;rw [h] at e2;cases e2)]
theorem dH (w:World) (B cs n i d:Nat) (tv:Value) (T:List Tk) (h:RS w B cs tv n T i d) :
 Calls Tryz.prog 89 #[.pointer (some ⟨cs,0,none⟩)] w (gX w B cs tv n T i d (.tuple #[]) (ai (T.drop i))):=by
 go_enter Tryz.func89,Tryz.ntmps89;go_wp2_with fail;go_loopg [] (T.length - i) (λ k wr=>∃I:Nat,k=T.length - I∧i≤I∧RS wr B cs tv n T I d∧ae (λ b=>b=cs) w wr∧ai (T.drop I)=ai (T.drop i))
 case atStart=>exact⟨i,rfl,nC _,h,ae.refl _ _,rfl⟩
 case round=>
  obtain⟨I,eH,mI,du,pS,hl⟩:=hrel;have fK:=Hd eH;have tt:=Hd du;have rt:=Hd pS;have HL:=Hd hl;clear eH du pS hl h;cases hq:aj [10] (T.drop I) with
  | true=>
   have kZ:=cP wr B cs n I d tv T [10] true tt.o hq;have kt:=Hd kZ;have fa:=eT (dA hq);have Bt:=Hd ((Hv hq).symm.trans HL.o);clear kZ hq;go_wp2_with fail;refine kt.o.mono ?_;rintro e w1 ⟨rfl,j,hj,hr,du,hk⟩;rw [show G0 true (T.drop I)=(T.drop I).tail from rfl,aG] at hr;have uy:I+1≤j:=by
    have:=congrArg List.length hr;rw [nI,nI] at this;omega
   have HR:=Hd hr;have HS:=Hd du;have HK:=Hd (rt.o.trans hk k3);clear hr du hk;go_wp2_with fail;go_roundg (T.length - j)
   case measure=>have:=fK.o;omega
   case rel=>exact⟨j,rfl,oM,HS.o,HK.o,by rw [HR.o,←aG];exact Bt.o⟩
  | false=>
   have kZ:=cP wr B cs n I d tv T [10] false tt.o hq;have kt:=Hd kZ;have Bt:=Hd ((L5 hq).symm.trans HL.o);clear kZ hq;go_wp2_with fail;refine kt.o.mono ?_;rintro e w1 ⟨rfl,j,hj,hr,du,hk⟩;have HR:=Hd hr;have HS:=Hd du;have HK:=Hd (rt.o.trans hk k3);clear hr du hk;go_wp2_with fail;go_end0;exact⟨rfl,j,oM,HR.o.trans Bt.o,HS.o,HK.o⟩
theorem Au (L:List Bs) (l:Bs):Lib.containsS (L.map λ l=>(⟨l.toArray⟩:ByteArray)) ⟨l.toArray⟩=L.contains l:=by
 rw [Bool.eq_iff_iff,Lib.containsS_iff,List.contains_iff_mem,List.mem_map];constructor
 ·rintro⟨a,ha,e⟩;have:a=l:=by
   have h:=congrArg (λ b:ByteArray=>b.data.toList) e;simpa using h
  exact this ▸ ha
 ·intro h;exact⟨l,h,rfl⟩
theorem O8 (w:World) (L:List Bs) (t:TypeId):∀j,j<(L.map λ l=>(⟨l.toArray⟩:ByteArray)).length→(w.alloc (.cells (L.map λ l=>Value.string ⟨l.toArray⟩).toArray t)).cell? ⟨w.heap.size,0+j,none⟩=some (.string ((L.map λ l=>(⟨l.toArray⟩:ByteArray)).getD j ByteArray.empty)):=by
 intro j hj;have hb:(w.alloc (.cells (L.map λ l=>Value.string ⟨l.toArray⟩).toArray t)).heap[w.heap.size]? = some (.cells (L.map λ l=>Value.string ⟨l.toArray⟩).toArray t):=nG w _;rw [List.length_map] at hj;rw [cell_of_row _ _ (0+j) _ _ _ hb,Nat.zero_add];simp [List.getD_eq_getElem?_getD,hj]
theorem DW:Lib.fields [105,102,32,116,104,101,110,32,101,108,105,102,32,101,108,115,101,32,102,105,32,119,104,105,108,101,32,117,110,116,105,108,32,100,111,32,100,111,110,101,32,102,111,114,32,105,110,32,99,97,115,101,32,101,115,97,99,32,123,32,125,32,33]=bJ:=kR
theorem DX:Lib.fields [105,102,32,119,104,105,108,101,32,117,110,116,105,108,32,102,111,114,32,99,97,115,101,32,123]=fe:=kR
theorem Ax:Lib.fields [60,32,62,32,62,62,32,50,62,32,50,62,62]=wZ:=kR
theorem GG {s:ByteArray} (h:s.data.toList.all (λ b=>decide (b.toNat<128))=true) (j:Nat) (b:UInt8) (hb:s.data.toList[j]? = some b):b.toNat<128:=by
 have:=List.all_eq_true.1 h b (List.mem_of_getElem? hb);simpa using this
def De (w:World) (L:List Bs) (e:Ending) (w':World):Prop:=
 ∃n,n=L.length∧e=.returned (.slice (some ⟨w.heap.size,0,none⟩) n n)∧K0 w w'∧∀(l:Bs) (W:World) ,K0 w' W→Calls Tryz.prog 156 #[.slice (some ⟨w.heap.size,0,none⟩) n n,.string ⟨l.toArray⟩] W (jI W (L.contains l))
theorem qv (s:ByteArray) (L:List Bs) (w:World) (B:Nat) (hs:s.size<4294967281) (ha:s.data.toList.all (λ b=>decide (b.toNat<128))=true) (vQ:Ev w B) (hf:Lib.fields s.data.toList=L) (hL:L.length≤100) :
 Calls Tryz.prog 157 #[s] w (De w L):=by
 refine (Tryz.strings_Fields s w hs (λ j b hb=>GG ha j b hb) vQ.tab).mono ?_;rintro e w' ⟨rfl,TL⟩;rw [hf] at TL ⊢;refine⟨L.length,rfl,rfl,by rw [TL];exact (ae.refl _ _).alloc _,λ l W hk=>?_⟩;have hc:=Tryz.slices_Contains_string w.heap.size 0 L.length L.length (L.map λ l=>(⟨l.toArray⟩:ByteArray)) ⟨l.toArray⟩ W sI oM (λ j hj=>by
  rw [←O8 w L 9 j hj,←TL];exact uH (hk.block w.heap.size (by rw [TL];simp) (λ h=>h)))
 rw [show (L.map λ l=>(⟨l.toArray⟩:ByteArray)).take L.length=L.map λ l=>(⟨l.toArray⟩:ByteArray) from List.take_of_length_le sI,Au] at hc;refine hc.mono ?_;rintro e w2 ⟨rfl,aQ⟩;exact⟨rfl,by rw [aQ];exact ae.refl _ _⟩
theorem ni (l:Bs) (w:World) (B:Nat) (vQ:Ev w B) :
 Calls Tryz.prog 155 #[.string ⟨l.toArray⟩] w (jI w (bJ.contains l)):=by
 obtain⟨q,hq⟩:∃q,q=bJ.contains l:=⟨_,rfl⟩;rw [←hq];have HQ:=Hd hq;have zO:=Hd vQ;clear hq vQ;go_enter Tryz.func155,Tryz.ntmps155;go_wp2_with fail;refine (qv _ _ _ B dC dC zO.o DW dC).mono ?_;rintro e w1 ⟨n,hn,rfl,hk,hc⟩;have HK:=Hd hk;have HC:=Hd hc;clear hk hc hn;go_wp2_with fail;refine (HC.o l _ (ae.refl _ _)).mono ?_;rintro e w2 ⟨rfl,hk⟩
 rw [←HQ.o];have cA:=Hd (HK.o.trans hk k3);clear hk;exact KE
theorem BR (w:World) (B cs n i d:Nat) (tv:Value) (T:List Tk) (q:Bool) (h:RS w B cs tv n T i d) (hq:(dm (T.drop i)).1=q) :
 Calls Tryz.prog 120 #[.pointer (some ⟨cs,0,none⟩)] w (gX w B cs tv n T i d (.bool q) (dm (T.drop i)).2):=by
 obtain⟨r,hr⟩:∃r,r=(dm (T.drop i)).2:=⟨_,rfl⟩;rw [←hr];unfold dm at hq hr;cases q1:aj [59] (T.drop i) with
 | true=>
  rw [q1,Bool.true_or,nE rfl] at hq hr;obtain rfl:true=q:=hq;have HO:=Hd (cP w B cs n i d tv T [59] true h q1);have HR:=Hd hr;clear hr q1 h;go_enter Tryz.func120,Tryz.ntmps120;go_wp2_with fail;refine HO.o.mono ?_;rintro e w1 ⟨rfl,j,hj,ht,du,hk⟩;have HS:=Hd du;have HK:=Hd hk;have HT:=Hd ht;clear du hk ht;go_wp2_with fail;refine (dH _ _ _ _ _ _ _ _ HS.o).mono ?_;rintro e w2 ⟨rfl,j2,hj2,ht,du,hk⟩
  have gS:=Hd du;have cA:=Hd (HK.o.trans hk k3);have Fe:=Hd ht;clear du hk ht;go_wp2_with fail;go_ret;exact⟨rfl,j2,oM,by rw [Fe.o,HT.o,HR.o];rfl,gS.o,cA.o⟩
 | false=>
 have HO:=Hd (cP w B cs n i d tv T [59] false h q1);cases q2:aj [10] (T.drop i) with
 | true=>
  rw [q1,q2,Bool.false_or,nE rfl] at hq hr;obtain rfl:true=q:=hq;have HR:=Hd hr;have je:=Hd q2;clear hr q1 q2 h;go_enter Tryz.func120,Tryz.ntmps120;go_wp2_with fail;refine HO.o.mono ?_;rintro e w1 ⟨rfl,j,hj,ht,du,hk⟩;have HS:=Hd du;have HK:=Hd hk;have HT:=Hd (show T.drop j=T.drop i from ht);clear du hk ht;go_wp2_with fail;refine (cP _ _ _ _ _ _ _ _ [10] true HS.o (by rw [HT.o];exact je.o)).mono ?_
  rintro e w1 ⟨rfl,j1,ku,ht,du,hk⟩;have dF:=Hd du;have dp:=Hd (HK.o.trans hk k3);have Bj:=Hd (show T.drop j1=(T.drop j).tail from ht);clear du hk ht;go_wp2_with fail;refine (dH _ _ _ _ _ _ _ _ dF.o).mono ?_;rintro e w2 ⟨rfl,j2,hj2,ht,du,hk⟩;have gS:=Hd du;have cA:=Hd (dp.o.trans hk k3);have Fe:=Hd ht;clear du hk ht;go_wp2_with fail;go_ret;exact⟨rfl,j2,oM,by rw [Fe.o,Bj.o,HT.o,HR.o],gS.o,cA.o⟩
 | false=>
  rw [q1,q2,Bool.false_or,nF sI] at hq hr;obtain rfl:false=q:=hq;have HR:=Hd hr;have je:=Hd q2;clear hr q1 q2 h;go_enter Tryz.func120,Tryz.ntmps120;go_wp2_with fail;refine HO.o.mono ?_;rintro e w1 ⟨rfl,j,hj,ht,du,hk⟩;have HS:=Hd du;have HK:=Hd hk;have HT:=Hd (show T.drop j=T.drop i from ht);clear du hk ht;go_wp2_with fail;refine (cP _ _ _ _ _ _ _ _ [10] false HS.o (by rw [HT.o];exact je.o)).mono ?_
  rintro e w1 ⟨rfl,j1,ku,ht,du,hk⟩;have dF:=Hd du;have dp:=Hd (HK.o.trans hk k3);have Bj:=Hd (show T.drop j1=T.drop j from ht);clear du hk ht;go_wp2_with fail;go_ret;exact⟨rfl,j1,oM,by rw [Bj.o,HT.o,HR.o],dF.o,dp.o⟩
theorem af.three' {w:World} {b:Nat} {a0 a1 a2:Value} (h:af w b [a0,a1,a2]):(w.cell? ⟨b,0,none⟩=some a0∧w.cell? ⟨b,1,none⟩=some a1∧w.cell? ⟨b,2,none⟩=some a2)∧b<w.heap.size:=⟨h.three.1,h.lt⟩
theorem mv (w:World) (a0 a1 a2:Value) (t:TypeId):af (w.alloc (.cells #[a0,a1,a2] t)) w.heap.size [a0,a1,a2]:=⟨t,nG w _⟩
theorem cT (w:World) (B cs n i d:Nat) (tv:Value) (T:List Tk) (q:Bool) (h:RS w B cs tv n T i d) (hq:bP (T.drop i)=q) :
 Calls Tryz.prog 158 #[.pointer (some ⟨cs,0,none⟩)] w (jI w q):=by
 unfold bP at hq;have bf:=jf w B cs n i d tv T h;obtain⟨tk,gB⟩:∃tk,tk=ch (T.drop i):=⟨_,rfl⟩;rw [←gB] at hq bf;have kP:=Hd bf;have HH:=Lib.hid h;clear bf h gB;by_cases k:tk.kind=2
 ·have t0:((tk.kind:Int)==2)=true:=by rw [nH];omega
  have dy:wZ.contains tk.text=q:=by rw [←hq,k];simp
  have HQ:=Hd dy;clear hq k dy;go_enter Tryz.func158,Tryz.ntmps158;go_wp2_with fail;refine kP.o.mono ?_;rintro e w1 ⟨a,c,rfl,hp,hk⟩;have XH:=hk.size;have vQ:=HH.o.ev.keep hk k3;obtain⟨W,hW⟩:∃W,W=w1.alloc (.cells #[.int .i64 (tk.kind:Nat),.string ⟨tk.text.toArray⟩,.slice a tk.word.length c] 109):=⟨_,rfl⟩;have eG:K0 w1 W:=by rw [hW];exact (ae.refl _ _).alloc _
  have hR:af W w1.heap.size [.int .i64 (tk.kind:Nat),.string ⟨tk.text.toArray⟩,.slice a tk.word.length c]:=by rw [hW];exact mv _ _ _ _ _
  obtain⟨⟨c0,c1,c2⟩,aW⟩:=hR.three';have zO:=Hd (vQ.keep eG k3);have HR:=Hd hR;have HK:=Hd (hk.trans eG k3);obtain⟨tl,lE⟩:∃tl,tl=tk.word.length:=⟨_,rfl⟩;rw [←lE] at hW c2 ⊢;have HW:=Hd hW;clear hp hk XH vQ eG hR lE hW;go_wp2_with fail;rw [←HW.o];go_region_with (first
   | (
    go_at_call 157;refine (qv _ wZ _ B dC dC ?_ Ax dC).mono ?_;exact zO.o.keep (S:=λ_=>False) (ae.refl _ _).drew k3;rintro e w2 ⟨n2,hn2,rfl,aS,tN⟩;have bp:K0 W w2:=(ae.refl _ _).drew.trans aS k3;obtain⟨⟨d0,d1,d2⟩,eC⟩:=(HR.o.keep bp (λ h=>h)).three';have HKK:=Hd bp;have Um:=Hd tN;clear bp aS tN hn2)
   | (
    go_at_call 156;refine (Um.o tk.text _ ?_).mono ?_;exact ae.refl _ _;rintro e w3 ⟨rfl,aV⟩;rw [HQ.o];have bZ:=Hd ((HK.o.trans HKK.o k3).trans aV k3);clear aV))
  all_goals
   go_wp2_with fail;go_ret;exact⟨rfl,bZ.o⟩
 ·have t0:((tk.kind:Int)==2)=false:=by rw [nA];omega
  have dy:q=false:=by rw [←hq,nA.2 k];rfl
  subst dy;clear hq k;go_enter Tryz.func158,Tryz.ntmps158;go_wp2_with fail;refine kP.o.mono ?_;rintro e w1 ⟨a,c,rfl,hp,hk⟩;have HK:=Hd hk;clear hp hk;go_wp2_with fail;go_quiet (fail);go_wp2_with fail;go_ret;exact⟨rfl,(HK.o.alloc _).drewN _⟩
theorem iB (w:World) (B cs n i d:Nat) (tv:Value) (T:List Tk) (q:Bool) (h:RS w B cs tv n T i d) (hq:bB (T.drop i)=q) :
 Calls Tryz.prog 139 #[.pointer (some ⟨cs,0,none⟩)] w (jI w q):=by
 have bf:=jf w B cs n i d tv T h;have kZ:=λ w q h hq=>jT w B cs n i d tv T [40] q h hq;have hre:=λ w q h hq=>cT w B cs n i d tv T q h hq;unfold bB at hq;obtain⟨q1,p9⟩:∃q,aj [40] (T.drop i)=q:=⟨_,rfl⟩;obtain⟨q2,dy⟩:∃q,bP (T.drop i)=q:=⟨_,rfl⟩;rw [p9,dy] at hq;have kt:=Hd (λ w h=>kZ w q1 h p9);have su:=Hd (λ w h=>hre w q2 h dy);obtain⟨tk,gB⟩:∃tk,tk=ch (T.drop i):=⟨_,rfl⟩
 rw [←gB] at hq bf;obtain⟨pt,iH⟩:∃pt,pt=aJ tk:=⟨_,rfl⟩;rw [←iH] at hq;have kP:=Hd bf;have HH:=Lib.hid h;have zU:=Hd iH;clear bf h gB kZ hre p9 dy iH;by_cases k:tk.kind=1
 ·have t0:((tk.kind:Int)==1)=true:=by rw [nH];omega
  rw [k,nE rF] at hq;clear k;cases q3:bJ.contains pt with
  | true=>
   rw [q3,nE rfl] at hq;have HQ:=Hd hq;have Sp:=Hd q3;clear hq q3;go_enter Tryz.func139,Tryz.ntmps139;go_wp2_with fail;refine kP.o.mono ?_;rintro e w1 ⟨a,c,rfl,hp,hk⟩;have HK:=Hd hk;have HP:=Hd hp;clear hp hk;go_wp2_with fail;refine (fV _ _ _ _ _ _ (HP.o.keep ((ae.refl (λ_=>False) w1).alloc _) (λ_ _ _ h=>h))).mono ?_;rintro e w2 ⟨rfl,hk⟩;rw [←zU.o];have cA:=Hd hk;have hR:=(mv w1 (.int .i64 (tk.kind:Nat)) (.string ⟨tk.text.toArray⟩) (.slice a tk.word.length c) 109).keep hk (λ h=>h)
   obtain⟨⟨c0,c1,c2⟩,aW⟩:=hR.three';have zO:=Hd (HH.o.ev.keep ((HK.o.alloc _).trans hk k3) k3);have bZ:=Hd ((HK.o.alloc _).trans hk k3);clear hk hR;go_wp2_with fail;refine (ni pt _ B zO.o).mono ?_;rintro e w3 ⟨rfl,hk⟩;rw [Sp.o];have eU:=Hd (bZ.o.trans hk k3);have ZG:=Hd (zO.o.keep hk k3);clear hk;go_wp2_with fail
   refine (qv _ fe _ B dC dC ZG.o DX dC).mono ?_;rintro e w4 ⟨n2,hn,rfl,hk,hc⟩;have fL:=Hd (eU.o.trans hk k3);have HC:=Hd hc;clear hk hc hn;go_wp2_with fail;refine (HC.o pt _ (ae.refl _ _)).mono ?_;rintro e w5 ⟨rfl,hk⟩;rw [HQ.o];have st:=Hd (fL.o.trans hk k3);clear hk;go_wp2_with fail;go_ret;exact⟨rfl,st.o⟩
  | false=>
   rw [q3,nF sI] at hq;obtain rfl:true=q:=hq;have Sp:=Hd q3;clear q3;go_enter Tryz.func139,Tryz.ntmps139;go_wp2_with fail;refine kP.o.mono ?_;rintro e w1 ⟨a,c,rfl,hp,hk⟩;have HK:=Hd hk;have HP:=Hd hp;clear hp hk;go_wp2_with fail;refine (fV _ _ _ _ _ _ (HP.o.keep ((ae.refl (λ_=>False) w1).alloc _) (λ_ _ _ h=>h))).mono ?_;rintro e w2 ⟨rfl,hk⟩;rw [←zU.o];have cA:=Hd hk
   have hR:=(mv w1 (.int .i64 (tk.kind:Nat)) (.string ⟨tk.text.toArray⟩) (.slice a tk.word.length c) 109).keep hk (λ h=>h);obtain⟨⟨c0,c1,c2⟩,aW⟩:=hR.three';have HR:=Hd hR;have zO:=Hd (HH.o.ev.keep ((HK.o.alloc _).trans hk k3) k3);have bZ:=Hd ((HK.o.alloc _).trans hk k3);clear hk hR;go_wp2_with fail;refine (ni pt _ B zO.o).mono ?_;rintro e w3 ⟨rfl,hk⟩
   rw [Sp.o];have eU:=Hd (bZ.o.trans hk k3);obtain⟨⟨d0,d1,d2⟩,eC⟩:=(HR.o.keep hk (λ h=>h)).three';clear hk;go_wp2_with fail;go_ret;exact⟨rfl,eU.o⟩
 ·have t0:((tk.kind:Int)==1)=false:=by rw [nA];omega
  rw [nF (by simpa using k)] at hq;clear k;cases q1 with
  | true=>
   obtain rfl:true=q:=hq;go_enter Tryz.func139,Tryz.ntmps139;go_wp2_with fail;refine kP.o.mono ?_;rintro e w1 ⟨a,c,rfl,hp,hk⟩;have HK:=Hd hk;have HP:=Hd hp;clear hp hk;go_wp2_with fail;refine (fV _ _ _ _ _ _ (HP.o.keep ((ae.refl (λ_=>False) w1).alloc _) (λ_ _ _ h=>h))).mono ?_;rintro e w2 ⟨rfl,hk⟩;have hR:=(mv w1 (.int .i64 (tk.kind:Nat)) (.string ⟨tk.text.toArray⟩) (.slice a tk.word.length c) 109).keep hk (λ h=>h)
   obtain⟨⟨c0,c1,c2⟩,aW⟩:=hR.three';have bZ:=Hd ((HK.o.alloc _).trans hk k3);clear hk hR;go_wp2_with fail;refine (kt.o _ (HH.o.keep0 bZ.o)).mono ?_;rintro e w3 ⟨rfl,hk⟩;have eU:=Hd (bZ.o.trans hk k3);clear hk;go_wp2_with fail;go_ret;exact⟨rfl,eU.o⟩
  | false=>
   obtain rfl:q2=q:=by rw [←hq];simp
   go_enter Tryz.func139,Tryz.ntmps139;go_wp2_with fail;refine kP.o.mono ?_;rintro e w1 ⟨a,c,rfl,hp,hk⟩;have HK:=Hd hk;have HP:=Hd hp;clear hp hk;go_wp2_with fail;refine (fV _ _ _ _ _ _ (HP.o.keep ((ae.refl (λ_=>False) w1).alloc _) (λ_ _ _ h=>h))).mono ?_;rintro e w2 ⟨rfl,hk⟩;have hR:=(mv w1 (.int .i64 (tk.kind:Nat)) (.string ⟨tk.text.toArray⟩) (.slice a tk.word.length c) 109).keep hk (λ h=>h)
   obtain⟨⟨c0,c1,c2⟩,aW⟩:=hR.three';have bZ:=Hd ((HK.o.alloc _).trans hk k3);clear hk hR;go_wp2_with fail;refine (kt.o _ (HH.o.keep0 bZ.o)).mono ?_;rintro e w3 ⟨rfl,hk⟩;have eU:=Hd (bZ.o.trans hk k3);clear hk;go_wp2_with fail;refine (su.o _ (HH.o.keep0 eU.o)).mono ?_;rintro e w4 ⟨rfl,hk⟩;have fL:=Hd (eU.o.trans hk k3);clear hk;go_wp2_with fail
   go_ret;exact⟨rfl,fL.o⟩
theorem rV (w:World) (B cs n i d:Nat) (tv:Value) (T:List Tk) (q:Bool) (h:RS w B cs tv n T i d) (hq:fj (T.drop i)=q) :
 Calls Tryz.prog 121 #[.pointer (some ⟨cs,0,none⟩)] w (jI w q):=by
 unfold fj at hq;obtain⟨q1,p9⟩:∃q,bB (T.drop i)=q:=⟨_,rfl⟩;rw [p9] at hq;have Lu:=iB w B cs n i d tv T q1 h p9;have HB:=Hd Lu;have bf:=λ w h=>jf w B cs n i d tv T h;unfold aF at hq;obtain⟨tk,gB⟩:∃tk,tk=ch (T.drop i):=⟨_,rfl⟩;rw [←gB] at hq bf;obtain⟨pt,iH⟩:∃pt,pt=aJ tk:=⟨_,rfl⟩;rw [←iH] at hq;have kP:=Hd bf;have HH:=Lib.hid h;have zU:=Hd iH;clear bf h gB Lu p9 iH
 cases q1 with
 | true=>
  obtain rfl:true=q:=hq;go_enter Tryz.func121,Tryz.ntmps121;go_wp2_with fail;refine HB.o.mono ?_;rintro e w1 ⟨rfl,hk⟩;have HK:=Hd hk;clear hk;exact Fu
 | false=>
  rw [Bool.false_or] at hq;go_enter Tryz.func121,Tryz.ntmps121;go_wp2_with fail;refine HB.o.mono ?_;rintro e w1 ⟨rfl,hk⟩;have HK:=Hd hk;clear hk;go_wp2_with fail;refine (kP.o _ (HH.o.keep0 HK.o)).mono ?_;rintro e w2 ⟨a,c,rfl,hp,hk⟩;have cA:=Hd (HK.o.trans hk k3);have HP:=Hd hp;clear hp hk;go_wp2_with fail;refine (fV _ _ _ _ _ _ HP.o).mono ?_;rintro e w3 ⟨rfl,hk⟩;rw [←zU.o]
  have bZ:=Hd (cA.o.trans hk k3);clear hk;go_wp2_with fail;go_ret;exact⟨rfl,bZ.o⟩
theorem zf (w:World) (B cs n i d:Nat) (tv:Value) (T:List Tk) (q:Bool) (h:RS w B cs tv n T i d) (hq:fF (T.drop i)=q) :
 Calls Tryz.prog 195 #[.pointer (some ⟨cs,0,none⟩)] w (jI w q):=by
 unfold fF aj at hq;rw [aG] at hq;obtain⟨c0,c1,_,_,_⟩:=h.cells;obtain⟨ta,tc,rfl,ko,il⟩:=h.shape;have aW:=h.lt;have Jd:=dY;have ek:=h.sm.1;have fo:=h.i;have ew:IntKind.i64.wrap ((i:Int)+1)=(i:Int)+1:=nL _ oM;rcases nP (i+1) T.length with hi | hi
 ·obtain⟨g,o,xa,xl,xc,rfl,⟨q0,q1,q2⟩,hx,hg⟩:=h.toks.at (ae.refl _ _) hi;rw [fY hi] at hq;generalize T[i+1]=x at *;have p1:(i:Int)+1<(T.length:Int):=oM
  have p2:(0:Int)≤(i:Int)+1:=oM
  have p3:((i:Int)+1).toNat=i+1:=oM
  unfold dj at q1;obtain⟨L,hL⟩:∃L,L=T.length:=⟨_,rfl⟩;obtain⟨kd,kn⟩:∃kd,kd=x.kind:=⟨_,rfl⟩;rw [←kn] at q0 hq;rw [←hL] at c0 p1 ko ek fo;clear hL kn hi h hx;by_cases k:kd=2
  ·have t0:((kd:Int)==2)=true:=by rw [nH];omega
   have dy:(x.text==[40])=q:=by rw [←hq,k];simp
   clear hq k;exact S8
  ·have t0:((kd:Int)==2)=false:=by rw [nA];omega
   have dy:q=false:=by rw [←hq,nA.2 k];rfl
   subst dy;clear hq k;exact S8
 ·rw [iM hi] at hq;obtain rfl:false=q:=hq;have p1:decide ((i:Int)+1<(T.length:Int))=false:=nV oM;clear h;exact S8
theorem kO (l:Bs) (w:World) (q:Bool) (hl:l.length≤140737488351232) (hq:bK l=q) :
 Calls Tryz.prog 194 #[.string ⟨l.toArray⟩] w (jI w q):=by
 unfold bK at hq;have qE:=λ w=>nl ⟨l.toArray⟩ w (by rw [nT];exact hl);obtain⟨R,hR⟩:∃R,R=cU l:=⟨_,rfl⟩;rw [←hR] at hq;have mK:=Hd qE;have HR:=Hd hR;clear qE hR;cases l with
 | nil=>
  exact Qf
 | cons x t=>
  have t1:(x::t).isEmpty=false:=rfl;obtain⟨l,hl2⟩:∃l,l=x::t:=⟨_,rfl⟩;rw [←hl2] at hq t1 mK HR hl;rw [←hl2];have t2:(l==[])=false:=by rw [hl2];rfl
  have t3:(l != [])=true:=by rw [hl2];rfl
  rw [t1] at hq;clear hl2;by_cases h1:l.length≤60
  ·have p1:(l.length:Int)≤60:=oM
   rw [nU h1] at hq;by_cases h2:R=l.length
   ·have p2:((R:Int)==(l.length:Int))=true:=by rw [nH];omega
    obtain rfl:true=q:=by rw [←hq,nH.2 h2];rfl
    exact WL
   ·have p2:((R:Int)==(l.length:Int))=false:=by rw [nA];omega
    obtain rfl:false=q:=by rw [←hq,nA.2 h2];rfl
    exact WL
  ·have p1:¬(l.length:Int)≤60:=oM
   rw [nV h1] at hq;exact Qf
theorem tB:∀{l:List Pt} {vs:List Value} {k:Nat} (hl:vs.length=l.length) (hk:k<l.length) (u:Value),(bg l vs).set (k*6+4) u=bg l (vs.set k u)
 | p::l,v::vs,0,hl,hk,u=>by
  simp [bg,cH]
 | p::l,v::vs,k+1,hl,hk,u=>by
  have h:=tB (l:=l) (vs:=vs) (k:=k) (by simpa using hl) (by simpa using hk) u;rw [List.set_cons_succ];simp only [bg];rw [List.set_append_right _ _ (by rw [jh];omega),jh,show (k+1)*6+4 - 6=k*6+4 by omega,h]
theorem yQ {l:List Pt} {vs:List Value} (hl:vs.length=l.length) (hs:∀i (h:i<l.length) (h':i<vs.length),∃a n c,vs[i]=.slice a n c):∀u∈bg l vs,u.oneCell'=true:=by
 intro u hu;obtain⟨j,hj⟩:=List.mem_iff_getElem?.1 hu;obtain⟨i,r,hi,rfl,hu⟩:=kV hl hj;obtain⟨a2,n2,c2,e2⟩:=hs i hi oM;exact PN
def JE (w:World) (n:Nat) (D:Nat→Prop) (l:List Pt) (e:Ending) (w':World):Prop:=
 ∃(g aC:Nat) (vs:List Value),e=.returned (.slice (some ⟨g,0,none⟩) l.length aC)∧vs.length=l.length∧w'.ownsRow w.heap.size 67 6 (.slice (some ⟨g,0,none⟩) l.length aC) l.length (bg l vs)∧
  (∀i (h:i<l.length) (h':i<vs.length),az w D n l[i].word vs[i])∧K0 w w'
theorem GT (D:Nat→Prop) (n:Nat) (l:List Pt) (v:Value) (w:World) (h:az w D (n+1) l v) (bS:l.length≤1000000) (XI:0<l.length) :
 Calls Tryz.prog 209 #[v] w (JE w n D l):=by
 obtain⟨a,c,rfl,D7,tN,H⟩:=h;obtain⟨g0,o0,_,ea,_⟩:=H 0 XI;subst ea;have Hw:∀i (hi:i<l.length),∃wv,ik w g0 (o0+i*6) l[i] wv∧az w D n l[i].word wv:=λ i hi=>by
  obtain⟨g,o,wv,e,_,_,hp,hq⟩:=H i hi;obtain⟨rfl,rfl⟩:g0=g∧o0=o:=by simpa using e
  exact⟨wv,hp,hq⟩
 obtain⟨vs,hl,yZ⟩:∃vs:List Value,vs.length=l.length∧∀i (hi:i<l.length) (ri:i<vs.length),ik w g0 (o0+i*6) l[i] vs[i]∧az w D n l[i].word vs[i]:=
  ⟨List.ofFn (λ i:Fin l.length=>Classical.choose (Hw i.1 i.2)),sI,λ i hi ri=>by
   have:=Classical.choose_spec (Hw i hi);simpa using this⟩
 refine (vG D n l vs ⟨g0,o0,none⟩ c w hl bS (λ j u hj=>?_) (yQ hl λ i hi ri=>by
  obtain⟨a2,c2,e2,_,_⟩:=(yZ i hi ri).2.shape;exact⟨_,_,_,e2⟩)).mono ?_
 ·obtain⟨i,r,hi,rfl,hu⟩:=kV hl hj;have:=(yZ i hi oM).1 r u hu;rw [show o0+i*6+r=o0+(i*6+r) by omega] at this;rw [Addr.add_lit];exact this
 ·rintro e w' ⟨v',rfl,aU,hk⟩;obtain⟨g,aC,rfl,_,_⟩:=aU.form XI;exact⟨g,aC,vs,rfl,hl,aU,λ i hi ri=>(yZ i hi ri).2,hk⟩
def yu (w:World) (l:List Pt) (e:Ending) (w':World):Prop:=
 ∃(a:OA) (c m:Nat),e=.returned (.slice a l.length c)∧az w' (λ b=>w.heap.size≤b) m l (.slice a l.length c)∧K0 w w'
structure jy (w wr:World) (D:Nat→Prop) (n:Nat) (l:List Pt) (g aC k m:Nat) (us:List Value):Prop where
 len:us.length=l.length
 own:wr.ownsRow w.heap.size 67 6 (.slice (some ⟨g,0,none⟩) l.length aC) l.length (bg l us)
 done:∀j (h:j<l.length) (h':j<us.length),j<k→az wr (λ b=>w.heap.size≤b∧b≠g) m l[j].word us[j]
 todo:∀j (h:j<l.length) (h':j<us.length),k≤j→az w D n l[j].word us[j]
 kp:K0 w wr
 low:w.heap.size≤g
theorem jy.alloc {w wr:World} {D:Nat→Prop} {n:Nat} {l:List Pt} {g aC k m:Nat} {us:List Value} (h:jy w wr D n l g aC k m us) (o:Obj):jy w (wr.alloc o) D n l g aC k m us:=
 ⟨h.len,h.own.alloc o,λ j hj sT hk=>(h.done j hj sT hk).keep ((ae.refl (λ_=>False) wr).alloc o) (λ_ _ _ h=>h),h.todo,h.kp.alloc o,h.low⟩
theorem jy.next {w w1 w2:World} {D:Nat→Prop} {n:Nat} {l:List Pt} {g aC k m m2:Nat} {us:List Value} {u:Value} (h:jy w w1 D n l g aC k m us) (hk:k<l.length) (h2:K0 w1 w2)
 (hu:az w2 (λ b=>w1.heap.size≤b) m2 l[k].word u):jy w (w2.setCell ⟨g,k*6+4,none⟩ u) D n l g aC (k+1) (max m m2) (us.set k u):=by
 have aW:=(h.own.lt g rfl).2;have aK:w2.ownsRow w.heap.size 67 6 (.slice (some ⟨g,0,none⟩) l.length aC) l.length (bg l us):=by
  obtain⟨h1,h3⟩:=h.own;refine⟨h1,?_⟩;rcases h3 with ⟨e,h0⟩ | ⟨g',DG,x8,e,hb,hg,rest⟩
  ·exact .inl ⟨e,h0⟩
  ·exact .inr ⟨g',DG,x8,e,hb,(h2.block g' (Array.getElem?_eq_some_iff.1 hg).1 (λ h=>h)).trans hg,rest⟩
 have aS:ae (λ b=>b=g) w2 (w2.setCell ⟨g,k*6+4,none⟩ u):=(ae.refl _ _).setCell _ _ λ_=>rfl;refine⟨by rw [List.length_set];exact h.len,?_,λ j hj sT hjk=>?_,λ j hj sT hjk=>?_,(h.kp.trans h2 k3).fresh aS (λ b e=>by have:=h.low;omega),h.low⟩
 ·rw [←tB h.len hk];exact (aK.stored _ _).1
 ·by_cases e:j=k
  ·subst e;rw [List.getElem_set_self];refine (az.le ((hu.mono (D':=λ b=>w.heap.size≤b∧b≠g) λ b _ hb=>⟨by have:=h.kp.size;omega,oM⟩).keep aS (λ b _ hb e=>hb.2 e)) oM)
  ·rw [List.getElem_set_ne oM];exact (((h.done j hj (by rw [List.length_set] at sT;exact sT) oM).keep h2 (λ_ _ _ h=>h)).keep aS (λ b _ hb e=>hb.2 e)).le oM
 ·rw [List.getElem_set_ne oM];exact h.todo j hj (by rw [List.length_set] at sT;exact sT) oM
theorem jy.cells {w wr:World} {D:Nat→Prop} {n:Nat} {l:List Pt} {g aC k m:Nat} {us:List Value} (h:jy w wr D n l g aC k m us) (hk:k<l.length) :
 ∃(xa:OA) (xl xc:Nat),YL wr g (0+k*6) l[k] (.slice xa xl xc)∧az w D n l[k].word (.slice xa xl xc)∧g<wr.heap.size∧wr.frozen? ⟨g,k*6+4,none⟩=false:=by
 have Ly:k<us.length:=by rw [h.len];exact hk
 have hp:=h.todo k hk Ly (nC _);obtain⟨xa,xc,e,_,_⟩:=hp.shape;rw [e] at hp;refine⟨xa,_,xc,EQ λ j u hu=>?_,hp,(h.own.lt g rfl).2,h.own.frozenAt _⟩;have hj:j<6:=(List.getElem?_eq_some_iff.1 hu).1;rw [h.own.cellAt _ oM,Nat.zero_add];exact jg h.len hk j u (by rw [e];exact hu)
theorem DS (N:Nat):∀(n:Nat),n<N→∀(D:Nat→Prop) (l:List Pt) (v:Value) (w:World),az w D n l v→Sm l→
 Calls Tryz.prog 205 #[v] w (yu w l):=by
 induction N with
 | zero=>intro n hn;omega
 | succ N ih=>
  intro n hn D l v w h gM;have yT:=bW;have bS:=gM.1;rcases Nat.eq_zero_or_pos l.length with h0 | h0
  ·obtain rfl:=nO h0;have mj:=GR D n [] v w h (nB _);have C0:=Hd mj;obtain⟨a,c,rfl,_,_⟩:=h.shape;clear mj h;show Calls _ _ #[.slice a 0 c] w _;go_enter Tryz.func205,Tryz.ntmps205;go_wp2_with fail;refine C0.o.mono ?_;rintro e w1 ⟨v',n',rfl,hp,hk⟩;obtain⟨a',c',rfl,h1,h2⟩:=hp.shape;have HK:=Hd hk;have HM:=Hd h2;clear hp hk;show _;go_wp2_with fail;go_loopw [10] (λ k' wr=>k'=.int .i64 0∧Hid (K0 w wr)) (λ k' _=>0)
   case atStart=>exact⟨rfl,HK⟩
   case round=>
    obtain⟨rfl,HK⟩:=hrel;go_wp2_with fail;go_ret;exact⟨a',c',0,rfl,⟨rfl,a',c',rfl,HM.o⟩,HK.o⟩
  ·obtain⟨n,rfl⟩:∃n',n=n'+1:=by
    cases n with
    | zero=>obtain⟨rfl,_⟩:=h;simp at h0
    | succ n=>exact⟨n,rfl⟩
   have mj:=GT D n l v w h oM h0;obtain⟨a,c,rfl,_,_⟩:=h.shape;have Bw:=Hd gM.2;obtain⟨L,hL⟩:∃L,L=l.length:=⟨_,rfl⟩;rw [←hL] at mj;have C0:=Hd mj;rw [←hL];have HL:=Hd hL;rw [←hL] at h0 bS;clear mj h gM hL;go_enter Tryz.func205,Tryz.ntmps205;go_wp2_with fail;refine C0.o.mono ?_;rintro e w1 ⟨g,aC,vs,rfl,nc,aU,eD,hk⟩;have kP:=Hd (show jy w w1 D n l g aC 0 0 vs from⟨nc,aU,λ j _ _ hj=>nQ hj (uC _),λ j hj sT _=>eD j hj sT,hk,(aU.lt g rfl).1⟩)
   rw [←HL.o];clear nc aU eD hk;go_wp2_with fail;go_loopw [10] (λ k' wr=>∃(k m:Nat) (us:List Value),k'=.int .i64 k∧k≤L∧Hid (jy w wr D n l g aC k m us)) (λ k' _=>L - (intOf k').toNat)
   case atStart=>exact⟨0,0,vs,rfl,nB _,kP⟩
   case round=>
    obtain⟨k,m,us,rfl,hk,HC⟩:=hrel;clear kP;by_cases aW:k<L
    ·have eC:k<l.length:=by rw [←HL.o];exact aW
     obtain⟨xa,xl,xc,⟨q0,q1,q2,q3,q4,q5⟩,hx,hg,hf⟩:=HC.o.cells eC;have Jm:=ns Bw.o (uD eC);obtain⟨x,i8⟩:∃x,x=l[k]:=⟨_,rfl⟩;rw [←i8] at q0 q1 q2 q3 q5 hx Jm;unfold dj at q1 q2 q3;rw [Nat.zero_add] at q0 q1 q2 q3 q4 q5;have p1:(k:Int)<(L:Int):=oM
     have hih:=λ W eG=>ih n oM D x.word (.slice xa xl xc) W (hx.keep (S:=λ_=>False) eG (λ_ _ _ h=>h)) Jm.2;have M6:=Hd hih;have sz:=Hd i8;clear hih hx Jm i8;obtain⟨wl,iZ⟩:∃wl,wl=x.word.length:=⟨_,rfl⟩;go_wp2_with fail;refine (M6.o _ ((HC.o.kp).alloc _)).mono ?_;rintro e w2 ⟨a2,c2,m2,rfl,uL,aS⟩;have hN:=(HC.o.alloc (.cells #[.int .i64 (x.kind:Nat),.string ⟨x.text.toArray⟩,.string ⟨x.name.toArray⟩,.string ⟨x.op.toArray⟩,.slice xa xl xc,x.quoted] 67)).next eC aS (by rw [←sz.o];exact uL)
     have tQ:g<w2.heap.size:=by have:=aS.size;simp at this;omega
     have Jf:w2.frozen? ⟨g,k*6+4,none⟩=false:=by
      rw [World.frozen?_of_block (aS.block g (by simp;omega) (λ h=>h)),World.frozen?_of_block (((ae.refl (λ_=>False) wr).alloc _).block g hg (λ h=>h))];exact hf
     have dy:w2.cell? ⟨g,k*6+4,none⟩=some (.slice xa xl xc):=by
      rw [uH (aS.block g (by simp;omega) (λ h=>h)),uH (((ae.refl (λ_=>False) wr).alloc _).block g hg (λ h=>h))];exact q4
     rw [←iZ] at hN ⊢;have HN:=Hd hN;clear hN uL aS iZ;go_wp2_with fail;go_roundw
     case rel=>exact⟨k+1,_,_,by go_num,oM,HN⟩
     case measure=>simp [intOf];omega
    ·obtain rfl:k=L:=oM
     have p1:¬(k:Int)<(k:Int):=oM
     go_wp2_with fail;go_ret;have hc:=HC.o;have aU:ey wr (λ b=>w.heap.size≤b) (.slice (some ⟨g,0,none⟩) l.length aC) l:=⟨us,m,hc.len,(wO hc.own).1,λ j hj sT=>(hc.done j hj sT (by rw [HL.o];exact hj)).mono λ b _ hb=>⟨hb.1,λ e=>hb.2 (nD e).symm⟩⟩;obtain⟨m',hm⟩:=aU.reads (λ x hx=>by obtain rfl:g=x:=nD hx;exact hc.low);exact⟨some ⟨g,0,none⟩,aC,m',by rw [HL.o];rfl,hm,hc.kp⟩
theorem DR (n:Nat) (D:Nat→Prop) (l:List Pt) (v:Value) (w:World) (h:az w D n l v) (hs:Sm l) :
 Calls Tryz.prog 205 #[v] w (yu w l):=DS (n+1) n (nM _) D l v w h hs
end Go.Proofs.YtiihpbccabeoeaaGreatDoor
