/- The walk: a part. -/
import Derived.Test.YtiihpbccabeoeaaGreatDoorVM
import Derived.Test.YtiihpbccabeoeaaGreatDoorVPkC
import Derived.StillTailTactics
import Derived.Deep.Upon
import Derived.Test.YtiihpbccabeoeaaGreatDoorProg
import Derived.WalkKit
import Derived.ProofKit
import Derived.SliceStrings
import Derived.Lib.Hide
import Derived.Lib.Strings
import Derived.SizedLaws
import Derived.Deep.QuietTactic
namespace Go.Proofs.YtiihpbccabeoeaaGreatDoor
open Go.RowKit
set_option linter.unusedVariables false
set_option maxRecDepth 100000
set_option maxHeartbeats 16000000
theorem Pt.ext {x y:Pt} (h0:x.kind=y.kind) (h1:x.text=y.text) (h2:x.name=y.name) (h3:x.op=y.op) (h4:x.word=y.word) (h5:x.quoted=y.quoted):x=y:=by
 cases x;cases y;simp only [Pt.kind,Pt.text,Pt.name,Pt.op,Pt.word,Pt.quoted] at h0 h1 h2 h3 h4 h5;subst h0 h1 h2 h3 h4 h5;rfl
theorem ik.keep {w w':World} {b o:Nat} {p:Pt} {v:Value} (hk:K0 w w') (hb:b<w.heap.size) (h:ik w b o p v):ik w' b o p v:=λ j u hu=>by
 rw [uH (hk.block b hb (λ x=>x))];exact h j u hu
theorem az.at {w wr:World} {D:Nat→Prop} {n:Nat} {l:List Pt} {ad:OA} {k c i:Nat} (h:az w D n l (.slice ad k c)) (hk:K0 w wr) (hi:i<l.length) :
 ∃(g o:Nat) (xa:OA) (xl xc:Nat),ad=some ⟨g,o,none⟩∧YL wr g (o+i*6) l[i] (.slice xa xl xc)∧az wr D (n - 1) l[i].word (.slice xa xl xc)∧0<n∧g<wr.heap.size:=by
 cases n with
 | zero=>obtain⟨rfl,_⟩:=h;simp at hi
 | succ n=>
  obtain⟨a,c,e,_,_,H⟩:=h;obtain⟨b,gQ,wv,ea,hb,hd,hc,hw⟩:=H i hi;obtain⟨xa,xc,rfl,_,_⟩:=hw.shape;injection e with e1 e2 e3;exact⟨b,gQ,xa,_,xc,e1.trans ea,EQ (hc.keep hk hb),hw.keep hk (λ_ _ _ s=>s),Nat.succ_pos _,uG hb hk.size⟩
def Pz (w:World) (b o:Nat) (p:Tk) (v:Value):Prop:=
 w.cell? ⟨b,o,none⟩=some (.int .i64 (p.kind:Nat))∧w.cell? ⟨b,o+1,none⟩=some (dj p.text)∧w.cell? ⟨b,o+2,none⟩=some v
theorem ML {w:World} {b o:Nat} {p:Tk} {v:Value} (h:Fi w b o p v):Pz w b o p v:=
 ⟨h 0 _ rfl,h 1 _ rfl,h 2 _ rfl⟩
theorem fO.shape {w:World} {D:Nat→Prop} {n:Nat} {l:List Tk} {v:Value} (h:fO w D n l v):∃a c,v=.slice a l.length c∧l.length≤c∧c≤maxLen:=by
 obtain⟨a,c,e,h1,h2,_⟩:=h;exact⟨a,c,e,h1,h2⟩
theorem fO.at {w wr:World} {D:Nat→Prop} {n:Nat} {l:List Tk} {ad:OA} {k c i:Nat} (h:fO w D n l (.slice ad k c)) (hk:K0 w wr) (hi:i<l.length) :
 ∃(g o:Nat) (xa:OA) (xl xc:Nat),ad=some ⟨g,o,none⟩∧Pz wr g (o+i*3) l[i] (.slice xa xl xc)∧az wr D n l[i].word (.slice xa xl xc)∧g<wr.heap.size:=by
 obtain⟨a,c,e,_,_,H⟩:=h;obtain⟨b,gQ,wv,ea,hb,hd,hc,hw⟩:=H i hi;obtain⟨xa,xc,rfl,_,_⟩:=hw.shape;injection e with e1 e2 e3;refine⟨b,gQ,xa,_,xc,e1.trans ea,ML λ j u hu=>?_,hw.keep hk (λ_ _ _ s=>s),uG hb hk.size⟩;rw [uH (hk.block b hb (λ x=>x))];exact hc j u hu
def Md.need (md:Md) (r:List UInt8):Nat:=match md with
 | .one _=>max 1 (2*r.length)
 | _=>2*r.length+1
theorem jR {c:UInt8} {r:List UInt8} (h:aP c r=true):∃t,r=c::t:=by
 cases r with
 | nil=>cases h
 | cons x t=>exact⟨t,by rw [nH.1 h]⟩
theorem Hu:∀(n m:Nat) (md:Md) (d:Nat) (r:List UInt8),md.need r≤n→md.need r≤m→bN n md d r=bN m md d r:=by
 intro n;induction n with
 | zero=>intro m md d r hn;cases md<;>simp [Md.need] at hn<;>omega
 | succ n ih=>
  intro m md d r hn hm;cases m with
  | zero=>cases md<;>simp [Md.need] at hm<;>omega
  | succ m=>
   cases md with
   | one q=>
    cases r with
    | nil=>cases q<;>rfl
    | cons c t=>
     simp only [Md.need,lC] at hn hm;have e1:∀d,bN n .dq d t=bN m .dq d t:=λ d=>ih m .dq d t (by simp only [Md.need];omega) (by simp only [Md.need];omega);have e2:∀q d,bN n (.dol q) d t=bN m (.dol q) d t:=λ q d=>ih m (.dol q) d t (by simp only [Md.need];omega) (by simp only [Md.need];omega);cases q with
     | false=>rw [lf,lf,e1,e2]
     | true=>rw [ld,ld,e2]
   | dq=>
    rw [lP,lP];cases r with
    | nil=>rfl
    | cons c t=>
     simp only [Md.need,lC] at hn hm;dsimp only;rw [ih m (.one true) d (c::t) (by simp only [Md.need,lC];omega) (by simp only [Md.need,lC];omega)];split
     ·rfl
     ·cases h:bN m (.one true) d (c::t) with
      | error e=>rfl
      | ok x=>
       obtain⟨l,r1⟩:=x;have hl:=cS _ _ _ _ _ _ h;simp only [Md.least,lC] at hl;dsimp only;rw [ih m .dq d r1 (by simp only [Md.need];omega) (by simp only [Md.need];omega)]
   | br q=>
    rw [lO,lO];cases r with
    | nil=>rfl
    | cons c t=>
     simp only [Md.need,lC] at hn hm;dsimp only;rw [ih m (.one q) d (c::t) (by simp only [Md.need,lC];omega) (by simp only [Md.need,lC];omega)];split
     ·rfl
     ·cases h:bN m (.one q) d (c::t) with
      | error e=>rfl
      | ok x=>
       obtain⟨l,r1⟩:=x;have hl:=cS _ _ _ _ _ _ h;simp only [Md.least,lC] at hl;dsimp only;rw [ih m (.br q) d r1 (by simp only [Md.need];omega) (by simp only [Md.need];omega)]
   | dol q=>
    rw [mu,mu];by_cases h:aP 123 r=true
    ·obtain⟨t,rfl⟩:=jR h;simp only [Md.need,lC] at hn hm;rw [nE h,nE h];exact ih m (.brace q) d t (by simp only [Md.need];omega) (by simp only [Md.need];omega)
    ·rw [nF h,nF h]
   | brace q=>
    rw [jn,jn];obtain⟨r1,pC⟩:∃r1,r1=if bu r then r.tail else r:=⟨_,rfl⟩;have uK:r1.length≤r.length:=by rw [pC];split<;>simp
    rw [←pC];by_cases h0:bQ true r1=0
    ·rw [nE h0,nE h0]
    ·rw [nF h0,nF h0];have hk:=iU true r1;have hl2:((r1.drop (bQ true r1)).drop (lF (r1.drop (bQ true r1))).length).length+1≤r.length:=by
      rw [nI,nI];omega
     rw [ih m (.br q) (d+1) _ (by simp only [Md.need] at hn ⊢;omega) (by simp only [Md.need] at hm ⊢;omega)]
def d7 (md:Md) (d:Nat) (r:List UInt8):mH:=bN (2*r.length+2) md d r
theorem kE {n:Nat} {md:Md} {d:Nat} {r:List UInt8} (h:md.need r≤n):bN n md d r=d7 md d r:=
 Hu _ _ _ _ _ h (by cases md<;>simp only [Md.need]<;>omega)
theorem Fa (wh:Bool):∀(n m:Nat) (r:List UInt8),r.length<n→r.length<m→i9 wh n r=i9 wh m r:=by
 intro n;induction n with
 | zero=>intro m r hn;omega
 | succ n ih=>
  intro m r hn hm;cases m with
  | zero=>omega
  | succ m=>
   rw [fI,fI];cases r with
   | nil=>rfl
   | cons c t=>
    dsimp only;split
    ·rfl
    ·cases h:bN (2*(c::t).length+2) (.one false) 0 (c::t) with
     | error e=>rfl
     | ok x=>
      exact PW
def kv (wh:Bool) (r:List UInt8):mH:=i9 wh (r.length+1) r
theorem IV (wh:Bool):kv wh []=.ok ([],[]):=rfl
theorem jx (wh:Bool) (c:UInt8) (t:List UInt8):kv wh (c::t)=if !wh && bY c then .ok ([],c::t) else match d7 (.one false) 0 (c::t) with
 | .error e=>.error e
 | .ok (l,r1)=>(kv wh r1).ahead l:=by
 unfold kv;rw [fI];dsimp only;split
 ·rfl
 ·show (match d7 (.one false) 0 (c::t) with | .error e=>_ | .ok (l,r1)=>_)=_;cases h:d7 (.one false) 0 (c::t) with
  | error e=>rfl
  | ok x=>
   obtain⟨l,r1⟩:=x;have hl:=cS _ _ _ _ _ _ h;simp only [Md.least,lC] at hl;dsimp only;rw [Fa wh (c::t).length (r1.length+1) r1 (by simp only [lC];omega) oM]
theorem IR:∀(n m:Nat) (r:List UInt8),r.length<n→r.length<m→nz n r=nz m r:=by
 intro n;induction n with
 | zero=>intro m r hn;omega
 | succ n ih=>
  intro m r hn hm;cases m with
  | zero=>omega
  | succ m=>
   rw [mC,mC];have hs:=sj false r;cases h:bU false r with
   | nil=>rfl
   | cons c t=>
    dsimp only;rw [h] at hs;simp only [lC] at hs;cases h2:ed (c::t) with
    | error e=>rfl
    | ok x=>
     obtain⟨y,r1⟩:=x;have hl:=jv (jt h) h2;dsimp only;rw [ih m r1 oM oM]
def fZ (r:List UInt8):Except Nat (List Tk):=nz (r.length+1) r
theorem io (r:List UInt8):fZ r=match bU false r with
 | []=>.ok []
 | c::t=>match ed (c::t) with
  | .error e=>.error e
  | .ok (x,r1)=>oL x (fZ r1):=by
 unfold fZ;rw [mC];have hs:=sj false r;cases h:bU false r with
 | nil=>rfl
 | cons c t=>
  dsimp only;rw [h] at hs;simp only [lC] at hs;cases h2:ed (c::t) with
  | error e=>rfl
  | ok x=>
   obtain⟨y,r1⟩:=x;have hl:=jv (jt h) h2;dsimp only;rw [IR r.length (r1.length+1) r1 oM oM]
theorem ph {r:List UInt8} (h:dg r=[]) (G2:aP 38 r=false):ed r=match kv false r with
 | .error e=>.error e
 | .ok (l,r1)=>.ok (⟨1,[],eh l⟩,r1):=by
 unfold ed kv;rw [nE (by rw [h];rfl),nF (by rw [G2];simp)];rfl
theorem pO {r:List UInt8} (h:dg r≠[]):ed r=.ok (⟨2,dg r,[]⟩,r.drop (dg r).length):=by
 unfold ed;rw [nF (by simpa using h)]
theorem tn (s:List UInt8) (h:jp s=0):ff s=fZ s:=by unfold ff fZ;rw [nE h]
def Eu (c:UInt8):Bool:=!(c==39 || c==34 || c==92 || c==96 || c==36)
theorem En {c:UInt8} (h:Eu c=true) (d:Nat) (t:List UInt8):d7 (.one false) d (c::t)=.ok ([dD [c]],t):=by
 unfold d7;rw [lf];simp only [Eu,Bool.not_eq_true',Bool.or_eq_false_iff] at h;obtain⟨⟨⟨⟨h1,h2⟩,h3⟩,h4⟩,h5⟩:=h;rw [h1,h2,h3,h4,h5];rfl
theorem yA (l m:List Pt) (R:mH):(R.ahead m).ahead l=R.ahead (l++m):=by
 cases R with
 | error e=>rfl
 | ok x=>obtain⟨a,b⟩:=x;show Except.ok _=Except.ok _;rw [aA]
theorem IW (wh:Bool):∀(s r:List UInt8),(∀c∈s,Eu c=true∧(wh=true∨bY c=false))→kv wh (s++r)=(kv wh r).ahead (s.map λ c=>dD [c])
 | [],r,_=>by
  show kv wh r=_;cases kv wh r with
  | error e=>rfl
  | ok x=>rfl
 | c::s,r,h=>by
  obtain⟨h1,h2⟩:=h c (List.mem_cons_self ..);rw [nZ,jx,nF (by rcases h2 with h2 | h2<;>rw [h2]<;>simp),En h1];dsimp only;rw [IW wh s r (λ x hx=>h x (List.mem_cons_of_mem _ hx)),yA];rfl
theorem Lh (s:List UInt8):∀(a:List UInt8) (out:List Pt) (b:Bool),(s.map λ c=>dD [c]).foldl cd (out++[dD a],b)=(out++[dD (a++s)],b || !s.isEmpty):=by
 induction s with
 | nil=>intro a out b;simp
 | cons c s ih=>
  intro a out b;rw [List.map_cons,List.foldl_cons];have e:cd (out++[dD a],b) (dD [c])=(out++[dD (a++[c])],true):=by
   unfold cd;rw [nF (by show ¬(dD [c]).isE=true;simp [dD,Pt.isE,Pt.kind])];rw [rx (by show (dD a).joins (dD [c])=true;rfl)];rfl
  rw [e,ih];simp
theorem Yl {c:UInt8} {s:List UInt8}:eh ((c::s).map λ c=>dD [c])=[dD (c::s)]:=by
 have h:cZ ((c::s).map λ c=>dD [c])=([dD (c::s)],true):=by
  unfold cZ;rw [List.map_cons,List.foldl_cons];show List.foldl cd ([dD [c]],true) _=_;have:=Lh s [c] [] true;simpa using this
 unfold eh;rw [h];rfl
theorem k9 (d:Nat) (c:UInt8) (t:List UInt8):d7 (.one false) d (c::t) =
 if c==39 then (match bX 39 t with
  | none=>.error 2
  | some k=>.ok ([cq (t.take k)],t.drop (k+1)))
 else if c==34 then (d7 .dq d t).ahead [cq []]
 else if c==92 then (match t with
  | []=>.ok ([cq [92]],[])
  | x::t'=>if x==10 then .ok ([],t') else .ok ([cq [x]],t'))
 else if c==96 then .error 2
 else if c==36 then d7 (.dol false) d t
 else .ok ([dD [c]],t):=by
 unfold d7;rw [lf,kE (md:=.dq) (r:=t) (by simp only [Md.need,lC];omega),kE (md:=.dol false) (r:=t) (by simp only [Md.need,lC];omega)];rfl
theorem Cf (d:Nat) (c:UInt8) (t:List UInt8):d7 (.one true) d (c::t) =
 if c==34 || c==96 then .error 2
 else if c==92 && aP 10 t then .ok ([],t.tail)
 else if c==92 && Aw (t.headD 0) then .ok ([cq [t.headD 0]],t.tail)
 else if c==36 then d7 (.dol true) d t
 else .ok ([cq [c]],t):=by
 unfold d7;rw [ld,kE (md:=.dol true) (r:=t) (by simp only [Md.need,lC];omega)];rfl
theorem uV (d:Nat) (r:List UInt8):d7 .dq d r=match r with
 | []=>.error 2
 | c::t=>if c==34 then .ok ([],t) else match d7 (.one true) d r with
  | .error e=>.error e
  | .ok (l,r1)=>(d7 .dq d r1).ahead l:=by
 cases r with
 | nil=>rfl
 | cons c t=>
  show bN (2*(c::t).length+1+1) .dq d (c::t)=_;rw [lP,kE (md:=.one true) (r:=c::t) (by simp only [Md.need,lC];omega)];dsimp only;cases h:d7 (.one true) d (c::t) with
  | error e=>rfl
  | ok x=>
   obtain⟨l,r1⟩:=x;have hl:=cS _ _ _ _ _ _ h;simp only [Md.least,lC] at hl;dsimp only;rw [kE (md:=.dq) (r:=r1) (by simp only [Md.need,lC];omega)]
theorem AR (d:Nat) (q:Bool) (r:List UInt8):d7 (.br q) d r=match r with
 | []=>.error 2
 | c::t=>if c==125 then .ok ([],t) else match d7 (.one q) d r with
  | .error e=>.error e
  | .ok (l,r1)=>(d7 (.br q) d r1).ahead l:=by
 cases r with
 | nil=>rfl
 | cons c t=>
  show bN (2*(c::t).length+1+1) (.br q) d (c::t)=_;rw [lO,kE (md:=.one q) (r:=c::t) (by simp only [Md.need,lC];omega)];dsimp only;cases h:d7 (.one q) d (c::t) with
  | error e=>rfl
  | ok x=>
   obtain⟨l,r1⟩:=x;have hl:=cS _ _ _ _ _ _ h;simp only [Md.least,lC] at hl;dsimp only;rw [kE (md:=.br q) (r:=r1) (by simp only [Md.need,lC];omega)]
theorem Ce (d:Nat) (q:Bool) (r:List UInt8):d7 (.dol q) d r =
 if aP 123 r then d7 (.brace q) d r.tail
 else if aI [40,40] r then (match ci 0 (r.drop 2) with
  | none=>.error 2
  | some k=>.ok ([.mk 4 ((r.drop 2).take k) [] [] [] q],(r.drop 2).drop (k+2)))
 else if aP 40 r then (match ce .n 0 r.tail with
  | none=>.error 2
  | some k=>.ok ([.mk 5 (r.tail.take k) [] [] [] q],r.tail.drop (k+1)))
 else if bQ false r=0 then .ok ([if q then cq [36] else dD [36]],r)
 else .ok ([.mk 3 [] (r.take (bQ false r)) [] [] q],r.drop (bQ false r)):=by
 show bN (2*r.length+1+1) (.dol q) d r=_;rw [mu];by_cases h:aP 123 r=true
 ·rw [nE h,nE h];obtain⟨t,rfl⟩:=jR h;exact kE (by simp only [Md.need,lC,List.tail_cons];omega)
 ·rw [nF h,nF h];rfl
theorem wu (d:Nat) (q:Bool) (r:List UInt8):d7 (.brace q) d r =
 if bQ true (if bu r then r.tail else r)=0 then .error 2
 else if aP 125 ((if bu r then r.tail else r).drop (bQ true (if bu r then r.tail else r))) then .ok ([.mk 3 [] ((if bu r then r.tail else r).take (bQ true (if bu r then r.tail else r))) (if bu r then [76] else []) [] q],((if bu r then r.tail else r).drop (bQ true (if bu r then r.tail else r))).tail)
 else if (lF ((if bu r then r.tail else r).drop (bQ true (if bu r then r.tail else r)))).isEmpty || bu r then .error 2
 else if d=40 then .error 3
 else match d7 (.br q) (d+1) (((if bu r then r.tail else r).drop (bQ true (if bu r then r.tail else r))).drop (lF ((if bu r then r.tail else r).drop (bQ true (if bu r then r.tail else r)))).length) with
  | .error e=>.error e
  | .ok (l,r3)=>.ok ([.mk 3 [] ((if bu r then r.tail else r).take (bQ true (if bu r then r.tail else r))) (lF ((if bu r then r.tail else r).drop (bQ true (if bu r then r.tail else r)))) (eh l) q],r3):=by
 show bN (2*r.length+1+1) (.brace q) d r=_;rw [jn];by_cases h0:bQ true (if bu r then r.tail else r)=0
 ·rw [nE h0,nE h0]
 ·rw [nF h0,nF h0];have uK:(if bu r then r.tail else r).length≤r.length:=by split<;>simp
  rw [kE (md:=.br q) (by
   simp only [Md.need];rw [nI,nI];have hk:=iU true (if bu r then r.tail else r);omega)]
  rfl
theorem Kg {P:UInt8→Bool} (h:∀n:Fin 256,P (UInt8.ofNat n.val)=true) (c:UInt8):P c=true:=by
 exact BH
theorem U2 {c:UInt8} (h1:(c==32 || c==9)=false) (h2:(c==35)=false) (h3:(c==92)=false) (t:List UInt8):bU false (c::t)=c::t:=by
 rw [dB,h1,h2,h3];simp
theorem DY {w:World} {D:Nat→Prop} {v:Value} {raw:List Pt} (aU:w.ownsRow 0 67 6 v raw.length (bg raw (raw.map λ_=>.slice none 0 0))) (hw:∀i (h:i<raw.length),raw[i].word=[]) (hD:∀g,v.ownBlock=some g→D g):∃n,az w D n raw v:=
 ey.reads (D:=D) ⟨raw.map λ_=>.slice none 0 0,0,sI,aU,λ i h h'=>by
  rw [hw i h];simp only [List.getElem_map];exact az.nil _ _ 0⟩ hD
theorem Uc {c:UInt8} (h:(c==32 || c==9)=true) (r:List UInt8):fZ (c::r)=fZ r:=by
 rw [io,io r,dB,nE h]
theorem vE:∀{m:List Tk} {us:List Value} {x:Value},x∈fg m us→∃p∈m,∃v∈us,x∈kj p v
 | [],us,x,h=>by cases us<;>cases h
 | p::l,[],x,h=>by cases h
 | p::l,v::vs,x,h=>by
  simp only [fg,List.mem_append] at h;rcases h with h | h
  ·exact⟨p,List.mem_cons_self ..,v,List.mem_cons_self ..,h⟩
  ·obtain⟨q,hq,u,hu,hx⟩:=vE h;exact⟨q,List.mem_cons_of_mem _ hq,u,List.mem_cons_of_mem _ hu,hx⟩
theorem dW.news {w:World} {E:Nat→Prop} {u:Value} {m:List Tk} (h:dW w E u m) (hm:0<m.length) :
 ∃ad c us k,u=.slice (some ad) m.length c∧us.length=m.length∧(fg m us).length=m.length*3∧(∀j x,(fg m us)[j]? = some x→w.cell? (ad.add j)=some x)∧(∀x∈fg m us,x.oneCell'=true)∧∀i (h:i<m.length) (h':i<us.length),az w E k m[i].word us[i]:=by
 obtain⟨vs,n,hl,ho,hn⟩:=h;obtain⟨g,aC,rfl,_,_⟩:=ho.form hm;refine⟨⟨g,0,none⟩,aC,vs,n,rfl,hl,ho.1,λ j x hx=>?_,λ x hx=>?_,λ i h h'=>(hn i h h').mono λ b _ hb=>hb.1⟩
 ·have hj:j<m.length*3:=by rw [←ho.1];exact (List.getElem?_eq_some_iff.1 hx).1
  have:=ho.cellAt j hj;rw [hx] at this;rw [←this];exact congrArg w.cell? (by unfold Addr.add;split<;>simp [*])
 ·obtain⟨p,hp,v,hv,hx⟩:=vE hx;obtain⟨i,hi,rfl⟩:=List.mem_iff_getElem.1 hv;obtain⟨a,c,e,_⟩:=(hn i oM hi).shape;rw [e] at hx;simp only [kj,List.mem_cons,List.not_mem_nil,or_false] at hx;rcases hx with rfl | rfl | rfl
  ·rfl
  ·rfl
  ·rfl
theorem Lm {w w':World} {v v':Value} {E:Nat→Prop} {raw more:List Tk} {vs us:List Value} {n m:Nat} (hl:vs.length=raw.length) (hl2:us.length=more.length)
 (eD:∀i (h:i<raw.length) (h':i<vs.length),az w (λ b=>v.ownBlock≠some b) n raw[i].word vs[i])
 (mr:∀i (h:i<more.length) (h':i<us.length),az w E m more[i].word us[i]) (hE:∀b,E b→v.ownBlock≠some b)
 (aU:w'.ownsRow 0 109 3 v' (raw.length+more.length) (fg raw vs++fg more us)) (hk:ae (λ b=>v.ownBlock=some b) w w')
 (hg:∀y,v'.ownBlock=some y→v.ownBlock=some y∨w.heap.size≤y) :
 dW w' (λ_=>True) v' (raw++more):=by
 have gC:∀(k:Nat) (l:List Pt) (u:Value),az w (λ b=>v.ownBlock≠some b) k l u→az w' (λ b=>True∧v'.ownBlock≠some b) k l u:=λ k l u h=>by
  have h2:az w (λ b=>v.ownBlock≠some b∧b<w.heap.size) k l u:=h.mono λ b hb hd=>⟨hd,hb⟩;refine (h2.keep hk (λ b _ hd s=>hd.1 s)).mono λ b _ hd=>⟨trivial,λ e=>?_⟩;rcases hg b e with h3 | h3
  ·exact hd.1 h3
  ·have:=hd.2;omega
 refine⟨vs++us,max n m,by simp [hl,hl2],?_,λ i h h'=>?_⟩
 ·rw [mb hl,lA];exact aU
 ·by_cases hi:i<raw.length
  ·exact P6
  ·rw [lA] at h;rw [uB oM,uB oM];simp only [hl];exact (gC _ _ _ ((mr (i - raw.length) oM oM).mono λ b _ hb=>hE b hb)).le oM
theorem dW.join {w:World} {D E:Nat→Prop} {v:Value} {l m:List Tk} {ua:OA} {un uc:Nat} (h:dW w D v l) (hu:dW w E (.slice ua un uc) m) (hm:0<m.length) (hE:∀b,E b→v.ownBlock≠some b) :
 un=m.length∧∃ad xs news,ua=some ad∧w.ownsRow 0 109 3 v l.length xs∧news.length=m.length*3∧(∀j x,news[j]? = some x→w.cell? (ad.add j)=some x)∧(∀x∈news,x.oneCell'=true)∧
  ∀g aC (w':World),w'.ownsRow 0 109 3 (.slice (some ⟨g,0,none⟩) (l.length+m.length) aC) (l.length+m.length) (xs++news)→w.grownBy w' v.ownBlock→(v.ownBlock=some g∨g=w.heap.size)→
   (∃n,fO w' (λ_=>True) n (l++m) (.slice (some ⟨g,0,none⟩) (l.length+m.length) aC))∧ae (λ b=>v.ownBlock=some b) w w':=by
 obtain⟨ad,c,us,k,e,h1,h2,h3,h4,h5⟩:=hu.news hm;injection e with e1 e2 e3;refine⟨e2,ad,?_⟩;obtain⟨vs,n,hl,ho,hn⟩:=h;refine⟨fg l vs,fg m us,e1,ho,h2,h3,h4,λ g aC w' aU hg bf=>?_⟩;have hk:ae (λ b=>v.ownBlock=some b) w w':=(ae.refl _ w).grown hg λ k hk _=>hk;refine⟨?_,hk⟩;have ho:=Lm (v:=v) (v':=.slice (some ⟨g,0,none⟩) (l.length+m.length) aC) hl h1 (λ i h h'=>(hn i h h').mono λ b _ hb=>hb.2) h5 hE aU hk (λ y hy=>by
  obtain rfl:g=y:=nD hy;rcases bf with e | e
  ·exact .inl e
  ·exact .inr oM)
 exact ho.reads (λ_ _=>trivial)
def zX (x:UInt8):Prop:=x=32∨x=10
def rq (r:List UInt8):Prop:=∀c∈r,(c==35)=false∧(c==92)=false
theorem rq.tail {c:UInt8} {t:List UInt8} (h:rq (c::t)):rq t:=λ x hx=>h x (List.mem_cons_of_mem _ hx)
theorem rq.drop {r:List UInt8} (h:rq r) (k:Nat):rq (r.drop k):=λ x hx=>h x (List.mem_of_mem_drop hx)
theorem rq.tl {r:List UInt8} (h:rq r):rq r.tail:=λ x hx=>h x (List.mem_of_mem_tail hx)
theorem xA (c:UInt8):∀(r e:List UInt8) (k:Nat),bX c r=some k→bX c (r++e)=some k∧k<r.length
 | [],_,_,h=>by cases h
 | x::t,e,k,h=>by
  unfold bX at h;rw [nZ];unfold bX;split at h
  ·next hx=>obtain rfl:=nD h;rw [nE hx];exact⟨rfl,Nat.succ_pos _⟩
  ·next hx=>
   cases h2:bX c t with
   | none=>rw [h2] at h;cases h
   | some j=>
    rw [h2] at h;obtain rfl:=nD h;obtain⟨i1,i2⟩:=xA c t e j h2;rw [nF hx,i1];exact KP
theorem yN:∀(r e:List UInt8) (o k:Nat),ci o r=some k→ci o (r++e)=some k∧k+2≤r.length
 | [],_,_,_,h=>by cases h
 | c::t,e,o,k,h=>by
  unfold ci at h;rw [nZ];unfold ci;by_cases h1:(c==40)=true
  ·rw [nE h1] at h ⊢;cases h2:ci (o+1) t with
   | none=>rw [h2] at h;cases h
   | some j=>
    exact S7
  rw [nF h1] at h ⊢;by_cases h3:(c==41)=true
  ·rw [nE h3] at h ⊢;by_cases h0:o=0
   ·rw [nE h0] at h ⊢;cases t with
    | nil=>cases h
    | cons x t'=>
     have hh:aP 41 (x::t'++e)=aP 41 (x::t'):=rfl;rw [hh];split at h
     ·next hx=>obtain rfl:=nD h;rw [nE hx];exact⟨rfl,by simp only [lC];omega⟩
     ·cases h
   ·rw [nF h0] at h ⊢;cases h2:ci (o - 1) t with
    | none=>rw [h2] at h;cases h
    | some j=>
     exact S7
  rw [nF h3] at h ⊢;cases h2:ci o t with
  | none=>rw [h2] at h;cases h
  | some j=>
   exact S7
theorem map_some {o:Option Nat} {k:Nat} (h:o.map (· + 1)=some k):∃j,o=some j∧k=j+1:=by
 cases o with
 | none=>cases h
 | some j=>exact⟨j,rfl,(nD h).symm⟩
theorem CO:∀(r e:List UInt8) (m:SM) (o k:Nat),ce m o r=some k→ce m o (r++e)=some k∧k<r.length
 | [],_,m,_,_,h=>by cases m<;>cases h
 | c::t,e,m,o,k,h=>by
  have gC:∀(m':SM) (o':Nat),(ce m' o' t).map (· + 1)=some k→(ce m' o' (t++e)).map (· + 1)=some k∧k<(c::t).length:=λ m' o' h'=>by
   obtain⟨j,hj,rfl⟩:=map_some h';obtain⟨i1,i2⟩:=CO t e m' o' j hj;rw [i1];exact KP
  rw [nZ];cases m with
  | n=>
   unfold ce at h ⊢;by_cases h1:(c==39)=true
   ·rw [nE h1] at h ⊢;exact gC _ _ h
   rw [nF h1] at h ⊢;by_cases h2:(c==34)=true
   ·rw [nE h2] at h ⊢;exact gC _ _ h
   rw [nF h2] at h ⊢;by_cases h3:(c==92)=true
   ·rw [nE h3] at h ⊢;exact gC _ _ h
   rw [nF h3] at h ⊢;by_cases h4:(c==40)=true
   ·rw [nE h4] at h ⊢;exact gC _ _ h
   rw [nF h4] at h ⊢;by_cases h5:(c==41)=true
   ·rw [nE h5] at h ⊢;by_cases h0:o=0
    ·rw [nE h0] at h ⊢;obtain rfl:=nD h;exact⟨rfl,Nat.succ_pos _⟩
    ·rw [nF h0] at h ⊢;exact gC _ _ h
   ·rw [nF h5] at h ⊢;exact gC _ _ h
  | q1=>unfold ce at h ⊢;exact gC _ _ h
  | q2=>unfold ce at h ⊢;exact gC _ _ h
  | bn=>unfold ce at h ⊢;exact gC _ _ h
  | bq=>unfold ce at h ⊢;exact gC _ _ h
theorem np {x:UInt8} (hx:zX x):bG x=false∧bR x=false∧cV x=false:=by
 rcases hx with rfl | rfl<;>decide
theorem uf {x:UInt8} (hx:zX x) (b:List UInt8):∀r,bE (r++x::b)=bE r
 | []=>by
  obtain⟨h1,h2,_⟩:=np hx;show (if bG x || bR x then _ else 0)=0;rw [h1,h2,nF sI]
 | c::t=>by
  show (if bG c || bR c then bE (t++x::b)+1 else 0)=(if bG c || bR c then bE t+1 else 0);rw [uf hx b t]
theorem vJ {x:UInt8} (hx:zX x) (b:List UInt8):∀r,fz (r++x::b)=fz r
 | []=>by
  obtain⟨h1,h2,_⟩:=np hx;show (if bR x then _ else 0)=0;rw [h2,nF sI]
 | c::t=>by
  show (if bR c then fz (t++x::b)+1 else 0)=(if bR c then fz t+1 else 0);rw [vJ hx b t]
theorem MC {x:UInt8} (hx:zX x) (b:List UInt8) (r:List UInt8):cU (r++x::b)=cU r:=by
 cases r with
 | nil=>
  obtain⟨h1,h2,_⟩:=np hx;show (if bG x then _ else 0)=0;rw [h1,nF sI]
 | cons c t=>
  show (if bG c then bE (t++x::b)+1 else 0)=(if bG c then bE t+1 else 0);rw [uf hx b t]
theorem zd {x:UInt8} (hx:zX x) (b:List UInt8) (q:Bool) (r:List UInt8):bQ q (r++x::b)=bQ q r:=by
 unfold bQ;rw [MC hx];cases r with
 | nil=>
  obtain⟨h1,h2,h3⟩:=np hx;show (if cU [] > 0 then _ else if bR x then _ else if cV x then 1 else 0)=_;rw [h2,h3];rfl
 | cons c t=>
  rw [nZ];dsimp only;rw [vJ hx]
theorem nw {x:UInt8} (b:List UInt8):∀(o:List UInt8),x ∉ o→∀r,aI o (r++x::b)=aI o r
 | [],_,r=>by rw [show ∀z,aI [] z=true from λ z=>rfl,show ∀z,aI [] z=true from λ z=>rfl]
 | a::p,h,[]=>by
  show (a==x && aI p b)=false;rw [show (a==x)=false from nA.2 (λ e=>h (e ▸ List.mem_cons_self ..)),Bool.false_and]
 | a::p,h,c::t=>by
  show (a==c && aI p (t++x::b))=(a==c && aI p t);rw [nw b p (λ hm=>h (List.mem_cons_of_mem _ hm)) t]
theorem CN {x:UInt8} (b:List UInt8) (o:List UInt8) (h:x ∉ o.tail) (c:UInt8) (t:List UInt8):aI o (c::t++x::b)=aI o (c::t):=by
 cases o with
 | nil=>rfl
 | cons a p=>
  show (a==c && aI p (t++x::b))=(a==c && aI p t);rw [nw b p h t]
theorem qw {α} {p q:α→Bool}:∀(l:List α),(∀a∈l,p a=q a)→l.find? p=l.find? q
 | [],_=>rfl
 | a::l,h=>by
  rw [List.find?_cons,List.find?_cons,h a (List.mem_cons_self ..),qw l λ y hy=>h y (List.mem_cons_of_mem _ hy)]
theorem FZ {x:UInt8} (hx:zX x) (b r:List UInt8):lF (r++x::b)=lF r:=by
 unfold lF eO;rw [qw (q:=λ o=>aI o r) it λ o ho=>nw b o (by
  have Og:∀o∈it,(32:UInt8) ∉ o∧(10:UInt8) ∉ o:=dC
  rcases hx with rfl | rfl
  ·exact (Og o ho).1
  ·exact (Og o ho).2) r]
theorem sZ {x:UInt8} (hx:zX x) (b:List UInt8) (c:UInt8) (t:List UInt8):dg (c::t++x::b)=dg (c::t):=by
 unfold dg eO;rw [qw (q:=λ o=>aI o (c::t)) f6 λ o ho=>CN b o (by
  have Og:∀o∈f6,(32:UInt8) ∉ o.tail∧(10:UInt8) ∉ o.tail:=dC
  rcases hx with rfl | rfl
  ·exact (Og o ho).1
  ·exact (Og o ho).2) c t]
theorem kX {y x:UInt8} (h:y≠x) (b r:List UInt8):aP y (r++x::b)=aP y r:=by
 cases r with
 | nil=>show (x==y)=false;exact nA.2 (Ne.symm h)
 | cons c t=>rfl
theorem xh {x y:UInt8} (hx:zX x) (h:y≠32∧y≠10):y≠x:=by
 rcases hx with rfl | rfl
 ·exact h.1
 ·exact h.2
theorem jO {r e:List UInt8} {k:Nat} (h:k≤r.length):(r++e).drop k=r.drop k++e:=List.drop_append_of_le_length h
theorem pg {r e:List UInt8} {k:Nat} (h:k≤r.length):(r++e).take k=r.take k:=List.take_append_of_le_length h
theorem MM {b:List UInt8}:fZ (10::b)=oL ⟨2,[10],[]⟩ (fZ b):=by
 rw [io,show bU false (10::b)=10::b by rw [dB];rfl];dsimp only;have h:dg (10::b)=[10]:=rF
 rw [pO (by rw [h];simp),h];rfl
theorem L7 {a b c:List UInt8} (ha:jp a=0) (hb:jp b=0) (hc:c.contains 0=false) (hl:a.length+c.length+b.length≤16384):jp (a++c++b)=0:=by
 have gC:∀s:List UInt8,jp s=0→s.contains 0=false:=λ s h=>by
  unfold jp at h;split at h
  ·cases h
  ·split at h
   ·cases h
   ·next h2=>simpa using h2
 unfold jp;rw [nF (by simp only [lA];omega),nF];have h1:=gC a ha;have h2:=gC b hb;simp only [List.contains_eq_mem,decide_eq_false_iff_not] at h1 h2 hc;simp only [List.contains_eq_mem,decide_eq_true_eq,List.mem_append];rintro ((h | h) | h)
 ·exact h1 h
 ·exact hc h
 ·exact h2 h
theorem L8 {s:List UInt8} {l:List Tk} (h:ff s=.ok l):jp s=0∧fZ s=.ok l:=by
 by_cases hm:jp s=0
 ·exact⟨hm,by rw [←tn s hm];exact h⟩
 ·unfold ff at h;rw [nF hm] at h;cases h
theorem Ud:∀(r:List UInt8) (l:List Tk),fZ r=.ok l→l.length≤r.length:=by
 have gC:∀(n:Nat) (r:List UInt8) (l:List Tk),r.length≤n→fZ r=.ok l→l.length≤r.length:=by
  intro n;induction n with
  | zero=>
   intro r l hn h;obtain rfl:r=[]:=nO oM;have:([]:List Tk)=l:=uI h;rw [←this];exact nC _
  | succ n ih=>
   intro r l hn h;rw [io] at h;have Jl:=sj false r;cases hs:bU false r with
   | nil=>
    rw [hs] at h;have:([]:List Tk)=l:=uI h;rw [←this];exact nB _
   | cons c t=>
    rw [hs] at h Jl;dsimp only at h;cases h2:ed (c::t) with
    | error e=>rw [h2] at h;cases h
    | ok z=>
     obtain⟨y,r1⟩:=z;have hl:=jv (jt hs) h2;rw [h2] at h;dsimp only at h;cases h5:fZ r1 with
     | error e=>rw [h5] at h;cases h
     | ok l2=>
      rw [h5] at h;have hl2:(y::l2)=l:=uI h;simp only [lC] at Jl;have:=ih r1 l2 oM h5;rw [←hl2];simp only [lC];omega
 exact λ r l h=>gC _ r l (nC _) h
theorem YN (a b:ByteArray):(a++b).size=a.size+b.size:=ByteArray.size_append
theorem FF {w:World} {b o:Nat} {v:Value} (h:w.cell? ⟨b,o,none⟩=some v):b<w.heap.size:=by
 rcases nP b w.heap.size with x | x
 ·exact x
 ·exfalso;simp [World.cell?,Array.getElem?_eq_none x] at h
end Go.Proofs.YtiihpbccabeoeaaGreatDoor
