/- The walk: a part. -/
import Derived.Test.YtiihpbccabeoeaaGreatDoorWPkC
import Derived.Test.YtiihpbccabeoeaaGreatDoorWPkE
namespace Go.Proofs.YtiihpbccabeoeaaGreatDoor
set_option linter.unusedVariables false
set_option maxRecDepth 100000
set_option maxHeartbeats 16000000
def j7 (c:UInt8):Bool:=aZ c || bD c || dL c || c==123 || c==40
def iL:Bs→Bool
 | []=>false
 | x::_=>j7 x
def bW:Bs→Bs
 | []=>[]
 | c::t=>if c==36 && iL t then c::92::10::bW t else c::bW t
theorem cI (c:UInt8) (t:Bs):bW (c::t)=if c==36 && iL t then c::92::10::bW t else c::bW t:=by rw [bW]
def fQ (c:UInt8):Bs:=if c==39 then [39,92,39,39] else [c]
def qQ (s:Bs):Bs:=39::(s.flatMap fQ++[39])
def kE (s:Bs):Bs:=s.flatMap fun c=>if nM c then [92,c] else [c]
def rO (o:Bs):List Pt→Bool
 | []=>false
 | p::_=>aI o p.text
def fO (o:Bs) (w:List Pt):Bs:=if (o==[37] || o==[35]) && rO o w then [92,10] else []
mutual
def dC (q:Bool):Pt→Bs
 | .mk k t n o w pq=>
  if k=1 then bW t else if k=2 then (if q then kE t else qQ t)
  else (if pq && !q then [34] else [])++((if k=4 then 36::40::40::(t++[41,41]) else if k=5 then 36::40::(t++[41])
   else if k=3 then (if o=[76] then 36::123::35::(n++[125]) else 36::123::(n++(o++(fO o w++(aL pq w++[125]))))) else [])++(if pq && !q then [34] else []))
def aL (q:Bool):List Pt→Bs
 | []=>[]
 | p::l=>dC q p++aL q l
end
def nI (l:List Pt):Bs:=match l with
 | []=>[]
 | p::_=>if p.kind==1 && aI [35] p.text then [39,39] else []
def bF (l:List Pt):Bs:=nI l++aL false l
/-! One piece after another. -/
inductive Stp (stop:UInt8→Bool) (q:Bool) (d:Nat):Bs→List Pt→Bs→Prop
 | done (r:Bs):Stp stop q d r [] r
 | more {c:UInt8} {t r1 r2:Bs} {l1 l2:List Pt} (hs:stop c=false) (h1:cS (.one q) d (c::t)=.ok (l1,r1)) (h2:Stp stop q d r1 l2 r2):Stp stop q d (c::t) (l1++l2) r2
section
variable {stop:UInt8→Bool} {q:Bool} {d:Nat}
theorem Stp.one {c:UInt8} {t r1:Bs} {l1:List Pt} (hs:stop c=false) (h1:cS (.one q) d (c::t)=.ok (l1,r1)):Stp stop q d (c::t) l1 r1:=by
 have:=Stp.more (stop:=stop) hs h1 (.done r1)
 rwa [List.append_nil] at this
theorem Stp.trans {a b c:Bs} {l m:List Pt} (h:Stp stop q d a l b) (h2:Stp stop q d b m c):Stp stop q d a (l++m) c:=by
 induction h with
 | done r=>exact h2
 | more hs h1 _ ih=>rw [aA];exact .more hs h1 (ih h2)
theorem Stp.br {r X:Bs} {l:List Pt} (h:Stp (fun c=>c==125) q d r l (125::X)):cS (.br q) d r=.ok (l,X):=by
 generalize hy:125::X=Y at h;induction h with
 | done r=>subst hy;rw [uF];rfl
 | more hs h1 _ ih=>
  rw [uF];dsimp only;rw [hs,if_neg (by simp),h1];dsimp only;rw [ih hy];rfl
theorem Stp.dq {r X:Bs} {l:List Pt} (h:Stp (fun c=>c==34) true d r l (34::X)):cS .dq d r=.ok (l,X):=by
 generalize hy:34::X=Y at h;induction h with
 | done r=>subst hy;rw [rE];rfl
 | more hs h1 _ ih=>
  rw [rE];dsimp only;rw [hs,if_neg (by simp),h1];dsimp only;rw [ih hy];rfl
theorem Stp.word {wh:Bool} {r X:Bs} {l:List Pt} (h:Stp (fun c=>!wh && bJ c) false 0 r l X) (hX:X=[]∨∃c t,X=c::t∧(!wh && bJ c)=true):oB wh r=.ok (l,X):=by
 induction h with
 | done r=>
  rcases hX with rfl | ⟨c,t,rfl,hc⟩
  ·rfl
  ·rw [kN,if_pos hc]
 | more hs h1 _ ih=>
  rw [kN,if_neg (by rw [hs];simp),h1];dsimp only;rw [ih hX];rfl
end
/-! What comes to the same, tidied. -/
def Eqv (a b:List Pt):Prop:=∀N,a.foldl cH N=b.foldl cH N
theorem Eqv.refl (a:List Pt):Eqv a a:=fun _=>rfl
theorem Eqv.trans {a b c:List Pt} (h:Eqv a b) (h2:Eqv b c):Eqv a c:=fun N=>(h N).trans (h2 N)
theorem Eqv.app {a b c e:List Pt} (h:Eqv a b) (h2:Eqv c e):Eqv (a++c) (b++e):=fun N=>by
 rw [List.foldl_append,List.foldl_append,h,h2]
theorem Eqv.tidy {a b:List Pt} (h:Eqv a b):cT a=cT b:=Bf (h _)
theorem vW (k:Nat) (hk:(k==1 || k==2)=true) (a b:Bs) (out:List Pt):iA (iA out (.mk k a [] [] [] false)) (.mk k b [] [] [] false)=iA out (.mk k (a++b) [] [] [] false):=by
 have hj:∀(s:Bs) (y:Pt),y.joins (.mk k s [] [] [] false)=(y.kind==k && (k==1 || k==2)):=fun s y=>rfl;have h0:∀(o:List Pt) (y:Pt),(o++[y]).getLast? = some y:=fun o y=>List.getLast?_concat;have h1:∀(o:List Pt) (y:Pt),(o++[y]).dropLast=o:=fun o y=>List.dropLast_concat;cases hl:out.getLast? with
 | none=>
  have:out=[]:=List.getLast?_eq_none_iff.1 hl;subst this;show iA [.mk k a [] [] [] false] _=[_];unfold iA;rw [show ([Pt.mk k a [] [] [] false]:List Pt).getLast? = some (.mk k a [] [] [] false) from rfl];dsimp only;rw [hj,show (Pt.mk k a [] [] [] false).kind=k from rfl,hk,if_pos (by simp)];rfl
 | some y=>
  have e1:∀s:Bs,iA out (.mk k s [] [] [] false)=if (y.kind==k && (k==1 || k==2))=true then out.dropLast++[y.join (.mk k s [] [] [] false)] else out++[.mk k s [] [] [] false]:=fun s=>by
   unfold iA;rw [hl];rfl
  rw [e1 a,e1 (a++b)];by_cases hy:(y.kind==k && (k==1 || k==2))=true
  ·rw [if_pos hy,if_pos hy];unfold iA;rw [h0];dsimp only;rw [hj,show (y.join (.mk k a [] [] [] false)).kind=y.kind from rfl,if_pos hy,h1];congr 2;unfold Pt.join;simp only [Pt.kind,Pt.text,Pt.name,Pt.op,Pt.word,Pt.quoted,aA]
  ·rw [if_neg hy,if_neg hy];unfold iA;rw [h0];dsimp only;rw [hj,show (Pt.mk k a [] [] [] false).kind=k from rfl,hk,if_pos (by simp),h1];rfl
theorem Hu (a b:Bs):Eqv [eG a,eG b] [eG (a++b)]:=fun N=>by
 show cH (cH N (eG a)) (eG b)=cH N (eG (a++b));have h:∀(M:List Pt×Bool) (s:Bs),cH M (eG s)=(iA M.1 (eG s),true):=fun M s=>rfl;rw [h,h,h];exact congrArg (·,true) (vW 1 rfl a b N.1)
theorem I5 (a b:Bs):Eqv [cG a,cG b] [cG (a++b)]:=fun N=>by
 show cH (cH N (cG a)) (cG b)=cH N (cG (a++b));have h0:∀(M:List Pt×Bool),cH M (cG [])=(M.1,true):=fun M=>rfl;have h:∀(M:List Pt×Bool) (c:UInt8) (s:Bs),cH M (cG (c::s))=(iA M.1 (cG (c::s)),true):=fun M c s=>rfl;cases a with
 | nil=>
  rw [h0,List.nil_append];cases b with
  | nil=>rfl
  | cons c s=>rw [h,h]
 | cons c s=>
  cases b with
  | nil=>rw [List.append_nil,h0,h]
  | cons x r=>
   rw [List.cons_append,h,h,h];exact congrArg (·,true) (vW 2 rfl (c::s) (x::r) N.1)
theorem wV (a b:Bs) {l:List Pt} (h:Eqv l [cG b]):Eqv ([cG a]++l) [cG (a++b)]:=(Eqv.app (Eqv.refl [cG a]) h).trans (I5 a b)
theorem Ma (a b:Bs) {l:List Pt} (h:Eqv l [eG b]):Eqv ([eG a]++l) [eG (a++b)]:=(Eqv.app (Eqv.refl [eG a]) h).trans (Hu a b)
/-! Each kind of part. -/
section
variable {stop:UInt8→Bool} {d:Nat}
theorem wC (h39:stop 39=false) (h92:stop 92=false) (X:Bs):∀(s pre:Bs),(∀c∈pre,(c==39)=false)→∃raw,Stp stop false d (39::(pre++(s.flatMap fQ++39::X))) raw X∧Eqv raw [cG (pre++s)]
 | [],pre,hp=>by
  have hu:∀(p:Bs),(∀c∈p,(c==39)=false)→∀Y,fJ 39 (p++39::Y)=some p.length:=fun p=>by
   induction p with
   | nil=>intro _ Y;rfl
   | cons x t ih=>
    intro hx Y;rw [List.cons_append,fJ,hx x (List.mem_cons_self ..),if_neg (by simp),ih (fun c hc=>hx c (List.mem_cons_of_mem _ hc))];rfl
  refine⟨[cG pre],.one h39 ?_,?_⟩
  ·rw [eJ,if_pos (show ((39:UInt8)==39)=true from rfl),List.flatMap_nil,List.nil_append,hu pre hp];dsimp only;rw [List.take_left,show pre.length+1=(pre++[(39:UInt8)]).length by simp,show pre++39::X=(pre++[39])++X by simp,List.drop_left]
  ·rw [List.append_nil];exact Eqv.refl _
 | c::s,pre,hp=>by
  by_cases hc:(c==39)=true
  ·have hc':c=39:=beq_iff_eq.1 hc;subst hc';obtain⟨raw,h1,h2⟩:=wC h39 h92 X s [] (fun c hc=>by cases hc);have hu:∀(p:Bs),(∀c∈p,(c==39)=false)→∀Y,fJ 39 (p++39::Y)=some p.length:=fun p=>by
    induction p with
    | nil=>intro _ Y;rfl
    | cons x t ih=>
     intro hx Y;rw [List.cons_append,fJ,hx x (List.mem_cons_self ..),if_neg (by simp),ih (fun c hc=>hx c (List.mem_cons_of_mem _ hc))];rfl
   have e:(39::s).flatMap fQ++39::X=39::92::39::(39::([]++(s.flatMap fQ++39::X))):=by
    rw [List.flatMap_cons,show fQ 39=[39,92,39,39] from rfl];simp
   rw [e];refine⟨[cG pre]++([cG [39]]++raw),.more h39 (r1:=92::39::(39::([]++(s.flatMap fQ++39::X)))) ?_ (.more h92 (t:=39::(39::([]++(s.flatMap fQ++39::X)))) ?_ h1),?_⟩
   ·rw [eJ,if_pos (show ((39:UInt8)==39)=true from rfl),hu pre hp];dsimp only;rw [List.take_left,show pre.length+1=(pre++[(39:UInt8)]).length by simp,show pre++39::92::39::(39::([]++(s.flatMap fQ++39::X)))=(pre++[39])++92::39::(39::([]++(s.flatMap fQ++39::X))) by simp,List.drop_left]
   ·rw [eJ];rfl
   ·rw [List.nil_append] at h2;exact wV pre (39::s) (wV [39] s h2)
  ·rw [Bool.not_eq_true] at hc;obtain⟨raw,h1,h2⟩:=wC h39 h92 X s (pre++[c]) (fun x hx=>by
    rcases List.mem_append.1 hx with hx | hx
    ·exact hp x hx
    ·rw [List.mem_singleton.1 hx];exact hc)
   have e:(c::s).flatMap fQ=c::s.flatMap fQ:=by
    rw [List.flatMap_cons,show fQ c=[c] from if_neg (by rw [hc];simp)];rfl
   refine⟨raw,?_,?_⟩
   ·rw [e];rw [aA] at h1;exact h1
   ·rw [aA] at h2;exact h2
theorem A6 (h92:stop 92=false) (X:Bs):∀(s:Bs),(∀c∈s,stop c=false)→∃raw,Stp stop true d (kE s++X) raw X∧(s=[]→raw=[])∧(s≠[]→Eqv raw [cG s])
 | [],_=>⟨[],.done X,fun _=>rfl,fun h=>absurd rfl h⟩
 | c::s,hs=>by
  obtain⟨raw,h1,h0,h2⟩:=A6 h92 X s (fun x hx=>hs x (List.mem_cons_of_mem _ hx));have hE:Eqv ([cG [c]]++raw) [cG (c::s)]:=by
   cases s with
   | nil=>rw [h0 rfl];exact Eqv.refl _
   | cons x t=>exact wV [c] (x::t) (h2 (by simp))
  refine⟨[cG [c]]++raw,?_,(fun h=>by cases h),fun _=>hE⟩;unfold kE;rw [List.flatMap_cons];by_cases he:nM c=true
  ·rw [if_pos he];refine .more h92 ?_ h1;have h10:∀x:UInt8,nM x=true→(x==10)=false:=by
    intro x hx;simp only [nM,Bool.or_eq_true,beq_iff_eq] at hx;rcases hx with ((rfl | rfl) | rfl) | rfl<;>rfl
   show cS (.one true) d (92::c::(kE s++X))=_;rw [nO,if_neg (by decide),show aW 10 (c::(kE s++X))=(c==10) from rfl,h10 c he,if_neg (by simp),show (c::(kE s++X)).headD 0=c from rfl,he,if_pos (by rfl)];rfl
  ·rw [if_neg he];refine .more (hs c (List.mem_cons_self ..)) ?_ h1;rw [Bool.not_eq_true] at he;simp only [nM,Bool.or_eq_false_iff] at he;obtain⟨⟨⟨e1,e2⟩,e3⟩,e4⟩:=he;rw [nO,e1,e2,e3,e4];rfl
def sM (X:Bs):Prop:=iL X=false
theorem Gh (q:Bool) {r:Bs} (h:sM r):cS (.dol q) d r=.ok ([if q then cG [36] else eG [36]],r):=by
 rw [nQ];cases r with
 | nil=>rfl
 | cons c t=>
  have h':j7 c=false:=h;simp only [j7,Bool.or_eq_false_iff] at h';obtain⟨⟨⟨⟨h1,h2⟩,h3⟩,h4⟩,h5⟩:=h';rw [show aW 123 (c::t)=(c==123) from rfl,h4,if_neg (by simp),show aI [40,40] (c::t)=(40==c && aI [40] t) from rfl,show ((40:UInt8)==c)=false by rw [Bool.beq_comm];exact h5,Bool.false_and,if_neg (by simp),show aW 40 (c::t)=(c==40) from rfl,h5,if_neg (by simp)];rw [if_pos (by simp [bT,dK,h1,h2,h3])]
def txB (c:UInt8):Bool:=sW c || c==36
theorem k0 (c:UInt8) (t:Bs):∃u,bW (c::t)=c::u:=by
 rw [cI];split
 ·exact⟨_,rfl⟩
 ·exact⟨_,rfl⟩
theorem xU (h92:stop 92=false) {X:Bs} (hX:sM X):∀(s:Bs),(∀c∈s,txB c=true∧stop c=false)→∃raw,Stp stop false d (bW s++X) raw X∧(s=[]→raw=[])∧(s≠[]→Eqv raw [eG s])
 | [],_=>⟨[],.done X,fun _=>rfl,fun h=>absurd rfl h⟩
 | c::s,hs=>by
  obtain⟨raw,h1,h0,h2⟩:=xU h92 hX s (fun x hx=>hs x (List.mem_cons_of_mem _ hx));obtain⟨htx,hst⟩:=hs c (List.mem_cons_self ..);have hE:Eqv ([eG [c]]++raw) [eG (c::s)]:=by
   cases s with
   | nil=>rw [h0 rfl];exact Eqv.refl _
   | cons x t=>exact Ma [c] (x::t) (h2 (by simp))
  by_cases hc:c=36
  ·subst hc;by_cases hn:iL s=true
   ·refine⟨[eG [36]]++([]++raw),?_,(fun h=>by cases h),fun _=>hE⟩;have e:bW (36::s)=36::92::10::bW s:=by
     rw [cI,hn];rfl
    rw [e];refine .more hst (r1:=92::10::(bW s++X)) ?_ (.more h92 (r1:=bW s++X) ?_ h1)
    ·show cS (.one false) d (36::92::10::(bW s++X))=_;rw [eJ];exact Gh (d:=d) false (r:=92::10::(bW s++X)) (show j7 92=false from by decide)
    ·rw [eJ];rfl
   ·refine⟨[eG [36]]++raw,?_,(fun h=>by cases h),fun _=>hE⟩;rw [Bool.not_eq_true] at hn;have e:bW (36::s)=36::bW s:=by
     rw [cI,hn];rfl
    rw [e];refine .more hst ?_ h1;show cS (.one false) d (36::(bW s++X))=_;rw [eJ];refine Gh false ?_;cases s with
    | nil=>exact hX
    | cons x t=>obtain⟨u,hu⟩:=k0 x t;rw [hu];exact hn
  ·have hp:sW c=true:=by
    unfold txB at htx;rw [Bool.or_eq_true] at htx;rcases htx with h | h
    ·exact h
    ·exact absurd (beq_iff_eq.1 h) hc
   refine⟨[eG [c]]++raw,?_,(fun h=>by cases h),fun _=>hE⟩;have e:bW (c::s)=c::bW s:=by
    rw [cI,show (c==36)=false from beq_eq_false_iff_ne.2 hc];rfl
   rw [e];exact .more hst (D0 hp d _) h1
end
def yP (n:Bs):Prop:=n≠[]∧(∀c X,(aZ c || bD c)=false→bT true (n++c::X)=n.length)∧(∀X,bK (n++125::X)=false)∧(∀o∈gG,∀X,bK (n++(o++X))=false)
def NoJ:List Pt→Prop
 | []=>True
 | [_]=>True
 | p::q::l=>p.joins q=false∧NoJ (q::l)
def wW (w:List Pt):Prop:=w=[cG []]∨(NoJ w∧∀p∈w,p.isE=false)
def brS (c:UInt8):Bool:=c==125
def NZ (s:Bs):Prop:=∀c∈s,c≠0
mutual
def OkP (stop:UInt8→Bool) (q:Bool) (d:Nat):Pt→Prop
 | .mk k t n o w pq=>NZ t∧NZ n∧
  ((k=1∧q=false∧t≠[]∧(∀c∈t,txB c=true∧stop c=false)∧n=[]∧o=[]∧w=[]∧pq=false)∨
  (k=2∧(q=true→t≠[]∧∀c∈t,stop c=false)∧n=[]∧o=[]∧w=[]∧pq=false)∨
  (k=4∧(q=true→pq=true)∧cV 0 (t++[41,41])=some t.length∧n=[]∧o=[]∧w=[])∨
  (k=5∧(q=true→pq=true)∧aW 40 t=false∧bP .n 0 (t++[41])=some t.length∧n=[]∧o=[]∧w=[])∨
  (k=3∧(q=true→pq=true)∧t=[]∧yP n∧((o=[]∧w=[])∨(o=[76]∧w=[]∧∀X,bK (35::(n++125::X))=true)∨(o∈gG∧d<40∧gD brS pq (d+1) w∧wW w))))
def gD (stop:UInt8→Bool) (q:Bool) (d:Nat):List Pt→Prop
 | []=>True
 | p::l=>OkP stop q d p∧gD stop q d l
end
structure qI (stop:UInt8→Bool):Prop where
 a:stop 39=false
 b:stop 34=false
 c:stop 36=false
 d:stop 92=false
 e:stop 96=false
theorem L7:qI brS:=⟨rfl,rfl,rfl,rfl,rfl⟩
/-! Tidied. -/
theorem xV:∀(w:List Pt) (out:List Pt) (b:Bool),NoJ w→(∀p∈w,p.isE=false)→(∀y,out.getLast? = some y→∀x,w.head? = some x→y.joins x=false)→(w.foldl cH (out,b)).1=out++w
 | [],out,b,_,_,_=>by rw [List.foldl_nil,List.append_nil]
 | x::t,out,b,hj,he,ho=>by
  have hx:cH (out,b) x=(out++[x],true):=by
   unfold cH;rw [he x (List.mem_cons_self ..),if_neg (by simp)];unfold iA;cases hl:out.getLast? with
   | none=>rw [List.getLast?_eq_none_iff.1 hl];rfl
   | some y=>dsimp only;rw [ho y hl x rfl,if_neg (by simp)]
  rw [List.foldl_cons,hx,xV t _ _ (by cases t with | nil=>trivial | cons y u=>exact hj.2) (fun p hp=>he p (List.mem_cons_of_mem _ hp)) (fun y hy z hz=>by
   rw [List.getLast?_concat] at hy;obtain rfl:=Option.some.inj hy;cases t with
   | nil=>cases hz
   | cons y u=>obtain rfl:=Option.some.inj hz;exact hj.1),aA]
  rfl
theorem wW.fix {w:List Pt} (h:wW w):cT w=w:=by
 rcases h with rfl | ⟨h1,h2⟩
 ·rfl
 ·have h3:(eS w).1=w:=by
   have:=xV w [] false h1 h2 (fun y hy=>by cases hy)
   rwa [List.nil_append] at this
  unfold cT;rw [h3];split
  ·next hc=>
   rw [Bool.and_eq_true] at hc;have:w=[]:=List.isEmpty_iff.1 hc.1;subst this;exact absurd hc.2 (by decide)
  ·rfl
theorem wW.noj {w:List Pt} (h:wW w):NoJ w:=by
 rcases h with rfl | ⟨h,_⟩
 ·trivial
 ·exact h
/-! Dollars. -/
theorem Mo (q:Bool) (d:Nat) {t:Bs} (h:cV 0 (t++[41,41])=some t.length) (X:Bs):cS (.dol q) d (40::40::(t++[41,41])++X)=.ok ([.mk 4 t [] [] [] q],X):=by
 have hc:=(pB _ X _ _ h).1;rw [nQ,if_neg (by rw [show aW 123 (40::40::(t++[41,41])++X)=false from rfl];simp),if_pos (by rfl)];rw [show List.drop 2 (40::40::(t++[41,41])++X)=t++[41,41]++X from rfl,hc];dsimp only;rw [aA,List.take_left,show t.length+2=(t++[(41:UInt8),41]).length by simp,←aA,List.drop_left]
theorem Nc (q:Bool) (d:Nat) {t:Bs} (h0:aW 40 t=false) (h:bP .n 0 (t++[41])=some t.length) (X:Bs):cS (.dol q) d (40::(t++[41])++X)=.ok ([.mk 5 t [] [] [] q],X):=by
 have hc:=(Bm _ X _ _ _ h).1;have hs:aI [40,40] (40::(t++[41])++X)=false:=by
  cases t with
  | nil=>rfl
  | cons c u=>
   show ((40:UInt8)==40 && ((40:UInt8)==c && aI [] _))=false;rw [show ((40:UInt8)==c)=(c==40) from Bool.beq_comm,show (c==40)=false from h0];rfl
 rw [nQ,if_neg (by rw [show aW 123 (40::(t++[41])++X)=false from rfl];simp),if_neg (by rw [hs];simp),if_pos (by rfl)];rw [show List.tail (40::(t++[41])++X)=t++[41]++X from rfl,hc];dsimp only;rw [aA,List.take_left,show t.length+1=(t++[(41:UInt8)]).length by simp,←aA,List.drop_left]
theorem Dp (q:Bool) (d:Nat) (r:Bs):cS (.dol q) d (123::r)=cS (.brace q) d r:=by
 rw [nQ,if_pos (by rfl)];rfl
theorem D4 (q:Bool) (d:Nat) {n:Bs} (h:yP n) (X:Bs):cS (.brace q) d (n++125::X)=.ok ([.mk 3 [] n [] [] q],X):=by
 obtain⟨h0,h1,h2,_⟩:=h;rw [nJ];simp only [h2 X,Bool.false_eq_true,if_false,Bool.or_false];rw [h1 125 X rfl,if_neg (by simpa using h0),List.drop_left,List.take_left,if_pos (by rfl)];rfl
theorem Er (q:Bool) (d:Nat) {n:Bs} (h:yP n) (hl:∀X,bK (35::(n++125::X))=true) (X:Bs):cS (.brace q) d (35::(n++125::X))=.ok ([.mk 3 [] n [76] [] q],X):=by
 obtain⟨h0,h1,h2,_⟩:=h;rw [nJ];simp only [hl X,if_true,List.tail_cons,Bool.or_true];rw [h1 125 X rfl,if_neg (by simpa using h0),List.drop_left,List.take_left,if_pos (by rfl)];rfl
theorem Ls {o:Bs} (h:o∈gG):∃c u,o=c::u∧(aZ c || bD c)=false∧(c==125)=false∧o≠[76]∧o≠[]:=by
 have:∀o∈gG,∃c u,o=c::u∧(aZ c || bD c)=false∧(c==125)=false∧o≠[76]∧o≠[]:=by
  intro o ho;simp only [gG,List.mem_cons,List.not_mem_nil,or_false] at ho;rcases ho with rfl | rfl | rfl | rfl | rfl | rfl | rfl | rfl | rfl | rfl | rfl | rfl<;>exact⟨_,_,rfl,by decide,by decide,by decide,by decide⟩
 exact this o h
theorem Oq {o:Bs} (h:o∈gG) (Y:Bs) (h37:o=[37]→aW 37 Y=false) (h35:o=[35]→aW 35 Y=false):opF (o++Y)=o:=by
 simp only [gG,List.mem_cons,List.not_mem_nil,or_false] at h;rcases h with rfl | rfl | rfl | rfl | rfl | rfl | rfl | rfl | rfl | rfl | rfl | rfl
 ·rfl
 ·rfl
 ·rfl
 ·rfl
 ·rfl
 ·rfl
 ·rfl
 ·rfl
 ·rfl
 ·rfl
 ·have h9:=h37 rfl;cases Y with
  | nil=>rfl
  | cons c t=>
   have h8:((37:UInt8)==c)=false:=by rw [Bool.beq_comm];exact h9
   simp [opF,gH,gG,aI,h8]
 ·have h9:=h35 rfl;cases Y with
  | nil=>rfl
  | cons c t=>
   have h8:((35:UInt8)==c)=false:=by rw [Bool.beq_comm];exact h9
   simp [opF,gH,gG,aI,h8]
theorem Hn (q:Bool) {d:Nat} (hd:d<40) {n o Y X:Bs} {w raw:List Pt} (h:yP n) (ho:o∈gG) (h37:o=[37]→aW 37 Y=false) (h35:o=[35]→aW 35 Y=false) (hb:cS (.br q) (d+1) Y=.ok (raw,X)) (hw:cT raw=w):cS (.brace q) d (n++(o++Y))=.ok ([.mk 3 [] n o w q],X):=by
 obtain⟨h0,h1,_,h3⟩:=h;obtain⟨c,u,hc,hl,h125,_,hne⟩:=Ls ho;have hn:bT true (n++(o++Y))=n.length:=by rw [hc];exact h1 c (u++Y) hl
 rw [nJ];simp only [h3 o ho Y,Bool.false_eq_true,if_false,Bool.or_false];rw [hn,if_neg (by simpa using h0),List.drop_left,List.take_left,if_neg (by rw [hc];show ¬(c==125)=true;rw [h125];simp),Oq ho Y h37 h35,if_neg (by rw [hc];simp),if_neg (by omega),List.drop_left,hb];dsimp only;rw [hw]
theorem g8 (q:Bool) (t n o:Bs) (w:List Pt) (pq:Bool):dC q (.mk 1 t n o w pq)=bW t:=by rw [dC];rfl
theorem mJ (q:Bool) (t n o:Bs) (w:List Pt) (pq:Bool):dC q (.mk 2 t n o w pq)=if q then kE t else qQ t:=by rw [dC];rfl
theorem oE (q:Bool) (t n o:Bs) (w:List Pt) (pq:Bool):dC q (.mk 4 t n o w pq)=(if pq && !q then [34] else [])++(36::40::40::(t++[41,41])++(if pq && !q then [34] else [])):=by rw [dC];rfl
theorem oO (q:Bool) (t n o:Bs) (w:List Pt) (pq:Bool):dC q (.mk 5 t n o w pq)=(if pq && !q then [34] else [])++(36::40::(t++[41])++(if pq && !q then [34] else [])):=by rw [dC];rfl
theorem oC (q:Bool) (t n o:Bs) (w:List Pt) (pq:Bool):dC q (.mk 3 t n o w pq)=(if pq && !q then [34] else [])++((if o=[76] then 36::123::35::(n++[125]) else 36::123::(n++(o++(fO o w++(aL pq w++[125])))))++(if pq && !q then [34] else [])):=by rw [dC];rfl
theorem dP (q:Bool):aL q []=[]:=by rw [aL]
theorem bZ (q:Bool) (p:Pt) (l:List Pt):aL q (p::l)=dC q p++aL q l:=by rw [aL]
theorem kH {stop:UInt8→Bool} {q:Bool} {d:Nat} {p:Pt} (h:OkP stop q d p):∃c u,dC q p=c::u∧(c=39∨c=36∨c=34∨c=92∨∃u',p.text=c::u')∧(q=false→p.kind≠1→c=39∨c=36∨c=34):=by
 obtain⟨k,t,n,o,w,pq⟩:=p;unfold OkP at h;obtain⟨_,_,h⟩:=h;rcases h with ⟨rfl,rfl,ht,_⟩ | ⟨rfl,hq,_⟩ | ⟨rfl,_⟩ | ⟨rfl,_⟩ | ⟨rfl,_⟩
 ·cases t with
  | nil=>exact absurd rfl ht
  | cons c t=>
   obtain⟨u,hu⟩:=k0 c t;refine⟨c,u,?_,.inr (.inr (.inr (.inr ⟨t,rfl⟩))),fun _ h1=>absurd rfl h1⟩;rw [g8,hu]
 ·rw [mJ];cases q with
  | false=>exact⟨39,_,rfl,.inl rfl,fun _ _=>.inl rfl⟩
  | true=>
   obtain⟨ht,_⟩:=hq rfl;cases t with
   | nil=>exact absurd rfl ht
   | cons c t=>
    rw [if_pos rfl];unfold kE;rw [List.flatMap_cons];by_cases he:nM c=true
    ·rw [if_pos he];exact⟨92,_,rfl,.inr (.inr (.inr (.inl rfl))),fun h=>by cases h⟩
    ·rw [if_neg he];exact⟨c,_,rfl,.inr (.inr (.inr (.inr ⟨t,rfl⟩))),fun h=>by cases h⟩
 ·rw [oE];by_cases hp:(pq && !q)=true
  ·rw [if_pos hp];exact⟨34,_,rfl,.inr (.inr (.inl rfl)),fun _ _=>.inr (.inr rfl)⟩
  ·rw [if_neg hp];exact⟨36,_,rfl,.inr (.inl rfl),fun _ _=>.inr (.inl rfl)⟩
 ·rw [oO];by_cases hp:(pq && !q)=true
  ·rw [if_pos hp];exact⟨34,_,rfl,.inr (.inr (.inl rfl)),fun _ _=>.inr (.inr rfl)⟩
  ·rw [if_neg hp];exact⟨36,_,rfl,.inr (.inl rfl),fun _ _=>.inr (.inl rfl)⟩
 ·rw [oC];by_cases hp:(pq && !q)=true
  ·rw [if_pos hp];exact⟨34,_,rfl,.inr (.inr (.inl rfl)),fun _ _=>.inr (.inr rfl)⟩
  ·rw [if_neg hp];by_cases ho:o=[76]
   ·rw [if_pos ho];exact⟨36,_,rfl,.inr (.inl rfl),fun _ _=>.inr (.inl rfl)⟩
   ·rw [if_neg ho];exact⟨36,_,rfl,.inr (.inl rfl),fun _ _=>.inr (.inl rfl)⟩
theorem oD {stop:UInt8→Bool} (hst:qI stop) {q:Bool} {d:Nat} {p:Pt} {pq:Bool} (hq:q=true→pq=true) {C X:Bs} (hC:∀Y,cS (.dol pq) d (C++Y)=.ok ([p],Y)) :
 ∃raw,Stp stop q d ((if pq && !q then [34] else [])++(36::C++(if pq && !q then [34] else []))++X) raw X∧Eqv raw [p]:=by
 have h1:∀(Y:Bs),cS (.one pq) d (36::(C++Y))=.ok ([p],Y):=fun Y=>by
  cases pq with
  | false=>rw [eJ];exact hC Y
  | true=>rw [nO];exact hC Y
 by_cases hp:(pq && !q)=true
 ·rw [Bool.and_eq_true] at hp;obtain⟨rfl,hq2⟩:=hp;have hq3:q=false:=by simpa using hq2
  subst hq3;refine⟨[cG []]++[p],.one hst.b ?_,fun N=>?_⟩
  ·have h2:cS .dq d (36::(C++34::X))=.ok ([p],X):=Stp.dq (Stp.one rfl (h1 (34::X)));show cS (.one false) d (34::(36::C++[34]++X))=_;rw [eJ,show 36::C++[34]++X=36::(C++34::X) by simp,h2];rfl
  ·show cH (cH N (cG [])) p=cH N p;unfold cH;rw [if_pos (show (cG []).isE=true from rfl)]
 ·rw [if_neg hp,List.nil_append,List.append_nil];have hpq:pq=q:=by
   cases pq<;>cases q
   ·rfl
   ·exact absurd (hq rfl) (by decide)
   ·exact absurd rfl hp
   ·rfl
  subst hpq;exact⟨[p],.one hst.c (h1 X),Eqv.refl _⟩
mutual
theorem Nf:∀(p:Pt) (stop:UInt8→Bool) (q:Bool) (d:Nat) (X:Bs),qI stop→OkP stop q d p→(p.kind=1→sM X)→∃raw,Stp stop q d (dC q p++X) raw X∧Eqv raw [p]
 | .mk k t n o w pq,stop,q,d,X,hst,h,hX=>by
  unfold OkP at h;obtain⟨_,_,h⟩:=h;rcases h with ⟨rfl,rfl,ht,hc,rfl,rfl,rfl,rfl⟩ | ⟨rfl,hq,rfl,rfl,rfl,rfl⟩ | ⟨rfl,hq,hc,rfl,rfl,rfl⟩ | ⟨rfl,hq,h0,hc,rfl,rfl,rfl⟩ | ⟨rfl,hq,rfl,hn,hc⟩
  ·obtain⟨raw,h1,_,h2⟩:=xU (d:=d) hst.d (hX rfl) t hc;refine⟨raw,?_,h2 ht⟩;rw [g8];exact h1
  ·rw [mJ];cases q with
   | false=>
    obtain⟨raw,h1,h2⟩:=wC (d:=d) hst.a hst.d X t [] (fun c hc=>by cases hc);refine⟨raw,?_,h2⟩;rw [if_neg (by simp)];unfold qQ;rw [List.cons_append,aA];exact h1
   | true=>
    obtain⟨ht,hc⟩:=hq rfl;obtain⟨raw,h1,_,h2⟩:=A6 (d:=d) hst.d X t hc;exact⟨raw,by rw [if_pos rfl];exact h1,h2 ht⟩
  ·rw [oE];exact oD hst hq (C:=40::40::(t++[41,41])) (Mo pq d hc)
  ·rw [oO];exact oD hst hq (C:=40::(t++[41])) (Nc pq d h0 hc)
  ·rw [oC];rcases hc with ⟨rfl,rfl⟩ | ⟨rfl,rfl,hl⟩ | ⟨ho,hd,hw,htw⟩
   ·rw [if_neg (show ¬([]:Bs)=[76] from by decide)];refine oD hst hq (C:=123::(n++([]++(fO [] []++(aL pq []++[125]))))) (fun Y=>?_);rw [List.cons_append,Dp,show fO [] []=[] from rfl,dP];have:=D4 pq d hn Y;simpa using this
   ·rw [if_pos (show ([76]:Bs)=[76] from rfl)];refine oD hst hq (C:=123::35::(n++[125])) (fun Y=>?_);rw [List.cons_append,Dp];have:=Er pq d hn hl Y;simpa using this
   ·obtain⟨_,_,_,_,_,h76,_⟩:=Ls ho;rw [if_neg h76];refine oD hst hq (C:=123::(n++(o++(fO o w++(aL pq w++[125]))))) (fun Y=>?_);rw [List.cons_append,Dp];obtain⟨raw,h1,h2⟩:=vQ w brS pq (d+1) (125::Y) L7 hw htw.noj (show j7 125=false from by decide);have hgd:∃raw2,Stp brS pq (d+1) (fO o w++(aL pq w++125::Y)) raw2 (125::Y)∧Eqv raw2 w:=by
     unfold fO;split
     ·refine⟨[]++raw,.more (r1:=aL pq w++125::Y) (c:=92) (t:=10::(aL pq w++125::Y)) rfl ?_ h1,h2⟩;cases pq with
      | false=>rw [eJ];rfl
      | true=>rw [nO];rfl
     ·exact⟨raw,h1,h2⟩
    obtain⟨raw2,h3,h4⟩:=hgd;have hb:cS (.br pq) (d+1) (fO o w++(aL pq w++125::Y))=.ok (raw2,Y):=Stp.br h3;have hhead:∀z:UInt8,o=[z]→(z=37∨z=35)→aW z (fO o w++(aL pq w++125::Y))=false:=fun z hz hz2=>by
     unfold fO;by_cases hg:((o==[37] || o==[35]) && rO o w)=true
     ·rw [if_pos hg];show ((92:UInt8)==z)=false;rcases hz2 with rfl | rfl<;>rfl
     ·rw [if_neg hg,List.nil_append];have ho1:(o==[37] || o==[35])=true:=by rw [hz];rcases hz2 with rfl | rfl<;>rfl
      rw [ho1,Bool.true_and] at hg;cases w with
      | nil=>
       rw [dP];show ((125:UInt8)==z)=false;rcases hz2 with rfl | rfl<;>rfl
      | cons p l=>
       unfold gD at hw;obtain⟨c,u,hc,hcs,_⟩:=kH hw.1;rw [bZ,hc];show (c==z)=false;rcases hcs with rfl | rfl | rfl | rfl | ⟨u',hu'⟩
       ·rcases hz2 with rfl | rfl<;>rfl
       ·rcases hz2 with rfl | rfl<;>rfl
       ·rcases hz2 with rfl | rfl<;>rfl
       ·rcases hz2 with rfl | rfl<;>rfl
       ·rw [show rO o (p::l)=aI o p.text from rfl,hu',hz] at hg;have:aI [z] (c::u')=(z==c && true):=by cases u'<;>rfl
        rw [this,Bool.and_true,Bool.not_eq_true] at hg;rw [Bool.beq_comm];exact hg
    have:=Hn pq hd hn ho (fun h=>hhead 37 h (.inl rfl)) (fun h=>hhead 35 h (.inr rfl)) hb (h4.tidy.trans htw.fix);simpa using this
theorem vQ:∀(l:List Pt) (stop:UInt8→Bool) (q:Bool) (d:Nat) (X:Bs),qI stop→gD stop q d l→NoJ l→sM X→∃raw,Stp stop q d (aL q l++X) raw X∧Eqv raw l
 | [],stop,q,d,X,hst,h,hj,hX=>by
  rw [dP];exact⟨[],.done X,Eqv.refl _⟩
 | p::l,stop,q,d,X,hst,h,hj,hX=>by
  unfold gD at h;obtain⟨raw2,h3,h4⟩:=vQ l stop q d X hst h.2 (by cases l with | nil=>trivial | cons y u=>exact hj.2) hX;have hR:p.kind=1→sM (aL q l++X):=fun hk=>by
   have hq:q=false:=by
    obtain⟨k,t,n,o,w,pq⟩:=p;have:=h.1;unfold OkP at this;obtain⟨_,_,h5⟩:=this;have hk':k=1:=hk;subst hk';rcases h5 with ⟨_,h6,_⟩ | ⟨h6,_⟩ | ⟨h6,_⟩ | ⟨h6,_⟩ | ⟨h6,_⟩
    ·exact h6
    all_goals cases h6
   cases l with
   | nil=>rw [dP];exact hX
   | cons y u=>
    have hy:y.kind≠1:=fun hy=>by
     have:=hj.1;unfold Pt.joins at this;rw [hk,hy] at this;cases this
    have h2:=h.2;unfold gD at h2;obtain⟨c,v,hc,_,hcs⟩:=kH h2.1;rw [bZ,hc];show j7 c=false;rcases hcs hq hy with rfl | rfl | rfl<;>decide
  obtain⟨raw,h1,h2⟩:=Nf p stop q d (aL q l++X) hst h.1 hR;refine⟨raw++raw2,?_,?_⟩
  ·rw [bZ,aA];exact h1.trans h3
  ·exact Eqv.app h2 h4
end
/-! What closes. -/
theorem o5:∀(r:Bs) (o k:Nat),cV o r=some k→cV o (r.take k++[41,41])=some k∧(r.take k).length=k
 | [],_,_,h=>by cases h
 | c::t,o,k,h=>by
  unfold cV at h;by_cases h1:(c==40)=true
  ·rw [if_pos h1] at h;obtain⟨j,hj,rfl⟩:=map_some h;obtain⟨i1,i2⟩:=o5 t _ j hj;rw [List.take_succ_cons,List.cons_append];unfold cV;rw [if_pos h1,i1];exact⟨rfl,by rw [lC,i2]⟩
  rw [if_neg h1] at h;by_cases h3:(c==41)=true
  ·rw [if_pos h3] at h;by_cases h0:o=0
   ·rw [if_pos h0] at h;split at h
    ·obtain rfl:=Option.some.inj h;rw [h0];exact⟨rfl,rfl⟩
    ·cases h
   ·rw [if_neg h0] at h;obtain⟨j,hj,rfl⟩:=map_some h;obtain⟨i1,i2⟩:=o5 t _ j hj;rw [List.take_succ_cons,List.cons_append];unfold cV;rw [if_neg h1,if_pos h3,if_neg h0,i1];exact⟨rfl,by rw [lC,i2]⟩
  ·rw [if_neg h3] at h;obtain⟨j,hj,rfl⟩:=map_some h;obtain⟨i1,i2⟩:=o5 t _ j hj;rw [List.take_succ_cons,List.cons_append];unfold cV;rw [if_neg h1,if_neg h3,i1];exact⟨rfl,by rw [lC,i2]⟩
theorem rV (o:Nat) (c:UInt8) (t:Bs):bP .n o (c::t)=if c==39 then (bP .q1 o t).map (· + 1) else if c==34 then (bP .q2 o t).map (· + 1) else if c==92 then (bP .bn o t).map (· + 1)
 else if c==40 then (bP .n (o+1) t).map (· + 1)
 else if c==41 then (if o=0 then some 0 else (bP .n (o - 1) t).map (· + 1))
 else (bP .n o t).map (· + 1):=by rw [bP]
theorem Bx:∀(r:Bs) (m:SM) (o k:Nat),bP m o r=some k→bP m o (r.take k++[41])=some k∧(r.take k).length=k
 | [],m,_,_,h=>by cases m<;>cases h
 | c::t,m,o,k,h=>by
  have key:∀(m':SM) (o':Nat),(bP m' o' t).map (· + 1)=some k→∃j,k=j+1∧(bP m' o' (t.take j++[41])).map (· + 1)=some k∧(t.take j).length=j:=fun m' o' h'=>by
   obtain⟨j,hj,rfl⟩:=map_some h';obtain⟨i1,i2⟩:=Bx t m' o' j hj;exact⟨j,rfl,by rw [i1];rfl,i2⟩
  have fin:∀(m':SM) (o':Nat),(bP m' o' t).map (· + 1)=some k→(∀u,bP m o (c::u)=(bP m' o' u).map (· + 1))→bP m o ((c::t).take k++[41])=some k∧((c::t).take k).length=k:=fun m' o' h' he=>by
   obtain⟨j,rfl,i1,i2⟩:=key m' o' h';rw [List.take_succ_cons,List.cons_append,he];exact⟨i1,by rw [lC,i2]⟩
  cases m with
  | n=>
   unfold bP at h;by_cases h1:(c==39)=true
   ·rw [if_pos h1] at h;exact fin _ _ h (fun u=>by rw [rV,if_pos h1])
   rw [if_neg h1] at h;by_cases h2:(c==34)=true
   ·rw [if_pos h2] at h;exact fin _ _ h (fun u=>by rw [rV,if_neg h1,if_pos h2])
   rw [if_neg h2] at h;by_cases h3:(c==92)=true
   ·rw [if_pos h3] at h;exact fin _ _ h (fun u=>by rw [rV,if_neg h1,if_neg h2,if_pos h3])
   rw [if_neg h3] at h;by_cases h4:(c==40)=true
   ·rw [if_pos h4] at h;exact fin _ _ h (fun u=>by rw [rV,if_neg h1,if_neg h2,if_neg h3,if_pos h4])
   rw [if_neg h4] at h;by_cases h5:(c==41)=true
   ·rw [if_pos h5] at h;by_cases h0:o=0
    ·rw [if_pos h0] at h;obtain rfl:=Option.some.inj h;rw [h0];exact⟨rfl,rfl⟩
    ·rw [if_neg h0] at h;exact fin _ _ h (fun u=>by rw [rV,if_neg h1,if_neg h2,if_neg h3,if_neg h4,if_pos h5,if_neg h0])
   ·rw [if_neg h5] at h;exact fin _ _ h (fun u=>by rw [rV,if_neg h1,if_neg h2,if_neg h3,if_neg h4,if_neg h5])
  | q1=>unfold bP at h;exact fin _ _ h (fun u=>by rw [bP])
  | q2=>unfold bP at h;exact fin _ _ h (fun u=>by rw [bP])
  | bn=>unfold bP at h;exact fin _ _ h (fun u=>by rw [bP])
  | bq=>unfold bP at h;exact fin _ _ h (fun u=>by rw [bP])
/-! Names. -/
theorem qO {c':UInt8} (hc:(aZ c' || bD c')=false) (X:Bs):∀t,bH (t.take (bH t)++c'::X)=bH t∧(t.take (bH t)).length=bH t
 | []=>by
  show (if (aZ c' || bD c')=true then _ else 0)=0∧_;rw [hc];exact⟨rfl,rfl⟩
 | c::t=>by
  obtain⟨i1,i2⟩:=qO hc X t;by_cases h:(aZ c || bD c)=true
  ·have e:∀u,bH (c::u)=bH u+1:=fun u=>by show (if (aZ c || bD c)=true then _ else 0)=_;rw [if_pos h]
   rw [e,List.take_succ_cons,List.cons_append,e,i1,lC,i2];exact⟨rfl,rfl⟩
  ·have e:∀u,bH (c::u)=0:=fun u=>by show (if (aZ c || bD c)=true then _ else 0)=_;rw [if_neg h]
   rw [e];refine⟨?_,rfl⟩;show (if (aZ c' || bD c')=true then _ else 0)=0;rw [hc];rfl
theorem Cu {c':UInt8} (hc:bD c'=false) (X:Bs):∀t,eT (t.take (eT t)++c'::X)=eT t∧(t.take (eT t)).length=eT t
 | []=>by
  show (if bD c'=true then _ else 0)=0∧_;rw [hc];exact⟨rfl,rfl⟩
 | c::t=>by
  obtain⟨i1,i2⟩:=Cu hc X t;by_cases h:bD c=true
  ·have e:∀u,eT (c::u)=eT u+1:=fun u=>by show (if bD c=true then _ else 0)=_;rw [if_pos h]
   rw [e,List.take_succ_cons,List.cons_append,e,i1,lC,i2];exact⟨rfl,rfl⟩
  ·have e:∀u,eT (c::u)=0:=fun u=>by show (if bD c=true then _ else 0)=_;rw [if_neg h]
   rw [e];refine⟨?_,rfl⟩;show (if bD c'=true then _ else 0)=0;rw [hc];rfl
theorem N7 {o:Bs} (h:o∈gG) (X:Bs):(opF (o++X)).isEmpty=false:=by
 simp only [gG,List.mem_cons,List.not_mem_nil,or_false] at h;rcases h with rfl | rfl | rfl | rfl | rfl | rfl | rfl | rfl | rfl | rfl | rfl | rfl
 ·rfl
 ·rfl
 ·rfl
 ·rfl
 ·rfl
 ·rfl
 ·rfl
 ·rfl
 ·rfl
 ·rfl
 ·cases X with
  | nil=>rfl
  | cons c t=>
   by_cases h8:((37:UInt8)==c)=true
   ·obtain rfl:=beq_iff_eq.1 h8;rfl
   ·simp [opF,gH,gG,aI,h8]
 ·cases X with
  | nil=>rfl
  | cons c t=>
   by_cases h8:((35:UInt8)==c)=true
   ·obtain rfl:=beq_iff_eq.1 h8;rfl
   ·simp [opF,gH,gG,aI,h8]
theorem oZ {c:UInt8} (h:(c==35)=false) (t:Bs):bK (c::t)=false:=by
 unfold bK;rw [show aW 35 (c::t)=(c==35) from rfl,h];rfl
theorem Gx {c:UInt8} (h:bD c=true):(c==35)=false:=by
 rw [beq_eq_false_iff_ne];rintro rfl;cases h
theorem Ow {c:UInt8} (h:aZ c=true):(c==35)=false:=by
 rw [beq_eq_false_iff_ne];rintro rfl;cases h
theorem P4 (c:UInt8) (t:Bs):dK (c::t)=if aZ c then bH t+1 else 0:=by rw [dK]
theorem kQ (b:Bool) (c:UInt8) (t:Bs):bT b (c::t)=if aZ c then bH t+1 else if bD c then (if b then eT t+1 else 1) else if dL c then 1 else 0:=by
 unfold bT;rw [P4];by_cases h:aZ c=true
 ·rw [if_pos h,if_pos (Nat.succ_pos _),if_pos h]
 ·rw [if_neg h,if_neg (by decide),if_neg h]
theorem vD (b:Bool) (r:Bs) (h:bT b r≠0):yP (r.take (bT b r)):=by
 cases r with
 | nil=>exact absurd rfl h
 | cons c t=>
  rw [kQ] at h ⊢;by_cases hl:aZ c=true
  ·rw [if_pos hl,List.take_succ_cons];refine⟨by simp,fun c' X hc'=>?_,fun X=>oZ (Ow hl) _,fun o ho X=>oZ (Ow hl) _⟩;obtain⟨i1,i2⟩:=qO hc' X t;rw [List.cons_append,kQ,if_pos hl,i1,lC,i2]
  rw [if_neg hl] at h ⊢;by_cases hd:bD c=true
  ·rw [if_pos hd];cases b with
   | true=>
    rw [if_pos rfl,List.take_succ_cons];refine⟨by simp,fun c' X hc'=>?_,fun X=>oZ (Gx hd) _,fun o ho X=>oZ (Gx hd) _⟩;obtain⟨i1,i2⟩:=Cu (Bool.or_eq_false_iff.1 hc').2 X t;rw [List.cons_append,kQ,if_neg hl,if_pos hd,if_pos rfl,i1,lC,i2]
   | false=>
    rw [if_neg (by simp)];refine⟨by simp,fun c' X hc'=>?_,fun X=>oZ (Gx hd) _,fun o ho X=>oZ (Gx hd) _⟩;show bT true (c::c'::X)=1;rw [kQ,if_neg hl,if_pos hd,if_pos rfl];show (if bD c'=true then _ else 0)+1=1;rw [(Bool.or_eq_false_iff.1 hc').2];rfl
  rw [if_neg hd] at h ⊢;by_cases hs:dL c=true
  ·rw [if_pos hs];refine⟨by simp,fun c' X hc'=>?_,fun X=>?_,fun o ho X=>?_⟩
   ·show bT true (c::c'::X)=1;rw [kQ,if_neg hl,if_neg hd,if_pos hs]
   ·show bK (c::125::X)=false;unfold bK;rw [show aW 125 (List.tail (c::125::X))=true from rfl];simp
   ·show bK (c::(o++X))=false;unfold bK;rw [List.tail_cons,N7 ho X];simp
  ·rw [if_neg hs] at h;exact absurd rfl h
theorem Ks {n:Bs} (hn:n≠[]) (X Y:Bs):opF (n++125::X)=opF (n++125::Y):=by
 cases n with
 | nil=>exact absurd rfl hn
 | cons c t=>
  unfold opF gH;rw [xF (q:=fun o=>aI o (c::t++125::Y)) gG fun o ho=>?_];have h2:∀o∈gG,(∃a,o=[a])∨∃a b,o=[a,b]:=by
   intro o ho;simp only [gG,List.mem_cons,List.not_mem_nil,or_false] at ho;rcases ho with rfl | rfl | rfl | rfl | rfl | rfl | rfl | rfl | rfl | rfl | rfl | rfl
   all_goals first | exact .inl ⟨_,rfl⟩ | exact .inr ⟨_,_,rfl⟩
  rcases h2 o ho with ⟨a,rfl⟩ | ⟨a,b,rfl⟩
  ·cases t<;>rfl
  ·cases t with
   | nil=>rfl
   | cons e u=>cases u<;>rfl
theorem P1 {r:Bs} (h:(opF r).isEmpty=false):opF r∈gG:=by
 unfold opF gH at h ⊢;cases hf:gG.find? (fun o=>aI o r) with
 | none=>rw [hf] at h;cases h
 | some o=>exact List.mem_of_find?_eq_some hf
/-! Tidied parts. -/
theorem At {stop:UInt8→Bool} {q:Bool} {d:Nat}:∀{l:List Pt},(∀p∈l,OkP stop q d p)→gD stop q d l
 | [],_=>by unfold gD;trivial
 | p::l,h=>by
  unfold gD;exact⟨h p (List.mem_cons_self ..),At fun x hx=>h x (List.mem_cons_of_mem _ hx)⟩
theorem uL:∀{l:List Pt} {x:Pt},NoJ l→(∀z,l.getLast? = some z→z.joins x=false)→NoJ (l++[x])
 | [],x,_,_=>trivial
 | [a],x,_,h=>⟨h a rfl,trivial⟩
 | a::b::l,x,hj,h=>⟨hj.1,uL hj.2 (fun z hz=>h z (by rw [List.getLast?_cons_cons];exact hz))⟩
theorem Bt:∀{l:List Pt} {x:Pt},NoJ (l++[x])→NoJ l∧∀z,l.getLast? = some z→z.joins x=false
 | [],x,_=>⟨trivial,fun z hz=>by cases hz⟩
 | [a],x,h=>⟨trivial,fun z hz=>by obtain rfl:=Option.some.inj hz;exact h.1⟩
 | a::b::l,x,h=>by
  obtain⟨i1,i2⟩:=Bt (l:=b::l) (x:=x) h.2;exact⟨⟨h.1,i1⟩,fun z hz=>i2 z (by rw [List.getLast?_cons_cons] at hz;exact hz)⟩
theorem Km {stop:UInt8→Bool} {q:Bool} {d:Nat} {y x:Pt} (hy:OkP stop q d y) (hx:OkP stop q d x) (hj:y.joins x=true):OkP stop q d (y.join x):=by
 obtain⟨k,t,n,o,w,pq⟩:=y;obtain⟨k2,t2,n2,o2,w2,pq2⟩:=x;unfold Pt.joins at hj;simp only [Pt.kind,Bool.and_eq_true,Bool.or_eq_true,beq_iff_eq] at hj;obtain⟨rfl,hk⟩:=hj;unfold OkP at hx hy;unfold Pt.join;simp only [Pt.kind,Pt.text,Pt.name,Pt.op,Pt.word,Pt.quoted];unfold OkP;refine⟨fun c hc=>(List.mem_append.1 hc).elim (hy.1 c) (hx.1 c),hy.2.1,?_⟩;rcases hy.2.2 with ⟨rfl,rfl,h1,h2,h3⟩ | ⟨rfl,h1,h3⟩ | ⟨rfl,_⟩ | ⟨rfl,_⟩ | ⟨rfl,_⟩
 ·rcases hx.2.2 with ⟨_,_,g1,g2,_⟩ | ⟨g,_⟩ | ⟨g,_⟩ | ⟨g,_⟩ | ⟨g,_⟩
  ·exact .inl ⟨rfl,rfl,by simp [h1],fun c hc=>(List.mem_append.1 hc).elim (h2 c) (g2 c),h3⟩
  all_goals cases g
 ·rcases hx.2.2 with ⟨g,_⟩ | ⟨_,g1,_⟩ | ⟨g,_⟩ | ⟨g,_⟩ | ⟨g,_⟩
  ·cases g
  ·exact .inr (.inl ⟨rfl,fun hq=>⟨by simp [(h1 hq).1],fun c hc=>(List.mem_append.1 hc).elim ((h1 hq).2 c) ((g1 hq).2 c)⟩,h3⟩)
  all_goals cases g
 all_goals rcases hk with hk | hk<;>cases hk
theorem Eg {z y x:Pt}:z.joins (y.join x)=z.joins y:=by
 cases y;cases x;rfl
theorem Rc {y x:Pt} (h:x.isE=false) (hk:y.kind=x.kind):(y.join x).isE=false:=by
 obtain⟨k,t,n,o,w,pq⟩:=y;obtain⟨k2,t2,n2,o2,w2,pq2⟩:=x;have hk':k=k2:=hk;subst hk';unfold Pt.isE at h ⊢;unfold Pt.join;simp only [Pt.kind,Pt.text] at h ⊢;cases hk2:(k==2) with
 | false=>rfl
 | true=>
  rw [hk2,Bool.true_and] at h;rw [Bool.true_and];cases t2 with
  | nil=>cases h
  | cons a b=>cases t<;>rfl
theorem B4 {stop:UInt8→Bool} {q:Bool} {d:Nat}:∀(l:List Pt) (a:List Pt×Bool),(∀p∈l,OkP stop q d p)→(∀p∈a.1,OkP stop q d p)→NoJ a.1→(∀p∈a.1,p.isE=false)→(a.2=true→q=true→a.1≠[])→
 (∀p∈(l.foldl cH a).1,OkP stop q d p)∧NoJ (l.foldl cH a).1∧(∀p∈(l.foldl cH a).1,p.isE=false)∧((l.foldl cH a).2=true→q=true→(l.foldl cH a).1≠[])
 | [],a,_,h1,h2,h3,h4=>⟨h1,h2,h3,h4⟩
 | x::l,a,hl,h1,h2,h3,h4=>by
  rw [List.foldl_cons];have hx:=hl x (List.mem_cons_self ..);refine B4 l _ (fun p hp=>hl p (List.mem_cons_of_mem _ hp)) ?_ ?_ ?_ ?_
  all_goals unfold cH
  all_goals by_cases hE:x.isE=true
  all_goals first | rw [if_pos hE] | rw [if_neg hE]
  ·exact h1
  ·dsimp only;unfold iA;split
   ·next y hy=>
    have hym:=List.mem_of_getLast? hy;split
    ·next hj=>
     intro p hp;rcases List.mem_append.1 hp with hp | hp
     ·exact h1 p (List.dropLast_subset _ hp)
     ·rw [List.mem_singleton.1 hp];exact Km (h1 y hym) hx hj
    ·intro p hp;rcases List.mem_append.1 hp with hp | hp
     ·exact h1 p hp
     ·rw [List.mem_singleton.1 hp];exact hx
   ·intro p hp;rw [List.mem_singleton.1 hp];exact hx
  ·exact h2
  ·dsimp only;unfold iA;split
   ·next y hy=>
    have hs:a.1.dropLast++[y]=a.1:=by
     obtain⟨u,hu⟩:=List.getLast?_eq_some_iff.1 hy;rw [hu,List.dropLast_concat]
    split
    ·next hj=>
     obtain⟨i1,i2⟩:=Bt (l:=a.1.dropLast) (x:=y) (by rw [hs];exact h2);exact uL i1 (fun z hz=>by rw [Eg];exact i2 z hz)
    ·next hj=>exact uL h2 (fun z hz=>by rw [hy] at hz;obtain rfl:=Option.some.inj hz;simpa using hj)
   ·trivial
  ·exact h3
  ·dsimp only;unfold iA;split
   ·next y hy=>
    have hym:=List.mem_of_getLast? hy;split
    ·next hj=>
     intro p hp;rcases List.mem_append.1 hp with hp | hp
     ·exact h3 p (List.dropLast_subset _ hp)
     ·rw [List.mem_singleton.1 hp];refine Rc (by simpa using hE) ?_;unfold Pt.joins at hj;rw [Bool.and_eq_true] at hj;exact beq_iff_eq.1 hj.1
    ·intro p hp;rcases List.mem_append.1 hp with hp | hp
     ·exact h3 p hp
     ·rw [List.mem_singleton.1 hp];simpa using hE
   ·intro p hp;rw [List.mem_singleton.1 hp];simpa using hE
  ·intro _ hq;exfalso;obtain⟨k,t,n,o,w,pq⟩:=x;unfold Pt.isE at hE;simp only [Pt.kind,Pt.text,Bool.and_eq_true,beq_iff_eq,List.isEmpty_iff] at hE;obtain⟨rfl,rfl⟩:=hE;unfold OkP at hx;rcases hx.2.2 with ⟨g,_⟩ | ⟨_,g1,_⟩ | ⟨g,_⟩ | ⟨g,_⟩ | ⟨g,_⟩
   ·cases g
   ·exact (g1 hq).1 rfl
   all_goals cases g
  ·intro _ _;dsimp only;unfold iA;split
   ·split<;>simp
   ·simp
theorem G6 {stop:UInt8→Bool} {q:Bool} {d:Nat} {l:List Pt} (h:∀p∈l,OkP stop q d p):gD stop q d (cT l)∧wW (cT l):=by
 obtain⟨i1,i2,i3,i4⟩:=B4 l ([],false) h (fun p hp=>by cases hp) trivial (fun p hp=>by cases hp) (fun h=>by cases h);unfold cT;split
 ·next hc=>
  rw [Bool.and_eq_true] at hc;have h0:(eS l).1=[]:=List.isEmpty_iff.1 hc.1;have hq:q=false:=by
   cases q with
   | false=>rfl
   | true=>exact absurd h0 (i4 hc.2 rfl)
  subst hq;refine⟨At fun p hp=>?_,.inl rfl⟩;rw [List.mem_singleton.1 hp];show OkP stop false d (.mk 2 [] [] [] [] false);unfold OkP;exact⟨(fun c hc=>by cases hc),(fun c hc=>by cases hc),.inr (.inl ⟨rfl,(fun h=>by cases h),rfl,rfl,rfl,rfl⟩)⟩
 ·exact⟨At i1,.inr ⟨i2,i3⟩⟩
theorem NZ.tail {c:UInt8} {t:Bs} (h:NZ (c::t)):NZ t:=fun x hx=>h x (List.mem_cons_of_mem _ hx)
theorem NZ.drop {r:Bs} (h:NZ r) (k:Nat):NZ (r.drop k):=fun x hx=>h x (List.mem_of_mem_drop hx)
theorem NZ.take {r:Bs} (h:NZ r) (k:Nat):NZ (r.take k):=fun x hx=>h x (List.mem_of_mem_take hx)
theorem NZ.tl {r:Bs} (h:NZ r):NZ r.tail:=fun x hx=>h x (List.mem_of_mem_tail hx)
theorem NZ.nil:NZ []:=fun x hx=>by cases hx
theorem NZ.one {c:UInt8} (h:c≠0):NZ [c]:=fun x hx=>by rw [List.mem_singleton.1 hx];exact h
theorem Gt {stop:UInt8→Bool} {d:Nat} {c:UInt8} (h:txB c=true) (hs:stop c=false) (h0:c≠0):OkP stop false d (eG [c]):=by
 show OkP stop false d (.mk 1 [c] [] [] [] false);unfold OkP;exact⟨NZ.one h0,NZ.nil,.inl ⟨rfl,rfl,by simp,fun x hx=>by rw [List.mem_singleton.1 hx];exact⟨h,hs⟩,rfl,rfl,rfl,rfl⟩⟩
theorem Ap {stop:UInt8→Bool} {q:Bool} {d:Nat} {s:Bs} (hz:NZ s) (h:q=true→s≠[]∧∀c∈s,stop c=false):OkP stop q d (cG s):=by
 show OkP stop q d (.mk 2 s [] [] [] false);unfold OkP;exact⟨hz,NZ.nil,.inr (.inl ⟨rfl,h,rfl,rfl,rfl,rfl⟩)⟩
theorem nN {stop:UInt8→Bool} {q:Bool} {d:Nat} {c:UInt8} (hz:c≠0) (h:q=true→stop c=false):OkP stop q d (cG [c]):=
 Ap (NZ.one hz) fun hq=>⟨by simp,fun x hx=>by rw [List.mem_singleton.1 hx];exact h hq⟩
theorem Ns {stop stop':UInt8→Bool} {d:Nat} {p:Pt} (h:OkP stop true d p):OkP stop' false d p:=by
 obtain⟨k,t,n,o,w,pq⟩:=p;unfold OkP at h ⊢;refine⟨h.1,h.2.1,?_⟩;rcases h.2.2 with ⟨_,g,_⟩ | ⟨rfl,_,h3⟩ | ⟨rfl,_,h3⟩ | ⟨rfl,_,h3⟩ | ⟨rfl,_,h3⟩
 ·cases g
 ·exact .inr (.inl ⟨rfl,(fun h=>by cases h),h3⟩)
 ·exact .inr (.inr (.inl ⟨rfl,(fun h=>by cases h),h3⟩))
 ·exact .inr (.inr (.inr (.inl ⟨rfl,(fun h=>by cases h),h3⟩)))
 ·exact .inr (.inr (.inr (.inr ⟨rfl,(fun h=>by cases h),h3⟩)))
def MG (md:Md) (d:Nat) (r:Bs) (l:List Pt):Prop:=match md with
 | .one q=>∀stop,qI stop→(∀c t,r=c::t→stop c=false)→∀p∈l,OkP stop q d p
 | .dq=>∀p∈l,OkP (fun _=>false) true d p
 | .br q=>∀p∈l,OkP brS q d p
 | .dol q=>∀stop,qI stop→∀p∈l,OkP stop q d p
 | .brace q=>∀stop,∀p∈l,OkP stop q d p
theorem fU {P:Pt→Prop} {x:Pt} (h:P x):∀p∈[x],P p:=fun p hp=>by rw [List.mem_singleton.1 hp];exact h
theorem uE {P:Pt→Prop} {l m:List Pt} (h:∀p∈l,P p) (h2:∀p∈m,P p):∀p∈l++m,P p:=fun p hp=>(List.mem_append.1 hp).elim (h p) (h2 p)
theorem Mq {stop:UInt8→Bool} (hs:qI stop) {c:UInt8} (h:nM c=true):stop c=false:=by
 simp only [nM,Bool.or_eq_true,beq_iff_eq] at h;rcases h with ((rfl | rfl) | rfl) | rfl
 ·exact hs.c
 ·exact hs.b
 ·exact hs.d
 ·exact hs.e
theorem Qf:qI (fun _=>false):=⟨rfl,rfl,rfl,rfl,rfl⟩
theorem Pr:∀(n:Nat) (md:Md) (d:Nat) (r:Bs) (l:List Pt) (r1:Bs),d≤40→NZ r→dJ n md d r=.ok (l,r1)→NZ r1∧MG md d r l:=by
 intro n;induction n with
 | zero=>intro md d r l r1 _ _ h;cases md<;>cases h
 | succ n ih=>
  intro md d r l r1 hd hz h;cases md with
  | one q=>
   cases r with
   | nil=>
    have h2:dJ (n+1) (.one q) d []=.ok ([],[]):=by cases q<;>rfl
    rw [h2] at h;obtain⟨rfl,rfl⟩:=Prod.mk.inj (Except.ok.inj h);exact⟨hz,fun _ _ _ p hp=>by cases hp⟩
   | cons c t=>
    have hzt:=hz.tail;have hc0:c≠0:=hz c (List.mem_cons_self ..);cases q with
    | false=>
     rw [kP] at h;by_cases h39:(c==39)=true
     ·rw [if_pos h39] at h;cases hu:fJ 39 t with
      | none=>rw [hu] at h;cases h
      | some k=>
       rw [hu] at h;obtain⟨rfl,rfl⟩:=Prod.mk.inj (Except.ok.inj h);exact⟨hzt.drop _,fun stop _ _=>fU (Ap (hzt.take _) (fun h=>by cases h))⟩
     rw [if_neg h39] at h;by_cases h34:(c==34)=true
     ·rw [if_pos h34] at h;obtain⟨m,hm,rfl⟩:=eL h;obtain⟨i1,i2⟩:=ih .dq d t m r1 hd hzt hm;exact⟨i1,fun stop _ _=>uE (fU (Ap NZ.nil (fun h=>by cases h))) (fun p hp=>Ns (i2 p hp))⟩
     rw [if_neg h34] at h;by_cases h92:(c==92)=true
     ·rw [if_pos h92] at h;cases t with
      | nil=>
       obtain⟨rfl,rfl⟩:=Prod.mk.inj (Except.ok.inj h);exact⟨NZ.nil,fun stop _ _=>fU (nN (by decide) (fun h=>by cases h))⟩
      | cons y t'=>
       dsimp only at h;split at h
       ·obtain⟨rfl,rfl⟩:=Prod.mk.inj (Except.ok.inj h);exact⟨hzt.tail,fun stop _ _ p hp=>by cases hp⟩
       ·obtain⟨rfl,rfl⟩:=Prod.mk.inj (Except.ok.inj h);exact⟨hzt.tail,fun stop _ _=>fU (nN (hzt y (List.mem_cons_self ..)) (fun h=>by cases h))⟩
     rw [if_neg h92] at h;by_cases h96:(c==96)=true
     ·rw [if_pos h96] at h;cases h
     rw [if_neg h96] at h;by_cases h36:(c==36)=true
     ·rw [if_pos h36] at h;obtain⟨i1,i2⟩:=ih (.dol false) d t l r1 hd hzt h;exact⟨i1,fun stop hs _=>i2 stop hs⟩
     rw [if_neg h36] at h;obtain⟨rfl,rfl⟩:=Prod.mk.inj (Except.ok.inj h);refine⟨hzt,fun stop hs hst=>fU (Gt ?_ (hst c t rfl) hc0)⟩;rw [Bool.not_eq_true] at h39 h34 h92 h96 h36;unfold txB sW;rw [h39,h34,h92,h96,h36];rfl
    | true=>
     rw [mG] at h;by_cases h34:(c==34 || c==96)=true
     ·rw [if_pos h34] at h;cases h
     rw [if_neg h34] at h;by_cases ha:(c==92 && aW 10 t)=true
     ·rw [if_pos ha] at h;obtain⟨rfl,rfl⟩:=Prod.mk.inj (Except.ok.inj h);exact⟨hzt.tl,fun stop _ _ p hp=>by cases hp⟩
     rw [if_neg ha] at h;by_cases hb:(c==92 && nM (t.headD 0))=true
     ·rw [if_pos hb] at h;obtain⟨rfl,rfl⟩:=Prod.mk.inj (Except.ok.inj h);rw [Bool.and_eq_true] at hb;refine⟨hzt.tl,fun stop hs _=>fU (nN ?_ (fun _=>Mq hs hb.2))⟩;intro h0;rw [h0] at hb;cases hb.2
     rw [if_neg hb] at h;by_cases h36:(c==36)=true
     ·rw [if_pos h36] at h;obtain⟨i1,i2⟩:=ih (.dol true) d t l r1 hd hzt h;exact⟨i1,fun stop hs _=>i2 stop hs⟩
     rw [if_neg h36] at h;obtain⟨rfl,rfl⟩:=Prod.mk.inj (Except.ok.inj h);exact⟨hzt,fun stop hs hst=>fU (nN hc0 (fun _=>hst c t rfl))⟩
  | dq=>
   rw [oS] at h;cases r with
   | nil=>cases h
   | cons c t=>
    dsimp only at h;by_cases h34:(c==34)=true
    ·rw [if_pos h34] at h;obtain⟨rfl,rfl⟩:=Prod.mk.inj (Except.ok.inj h);exact⟨hz.tail,fun p hp=>by cases hp⟩
    ·rw [if_neg h34] at h;cases h2:dJ n (.one true) d (c::t) with
     | error e=>rw [h2] at h;cases h
     | ok z=>
      obtain⟨l2,r2⟩:=z;rw [h2] at h;obtain⟨m,hm,rfl⟩:=eL h;obtain⟨i1,i2⟩:=ih (.one true) d (c::t) l2 r2 hd hz h2;obtain⟨j1,j2⟩:=ih .dq d r2 m r1 hd i1 hm;exact⟨j1,uE (i2 _ Qf (fun _ _ _=>rfl)) j2⟩
  | br q=>
   rw [o0] at h;cases r with
   | nil=>cases h
   | cons c t=>
    dsimp only at h;by_cases h34:(c==125)=true
    ·rw [if_pos h34] at h;obtain⟨rfl,rfl⟩:=Prod.mk.inj (Except.ok.inj h);exact⟨hz.tail,fun p hp=>by cases hp⟩
    ·rw [if_neg h34] at h;cases h2:dJ n (.one q) d (c::t) with
     | error e=>rw [h2] at h;cases h
     | ok z=>
      obtain⟨l2,r2⟩:=z;rw [h2] at h;obtain⟨m,hm,rfl⟩:=eL h;obtain⟨i1,i2⟩:=ih (.one q) d (c::t) l2 r2 hd hz h2;obtain⟨j1,j2⟩:=ih (.br q) d r2 m r1 hd i1 hm;refine⟨j1,uE (i2 _ L7 (fun c' t' e=>?_)) j2⟩;injection e with e1 e2;subst e1;simpa [brS] using h34
  | dol q=>
   rw [mH] at h;by_cases h1:aW 123 r=true
   ·rw [if_pos h1] at h;obtain⟨i1,i2⟩:=ih (.brace q) d r.tail l r1 hd hz.tl h;exact⟨i1,fun stop _=>i2 stop⟩
   rw [if_neg h1] at h;by_cases h2:aI [40,40] r=true
   ·rw [if_pos h2] at h;cases hu:cV 0 (r.drop 2) with
    | none=>rw [hu] at h;cases h
    | some k=>
     rw [hu] at h;obtain⟨rfl,rfl⟩:=Prod.mk.inj (Except.ok.inj h);obtain⟨i1,i2⟩:=o5 _ _ _ hu;refine⟨(hz.drop _).drop _,fun stop _=>fU ?_⟩;unfold OkP;exact⟨(hz.drop _).take _,NZ.nil,.inr (.inr (.inl ⟨rfl,(fun h=>h),by rw [i2];exact i1,rfl,rfl,rfl⟩))⟩
   rw [if_neg h2] at h;by_cases h3:aW 40 r=true
   ·rw [if_pos h3] at h;obtain⟨t,rfl⟩:=jV h3;rw [List.tail_cons] at h;cases hu:bP .n 0 t with
    | none=>rw [hu] at h;cases h
    | some k=>
     rw [hu] at h;obtain⟨rfl,rfl⟩:=Prod.mk.inj (Except.ok.inj h);obtain⟨i1,i2⟩:=Bx _ _ _ _ hu;have h40:aW 40 (t.take k)=false:=by
      cases t with
      | nil=>rw [List.take_nil];rfl
      | cons c u=>
       have h5:((40:UInt8)==c)=false:=by
        have h6:aI [40,40] (40::c::u)=((40:UInt8)==c):=by
         show ((40:UInt8)==40 && ((40:UInt8)==c && aI [] u))=_;cases u<;>simp [aI]
        rw [h6] at h2;simpa using h2
       cases k with
       | zero=>rfl
       | succ k=>show (c==40)=false;rw [Bool.beq_comm];exact h5
     refine⟨hz.tail.drop _,fun stop _=>fU ?_⟩;unfold OkP;exact⟨hz.tail.take _,NZ.nil,.inr (.inr (.inr (.inl ⟨rfl,(fun h=>h),h40,by rw [i2];exact i1,rfl,rfl,rfl⟩)))⟩
   rw [if_neg h3] at h;by_cases h4:bT false r=0
   ·rw [if_pos h4] at h;obtain⟨rfl,rfl⟩:=Prod.mk.inj (Except.ok.inj h);refine⟨hz,fun stop hs=>fU ?_⟩;cases q with
    | true=>exact nN (by decide) (fun _=>hs.c)
    | false=>exact Gt (by decide) hs.c (by decide)
   ·rw [if_neg h4] at h;obtain⟨rfl,rfl⟩:=Prod.mk.inj (Except.ok.inj h);refine⟨hz.drop _,fun stop _=>fU ?_⟩;unfold OkP;exact⟨NZ.nil,hz.take _,.inr (.inr (.inr (.inr ⟨rfl,(fun h=>h),rfl,vD _ _ h4,.inl ⟨rfl,rfl⟩⟩)))⟩
  | brace q=>
   rw [jA] at h;obtain⟨r0,hr0⟩:∃r0,r0=(if bK r then r.tail else r):=⟨_,rfl⟩;rw [←hr0] at h;have hz0:NZ r0:=by
    rw [hr0];split
    ·exact hz.tl
    ·exact hz
   by_cases h0:bT true r0=0
   ·rw [if_pos h0] at h;cases h
   rw [if_neg h0] at h;have hN:=vD _ _ h0;by_cases h1:aW 125 (r0.drop (bT true r0))=true
   ·rw [if_pos h1] at h;obtain⟨rfl,rfl⟩:=Prod.mk.inj (Except.ok.inj h);refine⟨(hz0.drop _).tl,fun stop=>fU ?_⟩;unfold OkP;refine⟨NZ.nil,hz0.take _,.inr (.inr (.inr (.inr ⟨rfl,(fun h=>h),rfl,hN,?_⟩)))⟩;by_cases hl:bK r=true
    ·rw [if_pos hl];refine .inr (.inl ⟨rfl,rfl,fun X=>?_⟩);rw [if_pos hl] at hr0;obtain⟨u,hu⟩:=jV h1;have he:r0=r0.take (bT true r0)++125::u:=by rw [←hu,List.take_append_drop]
     generalize r0.take (bT true r0)=nm at he hN;have hne:=hN.1;cases r with
     | nil=>cases hl
     | cons c t=>
      rw [List.tail_cons] at hr0;subst hr0;unfold bK at hl ⊢;rw [List.tail_cons] at hl ⊢;rw [he,Ks hne u X] at hl;rw [Bool.and_eq_true,Bool.and_eq_true] at hl;rw [hl.2,show aW 35 (35::(nm++125::X))=true from rfl];have h5:=hl.1.2;cases nm with
      | nil=>exact absurd rfl hne
      | cons a b=>
       rw [List.cons_append] at h5 ⊢;rw [show aW 125 (a::(b++125::X))=(a==125) from rfl];rw [show aW 125 (a::(b++125::u))=(a==125) from rfl] at h5;rw [h5];rfl
    ·rw [if_neg hl];exact .inl ⟨rfl,rfl⟩
   rw [if_neg h1] at h;by_cases h2:((opF (r0.drop (bT true r0))).isEmpty || bK r)=true
   ·rw [if_pos h2] at h;cases h
   rw [if_neg h2] at h;by_cases h3:d=40
   ·rw [if_pos h3] at h;cases h
   rw [if_neg h3] at h;cases h4:dJ n (.br q) (d+1) ((r0.drop (bT true r0)).drop (opF (r0.drop (bT true r0))).length) with
   | error e=>rw [h4] at h;cases h
   | ok z=>
    obtain⟨l2,r3⟩:=z;rw [h4] at h;obtain⟨rfl,rfl⟩:=Prod.mk.inj (Except.ok.inj h);obtain⟨i1,i2⟩:=ih (.br q) (d+1) _ l2 r3 (by omega) ((hz0.drop _).drop _) h4;refine⟨i1,fun stop=>fU ?_⟩;obtain⟨j1,j2⟩:=G6 i2;rw [Bool.not_eq_true,Bool.or_eq_false_iff] at h2;unfold OkP;exact⟨NZ.nil,hz0.take _,.inr (.inr (.inr (.inr ⟨rfl,(fun h=>h),rfl,hN,.inr (.inr ⟨P1 h2.1,by omega,j1,j2⟩)⟩)))⟩
/-! Words. -/
def wS (wh:Bool) (c:UInt8):Bool:=!wh && bJ c
theorem J3 (wh:Bool):qI (wS wh):=by
 cases wh
 ·exact⟨rfl,rfl,rfl,rfl,rfl⟩
 ·exact⟨rfl,rfl,rfl,rfl,rfl⟩
theorem u9 (wh:Bool):∀(n:Nat) (r:Bs) (l:List Pt) (r1:Bs),NZ r→i5 wh n r=.ok (l,r1)→NZ r1∧∀p∈l,OkP (wS wh) false 0 p
 | 0,_,_,_,_,h=>by cases h
 | n+1,[],l,r1,hz,h=>by
  obtain⟨rfl,rfl⟩:=Prod.mk.inj (Except.ok.inj h);exact⟨hz,fun p hp=>by cases hp⟩
 | n+1,c::t,l,r1,hz,h=>by
  unfold i5 at h;dsimp only at h;split at h
  ·obtain⟨rfl,rfl⟩:=Prod.mk.inj (Except.ok.inj h);exact⟨hz,fun p hp=>by cases hp⟩
  ·next hb=>
   split at h
   ·cases h
   ·next l2 r2 h2=>
    obtain⟨m,hm,rfl⟩:=eL h;obtain⟨i1,i2⟩:=Pr _ _ _ _ _ _ (by omega) hz h2;obtain⟨j1,j2⟩:=u9 wh n r2 m r1 i1 hm;exact⟨j1,uE (i2 _ (J3 wh) (fun c' t' e=>by
     injection e with e1 e2;subst e1;simpa [wS] using hb)) j2⟩
structure pO (wh:Bool) (w:List Pt):Prop where
 ok:gD (wS wh) false 0 w
 tidy:wW w
theorem Ml {wh:Bool} {n:Nat} {r:Bs} {l:List Pt} {r1:Bs} (hz:NZ r) (h:i5 wh n r=.ok (l,r1)):pO wh (cT l):=by
 obtain⟨h1,h2⟩:=G6 (u9 wh n r l r1 hz h).2;exact⟨h1,h2⟩
theorem Jp {wh:Bool} {w:List Pt} (h:pO wh w) {X:Bs} (hX:X=[]∨∃c t,X=c::t∧wS wh c=true∧j7 c=false):∃l,oB wh (bF w++X)=.ok (l,X)∧cT l=w:=by
 have hR:sM X:=by
  rcases hX with rfl | ⟨c,t,rfl,_,hc⟩
  ·rfl
  ·exact hc
 obtain⟨raw,h1,h2⟩:=vQ w (wS wh) false 0 X (J3 wh) h.ok h.tidy.noj hR;have hX':X=[]∨∃c t,X=c::t∧(!wh && bJ c)=true:=by
  rcases hX with rfl | ⟨c,t,rfl,hc,_⟩
  ·exact .inl rfl
  ·exact .inr ⟨c,t,rfl,hc⟩
 have h3:cT raw=w:=h2.tidy.trans h.tidy.fix;unfold bF nI;cases w with
 | nil=>exact⟨raw,Stp.word h1 hX',h3⟩
 | cons p l=>
  dsimp only;by_cases hs:(p.kind==1 && aI [35] p.text)=true
  ·rw [if_pos hs];have hne:Eqv ([cG []]++raw) (p::l):=by
    intro N;have hp:p.isE=false:=by
     rw [Bool.and_eq_true] at hs;unfold Pt.isE;rw [show p.kind=1 from beq_iff_eq.1 hs.1];rfl
    rw [List.foldl_append,h2];show (p::l).foldl cH (N.1,true)=(p::l).foldl cH N;rw [List.foldl_cons,List.foldl_cons];congr 1
   refine⟨[cG []]++raw,Stp.word (.more (c:=39) (t:=39::(aL false (p::l)++X)) (r1:=aL false (p::l)++X) (J3 wh).a ?_ h1) hX',hne.tidy.trans h.tidy.fix⟩;rw [eJ];rfl
  ·rw [if_neg hs];exact⟨raw,Stp.word h1 hX',h3⟩
/-! What parts weigh, all the way down. -/
mutual
def wdP:Pt→Nat
 | .mk _ t n o w _=>t.length+n.length+o.length+1+wdL w
def wdL:List Pt→Nat
 | []=>0
 | p::l=>wdP p+wdL l
end
theorem fH:wdL []=0:=by rw [wdL]
theorem mK (p:Pt) (l:List Pt):wdL (p::l)=wdP p+wdL l:=by rw [wdL]
theorem sZ (p:Pt):wdP p=p.text.length+p.name.length+p.op.length+1+wdL p.word:=by cases p;rw [wdP];rfl
theorem lL:∀a b:List Pt,wdL (a++b)=wdL a+wdL b
 | [],b=>by rw [fH,List.nil_append,Nat.zero_add]
 | p::a,b=>by rw [List.cons_append,mK,mK,lL a b];omega
theorem eA (p:Pt):wdL [p]=wdP p:=by rw [mK,fH];rfl
theorem oF (s:Bs):wdP (cG s)=s.length+1:=by rw [sZ];show s.length+0+0+1+wdL []=_;rw [fH]
theorem Em (s:Bs):wdP (eG s)=s.length+1:=by rw [sZ];show s.length+0+0+1+wdL []=_;rw [fH]
theorem sG (k:Nat) (t n o:Bs) (w:List Pt) (q:Bool):wdP (.mk k t n o w q)=t.length+n.length+o.length+1+wdL w:=by rw [wdP]
theorem Nn (y x:Pt):wdP (y.join x)≤wdP y+wdP x:=by
 rw [sZ,sZ y,sZ x];unfold Pt.join;simp only [Pt.text,Pt.name,Pt.op,Pt.word,lA];omega
theorem Qb (out:List Pt) (x:Pt):wdL (iA out x)≤wdL out+wdP x:=by
 unfold iA;split
 ·next y hy=>
  split
  ·obtain⟨u,hu⟩:=List.getLast?_eq_some_iff.1 hy;rw [hu,List.dropLast_concat,lL,lL,eA,eA];have:=Nn y x;omega
  ·rw [lL,eA];exact Nat.le_refl _
 ·rw [eA];omega
theorem Fu:∀(l:List Pt) (N:List Pt×Bool),wdL (l.foldl cH N).1≤wdL N.1+wdL l
 | [],N=>Nat.le_add_right _ _
 | x::l,N=>by
  rw [List.foldl_cons,mK];have h:=Fu l (cH N x);have h2:wdL (cH N x).1≤wdL N.1+wdP x:=by
   unfold cH;split
   ·exact Nat.le_add_right _ _
   ·exact Qb _ _
  omega
theorem Gc (l:List Pt):wdL (cT l)≤wdL l:=by
 unfold cT;split
 ·next h=>
  cases l with
  | nil=>exact absurd h (by decide)
  | cons p l=>
   rw [eA,oF,mK,sZ];simp only [lN];omega
 ·have:=Fu l ([],false);rw [show wdL ([]:List Pt)=0 from fH,Nat.zero_add] at this;exact this
theorem uK:∀s:Bs,(bW s).length≤3*s.length
 | []=>Nat.zero_le _
 | c::t=>by
  have h:=uK t;rw [cI];split
  ·simp only [lC];omega
  ·simp only [lC];omega
theorem Cx:∀s:Bs,(kE s).length≤2*s.length
 | []=>Nat.zero_le _
 | c::t=>by
  have h:=Cx t;unfold kE at h ⊢;rw [List.flatMap_cons,lA];split
  ·simp only [lC,lN];omega
  ·simp only [lC,lN];omega
theorem Kl (s:Bs):(qQ s).length≤4*s.length+2:=by
 have h:∀s:Bs,(s.flatMap fQ).length≤4*s.length:=fun s=>by
  induction s with
  | nil=>exact Nat.zero_le _
  | cons c t ih=>
   rw [List.flatMap_cons,lA,lC];have:(fQ c).length≤4:=by unfold fQ;split<;>simp
   omega
 unfold qQ;rw [lC,lA];have:=h s;simp only [lC,lN];omega
theorem I1 (o:Bs) (w:List Pt):(fO o w).length≤2:=by
 unfold fO;split<;>simp
theorem Kd (b:Bool):(if b then [(34:UInt8)] else []).length≤1:=by cases b<;>simp
mutual
theorem Hh:∀(p:Pt) (q:Bool),(dC q p).length≤10*wdP p
 | .mk k t n o w pq,q=>by
  rw [dC,sG];have h0:=Kd (pq && !q);have h1:=uK t;have h2:=Cx t;have h3:=Kl t;have h4:=I1 o w;have h5:=pU w pq;split
  ·omega
  split
  ·split<;>omega
  simp only [lA];have h6:(if k=4 then 36::40::40::(t++[41,41]) else if k=5 then 36::40::(t++[41]) else if k=3 then (if o=[76] then 36::123::35::(n++[125]) else 36::123::(n++(o++(fO o w++(aL pq w++[125]))))) else []).length≤t.length+n.length+o.length+2+(aL pq w).length+5:=by
   split
   ·simp only [lC,lA,lN];omega
   split
   ·simp only [lC,lA,lN];omega
   split
   ·split
    ·simp only [lC,lA,lN];omega
    ·simp only [lC,lA,lN];omega
   ·simp
  omega
theorem pU:∀(l:List Pt) (q:Bool),(aL q l).length≤10*wdL l
 | [],q=>by rw [aL];exact Nat.zero_le _
 | p::l,q=>by
  rw [aL,mK,lA];have h1:=Hh p q;have h2:=pU l q;omega
end
theorem yQ (w:List Pt):(bF w).length≤10*wdL w+2:=by
 unfold bF;rw [lA];have h:=pU w false;have h2:(nI w).length≤2:=by
  unfold nI;cases w with
  | nil=>exact Nat.zero_le _
  | cons p l=>dsimp only;split<;>simp
 omega
/-! What is read. -/
def cst:Md→Nat
 | .dol _=>2
 | _=>0
theorem Pz:∀(n:Nat) (md:Md) (d:Nat) (r:Bs) (l:List Pt) (r1:Bs),dJ n md d r=.ok (l,r1)→wdL l+2*r1.length≤2*r.length+cst md:=by
 intro n;induction n with
 | zero=>intro md d r l r1 h;cases md<;>cases h
 | succ n ih=>
  intro md d r l r1 h;cases md with
  | one q=>
   cases r with
   | nil=>
    have h2:dJ (n+1) (.one q) d []=.ok ([],[]):=by cases q<;>rfl
    rw [h2] at h;obtain⟨rfl,rfl⟩:=Prod.mk.inj (Except.ok.inj h);rw [fH];exact Nat.zero_le _
   | cons c t=>
    rw [lC];have htl:t.tail.length=t.length - 1:=List.length_tail;cases q with
    | false=>
     rw [kP] at h;split at h
     ·split at h
      ·cases h
      ·next k hu=>
       obtain⟨rfl,rfl⟩:=Prod.mk.inj (Except.ok.inj h);rw [eA,oF,List.length_take,List.length_drop];omega
     split at h
     ·obtain⟨m,hm,rfl⟩:=eL h;have:=ih .dq d t m r1 hm;rw [lL,eA,oF];simp only [lN,cst] at this ⊢;omega
     split at h
     ·cases t with
      | nil=>
       obtain⟨rfl,rfl⟩:=Prod.mk.inj (Except.ok.inj h);rw [eA,oF];simp
      | cons y t'=>
       dsimp only at h;split at h
       ·obtain⟨rfl,rfl⟩:=Prod.mk.inj (Except.ok.inj h);rw [fH,lC];omega
       ·obtain⟨rfl,rfl⟩:=Prod.mk.inj (Except.ok.inj h);rw [eA,oF,lC,lC,lN];omega
     split at h
     ·cases h
     split at h
     ·have:=ih (.dol false) d t l r1 h;simp only [cst] at this ⊢;omega
     ·obtain⟨rfl,rfl⟩:=Prod.mk.inj (Except.ok.inj h);rw [eA,Em,lC,lN];omega
    | true=>
     rw [mG] at h;split at h
     ·cases h
     split at h
     ·obtain⟨rfl,rfl⟩:=Prod.mk.inj (Except.ok.inj h);rw [fH];omega
     split at h
     ·obtain⟨rfl,rfl⟩:=Prod.mk.inj (Except.ok.inj h);rw [eA,oF,lC,lN];omega
     split at h
     ·have:=ih (.dol true) d t l r1 h;simp only [cst] at this ⊢;omega
     ·obtain⟨rfl,rfl⟩:=Prod.mk.inj (Except.ok.inj h);rw [eA,oF,lC,lN];omega
  | dq=>
   rw [oS] at h;cases r with
   | nil=>cases h
   | cons c t=>
    dsimp only at h;split at h
    ·obtain⟨rfl,rfl⟩:=Prod.mk.inj (Except.ok.inj h);rw [fH,lC];omega
    ·split at h
     ·cases h
     ·next l2 r2 h2=>
      obtain⟨m,hm,rfl⟩:=eL h;have i1:=ih (.one true) d (c::t) l2 r2 h2;have i2:=ih .dq d r2 m r1 hm;rw [lL];simp only [cst] at i1 i2 ⊢;omega
  | br q=>
   rw [o0] at h;cases r with
   | nil=>cases h
   | cons c t=>
    dsimp only at h;split at h
    ·obtain⟨rfl,rfl⟩:=Prod.mk.inj (Except.ok.inj h);rw [fH,lC];omega
    ·split at h
     ·cases h
     ·next l2 r2 h2=>
      obtain⟨m,hm,rfl⟩:=eL h;have i1:=ih (.one q) d (c::t) l2 r2 h2;have i2:=ih (.br q) d r2 m r1 hm;rw [lL];simp only [cst] at i1 i2 ⊢;omega
  | dol q=>
   rw [mH] at h;have htl:r.tail.length=r.length - 1:=List.length_tail;split at h
   ·have:=ih (.brace q) d r.tail l r1 h;simp only [cst] at this ⊢;omega
   split at h
   ·split at h
    ·cases h
    ·next k hu=>
     obtain⟨rfl,rfl⟩:=Prod.mk.inj (Except.ok.inj h);rw [eA,sG,fH];simp only [List.length_take,List.length_drop,lN,cst];omega
   split at h
   ·split at h
    ·cases h
    ·next k hu=>
     obtain⟨rfl,rfl⟩:=Prod.mk.inj (Except.ok.inj h);rw [eA,sG,fH];simp only [List.length_take,List.length_drop,lN,cst,htl];omega
   split at h
   ·obtain⟨rfl,rfl⟩:=Prod.mk.inj (Except.ok.inj h);cases q
    ·show wdL [eG [36]]+_≤_;rw [eA,Em];simp only [lC,lN,cst];omega
    ·show wdL [cG [36]]+_≤_;rw [eA,oF];simp only [lC,lN,cst];omega
   ·obtain⟨rfl,rfl⟩:=Prod.mk.inj (Except.ok.inj h);rw [eA,sG,fH];simp only [List.length_take,List.length_drop,lN,cst];omega
  | brace q=>
   rw [jA] at h;obtain⟨r0,hr0⟩:∃r0,r0=(if bK r then r.tail else r):=⟨_,rfl⟩;rw [←hr0] at h;have hlr:r0.length≤r.length:=by
    rw [hr0];split
    ·rw [List.length_tail];omega
    ·exact Nat.le_refl _
   have hk:=nV true r0;obtain⟨k,hkk⟩:∃k,k=bT true r0:=⟨_,rfl⟩;rw [←hkk] at h hk;split at h
   ·cases h
   next h0=>
   split at h
   ·next h1=>
    obtain⟨rfl,rfl⟩:=Prod.mk.inj (Except.ok.inj h);obtain⟨u,hu⟩:=jV h1;have hul:=congrArg List.length hu;rw [List.length_drop,lC] at hul;rw [eA,sG,fH];have ho:(if bK r then [(76:UInt8)] else []).length≤1:=by split<;>simp
    simp only [List.length_take,List.length_tail,List.length_drop,lN,cst];omega
   split at h
   ·cases h
   split at h
   ·cases h
   split at h
   ·cases h
   ·next l2 r3 h4=>
    obtain⟨rfl,rfl⟩:=Prod.mk.inj (Except.ok.inj h);have i1:=ih (.br q) (d+1) _ l2 r3 h4;have i2:=Gc l2;have i3:=Lq (r0.drop k);simp only [List.length_drop,cst] at i1 i3;rw [eA,sG];simp only [List.length_take,lN,cst];omega
theorem Gf (wh:Bool):∀(n:Nat) (r:Bs) (l:List Pt) (r1:Bs),i5 wh n r=.ok (l,r1)→wdL l+2*r1.length≤2*r.length
 | 0,_,_,_,h=>by cases h
 | n+1,[],l,r1,h=>by
  obtain⟨rfl,rfl⟩:=Prod.mk.inj (Except.ok.inj h);rw [fH];exact Nat.zero_le _
 | n+1,c::t,l,r1,h=>by
  unfold i5 at h;dsimp only at h;split at h
  ·obtain⟨rfl,rfl⟩:=Prod.mk.inj (Except.ok.inj h);rw [fH];omega
  ·split at h
   ·cases h
   ·next l2 r2 h2=>
    obtain⟨m,hm,rfl⟩:=eL h;have i1:=Pz _ _ _ _ _ _ h2;have i2:=Gf wh n r2 m r1 hm;rw [lL];simp only [cst] at i1;omega
/-! No 0. -/
theorem NZ.app {a b:Bs} (ha:NZ a) (hb:NZ b):NZ (a++b):=fun c hc=>(List.mem_append.1 hc).elim (ha c) (hb c)
theorem NZ.cons {c:UInt8} {b:Bs} (hc:c≠0) (hb:NZ b):NZ (c::b):=fun x hx=>(List.mem_cons.1 hx).elim (fun e=>e ▸ hc) (hb x)
theorem Bl:∀{t:Bs},NZ t→NZ (bW t)
 | [],_=>NZ.nil
 | c::t,h=>by
  have h1:=Bl (t:=t) h.tail;have hc:=h c (List.mem_cons_self ..);rw [cI];split
  ·exact NZ.cons hc (NZ.cons (by decide) (NZ.cons (by decide) h1))
  ·exact NZ.cons hc h1
theorem G1:∀{t:Bs},NZ t→NZ (kE t)
 | [],_=>NZ.nil
 | c::t,h=>by
  have h1:=G1 (t:=t) h.tail;have hc:=h c (List.mem_cons_self ..);unfold kE at h1 ⊢;rw [List.flatMap_cons];split
  ·exact NZ.cons (by decide) (NZ.cons hc h1)
  ·exact NZ.cons hc h1
theorem Od {t:Bs} (h:NZ t):NZ (qQ t):=by
 have key:∀t:Bs,NZ t→NZ (t.flatMap fQ):=fun t=>by
  induction t with
  | nil=>exact fun _=>NZ.nil
  | cons c t ih=>
   intro h;rw [List.flatMap_cons];refine NZ.app ?_ (ih h.tail);unfold fQ;split
   ·exact NZ.cons (by decide) (NZ.cons (by decide) (NZ.cons (by decide) (NZ.cons (by decide) NZ.nil)))
   ·exact NZ.cons (h c (List.mem_cons_self ..)) NZ.nil
 exact NZ.cons (by decide) (NZ.app (key t h) (NZ.cons (by decide) NZ.nil))
theorem mQ {c:UInt8} (h:c≠0):NZ [c]:=NZ.cons h NZ.nil
theorem Ii (b:Bool):NZ (if b then [34] else []):=by cases b<;>first | exact NZ.nil | exact mQ (by decide)
theorem Q5 {o:Bs} (h:o∈gG):NZ o:=by
 simp only [gG,List.mem_cons,List.not_mem_nil,or_false] at h;rcases h with rfl | rfl | rfl | rfl | rfl | rfl | rfl | rfl | rfl | rfl | rfl | rfl<;>(intro c hc;revert hc;revert c;decide)
theorem Cd (o:Bs) (w:List Pt):NZ (fO o w):=by
 unfold fO;split
 ·exact NZ.cons (by decide) (mQ (by decide))
 ·exact NZ.nil
mutual
theorem Ke:∀(p:Pt) (stop:UInt8→Bool) (q:Bool) (d:Nat),OkP stop q d p→NZ (dC q p)
 | .mk k t n o w pq,stop,q,d,h=>by
  unfold OkP at h;obtain⟨ht,hn,h⟩:=h;rcases h with ⟨rfl,_⟩ | ⟨rfl,_⟩ | ⟨rfl,_⟩ | ⟨rfl,_⟩ | ⟨rfl,hq,rfl,_,hc⟩
  ·rw [g8];exact Bl ht
  ·rw [mJ];split
   ·exact G1 ht
   ·exact Od ht
  ·rw [oE];exact NZ.app (Ii _) (NZ.app (NZ.cons (by decide) (NZ.cons (by decide) (NZ.cons (by decide) (NZ.app ht (NZ.cons (by decide) (mQ (by decide))))))) (Ii _))
  ·rw [oO];exact NZ.app (Ii _) (NZ.app (NZ.cons (by decide) (NZ.cons (by decide) (NZ.app ht (mQ (by decide))))) (Ii _))
  ·rw [oC];refine NZ.app (Ii _) (NZ.app ?_ (Ii _));rcases hc with ⟨rfl,rfl⟩ | ⟨rfl,rfl,_⟩ | ⟨ho,hd,hw,_⟩
   ·rw [if_neg (by decide),dP];exact NZ.cons (by decide) (NZ.cons (by decide) (NZ.app hn (NZ.app NZ.nil (NZ.app (Cd _ _) (NZ.app NZ.nil (mQ (by decide)))))))
   ·rw [if_pos rfl];exact NZ.cons (by decide) (NZ.cons (by decide) (NZ.cons (by decide) (NZ.app hn (mQ (by decide)))))
   ·have h9:=rX w brS pq (d+1) hw;obtain⟨_,_,_,_,_,h76,_⟩:=Ls ho;rw [if_neg h76];exact NZ.cons (by decide) (NZ.cons (by decide) (NZ.app hn (NZ.app (Q5 ho) (NZ.app (Cd _ _) (NZ.app h9 (mQ (by decide)))))))
theorem rX:∀(l:List Pt) (stop:UInt8→Bool) (q:Bool) (d:Nat),gD stop q d l→NZ (aL q l)
 | [],_,_,_,_=>by rw [aL];exact NZ.nil
 | p::l,stop,q,d,h=>by
  unfold gD at h;rw [aL];exact NZ.app (Ke p stop q d h.1) (rX l stop q d h.2)
end
theorem Oj {wh:Bool} {w:List Pt} (h:pO wh w):NZ (bF w):=by
 unfold bF;refine NZ.app ?_ (rX w _ _ _ h.ok);unfold nI;cases w with
 | nil=>exact NZ.nil
 | cons p l=>
  dsimp only;split
  ·exact NZ.cons (by decide) (mQ (by decide))
  ·exact NZ.nil
theorem Qo {s:Bs} (h:s.length≤16384) (hz:NZ s):pH s=0:=by
 unfold pH;rw [if_neg (by omega),if_neg];intro hc;exact hz 0 (List.contains_iff_mem.1 hc) rfl
theorem Pc {s:Bs} (hs:pH s=0):NZ s:=by
 unfold pH at hs;split at hs
 ·cases hs
 ·split at hs
  ·cases hs
  ·next hc=>
   intro c hcs h0;rw [h0] at hcs;exact hc (List.contains_iff_mem.2 hcs)
def rOp (s:Bs):Tk:=⟨2,s,[]⟩
def rWd (w:List Pt):Tk:=⟨1,[],w⟩
def Kf (X:Bs):Prop:=X=[]∨(∃t,X=32::t)∨∃t,X=59::32::t
theorem sJ (a b:List Tk) (r:Except Nat (List Tk)):g9 a (g9 b r)=g9 (a++b) r:=by
 cases r with
 | error e=>rfl
 | ok l=>show Except.ok _=Except.ok _;rw [aA]
theorem yE (x:Tk) (r:Except Nat (List Tk)):tD x r=g9 [x] r:=by cases r<;>rfl
structure Tok (S:Bs) (t:List Tk):Prop where
 lex:∀X,Kf X→gJ (S++X)=g9 t (gJ X)
 nz:NZ S
theorem Kc {o t X:Bs} {c:UInt8} (ho:o=c::t) (h:eK (o++X)=o) (h2:(c==32 || c==9)=false) (h3:(c==35)=false) (h4:(c==92)=false):gJ (o++X)=g9 [rOp o] (gJ X):=by
 have ht:gF (o++X)=.ok (⟨2,o,[]⟩,X):=by
  rw [sY (by rw [h,ho];exact List.cons_ne_nil _ _),h,List.drop_left]
 have hs:dM false (o++X)=o++X:=by rw [ho];exact yN h2 h3 h4 _
 rw [iF,hs];rw [ho] at ht ⊢;dsimp only [List.cons_append] at ht ⊢;rw [ht];exact yE _ _
theorem L1 (X:Bs):gJ (59::32::X)=g9 [rOp [59]] (gJ X):=by
 rw [show (59::32::X:Bs)=[59]++32::X from rfl,Kc (t:=[]) (c:=59) rfl rfl (by decide) (by decide) (by decide),p9 (by decide)]
theorem Tok.blank {S S2:Bs} {t t2:List Tk} (h:Tok S t) (h2:Tok S2 t2):Tok (S++32::S2) (t++t2) where
 lex X hX:=by rw [aA,List.cons_append,h.lex _ (.inr (.inl ⟨_,rfl⟩)),p9 (by decide),h2.lex X hX,sJ]
 nz:=NZ.app h.nz (NZ.cons (by decide) h2.nz)
theorem Tok.semi {S S2:Bs} {t t2:List Tk} (h:Tok S t) (h2:Tok S2 t2):Tok (S++59::32::S2) (t++rOp [59]::t2) where
 lex X hX:=by
  rw [aA,List.cons_append,List.cons_append,h.lex _ (.inr (.inr ⟨_,rfl⟩)),L1,h2.lex X hX,sJ,sJ,aA];rfl
 nz:=NZ.app h.nz (NZ.cons (by decide) (NZ.cons (by decide) h2.nz))
theorem Tok.pad {S:Bs} {t:List Tk} (h:Tok S t):Tok (32::S) t where
 lex X hX:=by rw [List.cons_append,p9 (by decide),h.lex X hX]
 nz:=NZ.cons (by decide) h.nz
theorem jF {o:Bs} (ho:o∈([[60],[62],[62,62],[50,62],[50,62,62],[124],[38,38],[124,124],[40],[41],[59,59]]:List Bs)):Tok o [rOp o]:=by
 simp only [List.mem_cons,List.not_mem_nil,or_false] at ho;have key:∀X,Kf X→eK (o++X)=o∧(∃c t,o=c::t∧(c==32 || c==9)=false∧(c==35)=false∧(c==92)=false)∧NZ o:=by
  intro X hX;rcases hX with rfl | ⟨u,rfl⟩ | ⟨u,rfl⟩
  all_goals (rcases ho with rfl | rfl | rfl | rfl | rfl | rfl | rfl | rfl | rfl | rfl | rfl<;>exact⟨rfl,⟨_,_,rfl,by decide,by decide,by decide⟩,fun c hc=>by revert hc;revert c;decide⟩)
 refine⟨fun X hX=>?_,(key [] (.inl rfl)).2.2⟩;obtain⟨h1,⟨c,t,e,h2,h3,h4⟩,_⟩:=key X hX;exact Kc e h1 h2 h3 h4
theorem E9 {c:UInt8} {r:Bs} (hb:bJ c=false) (h2:c=50→aW 62 r=false):eK (c::r)=[]:=by
 unfold eK gH;simp only [bJ,Bool.or_eq_false_iff] at hb;obtain⟨⟨⟨⟨⟨⟨⟨⟨⟨b1,b2⟩,b3⟩,b4⟩,b5⟩,b6⟩,b7⟩,b8⟩,b9⟩,b10⟩:=hb;have g:∀{k:UInt8},(c==k)=false→((k==c)=false):=fun h=>by rw [Bool.beq_comm];exact h
 have h50:((50:UInt8)==c && aW 62 r)=false:=by
  by_cases hc:c=50
  ·rw [h2 hc,Bool.and_false]
  ·rw [show ((50:UInt8)==c)=false from beq_eq_false_iff_ne.2 (Ne.symm hc),Bool.false_and]
 have k1:aI [50,62,62] (c::r)=false:=by
  cases r with
  | nil=>show ((50:UInt8)==c && false)=false;rw [Bool.and_false]
  | cons x t=>
   show ((50:UInt8)==c && ((62:UInt8)==x && aI [62] t))=false;have h9:((50:UInt8)==c && x==62)=false:=h50;rw [Bool.beq_comm (a:=(62:UInt8)),←Bool.and_assoc,h9,Bool.false_and]
 have k2:aI [50,62] (c::r)=false:=by
  cases r with
  | nil=>show ((50:UInt8)==c && false)=false;rw [Bool.and_false]
  | cons x t=>
   show ((50:UInt8)==c && ((62:UInt8)==x && aI [] t))=false;have h9:((50:UInt8)==c && x==62)=false:=h50;rw [Bool.beq_comm (a:=(62:UInt8)),←Bool.and_assoc,h9,Bool.false_and]
 have k3:∀(k:UInt8) (o:Bs),(c==k)=false→aI (k::o) (c::r)=false:=fun k o h=>by
  show ((k==c) && _)=false;rw [g h,Bool.false_and]
 rw [show pL.find? (fun o=>aI o (c::r))=none from by
  simp only [pL,List.find?_cons,k1,k2,k3 _ _ b4,k3 _ _ b5,k3 _ _ b6,k3 _ _ b7,k3 _ _ b8,k3 _ _ b9,k3 _ _ b10,k3 _ _ b3,List.find?_nil]]
 rfl
theorem Nm {X:Bs} (h:Kf X):X=[]∨∃c t,X=c::t∧wS false c=true∧j7 c=false:=by
 rcases h with rfl | ⟨t,rfl⟩ | ⟨t,rfl⟩
 ·exact .inl rfl
 ·exact .inr ⟨32,t,rfl,by decide,by decide⟩
 ·exact .inr ⟨59,32::t,rfl,by decide,by decide⟩
theorem Pq {X:Bs} (h:Kf X):aW 62 X=false:=by
 rcases h with rfl | ⟨t,rfl⟩ | ⟨t,rfl⟩<;>rfl
theorem Dd {c:UInt8} (h:c=39∨c=36∨c=34):bJ c=false∧(c==35)=false∧(c==92)=false∧c≠50:=by
 rcases h with rfl | rfl | rfl<;>decide
theorem Eo {w:List Pt} (h:pO false w) (hw:w≠[]) {X:Bs} (hX:Kf X):∃c u,bF w++X=c::u∧bJ c=false∧(c==35)=false∧(c==92)=false∧(c=50→aW 62 u=false):=by
 cases w with
 | nil=>exact absurd rfl hw
 | cons p l=>
  unfold bF nI;dsimp only;by_cases hs:(p.kind==1 && aI [35] p.text)=true
  ·rw [if_pos hs];exact⟨39,_,rfl,by decide,by decide,by decide,fun e=>absurd e (by decide)⟩
  ·rw [if_neg hs,List.nil_append,bZ];have hok:=h.ok;unfold gD at hok;obtain⟨hp,hl⟩:=hok;by_cases hk:p.kind=1
   ·obtain⟨k,t,n,o,v,pq⟩:=p;have hk':k=1:=hk;subst hk';unfold OkP at hp;obtain⟨_,_,h5⟩:=hp;rcases h5 with ⟨_,_,ht,hc,rfl,rfl,rfl,rfl⟩ | ⟨h6,_⟩ | ⟨h6,_⟩ | ⟨h6,_⟩ | ⟨h6,_⟩
    ·rw [g8];cases t with
     | nil=>exact absurd rfl ht
     | cons c t=>
      obtain⟨hx,hst⟩:=hc c (List.mem_cons_self ..);have hbc:bJ c=false:=hst;have h35:(c==35)=false:=by
       have hs':¬((1:Nat)==1 && aI [35] (c::t))=true:=hs;have:aI [35] (c::t)=((35:UInt8)==c && true):=by cases t<;>rfl
       rw [this] at hs';rw [Bool.beq_comm];simpa using hs'
      have h92:(c==92)=false:=by
       unfold txB sW at hx;by_cases h9:c=92
       ·subst h9;exact absurd hx (by decide)
       ·exact beq_eq_false_iff_ne.2 h9
      obtain⟨u,hu⟩:=k0 c t;refine⟨c,u++aL false l++X,by rw [hu];simp,hbc,h35,h92,fun h50=>?_⟩;subst h50;have hu2:u=bW t:=by
       have h9:bW (50::t)=50::bW t:=by rw [cI,if_neg (by simp)]
       rw [h9] at hu;exact (List.cons.inj hu).2.symm
      rw [hu2];cases t with
      | nil=>
       rw [show bW []=[] from rfl,List.nil_append];cases l with
       | nil=>rw [dP];exact Pq hX
       | cons y m=>
        unfold gD at hl;have hy:y.kind≠1:=fun hy=>by
         have h8:=h.tidy.noj.1;unfold Pt.joins at h8;rw [hy] at h8;cases h8
        obtain⟨c2,v2,hc2,_,hcs⟩:=kH hl.1;rw [bZ,hc2];show (c2==62)=false;rcases hcs rfl hy with rfl | rfl | rfl<;>rfl
      | cons c2 t2=>
       obtain⟨u2,hu3⟩:=k0 c2 t2;rw [hu3];show (c2==62)=false;have hb2:bJ c2=false:=(hc c2 (List.mem_cons_of_mem _ (List.mem_cons_self ..))).2;rw [beq_eq_false_iff_ne];rintro rfl;exact absurd hb2 (by decide)
    all_goals cases h6
   ·obtain⟨c,u,hc,_,hcs⟩:=kH hp;obtain⟨q1,q2,q3,q4⟩:=Dd (hcs rfl hk);exact⟨c,u++aL false l++X,by rw [hc];simp,q1,q2,q3,fun e=>absurd e q4⟩
theorem l9 {w:List Pt} (h:pO false w) (hw:w≠[]):Tok (bF w) [rWd w] where
 lex X hX:=by
  obtain⟨l,h1,h2⟩:=Jp h (Nm hX);obtain⟨c,u,e,b1,b2,b3,b4⟩:=Eo h hw hX;have b0:(c==32 || c==9)=false:=by
   simp only [bJ,Bool.or_eq_false_iff] at b1 ⊢;exact⟨b1.1.1.1.1.1.1.1.1.1,b1.1.1.1.1.1.1.1.1.2⟩
  have b38:aW 38 (c::u)=false:=by
   simp only [bJ,Bool.or_eq_false_iff] at b1;exact b1.1.1.1.1.1.2
  rw [e] at h1 ⊢;rw [iF,yN b0 b2 b3];dsimp only;rw [nT (E9 b1 b4) b38,h1];dsimp only;rw [h2];exact yE _ _
 nz:=Oj h
theorem Jx {s:Bs} (h0:s≠[]) (h:∀c∈s,txB c=true∧bJ c=false∧c≠0):pO false [eG s]:=by
 refine⟨?_,.inr ⟨trivial,fun p hp=>by rw [List.mem_singleton.1 hp];rfl⟩⟩;unfold gD OkP;refine⟨⟨fun c hc=>(h c hc).2.2,NZ.nil,.inl ⟨rfl,rfl,h0,fun c hc=>⟨(h c hc).1,(h c hc).2.1⟩,rfl,rfl,rfl,rfl⟩⟩,?_⟩;unfold gD;trivial
theorem yS:∀{s:Bs},(∀c∈s,(c==36)=false)→bW s=s
 | [],_=>rfl
 | c::t,h=>by rw [cI,h c (List.mem_cons_self ..),Bool.false_and,if_neg (by simp),yS fun x hx=>h x (List.mem_cons_of_mem _ hx)]
theorem vA:∀{s:Bs} (t:Bs),(∀c∈s,(c==36)=false)→bW (s++t)=s++bW t
 | [],_,_=>rfl
 | c::u,t,h=>by rw [List.cons_append,cI,h c (List.mem_cons_self ..),Bool.false_and,if_neg (by simp),vA t fun x hx=>h x (List.mem_cons_of_mem _ hx)];rfl
theorem Hz {s:Bs} (h:∀c∈s,(c==36)=false) (h2:aI [35] s=false):bF [eG s]=s:=by
 unfold bF nI;dsimp only;rw [if_neg (by show ¬((1:Nat)==1 && aI [35] s)=true;rw [h2];simp),bZ,dP,List.append_nil,List.nil_append];show dC false (.mk 1 s [] [] [] false)=s;rw [g8,yS h]
theorem Mu {s:Bs} (h0:s≠[]) (h:∀c∈s,txB c=true∧bJ c=false∧c≠0∧(c==36)=false) (h2:aI [35] s=false):Tok s [rWd [eG s]]:=by
 have h3:=l9 (Jx h0 fun c hc=>⟨(h c hc).1,(h c hc).2.1,(h c hc).2.2.1⟩) (by simp)
 rwa [Hz (fun c hc=>(h c hc).2.2.2) h2] at h3
theorem mE {a b:Bs} (hb:b≠[]):(a++b).getLast? = b.getLast?:=by
 rw [List.getLast?_append];cases h:b.getLast? with
 | none=>exact absurd (List.getLast?_eq_none_iff.1 h) hb
 | some x=>rfl
theorem uR:∀{t:Bs},t≠[]→(bW t).getLast? = t.getLast?
 | [],h=>absurd rfl h
 | [c],_=>by rw [cI,show iL []=false from rfl,Bool.and_false];rfl
 | c::x::t,_=>by
  have h1:=uR (t:=x::t) (by simp);have hne:bW (x::t)≠[]:=by
   obtain⟨u,hu⟩:=k0 x t;rw [hu];simp
  rw [cI,List.getLast?_cons_cons,←h1];split
  ·rw [show (c::92::10::bW (x::t):Bs)=[c,92,10]++bW (x::t) from rfl,mE hne]
  ·rw [show (c::bW (x::t):Bs)=[c]++bW (x::t) from rfl,mE hne]
theorem Es {p:Pt} (h:OkP (wS false) false 0 p):∃c,(dC false p).getLast? = some c∧c≠32:=by
 obtain⟨k,t,n,o,w,pq⟩:=p;unfold OkP at h;obtain⟨_,_,h⟩:=h;have hq:∀(a b:Bs) (z:UInt8),z≠32→∃c,(a++((b++[z])++if pq && !false then [34] else [])).getLast? = some c∧c≠32:=fun a b z hz=>by
  cases pq with
  | true=>exact⟨34,by rw [←aA];exact List.getLast?_concat,by decide⟩
  | false=>exact⟨z,by
   show (a++((b++[z])++[])).getLast? = some z;rw [List.append_nil,←aA];exact List.getLast?_concat,hz⟩
 rcases h with ⟨rfl,_,ht,hc,_⟩ | ⟨rfl,_⟩ | ⟨rfl,_⟩ | ⟨rfl,_⟩ | ⟨rfl,_⟩
 ·rw [g8,uR ht];cases hl:t.getLast? with
  | none=>exact absurd (List.getLast?_eq_none_iff.1 hl) ht
  | some c=>
   refine⟨c,rfl,?_⟩;rintro rfl;exact absurd (hc 32 (List.mem_of_getLast? hl)).2 (by decide)
 ·rw [mJ,if_neg (by simp)];unfold qQ;exact⟨39,by rw [←List.cons_append];exact List.getLast?_concat,by decide⟩
 ·rw [oE];have:=hq (if pq && !false then [34] else []) (36::40::40::(t++[41])) 41 (by decide);simpa using this
 ·rw [oO];have:=hq (if pq && !false then [34] else []) (36::40::t) 41 (by decide);simpa using this
 ·rw [oC];by_cases ho:o=[76]
  ·rw [if_pos ho];have:=hq (if pq && !false then [34] else []) (36::123::35::n) 125 (by decide);simpa using this
  ·rw [if_neg ho];have:=hq (if pq && !false then [34] else []) (36::123::(n++(o++(fO o w++aL pq w)))) 125 (by decide);simpa using this
theorem tP:∀{l:List Pt},l≠[]→gD (wS false) false 0 l→∃c,(aL false l).getLast? = some c∧c≠32
 | [],h,_=>absurd rfl h
 | [p],_,h=>by
  unfold gD at h;rw [bZ,dP,List.append_nil];exact Es h.1
 | p::y::l,_,h=>by
  unfold gD at h;obtain⟨c,h1,h2⟩:=tP (l:=y::l) (by simp) h.2;refine⟨c,?_,h2⟩;rw [bZ,mE ?_]
  ·exact h1
  ·intro e;rw [e] at h1;cases h1
theorem I4 {w:List Pt} (h:pO false w) (hw:w≠[]):∃c,(bF w).getLast? = some c∧c≠32:=by
 obtain⟨c,h1,h2⟩:=tP hw h.ok;refine⟨c,?_,h2⟩;unfold bF;rw [mE ?_]
 ·exact h1
 ·intro e;rw [e] at h1;cases h1
end Go.Proofs.YtiihpbccabeoeaaGreatDoor
