/- The walk: a part. -/
import Derived.Test.YtiihpbccabeoeaaGreatDoorYPkD
import Derived.Test.YtiihpbccabeoeaaGreatDoorYPkE
namespace Go.Proofs.YtiihpbccabeoeaaGreatDoor
set_option linter.unusedVariables false
set_option maxRecDepth 100000
set_option maxHeartbeats 16000000
def riskyB (c:UInt8):Bool:=letterB c || digitB c || specialB c || c==123 || c==40
def nextRisky:Bs→Bool
 | []=>false
 | x::_=>riskyB x
def plainS:Bs→Bs
 | []=>[]
 | c::t=>if c==36 && nextRisky t then c::92::10::plainS t else c::plainS t
theorem plainS_cons (c:UInt8) (t:Bs):plainS (c::t)=if c==36 && nextRisky t then c::92::10::plainS t else c::plainS t:=by rw [plainS]
def quoB1 (c:UInt8):Bs:=if c==39 then [39,92,39,39] else [c]
def quoU (s:Bs):Bs:=39::(s.flatMap quoB1++[39])
def quoQ (s:Bs):Bs:=s.flatMap fun c=>if escB c then [92,c] else [c]
def firstIs (o:Bs):List Pt→Bool
 | []=>false
 | p::_=>startsF o p.text
def guardS (o:Bs) (w:List Pt):Bs:=if (o==[37] || o==[35]) && firstIs o w then [92,10] else []
mutual
def pieceS (q:Bool):Pt→Bs
 | .mk k t n o w pq=>
  if k=1 then plainS t else if k=2 then (if q then quoQ t else quoU t)
  else (if pq && !q then [34] else [])++((if k=4 then 36::40::40::(t++[41,41]) else if k=5 then 36::40::(t++[41])
   else if k=3 then (if o=[76] then 36::123::35::(n++[125]) else 36::123::(n++(o++(guardS o w++(piecesS pq w++[125]))))) else [])++(if pq && !q then [34] else []))
def piecesS (q:Bool):List Pt→Bs
 | []=>[]
 | p::l=>pieceS q p++piecesS q l
end
def sharpS (l:List Pt):Bs:=match l with
 | []=>[]
 | p::_=>if p.kind==1 && startsF [35] p.text then [39,39] else []
def wordS (l:List Pt):Bs:=sharpS l++piecesS false l
/-! One piece after another. -/
inductive Stp (stop:UInt8→Bool) (q:Bool) (d:Nat):Bs→List Pt→Bs→Prop
 | done (r:Bs):Stp stop q d r [] r
 | more {c:UInt8} {t r1 r2:Bs} {l1 l2:List Pt} (hs:stop c=false) (h1:lexC (.one q) d (c::t)=.ok (l1,r1)) (h2:Stp stop q d r1 l2 r2):Stp stop q d (c::t) (l1++l2) r2
section
variable {stop:UInt8→Bool} {q:Bool} {d:Nat}
theorem Stp.one {c:UInt8} {t r1:Bs} {l1:List Pt} (hs:stop c=false) (h1:lexC (.one q) d (c::t)=.ok (l1,r1)):Stp stop q d (c::t) l1 r1:=by
 have:=Stp.more (stop:=stop) hs h1 (.done r1)
 rwa [List.append_nil] at this
theorem Stp.trans {a b c:Bs} {l m:List Pt} (h:Stp stop q d a l b) (h2:Stp stop q d b m c):Stp stop q d a (l++m) c:=by
 induction h with
 | done r=>exact h2
 | more hs h1 _ ih=>rw [List.append_assoc];exact .more hs h1 (ih h2)
theorem Stp.br {r X:Bs} {l:List Pt} (h:Stp (fun c=>c==125) q d r l (125::X)):lexC (.br q) d r=.ok (l,X):=by
 generalize hy:125::X=Y at h;induction h with
 | done r=>subst hy;rw [lexC_br];rfl
 | more hs h1 _ ih=>
  rw [lexC_br];dsimp only;rw [hs,if_neg (by simp),h1];dsimp only;rw [ih hy];rfl
theorem Stp.dq {r X:Bs} {l:List Pt} (h:Stp (fun c=>c==34) true d r l (34::X)):lexC .dq d r=.ok (l,X):=by
 generalize hy:34::X=Y at h;induction h with
 | done r=>subst hy;rw [lexC_dq];rfl
 | more hs h1 _ ih=>
  rw [lexC_dq];dsimp only;rw [hs,if_neg (by simp),h1];dsimp only;rw [ih hy];rfl
theorem Stp.word {wh:Bool} {r X:Bs} {l:List Pt} (h:Stp (fun c=>!wh && breaksB c) false 0 r l X) (hX:X=[]∨∃c t,X=c::t∧(!wh && breaksB c)=true):wordC wh r=.ok (l,X):=by
 induction h with
 | done r=>
  rcases hX with rfl | ⟨c,t,rfl,hc⟩
  ·rfl
  ·rw [wordC_cons,if_pos hc]
 | more hs h1 _ ih=>
  rw [wordC_cons,if_neg (by rw [hs];simp),h1];dsimp only;rw [ih hX];rfl
end
/-! What comes to the same, tidied. -/
def Eqv (a b:List Pt):Prop:=∀N,a.foldl stepN N=b.foldl stepN N
theorem Eqv.refl (a:List Pt):Eqv a a:=fun _=>rfl
theorem Eqv.trans {a b c:List Pt} (h:Eqv a b) (h2:Eqv b c):Eqv a c:=fun N=>(h N).trans (h2 N)
theorem Eqv.app {a b c e:List Pt} (h:Eqv a b) (h2:Eqv c e):Eqv (a++c) (b++e):=fun N=>by
 rw [List.foldl_append,List.foldl_append,h,h2]
theorem Eqv.tidy {a b:List Pt} (h:Eqv a b):tidyF a=tidyF b:=tidyF_congr (h _)
theorem addP_merge (k:Nat) (hk:(k==1 || k==2)=true) (a b:Bs) (out:List Pt):addP (addP out (.mk k a [] [] [] false)) (.mk k b [] [] [] false)=addP out (.mk k (a++b) [] [] [] false):=by
 have hj:∀(s:Bs) (y:Pt),y.joins (.mk k s [] [] [] false)=(y.kind==k && (k==1 || k==2)):=fun s y=>rfl;have h0:∀(o:List Pt) (y:Pt),(o++[y]).getLast? = some y:=fun o y=>List.getLast?_concat;have h1:∀(o:List Pt) (y:Pt),(o++[y]).dropLast=o:=fun o y=>List.dropLast_concat;cases hl:out.getLast? with
 | none=>
  have:out=[]:=List.getLast?_eq_none_iff.1 hl;subst this;show addP [.mk k a [] [] [] false] _=[_];unfold addP;rw [show ([Pt.mk k a [] [] [] false]:List Pt).getLast? = some (.mk k a [] [] [] false) from rfl];dsimp only;rw [hj,show (Pt.mk k a [] [] [] false).kind=k from rfl,hk,if_pos (by simp)];rfl
 | some y=>
  have e1:∀s:Bs,addP out (.mk k s [] [] [] false)=if (y.kind==k && (k==1 || k==2))=true then out.dropLast++[y.join (.mk k s [] [] [] false)] else out++[.mk k s [] [] [] false]:=fun s=>by
   unfold addP;rw [hl];rfl
  rw [e1 a,e1 (a++b)];by_cases hy:(y.kind==k && (k==1 || k==2))=true
  ·rw [if_pos hy,if_pos hy];unfold addP;rw [h0];dsimp only;rw [hj,show (y.join (.mk k a [] [] [] false)).kind=y.kind from rfl,if_pos hy,h1];congr 2;unfold Pt.join;simp only [Pt.kind,Pt.text,Pt.name,Pt.op,Pt.word,Pt.quoted,List.append_assoc]
  ·rw [if_neg hy,if_neg hy];unfold addP;rw [h0];dsimp only;rw [hj,show (Pt.mk k a [] [] [] false).kind=k from rfl,hk,if_pos (by simp),h1];rfl
theorem txt_merge (a b:Bs):Eqv [txtP a,txtP b] [txtP (a++b)]:=fun N=>by
 show stepN (stepN N (txtP a)) (txtP b)=stepN N (txtP (a++b));have h:∀(M:List Pt×Bool) (s:Bs),stepN M (txtP s)=(addP M.1 (txtP s),true):=fun M s=>rfl;rw [h,h,h];exact congrArg (·,true) (addP_merge 1 rfl a b N.1)
theorem quo_merge (a b:Bs):Eqv [quoP a,quoP b] [quoP (a++b)]:=fun N=>by
 show stepN (stepN N (quoP a)) (quoP b)=stepN N (quoP (a++b));have h0:∀(M:List Pt×Bool),stepN M (quoP [])=(M.1,true):=fun M=>rfl;have h:∀(M:List Pt×Bool) (c:UInt8) (s:Bs),stepN M (quoP (c::s))=(addP M.1 (quoP (c::s)),true):=fun M c s=>rfl;cases a with
 | nil=>
  rw [h0,List.nil_append];cases b with
  | nil=>rfl
  | cons c s=>rw [h,h]
 | cons c s=>
  cases b with
  | nil=>rw [List.append_nil,h0,h]
  | cons x r=>
   rw [List.cons_append,h,h,h];exact congrArg (·,true) (addP_merge 2 rfl (c::s) (x::r) N.1)
theorem quo_cons (a b:Bs) {l:List Pt} (h:Eqv l [quoP b]):Eqv ([quoP a]++l) [quoP (a++b)]:=(Eqv.app (Eqv.refl [quoP a]) h).trans (quo_merge a b)
theorem txt_cons (a b:Bs) {l:List Pt} (h:Eqv l [txtP b]):Eqv ([txtP a]++l) [txtP (a++b)]:=(Eqv.app (Eqv.refl [txtP a]) h).trans (txt_merge a b)
/-! Each kind of part. -/
section
variable {stop:UInt8→Bool} {d:Nat}
theorem quoU_stp (h39:stop 39=false) (h92:stop 92=false) (X:Bs):∀(s pre:Bs),(∀c∈pre,(c==39)=false)→∃raw,Stp stop false d (39::(pre++(s.flatMap quoB1++39::X))) raw X∧Eqv raw [quoP (pre++s)]
 | [],pre,hp=>by
  have hu:∀(p:Bs),(∀c∈p,(c==39)=false)→∀Y,untilF 39 (p++39::Y)=some p.length:=fun p=>by
   induction p with
   | nil=>intro _ Y;rfl
   | cons x t ih=>
    intro hx Y;rw [List.cons_append,untilF,hx x (List.mem_cons_self ..),if_neg (by simp),ih (fun c hc=>hx c (List.mem_cons_of_mem _ hc))];rfl
  refine⟨[quoP pre],.one h39 ?_,?_⟩
  ·rw [lexC_out,if_pos (show ((39:UInt8)==39)=true from rfl),List.flatMap_nil,List.nil_append,hu pre hp];dsimp only;rw [List.take_left,show pre.length+1=(pre++[(39:UInt8)]).length by simp,show pre++39::X=(pre++[39])++X by simp,List.drop_left]
  ·rw [List.append_nil];exact Eqv.refl _
 | c::s,pre,hp=>by
  by_cases hc:(c==39)=true
  ·have hc':c=39:=beq_iff_eq.1 hc;subst hc';obtain⟨raw,h1,h2⟩:=quoU_stp h39 h92 X s [] (fun c hc=>by cases hc);have hu:∀(p:Bs),(∀c∈p,(c==39)=false)→∀Y,untilF 39 (p++39::Y)=some p.length:=fun p=>by
    induction p with
    | nil=>intro _ Y;rfl
    | cons x t ih=>
     intro hx Y;rw [List.cons_append,untilF,hx x (List.mem_cons_self ..),if_neg (by simp),ih (fun c hc=>hx c (List.mem_cons_of_mem _ hc))];rfl
   have e:(39::s).flatMap quoB1++39::X=39::92::39::(39::([]++(s.flatMap quoB1++39::X))):=by
    rw [List.flatMap_cons,show quoB1 39=[39,92,39,39] from rfl];simp
   rw [e];refine⟨[quoP pre]++([quoP [39]]++raw),.more h39 (r1:=92::39::(39::([]++(s.flatMap quoB1++39::X)))) ?_ (.more h92 (t:=39::(39::([]++(s.flatMap quoB1++39::X)))) ?_ h1),?_⟩
   ·rw [lexC_out,if_pos (show ((39:UInt8)==39)=true from rfl),hu pre hp];dsimp only;rw [List.take_left,show pre.length+1=(pre++[(39:UInt8)]).length by simp,show pre++39::92::39::(39::([]++(s.flatMap quoB1++39::X)))=(pre++[39])++92::39::(39::([]++(s.flatMap quoB1++39::X))) by simp,List.drop_left]
   ·rw [lexC_out];rfl
   ·rw [List.nil_append] at h2;exact quo_cons pre (39::s) (quo_cons [39] s h2)
  ·rw [Bool.not_eq_true] at hc;obtain⟨raw,h1,h2⟩:=quoU_stp h39 h92 X s (pre++[c]) (fun x hx=>by
    rcases List.mem_append.1 hx with hx | hx
    ·exact hp x hx
    ·rw [List.mem_singleton.1 hx];exact hc)
   have e:(c::s).flatMap quoB1=c::s.flatMap quoB1:=by
    rw [List.flatMap_cons,show quoB1 c=[c] from if_neg (by rw [hc];simp)];rfl
   refine⟨raw,?_,?_⟩
   ·rw [e];rw [List.append_assoc] at h1;exact h1
   ·rw [List.append_assoc] at h2;exact h2
theorem quoQ_stp (h92:stop 92=false) (X:Bs):∀(s:Bs),(∀c∈s,stop c=false)→∃raw,Stp stop true d (quoQ s++X) raw X∧(s=[]→raw=[])∧(s≠[]→Eqv raw [quoP s])
 | [],_=>⟨[],.done X,fun _=>rfl,fun h=>absurd rfl h⟩
 | c::s,hs=>by
  obtain⟨raw,h1,h0,h2⟩:=quoQ_stp h92 X s (fun x hx=>hs x (List.mem_cons_of_mem _ hx));have hE:Eqv ([quoP [c]]++raw) [quoP (c::s)]:=by
   cases s with
   | nil=>rw [h0 rfl];exact Eqv.refl _
   | cons x t=>exact quo_cons [c] (x::t) (h2 (by simp))
  refine⟨[quoP [c]]++raw,?_,(fun h=>by cases h),fun _=>hE⟩;unfold quoQ;rw [List.flatMap_cons];by_cases he:escB c=true
  ·rw [if_pos he];refine .more h92 ?_ h1;have h10:∀x:UInt8,escB x=true→(x==10)=false:=by
    intro x hx;simp only [escB,Bool.or_eq_true,beq_iff_eq] at hx;rcases hx with ((rfl | rfl) | rfl) | rfl<;>rfl
   show lexC (.one true) d (92::c::(quoQ s++X))=_;rw [lexC_inn,if_neg (by decide),show headIs 10 (c::(quoQ s++X))=(c==10) from rfl,h10 c he,if_neg (by simp),show (c::(quoQ s++X)).headD 0=c from rfl,he,if_pos (by rfl)];rfl
  ·rw [if_neg he];refine .more (hs c (List.mem_cons_self ..)) ?_ h1;rw [Bool.not_eq_true] at he;simp only [escB,Bool.or_eq_false_iff] at he;obtain⟨⟨⟨e1,e2⟩,e3⟩,e4⟩:=he;rw [lexC_inn,e1,e2,e3,e4];rfl
def NoRisk (X:Bs):Prop:=nextRisky X=false
theorem dol_lit (q:Bool) {r:Bs} (h:NoRisk r):lexC (.dol q) d r=.ok ([if q then quoP [36] else txtP [36]],r):=by
 rw [lexC_dol];cases r with
 | nil=>rfl
 | cons c t=>
  have h':riskyB c=false:=h;simp only [riskyB,Bool.or_eq_false_iff] at h';obtain⟨⟨⟨⟨h1,h2⟩,h3⟩,h4⟩,h5⟩:=h';rw [show headIs 123 (c::t)=(c==123) from rfl,h4,if_neg (by simp),show startsF [40,40] (c::t)=(40==c && startsF [40] t) from rfl,show ((40:UInt8)==c)=false by rw [Bool.beq_comm];exact h5,Bool.false_and,if_neg (by simp),show headIs 40 (c::t)=(c==40) from rfl,h5,if_neg (by simp)];rw [if_pos (by simp [nameF,runF,h1,h2,h3])]
def txB (c:UInt8):Bool:=plainB c || c==36
theorem plain_head (c:UInt8) (t:Bs):∃u,plainS (c::t)=c::u:=by
 rw [plainS_cons];split
 ·exact⟨_,rfl⟩
 ·exact⟨_,rfl⟩
theorem plain_stp (h92:stop 92=false) {X:Bs} (hX:NoRisk X):∀(s:Bs),(∀c∈s,txB c=true∧stop c=false)→∃raw,Stp stop false d (plainS s++X) raw X∧(s=[]→raw=[])∧(s≠[]→Eqv raw [txtP s])
 | [],_=>⟨[],.done X,fun _=>rfl,fun h=>absurd rfl h⟩
 | c::s,hs=>by
  obtain⟨raw,h1,h0,h2⟩:=plain_stp h92 hX s (fun x hx=>hs x (List.mem_cons_of_mem _ hx));obtain⟨htx,hst⟩:=hs c (List.mem_cons_self ..);have hE:Eqv ([txtP [c]]++raw) [txtP (c::s)]:=by
   cases s with
   | nil=>rw [h0 rfl];exact Eqv.refl _
   | cons x t=>exact txt_cons [c] (x::t) (h2 (by simp))
  by_cases hc:c=36
  ·subst hc;by_cases hn:nextRisky s=true
   ·refine⟨[txtP [36]]++([]++raw),?_,(fun h=>by cases h),fun _=>hE⟩;have e:plainS (36::s)=36::92::10::plainS s:=by
     rw [plainS_cons,hn];rfl
    rw [e];refine .more hst (r1:=92::10::(plainS s++X)) ?_ (.more h92 (r1:=plainS s++X) ?_ h1)
    ·show lexC (.one false) d (36::92::10::(plainS s++X))=_;rw [lexC_out];exact dol_lit (d:=d) false (r:=92::10::(plainS s++X)) (show riskyB 92=false from by decide)
    ·rw [lexC_out];rfl
   ·refine⟨[txtP [36]]++raw,?_,(fun h=>by cases h),fun _=>hE⟩;rw [Bool.not_eq_true] at hn;have e:plainS (36::s)=36::plainS s:=by
     rw [plainS_cons,hn];rfl
    rw [e];refine .more hst ?_ h1;show lexC (.one false) d (36::(plainS s++X))=_;rw [lexC_out];refine dol_lit false ?_;cases s with
    | nil=>exact hX
    | cons x t=>obtain⟨u,hu⟩:=plain_head x t;rw [hu];exact hn
  ·have hp:plainB c=true:=by
    unfold txB at htx;rw [Bool.or_eq_true] at htx;rcases htx with h | h
    ·exact h
    ·exact absurd (beq_iff_eq.1 h) hc
   refine⟨[txtP [c]]++raw,?_,(fun h=>by cases h),fun _=>hE⟩;have e:plainS (c::s)=c::plainS s:=by
    rw [plainS_cons,show (c==36)=false from beq_eq_false_iff_ne.2 hc];rfl
   rw [e];exact .more hst (lexC_plain hp d _) h1
end
def NameP (n:Bs):Prop:=n≠[]∧(∀c X,(letterB c || digitB c)=false→nameF true (n++c::X)=n.length)∧(∀X,longB (n++125::X)=false)∧(∀o∈opsL,∀X,longB (n++(o++X))=false)
def NoJ:List Pt→Prop
 | []=>True
 | [_]=>True
 | p::q::l=>p.joins q=false∧NoJ (q::l)
def TidyW (w:List Pt):Prop:=w=[quoP []]∨(NoJ w∧∀p∈w,p.isE=false)
def brS (c:UInt8):Bool:=c==125
def NZ (s:Bs):Prop:=∀c∈s,c≠0
mutual
def OkP (stop:UInt8→Bool) (q:Bool) (d:Nat):Pt→Prop
 | .mk k t n o w pq=>NZ t∧NZ n∧
  ((k=1∧q=false∧t≠[]∧(∀c∈t,txB c=true∧stop c=false)∧n=[]∧o=[]∧w=[]∧pq=false)∨
  (k=2∧(q=true→t≠[]∧∀c∈t,stop c=false)∧n=[]∧o=[]∧w=[]∧pq=false)∨
  (k=4∧(q=true→pq=true)∧calcF 0 (t++[41,41])=some t.length∧n=[]∧o=[]∧w=[])∨
  (k=5∧(q=true→pq=true)∧headIs 40 t=false∧subF .n 0 (t++[41])=some t.length∧n=[]∧o=[]∧w=[])∨
  (k=3∧(q=true→pq=true)∧t=[]∧NameP n∧((o=[]∧w=[])∨(o=[76]∧w=[]∧∀X,longB (35::(n++125::X))=true)∨(o∈opsL∧d<40∧OkPs brS pq (d+1) w∧TidyW w))))
def OkPs (stop:UInt8→Bool) (q:Bool) (d:Nat):List Pt→Prop
 | []=>True
 | p::l=>OkP stop q d p∧OkPs stop q d l
end
structure Stops (stop:UInt8→Bool):Prop where
 a:stop 39=false
 b:stop 34=false
 c:stop 36=false
 d:stop 92=false
 e:stop 96=false
theorem brS_ok:Stops brS:=⟨rfl,rfl,rfl,rfl,rfl⟩
/-! Tidied. -/
theorem fold_tidy:∀(w:List Pt) (out:List Pt) (b:Bool),NoJ w→(∀p∈w,p.isE=false)→(∀y,out.getLast? = some y→∀x,w.head? = some x→y.joins x=false)→(w.foldl stepN (out,b)).1=out++w
 | [],out,b,_,_,_=>by rw [List.foldl_nil,List.append_nil]
 | x::t,out,b,hj,he,ho=>by
  have hx:stepN (out,b) x=(out++[x],true):=by
   unfold stepN;rw [he x (List.mem_cons_self ..),if_neg (by simp)];unfold addP;cases hl:out.getLast? with
   | none=>rw [List.getLast?_eq_none_iff.1 hl];rfl
   | some y=>dsimp only;rw [ho y hl x rfl,if_neg (by simp)]
  rw [List.foldl_cons,hx,fold_tidy t _ _ (by cases t with | nil=>trivial | cons y u=>exact hj.2) (fun p hp=>he p (List.mem_cons_of_mem _ hp)) (fun y hy z hz=>by
   rw [List.getLast?_concat] at hy;obtain rfl:=Option.some.inj hy;cases t with
   | nil=>cases hz
   | cons y u=>obtain rfl:=Option.some.inj hz;exact hj.1),List.append_assoc]
  rfl
theorem TidyW.fix {w:List Pt} (h:TidyW w):tidyF w=w:=by
 rcases h with rfl | ⟨h1,h2⟩
 ·rfl
 ·have h3:(normF w).1=w:=by
   have:=fold_tidy w [] false h1 h2 (fun y hy=>by cases hy)
   rwa [List.nil_append] at this
  unfold tidyF;rw [h3];split
  ·next hc=>
   rw [Bool.and_eq_true] at hc;have:w=[]:=List.isEmpty_iff.1 hc.1;subst this;exact absurd hc.2 (by decide)
  ·rfl
theorem TidyW.noj {w:List Pt} (h:TidyW w):NoJ w:=by
 rcases h with rfl | ⟨h,_⟩
 ·trivial
 ·exact h
/-! Dollars. -/
theorem dol_calc (q:Bool) (d:Nat) {t:Bs} (h:calcF 0 (t++[41,41])=some t.length) (X:Bs):lexC (.dol q) d (40::40::(t++[41,41])++X)=.ok ([.mk 4 t [] [] [] q],X):=by
 have hc:=(calcF_ext _ X _ _ h).1;rw [lexC_dol,if_neg (by rw [show headIs 123 (40::40::(t++[41,41])++X)=false from rfl];simp),if_pos (by rfl)];rw [show List.drop 2 (40::40::(t++[41,41])++X)=t++[41,41]++X from rfl,hc];dsimp only;rw [List.append_assoc,List.take_left,show t.length+2=(t++[(41:UInt8),41]).length by simp,←List.append_assoc,List.drop_left]
theorem dol_sub (q:Bool) (d:Nat) {t:Bs} (h0:headIs 40 t=false) (h:subF .n 0 (t++[41])=some t.length) (X:Bs):lexC (.dol q) d (40::(t++[41])++X)=.ok ([.mk 5 t [] [] [] q],X):=by
 have hc:=(subF_ext _ X _ _ _ h).1;have hs:startsF [40,40] (40::(t++[41])++X)=false:=by
  cases t with
  | nil=>rfl
  | cons c u=>
   show ((40:UInt8)==40 && ((40:UInt8)==c && startsF [] _))=false;rw [show ((40:UInt8)==c)=(c==40) from Bool.beq_comm,show (c==40)=false from h0];rfl
 rw [lexC_dol,if_neg (by rw [show headIs 123 (40::(t++[41])++X)=false from rfl];simp),if_neg (by rw [hs];simp),if_pos (by rfl)];rw [show List.tail (40::(t++[41])++X)=t++[41]++X from rfl,hc];dsimp only;rw [List.append_assoc,List.take_left,show t.length+1=(t++[(41:UInt8)]).length by simp,←List.append_assoc,List.drop_left]
theorem dol_br (q:Bool) (d:Nat) (r:Bs):lexC (.dol q) d (123::r)=lexC (.brace q) d r:=by
 rw [lexC_dol,if_pos (by rfl)];rfl
theorem brace_none (q:Bool) (d:Nat) {n:Bs} (h:NameP n) (X:Bs):lexC (.brace q) d (n++125::X)=.ok ([.mk 3 [] n [] [] q],X):=by
 obtain⟨h0,h1,h2,_⟩:=h;rw [lexC_brace];simp only [h2 X,Bool.false_eq_true,if_false,Bool.or_false];rw [h1 125 X rfl,if_neg (by simpa using h0),List.drop_left,List.take_left,if_pos (by rfl)];rfl
theorem brace_long (q:Bool) (d:Nat) {n:Bs} (h:NameP n) (hl:∀X,longB (35::(n++125::X))=true) (X:Bs):lexC (.brace q) d (35::(n++125::X))=.ok ([.mk 3 [] n [76] [] q],X):=by
 obtain⟨h0,h1,h2,_⟩:=h;rw [lexC_brace];simp only [hl X,if_true,List.tail_cons,Bool.or_true];rw [h1 125 X rfl,if_neg (by simpa using h0),List.drop_left,List.take_left,if_pos (by rfl)];rfl
theorem op_in {o:Bs} (h:o∈opsL):∃c u,o=c::u∧(letterB c || digitB c)=false∧(c==125)=false∧o≠[76]∧o≠[]:=by
 have:∀o∈opsL,∃c u,o=c::u∧(letterB c || digitB c)=false∧(c==125)=false∧o≠[76]∧o≠[]:=by
  intro o ho;simp only [opsL,List.mem_cons,List.not_mem_nil,or_false] at ho;rcases ho with rfl | rfl | rfl | rfl | rfl | rfl | rfl | rfl | rfl | rfl | rfl | rfl<;>exact⟨_,_,rfl,by decide,by decide,by decide,by decide⟩
 exact this o h
theorem op_back {o:Bs} (h:o∈opsL) (Y:Bs) (h37:o=[37]→headIs 37 Y=false) (h35:o=[35]→headIs 35 Y=false):opF (o++Y)=o:=by
 simp only [opsL,List.mem_cons,List.not_mem_nil,or_false] at h;rcases h with rfl | rfl | rfl | rfl | rfl | rfl | rfl | rfl | rfl | rfl | rfl | rfl
 ·rfl
 ·rfl
 ·rfl
 ·rfl
 ·rfl
 ·rfl
 ·rfl
 ·rfl
 ·rfl
 ·rfl
 ·have h9:=h37 rfl;cases Y with
  | nil=>rfl
  | cons c t=>
   have h8:((37:UInt8)==c)=false:=by rw [Bool.beq_comm];exact h9
   simp [opF,findF,opsL,startsF,h8]
 ·have h9:=h35 rfl;cases Y with
  | nil=>rfl
  | cons c t=>
   have h8:((35:UInt8)==c)=false:=by rw [Bool.beq_comm];exact h9
   simp [opF,findF,opsL,startsF,h8]
theorem brace_op9 (q:Bool) {d:Nat} (hd:d<40) {n o Y X:Bs} {w raw:List Pt} (h:NameP n) (ho:o∈opsL) (h37:o=[37]→headIs 37 Y=false) (h35:o=[35]→headIs 35 Y=false) (hb:lexC (.br q) (d+1) Y=.ok (raw,X)) (hw:tidyF raw=w):lexC (.brace q) d (n++(o++Y))=.ok ([.mk 3 [] n o w q],X):=by
 obtain⟨h0,h1,_,h3⟩:=h;obtain⟨c,u,hc,hl,h125,_,hne⟩:=op_in ho;have hn:nameF true (n++(o++Y))=n.length:=by rw [hc];exact h1 c (u++Y) hl
 rw [lexC_brace];simp only [h3 o ho Y,Bool.false_eq_true,if_false,Bool.or_false];rw [hn,if_neg (by simpa using h0),List.drop_left,List.take_left,if_neg (by rw [hc];show ¬(c==125)=true;rw [h125];simp),op_back ho Y h37 h35,if_neg (by rw [hc];simp),if_neg (by omega),List.drop_left,hb];dsimp only;rw [hw]
theorem pieceS_1 (q:Bool) (t n o:Bs) (w:List Pt) (pq:Bool):pieceS q (.mk 1 t n o w pq)=plainS t:=by rw [pieceS];rfl
theorem pieceS_2 (q:Bool) (t n o:Bs) (w:List Pt) (pq:Bool):pieceS q (.mk 2 t n o w pq)=if q then quoQ t else quoU t:=by rw [pieceS];rfl
theorem pieceS_4 (q:Bool) (t n o:Bs) (w:List Pt) (pq:Bool):pieceS q (.mk 4 t n o w pq)=(if pq && !q then [34] else [])++(36::40::40::(t++[41,41])++(if pq && !q then [34] else [])):=by rw [pieceS];rfl
theorem pieceS_5 (q:Bool) (t n o:Bs) (w:List Pt) (pq:Bool):pieceS q (.mk 5 t n o w pq)=(if pq && !q then [34] else [])++(36::40::(t++[41])++(if pq && !q then [34] else [])):=by rw [pieceS];rfl
theorem pieceS_3 (q:Bool) (t n o:Bs) (w:List Pt) (pq:Bool):pieceS q (.mk 3 t n o w pq)=(if pq && !q then [34] else [])++((if o=[76] then 36::123::35::(n++[125]) else 36::123::(n++(o++(guardS o w++(piecesS pq w++[125])))))++(if pq && !q then [34] else [])):=by rw [pieceS];rfl
theorem piecesS_nil (q:Bool):piecesS q []=[]:=by rw [piecesS]
theorem piecesS_cons (q:Bool) (p:Pt) (l:List Pt):piecesS q (p::l)=pieceS q p++piecesS q l:=by rw [piecesS]
theorem part_head {stop:UInt8→Bool} {q:Bool} {d:Nat} {p:Pt} (h:OkP stop q d p):∃c u,pieceS q p=c::u∧(c=39∨c=36∨c=34∨c=92∨∃u',p.text=c::u')∧(q=false→p.kind≠1→c=39∨c=36∨c=34):=by
 obtain⟨k,t,n,o,w,pq⟩:=p;unfold OkP at h;obtain⟨_,_,h⟩:=h;rcases h with ⟨rfl,rfl,ht,_⟩ | ⟨rfl,hq,_⟩ | ⟨rfl,_⟩ | ⟨rfl,_⟩ | ⟨rfl,_⟩
 ·cases t with
  | nil=>exact absurd rfl ht
  | cons c t=>
   obtain⟨u,hu⟩:=plain_head c t;refine⟨c,u,?_,.inr (.inr (.inr (.inr ⟨t,rfl⟩))),fun _ h1=>absurd rfl h1⟩;rw [pieceS_1,hu]
 ·rw [pieceS_2];cases q with
  | false=>exact⟨39,_,rfl,.inl rfl,fun _ _=>.inl rfl⟩
  | true=>
   obtain⟨ht,_⟩:=hq rfl;cases t with
   | nil=>exact absurd rfl ht
   | cons c t=>
    rw [if_pos rfl];unfold quoQ;rw [List.flatMap_cons];by_cases he:escB c=true
    ·rw [if_pos he];exact⟨92,_,rfl,.inr (.inr (.inr (.inl rfl))),fun h=>by cases h⟩
    ·rw [if_neg he];exact⟨c,_,rfl,.inr (.inr (.inr (.inr ⟨t,rfl⟩))),fun h=>by cases h⟩
 ·rw [pieceS_4];by_cases hp:(pq && !q)=true
  ·rw [if_pos hp];exact⟨34,_,rfl,.inr (.inr (.inl rfl)),fun _ _=>.inr (.inr rfl)⟩
  ·rw [if_neg hp];exact⟨36,_,rfl,.inr (.inl rfl),fun _ _=>.inr (.inl rfl)⟩
 ·rw [pieceS_5];by_cases hp:(pq && !q)=true
  ·rw [if_pos hp];exact⟨34,_,rfl,.inr (.inr (.inl rfl)),fun _ _=>.inr (.inr rfl)⟩
  ·rw [if_neg hp];exact⟨36,_,rfl,.inr (.inl rfl),fun _ _=>.inr (.inl rfl)⟩
 ·rw [pieceS_3];by_cases hp:(pq && !q)=true
  ·rw [if_pos hp];exact⟨34,_,rfl,.inr (.inr (.inl rfl)),fun _ _=>.inr (.inr rfl)⟩
  ·rw [if_neg hp];by_cases ho:o=[76]
   ·rw [if_pos ho];exact⟨36,_,rfl,.inr (.inl rfl),fun _ _=>.inr (.inl rfl)⟩
   ·rw [if_neg ho];exact⟨36,_,rfl,.inr (.inl rfl),fun _ _=>.inr (.inl rfl)⟩
theorem dol_part {stop:UInt8→Bool} (hst:Stops stop) {q:Bool} {d:Nat} {p:Pt} {pq:Bool} (hq:q=true→pq=true) {C X:Bs} (hC:∀Y,lexC (.dol pq) d (C++Y)=.ok ([p],Y)) :
 ∃raw,Stp stop q d ((if pq && !q then [34] else [])++(36::C++(if pq && !q then [34] else []))++X) raw X∧Eqv raw [p]:=by
 have h1:∀(Y:Bs),lexC (.one pq) d (36::(C++Y))=.ok ([p],Y):=fun Y=>by
  cases pq with
  | false=>rw [lexC_out];exact hC Y
  | true=>rw [lexC_inn];exact hC Y
 by_cases hp:(pq && !q)=true
 ·rw [Bool.and_eq_true] at hp;obtain⟨rfl,hq2⟩:=hp;have hq3:q=false:=by simpa using hq2
  subst hq3;refine⟨[quoP []]++[p],.one hst.b ?_,fun N=>?_⟩
  ·have h2:lexC .dq d (36::(C++34::X))=.ok ([p],X):=Stp.dq (Stp.one rfl (h1 (34::X)));show lexC (.one false) d (34::(36::C++[34]++X))=_;rw [lexC_out,show 36::C++[34]++X=36::(C++34::X) by simp,h2];rfl
  ·show stepN (stepN N (quoP [])) p=stepN N p;unfold stepN;rw [if_pos (show (quoP []).isE=true from rfl)]
 ·rw [if_neg hp,List.nil_append,List.append_nil];have hpq:pq=q:=by
   cases pq<;>cases q
   ·rfl
   ·exact absurd (hq rfl) (by decide)
   ·exact absurd rfl hp
   ·rfl
  subst hpq;exact⟨[p],.one hst.c (h1 X),Eqv.refl _⟩
mutual
theorem part_ok:∀(p:Pt) (stop:UInt8→Bool) (q:Bool) (d:Nat) (X:Bs),Stops stop→OkP stop q d p→(p.kind=1→NoRisk X)→∃raw,Stp stop q d (pieceS q p++X) raw X∧Eqv raw [p]
 | .mk k t n o w pq,stop,q,d,X,hst,h,hX=>by
  unfold OkP at h;obtain⟨_,_,h⟩:=h;rcases h with ⟨rfl,rfl,ht,hc,rfl,rfl,rfl,rfl⟩ | ⟨rfl,hq,rfl,rfl,rfl,rfl⟩ | ⟨rfl,hq,hc,rfl,rfl,rfl⟩ | ⟨rfl,hq,h0,hc,rfl,rfl,rfl⟩ | ⟨rfl,hq,rfl,hn,hc⟩
  ·obtain⟨raw,h1,_,h2⟩:=plain_stp (d:=d) hst.d (hX rfl) t hc;refine⟨raw,?_,h2 ht⟩;rw [pieceS_1];exact h1
  ·rw [pieceS_2];cases q with
   | false=>
    obtain⟨raw,h1,h2⟩:=quoU_stp (d:=d) hst.a hst.d X t [] (fun c hc=>by cases hc);refine⟨raw,?_,h2⟩;rw [if_neg (by simp)];unfold quoU;rw [List.cons_append,List.append_assoc];exact h1
   | true=>
    obtain⟨ht,hc⟩:=hq rfl;obtain⟨raw,h1,_,h2⟩:=quoQ_stp (d:=d) hst.d X t hc;exact⟨raw,by rw [if_pos rfl];exact h1,h2 ht⟩
  ·rw [pieceS_4];exact dol_part hst hq (C:=40::40::(t++[41,41])) (dol_calc pq d hc)
  ·rw [pieceS_5];exact dol_part hst hq (C:=40::(t++[41])) (dol_sub pq d h0 hc)
  ·rw [pieceS_3];rcases hc with ⟨rfl,rfl⟩ | ⟨rfl,rfl,hl⟩ | ⟨ho,hd,hw,htw⟩
   ·rw [if_neg (show ¬([]:Bs)=[76] from by decide)];refine dol_part hst hq (C:=123::(n++([]++(guardS [] []++(piecesS pq []++[125]))))) (fun Y=>?_);rw [List.cons_append,dol_br,show guardS [] []=[] from rfl,piecesS_nil];have:=brace_none pq d hn Y;simpa using this
   ·rw [if_pos (show ([76]:Bs)=[76] from rfl)];refine dol_part hst hq (C:=123::35::(n++[125])) (fun Y=>?_);rw [List.cons_append,dol_br];have:=brace_long pq d hn hl Y;simpa using this
   ·obtain⟨_,_,_,_,_,h76,_⟩:=op_in ho;rw [if_neg h76];refine dol_part hst hq (C:=123::(n++(o++(guardS o w++(piecesS pq w++[125]))))) (fun Y=>?_);rw [List.cons_append,dol_br];obtain⟨raw,h1,h2⟩:=parts_ok w brS pq (d+1) (125::Y) brS_ok hw htw.noj (show riskyB 125=false from by decide);have hgd:∃raw2,Stp brS pq (d+1) (guardS o w++(piecesS pq w++125::Y)) raw2 (125::Y)∧Eqv raw2 w:=by
     unfold guardS;split
     ·refine⟨[]++raw,.more (r1:=piecesS pq w++125::Y) (c:=92) (t:=10::(piecesS pq w++125::Y)) rfl ?_ h1,h2⟩;cases pq with
      | false=>rw [lexC_out];rfl
      | true=>rw [lexC_inn];rfl
     ·exact⟨raw,h1,h2⟩
    obtain⟨raw2,h3,h4⟩:=hgd;have hb:lexC (.br pq) (d+1) (guardS o w++(piecesS pq w++125::Y))=.ok (raw2,Y):=Stp.br h3;have hhead:∀z:UInt8,o=[z]→(z=37∨z=35)→headIs z (guardS o w++(piecesS pq w++125::Y))=false:=fun z hz hz2=>by
     unfold guardS;by_cases hg:((o==[37] || o==[35]) && firstIs o w)=true
     ·rw [if_pos hg];show ((92:UInt8)==z)=false;rcases hz2 with rfl | rfl<;>rfl
     ·rw [if_neg hg,List.nil_append];have ho1:(o==[37] || o==[35])=true:=by rw [hz];rcases hz2 with rfl | rfl<;>rfl
      rw [ho1,Bool.true_and] at hg;cases w with
      | nil=>
       rw [piecesS_nil];show ((125:UInt8)==z)=false;rcases hz2 with rfl | rfl<;>rfl
      | cons p l=>
       unfold OkPs at hw;obtain⟨c,u,hc,hcs,_⟩:=part_head hw.1;rw [piecesS_cons,hc];show (c==z)=false;rcases hcs with rfl | rfl | rfl | rfl | ⟨u',hu'⟩
       ·rcases hz2 with rfl | rfl<;>rfl
       ·rcases hz2 with rfl | rfl<;>rfl
       ·rcases hz2 with rfl | rfl<;>rfl
       ·rcases hz2 with rfl | rfl<;>rfl
       ·rw [show firstIs o (p::l)=startsF o p.text from rfl,hu',hz] at hg;have:startsF [z] (c::u')=(z==c && true):=by cases u'<;>rfl
        rw [this,Bool.and_true,Bool.not_eq_true] at hg;rw [Bool.beq_comm];exact hg
    have:=brace_op9 pq hd hn ho (fun h=>hhead 37 h (.inl rfl)) (fun h=>hhead 35 h (.inr rfl)) hb (h4.tidy.trans htw.fix);simpa using this
theorem parts_ok:∀(l:List Pt) (stop:UInt8→Bool) (q:Bool) (d:Nat) (X:Bs),Stops stop→OkPs stop q d l→NoJ l→NoRisk X→∃raw,Stp stop q d (piecesS q l++X) raw X∧Eqv raw l
 | [],stop,q,d,X,hst,h,hj,hX=>by
  rw [piecesS_nil];exact⟨[],.done X,Eqv.refl _⟩
 | p::l,stop,q,d,X,hst,h,hj,hX=>by
  unfold OkPs at h;obtain⟨raw2,h3,h4⟩:=parts_ok l stop q d X hst h.2 (by cases l with | nil=>trivial | cons y u=>exact hj.2) hX;have hR:p.kind=1→NoRisk (piecesS q l++X):=fun hk=>by
   have hq:q=false:=by
    obtain⟨k,t,n,o,w,pq⟩:=p;have:=h.1;unfold OkP at this;obtain⟨_,_,h5⟩:=this;have hk':k=1:=hk;subst hk';rcases h5 with ⟨_,h6,_⟩ | ⟨h6,_⟩ | ⟨h6,_⟩ | ⟨h6,_⟩ | ⟨h6,_⟩
    ·exact h6
    all_goals cases h6
   cases l with
   | nil=>rw [piecesS_nil];exact hX
   | cons y u=>
    have hy:y.kind≠1:=fun hy=>by
     have:=hj.1;unfold Pt.joins at this;rw [hk,hy] at this;cases this
    have h2:=h.2;unfold OkPs at h2;obtain⟨c,v,hc,_,hcs⟩:=part_head h2.1;rw [piecesS_cons,hc];show riskyB c=false;rcases hcs hq hy with rfl | rfl | rfl<;>decide
  obtain⟨raw,h1,h2⟩:=part_ok p stop q d (piecesS q l++X) hst h.1 hR;refine⟨raw++raw2,?_,?_⟩
  ·rw [piecesS_cons,List.append_assoc];exact h1.trans h3
  ·exact Eqv.app h2 h4
end
/-! What closes. -/
theorem calc_take:∀(r:Bs) (o k:Nat),calcF o r=some k→calcF o (r.take k++[41,41])=some k∧(r.take k).length=k
 | [],_,_,h=>by cases h
 | c::t,o,k,h=>by
  unfold calcF at h;by_cases h1:(c==40)=true
  ·rw [if_pos h1] at h;obtain⟨j,hj,rfl⟩:=map_some h;obtain⟨i1,i2⟩:=calc_take t _ j hj;rw [List.take_succ_cons,List.cons_append];unfold calcF;rw [if_pos h1,i1];exact⟨rfl,by rw [List.length_cons,i2]⟩
  rw [if_neg h1] at h;by_cases h3:(c==41)=true
  ·rw [if_pos h3] at h;by_cases h0:o=0
   ·rw [if_pos h0] at h;split at h
    ·obtain rfl:=Option.some.inj h;rw [h0];exact⟨rfl,rfl⟩
    ·cases h
   ·rw [if_neg h0] at h;obtain⟨j,hj,rfl⟩:=map_some h;obtain⟨i1,i2⟩:=calc_take t _ j hj;rw [List.take_succ_cons,List.cons_append];unfold calcF;rw [if_neg h1,if_pos h3,if_neg h0,i1];exact⟨rfl,by rw [List.length_cons,i2]⟩
  ·rw [if_neg h3] at h;obtain⟨j,hj,rfl⟩:=map_some h;obtain⟨i1,i2⟩:=calc_take t _ j hj;rw [List.take_succ_cons,List.cons_append];unfold calcF;rw [if_neg h1,if_neg h3,i1];exact⟨rfl,by rw [List.length_cons,i2]⟩
theorem subF_n (o:Nat) (c:UInt8) (t:Bs):subF .n o (c::t)=if c==39 then (subF .q1 o t).map (· + 1) else if c==34 then (subF .q2 o t).map (· + 1) else if c==92 then (subF .bn o t).map (· + 1)
 else if c==40 then (subF .n (o+1) t).map (· + 1)
 else if c==41 then (if o=0 then some 0 else (subF .n (o - 1) t).map (· + 1))
 else (subF .n o t).map (· + 1):=by rw [subF]
theorem sub_take:∀(r:Bs) (m:SM) (o k:Nat),subF m o r=some k→subF m o (r.take k++[41])=some k∧(r.take k).length=k
 | [],m,_,_,h=>by cases m<;>cases h
 | c::t,m,o,k,h=>by
  have key:∀(m':SM) (o':Nat),(subF m' o' t).map (· + 1)=some k→∃j,k=j+1∧(subF m' o' (t.take j++[41])).map (· + 1)=some k∧(t.take j).length=j:=fun m' o' h'=>by
   obtain⟨j,hj,rfl⟩:=map_some h';obtain⟨i1,i2⟩:=sub_take t m' o' j hj;exact⟨j,rfl,by rw [i1];rfl,i2⟩
  have fin:∀(m':SM) (o':Nat),(subF m' o' t).map (· + 1)=some k→(∀u,subF m o (c::u)=(subF m' o' u).map (· + 1))→subF m o ((c::t).take k++[41])=some k∧((c::t).take k).length=k:=fun m' o' h' he=>by
   obtain⟨j,rfl,i1,i2⟩:=key m' o' h';rw [List.take_succ_cons,List.cons_append,he];exact⟨i1,by rw [List.length_cons,i2]⟩
  cases m with
  | n=>
   unfold subF at h;by_cases h1:(c==39)=true
   ·rw [if_pos h1] at h;exact fin _ _ h (fun u=>by rw [subF_n,if_pos h1])
   rw [if_neg h1] at h;by_cases h2:(c==34)=true
   ·rw [if_pos h2] at h;exact fin _ _ h (fun u=>by rw [subF_n,if_neg h1,if_pos h2])
   rw [if_neg h2] at h;by_cases h3:(c==92)=true
   ·rw [if_pos h3] at h;exact fin _ _ h (fun u=>by rw [subF_n,if_neg h1,if_neg h2,if_pos h3])
   rw [if_neg h3] at h;by_cases h4:(c==40)=true
   ·rw [if_pos h4] at h;exact fin _ _ h (fun u=>by rw [subF_n,if_neg h1,if_neg h2,if_neg h3,if_pos h4])
   rw [if_neg h4] at h;by_cases h5:(c==41)=true
   ·rw [if_pos h5] at h;by_cases h0:o=0
    ·rw [if_pos h0] at h;obtain rfl:=Option.some.inj h;rw [h0];exact⟨rfl,rfl⟩
    ·rw [if_neg h0] at h;exact fin _ _ h (fun u=>by rw [subF_n,if_neg h1,if_neg h2,if_neg h3,if_neg h4,if_pos h5,if_neg h0])
   ·rw [if_neg h5] at h;exact fin _ _ h (fun u=>by rw [subF_n,if_neg h1,if_neg h2,if_neg h3,if_neg h4,if_neg h5])
  | q1=>unfold subF at h;exact fin _ _ h (fun u=>by rw [subF])
  | q2=>unfold subF at h;exact fin _ _ h (fun u=>by rw [subF])
  | bn=>unfold subF at h;exact fin _ _ h (fun u=>by rw [subF])
  | bq=>unfold subF at h;exact fin _ _ h (fun u=>by rw [subF])
/-! Names. -/
theorem tailRun_take {c':UInt8} (hc:(letterB c' || digitB c')=false) (X:Bs):∀t,tailRun (t.take (tailRun t)++c'::X)=tailRun t∧(t.take (tailRun t)).length=tailRun t
 | []=>by
  show (if (letterB c' || digitB c')=true then _ else 0)=0∧_;rw [hc];exact⟨rfl,rfl⟩
 | c::t=>by
  obtain⟨i1,i2⟩:=tailRun_take hc X t;by_cases h:(letterB c || digitB c)=true
  ·have e:∀u,tailRun (c::u)=tailRun u+1:=fun u=>by show (if (letterB c || digitB c)=true then _ else 0)=_;rw [if_pos h]
   rw [e,List.take_succ_cons,List.cons_append,e,i1,List.length_cons,i2];exact⟨rfl,rfl⟩
  ·have e:∀u,tailRun (c::u)=0:=fun u=>by show (if (letterB c || digitB c)=true then _ else 0)=_;rw [if_neg h]
   rw [e];refine⟨?_,rfl⟩;show (if (letterB c' || digitB c')=true then _ else 0)=0;rw [hc];rfl
theorem dig_take {c':UInt8} (hc:digitB c'=false) (X:Bs):∀t,digRun (t.take (digRun t)++c'::X)=digRun t∧(t.take (digRun t)).length=digRun t
 | []=>by
  show (if digitB c'=true then _ else 0)=0∧_;rw [hc];exact⟨rfl,rfl⟩
 | c::t=>by
  obtain⟨i1,i2⟩:=dig_take hc X t;by_cases h:digitB c=true
  ·have e:∀u,digRun (c::u)=digRun u+1:=fun u=>by show (if digitB c=true then _ else 0)=_;rw [if_pos h]
   rw [e,List.take_succ_cons,List.cons_append,e,i1,List.length_cons,i2];exact⟨rfl,rfl⟩
  ·have e:∀u,digRun (c::u)=0:=fun u=>by show (if digitB c=true then _ else 0)=_;rw [if_neg h]
   rw [e];refine⟨?_,rfl⟩;show (if digitB c'=true then _ else 0)=0;rw [hc];rfl
theorem op_some {o:Bs} (h:o∈opsL) (X:Bs):(opF (o++X)).isEmpty=false:=by
 simp only [opsL,List.mem_cons,List.not_mem_nil,or_false] at h;rcases h with rfl | rfl | rfl | rfl | rfl | rfl | rfl | rfl | rfl | rfl | rfl | rfl
 ·rfl
 ·rfl
 ·rfl
 ·rfl
 ·rfl
 ·rfl
 ·rfl
 ·rfl
 ·rfl
 ·rfl
 ·cases X with
  | nil=>rfl
  | cons c t=>
   by_cases h8:((37:UInt8)==c)=true
   ·obtain rfl:=beq_iff_eq.1 h8;rfl
   ·simp [opF,findF,opsL,startsF,h8]
 ·cases X with
  | nil=>rfl
  | cons c t=>
   by_cases h8:((35:UInt8)==c)=true
   ·obtain rfl:=beq_iff_eq.1 h8;rfl
   ·simp [opF,findF,opsL,startsF,h8]
theorem long_no {c:UInt8} (h:(c==35)=false) (t:Bs):longB (c::t)=false:=by
 unfold longB;rw [show headIs 35 (c::t)=(c==35) from rfl,h];rfl
theorem dig35 {c:UInt8} (h:digitB c=true):(c==35)=false:=by
 rw [beq_eq_false_iff_ne];rintro rfl;cases h
theorem let35 {c:UInt8} (h:letterB c=true):(c==35)=false:=by
 rw [beq_eq_false_iff_ne];rintro rfl;cases h
theorem runF_c (c:UInt8) (t:Bs):runF (c::t)=if letterB c then tailRun t+1 else 0:=by rw [runF]
theorem nameF_cons (b:Bool) (c:UInt8) (t:Bs):nameF b (c::t)=if letterB c then tailRun t+1 else if digitB c then (if b then digRun t+1 else 1) else if specialB c then 1 else 0:=by
 unfold nameF;rw [runF_c];by_cases h:letterB c=true
 ·rw [if_pos h,if_pos (Nat.succ_pos _),if_pos h]
 ·rw [if_neg h,if_neg (by decide),if_neg h]
theorem nameP_of (b:Bool) (r:Bs) (h:nameF b r≠0):NameP (r.take (nameF b r)):=by
 cases r with
 | nil=>exact absurd rfl h
 | cons c t=>
  rw [nameF_cons] at h ⊢;by_cases hl:letterB c=true
  ·rw [if_pos hl,List.take_succ_cons];refine⟨by simp,fun c' X hc'=>?_,fun X=>long_no (let35 hl) _,fun o ho X=>long_no (let35 hl) _⟩;obtain⟨i1,i2⟩:=tailRun_take hc' X t;rw [List.cons_append,nameF_cons,if_pos hl,i1,List.length_cons,i2]
  rw [if_neg hl] at h ⊢;by_cases hd:digitB c=true
  ·rw [if_pos hd];cases b with
   | true=>
    rw [if_pos rfl,List.take_succ_cons];refine⟨by simp,fun c' X hc'=>?_,fun X=>long_no (dig35 hd) _,fun o ho X=>long_no (dig35 hd) _⟩;obtain⟨i1,i2⟩:=dig_take (Bool.or_eq_false_iff.1 hc').2 X t;rw [List.cons_append,nameF_cons,if_neg hl,if_pos hd,if_pos rfl,i1,List.length_cons,i2]
   | false=>
    rw [if_neg (by simp)];refine⟨by simp,fun c' X hc'=>?_,fun X=>long_no (dig35 hd) _,fun o ho X=>long_no (dig35 hd) _⟩;show nameF true (c::c'::X)=1;rw [nameF_cons,if_neg hl,if_pos hd,if_pos rfl];show (if digitB c'=true then _ else 0)+1=1;rw [(Bool.or_eq_false_iff.1 hc').2];rfl
  rw [if_neg hd] at h ⊢;by_cases hs:specialB c=true
  ·rw [if_pos hs];refine⟨by simp,fun c' X hc'=>?_,fun X=>?_,fun o ho X=>?_⟩
   ·show nameF true (c::c'::X)=1;rw [nameF_cons,if_neg hl,if_neg hd,if_pos hs]
   ·show longB (c::125::X)=false;unfold longB;rw [show headIs 125 (List.tail (c::125::X))=true from rfl];simp
   ·show longB (c::(o++X))=false;unfold longB;rw [List.tail_cons,op_some ho X];simp
  ·rw [if_neg hs] at h;exact absurd rfl h
theorem op_indep {n:Bs} (hn:n≠[]) (X Y:Bs):opF (n++125::X)=opF (n++125::Y):=by
 cases n with
 | nil=>exact absurd rfl hn
 | cons c t=>
  unfold opF findF;rw [find_congr (q:=fun o=>startsF o (c::t++125::Y)) opsL fun o ho=>?_];have h2:∀o∈opsL,(∃a,o=[a])∨∃a b,o=[a,b]:=by
   intro o ho;simp only [opsL,List.mem_cons,List.not_mem_nil,or_false] at ho;rcases ho with rfl | rfl | rfl | rfl | rfl | rfl | rfl | rfl | rfl | rfl | rfl | rfl
   all_goals first | exact .inl ⟨_,rfl⟩ | exact .inr ⟨_,_,rfl⟩
  rcases h2 o ho with ⟨a,rfl⟩ | ⟨a,b,rfl⟩
  ·cases t<;>rfl
  ·cases t with
   | nil=>rfl
   | cons e u=>cases u<;>rfl
theorem op_mem {r:Bs} (h:(opF r).isEmpty=false):opF r∈opsL:=by
 unfold opF findF at h ⊢;cases hf:opsL.find? (fun o=>startsF o r) with
 | none=>rw [hf] at h;cases h
 | some o=>exact List.mem_of_find?_eq_some hf
/-! Tidied parts. -/
theorem okps_of {stop:UInt8→Bool} {q:Bool} {d:Nat}:∀{l:List Pt},(∀p∈l,OkP stop q d p)→OkPs stop q d l
 | [],_=>by unfold OkPs;trivial
 | p::l,h=>by
  unfold OkPs;exact⟨h p (List.mem_cons_self ..),okps_of fun x hx=>h x (List.mem_cons_of_mem _ hx)⟩
theorem noj_snoc:∀{l:List Pt} {x:Pt},NoJ l→(∀z,l.getLast? = some z→z.joins x=false)→NoJ (l++[x])
 | [],x,_,_=>trivial
 | [a],x,_,h=>⟨h a rfl,trivial⟩
 | a::b::l,x,hj,h=>⟨hj.1,noj_snoc hj.2 (fun z hz=>h z (by rw [List.getLast?_cons_cons];exact hz))⟩
theorem noj_init:∀{l:List Pt} {x:Pt},NoJ (l++[x])→NoJ l∧∀z,l.getLast? = some z→z.joins x=false
 | [],x,_=>⟨trivial,fun z hz=>by cases hz⟩
 | [a],x,h=>⟨trivial,fun z hz=>by obtain rfl:=Option.some.inj hz;exact h.1⟩
 | a::b::l,x,h=>by
  obtain⟨i1,i2⟩:=noj_init (l:=b::l) (x:=x) h.2;exact⟨⟨h.1,i1⟩,fun z hz=>i2 z (by rw [List.getLast?_cons_cons] at hz;exact hz)⟩
theorem okp_join {stop:UInt8→Bool} {q:Bool} {d:Nat} {y x:Pt} (hy:OkP stop q d y) (hx:OkP stop q d x) (hj:y.joins x=true):OkP stop q d (y.join x):=by
 obtain⟨k,t,n,o,w,pq⟩:=y;obtain⟨k2,t2,n2,o2,w2,pq2⟩:=x;unfold Pt.joins at hj;simp only [Pt.kind,Bool.and_eq_true,Bool.or_eq_true,beq_iff_eq] at hj;obtain⟨rfl,hk⟩:=hj;unfold OkP at hx hy;unfold Pt.join;simp only [Pt.kind,Pt.text,Pt.name,Pt.op,Pt.word,Pt.quoted];unfold OkP;refine⟨fun c hc=>(List.mem_append.1 hc).elim (hy.1 c) (hx.1 c),hy.2.1,?_⟩;rcases hy.2.2 with ⟨rfl,rfl,h1,h2,h3⟩ | ⟨rfl,h1,h3⟩ | ⟨rfl,_⟩ | ⟨rfl,_⟩ | ⟨rfl,_⟩
 ·rcases hx.2.2 with ⟨_,_,g1,g2,_⟩ | ⟨g,_⟩ | ⟨g,_⟩ | ⟨g,_⟩ | ⟨g,_⟩
  ·exact .inl ⟨rfl,rfl,by simp [h1],fun c hc=>(List.mem_append.1 hc).elim (h2 c) (g2 c),h3⟩
  all_goals cases g
 ·rcases hx.2.2 with ⟨g,_⟩ | ⟨_,g1,_⟩ | ⟨g,_⟩ | ⟨g,_⟩ | ⟨g,_⟩
  ·cases g
  ·exact .inr (.inl ⟨rfl,fun hq=>⟨by simp [(h1 hq).1],fun c hc=>(List.mem_append.1 hc).elim ((h1 hq).2 c) ((g1 hq).2 c)⟩,h3⟩)
  all_goals cases g
 all_goals rcases hk with hk | hk<;>cases hk
theorem joins_kind {z y x:Pt}:z.joins (y.join x)=z.joins y:=by
 cases y;cases x;rfl
theorem joinE {y x:Pt} (h:x.isE=false) (hk:y.kind=x.kind):(y.join x).isE=false:=by
 obtain⟨k,t,n,o,w,pq⟩:=y;obtain⟨k2,t2,n2,o2,w2,pq2⟩:=x;have hk':k=k2:=hk;subst hk';unfold Pt.isE at h ⊢;unfold Pt.join;simp only [Pt.kind,Pt.text] at h ⊢;cases hk2:(k==2) with
 | false=>rfl
 | true=>
  rw [hk2,Bool.true_and] at h;rw [Bool.true_and];cases t2 with
  | nil=>cases h
  | cons a b=>cases t<;>rfl
theorem normF_ok {stop:UInt8→Bool} {q:Bool} {d:Nat}:∀(l:List Pt) (a:List Pt×Bool),(∀p∈l,OkP stop q d p)→(∀p∈a.1,OkP stop q d p)→NoJ a.1→(∀p∈a.1,p.isE=false)→(a.2=true→q=true→a.1≠[])→
 (∀p∈(l.foldl stepN a).1,OkP stop q d p)∧NoJ (l.foldl stepN a).1∧(∀p∈(l.foldl stepN a).1,p.isE=false)∧((l.foldl stepN a).2=true→q=true→(l.foldl stepN a).1≠[])
 | [],a,_,h1,h2,h3,h4=>⟨h1,h2,h3,h4⟩
 | x::l,a,hl,h1,h2,h3,h4=>by
  rw [List.foldl_cons];have hx:=hl x (List.mem_cons_self ..);refine normF_ok l _ (fun p hp=>hl p (List.mem_cons_of_mem _ hp)) ?_ ?_ ?_ ?_
  all_goals unfold stepN
  all_goals by_cases hE:x.isE=true
  all_goals first | rw [if_pos hE] | rw [if_neg hE]
  ·exact h1
  ·dsimp only;unfold addP;split
   ·next y hy=>
    have hym:=List.mem_of_getLast? hy;split
    ·next hj=>
     intro p hp;rcases List.mem_append.1 hp with hp | hp
     ·exact h1 p (List.dropLast_subset _ hp)
     ·rw [List.mem_singleton.1 hp];exact okp_join (h1 y hym) hx hj
    ·intro p hp;rcases List.mem_append.1 hp with hp | hp
     ·exact h1 p hp
     ·rw [List.mem_singleton.1 hp];exact hx
   ·intro p hp;rw [List.mem_singleton.1 hp];exact hx
  ·exact h2
  ·dsimp only;unfold addP;split
   ·next y hy=>
    have hs:a.1.dropLast++[y]=a.1:=by
     obtain⟨u,hu⟩:=List.getLast?_eq_some_iff.1 hy;rw [hu,List.dropLast_concat]
    split
    ·next hj=>
     obtain⟨i1,i2⟩:=noj_init (l:=a.1.dropLast) (x:=y) (by rw [hs];exact h2);exact noj_snoc i1 (fun z hz=>by rw [joins_kind];exact i2 z hz)
    ·next hj=>exact noj_snoc h2 (fun z hz=>by rw [hy] at hz;obtain rfl:=Option.some.inj hz;simpa using hj)
   ·trivial
  ·exact h3
  ·dsimp only;unfold addP;split
   ·next y hy=>
    have hym:=List.mem_of_getLast? hy;split
    ·next hj=>
     intro p hp;rcases List.mem_append.1 hp with hp | hp
     ·exact h3 p (List.dropLast_subset _ hp)
     ·rw [List.mem_singleton.1 hp];refine joinE (by simpa using hE) ?_;unfold Pt.joins at hj;rw [Bool.and_eq_true] at hj;exact beq_iff_eq.1 hj.1
    ·intro p hp;rcases List.mem_append.1 hp with hp | hp
     ·exact h3 p hp
     ·rw [List.mem_singleton.1 hp];simpa using hE
   ·intro p hp;rw [List.mem_singleton.1 hp];simpa using hE
  ·intro _ hq;exfalso;obtain⟨k,t,n,o,w,pq⟩:=x;unfold Pt.isE at hE;simp only [Pt.kind,Pt.text,Bool.and_eq_true,beq_iff_eq,List.isEmpty_iff] at hE;obtain⟨rfl,rfl⟩:=hE;unfold OkP at hx;rcases hx.2.2 with ⟨g,_⟩ | ⟨_,g1,_⟩ | ⟨g,_⟩ | ⟨g,_⟩ | ⟨g,_⟩
   ·cases g
   ·exact (g1 hq).1 rfl
   all_goals cases g
  ·intro _ _;dsimp only;unfold addP;split
   ·split<;>simp
   ·simp
theorem tidy_ok {stop:UInt8→Bool} {q:Bool} {d:Nat} {l:List Pt} (h:∀p∈l,OkP stop q d p):OkPs stop q d (tidyF l)∧TidyW (tidyF l):=by
 obtain⟨i1,i2,i3,i4⟩:=normF_ok l ([],false) h (fun p hp=>by cases hp) trivial (fun p hp=>by cases hp) (fun h=>by cases h);unfold tidyF;split
 ·next hc=>
  rw [Bool.and_eq_true] at hc;have h0:(normF l).1=[]:=List.isEmpty_iff.1 hc.1;have hq:q=false:=by
   cases q with
   | false=>rfl
   | true=>exact absurd h0 (i4 hc.2 rfl)
  subst hq;refine⟨okps_of fun p hp=>?_,.inl rfl⟩;rw [List.mem_singleton.1 hp];show OkP stop false d (.mk 2 [] [] [] [] false);unfold OkP;exact⟨(fun c hc=>by cases hc),(fun c hc=>by cases hc),.inr (.inl ⟨rfl,(fun h=>by cases h),rfl,rfl,rfl,rfl⟩)⟩
 ·exact⟨okps_of i1,.inr ⟨i2,i3⟩⟩
theorem NZ.tail {c:UInt8} {t:Bs} (h:NZ (c::t)):NZ t:=fun x hx=>h x (List.mem_cons_of_mem _ hx)
theorem NZ.drop {r:Bs} (h:NZ r) (k:Nat):NZ (r.drop k):=fun x hx=>h x (List.mem_of_mem_drop hx)
theorem NZ.take {r:Bs} (h:NZ r) (k:Nat):NZ (r.take k):=fun x hx=>h x (List.mem_of_mem_take hx)
theorem NZ.tl {r:Bs} (h:NZ r):NZ r.tail:=fun x hx=>h x (List.mem_of_mem_tail hx)
theorem NZ.nil:NZ []:=fun x hx=>by cases hx
theorem NZ.one {c:UInt8} (h:c≠0):NZ [c]:=fun x hx=>by rw [List.mem_singleton.1 hx];exact h
theorem okp_txt {stop:UInt8→Bool} {d:Nat} {c:UInt8} (h:txB c=true) (hs:stop c=false) (h0:c≠0):OkP stop false d (txtP [c]):=by
 show OkP stop false d (.mk 1 [c] [] [] [] false);unfold OkP;exact⟨NZ.one h0,NZ.nil,.inl ⟨rfl,rfl,by simp,fun x hx=>by rw [List.mem_singleton.1 hx];exact⟨h,hs⟩,rfl,rfl,rfl,rfl⟩⟩
theorem okp_quo {stop:UInt8→Bool} {q:Bool} {d:Nat} {s:Bs} (hz:NZ s) (h:q=true→s≠[]∧∀c∈s,stop c=false):OkP stop q d (quoP s):=by
 show OkP stop q d (.mk 2 s [] [] [] false);unfold OkP;exact⟨hz,NZ.nil,.inr (.inl ⟨rfl,h,rfl,rfl,rfl,rfl⟩)⟩
theorem okp_quo1 {stop:UInt8→Bool} {q:Bool} {d:Nat} {c:UInt8} (hz:c≠0) (h:q=true→stop c=false):OkP stop q d (quoP [c]):=
 okp_quo (NZ.one hz) fun hq=>⟨by simp,fun x hx=>by rw [List.mem_singleton.1 hx];exact h hq⟩
theorem okp_out {stop stop':UInt8→Bool} {d:Nat} {p:Pt} (h:OkP stop true d p):OkP stop' false d p:=by
 obtain⟨k,t,n,o,w,pq⟩:=p;unfold OkP at h ⊢;refine⟨h.1,h.2.1,?_⟩;rcases h.2.2 with ⟨_,g,_⟩ | ⟨rfl,_,h3⟩ | ⟨rfl,_,h3⟩ | ⟨rfl,_,h3⟩ | ⟨rfl,_,h3⟩
 ·cases g
 ·exact .inr (.inl ⟨rfl,(fun h=>by cases h),h3⟩)
 ·exact .inr (.inr (.inl ⟨rfl,(fun h=>by cases h),h3⟩))
 ·exact .inr (.inr (.inr (.inl ⟨rfl,(fun h=>by cases h),h3⟩)))
 ·exact .inr (.inr (.inr (.inr ⟨rfl,(fun h=>by cases h),h3⟩)))
def MG (md:Md) (d:Nat) (r:Bs) (l:List Pt):Prop:=match md with
 | .one q=>∀stop,Stops stop→(∀c t,r=c::t→stop c=false)→∀p∈l,OkP stop q d p
 | .dq=>∀p∈l,OkP (fun _=>false) true d p
 | .br q=>∀p∈l,OkP brS q d p
 | .dol q=>∀stop,Stops stop→∀p∈l,OkP stop q d p
 | .brace q=>∀stop,∀p∈l,OkP stop q d p
theorem all_sing {P:Pt→Prop} {x:Pt} (h:P x):∀p∈[x],P p:=fun p hp=>by rw [List.mem_singleton.1 hp];exact h
theorem all_app {P:Pt→Prop} {l m:List Pt} (h:∀p∈l,P p) (h2:∀p∈m,P p):∀p∈l++m,P p:=fun p hp=>(List.mem_append.1 hp).elim (h p) (h2 p)
theorem esc_stop {stop:UInt8→Bool} (hs:Stops stop) {c:UInt8} (h:escB c=true):stop c=false:=by
 simp only [escB,Bool.or_eq_true,beq_iff_eq] at h;rcases h with ((rfl | rfl) | rfl) | rfl
 ·exact hs.c
 ·exact hs.b
 ·exact hs.d
 ·exact hs.e
theorem noStop:Stops (fun _=>false):=⟨rfl,rfl,rfl,rfl,rfl⟩
theorem lex_ok:∀(n:Nat) (md:Md) (d:Nat) (r:Bs) (l:List Pt) (r1:Bs),d≤40→NZ r→lexD n md d r=.ok (l,r1)→NZ r1∧MG md d r l:=by
 intro n;induction n with
 | zero=>intro md d r l r1 _ _ h;cases md<;>cases h
 | succ n ih=>
  intro md d r l r1 hd hz h;cases md with
  | one q=>
   cases r with
   | nil=>
    have h2:lexD (n+1) (.one q) d []=.ok ([],[]):=by cases q<;>rfl
    rw [h2] at h;obtain⟨rfl,rfl⟩:=Prod.mk.inj (Except.ok.inj h);exact⟨hz,fun _ _ _ p hp=>by cases hp⟩
   | cons c t=>
    have hzt:=hz.tail;have hc0:c≠0:=hz c (List.mem_cons_self ..);cases q with
    | false=>
     rw [lexD_out] at h;by_cases h39:(c==39)=true
     ·rw [if_pos h39] at h;cases hu:untilF 39 t with
      | none=>rw [hu] at h;cases h
      | some k=>
       rw [hu] at h;obtain⟨rfl,rfl⟩:=Prod.mk.inj (Except.ok.inj h);exact⟨hzt.drop _,fun stop _ _=>all_sing (okp_quo (hzt.take _) (fun h=>by cases h))⟩
     rw [if_neg h39] at h;by_cases h34:(c==34)=true
     ·rw [if_pos h34] at h;obtain⟨m,hm,rfl⟩:=ahead_ok h;obtain⟨i1,i2⟩:=ih .dq d t m r1 hd hzt hm;exact⟨i1,fun stop _ _=>all_app (all_sing (okp_quo NZ.nil (fun h=>by cases h))) (fun p hp=>okp_out (i2 p hp))⟩
     rw [if_neg h34] at h;by_cases h92:(c==92)=true
     ·rw [if_pos h92] at h;cases t with
      | nil=>
       obtain⟨rfl,rfl⟩:=Prod.mk.inj (Except.ok.inj h);exact⟨NZ.nil,fun stop _ _=>all_sing (okp_quo1 (by decide) (fun h=>by cases h))⟩
      | cons y t'=>
       dsimp only at h;split at h
       ·obtain⟨rfl,rfl⟩:=Prod.mk.inj (Except.ok.inj h);exact⟨hzt.tail,fun stop _ _ p hp=>by cases hp⟩
       ·obtain⟨rfl,rfl⟩:=Prod.mk.inj (Except.ok.inj h);exact⟨hzt.tail,fun stop _ _=>all_sing (okp_quo1 (hzt y (List.mem_cons_self ..)) (fun h=>by cases h))⟩
     rw [if_neg h92] at h;by_cases h96:(c==96)=true
     ·rw [if_pos h96] at h;cases h
     rw [if_neg h96] at h;by_cases h36:(c==36)=true
     ·rw [if_pos h36] at h;obtain⟨i1,i2⟩:=ih (.dol false) d t l r1 hd hzt h;exact⟨i1,fun stop hs _=>i2 stop hs⟩
     rw [if_neg h36] at h;obtain⟨rfl,rfl⟩:=Prod.mk.inj (Except.ok.inj h);refine⟨hzt,fun stop hs hst=>all_sing (okp_txt ?_ (hst c t rfl) hc0)⟩;rw [Bool.not_eq_true] at h39 h34 h92 h96 h36;unfold txB plainB;rw [h39,h34,h92,h96,h36];rfl
    | true=>
     rw [lexD_inn] at h;by_cases h34:(c==34 || c==96)=true
     ·rw [if_pos h34] at h;cases h
     rw [if_neg h34] at h;by_cases ha:(c==92 && headIs 10 t)=true
     ·rw [if_pos ha] at h;obtain⟨rfl,rfl⟩:=Prod.mk.inj (Except.ok.inj h);exact⟨hzt.tl,fun stop _ _ p hp=>by cases hp⟩
     rw [if_neg ha] at h;by_cases hb:(c==92 && escB (t.headD 0))=true
     ·rw [if_pos hb] at h;obtain⟨rfl,rfl⟩:=Prod.mk.inj (Except.ok.inj h);rw [Bool.and_eq_true] at hb;refine⟨hzt.tl,fun stop hs _=>all_sing (okp_quo1 ?_ (fun _=>esc_stop hs hb.2))⟩;intro h0;rw [h0] at hb;cases hb.2
     rw [if_neg hb] at h;by_cases h36:(c==36)=true
     ·rw [if_pos h36] at h;obtain⟨i1,i2⟩:=ih (.dol true) d t l r1 hd hzt h;exact⟨i1,fun stop hs _=>i2 stop hs⟩
     rw [if_neg h36] at h;obtain⟨rfl,rfl⟩:=Prod.mk.inj (Except.ok.inj h);exact⟨hzt,fun stop hs hst=>all_sing (okp_quo1 hc0 (fun _=>hst c t rfl))⟩
  | dq=>
   rw [lexD_dq] at h;cases r with
   | nil=>cases h
   | cons c t=>
    dsimp only at h;by_cases h34:(c==34)=true
    ·rw [if_pos h34] at h;obtain⟨rfl,rfl⟩:=Prod.mk.inj (Except.ok.inj h);exact⟨hz.tail,fun p hp=>by cases hp⟩
    ·rw [if_neg h34] at h;cases h2:lexD n (.one true) d (c::t) with
     | error e=>rw [h2] at h;cases h
     | ok z=>
      obtain⟨l2,r2⟩:=z;rw [h2] at h;obtain⟨m,hm,rfl⟩:=ahead_ok h;obtain⟨i1,i2⟩:=ih (.one true) d (c::t) l2 r2 hd hz h2;obtain⟨j1,j2⟩:=ih .dq d r2 m r1 hd i1 hm;exact⟨j1,all_app (i2 _ noStop (fun _ _ _=>rfl)) j2⟩
  | br q=>
   rw [lexD_br] at h;cases r with
   | nil=>cases h
   | cons c t=>
    dsimp only at h;by_cases h34:(c==125)=true
    ·rw [if_pos h34] at h;obtain⟨rfl,rfl⟩:=Prod.mk.inj (Except.ok.inj h);exact⟨hz.tail,fun p hp=>by cases hp⟩
    ·rw [if_neg h34] at h;cases h2:lexD n (.one q) d (c::t) with
     | error e=>rw [h2] at h;cases h
     | ok z=>
      obtain⟨l2,r2⟩:=z;rw [h2] at h;obtain⟨m,hm,rfl⟩:=ahead_ok h;obtain⟨i1,i2⟩:=ih (.one q) d (c::t) l2 r2 hd hz h2;obtain⟨j1,j2⟩:=ih (.br q) d r2 m r1 hd i1 hm;refine⟨j1,all_app (i2 _ brS_ok (fun c' t' e=>?_)) j2⟩;injection e with e1 e2;subst e1;simpa [brS] using h34
  | dol q=>
   rw [lexD_dol] at h;by_cases h1:headIs 123 r=true
   ·rw [if_pos h1] at h;obtain⟨i1,i2⟩:=ih (.brace q) d r.tail l r1 hd hz.tl h;exact⟨i1,fun stop _=>i2 stop⟩
   rw [if_neg h1] at h;by_cases h2:startsF [40,40] r=true
   ·rw [if_pos h2] at h;cases hu:calcF 0 (r.drop 2) with
    | none=>rw [hu] at h;cases h
    | some k=>
     rw [hu] at h;obtain⟨rfl,rfl⟩:=Prod.mk.inj (Except.ok.inj h);obtain⟨i1,i2⟩:=calc_take _ _ _ hu;refine⟨(hz.drop _).drop _,fun stop _=>all_sing ?_⟩;unfold OkP;exact⟨(hz.drop _).take _,NZ.nil,.inr (.inr (.inl ⟨rfl,(fun h=>h),by rw [i2];exact i1,rfl,rfl,rfl⟩))⟩
   rw [if_neg h2] at h;by_cases h3:headIs 40 r=true
   ·rw [if_pos h3] at h;obtain⟨t,rfl⟩:=headIs_cons h3;rw [List.tail_cons] at h;cases hu:subF .n 0 t with
    | none=>rw [hu] at h;cases h
    | some k=>
     rw [hu] at h;obtain⟨rfl,rfl⟩:=Prod.mk.inj (Except.ok.inj h);obtain⟨i1,i2⟩:=sub_take _ _ _ _ hu;have h40:headIs 40 (t.take k)=false:=by
      cases t with
      | nil=>rw [List.take_nil];rfl
      | cons c u=>
       have h5:((40:UInt8)==c)=false:=by
        have h6:startsF [40,40] (40::c::u)=((40:UInt8)==c):=by
         show ((40:UInt8)==40 && ((40:UInt8)==c && startsF [] u))=_;cases u<;>simp [startsF]
        rw [h6] at h2;simpa using h2
       cases k with
       | zero=>rfl
       | succ k=>show (c==40)=false;rw [Bool.beq_comm];exact h5
     refine⟨hz.tail.drop _,fun stop _=>all_sing ?_⟩;unfold OkP;exact⟨hz.tail.take _,NZ.nil,.inr (.inr (.inr (.inl ⟨rfl,(fun h=>h),h40,by rw [i2];exact i1,rfl,rfl,rfl⟩)))⟩
   rw [if_neg h3] at h;by_cases h4:nameF false r=0
   ·rw [if_pos h4] at h;obtain⟨rfl,rfl⟩:=Prod.mk.inj (Except.ok.inj h);refine⟨hz,fun stop hs=>all_sing ?_⟩;cases q with
    | true=>exact okp_quo1 (by decide) (fun _=>hs.c)
    | false=>exact okp_txt (by decide) hs.c (by decide)
   ·rw [if_neg h4] at h;obtain⟨rfl,rfl⟩:=Prod.mk.inj (Except.ok.inj h);refine⟨hz.drop _,fun stop _=>all_sing ?_⟩;unfold OkP;exact⟨NZ.nil,hz.take _,.inr (.inr (.inr (.inr ⟨rfl,(fun h=>h),rfl,nameP_of _ _ h4,.inl ⟨rfl,rfl⟩⟩)))⟩
  | brace q=>
   rw [lexD_brace] at h;obtain⟨r0,hr0⟩:∃r0,r0=(if longB r then r.tail else r):=⟨_,rfl⟩;rw [←hr0] at h;have hz0:NZ r0:=by
    rw [hr0];split
    ·exact hz.tl
    ·exact hz
   by_cases h0:nameF true r0=0
   ·rw [if_pos h0] at h;cases h
   rw [if_neg h0] at h;have hN:=nameP_of _ _ h0;by_cases h1:headIs 125 (r0.drop (nameF true r0))=true
   ·rw [if_pos h1] at h;obtain⟨rfl,rfl⟩:=Prod.mk.inj (Except.ok.inj h);refine⟨(hz0.drop _).tl,fun stop=>all_sing ?_⟩;unfold OkP;refine⟨NZ.nil,hz0.take _,.inr (.inr (.inr (.inr ⟨rfl,(fun h=>h),rfl,hN,?_⟩)))⟩;by_cases hl:longB r=true
    ·rw [if_pos hl];refine .inr (.inl ⟨rfl,rfl,fun X=>?_⟩);rw [if_pos hl] at hr0;obtain⟨u,hu⟩:=headIs_cons h1;have he:r0=r0.take (nameF true r0)++125::u:=by rw [←hu,List.take_append_drop]
     generalize r0.take (nameF true r0)=nm at he hN;have hne:=hN.1;cases r with
     | nil=>cases hl
     | cons c t=>
      rw [List.tail_cons] at hr0;subst hr0;unfold longB at hl ⊢;rw [List.tail_cons] at hl ⊢;rw [he,op_indep hne u X] at hl;rw [Bool.and_eq_true,Bool.and_eq_true] at hl;rw [hl.2,show headIs 35 (35::(nm++125::X))=true from rfl];have h5:=hl.1.2;cases nm with
      | nil=>exact absurd rfl hne
      | cons a b=>
       rw [List.cons_append] at h5 ⊢;rw [show headIs 125 (a::(b++125::X))=(a==125) from rfl];rw [show headIs 125 (a::(b++125::u))=(a==125) from rfl] at h5;rw [h5];rfl
    ·rw [if_neg hl];exact .inl ⟨rfl,rfl⟩
   rw [if_neg h1] at h;by_cases h2:((opF (r0.drop (nameF true r0))).isEmpty || longB r)=true
   ·rw [if_pos h2] at h;cases h
   rw [if_neg h2] at h;by_cases h3:d=40
   ·rw [if_pos h3] at h;cases h
   rw [if_neg h3] at h;cases h4:lexD n (.br q) (d+1) ((r0.drop (nameF true r0)).drop (opF (r0.drop (nameF true r0))).length) with
   | error e=>rw [h4] at h;cases h
   | ok z=>
    obtain⟨l2,r3⟩:=z;rw [h4] at h;obtain⟨rfl,rfl⟩:=Prod.mk.inj (Except.ok.inj h);obtain⟨i1,i2⟩:=ih (.br q) (d+1) _ l2 r3 (by omega) ((hz0.drop _).drop _) h4;refine⟨i1,fun stop=>all_sing ?_⟩;obtain⟨j1,j2⟩:=tidy_ok i2;rw [Bool.not_eq_true,Bool.or_eq_false_iff] at h2;unfold OkP;exact⟨NZ.nil,hz0.take _,.inr (.inr (.inr (.inr ⟨rfl,(fun h=>h),rfl,hN,.inr (.inr ⟨op_mem h2.1,by omega,j1,j2⟩)⟩)))⟩
/-! Words. -/
def wS (wh:Bool) (c:UInt8):Bool:=!wh && breaksB c
theorem wS_ok (wh:Bool):Stops (wS wh):=by
 cases wh
 ·exact⟨rfl,rfl,rfl,rfl,rfl⟩
 ·exact⟨rfl,rfl,rfl,rfl,rfl⟩
theorem word_okp (wh:Bool):∀(n:Nat) (r:Bs) (l:List Pt) (r1:Bs),NZ r→wordD wh n r=.ok (l,r1)→NZ r1∧∀p∈l,OkP (wS wh) false 0 p
 | 0,_,_,_,_,h=>by cases h
 | n+1,[],l,r1,hz,h=>by
  obtain⟨rfl,rfl⟩:=Prod.mk.inj (Except.ok.inj h);exact⟨hz,fun p hp=>by cases hp⟩
 | n+1,c::t,l,r1,hz,h=>by
  unfold wordD at h;dsimp only at h;split at h
  ·obtain⟨rfl,rfl⟩:=Prod.mk.inj (Except.ok.inj h);exact⟨hz,fun p hp=>by cases hp⟩
  ·next hb=>
   split at h
   ·cases h
   ·next l2 r2 h2=>
    obtain⟨m,hm,rfl⟩:=ahead_ok h;obtain⟨i1,i2⟩:=lex_ok _ _ _ _ _ _ (by omega) hz h2;obtain⟨j1,j2⟩:=word_okp wh n r2 m r1 i1 hm;exact⟨j1,all_app (i2 _ (wS_ok wh) (fun c' t' e=>by
     injection e with e1 e2;subst e1;simpa [wS] using hb)) j2⟩
structure WordG (wh:Bool) (w:List Pt):Prop where
 ok:OkPs (wS wh) false 0 w
 tidy:TidyW w
theorem wordG_of {wh:Bool} {n:Nat} {r:Bs} {l:List Pt} {r1:Bs} (hz:NZ r) (h:wordD wh n r=.ok (l,r1)):WordG wh (tidyF l):=by
 obtain⟨h1,h2⟩:=tidy_ok (word_okp wh n r l r1 hz h).2;exact⟨h1,h2⟩
theorem word_back {wh:Bool} {w:List Pt} (h:WordG wh w) {X:Bs} (hX:X=[]∨∃c t,X=c::t∧wS wh c=true∧riskyB c=false):∃l,wordC wh (wordS w++X)=.ok (l,X)∧tidyF l=w:=by
 have hR:NoRisk X:=by
  rcases hX with rfl | ⟨c,t,rfl,_,hc⟩
  ·rfl
  ·exact hc
 obtain⟨raw,h1,h2⟩:=parts_ok w (wS wh) false 0 X (wS_ok wh) h.ok h.tidy.noj hR;have hX':X=[]∨∃c t,X=c::t∧(!wh && breaksB c)=true:=by
  rcases hX with rfl | ⟨c,t,rfl,hc,_⟩
  ·exact .inl rfl
  ·exact .inr ⟨c,t,rfl,hc⟩
 have h3:tidyF raw=w:=h2.tidy.trans h.tidy.fix;unfold wordS sharpS;cases w with
 | nil=>exact⟨raw,Stp.word h1 hX',h3⟩
 | cons p l=>
  dsimp only;by_cases hs:(p.kind==1 && startsF [35] p.text)=true
  ·rw [if_pos hs];have hne:Eqv ([quoP []]++raw) (p::l):=by
    intro N;have hp:p.isE=false:=by
     rw [Bool.and_eq_true] at hs;unfold Pt.isE;rw [show p.kind=1 from beq_iff_eq.1 hs.1];rfl
    rw [List.foldl_append,h2];show (p::l).foldl stepN (N.1,true)=(p::l).foldl stepN N;rw [List.foldl_cons,List.foldl_cons];congr 1
   refine⟨[quoP []]++raw,Stp.word (.more (c:=39) (t:=39::(piecesS false (p::l)++X)) (r1:=piecesS false (p::l)++X) (wS_ok wh).a ?_ h1) hX',hne.tidy.trans h.tidy.fix⟩;rw [lexC_out];rfl
  ·rw [if_neg hs];exact⟨raw,Stp.word h1 hX',h3⟩
theorem whole_back {s:Bs} {w:List Pt} (h:wholeF s=.ok w) (hm:mayF (wordS w)=0):wholeF (wordS w)=.ok w:=by
 have hs:mayF s=0:=by
  by_cases h0:mayF s=0
  ·exact h0
  ·unfold wholeF at h;rw [if_neg h0] at h;cases h
 have hz:NZ s:=by
  unfold mayF at hs;split at hs
  ·cases hs
  ·split at hs
   ·cases hs
   ·next hc=>
    intro c hcs h0;rw [h0] at hcs;exact hc (List.contains_iff_mem.2 hcs)
 unfold wholeF at h;rw [if_pos hs] at h;split at h
 ·cases h
 ·next l r1 hw=>
  obtain rfl:=Except.ok.inj h;have hg:=wordG_of hz hw;obtain⟨l2,h2,h3⟩:=word_back hg (X:=[]) (.inl rfl);rw [List.append_nil] at h2;rw [wholeF_C _ hm,h2];dsimp only;rw [h3]
/-! What parts weigh, all the way down. -/
mutual
def wdP:Pt→Nat
 | .mk _ t n o w _=>t.length+n.length+o.length+1+wdL w
def wdL:List Pt→Nat
 | []=>0
 | p::l=>wdP p+wdL l
end
theorem wdL_nil:wdL []=0:=by rw [wdL]
theorem wdL_cons (p:Pt) (l:List Pt):wdL (p::l)=wdP p+wdL l:=by rw [wdL]
theorem wdP_eq (p:Pt):wdP p=p.text.length+p.name.length+p.op.length+1+wdL p.word:=by cases p;rw [wdP];rfl
theorem wdL_app:∀a b:List Pt,wdL (a++b)=wdL a+wdL b
 | [],b=>by rw [wdL_nil,List.nil_append,Nat.zero_add]
 | p::a,b=>by rw [List.cons_append,wdL_cons,wdL_cons,wdL_app a b];omega
theorem wdL_one (p:Pt):wdL [p]=wdP p:=by rw [wdL_cons,wdL_nil];rfl
theorem wd_quo (s:Bs):wdP (quoP s)=s.length+1:=by rw [wdP_eq];show s.length+0+0+1+wdL []=_;rw [wdL_nil]
theorem wd_txt (s:Bs):wdP (txtP s)=s.length+1:=by rw [wdP_eq];show s.length+0+0+1+wdL []=_;rw [wdL_nil]
theorem wd_var (k:Nat) (t n o:Bs) (w:List Pt) (q:Bool):wdP (.mk k t n o w q)=t.length+n.length+o.length+1+wdL w:=by rw [wdP]
theorem wd_join (y x:Pt):wdP (y.join x)≤wdP y+wdP x:=by
 rw [wdP_eq,wdP_eq y,wdP_eq x];unfold Pt.join;simp only [Pt.text,Pt.name,Pt.op,Pt.word,List.length_append];omega
theorem wd_add (out:List Pt) (x:Pt):wdL (addP out x)≤wdL out+wdP x:=by
 unfold addP;split
 ·next y hy=>
  split
  ·obtain⟨u,hu⟩:=List.getLast?_eq_some_iff.1 hy;rw [hu,List.dropLast_concat,wdL_app,wdL_app,wdL_one,wdL_one];have:=wd_join y x;omega
  ·rw [wdL_app,wdL_one];exact Nat.le_refl _
 ·rw [wdL_one];omega
theorem wd_fold:∀(l:List Pt) (N:List Pt×Bool),wdL (l.foldl stepN N).1≤wdL N.1+wdL l
 | [],N=>Nat.le_add_right _ _
 | x::l,N=>by
  rw [List.foldl_cons,wdL_cons];have h:=wd_fold l (stepN N x);have h2:wdL (stepN N x).1≤wdL N.1+wdP x:=by
   unfold stepN;split
   ·exact Nat.le_add_right _ _
   ·exact wd_add _ _
  omega
theorem wd_tidy (l:List Pt):wdL (tidyF l)≤wdL l:=by
 unfold tidyF;split
 ·next h=>
  cases l with
  | nil=>exact absurd h (by decide)
  | cons p l=>
   rw [wdL_one,wd_quo,wdL_cons,wdP_eq];simp only [List.length_nil];omega
 ·have:=wd_fold l ([],false);rw [show wdL ([]:List Pt)=0 from wdL_nil,Nat.zero_add] at this;exact this
theorem plainS_len:∀s:Bs,(plainS s).length≤3*s.length
 | []=>Nat.zero_le _
 | c::t=>by
  have h:=plainS_len t;rw [plainS_cons];split
  ·simp only [List.length_cons];omega
  ·simp only [List.length_cons];omega
theorem quoQ_len:∀s:Bs,(quoQ s).length≤2*s.length
 | []=>Nat.zero_le _
 | c::t=>by
  have h:=quoQ_len t;unfold quoQ at h ⊢;rw [List.flatMap_cons,List.length_append];split
  ·simp only [List.length_cons,List.length_nil];omega
  ·simp only [List.length_cons,List.length_nil];omega
theorem quoU_len (s:Bs):(quoU s).length≤4*s.length+2:=by
 have h:∀s:Bs,(s.flatMap quoB1).length≤4*s.length:=fun s=>by
  induction s with
  | nil=>exact Nat.zero_le _
  | cons c t ih=>
   rw [List.flatMap_cons,List.length_append,List.length_cons];have:(quoB1 c).length≤4:=by unfold quoB1;split<;>simp
   omega
 unfold quoU;rw [List.length_cons,List.length_append];have:=h s;simp only [List.length_cons,List.length_nil];omega
theorem guard_len (o:Bs) (w:List Pt):(guardS o w).length≤2:=by
 unfold guardS;split<;>simp
theorem quo1_len (b:Bool):(if b then [(34:UInt8)] else []).length≤1:=by cases b<;>simp
mutual
theorem piece_len:∀(p:Pt) (q:Bool),(pieceS q p).length≤10*wdP p
 | .mk k t n o w pq,q=>by
  rw [pieceS,wd_var];have h0:=quo1_len (pq && !q);have h1:=plainS_len t;have h2:=quoQ_len t;have h3:=quoU_len t;have h4:=guard_len o w;have h5:=pieces_len w pq;split
  ·omega
  split
  ·split<;>omega
  simp only [List.length_append];have h6:(if k=4 then 36::40::40::(t++[41,41]) else if k=5 then 36::40::(t++[41]) else if k=3 then (if o=[76] then 36::123::35::(n++[125]) else 36::123::(n++(o++(guardS o w++(piecesS pq w++[125]))))) else []).length≤t.length+n.length+o.length+2+(piecesS pq w).length+5:=by
   split
   ·simp only [List.length_cons,List.length_append,List.length_nil];omega
   split
   ·simp only [List.length_cons,List.length_append,List.length_nil];omega
   split
   ·split
    ·simp only [List.length_cons,List.length_append,List.length_nil];omega
    ·simp only [List.length_cons,List.length_append,List.length_nil];omega
   ·simp
  omega
theorem pieces_len:∀(l:List Pt) (q:Bool),(piecesS q l).length≤10*wdL l
 | [],q=>by rw [piecesS];exact Nat.zero_le _
 | p::l,q=>by
  rw [piecesS,wdL_cons,List.length_append];have h1:=piece_len p q;have h2:=pieces_len l q;omega
end
theorem wordS_len (w:List Pt):(wordS w).length≤10*wdL w+2:=by
 unfold wordS;rw [List.length_append];have h:=pieces_len w false;have h2:(sharpS w).length≤2:=by
  unfold sharpS;cases w with
  | nil=>exact Nat.zero_le _
  | cons p l=>dsimp only;split<;>simp
 omega
/-! What is read. -/
def cst:Md→Nat
 | .dol _=>2
 | _=>0
theorem lex_wd:∀(n:Nat) (md:Md) (d:Nat) (r:Bs) (l:List Pt) (r1:Bs),lexD n md d r=.ok (l,r1)→wdL l+2*r1.length≤2*r.length+cst md:=by
 intro n;induction n with
 | zero=>intro md d r l r1 h;cases md<;>cases h
 | succ n ih=>
  intro md d r l r1 h;cases md with
  | one q=>
   cases r with
   | nil=>
    have h2:lexD (n+1) (.one q) d []=.ok ([],[]):=by cases q<;>rfl
    rw [h2] at h;obtain⟨rfl,rfl⟩:=Prod.mk.inj (Except.ok.inj h);rw [wdL_nil];exact Nat.zero_le _
   | cons c t=>
    rw [List.length_cons];have htl:t.tail.length=t.length - 1:=List.length_tail;cases q with
    | false=>
     rw [lexD_out] at h;split at h
     ·split at h
      ·cases h
      ·next k hu=>
       obtain⟨rfl,rfl⟩:=Prod.mk.inj (Except.ok.inj h);rw [wdL_one,wd_quo,List.length_take,List.length_drop];omega
     split at h
     ·obtain⟨m,hm,rfl⟩:=ahead_ok h;have:=ih .dq d t m r1 hm;rw [wdL_app,wdL_one,wd_quo];simp only [List.length_nil,cst] at this ⊢;omega
     split at h
     ·cases t with
      | nil=>
       obtain⟨rfl,rfl⟩:=Prod.mk.inj (Except.ok.inj h);rw [wdL_one,wd_quo];simp
      | cons y t'=>
       dsimp only at h;split at h
       ·obtain⟨rfl,rfl⟩:=Prod.mk.inj (Except.ok.inj h);rw [wdL_nil,List.length_cons];omega
       ·obtain⟨rfl,rfl⟩:=Prod.mk.inj (Except.ok.inj h);rw [wdL_one,wd_quo,List.length_cons,List.length_cons,List.length_nil];omega
     split at h
     ·cases h
     split at h
     ·have:=ih (.dol false) d t l r1 h;simp only [cst] at this ⊢;omega
     ·obtain⟨rfl,rfl⟩:=Prod.mk.inj (Except.ok.inj h);rw [wdL_one,wd_txt,List.length_cons,List.length_nil];omega
    | true=>
     rw [lexD_inn] at h;split at h
     ·cases h
     split at h
     ·obtain⟨rfl,rfl⟩:=Prod.mk.inj (Except.ok.inj h);rw [wdL_nil];omega
     split at h
     ·obtain⟨rfl,rfl⟩:=Prod.mk.inj (Except.ok.inj h);rw [wdL_one,wd_quo,List.length_cons,List.length_nil];omega
     split at h
     ·have:=ih (.dol true) d t l r1 h;simp only [cst] at this ⊢;omega
     ·obtain⟨rfl,rfl⟩:=Prod.mk.inj (Except.ok.inj h);rw [wdL_one,wd_quo,List.length_cons,List.length_nil];omega
  | dq=>
   rw [lexD_dq] at h;cases r with
   | nil=>cases h
   | cons c t=>
    dsimp only at h;split at h
    ·obtain⟨rfl,rfl⟩:=Prod.mk.inj (Except.ok.inj h);rw [wdL_nil,List.length_cons];omega
    ·split at h
     ·cases h
     ·next l2 r2 h2=>
      obtain⟨m,hm,rfl⟩:=ahead_ok h;have i1:=ih (.one true) d (c::t) l2 r2 h2;have i2:=ih .dq d r2 m r1 hm;rw [wdL_app];simp only [cst] at i1 i2 ⊢;omega
  | br q=>
   rw [lexD_br] at h;cases r with
   | nil=>cases h
   | cons c t=>
    dsimp only at h;split at h
    ·obtain⟨rfl,rfl⟩:=Prod.mk.inj (Except.ok.inj h);rw [wdL_nil,List.length_cons];omega
    ·split at h
     ·cases h
     ·next l2 r2 h2=>
      obtain⟨m,hm,rfl⟩:=ahead_ok h;have i1:=ih (.one q) d (c::t) l2 r2 h2;have i2:=ih (.br q) d r2 m r1 hm;rw [wdL_app];simp only [cst] at i1 i2 ⊢;omega
  | dol q=>
   rw [lexD_dol] at h;have htl:r.tail.length=r.length - 1:=List.length_tail;split at h
   ·have:=ih (.brace q) d r.tail l r1 h;simp only [cst] at this ⊢;omega
   split at h
   ·split at h
    ·cases h
    ·next k hu=>
     obtain⟨rfl,rfl⟩:=Prod.mk.inj (Except.ok.inj h);rw [wdL_one,wd_var,wdL_nil];simp only [List.length_take,List.length_drop,List.length_nil,cst];omega
   split at h
   ·split at h
    ·cases h
    ·next k hu=>
     obtain⟨rfl,rfl⟩:=Prod.mk.inj (Except.ok.inj h);rw [wdL_one,wd_var,wdL_nil];simp only [List.length_take,List.length_drop,List.length_nil,cst,htl];omega
   split at h
   ·obtain⟨rfl,rfl⟩:=Prod.mk.inj (Except.ok.inj h);cases q
    ·show wdL [txtP [36]]+_≤_;rw [wdL_one,wd_txt];simp only [List.length_cons,List.length_nil,cst];omega
    ·show wdL [quoP [36]]+_≤_;rw [wdL_one,wd_quo];simp only [List.length_cons,List.length_nil,cst];omega
   ·obtain⟨rfl,rfl⟩:=Prod.mk.inj (Except.ok.inj h);rw [wdL_one,wd_var,wdL_nil];simp only [List.length_take,List.length_drop,List.length_nil,cst];omega
  | brace q=>
   rw [lexD_brace] at h;obtain⟨r0,hr0⟩:∃r0,r0=(if longB r then r.tail else r):=⟨_,rfl⟩;rw [←hr0] at h;have hlr:r0.length≤r.length:=by
    rw [hr0];split
    ·rw [List.length_tail];omega
    ·exact Nat.le_refl _
   have hk:=nameF_le true r0;obtain⟨k,hkk⟩:∃k,k=nameF true r0:=⟨_,rfl⟩;rw [←hkk] at h hk;split at h
   ·cases h
   next h0=>
   split at h
   ·next h1=>
    obtain⟨rfl,rfl⟩:=Prod.mk.inj (Except.ok.inj h);obtain⟨u,hu⟩:=headIs_cons h1;have hul:=congrArg List.length hu;rw [List.length_drop,List.length_cons] at hul;rw [wdL_one,wd_var,wdL_nil];have ho:(if longB r then [(76:UInt8)] else []).length≤1:=by split<;>simp
    simp only [List.length_take,List.length_tail,List.length_drop,List.length_nil,cst];omega
   split at h
   ·cases h
   split at h
   ·cases h
   split at h
   ·cases h
   ·next l2 r3 h4=>
    obtain⟨rfl,rfl⟩:=Prod.mk.inj (Except.ok.inj h);have i1:=ih (.br q) (d+1) _ l2 r3 h4;have i2:=wd_tidy l2;have i3:=opF_le (r0.drop k);simp only [List.length_drop,cst] at i1 i3;rw [wdL_one,wd_var];simp only [List.length_take,List.length_nil,cst];omega
theorem word_wd (wh:Bool):∀(n:Nat) (r:Bs) (l:List Pt) (r1:Bs),wordD wh n r=.ok (l,r1)→wdL l+2*r1.length≤2*r.length
 | 0,_,_,_,h=>by cases h
 | n+1,[],l,r1,h=>by
  obtain⟨rfl,rfl⟩:=Prod.mk.inj (Except.ok.inj h);rw [wdL_nil];exact Nat.zero_le _
 | n+1,c::t,l,r1,h=>by
  unfold wordD at h;dsimp only at h;split at h
  ·obtain⟨rfl,rfl⟩:=Prod.mk.inj (Except.ok.inj h);rw [wdL_nil];omega
  ·split at h
   ·cases h
   ·next l2 r2 h2=>
    obtain⟨m,hm,rfl⟩:=ahead_ok h;have i1:=lex_wd _ _ _ _ _ _ h2;have i2:=word_wd wh n r2 m r1 hm;rw [wdL_app];simp only [cst] at i1;omega
/-! No 0. -/
theorem NZ.app {a b:Bs} (ha:NZ a) (hb:NZ b):NZ (a++b):=fun c hc=>(List.mem_append.1 hc).elim (ha c) (hb c)
theorem NZ.cons {c:UInt8} {b:Bs} (hc:c≠0) (hb:NZ b):NZ (c::b):=fun x hx=>(List.mem_cons.1 hx).elim (fun e=>e ▸ hc) (hb x)
theorem nz_plain:∀{t:Bs},NZ t→NZ (plainS t)
 | [],_=>NZ.nil
 | c::t,h=>by
  have h1:=nz_plain (t:=t) h.tail;have hc:=h c (List.mem_cons_self ..);rw [plainS_cons];split
  ·exact NZ.cons hc (NZ.cons (by decide) (NZ.cons (by decide) h1))
  ·exact NZ.cons hc h1
theorem nz_quoQ:∀{t:Bs},NZ t→NZ (quoQ t)
 | [],_=>NZ.nil
 | c::t,h=>by
  have h1:=nz_quoQ (t:=t) h.tail;have hc:=h c (List.mem_cons_self ..);unfold quoQ at h1 ⊢;rw [List.flatMap_cons];split
  ·exact NZ.cons (by decide) (NZ.cons hc h1)
  ·exact NZ.cons hc h1
theorem nz_quoU {t:Bs} (h:NZ t):NZ (quoU t):=by
 have key:∀t:Bs,NZ t→NZ (t.flatMap quoB1):=fun t=>by
  induction t with
  | nil=>exact fun _=>NZ.nil
  | cons c t ih=>
   intro h;rw [List.flatMap_cons];refine NZ.app ?_ (ih h.tail);unfold quoB1;split
   ·exact NZ.cons (by decide) (NZ.cons (by decide) (NZ.cons (by decide) (NZ.cons (by decide) NZ.nil)))
   ·exact NZ.cons (h c (List.mem_cons_self ..)) NZ.nil
 exact NZ.cons (by decide) (NZ.app (key t h) (NZ.cons (by decide) NZ.nil))
theorem nz_one {c:UInt8} (h:c≠0):NZ [c]:=NZ.cons h NZ.nil
theorem nz_q (b:Bool):NZ (if b then [34] else []):=by cases b<;>first | exact NZ.nil | exact nz_one (by decide)
theorem nz_op {o:Bs} (h:o∈opsL):NZ o:=by
 simp only [opsL,List.mem_cons,List.not_mem_nil,or_false] at h;rcases h with rfl | rfl | rfl | rfl | rfl | rfl | rfl | rfl | rfl | rfl | rfl | rfl<;>(intro c hc;revert hc;revert c;decide)
theorem nz_guard (o:Bs) (w:List Pt):NZ (guardS o w):=by
 unfold guardS;split
 ·exact NZ.cons (by decide) (nz_one (by decide))
 ·exact NZ.nil
mutual
theorem nz_piece:∀(p:Pt) (stop:UInt8→Bool) (q:Bool) (d:Nat),OkP stop q d p→NZ (pieceS q p)
 | .mk k t n o w pq,stop,q,d,h=>by
  unfold OkP at h;obtain⟨ht,hn,h⟩:=h;rcases h with ⟨rfl,_⟩ | ⟨rfl,_⟩ | ⟨rfl,_⟩ | ⟨rfl,_⟩ | ⟨rfl,hq,rfl,_,hc⟩
  ·rw [pieceS_1];exact nz_plain ht
  ·rw [pieceS_2];split
   ·exact nz_quoQ ht
   ·exact nz_quoU ht
  ·rw [pieceS_4];exact NZ.app (nz_q _) (NZ.app (NZ.cons (by decide) (NZ.cons (by decide) (NZ.cons (by decide) (NZ.app ht (NZ.cons (by decide) (nz_one (by decide))))))) (nz_q _))
  ·rw [pieceS_5];exact NZ.app (nz_q _) (NZ.app (NZ.cons (by decide) (NZ.cons (by decide) (NZ.app ht (nz_one (by decide))))) (nz_q _))
  ·rw [pieceS_3];refine NZ.app (nz_q _) (NZ.app ?_ (nz_q _));rcases hc with ⟨rfl,rfl⟩ | ⟨rfl,rfl,_⟩ | ⟨ho,hd,hw,_⟩
   ·rw [if_neg (by decide),piecesS_nil];exact NZ.cons (by decide) (NZ.cons (by decide) (NZ.app hn (NZ.app NZ.nil (NZ.app (nz_guard _ _) (NZ.app NZ.nil (nz_one (by decide)))))))
   ·rw [if_pos rfl];exact NZ.cons (by decide) (NZ.cons (by decide) (NZ.cons (by decide) (NZ.app hn (nz_one (by decide)))))
   ·have h9:=nz_pieces w brS pq (d+1) hw;obtain⟨_,_,_,_,_,h76,_⟩:=op_in ho;rw [if_neg h76];exact NZ.cons (by decide) (NZ.cons (by decide) (NZ.app hn (NZ.app (nz_op ho) (NZ.app (nz_guard _ _) (NZ.app h9 (nz_one (by decide)))))))
theorem nz_pieces:∀(l:List Pt) (stop:UInt8→Bool) (q:Bool) (d:Nat),OkPs stop q d l→NZ (piecesS q l)
 | [],_,_,_,_=>by rw [piecesS];exact NZ.nil
 | p::l,stop,q,d,h=>by
  unfold OkPs at h;rw [piecesS];exact NZ.app (nz_piece p stop q d h.1) (nz_pieces l stop q d h.2)
end
theorem nz_word {wh:Bool} {w:List Pt} (h:WordG wh w):NZ (wordS w):=by
 unfold wordS;refine NZ.app ?_ (nz_pieces w _ _ _ h.ok);unfold sharpS;cases w with
 | nil=>exact NZ.nil
 | cons p l=>
  dsimp only;split
  ·exact NZ.cons (by decide) (nz_one (by decide))
  ·exact NZ.nil
theorem may_nz {s:Bs} (h:s.length≤16384) (hz:NZ s):mayF s=0:=by
 unfold mayF;rw [if_neg (by omega),if_neg];intro hc;exact hz 0 (List.contains_iff_mem.1 hc) rfl
theorem nz_may {s:Bs} (hs:mayF s=0):NZ s:=by
 unfold mayF at hs;split at hs
 ·cases hs
 ·split at hs
  ·cases hs
  ·next hc=>
   intro c hcs h0;rw [h0] at hcs;exact hc (List.contains_iff_mem.2 hcs)
theorem whole_may {s:Bs} {w:List Pt} (h:wholeF s=.ok w) (hl:s.length≤600):mayF (wordS w)=0∧(wordS w).length≤13000:=by
 have hs:mayF s=0:=by
  by_cases h0:mayF s=0
  ·exact h0
  ·unfold wholeF at h;rw [if_neg h0] at h;cases h
 have hz:=nz_may hs;unfold wholeF at h;rw [if_pos hs] at h;split at h
 ·cases h
 ·next l r1 hw=>
  obtain rfl:=Except.ok.inj h;have hg:=wordG_of hz hw;have h1:=word_wd _ _ _ _ _ hw;have h2:=wd_tidy l;have h3:=wordS_len (tidyF l);exact⟨may_nz (by omega) (nz_word hg),by omega⟩
end Go.Proofs.YtiihpbccabeoeaaGreatDoor
