/- The walk: a part. -/
import Derived.Test.YtiihpbccabeoeaaGreatDoorVM
import Derived.Test.YtiihpbccabeoeaaGreatDoorVPkQ
import Derived.Deep.AppendLies
import Derived.Test.YtiihpbccabeoeaaGreatDoorVPkF
namespace Go.Proofs.YtiihpbccabeoeaaGreatDoor
open Go.RowKit
set_option linter.unusedVariables false
set_option maxRecDepth 100000
set_option maxHeartbeats 16000000
def VQ (w:World) (Lo B ps:Nat) (tv:Value) (n:Nat) (T:List Tk) (i:Nat) (res:PR (List Pt)) (e:Ending) (w':World):Prop:=match res with
 | .ok (wd,r)=>∃(a:OA) (c:Nat),e=.returned (.slice a wd.length c)∧az w' (λ b=>Lo≤b∧b<B) n wd (.slice a wd.length c)∧i<T.length∧r=T.drop (i+1)∧QS w' Lo B ps tv n T (i+1) 0∧ae (λ b=>b=ps) w w'
 | .error y=>∃(a:OA) (m c j:Nat),e=.returned (.slice a m c)∧i≤j∧j≤i+1∧y≠0∧QS w' Lo B ps tv n T j y∧ae (λ b=>b=ps) w w'∧(j=i∨j≤T.length)∧∃wd:List Pt,m=wd.length∧az w' (λ b=>Lo≤b∧b<B) n wd (.slice a m c)∧Sm wd
theorem T9:Sm []:=⟨nB _,by simp [JA]⟩
theorem Is (K:Nat) (cR:iK K) (w:World) (Lo B ps n i aN:Nat) (tv:Value) (T:List Tk) (hd:aN+1+K=41) (h:QS w Lo B ps tv n T i 0) :
 Calls Tryz.prog 185 #[.pointer (some ⟨ps,0,none⟩),.int .i64 (aN:Nat)] w (VQ w Lo B ps tv n T i (ca (av (ab K)) (T.drop i))):=by
 have qF:ca (av (ab K)) (T.drop i)=if uw (T.drop i) then (match ec (av (ab K)) (ch (T.drop i)).word with
  | .error e=>.error e
  | .ok _=>.ok ((ch (T.drop i)).word,(T.drop i).tail)) else .error 2:=rfl
 cases hw:uw (T.drop i) with
 | false=>
  rw [qF,hw,nF sI];refine (EF w Lo B ps n i 0 aN tv T h hw).mono ?_;rintro e w' ⟨he,h2,hk⟩;rw [nE rfl] at h2;exact⟨none,0,0,i,he,nC _,oM,dC,h2,hk,.inl rfl,[],rfl,az.nil _ _ _,T9⟩
 | true=>
  rw [qF,hw,nE rfl];have hi:i<T.length:=by
   rcases nP i T.length with hi | hi
   ·exact hi
   ·unfold uw at hw;rw [iM hi] at hw;cases hw
  have gM:Sm (ch (T.drop i)).word:=by
   rw [fY hi];exact (h.sm.2 _ (uD hi)).2
  have lE:(T.drop i).tail=T.drop (i+1):=by rw [List.drop_eq_getElem_cons hi];rfl
  refine (EG w Lo B ps n i 0 aN tv T h hw (λ y=>match ec (av (ab K)) (ch (T.drop i)).word with | .ok _=>y=0 | .error z=>y=z∧z≠0) (λ w2 v h2 hp=>
   (EE K aN cR hd (n+1) n (nM _) w2 Lo B ps tv n T i _ v h2 hp gM).mono λ e w' ⟨y,a1,a2,a3,a4⟩=>⟨y,a1,a2,a3,a4⟩)).mono ?_
  rintro e w' ⟨_,y,hq,a,c,he,hp,h2,hk⟩;cases hs:ec (av (ab K)) (ch (T.drop i)).word with
  | error z=>
   rw [hs] at hq;obtain⟨rfl,hz⟩:=hq;exact⟨a,_,c,i+1,he,oM,nC _,hz,h2,hk,.inr hi,_,rfl,hp,gM⟩
  | ok u=>
   rw [hs] at hq;obtain rfl:=hq;exact⟨a,c,he,hp,hi,lE,h2,hk⟩
def QTk (K:Nat) (w:World) (Lo B ps:Nat) (tv:Value) (n:Nat) (T:List Tk) (i:Nat) (e:Ending) (w':World):Prop:=
 ∃(wd:List Pt) (a:OA) (c j y:Nat),e=.returned (.slice a wd.length c)∧az w' (λ b=>Lo≤b∧b<B) n wd (.slice a wd.length c)∧Sm wd∧i≤j∧(i≤T.length→j≤T.length)∧QS w' Lo B ps tv n T j y∧ae (λ b=>b=ps) w w'∧
  ((y=0∧j=i+1∧i<T.length∧ca (av (ab K)) (T.drop i)=.ok (wd,T.drop (i+1)))∨(y≠0∧ca (av (ab K)) (T.drop i)=.error y))
theorem kM (K:Nat) (cR:iK K) (w:World) (Lo B ps n i aN:Nat) (tv:Value) (T:List Tk) (hd:aN+1+K=41) (h:QS w Lo B ps tv n T i 0) :
 Calls Tryz.prog 185 #[.pointer (some ⟨ps,0,none⟩),.int .i64 (aN:Nat)] w (QTk K w Lo B ps tv n T i):=by
 refine (Is K cR w Lo B ps n i aN tv T hd h).mono ?_;intro e w' hp;cases hw:ca (av (ab K)) (T.drop i) with
 | error y=>
  rw [hw] at hp;obtain⟨a,m,c,j,he,h1,h2,hy,hs,hk,h3,wd,rfl,iH,gM⟩:=hp;exact⟨wd,a,c,j,y,he,iH,gM,h1,λ h=>oM,hs,hk,.inr ⟨hy,hw⟩⟩
 | ok p=>
  obtain⟨wd,r⟩:=p;rw [hw] at hp;obtain⟨a,c,he,iH,hi,rfl,hs,hk⟩:=hp;have gM:Sm wd:=by
   obtain⟨_,_,h3,_⟩:=mE hw;rw [h3,fY hi];exact (h.sm.2 _ (uD hi)).2
  exact⟨wd,a,c,i+1,0,he,iH,gM,oM,λ_=>oM,hs,hk,.inl ⟨rfl,rfl,hi,hw⟩⟩
def Qd (Lo B X:Nat) (b:Nat):Prop:=(Lo≤b∧b<B)∨X≤b
theorem jV {Lo B ps X b:Nat} (hB:B≤ps) (hc:ps<X) (hb:Qd Lo B X b):b≠ps:=by
 unfold Qd at hb;omega
theorem iz {w w':World} {S:Nat→Prop} {v:Value} {k n:Nat} {T:TypeId} {xs:List Value} (h:w.ownsRow 0 T k v n xs) (hk:ae S w w') (hv:∀g,v.ownBlock=some g→¬S g):w'.ownsRow 0 T k v n xs:=by
 refine⟨h.1,?_⟩;rcases h.2 with h0 | ⟨g,aC,x8,rfl,hb,hg,rest⟩
 ·exact .inl h0
 ·exact Q8
theorem eE {wr:World} {Lo B ps:Nat} {tv:Value} {n:Nat} {T:List Tk} {I x:Nat} (h:QS wr Lo B ps tv n T I x) (hI:I+1≤T.length+1000):QS (wr.setCell ⟨ps,1,none⟩ (.int .i64 ((I:Int)+1))) Lo B ps tv n T (I+1) x∧ae (λ b=>b=ps) wr (wr.setCell ⟨ps,1,none⟩ (.int .i64 ((I:Int)+1))):=by
 have h1:=h.set1 (j:=I+1) hI;rw [show ((I+1:Nat):Int)=(I:Int)+1 by omega] at h1;exact h1
structure QM (G:Prop) (w0 w:World) (Lo B ps:Nat) (tv:Value) (n:Nat) (T:List Tk) (X I x:Nat) (l:Value) (k:Nat) (Ty:TypeId) (m:Nat) (ds:List Dt):Prop where
 rs:QS w Lo B ps tv n T I x
 own:∃xs,(G→bV w (λ b=>Qd Lo B X b∧l.ownBlock≠some b) ds xs)∧w.ownsRow 0 Ty k l m xs
 low:∀g,l.ownBlock=some g→X≤g
 kp:ae (λ b=>b=ps) w0 w
section
variable {G G':Prop} {w0 w w4:World} {Lo B ps:Nat} {tv:Value} {n:Nat} {T:List Tk} {X I J x y:Nat} {l:Value} {k:Nat} {Ty:TypeId} {m:Nat} {ds:List Dt}
theorem QM.weak (h:QM G w0 w Lo B ps tv n T X I x l k Ty m ds) (hG:G'→G):QM G' w0 w Lo B ps tv n T X I x l k Ty m ds:=by
 obtain⟨xs,h1,h2⟩:=h.own;exact⟨h.rs,⟨xs,λ g=>h1 (hG g),h2⟩,h.low,h.kp⟩
theorem QM.move (h:QM G w0 w Lo B ps tv n T X I x l k Ty m ds) (hc:ps<X) (hk:ae (λ b=>b=ps) w w4) (du:QS w4 Lo B ps tv n T J y):QM G w0 w4 Lo B ps tv n T X J y l k Ty m ds:=by
 have Hg:=h.rs.ps;obtain⟨xs,h1,h2⟩:=h.own;exact⟨du,⟨xs,λ g=>(h1 g).keep hk (λ b _ hb e=>jV (X:=X) Hg hc hb.1 e),iz h2 hk (λ g hg e=>by have:=h.low g hg;omega)⟩,h.low,h.kp.trans hk (λ_ _ e=>e)⟩
theorem QM.keep0 (h:QM G w0 w Lo B ps tv n T X I x l k Ty m ds) (hk:K0 w w4):QM G w0 w4 Lo B ps tv n T X I x l k Ty m ds:=by
 obtain⟨xs,h1,h2⟩:=h.own;exact⟨h.rs.keep0 hk,⟨xs,λ g=>(h1 g).keep hk (λ_ _ _ e=>e),iz h2 hk (λ_ _ e=>e)⟩,h.low,h.kp.trans hk (λ_ _ e=>e.elim)⟩
theorem QM.inc (h:QM G w0 w Lo B ps tv n T X I x l k Ty m ds) (hc:ps<X) (hI:I+1≤T.length+1000):QM G w0 (w.setCell ⟨ps,1,none⟩ (.int .i64 ((I:Int)+1))) Lo B ps tv n T X (I+1) x l k Ty m ds:=
 h.move hc (eE h.rs hI).2 (eE h.rs hI).1
theorem QM.more (h:QM G w0 w Lo B ps tv n T X I x l k Ty m ds) (hc:ps<X) (hX:X≤w.heap.size) (h0:w0.heap.size≤X) (hk:ae (λ b=>b=ps) w w4) (du:QS w4 Lo B ps tv n T J y) {d2:List Dt} {us:List Value} (hG:G'→G) (hx:G'→bV w4 (Qd Lo B w.heap.size) d2 us) :
 ∃xs,w4.ownsRow 0 Ty k l m xs∧∀(gg m' aC:Nat) (w5 wo:World),w5.ownsRow 0 Ty k (.slice (some ⟨gg,0,none⟩) m' aC) m' (xs++us)→K0 w4 wo→wo.grownBy w5 l.ownBlock→(l.ownBlock=some gg∨w4.heap.size≤gg)→
  QM G' w0 w5 Lo B ps tv n T X J y (.slice (some ⟨gg,0,none⟩) m' aC) k Ty m' (ds++d2)∧ae (λ b=>l.ownBlock=some b) w4 w5:=by
 have h4:=h.move hc hk du;have hB:=du.ps;have fA:=h4.low;have Hi:=hk.size;obtain⟨xs,hr,ho⟩:=h4.own;have aW:∀g,l.ownBlock=some g→g<w.heap.size:=λ g hg=>by
  obtain⟨xs0,_,pB⟩:=h.own;exact (pB.lt g hg).2
 refine⟨xs,ho,λ gg m' aC w5 wo aU Em ao bf=>?_⟩;have bi:ae (λ b=>l.ownBlock=some b) w4 w5:=(Em.mono (λ_ _ h=>h.elim)).grown ao (λ k hk _=>hk);have cM:∀b,b<w4.heap.size→l.ownBlock≠some b→gg≠b:=λ b hb hv e=>by
  rcases bf with h9 | h9
  ·exact hv (by rw [h9,e])
  ·omega
 refine⟨?_,bi⟩;refine⟨du.keep bi (λ b hb e=>by have:=fA b e;omega) (λ e=>by have:=fA ps e;omega),⟨xs++us,λ g=>?_,aU⟩,λ g hg=>?_,h4.kp.trans bi (λ b hb e=>by have:=fA b e;omega)⟩
 ·have pX:bV w4 (λ b=>Qd Lo B X b∧l.ownBlock≠some b) d2 us:=(hx g).mono λ b _ hb=>by
   rcases hb with hb | hb
   ·exact⟨.inl hb,λ e=>by have:=fA b e;omega⟩
   ·exact⟨.inr oM,λ e=>by have:=aW b e;omega⟩
  have h1:=((hr (hG g)).app pX).lt;exact (h1.keep bi (λ b _ hb e=>hb.1.2 e)).mono λ b _ hb=>⟨hb.1.1,λ e=>cM b hb.2 hb.1.2 (nD e)⟩
 ·exact Qs
theorem QM.reads (h:QM G w0 w Lo B ps tv n T X I x l k Ty m ds) (g:G):Rd w (Qd Lo B X) (.sl k ds) l:=by
 obtain⟨xs,h1,h2⟩:=h.own;exact eM.reads (D:=λ b=>Qd Lo B X b) ⟨xs,h1 g,h2⟩ (λ g hg=>.inr (h.low g hg))
theorem QM.mlen (h:QM G w0 w Lo B ps tv n T X I x l k Ty m ds) (g:G):ds.length=m*k:=by
 obtain⟨xs,h1,h2⟩:=h.own;rw [←(h1 g).len];exact h2.1
end
theorem pI {w:World} {Lo B ps n i x:Nat} {tv:Value} {T:List Tk} (h:QS w Lo B ps tv n T i x) (b:Bool) (hb:bP (T.drop i)=b) (q:Nat) :
 Calls Tryz.prog 161 #[.pointer (some ⟨ps,0,none⟩)] (w.drewN q) λ e w'=>e=.returned (.bool b)∧∃q',w'=w.drewN q':=by
 subst hb;exact (qN (w.drewN q) Lo B ps n i x tv T (h.drewN q)).mono λ e w' ⟨h1,q',h2⟩=>⟨h1,q+q',by rw [h2,World.drewN_drewN]⟩
theorem Cu (w:World) (Lo B ps n i x aN:Nat) (tv:Value) (T:List Tk) (h:QS w Lo B ps tv n T i x) (hx:x≠0) :
 Calls Tryz.prog 164 #[.pointer (some ⟨ps,0,none⟩),.int .i64 (aN:Nat)] w λ e w'=>e=.returned (.slice none 0 0)∧w'=w:=by
 obtain⟨c0,c1,c2,f1,f2⟩:=h.cells;have aW:=h.lt;have t:((x:Int)==0)=false:=by rw [nA];omega
 clear h hx;go_enter Tryz.func164,Tryz.ntmps164;go_wp2_with fail;go_loopw [5] (λ l' wr=>l'=.slice none 0 0∧wr=w) (λ_ _=>0)
 case atStart=>exact⟨rfl,rfl⟩
 case round=>
  obtain⟨rfl,rfl⟩:=hrel;exact xY
theorem kH (scr:Bs→Except Nat Unit) (n:Nat) (acc:List Dt) (ts:List Tk):bm scr (n+1) acc ts=if bP ts then (match dN scr ts with
 | .error e=>.error e
 | .ok (d,r)=>bm scr n (acc++d) r) else .ok (acc,ts):=rfl
theorem kr {P:Program} {w:World} {ops:Array Oper} {o:Oper} {a:Act} {K:Act→World→Prop} {Q:Exit→Act→World→Prop} {E:Prop} (yV:o.guard=none) (s x:Operand) (t:TypeId)
 (ho:o.op=.call { callee:=.builtin .append,args:=#[s,x],argTypes:=#[t,t] })
 (base:Nat) (e:TypeId) (i:TypeInfo) (z:Value) (size bytes:Nat) (ht:P.underlying t=some (.slice e)) (hi:P.info? e=some i) (hz:i.zero=some z)
 (X1:i.size=size) (hby:i.bytes=bytes) (hzs:z.cells.size=size) (ek:0<size)
 (v:Value) (n:Nat) (xs:List Value) (hs:a.eval s=v) (aU:w.ownsRow base e size v n xs)
 (ad:Addr) (m c:Nat) (news:List Value) (hx:a.eval x=.slice (some ad) m c) (hl:news.length=m*size) (XQ:∀j u,news[j]? = some u→w.cell? (ad.add j)=some u) (h1:∀u∈news,u.oneCell'=true)
 (h63:n+m≤maxLen) (To:(n+m)*bytes≤140737488355328) (FM:base≤w.heap.size)
 (h:∀va vc w',w'.ownsRow base e size (.slice va (n+m) vc) (n+m) (xs++news)→w.grownBy w' v.ownBlock→((Value.slice va (n+m) vc).ownBlock=v.ownBlock∨(Value.slice va (n+m) vc).ownBlock=some w.heap.size)→K (a.put o.dst (.slice va (n+m) vc)) w') :
 if Region.wanted o (yielded ops a.tmps)=true then Oper.wp P o a w K Q else E:=by
 have hw:Region.wanted o (yielded ops a.tmps)=true:=by simp [Region.wanted,yV]
 rw [nE hw];obtain⟨v',w',hr,h2,h3,_,h5⟩:=run_append_own_at (P:=P) w base t o.type e i z size bytes ht hi hz X1 hby hzs ek v n xs aU ad m c news hl XQ h1 h63 To FM;obtain⟨va,vc,rfl⟩:∃va vc,v'=.slice va (n+m) vc:=by
  rcases h2.2 with ⟨rfl,h0⟩ | ⟨g,aC,x8,rfl,_⟩
  ·exact⟨none,0,by rw [h0]⟩
  ·exact⟨_,aC,rfl⟩
 unfold Oper.wp execOp;simp only [ho,resolve,invoke,builtin,Sem.run_bind,Sem.run_pure,Result.andThen_ok,List.map_toArray,List.map_cons,List.map_nil,hs,hx,hr];exact h va vc w' h2 h3 h5
def Dv (w:World) (v:Value) (m:Nat):Prop:=∃xs,w.ownsRow 0 86 2 v m xs∧∀u∈xs,u.oneCell'=true
theorem zg {w:World} {e:TypeId} {k n:Nat} {v:Value} {xs ys:List Value} (h:w.ownsRow 0 e k v n xs) (h':w.ownsRow 0 e k v n ys):xs=ys:=by
 rcases h.2 with ⟨e1,h0⟩ | ⟨g,aC,x8,e1,hb,hg,h1,h2,h3,h4⟩
 ·have a:=h.1;have b:=h'.1;rw [h0,Nat.zero_mul] at a b;rw [nO a,nO b]
 ·rcases h'.2 with ⟨e2,_⟩ | ⟨g',DG,ab9,e2,hb',AE,YS,WZ,h3',h4'⟩
  ·rw [e1] at e2;cases e2
  ·rw [e1] at e2;injection e2 with e3;injection e3 with e3;injection e3 with e3;subst e3;rw [hg] at AE;injection AE with AE;injection AE with AE;subst AE;rw [←h4,←h4']
def VO (w:World) (Lo B ps:Nat) (tv:Value) (n:Nat) (T:List Tk) (i:Nat) (res:PR (List Dt)) (e:Ending) (w':World):Prop:=
 ∃(gd:Prop) (a:OA) (m c j x:Nat) (ds:List Dt),e=.returned (.slice a m c)∧i≤j∧j≤T.length∧m≤j∧(bP (T.drop i)=true→0<m)∧QM gd w w' Lo B ps tv n T w.heap.size j x (.slice a m c) 2 86 m ds∧Dv w' (.slice a m c) m∧((gd∧x=0∧res=.ok (ds,T.drop j))∨(x≠0∧res=.error x))
theorem t8 (K:Nat) (cR:iK K) (w:World) (Lo B ps n i aN:Nat) (tv:Value) (T:List Tk) (hd:aN+1+K=41) (h:QS w Lo B ps tv n T i 0) (hi:i≤T.length) :
 Calls Tryz.prog 164 #[.pointer (some ⟨ps,0,none⟩),.int .i64 (aN:Nat)] w (VO w Lo B ps tv n T i (bm (av (ab K)) ((T.drop i).length+1) [] (T.drop i))):=by
 obtain⟨res,ag⟩:∃res,res=bm (av (ab K)) ((T.drop i).length+1) [] (T.drop i):=⟨_,rfl⟩;rw [←ag];rw [nI] at ag;have Jd:=dY;have hcr:Tryz.prog.cellsOf 86=2:=kR
 have XA:(Tryz.prog.info? 86).map (λ i=>(i.zero,i.size,i.bytes))=some (some (.agg #[eS,()]),2,40):=kR
 obtain⟨i0,fo,fC,fp,fq⟩:=info_parts XA;have vi:=Hd cR;have HD:=Hd hd;have bA:=Hd h.lt;have C5:=Hd (show QM True w w Lo B ps tv n T w.heap.size i 0 (.slice none 0 0) 2 86 0 [] from⟨h,⟨[],λ_=>trivial,World.ownsRow_nil _ _ _ _⟩,λ g hg=>(by cases hg),ae.refl _ _⟩);have ay:=Hd ag;have AK:T.length≤20000:=h.sm.1;clear XA cR hd h ag;go_enter Tryz.func164,Tryz.ntmps164;go_wp2_with fail
 go_loopg [5] (T.length+2000 - i) (λ g l' wr=>∃(gd:Prop) (la:OA) (m lc I x:Nat) (acc:List Dt),l'=.slice la m lc∧g=T.length+2000 - I∧i≤I∧I≤T.length∧m≤I∧((I=i∧x=0)∨0<m)∧Hid (QM gd w wr Lo B ps tv n T w.heap.size I x (.slice la m lc) 2 86 m acc)∧Hid (Dv wr (.slice la m lc) m)∧Hid ((gd∧x=0∧∃M,T.length - I+1≤M∧res=bm (av (ab K)) M acc (T.drop I))∨(x≠0∧res=.error x)))
 case atStart=>exact⟨True,none,0,0,i,0,[],rfl,rfl,nC _,hi,nB _,.inl ⟨rfl,rfl⟩,C5,Hd ⟨[],World.ownsRow_nil _ _ _ _,λ u h=>by cases h⟩,Hd (.inl ⟨trivial,rfl,_,nC _,ay.o⟩)⟩
 case round=>
  clear C5 ay;obtain⟨gd,la,m,lc,I,x,acc,rfl,eH,mI,p8,yj,YW,HL,Sn,HT⟩:=hrel;have fK:=Hd eH;clear eH;obtain⟨c0,c1,c2,f1,f2⟩:=HL.o.rs.cells;have aW:=HL.o.rs.lt;by_cases hx:x=0
  ·subst hx;obtain⟨g,M,hM,hr⟩:gd∧∃M,T.length - I+1≤M∧res=bm (av (ab K)) M acc (T.drop I):=by
    rcases HT.o with ⟨g,_,h9⟩ | ⟨h9,_⟩
    ·exact⟨g,h9⟩
    ·exact nQ rfl h9
   obtain⟨M,rfl⟩:∃M',M=M'+1:=⟨M - 1,oM⟩;have iD:=Hd g;rw [kH] at hr;clear g HT;cases hq:bP (T.drop I) with
   | false=>
    rw [hq,nF sI] at hr;have HR:=Hd hr;have HQ:=Hd (pI HL.o.rs false hq 0);have ZM:=Hd (show bP (T.drop i)=true→0<m from λ h=>by
     rcases YW with h9 | h9
     ·rw [h9.1,h] at hq;cases hq
     ·exact h9)
    clear hq hr YW;go_wp2_with fail;refine HQ.o.mono ?_;rintro e w1 ⟨rfl,q,rfl⟩;go_wp2_with fail;go_ret;exact⟨gd,la,m,lc,I,0,acc,rfl,mI,p8,yj,ZM.o,HL.o.keep0 ((ae.refl _ _).drewN q),(by obtain⟨xs,h1,h2⟩:=Sn.o;exact⟨xs,iz h1 ((ae.refl (λ_=>False) _).drewN q) k3,h2⟩),.inl ⟨iD.o,rfl,HR.o⟩⟩
   | true=>
    rw [hq,nE rfl] at hr;have Ti:=(show I<T.length from by have:=mB hq;rw [nI] at this;omega);have HQ:=Hd (pI HL.o.rs true hq 0);obtain⟨ta,tc,rfl,ko,il⟩:=HL.o.rs.shape;obtain⟨g,o,xa,xl,xc,rfl,⟨q0,q1,q2⟩,hx,hg⟩:=HL.o.rs.toks.at (ae.refl _ _) Ti;unfold dj at q1;have bf:=fY Ti;obtain⟨tx,yY⟩:∃tx,tx=T[I].text:=⟨_,rfl⟩;rw [←yY] at q1;have XZ:res=match ca (av (ab K)) (T.drop (I+1)) with
     | .error e=>.error e
     | .ok (wd,r)=>bm (av (ab K)) M (acc++[.str tx,aB wd]) r:=by
     rw [hr];unfold dN;rw [aG,bf,←yY];cases ca (av (ab K)) (T.drop (I+1))<;>rfl
    have Vu:=Hd XZ;obtain⟨K0,YY⟩:∃K0,K0=T.length:=⟨_,rfl⟩;rw [←YY] at c0;have p1:(I:Int)<(K0:Int):=oM
    have pW:IntKind.i64.wrap ((I:Int)+1)=(I:Int)+1:=nL _ oM;have Dq:=Hd (λ q=>eE (HL.o.rs.drewN q) oM);clear hq hx q0 q2 bf yY XZ YY ko il hr;go_wp2_with fail;refine HQ.o.mono ?_;rintro e w1 ⟨rfl,q,rfl⟩;go_wp2_with fail;go_quiet (fail);go_wp2_with fail;have uN:=Dq.o (q+nq);obtain⟨W,hW⟩:∃W,W=(wr.drewN (q+nq)).setCell ⟨ps,1,none⟩ (.int .i64 ((I:Int)+1)):=⟨_,rfl⟩
    have Na:=Hd (show QS W Lo B ps _ n T (I+1) 0 by rw [hW];exact uN.1);have dO:=Hd (show ae (λ b=>b=ps) wr W by rw [hW];exact ((ae.refl (λ b=>b=ps) wr).drewN _).trans uN.2 k3);rw [←hW];clear uN hW;refine (kM K vi.o W Lo B ps n (I+1) aN _ T HD.o Na.o).mono ?_;rintro e w4 ⟨wd,xa2,xc2,j,y,rfl,iH,gM,ku,hj2,dR,be,fB⟩;obtain⟨gd2,Fe⟩:∃gd2:Prop,Hid ((gd2∧y=0∧∃M,T.length - j+1≤M∧res=bm (av (ab K)) M (acc++[.str tx,aB wd]) (T.drop j))∨(y≠0∧res=.error y)):=by
     rcases fB with ⟨rfl,rfl,fm,hw⟩ | ⟨hy,hw⟩
     ·exact⟨True,Hd (.inl ⟨trivial,rfl,M,oM,by rw [Vu.o,hw]⟩)⟩
     ·exact⟨False,Hd (.inr ⟨hy,by rw [Vu.o,hw]⟩)⟩
    obtain⟨xs,hown4,hF⟩:=HL.o.more (G':=gd2) bA.o HL.o.kp.size (nC _) (dO.o.trans be k3) dR (d2:=[.str tx,aB wd]) (us:=[.string ⟨tx.toArray⟩,.slice xa2 wd.length xc2]) (λ_=>iD.o) (λ_=>⟨.str _,(gv iH).mono (λ b _ hb=>.inl hb),trivial⟩);have Vo:=Hd (show ∀u∈xs,u.oneCell'=true from by
     obtain⟨ys,h1,h2⟩:=Sn.o;have h3:=iz h1 (dO.o.trans be k3) (λ g hg e=>by have:=HL.o.low g hg;have:=bA.o;omega);rw [zg hown4 h3];exact h2)
    obtain⟨wl,iZ⟩:∃wl,wl=wd.length:=⟨_,rfl⟩;rw [←iZ] at hF;rw [←iZ];have HF:=Hd hF;have HJ:=Hd (show I+1≤j∧j≤T.length from⟨ku,hj2 oM⟩);clear hF dR be iH gM fB iZ ku hj2;go_wp2_with (at_builtin;refine nR _ rfl (.tmp 38) (.tmp 42) _ rfl 0 86 i0 _ 2 40 Tryz.underlying41 fo fC fp fq rfl oM (.slice la m lc) m xs rfl (hown4.alloc _) ⟨w4.heap.size,0,none⟩ 1 1 [.string ⟨tx.toArray⟩,.slice xa2 wl xc2] rfl rfl (nK (cs:=#[.string ⟨tx.toArray⟩,.slice xa2 wl xc2]) (t:=86) (fr:=(0,0)) (nG w4 _)) oC oM uM oM sI (w4.heap.size+1) sI ?_;intro gg aC w5 aK ao bf gT;have gA:=HF.o gg (m+1) aC w5 _ aK ((ae.refl _ _).alloc _) ao (bf.imp id (λ h=>oM));have fc:=Hd gA.1;clear gA;have Vp:=Hd (show Dv w5 (.slice (some ⟨gg,0,none⟩) (m+1) aC) (m+1) from⟨_,aK,λ u hu=>by rcases List.mem_append.1 hu with h | h;exact Vo.o u h;rcases List.mem_cons.1 h with rfl | h;rfl;rcases List.mem_cons.1 h with rfl | h;rfl;cases h⟩);clear aK ao bf)
    go_roundg (T.length+2000 - j)
    case measure=>have:=fK.o;have:=HJ.o;omega
    case rel=>exact⟨gd2,_,m+1,aC,j,y,acc++[.str tx,aB wd],rfl,rfl,by have:=HJ.o;omega,HJ.o.2,by have:=HJ.o;omega,.inr oM,fc,Hd Vp.o,Fe⟩
  ·have t:((x:Int)==0)=false:=by rw [nA];omega
   have ZM:=Hd (show bP (T.drop i)=true→0<m from λ h=>by
    rcases YW with h9 | h9
    ·exact nQ h9.2 hx
    ·exact h9)
   have HX:=Hd hx;clear hx YW;go_wp2_with fail;go_ret;exact⟨gd,la,m,lc,I,x,acc,rfl,mI,p8,yj,ZM.o,HL.o,Sn.o,.inr ⟨HX.o,by rcases HT.o with ⟨_,h9,_⟩ | ⟨_,h9⟩;exact nQ h9 HX.o;exact h9⟩⟩
structure NV where
 k:Int
 nt:Bool
 nm:ByteArray
 a0:OA
 n0:Nat
 c0:Nat
 a1:OA
 n1:Nat
 c1:Nat
 a2:OA
 n2:Nat
 c2:Nat
 a3:OA
 n3:Nat
 c3:Nat
 a4:OA
 n4:Nat
 c4:Nat
def NV.vals (v:NV):List Value:=[.int .i64 v.k,.bool v.nt,.string v.nm,.slice v.a0 v.n0 v.c0,.slice v.a1 v.n1 v.c1,.slice v.a2 v.n2 v.c2,.slice v.a3 v.n3 v.c3,.slice v.a4 v.n4 v.c4]
def NV.val (v:NV):Value:=.agg #[v.k,v.nt,v.nm,.slice v.a0 v.n0 v.c0,.slice v.a1 v.n1 v.c1,.slice v.a2 v.n2 v.c2,.slice v.a3 v.n3 v.c3,.slice v.a4 v.n4 v.c4]
def QF (cl:Bool) (w:World) (D:Nat→Prop) (T:List Tk) (res:PR (List Dt)) (us:List Value) (j x:Nat):Prop:=match res with
 | .ok (ds,r)=>(x=0∧jA ds∧bV w D ds us∧T.drop j=r∧j≤T.length)∨(cl=true∧dk r=false∧(x=2∨(x=0∧aj [40] (T.drop j)=true)))
 | .error y=>(x=y∧y≠0)∨(y=2∧x=0∧aj [40] (T.drop j)=true)
section
variable {cl:Bool} {w:World} {D:Nat→Prop} {T:List Tk} {res:PR (List Dt)} {us:List Value} {j x:Nat} {β:Type}
theorem QF.err (hx:x≠0) (hr:res=.error x):QF cl w D T res us j x:=by subst hr;exact .inl ⟨rfl,hx⟩
theorem QF.stk (h:aj [40] (T.drop j)=true) (hx:x=0) (hr:res=.error 2):QF cl w D T res us j x:=by subst hr hx;exact .inr ⟨rfl,rfl,h⟩
theorem QF.good {ds:List Dt} {r:List Tk} (hr:res=.ok (ds,r)) (hx:x=0) (hn:jA ds) (h:bV w D ds us) (hd:T.drop j=r) (hj:j≤T.length):QF cl w D T res us j x:=by subst hr;exact .inl ⟨hx,hn,h,hd,hj⟩
theorem QF.split (h:QF cl w D T res us j x) (f:PR (List Dt)→PR β) (he:∀e,f (.error e)=.error e) (hc:cl=true→∀ds r,dk r=false→f (.ok (ds,r))=.error 2) :
 (∃ds r,res=.ok (ds,r)∧x=0∧jA ds∧bV w D ds us∧T.drop j=r∧j≤T.length)∨(x≠0∧f res=.error x)∨(x=0∧aj [40] (T.drop j)=true∧f res=.error 2):=by
 cases res with
 | error y=>
  rcases h with ⟨rfl,hy⟩ | ⟨rfl,hx,ho⟩
  ·exact .inr (.inl ⟨hy,he _⟩)
  ·exact .inr (.inr ⟨hx,ho,he _⟩)
 | ok p=>
  obtain⟨ds,r⟩:=p;rcases h with ⟨hx,hn,hr,hd,hj⟩ | ⟨mj,hr,rfl | ⟨hx,ho⟩⟩
  ·exact .inl ⟨ds,r,rfl,hx,hn,hr,hd,hj⟩
  ·exact .inr (.inl ⟨dC,hc mj ds r hr⟩)
  ·exact .inr (.inr ⟨hx,ho,hc mj ds r hr⟩)
def C6 (gd good:Prop) (T:List Tk) (j x:Nat) (res:PR β):Prop:=(gd∧x=0∧j≤T.length∧good)∨(x≠0∧res=.error x)∨(x=0∧aj [40] (T.drop j)=true∧res=.error 2)
theorem QF.state {Iy:PR β} (h:QF cl w D T res us j x) (f:PR (List Dt)→PR β) (he:∀e,f (.error e)=.error e) (hc:cl=true→∀ds r,dk r=false→f (.ok (ds,r))=.error 2) (h2:Iy=f res) :
 ∃(gd:Prop) (ds:List Dt),(gd→jA ds∧bV w D ds us)∧C6 gd (Iy=f (.ok (ds,T.drop j))) T j x Iy:=by
 rcases h.split f he hc with ⟨ds,r,hr,hx,hn,hd,hj,hl⟩ | ⟨hx,hr⟩ | ⟨hx,ho,hr⟩
 ·exact⟨True,ds,λ_=>⟨hn,hd⟩,.inl ⟨trivial,hx,hl,by rw [h2,hr,hj]⟩⟩
 ·exact⟨False,[],λ h=>h.elim,.inr (.inl ⟨hx,by rw [h2,hr]⟩)⟩
 ·exact⟨False,[],λ h=>h.elim,.inr (.inr ⟨hx,ho,by rw [h2,hr]⟩)⟩
theorem C6.fin {gd good:Prop} {ds:List Dt} (h:C6 gd good T j x res) (hr:gd→good→res=.ok (ds,T.drop j)) (hd:gd→good→jA ds∧bV w D ds us):QF cl w D T res us j x:=by
 rcases h with ⟨hg,hx,hj,yV⟩ | ⟨hx,hr⟩ | ⟨hx,ho,hr⟩
 ·exact QF.good (hr hg yV) hx (hd hg yV).1 (hd hg yV).2 rfl hj
 ·exact QF.err hx hr
 ·exact QF.stk ho hx hr
theorem C6.map {gd good good2:Prop} {Iy:PR β} (h:C6 gd good T j x Iy) (f:gd→good→good2):C6 gd good2 T j x Iy:=by
 rcases h with ⟨hg,hx,hj,yV⟩ | h | h
 ·exact .inl ⟨hg,hx,hj,f hg yV⟩
 ·exact .inr (.inl h)
 ·exact .inr (.inr h)
end
def iw (w:World) (Lo B ps:Nat) (tv:Value) (n:Nat) (T:List Tk) (i b:Nat) (cl:Bool) (res:PR (List Dt)) (e:Ending) (w':World):Prop:=
 ∃(v:NV) (j x:Nat),e=.returned (.agg #[v.k,v.nt,v.nm,.slice v.a0 v.n0 v.c0,.slice v.a1 v.n1 v.c1,.slice v.a2 v.n2 v.c2,.slice v.a3 v.n3 v.c3,.slice v.a4 v.n4 v.c4])∧i≤j∧j≤T.length+b∧QS w' Lo B ps tv n T j x∧ae (λ b=>b=ps) w w'∧QF cl w' (Qd Lo B w.heap.size) T res v.vals j x
theorem bL {T:List Tk} {i:Nat} (h:1≤(T.drop i).length):i<T.length:=by
 rw [nI] at h;omega
def ez (K:Nat):Prop:=∀(w:World) (Lo B ps n i aN:Nat) (tv:Value) (T:List Tk),QS w Lo B ps tv n T i 0→i≤T.length→aN+K=41→
 Calls Tryz.prog 142 #[.pointer (some ⟨ps,0,none⟩),.int .i64 (aN:Nat)] w (iw w Lo B ps tv n T i (2*K) false (ab K (T.drop i)))
theorem lQ {ts:List Tk} (h:aj [40] ts=true) (s:Bs) (hs:s≠[40]):aj s ts=false:=by
 exact P1
theorem Cl {ts:List Tk} {s:Bs} (h:aj s ts=true):aJ (ch ts)=[]:=by
 unfold aj at h;rw [nW] at h;exact lj (by rw [nH.1 h.1];rfl)
theorem tE {ts:List Tk} (h:dk ts=true):fj ts=false:=by
 unfold dk at h;simp only [Bool.or_eq_true] at h;rcases h with ((h | h) | h) | h
 ·rw [List.isEmpty_iff] at h;subst h;rfl
 ·exact PV
 ·exact PV
 ·have hk:((ch ts).kind==1)=true:=by
   cases hk:((ch ts).kind==1) with
   | true=>rfl
   | false=>rw [lj hk] at h;exact nQ h dC
  unfold fj bB aF;rw [hk];generalize aJ (ch ts)=s at h ⊢;rw [List.contains_iff_mem] at h;simp only [kA,List.mem_cons,List.not_mem_nil,or_false] at h;rw [nE rfl];rcases h with h | h | h | h | h | h | h | h<;>subst h<;>rfl
theorem K3 (K:Nat) {ts:List Tk} (h:bB ts=false):ab K ts=.error 2:=by
 cases K with
 | zero=>show (if bB ts=true then _ else _)=_;rw [h];rfl
 | succ K=>show (if bB ts=true then _ else _)=_;rw [h];rfl
theorem Ig (K:Nat) {ts:List Tk} (h:fj ts=false):bh (ab K) ts=.error 2:=by
 unfold fj at h;rw [Bool.or_eq_false_iff] at h;unfold bh;rw [h.2,nF sI,K3 K h.1]
theorem vq (K:Nat) {ts:List Tk} (h:fj ts=false):da (ab K) ts=.error 2:=by
 unfold da;rw [Ig K h]
theorem qH:∀ts:List Tk,ai (ai ts)=ai ts
 | []=>rfl
 | t::r=>by
  by_cases h:(t.kind==2 && t.text==[10])=true
  ·have e:ai (t::r)=ai r:=nE h;rw [e,qH r]
  ·have e:ai (t::r)=t::r:=nF h;rw [e,e]
theorem Hx (K:Nat) {ts:List Tk} (h:fj (ai ts)=false):bz (ab K) ts=.error 2:=by
 unfold bz mM;rw [vq K h]
section
variable {scr:Bs→Except Nat Unit}
theorem fH (n:Nat) (ws gz rs:List Dt) (ts:List Tk):bj scr (n+1) ws gz rs ts=if bP ts then (match dN scr ts with
 | .error e=>.error e
 | .ok (d,r)=>bj scr n ws gz (rs++d) r)
 else if (ch ts).kind==1 then (match ca scr ts with
  | .error e=>.error e
  | .ok (w,r)=>match (if ws.isEmpty then dw w else none) with
   | some (nm,v)=>bj scr n ws (gz++[.str nm,aB v]) rs r
   | none=>bj scr n (ws++[aB w]) gz rs r)
 else .ok (cE 1 false [] ws gz rs [] [],ts):=rfl
theorem kI:∀(n m:Nat) (ws gz rs:List Dt) (ts:List Tk),ts.length<n→ts.length<m→bj scr n ws gz rs ts=bj scr m ws gz rs ts
 | 0,m,ws,gz,rs,ts,h,_=>nQ h (uC _)
 | n+1,0,ws,gz,rs,ts,_,h=>nQ h (uC _)
 | n+1,m+1,ws,gz,rs,ts,h1,h2=>by
  rw [fH,fH];by_cases hr:bP ts=true
  ·rw [nE hr,nE hr];cases hd:dN scr ts with
   | error e=>rfl
   | ok p=>
    obtain⟨d,r⟩:=p;have:=iu hd;exact kI n m ws gz (rs++d) r oM oM
  ·rw [nF hr,nF hr];by_cases hk:((ch ts).kind==1)=true
   ·rw [nE hk,nE hk];cases hw:ca scr ts with
    | error e=>rfl
    | ok p=>
     obtain⟨wd,r⟩:=p;have:=g9 hw;dsimp only;cases (if ws.isEmpty=true then dw wd else none) with
     | none=>exact kI n m (ws++[aB wd]) gz rs r oM oM
     | some q=>exact kI n m ws (gz++[.str q.1,aB q.2]) rs r oM oM
   ·rw [nF hk,nF hk]
theorem o9:∀(n:Nat) (M:Nat) (acc ws gz rs:List Dt) (ts:List Tk),ts.length<n→ts.length<M→
 bj scr M ws gz (rs++acc) ts=match bm scr n acc ts with
  | .error e=>.error e
  | .ok (ds,r)=>bj scr (r.length+1) ws gz (rs++ds) r
 | 0,M,acc,ws,gz,rs,ts,h,_=>nQ h (uC _)
 | n+1,0,acc,ws,gz,rs,ts,_,h=>nQ h (uC _)
 | n+1,M+1,acc,ws,gz,rs,ts,h1,h2=>by
  rw [kH];by_cases hr:bP ts=true
  ·rw [fH,nE hr,nE hr];cases hd:dN scr ts with
   | error e=>rfl
   | ok p=>
    obtain⟨d,r⟩:=p;have:=iu hd;dsimp only;rw [aA];exact o9 n M (acc++d) ws gz rs r oM oM
  ·rw [nF hr];exact kI _ _ _ _ _ _ h2 (nM _)
theorem A4 {ts:List Tk} (hn:bK (aJ (ch ts))=true) (ho:fF ts=true) (hw:uw ts=true) (OD:ec scr (ch ts).word=.ok ()) (ha:dw (ch ts).word=none):bj scr (ts.length+1) [] [] [] ts=.ok (cE 1 false [] [aB (ch ts).word] [] [] [] [],ts.tail):=by
 have hk:((ch ts).kind==1)=true:=by unfold uw at hw;rw [nW] at hw;exact hw.1
 have hr:bP ts=false:=by unfold bP;rw [nH.1 hk];rfl
 have qF:ca scr ts=.ok ((ch ts).word,ts.tail):=by
  unfold ca;unfold uw at hw;rw [hw,nE rfl,OD]
 have hl:=o4 hk;rw [fH,hr,nF sI,hk,nE rfl,qF];dsimp only;rw [show (if ([]:List Dt).isEmpty=true then dw (ch ts).word else none)=none from ha];dsimp only;obtain⟨M,hM⟩:∃M,ts.length=M+1:=⟨ts.length - 1,oM⟩;unfold fF at ho;have dU:bP ts.tail=false:=by
  have h2:=ho;unfold aj at h2;rw [nW] at h2;unfold bP;rw [h2.1,nH.1 h2.2];decide
 have aS:((ch ts.tail).kind==1)=false:=by
  unfold aj at ho;rw [nW] at ho;rw [nH.1 ho.1];rfl
 rw [hM,fH,dU,nF sI,aS,nF sI];rfl
end
structure QR (E:Nat→Prop) (G:Prop) (w wr:World) (Lo B ps:Nat) (tv:Value) (n:Nat) (T:List Tk) (X N:Nat) (Z:List Value) (pre post:List Dt) (vpre vpost:List Value) (k:Nat) (Ty:TypeId) (I x m:Nat) (la:OA) (lc:Nat) (ds:List Dt):Prop where
 rs:QS wr Lo B ps tv n T I x
 kp:ae (λ b=>b=ps) w wr
 zr:af wr w.heap.size Z
 rc:af wr N (vpre++.slice la m lc::vpost)
 own:∃xs,(G→bV wr (λ b=>(Qd Lo B X b∧b≠N)∧(Value.slice la m lc).ownBlock≠some b) ds xs)∧wr.ownsRow 0 Ty k (.slice la m lc) m xs
 low:∀g,(Value.slice la m lc).ownBlock=some g→X≤g∧g≠N
 ex:∀g,(Value.slice la m lc).ownBlock=some g→¬E g
 pr:G→bV wr (λ b=>(Qd Lo B X b∧b≠N)∧(Value.slice la m lc).ownBlock≠some b) pre vpre
 po:G→bV wr (λ b=>(Qd Lo B X b∧b≠N)∧(Value.slice la m lc).ownBlock≠some b) post vpost
section
variable {E:Nat→Prop} {G G':Prop} {w wr w4:World} {Lo B ps:Nat} {tv:Value} {n:Nat} {T:List Tk} {X N:Nat} {Z:List Value} {pre post:List Dt} {vpre vpost:List Value} {k:Nat} {Ty:TypeId} {I J x y m:Nat} {la:OA} {lc:Nat} {ds:List Dt}
theorem QR.weak (h:QR E G w wr Lo B ps tv n T X N Z pre post vpre vpost k Ty I x m la lc ds) (hG:G'→G):QR E G' w wr Lo B ps tv n T X N Z pre post vpre vpost k Ty I x m la lc ds:=by
 obtain⟨xs,h1,h2⟩:=h.own;exact⟨h.rs,h.kp,h.zr,h.rc,⟨xs,λ g=>h1 (hG g),h2⟩,h.low,h.ex,λ g=>h.pr (hG g),λ g=>h.po (hG g)⟩
theorem QR.move (h:QR E G w wr Lo B ps tv n T X N Z pre post vpre vpost k Ty I x m la lc ds) (hc:ps<w.heap.size) (hX:w.heap.size<X) (hN:w.heap.size<N) (hk:ae (λ b=>b=ps) wr w4) (du:QS w4 Lo B ps tv n T J y) :
 QR E G w w4 Lo B ps tv n T X N Z pre post vpre vpost k Ty J y m la lc ds:=by
 have hB:=du.ps;have gC:∀{dd:List Dt} {vv:List Value},bV wr (λ b=>(Qd Lo B X b∧b≠N)∧(Value.slice la m lc).ownBlock≠some b) dd vv→bV w4 (λ b=>(Qd Lo B X b∧b≠N)∧(Value.slice la m lc).ownBlock≠some b) dd vv:=λ hh=>
  hh.keep hk (λ b _ hb e=>jV (X:=X) hB oM hb.1.1 e)
 obtain⟨xs,h1,h2⟩:=h.own;exact⟨du,h.kp.trans hk (λ_ _ e=>e),h.zr.keep hk (λ e=>oM),h.rc.keep hk (λ e=>oM),⟨xs,λ g=>gC (h1 g),iz h2 hk (λ g hg e=>by have:=h.low g hg;omega)⟩,h.low,h.ex,λ g=>gC (h.pr g),λ g=>gC (h.po g)⟩
theorem QR.keep0 (h:QR E G w wr Lo B ps tv n T X N Z pre post vpre vpost k Ty I x m la lc ds) (hk:K0 wr w4) :
 QR E G w w4 Lo B ps tv n T X N Z pre post vpre vpost k Ty I x m la lc ds:=by
 obtain⟨xs,h1,h2⟩:=h.own;exact⟨h.rs.keep0 hk,h.kp.trans hk (λ_ _ e=>e.elim),h.zr.keep hk (λ e=>e),h.rc.keep hk (λ e=>e),⟨xs,λ g=>(h1 g).keep hk (λ_ _ _ e=>e),iz h2 hk (λ_ _ e=>e)⟩,h.low,h.ex,
  λ g=>(h.pr g).keep hk (λ b _ _ e=>e),λ g=>(h.po g).keep hk (λ b _ _ e=>e)⟩
theorem QR.inc (h:QR E G w wr Lo B ps tv n T X N Z pre post vpre vpost k Ty I x m la lc ds) (hc:ps<w.heap.size) (hX:w.heap.size<X) (hN:w.heap.size<N) (hI:I+1≤T.length+1000) :
 QR E G w (wr.setCell ⟨ps,1,none⟩ (.int .i64 ((I:Int)+1))) Lo B ps tv n T X N Z pre post vpre vpost k Ty (I+1) x m la lc ds:=
 h.move hc hX hN (eE h.rs hI).2 (eE h.rs hI).1
theorem QR.more (h:QR E G w wr Lo B ps tv n T X N Z pre post vpre vpost k Ty I x m la lc ds) (hc:ps<w.heap.size) (hX:w.heap.size<X) (hN:w.heap.size<N) (sB:X≤wr.heap.size) (hk:ae (λ b=>b=ps) wr w4) (du:QS w4 Lo B ps tv n T J y) {d2:List Dt} {us:List Value} (hG:G'→G) (hx:G'→bV w4 (Qd Lo B wr.heap.size) d2 us) (hE:∀b,E b→b<w4.heap.size) :
 ∃xs,w4.ownsRow 0 Ty k (.slice la m lc) m xs∧af w4 N (vpre++.slice la m lc::vpost)∧
  ∀(gg m' aC:Nat) (w5 wo:World),w5.ownsRow 0 Ty k (.slice (some ⟨gg,0,none⟩) m' aC) m' (xs++us)→K0 w4 wo→wo.grownBy w5 (Value.slice la m lc).ownBlock→((Value.slice la m lc).ownBlock=some gg∨w4.heap.size≤gg)→
   af w5 N (vpre++.slice la m lc::vpost)∧QR E G' w (w5.setCell ⟨N,vpre.length,none⟩ (.slice (some ⟨gg,0,none⟩) m' aC)) Lo B ps tv n T X N Z pre post vpre vpost k Ty J y m' (some ⟨gg,0,none⟩) aC (ds++d2)∧ae (λ b=>b=N∨(Value.slice la m lc).ownBlock=some b) w4 (w5.setCell ⟨N,vpre.length,none⟩ (.slice (some ⟨gg,0,none⟩) m' aC)):=by
 have h4:=h.move hc hX hN hk du;have hB:=du.ps;have ek:=hk.size;have fR:=h4.rc.lt;have hNr:=h.rc.lt;have fA:=h4.low;have fT:=h4.zr.lt;obtain⟨xs,hr,ho⟩:=h4.own;have aW:∀g,(Value.slice la m lc).ownBlock=some g→g<wr.heap.size:=λ g hg=>by
  obtain⟨xs0,_,pB⟩:=h.own;exact (pB.lt g hg).2
 refine⟨xs,ho,h4.rc,λ gg m' aC w5 wo aU Em ao bf=>?_⟩;have bi:ae (λ b=>(Value.slice la m lc).ownBlock=some b) w4 w5:=(Em.mono (λ_ _ h=>h.elim)).grown ao (λ k hk _=>hk);have UM:gg≠N:=by
  rcases bf with h1 | h1
  ·exact (fA gg h1).2
  ·omega
 have Xv:X≤gg:=by
  rcases bf with h1 | h1
  ·exact (fA gg h1).1
  ·omega
 have vU:=h4.rc.keep bi (λ e=>(fA N e).2 rfl);have cu:ae (λ b=>b=N) w5 (w5.setCell ⟨N,vpre.length,none⟩ (.slice (some ⟨gg,0,none⟩) m' aC)):=(ae.refl _ _).setCell _ _ λ_=>rfl;have mf:=du.keep bi (λ b hb e=>by have:=fA b e;omega) (λ e=>by have:=fA ps e;omega);have qC:∀{dd:List Dt} {vv:List Value},bV w4 (λ b=>(Qd Lo B X b∧b≠N)∧(Value.slice la m lc).ownBlock≠some b) dd vv→
  bV (w5.setCell ⟨N,vpre.length,none⟩ (.slice (some ⟨gg,0,none⟩) m' aC)) (λ b=>(Qd Lo B X b∧b≠N)∧(Value.slice (some ⟨gg,0,none⟩) m' aC).ownBlock≠some b) dd vv:=λ hh=>
  ((
   (hh.lt.keep bi (λ b _ hb e=>hb.1.2 e)).keep cu (λ b _ hb e=>hb.1.1.2 e)).mono λ b _ hb=>⟨hb.1.1,λ e=>by
   have h3:gg=b:=nD e;rcases bf with h1 | h1
   ·exact hb.1.2 (by rw [h1,h3])
   ·have:=hb.2;omega⟩)
 refine⟨vU,?_,(bi.mono (λ_ _ h=>.inr h)).trans (cu.mono (λ_ _ h=>.inl h)) k3⟩;refine⟨mf.keep cu (λ b hb e=>oM) (λ e=>oM),(h4.kp.trans bi (λ b hb e=>by have:=fA b e;omega)).fresh cu (λ b e=>oM),(h4.zr.keep bi (λ e=>by have:=fA _ e;omega)).keep cu (λ e=>oM),?_,?_,?_,?_,λ g=>qC (h4.pr (hG g)),λ g=>qC (h4.po (hG g))⟩
 ·have:=vU.set vpre.length (.slice (some ⟨gg,0,none⟩) m' aC);rw [A7] at this;exact this
 ·refine⟨xs++us,λ g=>?_,?_⟩
  ·have pX:bV w4 (λ b=>(Qd Lo B X b∧b≠N)∧(Value.slice la m lc).ownBlock≠some b) d2 us:=(hx g).mono λ b _ hb=>by
    rcases hb with hb | hb
    ·exact⟨⟨.inl hb,oM⟩,λ e=>by have:=fA b e;omega⟩
    ·exact⟨⟨.inr oM,oM⟩,λ e=>by have:=aW b e;omega⟩
   exact qC ((hr (hG g)).app pX)
  ·refine⟨aU.1,?_⟩;exact NU
 ·intro g hg;have h3:gg=g:=nD hg;exact vx
 ·intro g hg hEg;have h3:gg=g:=nD hg;rcases bf with h1 | h1
  ·exact h4.ex g (by rw [h1,h3]) hEg
  ·have:=hE g hEg;omega
theorem QR.frame {E':Nat→Prop} (h:QR E G w wr Lo B ps tv n T X N Z pre post vpre vpost k Ty I x m la lc ds) (hE:∀g,(Value.slice la m lc).ownBlock=some g→¬E' g):QR E' G w wr Lo B ps tv n T X N Z pre post vpre vpost k Ty I x m la lc ds:=
 ⟨h.rs,h.kp,h.zr,h.rc,h.own,h.low,hE,h.pr,h.po⟩
theorem QR.all (h:QR E G w wr Lo B ps tv n T X N Z pre post vpre vpost k Ty I x m la lc ds) (g:G):bV wr (Qd Lo B X) (pre++.sl k ds::post) (vpre++.slice la m lc::vpost):=by
 obtain⟨xs,h1,h2⟩:=h.own;have h3:=eM.reads (D:=λ b=>Qd Lo B X b) ⟨xs,(h1 g).mono λ b _ hb=>⟨hb.1.1,hb.2⟩,h2⟩ (λ g hg=>.inr (h.low g hg).1);exact ((h.pr g).mono λ b _ hb=>hb.1.1).app ⟨h3,(h.po g).mono λ b _ hb=>hb.1.1⟩
theorem QR.mlen (h:QR E G w wr Lo B ps tv n T X N Z pre post vpre vpost k Ty I x m la lc ds) (g:G):ds.length=m*k:=by
 obtain⟨xs,h1,h2⟩:=h.own;rw [←(h1 g).len];exact h2.1
end
theorem cI {w w3 w4:World} {Lo B ps:Nat} {tv:Value} {n:Nat} {T:List Tk} {J x:Nat} {res:PR (List Dt)} {cl:Bool} {vs:List Value} (hk:ae (λ b=>b=ps) w w3) (du:QS w3 Lo B ps tv n T J x) (hc:ps<w.heap.size)
 (hr:QF cl w3 (λ b=>Qd Lo B w.heap.size b∧b≠w.heap.size) T res vs J x) (h4:ae (λ b=>b=w.heap.size) w3 w4):QS w4 Lo B ps tv n T J x∧ae (λ b=>b=ps) w w4∧QF cl w4 (Qd Lo B w.heap.size) T res vs J x:=by
 have hB:=du.ps;refine⟨du.keep h4 (λ b hb e=>oM) (λ e=>oM),hk.fresh h4 (λ b e=>oM),?_⟩;cases res with
 | error y=>exact hr
 | ok p=>
  obtain⟨ds,r⟩:=p;rcases hr with ⟨h0,h1,h2,h3,h5⟩ | h
  ·exact .inl ⟨h0,h1,(h2.keep h4 (λ b _ hb e=>hb.2 e)).mono (λ b _ hb=>hb.1),h3,h5⟩
  ·exact .inr h
theorem Ct (l:Bs) (w:World) (hl:l.length≤140737488351232) (q:Nat) :
 Calls Tryz.prog 69 #[.string ⟨l.toArray⟩,.int .i64 0] (w.drewN q) λ e w'=>e=.returned (.int .i64 (cU l))∧∃q',w'=w.drewN q':=
 (dK ⟨l.toArray⟩ 0 (w.drewN q) (by rw [nT];exact hl) (nB _)).mono λ e w' ⟨h1,h2⟩=>⟨by rw [h1,Mz],q,h2.symm⟩
theorem tg (l:Bs) (w:World) (q:Bool) (hl:l.length≤140737488351232) (hq:bK l=q) :
 Calls Tryz.prog 165 #[.string ⟨l.toArray⟩] w λ e w'=>e=.returned (.bool q)∧∃q',w'=w.drewN q':=by
 unfold bK at hq;obtain⟨R,hR⟩:∃R,R=cU l:=⟨_,rfl⟩;have mK:=Hd (Ct l w hl);rw [←hR] at hq mK;clear hR;cases l with
 | nil=>
  exact Qm
 | cons x t=>
  have t1:(x::t).isEmpty=false:=rfl;obtain⟨l,hl2⟩:∃l,l=x::t:=⟨_,rfl⟩;rw [←hl2] at hq t1 mK hl;rw [←hl2];have t2:(l==[])=false:=by rw [hl2];rfl
  have t3:(l != [])=true:=by rw [hl2];rfl
  rw [t1] at hq;clear hl2;by_cases h1:l.length≤60
  ·have p1:(l.length:Int)≤60:=oM
   rw [nU h1] at hq;by_cases h2:R=l.length
   ·have p2:((R:Int)==(l.length:Int))=true:=by rw [nH];omega
    obtain rfl:true=q:=by rw [←hq,nH.2 h2];rfl
    exact PQ
   ·have p2:((R:Int)==(l.length:Int))=false:=by rw [nA];omega
    obtain rfl:false=q:=by rw [←hq,nA.2 h2];rfl
    exact PQ
  ·have p1:¬(l.length:Int)≤60:=oM
   rw [nV h1] at hq;exact Qm
def QLt (gd good:Prop) (T:List Tk) (j x:Nat) (res:PR (List Dt)):Prop:=(gd∧x=0∧j≤T.length∧good)∨((x≠0∨aj [40] (T.drop j)=true)∧∀w D us,QF true w D T res us j x)
def pD (p:PR (List Dt)):PR (List Dt):=match p with
 | .error e=>.error e
 | .ok (l,r)=>.ok (mi l,r)
def wG (cmd:List Tk→PR (List Dt)) (acc:List Dt) (p:PR (List Dt)):PR (List Dt):=pD (match p with
 | .error e=>.error e
 | .ok (d,r)=>cW cmd (r.length+1) (acc++d) r)
theorem jG (cmd:List Tk→PR (List Dt)) (n:Nat) (acc:List Dt) (ts:List Tk):cW cmd (n+1) acc ts=if (dm ts).1 && fj (dm ts).2 then (match da cmd (dm ts).2 with
 | .error e=>.error e
 | .ok (d,r)=>cW cmd n (acc++d) r) else .ok (acc,(dm ts).2):=rfl
theorem FH {ts:List Tk} (h:(dm ts).1=true):(dm ts).2.length+1≤ts.length:=by
 unfold dm at h ⊢;by_cases ho:(aj [59] ts || aj [10] ts)=true
 ·rw [nE ho];have hp:1≤ts.length:=by
   rw [Bool.or_eq_true] at ho;rcases ho with ho | ho<;>exact dA ho
  have h1:=dS ts.tail;rw [List.length_tail] at h1;show (ai ts.tail).length+1≤ts.length;omega
 ·rw [nF ho] at h;cases h
theorem ry {cmd:List Tk→PR (List Dt)} (hc:ix cmd):∀(n m:Nat) (acc:List Dt) (ts:List Tk),ts.length<n→ts.length<m→cW cmd n acc ts=cW cmd m acc ts
 | 0,m,acc,ts,h,_=>nQ h (uC _)
 | n+1,0,acc,ts,_,h=>nQ h (uC _)
 | n+1,m+1,acc,ts,h1,h2=>by
  rw [jG,jG];by_cases hb:((dm ts).1 && fj (dm ts).2)=true
  ·rw [nE hb,nE hb];rw [nW] at hb;have hl:=FH hb.1;cases hq:da cmd (dm ts).2 with
   | error e=>rfl
   | ok p=>
    obtain⟨d,r⟩:=p;have:=pu hc _ _ _ hq;exact ry hc n m (acc++d) r oM oM
  ·rw [nF hb,nF hb]
def YK (K:Nat) (acc:List Dt) (T:List Tk) (I:Nat) (res:PR (List Dt)):Prop:=
 res=wG (ab K) acc (da (ab K) (T.drop I))∨(da (ab K) (T.drop I)=.error 2∧∃ds r,res=.ok (ds,r)∧dk r=false)
theorem OQ (K:Nat) (ts:List Tk):bz (ab K) ts=wG (ab K) [] (da (ab K) (ai ts)):=by
 unfold bz mM wG pD;cases da (ab K) (ai ts) with
 | error e=>rfl
 | ok p=>rfl
theorem L2 {K:Nat} {acc:List Dt} {T:List Tk} {I:Nat} {res:PR (List Dt)} {w:World} {D:Nat→Prop} {us:List Value} {j x:Nat} (h:YK K acc T I res) (hq:QF false w D T (da (ab K) (T.drop I)) us j x) :
 ∃(gd:Prop) (d:List Dt),(gd→jA d∧bV w D d us)∧QLt gd (res=pD (cW (ab K) ((T.drop j).length+1) (acc++d) (T.drop j))) T j x res:=by
 rcases h with h | ⟨h,ds,r,hr,hc⟩
 ·rcases hq.split (wG (ab K) acc) (λ e=>rfl) (λ h=>by cases h) with ⟨ds,r,hr,hx,hn,hd,hj,hl⟩ | ⟨hx,hr⟩ | ⟨hx,ho,hr⟩
  ·refine⟨True,ds,λ_=>⟨hn,hd⟩,.inl ⟨trivial,hx,hl,?_⟩⟩;rw [h,hr,hj];rfl
  ·exact⟨False,[],λ h=>h.elim,.inr ⟨.inl hx,λ_ _ _=>QF.err hx (by rw [h,hr])⟩⟩
  ·exact⟨False,[],λ h=>h.elim,.inr ⟨.inr ho,λ_ _ _=>QF.stk ho hx (by rw [h,hr])⟩⟩
 ·rw [h] at hq;refine⟨False,[],λ h=>h.elim,.inr ?_⟩;rcases hq with ⟨h1,h2⟩ | ⟨h1,h2,h3⟩
  ·exact⟨.inl oM,λ_ _ _=>by rw [hr];exact .inr ⟨rfl,hc,.inl h1⟩⟩
  ·exact⟨.inr h3,λ_ _ _=>by rw [hr];exact .inr ⟨rfl,hc,.inr ⟨h2,h3⟩⟩⟩
theorem L3 {K:Nat} {acc:List Dt} {ts:List Tk} {res:PR (List Dt)} (h:res=pD (cW (ab K) (ts.length+1) acc ts)) (h1:aj [59] ts=false) (h2:aj [10] ts=false):res=.ok (mi acc,ts):=by
 rw [h,jG];unfold dm;rw [h1,h2];rfl
theorem L1 {K:Nat} {acc:List Dt} {ts:List Tk} {T:List Tk} {I:Nat} {res:PR (List Dt)} (h:res=pD (cW (ab K) (ts.length+1) acc ts)) (h1:(aj [59] ts || aj [10] ts)=true) (hI:T.drop I=ai ts.tail) :
 (dk (T.drop I)=true→res=.ok (mi acc,T.drop I))∧(dk (T.drop I)=false→YK K acc T I res):=by
 have he:dm ts=(true,T.drop I):=by unfold dm;rw [nE h1,hI]
 have aW:=FH (ts:=ts) (by rw [he]);rw [he] at aW;rw [jG,he] at h;dsimp only at h aW;rw [Bool.true_and] at h;constructor
 ·intro hc;rw [tE hc,nF sI] at h;exact h
 ·intro hc;cases hm:fj (T.drop I) with
  | false=>
   rw [hm,nF sI] at h;exact .inr ⟨vq K hm,_,_,h,hc⟩
  | true=>
   rw [hm,nE rfl] at h;refine .inl ?_;rw [h];unfold wG;cases hq:da (ab K) (T.drop I) with
   | error e=>rfl
   | ok p=>
    obtain⟨d,r⟩:=p;have:=pu (lJ K) _ _ _ hq;dsimp only;rw [ry (lJ K) ts.length (r.length+1) (acc++d) r oM oM]
end Go.Proofs.YtiihpbccabeoeaaGreatDoor
