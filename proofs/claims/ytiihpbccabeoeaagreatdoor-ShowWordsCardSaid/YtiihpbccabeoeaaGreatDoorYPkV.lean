/- The walk: a part. -/
import Derived.Test.YtiihpbccabeoeaaGreatDoorYPkQ
import Derived.Deep.AppendLies
namespace Go.Proofs.YtiihpbccabeoeaaGreatDoor
open Go.RowKit
set_option linter.unusedVariables false
set_option maxRecDepth 100000
set_option maxHeartbeats 16000000
def QTake (w:World) (Lo B ps:Nat) (tv:Value) (n:Nat) (T:List Tk) (i:Nat) (res:PR (List Pt)) (e:Ending) (w':World):Prop:=match res with
 | .ok (wd,r)=>∃(a:Option Addr) (c:Nat),e=.returned (.slice a wd.length c)∧PtsAt w' (fun b=>Lo≤b∧b<B) n wd (.slice a wd.length c)∧i<T.length∧r=T.drop (i+1)∧QS w' Lo B ps tv n T (i+1) 0∧Keeps (fun b=>b=ps) w w'
 | .error y=>∃(a:Option Addr) (m c j:Nat),e=.returned (.slice a m c)∧i≤j∧j≤i+1∧y≠0∧QS w' Lo B ps tv n T j y∧Keeps (fun b=>b=ps) w w'∧(j=i∨j≤T.length)∧∃wd:List Pt,m=wd.length∧PtsAt w' (fun b=>Lo≤b∧b<B) n wd (.slice a m c)∧Sm wd
theorem sm_nil:Sm []:=⟨Nat.zero_le _,by simp [smL]⟩
theorem qtake_any (K:Nat) (hscr:QScrOK K) (w:World) (Lo B ps n i deep:Nat) (tv:Value) (T:List Tk) (hd:deep+1+K=41) (h:QS w Lo B ps tv n T i 0) :
 Calls Tryz.prog 185 #[.pointer (some ⟨ps,0,none⟩),.int .i64 (deep:Nat)] w (QTake w Lo B ps tv n T i (wordF (scrF (commandF K)) (T.drop i))):=by
 have hwf:wordF (scrF (commandF K)) (T.drop i)=if hasW (T.drop i) then (match subsF (scrF (commandF K)) (atF (T.drop i)).word with
  | .error e=>.error e
  | .ok _=>.ok ((atF (T.drop i)).word,(T.drop i).tail)) else .error 2:=rfl
 cases hw:hasW (T.drop i) with
 | false=>
  rw [hwf,hw,if_neg (by simp)];refine (qtake_none w Lo B ps n i 0 deep tv T h hw).mono ?_;rintro e w' ⟨he,h2,hk⟩;rw [if_pos rfl] at h2;exact⟨none,0,0,i,he,Nat.le_refl _,by omega,by decide,h2,hk,.inl rfl,[],rfl,PtsAt.nil _ _ _,sm_nil⟩
 | true=>
  rw [hwf,hw,if_pos rfl];have hi:i<T.length:=by
   rcases Nat.lt_or_ge i T.length with hi | hi
   ·exact hi
   ·unfold hasW at hw;rw [atF_end hi] at hw;cases hw
  have hsm:Sm (atF (T.drop i)).word:=by
   rw [atF_in hi];exact (h.sm.2 _ (List.getElem_mem hi)).2
  have htl:(T.drop i).tail=T.drop (i+1):=by rw [List.drop_eq_getElem_cons hi];rfl
  refine (qtake_some w Lo B ps n i 0 deep tv T h hw (fun y=>match subsF (scrF (commandF K)) (atF (T.drop i)).word with | .ok _=>y=0 | .error z=>y=z∧z≠0) (fun w2 v h2 hp=>
   (qsubs_deep K deep hscr hd (n+1) n (Nat.lt_succ_self _) w2 Lo B ps tv n T i _ v h2 hp hsm).mono fun e w' ⟨y,a1,a2,a3,a4⟩=>⟨y,a1,a2,a3,a4⟩)).mono ?_
  rintro e w' ⟨_,y,hq,a,c,he,hp,h2,hk⟩;cases hs:subsF (scrF (commandF K)) (atF (T.drop i)).word with
  | error z=>
   rw [hs] at hq;obtain⟨rfl,hz⟩:=hq;exact⟨a,_,c,i+1,he,by omega,Nat.le_refl _,hz,h2,hk,.inr hi,_,rfl,hp,hsm⟩
  | ok u=>
   rw [hs] at hq;obtain rfl:=hq;exact⟨a,c,he,hp,hi,htl,h2,hk⟩
def QTk (K:Nat) (w:World) (Lo B ps:Nat) (tv:Value) (n:Nat) (T:List Tk) (i:Nat) (e:Ending) (w':World):Prop:=
 ∃(wd:List Pt) (a:Option Addr) (c j y:Nat),e=.returned (.slice a wd.length c)∧PtsAt w' (fun b=>Lo≤b∧b<B) n wd (.slice a wd.length c)∧Sm wd∧i≤j∧(i≤T.length→j≤T.length)∧QS w' Lo B ps tv n T j y∧Keeps (fun b=>b=ps) w w'∧
  ((y=0∧j=i+1∧i<T.length∧wordF (scrF (commandF K)) (T.drop i)=.ok (wd,T.drop (i+1)))∨(y≠0∧wordF (scrF (commandF K)) (T.drop i)=.error y))
theorem qtake_uni (K:Nat) (hscr:QScrOK K) (w:World) (Lo B ps n i deep:Nat) (tv:Value) (T:List Tk) (hd:deep+1+K=41) (h:QS w Lo B ps tv n T i 0) :
 Calls Tryz.prog 185 #[.pointer (some ⟨ps,0,none⟩),.int .i64 (deep:Nat)] w (QTk K w Lo B ps tv n T i):=by
 refine (qtake_any K hscr w Lo B ps n i deep tv T hd h).mono ?_;intro e w' hp;cases hw:wordF (scrF (commandF K)) (T.drop i) with
 | error y=>
  rw [hw] at hp;obtain⟨a,m,c,j,he,h1,h2,hy,hs,hk,h3,wd,rfl,hpt,hsm⟩:=hp;exact⟨wd,a,c,j,y,he,hpt,hsm,h1,fun h=>by omega,hs,hk,.inr ⟨hy,hw⟩⟩
 | ok p=>
  obtain⟨wd,r⟩:=p;rw [hw] at hp;obtain⟨a,c,he,hpt,hi,rfl,hs,hk⟩:=hp;have hsm:Sm wd:=by
   obtain⟨_,_,h3,_⟩:=word_tail hw;rw [h3,atF_in hi];exact (h.sm.2 _ (List.getElem_mem hi)).2
  exact⟨wd,a,c,i+1,0,he,hpt,hsm,by omega,fun _=>by omega,hs,hk,.inl ⟨rfl,rfl,hi,hw⟩⟩
def Qd (Lo B X:Nat) (b:Nat):Prop:=(Lo≤b∧b<B)∨X≤b
theorem qd_ne {Lo B ps X b:Nat} (hB:B≤ps) (hc:ps<X) (hb:Qd Lo B X b):b≠ps:=by
 unfold Qd at hb;omega
theorem owns_keep {w w':World} {S:Nat→Prop} {v:Value} {k n:Nat} {T:TypeId} {xs:List Value} (h:w.ownsRow 0 T k v n xs) (hk:Keeps S w w') (hv:∀g,v.ownBlock=some g→¬S g):w'.ownsRow 0 T k v n xs:=by
 refine⟨h.1,?_⟩;rcases h.2 with h0 | ⟨g,cap,cur,rfl,hb,hg,rest⟩
 ·exact .inl h0
 ·exact .inr ⟨g,cap,cur,rfl,hb,(hk.block g (Array.getElem?_eq_some_iff.1 hg).1 (hv g rfl)).trans hg,rest⟩
theorem inc_qs {wr:World} {Lo B ps:Nat} {tv:Value} {n:Nat} {T:List Tk} {I x:Nat} (h:QS wr Lo B ps tv n T I x) (hI:I+1≤T.length+1000):QS (wr.setCell ⟨ps,1,none⟩ (.int .i64 ((I:Int)+1))) Lo B ps tv n T (I+1) x∧Keeps (fun b=>b=ps) wr (wr.setCell ⟨ps,1,none⟩ (.int .i64 ((I:Int)+1))):=by
 have h1:=h.set1 (j:=I+1) hI;rw [show ((I+1:Nat):Int)=(I:Int)+1 by omega] at h1;exact h1
structure QM (G:Prop) (w0 w:World) (Lo B ps:Nat) (tv:Value) (n:Nat) (T:List Tk) (X I x:Nat) (l:Value) (k:Nat) (Ty:TypeId) (m:Nat) (ds:List Dt):Prop where
 rs:QS w Lo B ps tv n T I x
 own:∃xs,(G→RdL w (fun b=>Qd Lo B X b∧l.ownBlock≠some b) ds xs)∧w.ownsRow 0 Ty k l m xs
 low:∀g,l.ownBlock=some g→X≤g
 kp:Keeps (fun b=>b=ps) w0 w
section
variable {G G':Prop} {w0 w w4:World} {Lo B ps:Nat} {tv:Value} {n:Nat} {T:List Tk} {X I J x y:Nat} {l:Value} {k:Nat} {Ty:TypeId} {m:Nat} {ds:List Dt}
theorem QM.weak (h:QM G w0 w Lo B ps tv n T X I x l k Ty m ds) (hG:G'→G):QM G' w0 w Lo B ps tv n T X I x l k Ty m ds:=by
 obtain⟨xs,h1,h2⟩:=h.own;exact⟨h.rs,⟨xs,fun g=>h1 (hG g),h2⟩,h.low,h.kp⟩
theorem QM.move (h:QM G w0 w Lo B ps tv n T X I x l k Ty m ds) (hc:ps<X) (hk:Keeps (fun b=>b=ps) w w4) (hrs:QS w4 Lo B ps tv n T J y):QM G w0 w4 Lo B ps tv n T X J y l k Ty m ds:=by
 have hps:=h.rs.ps;obtain⟨xs,h1,h2⟩:=h.own;exact⟨hrs,⟨xs,fun g=>(h1 g).keep hk (fun b _ hb e=>qd_ne (X:=X) hps hc hb.1 e),owns_keep h2 hk (fun g hg e=>by have:=h.low g hg;omega)⟩,h.low,h.kp.trans hk (fun _ _ e=>e)⟩
theorem QM.keep0 (h:QM G w0 w Lo B ps tv n T X I x l k Ty m ds) (hk:Keeps (fun _=>False) w w4):QM G w0 w4 Lo B ps tv n T X I x l k Ty m ds:=by
 obtain⟨xs,h1,h2⟩:=h.own;exact⟨h.rs.keep0 hk,⟨xs,fun g=>(h1 g).keep hk (fun _ _ _ e=>e),owns_keep h2 hk (fun _ _ e=>e)⟩,h.low,h.kp.trans hk (fun _ _ e=>e.elim)⟩
theorem QM.inc (h:QM G w0 w Lo B ps tv n T X I x l k Ty m ds) (hc:ps<X) (hI:I+1≤T.length+1000):QM G w0 (w.setCell ⟨ps,1,none⟩ (.int .i64 ((I:Int)+1))) Lo B ps tv n T X (I+1) x l k Ty m ds:=
 h.move hc (inc_qs h.rs hI).2 (inc_qs h.rs hI).1
theorem QM.more (h:QM G w0 w Lo B ps tv n T X I x l k Ty m ds) (hc:ps<X) (hX:X≤w.heap.size) (h0:w0.heap.size≤X) (hk:Keeps (fun b=>b=ps) w w4) (hrs:QS w4 Lo B ps tv n T J y) {d2:List Dt} {us:List Value} (hG:G'→G) (hx:G'→RdL w4 (Qd Lo B w.heap.size) d2 us) :
 ∃xs,w4.ownsRow 0 Ty k l m xs∧∀(gg m' cap:Nat) (w5 wo:World),w5.ownsRow 0 Ty k (.slice (some ⟨gg,0,none⟩) m' cap) m' (xs++us)→Keeps (fun _=>False) w4 wo→wo.grownBy w5 l.ownBlock→(l.ownBlock=some gg∨w4.heap.size≤gg)→
  QM G' w0 w5 Lo B ps tv n T X J y (.slice (some ⟨gg,0,none⟩) m' cap) k Ty m' (ds++d2)∧Keeps (fun b=>l.ownBlock=some b) w4 w5:=by
 have h4:=h.move hc hk hrs;have hB:=hrs.ps;have hlow:=h4.low;have hsz4:=hk.size;obtain⟨xs,hr,ho⟩:=h4.own;have hlt:∀g,l.ownBlock=some g→g<w.heap.size:=fun g hg=>by
  obtain⟨xs0,_,ho0⟩:=h.own;exact (ho0.lt g hg).2
 refine⟨xs,ho,fun gg m' cap w5 wo hown hwo hgrow hat=>?_⟩;have hk5:Keeps (fun b=>l.ownBlock=some b) w4 w5:=(hwo.mono (fun _ _ h=>h.elim)).grown hgrow (fun k hk _=>hk);have hne:∀b,b<w4.heap.size→l.ownBlock≠some b→gg≠b:=fun b hb hv e=>by
  rcases hat with h9 | h9
  ·exact hv (by rw [h9,e])
  ·omega
 refine⟨?_,hk5⟩;refine⟨hrs.keep hk5 (fun b hb e=>by have:=hlow b e;omega) (fun e=>by have:=hlow ps e;omega),⟨xs++us,fun g=>?_,hown⟩,fun g hg=>?_,h4.kp.trans hk5 (fun b hb e=>by have:=hlow b e;omega)⟩
 ·have hx2:RdL w4 (fun b=>Qd Lo B X b∧l.ownBlock≠some b) d2 us:=(hx g).mono fun b _ hb=>by
   rcases hb with hb | hb
   ·exact⟨.inl hb,fun e=>by have:=hlow b e;omega⟩
   ·exact⟨.inr (by omega),fun e=>by have:=hlt b e;omega⟩
  have h1:=((hr (hG g)).app hx2).lt;exact (h1.keep hk5 (fun b _ hb e=>hb.1.2 e)).mono fun b _ hb=>⟨hb.1.1,fun e=>hne b hb.2 hb.1.2 (Option.some.inj e)⟩
 ·have hg2:gg=g:=Option.some.inj hg;rcases hat with h1 | h1
  ·exact hlow g (by rw [h1,hg2])
  ·omega
theorem QM.reads (h:QM G w0 w Lo B ps tv n T X I x l k Ty m ds) (g:G):Rd w (Qd Lo B X) (.sl k ds) l:=by
 obtain⟨xs,h1,h2⟩:=h.own;exact OwnD.reads (D:=fun b=>Qd Lo B X b) ⟨xs,h1 g,h2⟩ (fun g hg=>.inr (h.low g hg))
theorem QM.mlen (h:QM G w0 w Lo B ps tv n T X I x l k Ty m ds) (g:G):ds.length=m*k:=by
 obtain⟨xs,h1,h2⟩:=h.own;rw [←(h1 g).len];exact h2.1
end
theorem qredir_at {w:World} {Lo B ps n i x:Nat} {tv:Value} {T:List Tk} (h:QS w Lo B ps tv n T i x) (b:Bool) (hb:redirB (T.drop i)=b) (q:Nat) :
 Calls Tryz.prog 161 #[.pointer (some ⟨ps,0,none⟩)] (w.drewN q) fun e w'=>e=.returned (.bool b)∧∃q',w'=w.drewN q':=by
 subst hb;exact (qredir_any (w.drewN q) Lo B ps n i x tv T (h.drewN q)).mono fun e w' ⟨h1,q',h2⟩=>⟨h1,q+q',by rw [h2,World.drewN_drewN]⟩
theorem qredirs_bad (w:World) (Lo B ps n i x deep:Nat) (tv:Value) (T:List Tk) (h:QS w Lo B ps tv n T i x) (hx:x≠0) :
 Calls Tryz.prog 164 #[.pointer (some ⟨ps,0,none⟩),.int .i64 (deep:Nat)] w fun e w'=>e=.returned (.slice none 0 0)∧w'=w:=by
 obtain⟨c0,c1,c2,f1,f2⟩:=h.cells;have hlt:=h.lt;have t:((x:Int)==0)=false:=by rw [beq_eq_false_iff_ne];omega
 clear h hx;go_enter Tryz.func164,Tryz.ntmps164;go_wp2_with fail;go_loopw [5] (fun l' wr=>l'=.slice none 0 0∧wr=w) (fun _ _=>0)
 case atStart=>exact⟨rfl,rfl⟩
 case round=>
  obtain⟨rfl,rfl⟩:=hrel;go_wp2_with fail;go_ret;exact⟨rfl,rfl⟩
theorem qredirs_succ (scr:Bs→Except Nat Unit) (n:Nat) (acc:List Dt) (ts:List Tk):redirsF scr (n+1) acc ts=if redirB ts then (match redirF scr ts with
 | .error e=>.error e
 | .ok (d,r)=>redirsF scr n (acc++d) r) else .ok (acc,ts):=rfl
theorem step_append_own {P:Program} {w:World} {ops:Array Oper} {o:Oper} {a:Act} {K:Act→World→Prop} {Q:Exit→Act→World→Prop} {E:Prop} (hgd:o.guard=none) (s x:Operand) (t:TypeId)
 (ho:o.op=.call { callee:=.builtin .append,args:=#[s,x],argTypes:=#[t,t] })
 (base:Nat) (e:TypeId) (i:TypeInfo) (z:Value) (size bytes:Nat) (ht:P.underlying t=some (.slice e)) (hi:P.info? e=some i) (hz:i.zero=some z)
 (hsize:i.size=size) (hby:i.bytes=bytes) (hzs:z.cells.size=size) (hsz:0<size)
 (v:Value) (n:Nat) (xs:List Value) (hs:a.eval s=v) (hown:w.ownsRow base e size v n xs)
 (ad:Addr) (m c:Nat) (news:List Value) (hx:a.eval x=.slice (some ad) m c) (hl:news.length=m*size) (hnews:∀j u,news[j]? = some u→w.cell? (ad.add j)=some u) (h1:∀u∈news,u.oneCell'=true)
 (h63:n+m≤maxLen) (hbytes:(n+m)*bytes≤140737488355328) (hbase:base≤w.heap.size)
 (h:∀va vc w',w'.ownsRow base e size (.slice va (n+m) vc) (n+m) (xs++news)→w.grownBy w' v.ownBlock→((Value.slice va (n+m) vc).ownBlock=v.ownBlock∨(Value.slice va (n+m) vc).ownBlock=some w.heap.size)→K (a.put o.dst (.slice va (n+m) vc)) w') :
 if Region.wanted o (yielded ops a.tmps)=true then Oper.wp P o a w K Q else E:=by
 have hw:Region.wanted o (yielded ops a.tmps)=true:=by simp [Region.wanted,hgd]
 rw [if_pos hw];obtain⟨v',w',hr,h2,h3,_,h5⟩:=run_append_own_at (P:=P) w base t o.type e i z size bytes ht hi hz hsize hby hzs hsz v n xs hown ad m c news hl hnews h1 h63 hbytes hbase;obtain⟨va,vc,rfl⟩:∃va vc,v'=.slice va (n+m) vc:=by
  rcases h2.2 with ⟨rfl,h0⟩ | ⟨g,cap,cur,rfl,_⟩
  ·exact⟨none,0,by rw [h0]⟩
  ·exact⟨_,cap,rfl⟩
 unfold Oper.wp execOp;simp only [ho,resolve,invoke,builtin,Sem.run_bind,Sem.run_pure,Result.andThen_ok,List.map_toArray,List.map_cons,List.map_nil,hs,hx,hr];exact h va vc w' h2 h3 h5
def RowOne (w:World) (v:Value) (m:Nat):Prop:=∃xs,w.ownsRow 0 86 2 v m xs∧∀u∈xs,u.oneCell'=true
theorem owns_uniq {w:World} {e:TypeId} {k n:Nat} {v:Value} {xs ys:List Value} (h:w.ownsRow 0 e k v n xs) (h':w.ownsRow 0 e k v n ys):xs=ys:=by
 rcases h.2 with ⟨e1,h0⟩ | ⟨g,cap,cur,e1,hb,hg,h1,h2,h3,h4⟩
 ·have a:=h.1;have b:=h'.1;rw [h0,Nat.zero_mul] at a b;rw [List.eq_nil_of_length_eq_zero a,List.eq_nil_of_length_eq_zero b]
 ·rcases h'.2 with ⟨e2,_⟩ | ⟨g',cap',cur',e2,hb',hg',h1',h2',h3',h4'⟩
  ·rw [e1] at e2;cases e2
  ·rw [e1] at e2;injection e2 with e3;injection e3 with e3;injection e3 with e3;subst e3;rw [hg] at hg';injection hg' with hg';injection hg' with hg';subst hg';rw [←h4,←h4']
def QRds (w:World) (Lo B ps:Nat) (tv:Value) (n:Nat) (T:List Tk) (i:Nat) (res:PR (List Dt)) (e:Ending) (w':World):Prop:=
 ∃(gd:Prop) (a:Option Addr) (m c j x:Nat) (ds:List Dt),e=.returned (.slice a m c)∧i≤j∧j≤T.length∧m≤j∧(redirB (T.drop i)=true→0<m)∧QM gd w w' Lo B ps tv n T w.heap.size j x (.slice a m c) 2 86 m ds∧RowOne w' (.slice a m c) m∧((gd∧x=0∧res=.ok (ds,T.drop j))∨(x≠0∧res=.error x))
theorem qredirs_any (K:Nat) (hscr:QScrOK K) (w:World) (Lo B ps n i deep:Nat) (tv:Value) (T:List Tk) (hd:deep+1+K=41) (h:QS w Lo B ps tv n T i 0) (hi:i≤T.length) :
 Calls Tryz.prog 164 #[.pointer (some ⟨ps,0,none⟩),.int .i64 (deep:Nat)] w (QRds w Lo B ps tv n T i (redirsF (scrF (commandF K)) ((T.drop i).length+1) [] (T.drop i))):=by
 obtain⟨res,hres⟩:∃res,res=redirsF (scrF (commandF K)) ((T.drop i).length+1) [] (T.drop i):=⟨_,rfl⟩;rw [←hres];rw [List.length_drop] at hres;have hc3:=cells_token;have hcr:Tryz.prog.cellsOf 86=2:=by kernel_rfl
 have hinf:(Tryz.prog.info? 86).map (fun i=>(i.zero,i.size,i.bytes))=some (some (.agg #[.string ⟨#[]⟩,.slice none 0 0]),2,40):=by kernel_rfl
 obtain⟨i0,hi0,hz0,hz1,hz2⟩:=info_parts hinf;have HSCR:=Hd hscr;have HD:=Hd hd;have HPS:=Hd h.lt;have HS0:=Hd (show QM True w w Lo B ps tv n T w.heap.size i 0 (.slice none 0 0) 2 86 0 [] from⟨h,⟨[],fun _=>trivial,World.ownsRow_nil _ _ _ _⟩,fun g hg=>(by cases hg),Keeps.refl _ _⟩);have HRES:=Hd hres;have hmT:T.length≤20000:=h.sm.1;clear hinf hscr hd h hres;go_enter Tryz.func164,Tryz.ntmps164;go_wp2_with fail
 go_loopg [5] (T.length+2000 - i) (fun g l' wr=>∃(gd:Prop) (la:Option Addr) (m lc I x:Nat) (acc:List Dt),l'=.slice la m lc∧g=T.length+2000 - I∧i≤I∧I≤T.length∧m≤I∧((I=i∧x=0)∨0<m)∧Hid (QM gd w wr Lo B ps tv n T w.heap.size I x (.slice la m lc) 2 86 m acc)∧Hid (RowOne wr (.slice la m lc) m)∧Hid ((gd∧x=0∧∃M,T.length - I+1≤M∧res=redirsF (scrF (commandF K)) M acc (T.drop I))∨(x≠0∧res=.error x)))
 case atStart=>exact⟨True,none,0,0,i,0,[],rfl,rfl,Nat.le_refl _,hi,Nat.zero_le _,.inl ⟨rfl,rfl⟩,HS0,Hd ⟨[],World.ownsRow_nil _ _ _ _,fun u h=>by cases h⟩,Hd (.inl ⟨trivial,rfl,_,Nat.le_refl _,HRES.out⟩)⟩
 case round=>
  clear HS0 HRES;obtain⟨gd,la,m,lc,I,x,acc,rfl,hgk,hiI,hIT,hmI,hIm,HL,HONE,HT⟩:=hrel;have HGK:=Hd hgk;clear hgk;obtain⟨c0,c1,c2,f1,f2⟩:=HL.out.rs.cells;have hlt:=HL.out.rs.lt;by_cases hx:x=0
  ·subst hx;obtain⟨g,M,hM,hr⟩:gd∧∃M,T.length - I+1≤M∧res=redirsF (scrF (commandF K)) M acc (T.drop I):=by
    rcases HT.out with ⟨g,_,h9⟩ | ⟨h9,_⟩
    ·exact⟨g,h9⟩
    ·exact absurd rfl h9
   obtain⟨M,rfl⟩:∃M',M=M'+1:=⟨M - 1,by omega⟩;have HG0:=Hd g;rw [qredirs_succ] at hr;clear g HT;cases hq:redirB (T.drop I) with
   | false=>
    rw [hq,if_neg (by simp)] at hr;have HR:=Hd hr;have HQ:=Hd (qredir_at HL.out.rs false hq 0);have HIM:=Hd (show redirB (T.drop i)=true→0<m from fun h=>by
     rcases hIm with h9 | h9
     ·rw [h9.1,h] at hq;cases hq
     ·exact h9)
    clear hq hr hIm;go_wp2_with fail;refine HQ.out.mono ?_;rintro e w1 ⟨rfl,q,rfl⟩;go_wp2_with fail;go_ret;exact⟨gd,la,m,lc,I,0,acc,rfl,hiI,hIT,hmI,HIM.out,HL.out.keep0 ((Keeps.refl _ _).drewN q),(by obtain⟨xs,h1,h2⟩:=HONE.out;exact⟨xs,owns_keep h1 ((Keeps.refl (fun _=>False) _).drewN q) (fun _ _ h=>h),h2⟩),.inl ⟨HG0.out,rfl,HR.out⟩⟩
   | true=>
    rw [hq,if_pos rfl] at hr;have hIl:=(show I<T.length from by have:=redir_pos hq;rw [List.length_drop] at this;omega);have HQ:=Hd (qredir_at HL.out.rs true hq 0);obtain⟨ta,tc,rfl,ht1,ht2⟩:=HL.out.rs.shape;obtain⟨g,o,xa,xl,xc,rfl,⟨q0,q1,q2⟩,hx,hg⟩:=HL.out.rs.toks.at (Keeps.refl _ _) hIl;unfold strV at q1;have hat:=atF_in hIl;obtain⟨tx,htx⟩:∃tx,tx=T[I].text:=⟨_,rfl⟩;rw [←htx] at q1;have hred:res=match wordF (scrF (commandF K)) (T.drop (I+1)) with
     | .error e=>.error e
     | .ok (wd,r)=>redirsF (scrF (commandF K)) M (acc++[.str tx,wordR wd]) r:=by
     rw [hr];unfold redirF;rw [drop_tail,hat,←htx];cases wordF (scrF (commandF K)) (T.drop (I+1))<;>rfl
    have HRED:=Hd hred;obtain⟨K0,hK0⟩:∃K0,K0=T.length:=⟨_,rfl⟩;rw [←hK0] at c0;have p1:(I:Int)<(K0:Int):=by omega
    have hsum:IntKind.i64.wrap ((I:Int)+1)=(I:Int)+1:=IntWalk.i64_in _ (by omega);have HSET:=Hd (fun q=>inc_qs (HL.out.rs.drewN q) (by omega));clear hq hx q0 q2 hat htx hred hK0 ht1 ht2 hr;go_wp2_with fail;refine HQ.out.mono ?_;rintro e w1 ⟨rfl,q,rfl⟩;go_wp2_with fail;go_quiet (fail);go_wp2_with fail;have hset:=HSET.out (q+nq);obtain⟨W,hW⟩:∃W,W=(wr.drewN (q+nq)).setCell ⟨ps,1,none⟩ (.int .i64 ((I:Int)+1)):=⟨_,rfl⟩
    have HSW:=Hd (show QS W Lo B ps _ n T (I+1) 0 by rw [hW];exact hset.1);have HKW:=Hd (show Keeps (fun b=>b=ps) wr W by rw [hW];exact ((Keeps.refl (fun b=>b=ps) wr).drewN _).trans hset.2 (fun _ _ h=>h));rw [←hW];clear hset hW;refine (qtake_uni K HSCR.out W Lo B ps n (I+1) deep _ T HD.out HSW.out).mono ?_;rintro e w4 ⟨wd,xa2,xc2,j,y,rfl,hpt,hsm,hj1,hj2,hs4,hk4,hor⟩;obtain⟨gd2,HT2⟩:∃gd2:Prop,Hid ((gd2∧y=0∧∃M,T.length - j+1≤M∧res=redirsF (scrF (commandF K)) M (acc++[.str tx,wordR wd]) (T.drop j))∨(y≠0∧res=.error y)):=by
     rcases hor with ⟨rfl,rfl,hi2,hw⟩ | ⟨hy,hw⟩
     ·exact⟨True,Hd (.inl ⟨trivial,rfl,M,by omega,by rw [HRED.out,hw]⟩)⟩
     ·exact⟨False,Hd (.inr ⟨hy,by rw [HRED.out,hw]⟩)⟩
    obtain⟨xs,hown4,hF⟩:=HL.out.more (G':=gd2) HPS.out HL.out.kp.size (Nat.le_refl _) (HKW.out.trans hk4 (fun _ _ h=>h)) hs4 (d2:=[.str tx,wordR wd]) (us:=[.string ⟨tx.toArray⟩,.slice xa2 wd.length xc2]) (fun _=>HG0.out) (fun _=>⟨.str _,(rd_pts hpt).mono (fun b _ hb=>.inl hb),trivial⟩);have HONE4:=Hd (show ∀u∈xs,u.oneCell'=true from by
     obtain⟨ys,h1,h2⟩:=HONE.out;have h3:=owns_keep h1 (HKW.out.trans hk4 (fun _ _ h=>h)) (fun g hg e=>by have:=HL.out.low g hg;have:=HPS.out;omega);rw [owns_uniq hown4 h3];exact h2)
    obtain⟨wl,hwl⟩:∃wl,wl=wd.length:=⟨_,rfl⟩;rw [←hwl] at hF;rw [←hwl];have HF:=Hd hF;have HJ:=Hd (show I+1≤j∧j≤T.length from⟨hj1,hj2 (by omega)⟩);clear hF hs4 hk4 hpt hsm hor hwl hj1 hj2;go_wp2_with (at_builtin;refine wpList_append_lies _ rfl (.tmp 38) (.tmp 42) _ rfl 0 86 i0 _ 2 40 Tryz.underlying41 hi0 hz0 hz1 hz2 rfl (by omega) (.slice la m lc) m xs rfl (hown4.alloc _) ⟨w4.heap.size,0,none⟩ 1 1 [.string ⟨tx.toArray⟩,.slice xa2 wl xc2] rfl rfl (World.news_of_block (cs:=#[.string ⟨tx.toArray⟩,.slice xa2 wl xc2]) (t:=86) (fr:=(0,0)) (heap_alloc_new w4 _)) (by simp [Value.oneCell']) (by omega) (by unfold maxLen;omega) (by omega) (by simp) (w4.heap.size+1) (by simp) ?_;intro gg cap w5 hown2 hgrow hat hlt5;have hG5:=HF.out gg (m+1) cap w5 _ hown2 ((Keeps.refl _ _).alloc _) hgrow (hat.imp id (fun h=>by omega));have HG5:=Hd hG5.1;clear hG5;have HONE5:=Hd (show RowOne w5 (.slice (some ⟨gg,0,none⟩) (m+1) cap) (m+1) from⟨_,hown2,fun u hu=>by rcases List.mem_append.1 hu with h | h;exact HONE4.out u h;rcases List.mem_cons.1 h with rfl | h;rfl;rcases List.mem_cons.1 h with rfl | h;rfl;cases h⟩);clear hown2 hgrow hat)
    go_roundg (T.length+2000 - j)
    case measure=>have:=HGK.out;have:=HJ.out;omega
    case rel=>exact⟨gd2,_,m+1,cap,j,y,acc++[.str tx,wordR wd],rfl,rfl,by have:=HJ.out;omega,HJ.out.2,by have:=HJ.out;omega,.inr (by omega),HG5,Hd HONE5.out,HT2⟩
  ·have t:((x:Int)==0)=false:=by rw [beq_eq_false_iff_ne];omega
   have HIM:=Hd (show redirB (T.drop i)=true→0<m from fun h=>by
    rcases hIm with h9 | h9
    ·exact absurd h9.2 hx
    ·exact h9)
   have HX:=Hd hx;clear hx hIm;go_wp2_with fail;go_ret;exact⟨gd,la,m,lc,I,x,acc,rfl,hiI,hIT,hmI,HIM.out,HL.out,HONE.out,.inr ⟨HX.out,by rcases HT.out with ⟨_,h9,_⟩ | ⟨_,h9⟩;exact absurd h9 HX.out;exact h9⟩⟩
end Go.Proofs.YtiihpbccabeoeaaGreatDoor
