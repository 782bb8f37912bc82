/- The walk: a part. -/
import Derived.Test.YtiihpbccabeoeaaGreatDoorWPkQ
import Derived.Deep.AppendLies
import Derived.Test.YtiihpbccabeoeaaGreatDoorWPkF
namespace Go.Proofs.YtiihpbccabeoeaaGreatDoor
open Go.RowKit
set_option linter.unusedVariables false
set_option maxRecDepth 100000
set_option maxHeartbeats 16000000
def Q4 (w:World) (Lo B ps:Nat) (tv:Value) (n:Nat) (T:List Tk) (i:Nat) (res:PR (List Pt)) (e:Ending) (w':World):Prop:=match res with
 | .ok (wd,r)=>∃(a:OA) (c:Nat),e=.returned (.slice a wd.length c)∧aV w' (fun b=>Lo≤b∧b<B) n wd (.slice a wd.length c)∧i<T.length∧r=T.drop (i+1)∧QS w' Lo B ps tv n T (i+1) 0∧aB (fun b=>b=ps) w w'
 | .error y=>∃(a:OA) (m c j:Nat),e=.returned (.slice a m c)∧i≤j∧j≤i+1∧y≠0∧QS w' Lo B ps tv n T j y∧aB (fun b=>b=ps) w w'∧(j=i∨j≤T.length)∧∃wd:List Pt,m=wd.length∧aV w' (fun b=>Lo≤b∧b<B) n wd (.slice a m c)∧Sm wd
theorem Qr:Sm []:=⟨Nat.zero_le _,by simp [smL]⟩
theorem Il (K:Nat) (hscr:iP K) (w:World) (Lo B ps n i deep:Nat) (tv:Value) (T:List Tk) (hd:deep+1+K=41) (h:QS w Lo B ps tv n T i 0) :
 Calls Tryz.prog 185 #[.pointer (some ⟨ps,0,none⟩),.int .i64 (deep:Nat)] w (Q4 w Lo B ps tv n T i (eC (bC (aC K)) (T.drop i))):=by
 have hwf:eC (bC (aC K)) (T.drop i)=if t8 (T.drop i) then (match gI (bC (aC K)) (atF (T.drop i)).word with
  | .error e=>.error e
  | .ok _=>.ok ((atF (T.drop i)).word,(T.drop i).tail)) else .error 2:=rfl
 cases hw:t8 (T.drop i) with
 | false=>
  rw [hwf,hw,if_neg (by simp)];refine (Do w Lo B ps n i 0 deep tv T h hw).mono ?_;rintro e w' ⟨he,h2,hk⟩;rw [if_pos rfl] at h2;exact⟨none,0,0,i,he,Nat.le_refl _,by omega,by decide,h2,hk,.inl rfl,[],rfl,aV.nil _ _ _,Qr⟩
 | true=>
  rw [hwf,hw,if_pos rfl];have hi:i<T.length:=by
   rcases Nat.lt_or_ge i T.length with hi | hi
   ·exact hi
   ·unfold t8 at hw;rw [jK hi] at hw;cases hw
  have hsm:Sm (atF (T.drop i)).word:=by
   rw [iH hi];exact (h.sm.2 _ (List.getElem_mem hi)).2
  have htl:(T.drop i).tail=T.drop (i+1):=by rw [List.drop_eq_getElem_cons hi];rfl
  refine (E8 w Lo B ps n i 0 deep tv T h hw (fun y=>match gI (bC (aC K)) (atF (T.drop i)).word with | .ok _=>y=0 | .error z=>y=z∧z≠0) (fun w2 v h2 hp=>
   (E5 K deep hscr hd (n+1) n (Nat.lt_succ_self _) w2 Lo B ps tv n T i _ v h2 hp hsm).mono fun e w' ⟨y,a1,a2,a3,a4⟩=>⟨y,a1,a2,a3,a4⟩)).mono ?_
  rintro e w' ⟨_,y,hq,a,c,he,hp,h2,hk⟩;cases hs:gI (bC (aC K)) (atF (T.drop i)).word with
  | error z=>
   rw [hs] at hq;obtain⟨rfl,hz⟩:=hq;exact⟨a,_,c,i+1,he,by omega,Nat.le_refl _,hz,h2,hk,.inr hi,_,rfl,hp,hsm⟩
  | ok u=>
   rw [hs] at hq;obtain rfl:=hq;exact⟨a,c,he,hp,hi,htl,h2,hk⟩
def QTk (K:Nat) (w:World) (Lo B ps:Nat) (tv:Value) (n:Nat) (T:List Tk) (i:Nat) (e:Ending) (w':World):Prop:=
 ∃(wd:List Pt) (a:OA) (c j y:Nat),e=.returned (.slice a wd.length c)∧aV w' (fun b=>Lo≤b∧b<B) n wd (.slice a wd.length c)∧Sm wd∧i≤j∧(i≤T.length→j≤T.length)∧QS w' Lo B ps tv n T j y∧aB (fun b=>b=ps) w w'∧
  ((y=0∧j=i+1∧i<T.length∧eC (bC (aC K)) (T.drop i)=.ok (wd,T.drop (i+1)))∨(y≠0∧eC (bC (aC K)) (T.drop i)=.error y))
theorem kI (K:Nat) (hscr:iP K) (w:World) (Lo B ps n i deep:Nat) (tv:Value) (T:List Tk) (hd:deep+1+K=41) (h:QS w Lo B ps tv n T i 0) :
 Calls Tryz.prog 185 #[.pointer (some ⟨ps,0,none⟩),.int .i64 (deep:Nat)] w (QTk K w Lo B ps tv n T i):=by
 refine (Il K hscr w Lo B ps n i deep tv T hd h).mono ?_;intro e w' hp;cases hw:eC (bC (aC K)) (T.drop i) with
 | error y=>
  rw [hw] at hp;obtain⟨a,m,c,j,he,h1,h2,hy,hs,hk,h3,wd,rfl,hpt,hsm⟩:=hp;exact⟨wd,a,c,j,y,he,hpt,hsm,h1,fun h=>by omega,hs,hk,.inr ⟨hy,hw⟩⟩
 | ok p=>
  obtain⟨wd,r⟩:=p;rw [hw] at hp;obtain⟨a,c,he,hpt,hi,rfl,hs,hk⟩:=hp;have hsm:Sm wd:=by
   obtain⟨_,_,h3,_⟩:=zK hw;rw [h3,iH hi];exact (h.sm.2 _ (List.getElem_mem hi)).2
  exact⟨wd,a,c,i+1,0,he,hpt,hsm,by omega,fun _=>by omega,hs,hk,.inl ⟨rfl,rfl,hi,hw⟩⟩
def Qd (Lo B X:Nat) (b:Nat):Prop:=(Lo≤b∧b<B)∨X≤b
theorem iX {Lo B ps X b:Nat} (hB:B≤ps) (hc:ps<X) (hb:Qd Lo B X b):b≠ps:=by
 unfold Qd at hb;omega
theorem iK {w w':World} {S:Nat→Prop} {v:Value} {k n:Nat} {T:TypeId} {xs:List Value} (h:w.ownsRow 0 T k v n xs) (hk:aB S w w') (hv:∀g,v.ownBlock=some g→¬S g):w'.ownsRow 0 T k v n xs:=by
 refine⟨h.1,?_⟩;rcases h.2 with h0 | ⟨g,cap,cur,rfl,hb,hg,rest⟩
 ·exact .inl h0
 ·exact .inr ⟨g,cap,cur,rfl,hb,(hk.block g (Array.getElem?_eq_some_iff.1 hg).1 (hv g rfl)).trans hg,rest⟩
theorem eM {wr:World} {Lo B ps:Nat} {tv:Value} {n:Nat} {T:List Tk} {I x:Nat} (h:QS wr Lo B ps tv n T I x) (hI:I+1≤T.length+1000):QS (wr.setCell ⟨ps,1,none⟩ (.int .i64 ((I:Int)+1))) Lo B ps tv n T (I+1) x∧aB (fun b=>b=ps) wr (wr.setCell ⟨ps,1,none⟩ (.int .i64 ((I:Int)+1))):=by
 have h1:=h.set1 (j:=I+1) hI;rw [show ((I+1:Nat):Int)=(I:Int)+1 by omega] at h1;exact h1
structure QM (G:Prop) (w0 w:World) (Lo B ps:Nat) (tv:Value) (n:Nat) (T:List Tk) (X I x:Nat) (l:Value) (k:Nat) (Ty:TypeId) (m:Nat) (ds:List Dt):Prop where
 rs:QS w Lo B ps tv n T I x
 own:∃xs,(G→RdL w (fun b=>Qd Lo B X b∧l.ownBlock≠some b) ds xs)∧w.ownsRow 0 Ty k l m xs
 low:∀g,l.ownBlock=some g→X≤g
 kp:aB (fun b=>b=ps) w0 w
section
variable {G G':Prop} {w0 w w4:World} {Lo B ps:Nat} {tv:Value} {n:Nat} {T:List Tk} {X I J x y:Nat} {l:Value} {k:Nat} {Ty:TypeId} {m:Nat} {ds:List Dt}
theorem QM.weak (h:QM G w0 w Lo B ps tv n T X I x l k Ty m ds) (hG:G'→G):QM G' w0 w Lo B ps tv n T X I x l k Ty m ds:=by
 obtain⟨xs,h1,h2⟩:=h.own;exact⟨h.rs,⟨xs,fun g=>h1 (hG g),h2⟩,h.low,h.kp⟩
theorem QM.move (h:QM G w0 w Lo B ps tv n T X I x l k Ty m ds) (hc:ps<X) (hk:aB (fun b=>b=ps) w w4) (hrs:QS w4 Lo B ps tv n T J y):QM G w0 w4 Lo B ps tv n T X J y l k Ty m ds:=by
 have hps:=h.rs.ps;obtain⟨xs,h1,h2⟩:=h.own;exact⟨hrs,⟨xs,fun g=>(h1 g).keep hk (fun b _ hb e=>iX (X:=X) hps hc hb.1 e),iK h2 hk (fun g hg e=>by have:=h.low g hg;omega)⟩,h.low,h.kp.trans hk (fun _ _ e=>e)⟩
theorem QM.keep0 (h:QM G w0 w Lo B ps tv n T X I x l k Ty m ds) (hk:K0 w w4):QM G w0 w4 Lo B ps tv n T X I x l k Ty m ds:=by
 obtain⟨xs,h1,h2⟩:=h.own;exact⟨h.rs.keep0 hk,⟨xs,fun g=>(h1 g).keep hk (fun _ _ _ e=>e),iK h2 hk (fun _ _ e=>e)⟩,h.low,h.kp.trans hk (fun _ _ e=>e.elim)⟩
theorem QM.inc (h:QM G w0 w Lo B ps tv n T X I x l k Ty m ds) (hc:ps<X) (hI:I+1≤T.length+1000):QM G w0 (w.setCell ⟨ps,1,none⟩ (.int .i64 ((I:Int)+1))) Lo B ps tv n T X (I+1) x l k Ty m ds:=
 h.move hc (eM h.rs hI).2 (eM h.rs hI).1
theorem QM.more (h:QM G w0 w Lo B ps tv n T X I x l k Ty m ds) (hc:ps<X) (hX:X≤w.heap.size) (h0:w0.heap.size≤X) (hk:aB (fun b=>b=ps) w w4) (hrs:QS w4 Lo B ps tv n T J y) {d2:List Dt} {us:List Value} (hG:G'→G) (hx:G'→RdL w4 (Qd Lo B w.heap.size) d2 us) :
 ∃xs,w4.ownsRow 0 Ty k l m xs∧∀(gg m' cap:Nat) (w5 wo:World),w5.ownsRow 0 Ty k (.slice (some ⟨gg,0,none⟩) m' cap) m' (xs++us)→K0 w4 wo→wo.grownBy w5 l.ownBlock→(l.ownBlock=some gg∨w4.heap.size≤gg)→
  QM G' w0 w5 Lo B ps tv n T X J y (.slice (some ⟨gg,0,none⟩) m' cap) k Ty m' (ds++d2)∧aB (fun b=>l.ownBlock=some b) w4 w5:=by
 have h4:=h.move hc hk hrs;have hB:=hrs.ps;have hlow:=h4.low;have hsz4:=hk.size;obtain⟨xs,hr,ho⟩:=h4.own;have hlt:∀g,l.ownBlock=some g→g<w.heap.size:=fun g hg=>by
  obtain⟨xs0,_,ho0⟩:=h.own;exact (ho0.lt g hg).2
 refine⟨xs,ho,fun gg m' cap w5 wo hown hwo hgrow hat=>?_⟩;have hk5:aB (fun b=>l.ownBlock=some b) w4 w5:=(hwo.mono (fun _ _ h=>h.elim)).grown hgrow (fun k hk _=>hk);have hne:∀b,b<w4.heap.size→l.ownBlock≠some b→gg≠b:=fun b hb hv e=>by
  rcases hat with h9 | h9
  ·exact hv (by rw [h9,e])
  ·omega
 refine⟨?_,hk5⟩;refine⟨hrs.keep hk5 (fun b hb e=>by have:=hlow b e;omega) (fun e=>by have:=hlow ps e;omega),⟨xs++us,fun g=>?_,hown⟩,fun g hg=>?_,h4.kp.trans hk5 (fun b hb e=>by have:=hlow b e;omega)⟩
 ·have hx2:RdL w4 (fun b=>Qd Lo B X b∧l.ownBlock≠some b) d2 us:=(hx g).mono fun b _ hb=>by
   rcases hb with hb | hb
   ·exact⟨.inl hb,fun e=>by have:=hlow b e;omega⟩
   ·exact⟨.inr (by omega),fun e=>by have:=hlt b e;omega⟩
  have h1:=((hr (hG g)).app hx2).lt;exact (h1.keep hk5 (fun b _ hb e=>hb.1.2 e)).mono fun b _ hb=>⟨hb.1.1,fun e=>hne b hb.2 hb.1.2 (Option.some.inj e)⟩
 ·have hg2:gg=g:=Option.some.inj hg;rcases hat with h1 | h1
  ·exact hlow g (by rw [h1,hg2])
  ·omega
theorem QM.reads (h:QM G w0 w Lo B ps tv n T X I x l k Ty m ds) (g:G):Rd w (Qd Lo B X) (.sl k ds) l:=by
 obtain⟨xs,h1,h2⟩:=h.own;exact lD.reads (D:=fun b=>Qd Lo B X b) ⟨xs,h1 g,h2⟩ (fun g hg=>.inr (h.low g hg))
theorem QM.mlen (h:QM G w0 w Lo B ps tv n T X I x l k Ty m ds) (g:G):ds.length=m*k:=by
 obtain⟨xs,h1,h2⟩:=h.own;rw [←(h1 g).len];exact h2.1
end
theorem oU {w:World} {Lo B ps n i x:Nat} {tv:Value} {T:List Tk} (h:QS w Lo B ps tv n T i x) (b:Bool) (hb:bX (T.drop i)=b) (q:Nat) :
 Calls Tryz.prog 161 #[.pointer (some ⟨ps,0,none⟩)] (w.drewN q) fun e w'=>e=.returned (.bool b)∧∃q',w'=w.drewN q':=by
 subst hb;exact (qE (w.drewN q) Lo B ps n i x tv T (h.drewN q)).mono fun e w' ⟨h1,q',h2⟩=>⟨h1,q+q',by rw [h2,World.drewN_drewN]⟩
theorem Bi (w:World) (Lo B ps n i x deep:Nat) (tv:Value) (T:List Tk) (h:QS w Lo B ps tv n T i x) (hx:x≠0) :
 Calls Tryz.prog 164 #[.pointer (some ⟨ps,0,none⟩),.int .i64 (deep:Nat)] w fun e w'=>e=.returned (.slice none 0 0)∧w'=w:=by
 obtain⟨c0,c1,c2,f1,f2⟩:=h.cells;have hlt:=h.lt;have t:((x:Int)==0)=false:=by rw [beq_eq_false_iff_ne];omega
 clear h hx;go_enter Tryz.func164,Tryz.ntmps164;go_wp2_with fail;go_loopw [5] (fun l' wr=>l'=.slice none 0 0∧wr=w) (fun _ _=>0)
 case atStart=>exact⟨rfl,rfl⟩
 case round=>
  obtain⟨rfl,rfl⟩:=hrel;go_wp2_with fail;go_ret;exact⟨rfl,rfl⟩
theorem kB (scr:Bs→Except Nat Unit) (n:Nat) (acc:List Dt) (ts:List Tk):cN scr (n+1) acc ts=if bX ts then (match gZ scr ts with
 | .error e=>.error e
 | .ok (d,r)=>cN scr n (acc++d) r) else .ok (acc,ts):=rfl
theorem jZ {P:Program} {w:World} {ops:Array Oper} {o:Oper} {a:Act} {K:Act→World→Prop} {Q:Exit→Act→World→Prop} {E:Prop} (hgd:o.guard=none) (s x:Operand) (t:TypeId)
 (ho:o.op=.call { callee:=.builtin .append,args:=#[s,x],argTypes:=#[t,t] })
 (base:Nat) (e:TypeId) (i:TypeInfo) (z:Value) (size bytes:Nat) (ht:P.underlying t=some (.slice e)) (hi:P.info? e=some i) (hz:i.zero=some z)
 (hsize:i.size=size) (hby:i.bytes=bytes) (hzs:z.cells.size=size) (hsz:0<size)
 (v:Value) (n:Nat) (xs:List Value) (hs:a.eval s=v) (hown:w.ownsRow base e size v n xs)
 (ad:Addr) (m c:Nat) (news:List Value) (hx:a.eval x=.slice (some ad) m c) (hl:news.length=m*size) (hnews:∀j u,news[j]? = some u→w.cell? (ad.add j)=some u) (h1:∀u∈news,u.oneCell'=true)
 (h63:n+m≤maxLen) (hbytes:(n+m)*bytes≤140737488355328) (hbase:base≤w.heap.size)
 (h:∀va vc w',w'.ownsRow base e size (.slice va (n+m) vc) (n+m) (xs++news)→w.grownBy w' v.ownBlock→((Value.slice va (n+m) vc).ownBlock=v.ownBlock∨(Value.slice va (n+m) vc).ownBlock=some w.heap.size)→K (a.put o.dst (.slice va (n+m) vc)) w') :
 if Region.wanted o (yielded ops a.tmps)=true then Oper.wp P o a w K Q else E:=by
 have hw:Region.wanted o (yielded ops a.tmps)=true:=by simp [Region.wanted,hgd]
 rw [if_pos hw];obtain⟨v',w',hr,h2,h3,_,h5⟩:=run_append_own_at (P:=P) w base t o.type e i z size bytes ht hi hz hsize hby hzs hsz v n xs hown ad m c news hl hnews h1 h63 hbytes hbase;obtain⟨va,vc,rfl⟩:∃va vc,v'=.slice va (n+m) vc:=by
  rcases h2.2 with ⟨rfl,h0⟩ | ⟨g,cap,cur,rfl,_⟩
  ·exact⟨none,0,by rw [h0]⟩
  ·exact⟨_,cap,rfl⟩
 unfold Oper.wp execOp;simp only [ho,resolve,invoke,builtin,Sem.run_bind,Sem.run_pure,Result.andThen_ok,List.map_toArray,List.map_cons,List.map_nil,hs,hx,hr];exact h va vc w' h2 h3 h5
def Eh (w:World) (v:Value) (m:Nat):Prop:=∃xs,w.ownsRow 0 86 2 v m xs∧∀u∈xs,u.oneCell'=true
theorem yW {w:World} {e:TypeId} {k n:Nat} {v:Value} {xs ys:List Value} (h:w.ownsRow 0 e k v n xs) (h':w.ownsRow 0 e k v n ys):xs=ys:=by
 rcases h.2 with ⟨e1,h0⟩ | ⟨g,cap,cur,e1,hb,hg,h1,h2,h3,h4⟩
 ·have a:=h.1;have b:=h'.1;rw [h0,Nat.zero_mul] at a b;rw [List.eq_nil_of_length_eq_zero a,List.eq_nil_of_length_eq_zero b]
 ·rcases h'.2 with ⟨e2,_⟩ | ⟨g',cap',cur',e2,hb',hg',h1',h2',h3',h4'⟩
  ·rw [e1] at e2;cases e2
  ·rw [e1] at e2;injection e2 with e3;injection e3 with e3;injection e3 with e3;subst e3;rw [hg] at hg';injection hg' with hg';injection hg' with hg';subst hg';rw [←h4,←h4']
def Qs (w:World) (Lo B ps:Nat) (tv:Value) (n:Nat) (T:List Tk) (i:Nat) (res:PR (List Dt)) (e:Ending) (w':World):Prop:=
 ∃(gd:Prop) (a:OA) (m c j x:Nat) (ds:List Dt),e=.returned (.slice a m c)∧i≤j∧j≤T.length∧m≤j∧(bX (T.drop i)=true→0<m)∧QM gd w w' Lo B ps tv n T w.heap.size j x (.slice a m c) 2 86 m ds∧Eh w' (.slice a m c) m∧((gd∧x=0∧res=.ok (ds,T.drop j))∨(x≠0∧res=.error x))
theorem tT (K:Nat) (hscr:iP K) (w:World) (Lo B ps n i deep:Nat) (tv:Value) (T:List Tk) (hd:deep+1+K=41) (h:QS w Lo B ps tv n T i 0) (hi:i≤T.length) :
 Calls Tryz.prog 164 #[.pointer (some ⟨ps,0,none⟩),.int .i64 (deep:Nat)] w (Qs w Lo B ps tv n T i (cN (bC (aC K)) ((T.drop i).length+1) [] (T.drop i))):=by
 obtain⟨res,hres⟩:∃res,res=cN (bC (aC K)) ((T.drop i).length+1) [] (T.drop i):=⟨_,rfl⟩;rw [←hres];rw [List.length_drop] at hres;have hc3:=fW;have hcr:Tryz.prog.cellsOf 86=2:=by kernel_rfl
 have hinf:(Tryz.prog.info? 86).map (fun i=>(i.zero,i.size,i.bytes))=some (some (.agg #[.string ⟨#[]⟩,.slice none 0 0]),2,40):=by kernel_rfl
 obtain⟨i0,hi0,hz0,hz1,hz2⟩:=info_parts hinf;have HSCR:=Hd hscr;have HD:=Hd hd;have HPS:=Hd h.lt;have HS0:=Hd (show QM True w w Lo B ps tv n T w.heap.size i 0 (.slice none 0 0) 2 86 0 [] from⟨h,⟨[],fun _=>trivial,World.ownsRow_nil _ _ _ _⟩,fun g hg=>(by cases hg),aB.refl _ _⟩);have HRES:=Hd hres;have hmT:T.length≤20000:=h.sm.1;clear hinf hscr hd h hres;go_enter Tryz.func164,Tryz.ntmps164;go_wp2_with fail
 go_loopg [5] (T.length+2000 - i) (fun g l' wr=>∃(gd:Prop) (la:OA) (m lc I x:Nat) (acc:List Dt),l'=.slice la m lc∧g=T.length+2000 - I∧i≤I∧I≤T.length∧m≤I∧((I=i∧x=0)∨0<m)∧Hid (QM gd w wr Lo B ps tv n T w.heap.size I x (.slice la m lc) 2 86 m acc)∧Hid (Eh wr (.slice la m lc) m)∧Hid ((gd∧x=0∧∃M,T.length - I+1≤M∧res=cN (bC (aC K)) M acc (T.drop I))∨(x≠0∧res=.error x)))
 case atStart=>exact⟨True,none,0,0,i,0,[],rfl,rfl,Nat.le_refl _,hi,Nat.zero_le _,.inl ⟨rfl,rfl⟩,HS0,Hd ⟨[],World.ownsRow_nil _ _ _ _,fun u h=>by cases h⟩,Hd (.inl ⟨trivial,rfl,_,Nat.le_refl _,HRES.o⟩)⟩
 case round=>
  clear HS0 HRES;obtain⟨gd,la,m,lc,I,x,acc,rfl,hgk,hiI,hIT,hmI,hIm,HL,HONE,HT⟩:=hrel;have HGK:=Hd hgk;clear hgk;obtain⟨c0,c1,c2,f1,f2⟩:=HL.o.rs.cells;have hlt:=HL.o.rs.lt;by_cases hx:x=0
  ·subst hx;obtain⟨g,M,hM,hr⟩:gd∧∃M,T.length - I+1≤M∧res=cN (bC (aC K)) M acc (T.drop I):=by
    rcases HT.o with ⟨g,_,h9⟩ | ⟨h9,_⟩
    ·exact⟨g,h9⟩
    ·exact absurd rfl h9
   obtain⟨M,rfl⟩:∃M',M=M'+1:=⟨M - 1,by omega⟩;have HG0:=Hd g;rw [kB] at hr;clear g HT;cases hq:bX (T.drop I) with
   | false=>
    rw [hq,if_neg (by simp)] at hr;have HR:=Hd hr;have HQ:=Hd (oU HL.o.rs false hq 0);have HIM:=Hd (show bX (T.drop i)=true→0<m from fun h=>by
     rcases hIm with h9 | h9
     ·rw [h9.1,h] at hq;cases hq
     ·exact h9)
    clear hq hr hIm;go_wp2_with fail;refine HQ.o.mono ?_;rintro e w1 ⟨rfl,q,rfl⟩;go_wp2_with fail;go_ret;exact⟨gd,la,m,lc,I,0,acc,rfl,hiI,hIT,hmI,HIM.o,HL.o.keep0 ((aB.refl _ _).drewN q),(by obtain⟨xs,h1,h2⟩:=HONE.o;exact⟨xs,iK h1 ((aB.refl (fun _=>False) _).drewN q) k3,h2⟩),.inl ⟨HG0.o,rfl,HR.o⟩⟩
   | true=>
    rw [hq,if_pos rfl] at hr;have hIl:=(show I<T.length from by have:=sB hq;rw [List.length_drop] at this;omega);have HQ:=Hd (oU HL.o.rs true hq 0);obtain⟨ta,tc,rfl,ht1,ht2⟩:=HL.o.rs.shape;obtain⟨g,o,xa,xl,xc,rfl,⟨q0,q1,q2⟩,hx,hg⟩:=HL.o.rs.toks.at (aB.refl _ _) hIl;unfold e8 at q1;have hat:=iH hIl;obtain⟨tx,htx⟩:∃tx,tx=T[I].text:=⟨_,rfl⟩;rw [←htx] at q1;have hred:res=match eC (bC (aC K)) (T.drop (I+1)) with
     | .error e=>.error e
     | .ok (wd,r)=>cN (bC (aC K)) M (acc++[.str tx,bG wd]) r:=by
     rw [hr];unfold gZ;rw [aS,hat,←htx];cases eC (bC (aC K)) (T.drop (I+1))<;>rfl
    have HRED:=Hd hred;obtain⟨K0,hK0⟩:∃K0,K0=T.length:=⟨_,rfl⟩;rw [←hK0] at c0;have p1:(I:Int)<(K0:Int):=by omega
    have hsum:IntKind.i64.wrap ((I:Int)+1)=(I:Int)+1:=IntWalk.i64_in _ (by omega);have HSET:=Hd (fun q=>eM (HL.o.rs.drewN q) (by omega));clear hq hx q0 q2 hat htx hred hK0 ht1 ht2 hr;go_wp2_with fail;refine HQ.o.mono ?_;rintro e w1 ⟨rfl,q,rfl⟩;go_wp2_with fail;go_quiet (fail);go_wp2_with fail;have hset:=HSET.o (q+nq);obtain⟨W,hW⟩:∃W,W=(wr.drewN (q+nq)).setCell ⟨ps,1,none⟩ (.int .i64 ((I:Int)+1)):=⟨_,rfl⟩
    have HSW:=Hd (show QS W Lo B ps _ n T (I+1) 0 by rw [hW];exact hset.1);have HKW:=Hd (show aB (fun b=>b=ps) wr W by rw [hW];exact ((aB.refl (fun b=>b=ps) wr).drewN _).trans hset.2 k3);rw [←hW];clear hset hW;refine (kI K HSCR.o W Lo B ps n (I+1) deep _ T HD.o HSW.o).mono ?_;rintro e w4 ⟨wd,xa2,xc2,j,y,rfl,hpt,hsm,hj1,hj2,hs4,hk4,hor⟩;obtain⟨gd2,HT2⟩:∃gd2:Prop,Hid ((gd2∧y=0∧∃M,T.length - j+1≤M∧res=cN (bC (aC K)) M (acc++[.str tx,bG wd]) (T.drop j))∨(y≠0∧res=.error y)):=by
     rcases hor with ⟨rfl,rfl,hi2,hw⟩ | ⟨hy,hw⟩
     ·exact⟨True,Hd (.inl ⟨trivial,rfl,M,by omega,by rw [HRED.o,hw]⟩)⟩
     ·exact⟨False,Hd (.inr ⟨hy,by rw [HRED.o,hw]⟩)⟩
    obtain⟨xs,hown4,hF⟩:=HL.o.more (G':=gd2) HPS.o HL.o.kp.size (Nat.le_refl _) (HKW.o.trans hk4 k3) hs4 (d2:=[.str tx,bG wd]) (us:=[.string ⟨tx.toArray⟩,.slice xa2 wd.length xc2]) (fun _=>HG0.o) (fun _=>⟨.str _,(nC hpt).mono (fun b _ hb=>.inl hb),trivial⟩);have HONE4:=Hd (show ∀u∈xs,u.oneCell'=true from by
     obtain⟨ys,h1,h2⟩:=HONE.o;have h3:=iK h1 (HKW.o.trans hk4 k3) (fun g hg e=>by have:=HL.o.low g hg;have:=HPS.o;omega);rw [yW hown4 h3];exact h2)
    obtain⟨wl,hwl⟩:∃wl,wl=wd.length:=⟨_,rfl⟩;rw [←hwl] at hF;rw [←hwl];have HF:=Hd hF;have HJ:=Hd (show I+1≤j∧j≤T.length from⟨hj1,hj2 (by omega)⟩);clear hF hs4 hk4 hpt hsm hor hwl hj1 hj2;go_wp2_with (at_builtin;refine wpList_append_lies _ rfl (.tmp 38) (.tmp 42) _ rfl 0 86 i0 _ 2 40 Tryz.underlying41 hi0 hz0 hz1 hz2 rfl (by omega) (.slice la m lc) m xs rfl (hown4.alloc _) ⟨w4.heap.size,0,none⟩ 1 1 [.string ⟨tx.toArray⟩,.slice xa2 wl xc2] rfl rfl (World.news_of_block (cs:=#[.string ⟨tx.toArray⟩,.slice xa2 wl xc2]) (t:=86) (fr:=(0,0)) (heap_alloc_new w4 _)) (by simp [Value.oneCell']) (by omega) (by unfold maxLen;omega) (by omega) (by simp) (w4.heap.size+1) (by simp) ?_;intro gg cap w5 hown2 hgrow hat hlt5;have hG5:=HF.o gg (m+1) cap w5 _ hown2 ((aB.refl _ _).alloc _) hgrow (hat.imp id (fun h=>by omega));have HG5:=Hd hG5.1;clear hG5;have HONE5:=Hd (show Eh w5 (.slice (some ⟨gg,0,none⟩) (m+1) cap) (m+1) from⟨_,hown2,fun u hu=>by rcases List.mem_append.1 hu with h | h;exact HONE4.o u h;rcases List.mem_cons.1 h with rfl | h;rfl;rcases List.mem_cons.1 h with rfl | h;rfl;cases h⟩);clear hown2 hgrow hat)
    go_roundg (T.length+2000 - j)
    case measure=>have:=HGK.o;have:=HJ.o;omega
    case rel=>exact⟨gd2,_,m+1,cap,j,y,acc++[.str tx,bG wd],rfl,rfl,by have:=HJ.o;omega,HJ.o.2,by have:=HJ.o;omega,.inr (by omega),HG5,Hd HONE5.o,HT2⟩
  ·have t:((x:Int)==0)=false:=by rw [beq_eq_false_iff_ne];omega
   have HIM:=Hd (show bX (T.drop i)=true→0<m from fun h=>by
    rcases hIm with h9 | h9
    ·exact absurd h9.2 hx
    ·exact h9)
   have HX:=Hd hx;clear hx hIm;go_wp2_with fail;go_ret;exact⟨gd,la,m,lc,I,x,acc,rfl,hiI,hIT,hmI,HIM.o,HL.o,HONE.o,.inr ⟨HX.o,by rcases HT.o with ⟨_,h9,_⟩ | ⟨_,h9⟩;exact absurd h9 HX.o;exact h9⟩⟩
structure NV where
 k:Int
 nt:Bool
 nm:ByteArray
 a0:OA
 n0:Nat
 c0:Nat
 a1:OA
 n1:Nat
 c1:Nat
 a2:OA
 n2:Nat
 c2:Nat
 a3:OA
 n3:Nat
 c3:Nat
 a4:OA
 n4:Nat
 c4:Nat
def NV.vals (v:NV):List Value:=[.int .i64 v.k,.bool v.nt,.string v.nm,.slice v.a0 v.n0 v.c0,.slice v.a1 v.n1 v.c1,.slice v.a2 v.n2 v.c2,.slice v.a3 v.n3 v.c3,.slice v.a4 v.n4 v.c4]
def NV.val (v:NV):Value:=.agg #[.int .i64 v.k,.bool v.nt,.string v.nm,.slice v.a0 v.n0 v.c0,.slice v.a1 v.n1 v.c1,.slice v.a2 v.n2 v.c2,.slice v.a3 v.n3 v.c3,.slice v.a4 v.n4 v.c4]
def QF (cl:Bool) (w:World) (D:Nat→Prop) (T:List Tk) (res:PR (List Dt)) (us:List Value) (j x:Nat):Prop:=match res with
 | .ok (ds,r)=>(x=0∧NdD ds∧RdL w D ds us∧T.drop j=r∧j≤T.length)∨(cl=true∧cZ r=false∧(x=2∨(x=0∧aG [40] (T.drop j)=true)))
 | .error y=>(x=y∧y≠0)∨(y=2∧x=0∧aG [40] (T.drop j)=true)
section
variable {cl:Bool} {w:World} {D:Nat→Prop} {T:List Tk} {res:PR (List Dt)} {us:List Value} {j x:Nat} {β:Type}
theorem QF.err (hx:x≠0) (hr:res=.error x):QF cl w D T res us j x:=by subst hr;exact .inl ⟨rfl,hx⟩
theorem QF.stk (h:aG [40] (T.drop j)=true) (hx:x=0) (hr:res=.error 2):QF cl w D T res us j x:=by subst hr hx;exact .inr ⟨rfl,rfl,h⟩
theorem QF.good {ds:List Dt} {r:List Tk} (hr:res=.ok (ds,r)) (hx:x=0) (hn:NdD ds) (h:RdL w D ds us) (hd:T.drop j=r) (hj:j≤T.length):QF cl w D T res us j x:=by subst hr;exact .inl ⟨hx,hn,h,hd,hj⟩
theorem QF.split (h:QF cl w D T res us j x) (f:PR (List Dt)→PR β) (he:∀e,f (.error e)=.error e) (hc:cl=true→∀ds r,cZ r=false→f (.ok (ds,r))=.error 2) :
 (∃ds r,res=.ok (ds,r)∧x=0∧NdD ds∧RdL w D ds us∧T.drop j=r∧j≤T.length)∨(x≠0∧f res=.error x)∨(x=0∧aG [40] (T.drop j)=true∧f res=.error 2):=by
 cases res with
 | error y=>
  rcases h with ⟨rfl,hy⟩ | ⟨rfl,hx,ho⟩
  ·exact .inr (.inl ⟨hy,he _⟩)
  ·exact .inr (.inr ⟨hx,ho,he _⟩)
 | ok p=>
  obtain⟨ds,r⟩:=p;rcases h with ⟨hx,hn,hr,hd,hj⟩ | ⟨hcl,hr,rfl | ⟨hx,ho⟩⟩
  ·exact .inl ⟨ds,r,rfl,hx,hn,hr,hd,hj⟩
  ·exact .inr (.inl ⟨by decide,hc hcl ds r hr⟩)
  ·exact .inr (.inr ⟨hx,ho,hc hcl ds r hr⟩)
def QSt (gd good:Prop) (T:List Tk) (j x:Nat) (res:PR β):Prop:=(gd∧x=0∧j≤T.length∧good)∨(x≠0∧res=.error x)∨(x=0∧aG [40] (T.drop j)=true∧res=.error 2)
theorem QF.state {res2:PR β} (h:QF cl w D T res us j x) (f:PR (List Dt)→PR β) (he:∀e,f (.error e)=.error e) (hc:cl=true→∀ds r,cZ r=false→f (.ok (ds,r))=.error 2) (h2:res2=f res) :
 ∃(gd:Prop) (ds:List Dt),(gd→NdD ds∧RdL w D ds us)∧QSt gd (res2=f (.ok (ds,T.drop j))) T j x res2:=by
 rcases h.split f he hc with ⟨ds,r,hr,hx,hn,hd,hj,hl⟩ | ⟨hx,hr⟩ | ⟨hx,ho,hr⟩
 ·exact⟨True,ds,fun _=>⟨hn,hd⟩,.inl ⟨trivial,hx,hl,by rw [h2,hr,hj]⟩⟩
 ·exact⟨False,[],fun h=>h.elim,.inr (.inl ⟨hx,by rw [h2,hr]⟩)⟩
 ·exact⟨False,[],fun h=>h.elim,.inr (.inr ⟨hx,ho,by rw [h2,hr]⟩)⟩
theorem QSt.fin {gd good:Prop} {ds:List Dt} (h:QSt gd good T j x res) (hr:gd→good→res=.ok (ds,T.drop j)) (hd:gd→good→NdD ds∧RdL w D ds us):QF cl w D T res us j x:=by
 rcases h with ⟨hg,hx,hj,hgd⟩ | ⟨hx,hr⟩ | ⟨hx,ho,hr⟩
 ·exact QF.good (hr hg hgd) hx (hd hg hgd).1 (hd hg hgd).2 rfl hj
 ·exact QF.err hx hr
 ·exact QF.stk ho hx hr
theorem QSt.map {gd good good2:Prop} {res2:PR β} (h:QSt gd good T j x res2) (f:gd→good→good2):QSt gd good2 T j x res2:=by
 rcases h with ⟨hg,hx,hj,hgd⟩ | h | h
 ·exact .inl ⟨hg,hx,hj,f hg hgd⟩
 ·exact .inr (.inl h)
 ·exact .inr (.inr h)
end
def iJ (w:World) (Lo B ps:Nat) (tv:Value) (n:Nat) (T:List Tk) (i b:Nat) (cl:Bool) (res:PR (List Dt)) (e:Ending) (w':World):Prop:=
 ∃(v:NV) (j x:Nat),e=.returned (.agg #[.int .i64 v.k,.bool v.nt,.string v.nm,.slice v.a0 v.n0 v.c0,.slice v.a1 v.n1 v.c1,.slice v.a2 v.n2 v.c2,.slice v.a3 v.n3 v.c3,.slice v.a4 v.n4 v.c4])∧i≤j∧j≤T.length+b∧QS w' Lo B ps tv n T j x∧aB (fun b=>b=ps) w w'∧QF cl w' (Qd Lo B w.heap.size) T res v.vals j x
theorem bQ {T:List Tk} {i:Nat} (h:1≤(T.drop i).length):i<T.length:=by
 rw [List.length_drop] at h;omega
def eU (K:Nat):Prop:=∀(w:World) (Lo B ps n i deep:Nat) (tv:Value) (T:List Tk),QS w Lo B ps tv n T i 0→i≤T.length→deep+K=41→
 Calls Tryz.prog 142 #[.pointer (some ⟨ps,0,none⟩),.int .i64 (deep:Nat)] w (iJ w Lo B ps tv n T i (2*K) false (aC K (T.drop i)))
theorem lH {ts:List Tk} (h:aG [40] ts=true) (s:Bs) (hs:s≠[40]):aG s ts=false:=by
 unfold aG at h ⊢;rw [Bool.and_eq_true] at h;rw [h.1,Bool.true_and,beq_iff_eq.1 h.2,beq_eq_false_iff_ne];exact fun e=>hs e.symm
theorem wK {ts:List Tk} {s:Bs} (h:aG s ts=true):aR (atF ts)=[]:=by
 unfold aG at h;rw [Bool.and_eq_true] at h;exact fZ (by rw [beq_iff_eq.1 h.1];rfl)
theorem tK {ts:List Tk} (h:cZ ts=true):d9 ts=false:=by
 unfold cZ at h;simp only [Bool.or_eq_true] at h;rcases h with ((h | h) | h) | h
 ·rw [List.isEmpty_iff] at h;subst h;rfl
 ·have hp:=wK h;unfold d9 bA aT bX;unfold aG at h ⊢;rw [Bool.and_eq_true] at h;rw [hp,beq_iff_eq.1 h.1,beq_iff_eq.1 h.2];decide
 ·have hp:=wK h;unfold d9 bA aT bX;unfold aG at h ⊢;rw [Bool.and_eq_true] at h;rw [hp,beq_iff_eq.1 h.1,beq_iff_eq.1 h.2];decide
 ·have hk:((atF ts).kind==1)=true:=by
   cases hk:((atF ts).kind==1) with
   | true=>rfl
   | false=>rw [fZ hk] at h;exact absurd h (by decide)
  unfold d9 bA aT;rw [hk];generalize aR (atF ts)=s at h ⊢;rw [List.contains_iff_mem] at h;simp only [kA,List.mem_cons,List.not_mem_nil,or_false] at h;rw [if_pos rfl];rcases h with h | h | h | h | h | h | h | h<;>subst h<;>rfl
theorem Lp (K:Nat) {ts:List Tk} (h:bA ts=false):aC K ts=.error 2:=by
 cases K with
 | zero=>show (if bA ts=true then _ else _)=_;rw [h];rfl
 | succ K=>show (if bA ts=true then _ else _)=_;rw [h];rfl
theorem Hk (K:Nat) {ts:List Tk} (h:d9 ts=false):bM (aC K) ts=.error 2:=by
 unfold d9 at h;rw [Bool.or_eq_false_iff] at h;unfold bM;rw [h.2,if_neg (by simp),Lp K h.1]
theorem wQ (K:Nat) {ts:List Tk} (h:d9 ts=false):eN (aC K) ts=.error 2:=by
 unfold eN;rw [Hk K h]
theorem qF:∀ts:List Tk,aF (aF ts)=aF ts
 | []=>rfl
 | t::r=>by
  by_cases h:(t.kind==2 && t.text==[10])=true
  ·have e:aF (t::r)=aF r:=if_pos h;rw [e,qF r]
  ·have e:aF (t::r)=t::r:=if_neg h;rw [e,e]
theorem I7 (K:Nat) {ts:List Tk} (h:d9 (aF ts)=false):cU (aC K) ts=.error 2:=by
 unfold cU sC;rw [wQ K h]
section
variable {scr:Bs→Except Nat Unit}
theorem f6 (n:Nat) (ws gz rs:List Dt) (ts:List Tk):bL scr (n+1) ws gz rs ts=if bX ts then (match gZ scr ts with
 | .error e=>.error e
 | .ok (d,r)=>bL scr n ws gz (rs++d) r)
 else if (atF ts).kind==1 then (match eC scr ts with
  | .error e=>.error e
  | .ok (w,r)=>match (if ws.isEmpty then c8 w else none) with
   | some (nm,v)=>bL scr n ws (gz++[.str nm,bG v]) rs r
   | none=>bL scr n (ws++[bG w]) gz rs r)
 else .ok (ndR 1 false [] ws gz rs [] [],ts):=rfl
theorem j9:∀(n m:Nat) (ws gz rs:List Dt) (ts:List Tk),ts.length<n→ts.length<m→bL scr n ws gz rs ts=bL scr m ws gz rs ts
 | 0,m,ws,gz,rs,ts,h,_=>absurd h (Nat.not_lt_zero _)
 | n+1,0,ws,gz,rs,ts,_,h=>absurd h (Nat.not_lt_zero _)
 | n+1,m+1,ws,gz,rs,ts,h1,h2=>by
  rw [f6,f6];by_cases hr:bX ts=true
  ·rw [if_pos hr,if_pos hr];cases hd:gZ scr ts with
   | error e=>rfl
   | ok p=>
    obtain⟨d,r⟩:=p;have:=kU hd;exact j9 n m ws gz (rs++d) r (by omega) (by omega)
  ·rw [if_neg hr,if_neg hr];by_cases hk:((atF ts).kind==1)=true
   ·rw [if_pos hk,if_pos hk];cases hw:eC scr ts with
    | error e=>rfl
    | ok p=>
     obtain⟨wd,r⟩:=p;have:=k4 hw;dsimp only;cases (if ws.isEmpty=true then c8 wd else none) with
     | none=>exact j9 n m (ws++[bG wd]) gz rs r (by omega) (by omega)
     | some q=>exact j9 n m ws (gz++[.str q.1,bG q.2]) rs r (by omega) (by omega)
   ·rw [if_neg hk,if_neg hk]
theorem nW:∀(n:Nat) (M:Nat) (acc ws gz rs:List Dt) (ts:List Tk),ts.length<n→ts.length<M→
 bL scr M ws gz (rs++acc) ts=match cN scr n acc ts with
  | .error e=>.error e
  | .ok (ds,r)=>bL scr (r.length+1) ws gz (rs++ds) r
 | 0,M,acc,ws,gz,rs,ts,h,_=>absurd h (Nat.not_lt_zero _)
 | n+1,0,acc,ws,gz,rs,ts,_,h=>absurd h (Nat.not_lt_zero _)
 | n+1,M+1,acc,ws,gz,rs,ts,h1,h2=>by
  rw [kB];by_cases hr:bX ts=true
  ·rw [f6,if_pos hr,if_pos hr];cases hd:gZ scr ts with
   | error e=>rfl
   | ok p=>
    obtain⟨d,r⟩:=p;have:=kU hd;dsimp only;rw [aA];exact nW n M (acc++d) ws gz rs r (by omega) (by omega)
  ·rw [if_neg hr];exact j9 _ _ _ _ _ _ h2 (Nat.lt_succ_self _)
theorem Aa {ts:List Tk} (hn:bO (aR (atF ts))=true) (ho:iQ ts=true) (hw:t8 ts=true) (hsub:gI scr (atF ts).word=.ok ()) (ha:c8 (atF ts).word=none):bL scr (ts.length+1) [] [] [] ts=.ok (ndR 1 false [] [bG (atF ts).word] [] [] [] [],ts.tail):=by
 have hk:((atF ts).kind==1)=true:=by unfold t8 at hw;rw [Bool.and_eq_true] at hw;exact hw.1
 have hr:bX ts=false:=by unfold bX;rw [beq_iff_eq.1 hk];rfl
 have hwf:eC scr ts=.ok ((atF ts).word,ts.tail):=by
  unfold eC;unfold t8 at hw;rw [hw,if_pos rfl,hsub]
 have hl:=nR hk;rw [f6,hr,if_neg (by simp),hk,if_pos rfl,hwf];dsimp only;rw [show (if ([]:List Dt).isEmpty=true then c8 (atF ts).word else none)=none from ha];dsimp only;obtain⟨M,hM⟩:∃M,ts.length=M+1:=⟨ts.length - 1,by omega⟩;unfold iQ at ho;have hr2:bX ts.tail=false:=by
  have h2:=ho;unfold aG at h2;rw [Bool.and_eq_true] at h2;unfold bX;rw [h2.1,beq_iff_eq.1 h2.2];decide
 have hk2:((atF ts.tail).kind==1)=false:=by
  unfold aG at ho;rw [Bool.and_eq_true] at ho;rw [beq_iff_eq.1 ho.1];rfl
 rw [hM,f6,hr2,if_neg (by simp),hk2,if_neg (by simp)];rfl
end
structure QR (E:Nat→Prop) (G:Prop) (w wr:World) (Lo B ps:Nat) (tv:Value) (n:Nat) (T:List Tk) (X N:Nat) (Z:List Value) (pre post:List Dt) (vpre vpost:List Value) (k:Nat) (Ty:TypeId) (I x m:Nat) (la:OA) (lc:Nat) (ds:List Dt):Prop where
 rs:QS wr Lo B ps tv n T I x
 kp:aB (fun b=>b=ps) w wr
 zr:aH wr w.heap.size Z
 rc:aH wr N (vpre++.slice la m lc::vpost)
 own:∃xs,(G→RdL wr (fun b=>(Qd Lo B X b∧b≠N)∧(Value.slice la m lc).ownBlock≠some b) ds xs)∧wr.ownsRow 0 Ty k (.slice la m lc) m xs
 low:∀g,(Value.slice la m lc).ownBlock=some g→X≤g∧g≠N
 ex:∀g,(Value.slice la m lc).ownBlock=some g→¬E g
 pr:G→RdL wr (fun b=>(Qd Lo B X b∧b≠N)∧(Value.slice la m lc).ownBlock≠some b) pre vpre
 po:G→RdL wr (fun b=>(Qd Lo B X b∧b≠N)∧(Value.slice la m lc).ownBlock≠some b) post vpost
section
variable {E:Nat→Prop} {G G':Prop} {w wr w4:World} {Lo B ps:Nat} {tv:Value} {n:Nat} {T:List Tk} {X N:Nat} {Z:List Value} {pre post:List Dt} {vpre vpost:List Value} {k:Nat} {Ty:TypeId} {I J x y m:Nat} {la:OA} {lc:Nat} {ds:List Dt}
theorem QR.weak (h:QR E G w wr Lo B ps tv n T X N Z pre post vpre vpost k Ty I x m la lc ds) (hG:G'→G):QR E G' w wr Lo B ps tv n T X N Z pre post vpre vpost k Ty I x m la lc ds:=by
 obtain⟨xs,h1,h2⟩:=h.own;exact⟨h.rs,h.kp,h.zr,h.rc,⟨xs,fun g=>h1 (hG g),h2⟩,h.low,h.ex,fun g=>h.pr (hG g),fun g=>h.po (hG g)⟩
theorem QR.move (h:QR E G w wr Lo B ps tv n T X N Z pre post vpre vpost k Ty I x m la lc ds) (hc:ps<w.heap.size) (hX:w.heap.size<X) (hN:w.heap.size<N) (hk:aB (fun b=>b=ps) wr w4) (hrs:QS w4 Lo B ps tv n T J y) :
 QR E G w w4 Lo B ps tv n T X N Z pre post vpre vpost k Ty J y m la lc ds:=by
 have hB:=hrs.ps;have key:∀{dd:List Dt} {vv:List Value},RdL wr (fun b=>(Qd Lo B X b∧b≠N)∧(Value.slice la m lc).ownBlock≠some b) dd vv→RdL w4 (fun b=>(Qd Lo B X b∧b≠N)∧(Value.slice la m lc).ownBlock≠some b) dd vv:=fun hh=>
  hh.keep hk (fun b _ hb e=>iX (X:=X) hB (by omega) hb.1.1 e)
 obtain⟨xs,h1,h2⟩:=h.own;exact⟨hrs,h.kp.trans hk (fun _ _ e=>e),h.zr.keep hk (fun e=>by omega),h.rc.keep hk (fun e=>by omega),⟨xs,fun g=>key (h1 g),iK h2 hk (fun g hg e=>by have:=h.low g hg;omega)⟩,h.low,h.ex,fun g=>key (h.pr g),fun g=>key (h.po g)⟩
theorem QR.keep0 (h:QR E G w wr Lo B ps tv n T X N Z pre post vpre vpost k Ty I x m la lc ds) (hk:K0 wr w4) :
 QR E G w w4 Lo B ps tv n T X N Z pre post vpre vpost k Ty I x m la lc ds:=by
 obtain⟨xs,h1,h2⟩:=h.own;exact⟨h.rs.keep0 hk,h.kp.trans hk (fun _ _ e=>e.elim),h.zr.keep hk (fun e=>e),h.rc.keep hk (fun e=>e),⟨xs,fun g=>(h1 g).keep hk (fun _ _ _ e=>e),iK h2 hk (fun _ _ e=>e)⟩,h.low,h.ex,
  fun g=>(h.pr g).keep hk (fun b _ _ e=>e),fun g=>(h.po g).keep hk (fun b _ _ e=>e)⟩
theorem QR.inc (h:QR E G w wr Lo B ps tv n T X N Z pre post vpre vpost k Ty I x m la lc ds) (hc:ps<w.heap.size) (hX:w.heap.size<X) (hN:w.heap.size<N) (hI:I+1≤T.length+1000) :
 QR E G w (wr.setCell ⟨ps,1,none⟩ (.int .i64 ((I:Int)+1))) Lo B ps tv n T X N Z pre post vpre vpost k Ty (I+1) x m la lc ds:=
 h.move hc hX hN (eM h.rs hI).2 (eM h.rs hI).1
theorem QR.more (h:QR E G w wr Lo B ps tv n T X N Z pre post vpre vpost k Ty I x m la lc ds) (hc:ps<w.heap.size) (hX:w.heap.size<X) (hN:w.heap.size<N) (hXw:X≤wr.heap.size) (hk:aB (fun b=>b=ps) wr w4) (hrs:QS w4 Lo B ps tv n T J y) {d2:List Dt} {us:List Value} (hG:G'→G) (hx:G'→RdL w4 (Qd Lo B wr.heap.size) d2 us) (hE:∀b,E b→b<w4.heap.size) :
 ∃xs,w4.ownsRow 0 Ty k (.slice la m lc) m xs∧aH w4 N (vpre++.slice la m lc::vpost)∧
  ∀(gg m' cap:Nat) (w5 wo:World),w5.ownsRow 0 Ty k (.slice (some ⟨gg,0,none⟩) m' cap) m' (xs++us)→K0 w4 wo→wo.grownBy w5 (Value.slice la m lc).ownBlock→((Value.slice la m lc).ownBlock=some gg∨w4.heap.size≤gg)→
   aH w5 N (vpre++.slice la m lc::vpost)∧QR E G' w (w5.setCell ⟨N,vpre.length,none⟩ (.slice (some ⟨gg,0,none⟩) m' cap)) Lo B ps tv n T X N Z pre post vpre vpost k Ty J y m' (some ⟨gg,0,none⟩) cap (ds++d2)∧aB (fun b=>b=N∨(Value.slice la m lc).ownBlock=some b) w4 (w5.setCell ⟨N,vpre.length,none⟩ (.slice (some ⟨gg,0,none⟩) m' cap)):=by
 have h4:=h.move hc hX hN hk hrs;have hB:=hrs.ps;have hsz:=hk.size;have hNl:=h4.rc.lt;have hNr:=h.rc.lt;have hlow:=h4.low;have hzl:=h4.zr.lt;obtain⟨xs,hr,ho⟩:=h4.own;have hlt:∀g,(Value.slice la m lc).ownBlock=some g→g<wr.heap.size:=fun g hg=>by
  obtain⟨xs0,_,ho0⟩:=h.own;exact (ho0.lt g hg).2
 refine⟨xs,ho,h4.rc,fun gg m' cap w5 wo hown hwo hgrow hat=>?_⟩;have hk5:aB (fun b=>(Value.slice la m lc).ownBlock=some b) w4 w5:=(hwo.mono (fun _ _ h=>h.elim)).grown hgrow (fun k hk _=>hk);have hgN:gg≠N:=by
  rcases hat with h1 | h1
  ·exact (hlow gg h1).2
  ·omega
 have hgX:X≤gg:=by
  rcases hat with h1 | h1
  ·exact (hlow gg h1).1
  ·omega
 have hrc5:=h4.rc.keep hk5 (fun e=>(hlow N e).2 rfl);have hk6:aB (fun b=>b=N) w5 (w5.setCell ⟨N,vpre.length,none⟩ (.slice (some ⟨gg,0,none⟩) m' cap)):=(aB.refl _ _).setCell _ _ fun _=>rfl;have hrs5:=hrs.keep hk5 (fun b hb e=>by have:=hlow b e;omega) (fun e=>by have:=hlow ps e;omega);have hoth:∀{dd:List Dt} {vv:List Value},RdL w4 (fun b=>(Qd Lo B X b∧b≠N)∧(Value.slice la m lc).ownBlock≠some b) dd vv→
  RdL (w5.setCell ⟨N,vpre.length,none⟩ (.slice (some ⟨gg,0,none⟩) m' cap)) (fun b=>(Qd Lo B X b∧b≠N)∧(Value.slice (some ⟨gg,0,none⟩) m' cap).ownBlock≠some b) dd vv:=fun hh=>
  ((
   (hh.lt.keep hk5 (fun b _ hb e=>hb.1.2 e)).keep hk6 (fun b _ hb e=>hb.1.1.2 e)).mono fun b _ hb=>⟨hb.1.1,fun e=>by
   have h3:gg=b:=Option.some.inj e;rcases hat with h1 | h1
   ·exact hb.1.2 (by rw [h1,h3])
   ·have:=hb.2;omega⟩)
 refine⟨hrc5,?_,(hk5.mono (fun _ _ h=>.inr h)).trans (hk6.mono (fun _ _ h=>.inl h)) k3⟩;refine⟨hrs5.keep hk6 (fun b hb e=>by omega) (fun e=>by omega),(h4.kp.trans hk5 (fun b hb e=>by have:=hlow b e;omega)).fresh hk6 (fun b e=>by omega),(h4.zr.keep hk5 (fun e=>by have:=hlow _ e;omega)).keep hk6 (fun e=>by omega),?_,?_,?_,?_,fun g=>hoth (h4.pr (hG g)),fun g=>hoth (h4.po (hG g))⟩
 ·have:=hrc5.set vpre.length (.slice (some ⟨gg,0,none⟩) m' cap);rw [Fv] at this;exact this
 ·refine⟨xs++us,fun g=>?_,?_⟩
  ·have hx2:RdL w4 (fun b=>(Qd Lo B X b∧b≠N)∧(Value.slice la m lc).ownBlock≠some b) d2 us:=(hx g).mono fun b _ hb=>by
    rcases hb with hb | hb
    ·exact⟨⟨.inl hb,by omega⟩,fun e=>by have:=hlow b e;omega⟩
    ·exact⟨⟨.inr (by omega),by omega⟩,fun e=>by have:=hlt b e;omega⟩
   exact hoth ((hr (hG g)).app hx2)
  ·refine⟨hown.1,?_⟩;rcases hown.2 with ⟨e,h0⟩ | ⟨g',cap',cur,e,hb,hg,rest⟩
   ·cases e
   ·have e1:gg=g':=by injection e with e1;injection e1 with e1;injection e1
    exact .inr ⟨g',cap',cur,e,hb,(hk6.block g' (Array.getElem?_eq_some_iff.1 hg).1 (fun e2=>hgN (e1.trans e2))).trans hg,rest⟩
 ·intro g hg;have h3:gg=g:=Option.some.inj hg;exact⟨by omega,by omega⟩
 ·intro g hg hEg;have h3:gg=g:=Option.some.inj hg;rcases hat with h1 | h1
  ·exact h4.ex g (by rw [h1,h3]) hEg
  ·have:=hE g hEg;omega
theorem QR.frame {E':Nat→Prop} (h:QR E G w wr Lo B ps tv n T X N Z pre post vpre vpost k Ty I x m la lc ds) (hE:∀g,(Value.slice la m lc).ownBlock=some g→¬E' g):QR E' G w wr Lo B ps tv n T X N Z pre post vpre vpost k Ty I x m la lc ds:=
 ⟨h.rs,h.kp,h.zr,h.rc,h.own,h.low,hE,h.pr,h.po⟩
theorem QR.all (h:QR E G w wr Lo B ps tv n T X N Z pre post vpre vpost k Ty I x m la lc ds) (g:G):RdL wr (Qd Lo B X) (pre++.sl k ds::post) (vpre++.slice la m lc::vpost):=by
 obtain⟨xs,h1,h2⟩:=h.own;have h3:=lD.reads (D:=fun b=>Qd Lo B X b) ⟨xs,(h1 g).mono fun b _ hb=>⟨hb.1.1,hb.2⟩,h2⟩ (fun g hg=>.inr (h.low g hg).1);exact ((h.pr g).mono fun b _ hb=>hb.1.1).app ⟨h3,(h.po g).mono fun b _ hb=>hb.1.1⟩
theorem QR.mlen (h:QR E G w wr Lo B ps tv n T X N Z pre post vpre vpost k Ty I x m la lc ds) (g:G):ds.length=m*k:=by
 obtain⟨xs,h1,h2⟩:=h.own;rw [←(h1 g).len];exact h2.1
end
theorem bS {w w3 w4:World} {Lo B ps:Nat} {tv:Value} {n:Nat} {T:List Tk} {J x:Nat} {res:PR (List Dt)} {cl:Bool} {vs:List Value} (hk:aB (fun b=>b=ps) w w3) (hrs:QS w3 Lo B ps tv n T J x) (hc:ps<w.heap.size)
 (hr:QF cl w3 (fun b=>Qd Lo B w.heap.size b∧b≠w.heap.size) T res vs J x) (h4:aB (fun b=>b=w.heap.size) w3 w4):QS w4 Lo B ps tv n T J x∧aB (fun b=>b=ps) w w4∧QF cl w4 (Qd Lo B w.heap.size) T res vs J x:=by
 have hB:=hrs.ps;refine⟨hrs.keep h4 (fun b hb e=>by omega) (fun e=>by omega),hk.fresh h4 (fun b e=>by omega),?_⟩;cases res with
 | error y=>exact hr
 | ok p=>
  obtain⟨ds,r⟩:=p;rcases hr with ⟨h0,h1,h2,h3,h5⟩ | h
  ·exact .inl ⟨h0,h1,(h2.keep h4 (fun b _ hb e=>hb.2 e)).mono (fun b _ hb=>hb.1),h3,h5⟩
  ·exact .inr h
theorem By (l:Bs) (w:World) (hl:l.length≤140737488351232) (q:Nat) :
 Calls Tryz.prog 69 #[.string ⟨l.toArray⟩,.int .i64 0] (w.drewN q) fun e w'=>e=.returned (.int .i64 (dK l))∧∃q',w'=w.drewN q':=
 (dG ⟨l.toArray⟩ 0 (w.drewN q) (by rw [Lib.size_eq];exact hl) (Nat.zero_le _)).mono fun e w' ⟨h1,h2⟩=>⟨by rw [h1,O0],q,h2.symm⟩
theorem rW (l:Bs) (w:World) (q:Bool) (hl:l.length≤140737488351232) (hq:bO l=q) :
 Calls Tryz.prog 165 #[.string ⟨l.toArray⟩] w fun e w'=>e=.returned (.bool q)∧∃q',w'=w.drewN q':=by
 unfold bO at hq;obtain⟨R,hR⟩:∃R,R=dK l:=⟨_,rfl⟩;have HRUN:=Hd (By l w hl);rw [←hR] at hq HRUN;clear hR;cases l with
 | nil=>
  obtain rfl:false=q:=hq;go_enter Tryz.func165,Tryz.ntmps165;go_wp2_with fail;go_ret;exact⟨rfl,0,rfl⟩
 | cons x t=>
  have t1:(x::t).isEmpty=false:=rfl;obtain⟨l,hl2⟩:∃l,l=x::t:=⟨_,rfl⟩;rw [←hl2] at hq t1 HRUN hl;rw [←hl2];have t2:(l==[])=false:=by rw [hl2];rfl
  have t3:(l != [])=true:=by rw [hl2];rfl
  rw [t1] at hq;clear hl2;by_cases h1:l.length≤60
  ·have p1:(l.length:Int)≤60:=by omega
   rw [decide_eq_true h1] at hq;by_cases h2:R=l.length
   ·have p2:((R:Int)==(l.length:Int))=true:=by rw [beq_iff_eq];omega
    obtain rfl:true=q:=by rw [←hq,beq_iff_eq.2 h2];rfl
    clear hq h2;go_enter Tryz.func165,Tryz.ntmps165;go_wp2_with fail;refine (HRUN.o 0).mono ?_;rintro e w1 ⟨rfl,q0,rfl⟩;go_wp2_with fail;go_ret;exact⟨rfl,q0,rfl⟩
   ·have p2:((R:Int)==(l.length:Int))=false:=by rw [beq_eq_false_iff_ne];omega
    obtain rfl:false=q:=by rw [←hq,beq_eq_false_iff_ne.2 h2];rfl
    clear hq h2;go_enter Tryz.func165,Tryz.ntmps165;go_wp2_with fail;refine (HRUN.o 0).mono ?_;rintro e w1 ⟨rfl,q0,rfl⟩;go_wp2_with fail;go_ret;exact⟨rfl,q0,rfl⟩
  ·have p1:¬(l.length:Int)≤60:=by omega
   rw [decide_eq_false h1] at hq;obtain rfl:false=q:=hq;go_enter Tryz.func165,Tryz.ntmps165;go_wp2_with fail;go_ret;exact⟨rfl,0,rfl⟩
def QLt (gd good:Prop) (T:List Tk) (j x:Nat) (res:PR (List Dt)):Prop:=(gd∧x=0∧j≤T.length∧good)∨((x≠0∨aG [40] (T.drop j)=true)∧∀w D us,QF true w D T res us j x)
def o6 (p:PR (List Dt)):PR (List Dt):=match p with
 | .error e=>.error e
 | .ok (l,r)=>.ok (qJ l,r)
def uO (cmd:List Tk→PR (List Dt)) (acc:List Dt) (p:PR (List Dt)):PR (List Dt):=o6 (match p with
 | .error e=>.error e
 | .ok (d,r)=>eE cmd (r.length+1) (acc++d) r)
theorem jO (cmd:List Tk→PR (List Dt)) (n:Nat) (acc:List Dt) (ts:List Tk):eE cmd (n+1) acc ts=if (dW ts).1 && d9 (dW ts).2 then (match eN cmd (dW ts).2 with
 | .error e=>.error e
 | .ok (d,r)=>eE cmd n (acc++d) r) else .ok (acc,(dW ts).2):=rfl
theorem Gi {ts:List Tk} (h:(dW ts).1=true):(dW ts).2.length+1≤ts.length:=by
 unfold dW at h ⊢;by_cases ho:(aG [59] ts || aG [10] ts)=true
 ·rw [if_pos ho];have hp:1≤ts.length:=by
   rw [Bool.or_eq_true] at ho;rcases ho with ho | ho<;>exact dO ho
  have h1:=eB ts.tail;rw [List.length_tail] at h1;show (aF ts.tail).length+1≤ts.length;omega
 ·rw [if_neg ho] at h;cases h
theorem rB {cmd:List Tk→PR (List Dt)} (hc:iM cmd):∀(n m:Nat) (acc:List Dt) (ts:List Tk),ts.length<n→ts.length<m→eE cmd n acc ts=eE cmd m acc ts
 | 0,m,acc,ts,h,_=>absurd h (Nat.not_lt_zero _)
 | n+1,0,acc,ts,_,h=>absurd h (Nat.not_lt_zero _)
 | n+1,m+1,acc,ts,h1,h2=>by
  rw [jO,jO];by_cases hb:((dW ts).1 && d9 (dW ts).2)=true
  ·rw [if_pos hb,if_pos hb];rw [Bool.and_eq_true] at hb;have hl:=Gi hb.1;cases hq:eN cmd (dW ts).2 with
   | error e=>rfl
   | ok p=>
    obtain⟨d,r⟩:=p;have:=pC hc _ _ _ hq;exact rB hc n m (acc++d) r (by omega) (by omega)
  ·rw [if_neg hb,if_neg hb]
def LAt (K:Nat) (acc:List Dt) (T:List Tk) (I:Nat) (res:PR (List Dt)):Prop:=
 res=uO (aC K) acc (eN (aC K) (T.drop I))∨(eN (aC K) (T.drop I)=.error 2∧∃ds r,res=.ok (ds,r)∧cZ r=false)
theorem Of (K:Nat) (ts:List Tk):cU (aC K) ts=uO (aC K) [] (eN (aC K) (aF ts)):=by
 unfold cU sC uO o6;cases eN (aC K) (aF ts) with
 | error e=>rfl
 | ok p=>rfl
theorem Lv {K:Nat} {acc:List Dt} {T:List Tk} {I:Nat} {res:PR (List Dt)} {w:World} {D:Nat→Prop} {us:List Value} {j x:Nat} (h:LAt K acc T I res) (hq:QF false w D T (eN (aC K) (T.drop I)) us j x) :
 ∃(gd:Prop) (d:List Dt),(gd→NdD d∧RdL w D d us)∧QLt gd (res=o6 (eE (aC K) ((T.drop j).length+1) (acc++d) (T.drop j))) T j x res:=by
 rcases h with h | ⟨h,ds,r,hr,hc⟩
 ·rcases hq.split (uO (aC K) acc) (fun e=>rfl) (fun h=>by cases h) with ⟨ds,r,hr,hx,hn,hd,hj,hl⟩ | ⟨hx,hr⟩ | ⟨hx,ho,hr⟩
  ·refine⟨True,ds,fun _=>⟨hn,hd⟩,.inl ⟨trivial,hx,hl,?_⟩⟩;rw [h,hr,hj];rfl
  ·exact⟨False,[],fun h=>h.elim,.inr ⟨.inl hx,fun _ _ _=>QF.err hx (by rw [h,hr])⟩⟩
  ·exact⟨False,[],fun h=>h.elim,.inr ⟨.inr ho,fun _ _ _=>QF.stk ho hx (by rw [h,hr])⟩⟩
 ·rw [h] at hq;refine⟨False,[],fun h=>h.elim,.inr ?_⟩;rcases hq with ⟨h1,h2⟩ | ⟨h1,h2,h3⟩
  ·exact⟨.inl (by omega),fun _ _ _=>by rw [hr];exact .inr ⟨rfl,hc,.inl h1⟩⟩
  ·exact⟨.inr h3,fun _ _ _=>by rw [hr];exact .inr ⟨rfl,hc,.inr ⟨h2,h3⟩⟩⟩
theorem Lr {K:Nat} {acc:List Dt} {ts:List Tk} {res:PR (List Dt)} (h:res=o6 (eE (aC K) (ts.length+1) acc ts)) (h1:aG [59] ts=false) (h2:aG [10] ts=false):res=.ok (qJ acc,ts):=by
 rw [h,jO];unfold dW;rw [h1,h2];rfl
theorem Kj {K:Nat} {acc:List Dt} {ts:List Tk} {T:List Tk} {I:Nat} {res:PR (List Dt)} (h:res=o6 (eE (aC K) (ts.length+1) acc ts)) (h1:(aG [59] ts || aG [10] ts)=true) (hI:T.drop I=aF ts.tail) :
 (cZ (T.drop I)=true→res=.ok (qJ acc,T.drop I))∧(cZ (T.drop I)=false→LAt K acc T I res):=by
 have he:dW ts=(true,T.drop I):=by unfold dW;rw [if_pos h1,hI]
 have hlt:=Gi (ts:=ts) (by rw [he]);rw [he] at hlt;rw [jO,he] at h;dsimp only at h hlt;rw [Bool.true_and] at h;constructor
 ·intro hc;rw [tK hc,if_neg (by simp)] at h;exact h
 ·intro hc;cases hm:d9 (T.drop I) with
  | false=>
   rw [hm,if_neg (by simp)] at h;exact .inr ⟨wQ K hm,_,_,h,hc⟩
  | true=>
   rw [hm,if_pos rfl] at h;refine .inl ?_;rw [h];unfold uO;cases hq:eN (aC K) (T.drop I) with
   | error e=>rfl
   | ok p=>
    obtain⟨d,r⟩:=p;have:=pC (nS K) _ _ _ hq;dsimp only;rw [rB (nS K) ts.length (r.length+1) (acc++d) r (by omega) (by omega)]
end Go.Proofs.YtiihpbccabeoeaaGreatDoor
