/- The walk: a part. -/
import Derived.Test.YtiihpbccabeoeaaGreatDoorYPkV
import Derived.Test.YtiihpbccabeoeaaGreatDoorYPkF
namespace Go.Proofs.YtiihpbccabeoeaaGreatDoor
open Go.RowKit
set_option linter.unusedVariables false
set_option maxRecDepth 100000
set_option maxHeartbeats 16000000
structure NV where
 k:Int
 nt:Bool
 nm:ByteArray
 a0:Option Addr
 n0:Nat
 c0:Nat
 a1:Option Addr
 n1:Nat
 c1:Nat
 a2:Option Addr
 n2:Nat
 c2:Nat
 a3:Option Addr
 n3:Nat
 c3:Nat
 a4:Option Addr
 n4:Nat
 c4:Nat
def NV.vals (v:NV):List Value:=[.int .i64 v.k,.bool v.nt,.string v.nm,.slice v.a0 v.n0 v.c0,.slice v.a1 v.n1 v.c1,.slice v.a2 v.n2 v.c2,.slice v.a3 v.n3 v.c3,.slice v.a4 v.n4 v.c4]
def NV.val (v:NV):Value:=.agg #[.int .i64 v.k,.bool v.nt,.string v.nm,.slice v.a0 v.n0 v.c0,.slice v.a1 v.n1 v.c1,.slice v.a2 v.n2 v.c2,.slice v.a3 v.n3 v.c3,.slice v.a4 v.n4 v.c4]
def QF (cl:Bool) (w:World) (D:Nat→Prop) (T:List Tk) (res:PR (List Dt)) (us:List Value) (j x:Nat):Prop:=match res with
 | .ok (ds,r)=>(x=0∧NdD ds∧RdL w D ds us∧T.drop j=r∧j≤T.length)∨(cl=true∧closesF r=false∧(x=2∨(x=0∧isOpF [40] (T.drop j)=true)))
 | .error y=>(x=y∧y≠0)∨(y=2∧x=0∧isOpF [40] (T.drop j)=true)
section
variable {cl:Bool} {w:World} {D:Nat→Prop} {T:List Tk} {res:PR (List Dt)} {us:List Value} {j x:Nat} {β:Type}
theorem QF.err (hx:x≠0) (hr:res=.error x):QF cl w D T res us j x:=by subst hr;exact .inl ⟨rfl,hx⟩
theorem QF.stk (h:isOpF [40] (T.drop j)=true) (hx:x=0) (hr:res=.error 2):QF cl w D T res us j x:=by subst hr hx;exact .inr ⟨rfl,rfl,h⟩
theorem QF.good {ds:List Dt} {r:List Tk} (hr:res=.ok (ds,r)) (hx:x=0) (hn:NdD ds) (h:RdL w D ds us) (hd:T.drop j=r) (hj:j≤T.length):QF cl w D T res us j x:=by subst hr;exact .inl ⟨hx,hn,h,hd,hj⟩
theorem QF.split (h:QF cl w D T res us j x) (f:PR (List Dt)→PR β) (he:∀e,f (.error e)=.error e) (hc:cl=true→∀ds r,closesF r=false→f (.ok (ds,r))=.error 2) :
 (∃ds r,res=.ok (ds,r)∧x=0∧NdD ds∧RdL w D ds us∧T.drop j=r∧j≤T.length)∨(x≠0∧f res=.error x)∨(x=0∧isOpF [40] (T.drop j)=true∧f res=.error 2):=by
 cases res with
 | error y=>
  rcases h with ⟨rfl,hy⟩ | ⟨rfl,hx,ho⟩
  ·exact .inr (.inl ⟨hy,he _⟩)
  ·exact .inr (.inr ⟨hx,ho,he _⟩)
 | ok p=>
  obtain⟨ds,r⟩:=p;rcases h with ⟨hx,hn,hr,hd,hj⟩ | ⟨hcl,hr,rfl | ⟨hx,ho⟩⟩
  ·exact .inl ⟨ds,r,rfl,hx,hn,hr,hd,hj⟩
  ·exact .inr (.inl ⟨by decide,hc hcl ds r hr⟩)
  ·exact .inr (.inr ⟨hx,ho,hc hcl ds r hr⟩)
def QSt (gd good:Prop) (T:List Tk) (j x:Nat) (res:PR β):Prop:=(gd∧x=0∧j≤T.length∧good)∨(x≠0∧res=.error x)∨(x=0∧isOpF [40] (T.drop j)=true∧res=.error 2)
theorem QF.state {res2:PR β} (h:QF cl w D T res us j x) (f:PR (List Dt)→PR β) (he:∀e,f (.error e)=.error e) (hc:cl=true→∀ds r,closesF r=false→f (.ok (ds,r))=.error 2) (h2:res2=f res) :
 ∃(gd:Prop) (ds:List Dt),(gd→NdD ds∧RdL w D ds us)∧QSt gd (res2=f (.ok (ds,T.drop j))) T j x res2:=by
 rcases h.split f he hc with ⟨ds,r,hr,hx,hn,hd,hj,hl⟩ | ⟨hx,hr⟩ | ⟨hx,ho,hr⟩
 ·exact⟨True,ds,fun _=>⟨hn,hd⟩,.inl ⟨trivial,hx,hl,by rw [h2,hr,hj]⟩⟩
 ·exact⟨False,[],fun h=>h.elim,.inr (.inl ⟨hx,by rw [h2,hr]⟩)⟩
 ·exact⟨False,[],fun h=>h.elim,.inr (.inr ⟨hx,ho,by rw [h2,hr]⟩)⟩
theorem QSt.fin {gd good:Prop} {ds:List Dt} (h:QSt gd good T j x res) (hr:gd→good→res=.ok (ds,T.drop j)) (hd:gd→good→NdD ds∧RdL w D ds us):QF cl w D T res us j x:=by
 rcases h with ⟨hg,hx,hj,hgd⟩ | ⟨hx,hr⟩ | ⟨hx,ho,hr⟩
 ·exact QF.good (hr hg hgd) hx (hd hg hgd).1 (hd hg hgd).2 rfl hj
 ·exact QF.err hx hr
 ·exact QF.stk ho hx hr
theorem QSt.map {gd good good2:Prop} {res2:PR β} (h:QSt gd good T j x res2) (f:gd→good→good2):QSt gd good2 T j x res2:=by
 rcases h with ⟨hg,hx,hj,hgd⟩ | h | h
 ·exact .inl ⟨hg,hx,hj,f hg hgd⟩
 ·exact .inr (.inl h)
 ·exact .inr (.inr h)
end
def QNode (w:World) (Lo B ps:Nat) (tv:Value) (n:Nat) (T:List Tk) (i b:Nat) (cl:Bool) (res:PR (List Dt)) (e:Ending) (w':World):Prop:=
 ∃(v:NV) (j x:Nat),e=.returned (.agg #[.int .i64 v.k,.bool v.nt,.string v.nm,.slice v.a0 v.n0 v.c0,.slice v.a1 v.n1 v.c1,.slice v.a2 v.n2 v.c2,.slice v.a3 v.n3 v.c3,.slice v.a4 v.n4 v.c4])∧i≤j∧j≤T.length+b∧QS w' Lo B ps tv n T j x∧Keeps (fun b=>b=ps) w w'∧QF cl w' (Qd Lo B w.heap.size) T res v.vals j x
theorem toks_in {T:List Tk} {i:Nat} (h:1≤(T.drop i).length):i<T.length:=by
 rw [List.length_drop] at h;omega
def QCmdOK (K:Nat):Prop:=∀(w:World) (Lo B ps n i deep:Nat) (tv:Value) (T:List Tk),QS w Lo B ps tv n T i 0→i≤T.length→deep+K=41→
 Calls Tryz.prog 142 #[.pointer (some ⟨ps,0,none⟩),.int .i64 (deep:Nat)] w (QNode w Lo B ps tv n T i (2*K) false (commandF K (T.drop i)))
theorem op40_ne {ts:List Tk} (h:isOpF [40] ts=true) (s:Bs) (hs:s≠[40]):isOpF s ts=false:=by
 unfold isOpF at h ⊢;rw [Bool.and_eq_true] at h;rw [h.1,Bool.true_and,beq_iff_eq.1 h.2,beq_eq_false_iff_ne];exact fun e=>hs e.symm
theorem op_plain {ts:List Tk} {s:Bs} (h:isOpF s ts=true):plainT (atF ts)=[]:=by
 unfold isOpF at h;rw [Bool.and_eq_true] at h;exact plain_kind (by rw [beq_iff_eq.1 h.1];rfl)
theorem closes_more {ts:List Tk} (h:closesF ts=true):moreF ts=false:=by
 unfold closesF at h;simp only [Bool.or_eq_true] at h;rcases h with ((h | h) | h) | h
 ·rw [List.isEmpty_iff] at h;subst h;rfl
 ·have hp:=op_plain h;unfold moreF beginsF isWF redirB;unfold isOpF at h ⊢;rw [Bool.and_eq_true] at h;rw [hp,beq_iff_eq.1 h.1,beq_iff_eq.1 h.2];decide
 ·have hp:=op_plain h;unfold moreF beginsF isWF redirB;unfold isOpF at h ⊢;rw [Bool.and_eq_true] at h;rw [hp,beq_iff_eq.1 h.1,beq_iff_eq.1 h.2];decide
 ·have hk:((atF ts).kind==1)=true:=by
   cases hk:((atF ts).kind==1) with
   | true=>rfl
   | false=>rw [plain_kind hk] at h;exact absurd h (by decide)
  unfold moreF beginsF isWF;rw [hk];generalize plainT (atF ts)=s at h ⊢;rw [List.contains_iff_mem] at h;simp only [closerL,List.mem_cons,List.not_mem_nil,or_false] at h;rw [if_pos rfl];rcases h with h | h | h | h | h | h | h | h<;>subst h<;>rfl
theorem cmd_none (K:Nat) {ts:List Tk} (h:beginsF ts=false):commandF K ts=.error 2:=by
 cases K with
 | zero=>show (if beginsF ts=true then _ else _)=_;rw [h];rfl
 | succ K=>show (if beginsF ts=true then _ else _)=_;rw [h];rfl
theorem pipe_none (K:Nat) {ts:List Tk} (h:moreF ts=false):pipelineF (commandF K) ts=.error 2:=by
 unfold moreF at h;rw [Bool.or_eq_false_iff] at h;unfold pipelineF;rw [h.2,if_neg (by simp),cmd_none K h.1]
theorem andOr_none (K:Nat) {ts:List Tk} (h:moreF ts=false):andOrF (commandF K) ts=.error 2:=by
 unfold andOrF;rw [pipe_none K h]
theorem lines_idem:∀ts:List Tk,linesF (linesF ts)=linesF ts
 | []=>rfl
 | t::r=>by
  by_cases h:(t.kind==2 && t.text==[10])=true
  ·have e:linesF (t::r)=linesF r:=if_pos h;rw [e,lines_idem r]
  ·have e:linesF (t::r)=t::r:=if_neg h;rw [e,e]
theorem list_none (K:Nat) {ts:List Tk} (h:moreF (linesF ts)=false):listF (commandF K) ts=.error 2:=by
 unfold listF allF;rw [andOr_none K h]
section
variable {scr:Bs→Except Nat Unit}
theorem qsimple_succ (n:Nat) (ws gz rs:List Dt) (ts:List Tk):simpleF scr (n+1) ws gz rs ts=if redirB ts then (match redirF scr ts with
 | .error e=>.error e
 | .ok (d,r)=>simpleF scr n ws gz (rs++d) r)
 else if (atF ts).kind==1 then (match wordF scr ts with
  | .error e=>.error e
  | .ok (w,r)=>match (if ws.isEmpty then assignF w else none) with
   | some (nm,v)=>simpleF scr n ws (gz++[.str nm,wordR v]) rs r
   | none=>simpleF scr n (ws++[wordR w]) gz rs r)
 else .ok (ndR 1 false [] ws gz rs [] [],ts):=rfl
theorem qsimple_fuel:∀(n m:Nat) (ws gz rs:List Dt) (ts:List Tk),ts.length<n→ts.length<m→simpleF scr n ws gz rs ts=simpleF scr m ws gz rs ts
 | 0,m,ws,gz,rs,ts,h,_=>absurd h (Nat.not_lt_zero _)
 | n+1,0,ws,gz,rs,ts,_,h=>absurd h (Nat.not_lt_zero _)
 | n+1,m+1,ws,gz,rs,ts,h1,h2=>by
  rw [qsimple_succ,qsimple_succ];by_cases hr:redirB ts=true
  ·rw [if_pos hr,if_pos hr];cases hd:redirF scr ts with
   | error e=>rfl
   | ok p=>
    obtain⟨d,r⟩:=p;have:=redirF_len hd;exact qsimple_fuel n m ws gz (rs++d) r (by omega) (by omega)
  ·rw [if_neg hr,if_neg hr];by_cases hk:((atF ts).kind==1)=true
   ·rw [if_pos hk,if_pos hk];cases hw:wordF scr ts with
    | error e=>rfl
    | ok p=>
     obtain⟨wd,r⟩:=p;have:=word_len hw;dsimp only;cases (if ws.isEmpty=true then assignF wd else none) with
     | none=>exact qsimple_fuel n m (ws++[wordR wd]) gz rs r (by omega) (by omega)
     | some q=>exact qsimple_fuel n m ws (gz++[.str q.1,wordR q.2]) rs r (by omega) (by omega)
   ·rw [if_neg hk,if_neg hk]
theorem qsimple_redirs:∀(n:Nat) (M:Nat) (acc ws gz rs:List Dt) (ts:List Tk),ts.length<n→ts.length<M→
 simpleF scr M ws gz (rs++acc) ts=match redirsF scr n acc ts with
  | .error e=>.error e
  | .ok (ds,r)=>simpleF scr (r.length+1) ws gz (rs++ds) r
 | 0,M,acc,ws,gz,rs,ts,h,_=>absurd h (Nat.not_lt_zero _)
 | n+1,0,acc,ws,gz,rs,ts,_,h=>absurd h (Nat.not_lt_zero _)
 | n+1,M+1,acc,ws,gz,rs,ts,h1,h2=>by
  rw [qredirs_succ];by_cases hr:redirB ts=true
  ·rw [qsimple_succ,if_pos hr,if_pos hr];cases hd:redirF scr ts with
   | error e=>rfl
   | ok p=>
    obtain⟨d,r⟩:=p;have:=redirF_len hd;dsimp only;rw [List.append_assoc];exact qsimple_redirs n M (acc++d) ws gz rs r (by omega) (by omega)
  ·rw [if_neg hr];exact qsimple_fuel _ _ _ _ _ _ h2 (Nat.lt_succ_self _)
theorem qsimple_name {ts:List Tk} (hn:nameOkF (plainT (atF ts))=true) (ho:opensF ts=true) (hw:hasW ts=true) (hsub:subsF scr (atF ts).word=.ok ()) (ha:assignF (atF ts).word=none):simpleF scr (ts.length+1) [] [] [] ts=.ok (ndR 1 false [] [wordR (atF ts).word] [] [] [] [],ts.tail):=by
 have hk:((atF ts).kind==1)=true:=by unfold hasW at hw;rw [Bool.and_eq_true] at hw;exact hw.1
 have hr:redirB ts=false:=by unfold redirB;rw [beq_iff_eq.1 hk];rfl
 have hwf:wordF scr ts=.ok ((atF ts).word,ts.tail):=by
  unfold wordF;unfold hasW at hw;rw [hw,if_pos rfl,hsub]
 have hl:=kind_pos hk;rw [qsimple_succ,hr,if_neg (by simp),hk,if_pos rfl,hwf];dsimp only;rw [show (if ([]:List Dt).isEmpty=true then assignF (atF ts).word else none)=none from ha];dsimp only;obtain⟨M,hM⟩:∃M,ts.length=M+1:=⟨ts.length - 1,by omega⟩;unfold opensF at ho;have hr2:redirB ts.tail=false:=by
  have h2:=ho;unfold isOpF at h2;rw [Bool.and_eq_true] at h2;unfold redirB;rw [h2.1,beq_iff_eq.1 h2.2];decide
 have hk2:((atF ts.tail).kind==1)=false:=by
  unfold isOpF at ho;rw [Bool.and_eq_true] at ho;rw [beq_iff_eq.1 ho.1];rfl
 rw [hM,qsimple_succ,hr2,if_neg (by simp),hk2,if_neg (by simp)];rfl
end
structure QR (E:Nat→Prop) (G:Prop) (w wr:World) (Lo B ps:Nat) (tv:Value) (n:Nat) (T:List Tk) (X N:Nat) (Z:List Value) (pre post:List Dt) (vpre vpost:List Value) (k:Nat) (Ty:TypeId) (I x m:Nat) (la:Option Addr) (lc:Nat) (ds:List Dt):Prop where
 rs:QS wr Lo B ps tv n T I x
 kp:Keeps (fun b=>b=ps) w wr
 zr:RecAt wr w.heap.size Z
 rc:RecAt wr N (vpre++.slice la m lc::vpost)
 own:∃xs,(G→RdL wr (fun b=>(Qd Lo B X b∧b≠N)∧(Value.slice la m lc).ownBlock≠some b) ds xs)∧wr.ownsRow 0 Ty k (.slice la m lc) m xs
 low:∀g,(Value.slice la m lc).ownBlock=some g→X≤g∧g≠N
 ex:∀g,(Value.slice la m lc).ownBlock=some g→¬E g
 pr:G→RdL wr (fun b=>(Qd Lo B X b∧b≠N)∧(Value.slice la m lc).ownBlock≠some b) pre vpre
 po:G→RdL wr (fun b=>(Qd Lo B X b∧b≠N)∧(Value.slice la m lc).ownBlock≠some b) post vpost
section
variable {E:Nat→Prop} {G G':Prop} {w wr w4:World} {Lo B ps:Nat} {tv:Value} {n:Nat} {T:List Tk} {X N:Nat} {Z:List Value} {pre post:List Dt} {vpre vpost:List Value} {k:Nat} {Ty:TypeId} {I J x y m:Nat} {la:Option Addr} {lc:Nat} {ds:List Dt}
theorem QR.weak (h:QR E G w wr Lo B ps tv n T X N Z pre post vpre vpost k Ty I x m la lc ds) (hG:G'→G):QR E G' w wr Lo B ps tv n T X N Z pre post vpre vpost k Ty I x m la lc ds:=by
 obtain⟨xs,h1,h2⟩:=h.own;exact⟨h.rs,h.kp,h.zr,h.rc,⟨xs,fun g=>h1 (hG g),h2⟩,h.low,h.ex,fun g=>h.pr (hG g),fun g=>h.po (hG g)⟩
theorem QR.move (h:QR E G w wr Lo B ps tv n T X N Z pre post vpre vpost k Ty I x m la lc ds) (hc:ps<w.heap.size) (hX:w.heap.size<X) (hN:w.heap.size<N) (hk:Keeps (fun b=>b=ps) wr w4) (hrs:QS w4 Lo B ps tv n T J y) :
 QR E G w w4 Lo B ps tv n T X N Z pre post vpre vpost k Ty J y m la lc ds:=by
 have hB:=hrs.ps;have key:∀{dd:List Dt} {vv:List Value},RdL wr (fun b=>(Qd Lo B X b∧b≠N)∧(Value.slice la m lc).ownBlock≠some b) dd vv→RdL w4 (fun b=>(Qd Lo B X b∧b≠N)∧(Value.slice la m lc).ownBlock≠some b) dd vv:=fun hh=>
  hh.keep hk (fun b _ hb e=>qd_ne (X:=X) hB (by omega) hb.1.1 e)
 obtain⟨xs,h1,h2⟩:=h.own;exact⟨hrs,h.kp.trans hk (fun _ _ e=>e),h.zr.keep hk (fun e=>by omega),h.rc.keep hk (fun e=>by omega),⟨xs,fun g=>key (h1 g),owns_keep h2 hk (fun g hg e=>by have:=h.low g hg;omega)⟩,h.low,h.ex,fun g=>key (h.pr g),fun g=>key (h.po g)⟩
theorem QR.keep0 (h:QR E G w wr Lo B ps tv n T X N Z pre post vpre vpost k Ty I x m la lc ds) (hk:Keeps (fun _=>False) wr w4) :
 QR E G w w4 Lo B ps tv n T X N Z pre post vpre vpost k Ty I x m la lc ds:=by
 obtain⟨xs,h1,h2⟩:=h.own;exact⟨h.rs.keep0 hk,h.kp.trans hk (fun _ _ e=>e.elim),h.zr.keep hk (fun e=>e),h.rc.keep hk (fun e=>e),⟨xs,fun g=>(h1 g).keep hk (fun _ _ _ e=>e),owns_keep h2 hk (fun _ _ e=>e)⟩,h.low,h.ex,
  fun g=>(h.pr g).keep hk (fun b _ _ e=>e),fun g=>(h.po g).keep hk (fun b _ _ e=>e)⟩
theorem QR.inc (h:QR E G w wr Lo B ps tv n T X N Z pre post vpre vpost k Ty I x m la lc ds) (hc:ps<w.heap.size) (hX:w.heap.size<X) (hN:w.heap.size<N) (hI:I+1≤T.length+1000) :
 QR E G w (wr.setCell ⟨ps,1,none⟩ (.int .i64 ((I:Int)+1))) Lo B ps tv n T X N Z pre post vpre vpost k Ty (I+1) x m la lc ds:=
 h.move hc hX hN (inc_qs h.rs hI).2 (inc_qs h.rs hI).1
theorem QR.more (h:QR E G w wr Lo B ps tv n T X N Z pre post vpre vpost k Ty I x m la lc ds) (hc:ps<w.heap.size) (hX:w.heap.size<X) (hN:w.heap.size<N) (hXw:X≤wr.heap.size) (hk:Keeps (fun b=>b=ps) wr w4) (hrs:QS w4 Lo B ps tv n T J y) {d2:List Dt} {us:List Value} (hG:G'→G) (hx:G'→RdL w4 (Qd Lo B wr.heap.size) d2 us) (hE:∀b,E b→b<w4.heap.size) :
 ∃xs,w4.ownsRow 0 Ty k (.slice la m lc) m xs∧RecAt w4 N (vpre++.slice la m lc::vpost)∧
  ∀(gg m' cap:Nat) (w5 wo:World),w5.ownsRow 0 Ty k (.slice (some ⟨gg,0,none⟩) m' cap) m' (xs++us)→Keeps (fun _=>False) w4 wo→wo.grownBy w5 (Value.slice la m lc).ownBlock→((Value.slice la m lc).ownBlock=some gg∨w4.heap.size≤gg)→
   RecAt w5 N (vpre++.slice la m lc::vpost)∧QR E G' w (w5.setCell ⟨N,vpre.length,none⟩ (.slice (some ⟨gg,0,none⟩) m' cap)) Lo B ps tv n T X N Z pre post vpre vpost k Ty J y m' (some ⟨gg,0,none⟩) cap (ds++d2)∧Keeps (fun b=>b=N∨(Value.slice la m lc).ownBlock=some b) w4 (w5.setCell ⟨N,vpre.length,none⟩ (.slice (some ⟨gg,0,none⟩) m' cap)):=by
 have h4:=h.move hc hX hN hk hrs;have hB:=hrs.ps;have hsz:=hk.size;have hNl:=h4.rc.lt;have hNr:=h.rc.lt;have hlow:=h4.low;have hzl:=h4.zr.lt;obtain⟨xs,hr,ho⟩:=h4.own;have hlt:∀g,(Value.slice la m lc).ownBlock=some g→g<wr.heap.size:=fun g hg=>by
  obtain⟨xs0,_,ho0⟩:=h.own;exact (ho0.lt g hg).2
 refine⟨xs,ho,h4.rc,fun gg m' cap w5 wo hown hwo hgrow hat=>?_⟩;have hk5:Keeps (fun b=>(Value.slice la m lc).ownBlock=some b) w4 w5:=(hwo.mono (fun _ _ h=>h.elim)).grown hgrow (fun k hk _=>hk);have hgN:gg≠N:=by
  rcases hat with h1 | h1
  ·exact (hlow gg h1).2
  ·omega
 have hgX:X≤gg:=by
  rcases hat with h1 | h1
  ·exact (hlow gg h1).1
  ·omega
 have hrc5:=h4.rc.keep hk5 (fun e=>(hlow N e).2 rfl);have hk6:Keeps (fun b=>b=N) w5 (w5.setCell ⟨N,vpre.length,none⟩ (.slice (some ⟨gg,0,none⟩) m' cap)):=(Keeps.refl _ _).setCell _ _ fun _=>rfl;have hrs5:=hrs.keep hk5 (fun b hb e=>by have:=hlow b e;omega) (fun e=>by have:=hlow ps e;omega);have hoth:∀{dd:List Dt} {vv:List Value},RdL w4 (fun b=>(Qd Lo B X b∧b≠N)∧(Value.slice la m lc).ownBlock≠some b) dd vv→
  RdL (w5.setCell ⟨N,vpre.length,none⟩ (.slice (some ⟨gg,0,none⟩) m' cap)) (fun b=>(Qd Lo B X b∧b≠N)∧(Value.slice (some ⟨gg,0,none⟩) m' cap).ownBlock≠some b) dd vv:=fun hh=>
  ((
   (hh.lt.keep hk5 (fun b _ hb e=>hb.1.2 e)).keep hk6 (fun b _ hb e=>hb.1.1.2 e)).mono fun b _ hb=>⟨hb.1.1,fun e=>by
   have h3:gg=b:=Option.some.inj e;rcases hat with h1 | h1
   ·exact hb.1.2 (by rw [h1,h3])
   ·have:=hb.2;omega⟩)
 refine⟨hrc5,?_,(hk5.mono (fun _ _ h=>.inr h)).trans (hk6.mono (fun _ _ h=>.inl h)) (fun _ _ h=>h)⟩;refine⟨hrs5.keep hk6 (fun b hb e=>by omega) (fun e=>by omega),(h4.kp.trans hk5 (fun b hb e=>by have:=hlow b e;omega)).fresh hk6 (fun b e=>by omega),(h4.zr.keep hk5 (fun e=>by have:=hlow _ e;omega)).keep hk6 (fun e=>by omega),?_,?_,?_,?_,fun g=>hoth (h4.pr (hG g)),fun g=>hoth (h4.po (hG g))⟩
 ·have:=hrc5.set vpre.length (.slice (some ⟨gg,0,none⟩) m' cap);rw [set_mid] at this;exact this
 ·refine⟨xs++us,fun g=>?_,?_⟩
  ·have hx2:RdL w4 (fun b=>(Qd Lo B X b∧b≠N)∧(Value.slice la m lc).ownBlock≠some b) d2 us:=(hx g).mono fun b _ hb=>by
    rcases hb with hb | hb
    ·exact⟨⟨.inl hb,by omega⟩,fun e=>by have:=hlow b e;omega⟩
    ·exact⟨⟨.inr (by omega),by omega⟩,fun e=>by have:=hlt b e;omega⟩
   exact hoth ((hr (hG g)).app hx2)
  ·refine⟨hown.1,?_⟩;rcases hown.2 with ⟨e,h0⟩ | ⟨g',cap',cur,e,hb,hg,rest⟩
   ·cases e
   ·have e1:gg=g':=by injection e with e1;injection e1 with e1;injection e1
    exact .inr ⟨g',cap',cur,e,hb,(hk6.block g' (Array.getElem?_eq_some_iff.1 hg).1 (fun e2=>hgN (e1.trans e2))).trans hg,rest⟩
 ·intro g hg;have h3:gg=g:=Option.some.inj hg;exact⟨by omega,by omega⟩
 ·intro g hg hEg;have h3:gg=g:=Option.some.inj hg;rcases hat with h1 | h1
  ·exact h4.ex g (by rw [h1,h3]) hEg
  ·have:=hE g hEg;omega
theorem QR.frame {E':Nat→Prop} (h:QR E G w wr Lo B ps tv n T X N Z pre post vpre vpost k Ty I x m la lc ds) (hE:∀g,(Value.slice la m lc).ownBlock=some g→¬E' g):QR E' G w wr Lo B ps tv n T X N Z pre post vpre vpost k Ty I x m la lc ds:=
 ⟨h.rs,h.kp,h.zr,h.rc,h.own,h.low,hE,h.pr,h.po⟩
theorem QR.all (h:QR E G w wr Lo B ps tv n T X N Z pre post vpre vpost k Ty I x m la lc ds) (g:G):RdL wr (Qd Lo B X) (pre++.sl k ds::post) (vpre++.slice la m lc::vpost):=by
 obtain⟨xs,h1,h2⟩:=h.own;have h3:=OwnD.reads (D:=fun b=>Qd Lo B X b) ⟨xs,(h1 g).mono fun b _ hb=>⟨hb.1.1,hb.2⟩,h2⟩ (fun g hg=>.inr (h.low g hg).1);exact ((h.pr g).mono fun b _ hb=>hb.1.1).app ⟨h3,(h.po g).mono fun b _ hb=>hb.1.1⟩
theorem QR.mlen (h:QR E G w wr Lo B ps tv n T X N Z pre post vpre vpost k Ty I x m la lc ds) (g:G):ds.length=m*k:=by
 obtain⟨xs,h1,h2⟩:=h.own;rw [←(h1 g).len];exact h2.1
end
theorem qnd_fin {w w3 w4:World} {Lo B ps:Nat} {tv:Value} {n:Nat} {T:List Tk} {J x:Nat} {res:PR (List Dt)} {cl:Bool} {vs:List Value} (hk:Keeps (fun b=>b=ps) w w3) (hrs:QS w3 Lo B ps tv n T J x) (hc:ps<w.heap.size)
 (hr:QF cl w3 (fun b=>Qd Lo B w.heap.size b∧b≠w.heap.size) T res vs J x) (h4:Keeps (fun b=>b=w.heap.size) w3 w4):QS w4 Lo B ps tv n T J x∧Keeps (fun b=>b=ps) w w4∧QF cl w4 (Qd Lo B w.heap.size) T res vs J x:=by
 have hB:=hrs.ps;refine⟨hrs.keep h4 (fun b hb e=>by omega) (fun e=>by omega),hk.fresh h4 (fun b e=>by omega),?_⟩;cases res with
 | error y=>exact hr
 | ok p=>
  obtain⟨ds,r⟩:=p;rcases hr with ⟨h0,h1,h2,h3,h5⟩ | h
  ·exact .inl ⟨h0,h1,(h2.keep h4 (fun b _ hb e=>hb.2 e)).mono (fun b _ hb=>hb.1),h3,h5⟩
  ·exact .inr h
theorem qnlen_at (l:Bs) (w:World) (hl:l.length≤140737488351232) (q:Nat) :
 Calls Tryz.prog 69 #[.string ⟨l.toArray⟩,.int .i64 0] (w.drewN q) fun e w'=>e=.returned (.int .i64 (runF l))∧∃q',w'=w.drewN q':=
 (nameLen_any ⟨l.toArray⟩ 0 (w.drewN q) (by rw [Lib.size_eq];exact hl) (Nat.zero_le _)).mono fun e w' ⟨h1,h2⟩=>⟨by rw [h1,rest0],q,h2.symm⟩
theorem qname_any (l:Bs) (w:World) (q:Bool) (hl:l.length≤140737488351232) (hq:nameOkF l=q) :
 Calls Tryz.prog 165 #[.string ⟨l.toArray⟩] w fun e w'=>e=.returned (.bool q)∧∃q',w'=w.drewN q':=by
 unfold nameOkF at hq;obtain⟨R,hR⟩:∃R,R=runF l:=⟨_,rfl⟩;have HRUN:=Hd (qnlen_at l w hl);rw [←hR] at hq HRUN;clear hR;cases l with
 | nil=>
  obtain rfl:false=q:=hq;go_enter Tryz.func165,Tryz.ntmps165;go_wp2_with fail;go_ret;exact⟨rfl,0,rfl⟩
 | cons x t=>
  have t1:(x::t).isEmpty=false:=rfl;obtain⟨l,hl2⟩:∃l,l=x::t:=⟨_,rfl⟩;rw [←hl2] at hq t1 HRUN hl;rw [←hl2];have t2:(l==[])=false:=by rw [hl2];rfl
  have t3:(l != [])=true:=by rw [hl2];rfl
  rw [t1] at hq;clear hl2;by_cases h1:l.length≤60
  ·have p1:(l.length:Int)≤60:=by omega
   rw [decide_eq_true h1] at hq;by_cases h2:R=l.length
   ·have p2:((R:Int)==(l.length:Int))=true:=by rw [beq_iff_eq];omega
    obtain rfl:true=q:=by rw [←hq,beq_iff_eq.2 h2];rfl
    clear hq h2;go_enter Tryz.func165,Tryz.ntmps165;go_wp2_with fail;refine (HRUN.out 0).mono ?_;rintro e w1 ⟨rfl,q0,rfl⟩;go_wp2_with fail;go_ret;exact⟨rfl,q0,rfl⟩
   ·have p2:((R:Int)==(l.length:Int))=false:=by rw [beq_eq_false_iff_ne];omega
    obtain rfl:false=q:=by rw [←hq,beq_eq_false_iff_ne.2 h2];rfl
    clear hq h2;go_enter Tryz.func165,Tryz.ntmps165;go_wp2_with fail;refine (HRUN.out 0).mono ?_;rintro e w1 ⟨rfl,q0,rfl⟩;go_wp2_with fail;go_ret;exact⟨rfl,q0,rfl⟩
  ·have p1:¬(l.length:Int)≤60:=by omega
   rw [decide_eq_false h1] at hq;obtain rfl:false=q:=hq;go_enter Tryz.func165,Tryz.ntmps165;go_wp2_with fail;go_ret;exact⟨rfl,0,rfl⟩
def QLt (gd good:Prop) (T:List Tk) (j x:Nat) (res:PR (List Dt)):Prop:=(gd∧x=0∧j≤T.length∧good)∨((x≠0∨isOpF [40] (T.drop j)=true)∧∀w D us,QF true w D T res us j x)
def listEnd (p:PR (List Dt)):PR (List Dt):=match p with
 | .error e=>.error e
 | .ok (l,r)=>.ok (seqF l,r)
def listGo (cmd:List Tk→PR (List Dt)) (acc:List Dt) (p:PR (List Dt)):PR (List Dt):=listEnd (match p with
 | .error e=>.error e
 | .ok (d,r)=>allLoop cmd (r.length+1) (acc++d) r)
theorem qallLoop_succ (cmd:List Tk→PR (List Dt)) (n:Nat) (acc:List Dt) (ts:List Tk):allLoop cmd (n+1) acc ts=if (endsF ts).1 && moreF (endsF ts).2 then (match andOrF cmd (endsF ts).2 with
 | .error e=>.error e
 | .ok (d,r)=>allLoop cmd n (acc++d) r) else .ok (acc,(endsF ts).2):=rfl
theorem ends_lt {ts:List Tk} (h:(endsF ts).1=true):(endsF ts).2.length+1≤ts.length:=by
 unfold endsF at h ⊢;by_cases ho:(isOpF [59] ts || isOpF [10] ts)=true
 ·rw [if_pos ho];have hp:1≤ts.length:=by
   rw [Bool.or_eq_true] at ho;rcases ho with ho | ho<;>exact op_pos ho
  have h1:=lines_len ts.tail;rw [List.length_tail] at h1;show (linesF ts.tail).length+1≤ts.length;omega
 ·rw [if_neg ho] at h;cases h
theorem allLoop_fuel {cmd:List Tk→PR (List Dt)} (hc:Short cmd):∀(n m:Nat) (acc:List Dt) (ts:List Tk),ts.length<n→ts.length<m→allLoop cmd n acc ts=allLoop cmd m acc ts
 | 0,m,acc,ts,h,_=>absurd h (Nat.not_lt_zero _)
 | n+1,0,acc,ts,_,h=>absurd h (Nat.not_lt_zero _)
 | n+1,m+1,acc,ts,h1,h2=>by
  rw [qallLoop_succ,qallLoop_succ];by_cases hb:((endsF ts).1 && moreF (endsF ts).2)=true
  ·rw [if_pos hb,if_pos hb];rw [Bool.and_eq_true] at hb;have hl:=ends_lt hb.1;cases hq:andOrF cmd (endsF ts).2 with
   | error e=>rfl
   | ok p=>
    obtain⟨d,r⟩:=p;have:=andOr_len hc _ _ _ hq;exact allLoop_fuel hc n m (acc++d) r (by omega) (by omega)
  ·rw [if_neg hb,if_neg hb]
def LAt (K:Nat) (acc:List Dt) (T:List Tk) (I:Nat) (res:PR (List Dt)):Prop:=
 res=listGo (commandF K) acc (andOrF (commandF K) (T.drop I))∨(andOrF (commandF K) (T.drop I)=.error 2∧∃ds r,res=.ok (ds,r)∧closesF r=false)
theorem list_eq (K:Nat) (ts:List Tk):listF (commandF K) ts=listGo (commandF K) [] (andOrF (commandF K) (linesF ts)):=by
 unfold listF allF listGo listEnd;cases andOrF (commandF K) (linesF ts) with
 | error e=>rfl
 | ok p=>rfl
theorem lat_next {K:Nat} {acc:List Dt} {T:List Tk} {I:Nat} {res:PR (List Dt)} {w:World} {D:Nat→Prop} {us:List Value} {j x:Nat} (h:LAt K acc T I res) (hq:QF false w D T (andOrF (commandF K) (T.drop I)) us j x) :
 ∃(gd:Prop) (d:List Dt),(gd→NdD d∧RdL w D d us)∧QLt gd (res=listEnd (allLoop (commandF K) ((T.drop j).length+1) (acc++d) (T.drop j))) T j x res:=by
 rcases h with h | ⟨h,ds,r,hr,hc⟩
 ·rcases hq.split (listGo (commandF K) acc) (fun e=>rfl) (fun h=>by cases h) with ⟨ds,r,hr,hx,hn,hd,hj,hl⟩ | ⟨hx,hr⟩ | ⟨hx,ho,hr⟩
  ·refine⟨True,ds,fun _=>⟨hn,hd⟩,.inl ⟨trivial,hx,hl,?_⟩⟩;rw [h,hr,hj];rfl
  ·exact⟨False,[],fun h=>h.elim,.inr ⟨.inl hx,fun _ _ _=>QF.err hx (by rw [h,hr])⟩⟩
  ·exact⟨False,[],fun h=>h.elim,.inr ⟨.inr ho,fun _ _ _=>QF.stk ho hx (by rw [h,hr])⟩⟩
 ·rw [h] at hq;refine⟨False,[],fun h=>h.elim,.inr ?_⟩;rcases hq with ⟨h1,h2⟩ | ⟨h1,h2,h3⟩
  ·exact⟨.inl (by omega),fun _ _ _=>by rw [hr];exact .inr ⟨rfl,hc,.inl h1⟩⟩
  ·exact⟨.inr h3,fun _ _ _=>by rw [hr];exact .inr ⟨rfl,hc,.inr ⟨h2,h3⟩⟩⟩
theorem lat_stop {K:Nat} {acc:List Dt} {ts:List Tk} {res:PR (List Dt)} (h:res=listEnd (allLoop (commandF K) (ts.length+1) acc ts)) (h1:isOpF [59] ts=false) (h2:isOpF [10] ts=false):res=.ok (seqF acc,ts):=by
 rw [h,qallLoop_succ];unfold endsF;rw [h1,h2];rfl
theorem lat_more {K:Nat} {acc:List Dt} {ts:List Tk} {T:List Tk} {I:Nat} {res:PR (List Dt)} (h:res=listEnd (allLoop (commandF K) (ts.length+1) acc ts)) (h1:(isOpF [59] ts || isOpF [10] ts)=true) (hI:T.drop I=linesF ts.tail) :
 (closesF (T.drop I)=true→res=.ok (seqF acc,T.drop I))∧(closesF (T.drop I)=false→LAt K acc T I res):=by
 have he:endsF ts=(true,T.drop I):=by unfold endsF;rw [if_pos h1,hI]
 have hlt:=ends_lt (ts:=ts) (by rw [he]);rw [he] at hlt;rw [qallLoop_succ,he] at h;dsimp only at h hlt;rw [Bool.true_and] at h;constructor
 ·intro hc;rw [closes_more hc,if_neg (by simp)] at h;exact h
 ·intro hc;cases hm:moreF (T.drop I) with
  | false=>
   rw [hm,if_neg (by simp)] at h;exact .inr ⟨andOr_none K hm,_,_,h,hc⟩
  | true=>
   rw [hm,if_pos rfl] at h;refine .inl ?_;rw [h];unfold listGo;cases hq:andOrF (commandF K) (T.drop I) with
   | error e=>rfl
   | ok p=>
    obtain⟨d,r⟩:=p;have:=andOr_len (command_len K) _ _ _ hq;dsimp only;rw [allLoop_fuel (command_len K) ts.length (r.length+1) (acc++d) r (by omega) (by omega)]
end Go.Proofs.YtiihpbccabeoeaaGreatDoor
