/- The walk: a part. -/
import Derived.Test.YtiihpbccabeoeaaGreatDoorVPlA
import Derived.Test.YtiihpbccabeoeaaGreatDoorVPkE
import Derived.Test.YtiihpbccabeoeaaGreatDoorVPsA
import Derived.Test.YtiihpbccabeoeaaGreatDoorVPkI
import Derived.Test.YtiihpbccabeoeaaGreatDoorVPxAG
import Derived.Deep.AppendLies
namespace Go.Proofs.YtiihpbccabeoeaaGreatDoor
open Go.RowKit
set_option linter.unusedVariables false
set_option maxRecDepth 100000
set_option maxHeartbeats 16000000
theorem isOp_nl (t:List Tk):aj [10] (nlK::t)=true:=rfl
theorem ends_nl (t:List Tk):dm (nlK::t)=(true,ai t):=by
 unfold dm;rw [if_pos (by rw [isOp_nl];simp)];rfl
section
variable {cmd:List Tk→PR (List Dt)}
def Heads (cmd:List Tk→PR (List Dt)):Prop:=∀ts x,cmd ts=.ok x→bB ts=true
theorem command_heads:∀K,Heads (ab K)
 | 0,ts,x,h=>by unfold ab at h;split at h<;>cases h
 | K+1,ts,x,h=>by
  unfold ab at h;split at h
  ·next hb=>exact hb
  ·cases h
theorem andOr_more (hH:Heads cmd) {ts:List Tk} {x:List Dt×List Tk} (h:da cmd ts=.ok x):fj ts=true:=by
 unfold da bh at h;unfold fj;cases hw:aF [33] ts with
 | true=>simp
 | false=>
  rw [hw,if_neg (by decide)] at h;cases hc:cmd ts with
  | error e=>rw [hc] at h;cases h
  | ok p=>rw [hH _ _ hc];rfl
theorem ends_tail {ts t:List Tk} (h:(dm ts).2=[]):(dm (ts++nlK::t))=(true,ai t):=by
 cases ts with
 | nil=>exact ends_nl t
 | cons k r=>
  unfold dm at h ⊢;rw [k8 (by simp),k8 (by simp)];split at h
  ·next ho=>
   rw [if_pos ho];have h2:ai r=[]:=h;rw [show ((k::r)++nlK::t).tail=r++nlK::t from rfl,OP h2];rfl
  ·cases h
theorem tree_ok {ts:List Tk} {l:List Dt} (h:og cmd ts=.ok l) (hl:l≠[]):∃d r m,da cmd (ai ts)=.ok (d,r)∧cW cmd (r.length+1) d r=.ok (m,[])∧l=mi m∧ai ts≠[]:=by
 unfold og at h;split at h
 ·cases h;exact absurd rfl hl
 ·next hne=>
  split at h
  ·cases h
  ·next m r hq=>
   split at h
   ·next hr=>
    have hr0:r=[]:=List.isEmpty_iff.1 hr;subst hr0;unfold mM at hq;split at hq
    ·cases hq
    ·next d r1 ha=>exact⟨d,r1,m,ha,hq,by cases h;rfl,fun e=>hne (by rw [e];rfl)⟩
   ·cases h
end
def zLe0 {α:Type} (q' q:Except Nat α):Prop:=(∃e,q=.error e∧e≠0∧e≠3)∨q'=q∨q'=.error 3
theorem zLe0.rf {α:Type} (q:Except Nat α):zLe0 q q:=.inr (.inl rfl)
theorem zLe0.er {α:Type} {q':Except Nat α} {e:Nat} (h0:e≠0) (h3:e≠3):zLe0 q' (.error e):=.inl ⟨e,rfl,h0,h3⟩
theorem zLe0.th {α:Type} {q:Except Nat α}:zLe0 (.error 3) q:=.inr (.inr rfl)
theorem zLe0.ok {α:Type} {q' q:Except Nat α} {x:α} (h:zLe0 q' q) (hq:q=.ok x):q'=.ok x∨q'=.error 3:=by
 subst hq;rcases h with ⟨e,h,_⟩ | h | h
 ·cases h
 ·exact .inl h
 ·exact .inr h
theorem zLe0.trans {α:Type} {q1 q2 q3:Except Nat α} (h:zLe0 q1 q2) (g:zLe0 q2 q3):zLe0 q1 q3:=by
 rcases g with g | rfl | rfl
 ·exact .inl g
 ·exact h
 ·rcases h with ⟨e,h,_,h3⟩ | h | h
  ·cases h;exact absurd rfl h3
  ·exact .inr (.inr h)
  ·exact .inr (.inr h)
section
variable {cmd cmd':List Tk→PR (List Dt)} {scr scr':Bs→Except Nat Unit}
section
variable (hc:∀ts,zLe0 (cmd' ts) (cmd ts))
include hc
theorem pipeLoop_le:∀(n:Nat) (acc:List Dt) (ts:List Tk),zLe0 (cr cmd' n acc ts) (cr cmd n acc ts)
 | 0,_,_=>.rf _
 | n+1,acc,ts=>by
  unfold cr;split
  ·skip;rcases hc (ai ts.tail) with ⟨e,h,h0,h3⟩ | h | h<;>rw [h]
   ·exact .er h0 h3
   rotate_left
   ·exact .th
   split
   ·exact .rf _
   exact pipeLoop_le n _ _
  ·exact .rf _
theorem pipeline_le (ts:List Tk):zLe0 (bh cmd' ts) (bh cmd ts):=by
 unfold bh;rcases hc (if aF [33] ts then ts.tail else ts) with ⟨e,h,h0,h3⟩ | h | h<;>rw [h]
 ·exact .er h0 h3
 rotate_left
 ·exact .th
 split
 ·exact .rf _
 rcases pipeLoop_le hc _ _ _ with ⟨e,h,h0,h3⟩ | h | h<;>rw [h]
 ·exact .er h0 h3
 rotate_left
 ·exact .th
 split
 ·exact .rf _
 exact .rf _
theorem andLoop_le:∀(n:Nat) (acc:List Dt) (ts:List Tk),zLe0 (ck cmd' n acc ts) (ck cmd n acc ts)
 | 0,_,_=>.rf _
 | n+1,acc,ts=>by
  unfold ck;split
  ·skip;rcases pipeline_le hc (ai ts.tail) with ⟨e,h,h0,h3⟩ | h | h<;>rw [h]
   ·exact .er h0 h3
   rotate_left
   ·exact .th
   split
   ·exact .rf _
   exact andLoop_le n _ _
  split
  ·skip;rcases pipeline_le hc (ai ts.tail) with ⟨e,h,h0,h3⟩ | h | h<;>rw [h]
   ·exact .er h0 h3
   rotate_left
   ·exact .th
   split
   ·exact .rf _
   exact andLoop_le n _ _
  ·exact .rf _
theorem andOr_le (ts:List Tk):zLe0 (da cmd' ts) (da cmd ts):=by
 unfold da;rcases pipeline_le hc ts with ⟨e,h,h0,h3⟩ | h | h<;>rw [h]
 ·exact .er h0 h3
 rotate_left
 ·exact .th
 split
 ·exact .rf _
 exact andLoop_le hc _ _ _
theorem allLoop_le:∀(n:Nat) (acc:List Dt) (ts:List Tk),zLe0 (cW cmd' n acc ts) (cW cmd n acc ts)
 | 0,_,_=>.rf _
 | n+1,acc,ts=>by
  unfold cW;split
  ·skip;rcases andOr_le hc (dm ts).2 with ⟨e,h,h0,h3⟩ | h | h<;>rw [h]
   ·exact .er h0 h3
   rotate_left
   ·exact .th
   split
   ·exact .rf _
   exact allLoop_le n _ _
  ·exact .rf _
theorem all_le (ts:List Tk):zLe0 (mM cmd' ts) (mM cmd ts):=by
 unfold mM;rcases andOr_le hc ts with ⟨e,h,h0,h3⟩ | h | h<;>rw [h]
 ·exact .er h0 h3
 rotate_left
 ·exact .th
 split
 ·exact .rf _
 exact allLoop_le hc _ _ _
theorem list_le (ts:List Tk):zLe0 (bz cmd' ts) (bz cmd ts):=by
 unfold bz;rcases all_le hc (ai ts) with ⟨e,h,h0,h3⟩ | h | h<;>rw [h]
 ·exact .er h0 h3
 rotate_left
 ·exact .th
 split
 ·exact .rf _
 exact .rf _
theorem body_le (ts:List Tk):zLe0 (cL cmd' ts) (cL cmd ts):=by
 unfold cL;split
 ·exact .rf _
 rcases list_le hc _ with ⟨e,h,h0,h3⟩ | h | h<;>rw [h]
 ·exact .er h0 h3
 rotate_left
 ·exact .th
 split
 ·exact .rf _
 exact .rf _
theorem while_le (kind:Nat) (ts:List Tk):zLe0 (dE cmd' kind ts) (dE cmd kind ts):=by
 unfold dE;rcases list_le hc ts with ⟨e,h,h0,h3⟩ | h | h<;>rw [h]
 ·exact .er h0 h3
 rotate_left
 ·exact .th
 split
 ·exact .rf _
 rcases body_le hc _ with ⟨e,h,h0,h3⟩ | h | h<;>rw [h]
 ·exact .er h0 h3
 rotate_left
 ·exact .th
 split
 ·exact .rf _
 exact .rf _
theorem choiceLoop_le:∀(n:Nat) (acc:List Dt) (ts:List Tk),zLe0 (bD cmd' n acc ts) (bD cmd n acc ts)
 | 0,_,_=>.rf _
 | n+1,acc,ts=>by
  unfold bD;rcases list_le hc ts with ⟨e,h,h0,h3⟩ | h | h<;>rw [h]
  ·exact .er h0 h3
  rotate_left
  ·exact .th
  split
  ·exact .rf _
  split
  ·exact .rf _
  rcases list_le hc _ with ⟨e,h,h0,h3⟩ | h | h<;>rw [h]
  ·exact .er h0 h3
  rotate_left
  ·exact .th
  split
  ·exact .rf _
  split
  ·exact choiceLoop_le n _ _
  split
  ·skip;rcases list_le hc _ with ⟨e,h,h0,h3⟩ | h | h<;>rw [h]
   ·exact .er h0 h3
   rotate_left
   ·exact .th
   split
   ·exact .rf _
   exact .rf _
  ·exact .rf _
theorem choice_le (ts:List Tk):zLe0 (dx cmd' ts) (dx cmd ts):=by
 unfold dx;rcases choiceLoop_le hc _ _ _ with ⟨e,h,h0,h3⟩ | h | h<;>rw [h]
 ·exact .er h0 h3
 rotate_left
 ·exact .th
 split
 ·exact .rf _
 exact .rf _
theorem function_le (name:Bs) (ts:List Tk):zLe0 (cy cmd' name ts) (cy cmd name ts):=by
 unfold cy;split
 ·exact .rf _
 split
 ·skip;rcases hc _ with ⟨e,h,h0,h3⟩ | h | h<;>rw [h]
  ·exact .er h0 h3
  rotate_left
  ·exact .th
  split
  ·exact .rf _
  exact .rf _
 ·exact .rf _
theorem shut_le (kind:Nat) (close:List Tk→PR Unit) (ts:List Tk):zLe0 (fu cmd' kind close ts) (fu cmd kind close ts):=by
 unfold fu;rcases list_le hc ts with ⟨e,h,h0,h3⟩ | h | h<;>rw [h]
 ·exact .er h0 h3
 rotate_left
 ·exact .th
 split
 ·exact .rf _
 exact .rf _
theorem tree_le (ts:List Tk):zLe0 (og cmd' ts) (og cmd ts):=by
 unfold og;split
 ·exact .rf _
 rcases all_le hc _ with ⟨e,h,h0,h3⟩ | h | h<;>rw [h]
 ·exact .er h0 h3
 rotate_left
 ·exact .th
 split
 ·exact .rf _
 exact .rf _
theorem script_le (s:Bs):zLe0 (eQ cmd' s) (eQ cmd s):=by
 unfold eQ;split
 ·exact .rf _
 ·exact tree_le hc _
theorem scr_le (s:Bs):zLe0 (av cmd' s) (av cmd s):=by
 unfold av;rcases script_le hc s with ⟨e,h,h0,h3⟩ | h | h<;>rw [h]
 ·cases e with
  | zero=>exact absurd rfl h0
  | succ e=>exact .er h0 h3
 ·exact .rf _
 ·exact .th
end
mutual
theorem subsP_le (hs:∀s,zLe0 (scr' s) (scr s)):∀p:Pt,zLe0 (RO scr' p) (RO scr p)
 | .mk k t _ _ w _=>by
  unfold RO;cases k==5 with
  | false=>exact subsF_le hs w
  | true=>
   rw [if_pos rfl,if_pos rfl];rcases hs t with ⟨e,h,h0,h3⟩ | h | h<;>rw [h]
   ·exact .er h0 h3
   rotate_left
   ·exact .th
   split
   ·exact .rf _
   exact subsF_le hs w
theorem subsF_le (hs:∀s,zLe0 (scr' s) (scr s)):∀l:List Pt,zLe0 (ec scr' l) (ec scr l)
 | []=>by unfold ec;exact .rf _
 | p::l=>by
  unfold ec;rcases subsP_le hs p with ⟨e,h,h0,h3⟩ | h | h<;>rw [h]
  ·exact .er h0 h3
  rotate_left
  ·exact .th
  split
  ·exact .rf _
  exact subsF_le hs l
end
section
variable (hs:∀s,zLe0 (scr' s) (scr s))
include hs
theorem word_le (ts:List Tk):zLe0 (ca scr' ts) (ca scr ts):=by
 unfold ca;split
 ·skip;rcases subsF_le hs (ch ts).word with ⟨e,h,h0,h3⟩ | h | h<;>rw [h]
  ·exact .er h0 h3
  rotate_left
  ·exact .th
  split
  ·exact .rf _
  exact .rf _
 ·exact .rf _
theorem redir_le (ts:List Tk):zLe0 (dN scr' ts) (dN scr ts):=by
 unfold dN;rcases word_le hs ts.tail with ⟨e,h,h0,h3⟩ | h | h<;>rw [h]
 ·exact .er h0 h3
 rotate_left
 ·exact .th
 split
 ·exact .rf _
 exact .rf _
theorem redirs_le:∀(n:Nat) (acc:List Dt) (ts:List Tk),zLe0 (bm scr' n acc ts) (bm scr n acc ts)
 | 0,_,_=>.rf _
 | n+1,acc,ts=>by
  unfold bm;split
  ·skip;rcases redir_le hs ts with ⟨e,h,h0,h3⟩ | h | h<;>rw [h]
   ·exact .er h0 h3
   rotate_left
   ·exact .th
   split
   ·exact .rf _
   exact redirs_le n _ _
  ·exact .rf _
theorem simple_le:∀(n:Nat) (ws gz rs:List Dt) (ts:List Tk),zLe0 (bj scr' n ws gz rs ts) (bj scr n ws gz rs ts)
 | 0,_,_,_,_=>.rf _
 | n+1,ws,gz,rs,ts=>by
  unfold bj;split
  ·skip;rcases redir_le hs ts with ⟨e,h,h0,h3⟩ | h | h<;>rw [h]
   ·exact .er h0 h3
   rotate_left
   ·exact .th
   split
   ·exact .rf _
   exact simple_le n _ _ _ _
  split
  ·skip;rcases word_le hs ts with ⟨e,h,h0,h3⟩ | h | h<;>rw [h]
   ·exact .er h0 h3
   rotate_left
   ·exact .th
   split
   ·exact .rf _
   split
   ·exact simple_le n _ _ _ _
   ·exact simple_le n _ _ _ _
  ·exact .rf _
theorem wordsLoop_le:∀(n:Nat) (acc:List Dt) (ts:List Tk),zLe0 (bC scr' n acc ts) (bC scr n acc ts)
 | 0,_,_=>.rf _
 | n+1,acc,ts=>by
  unfold bC;split
  ·skip;rcases word_le hs ts with ⟨e,h,h0,h3⟩ | h | h<;>rw [h]
   ·exact .er h0 h3
   rotate_left
   ·exact .th
   split
   ·exact .rf _
   exact wordsLoop_le n _ _
  ·exact .rf _
theorem patsLoop_le:∀(n:Nat) (acc:List Dt) (ts:List Tk),zLe0 (bT scr' n acc ts) (bT scr n acc ts)
 | 0,_,_=>.rf _
 | n+1,acc,ts=>by
  unfold bT;split
  ·skip;rcases word_le hs ts.tail with ⟨e,h,h0,h3⟩ | h | h<;>rw [h]
   ·exact .er h0 h3
   rotate_left
   ·exact .th
   split
   ·exact .rf _
   exact patsLoop_le n _ _
  ·exact .rf _
theorem with_le {q' q:PR (List Dt)} (hq:zLe0 q' q):zLe0 (aM scr' q') (aM scr q):=by
 unfold aM;rcases hq with ⟨e,h,h0,h3⟩ | h | h<;>rw [h]
 ·exact .er h0 h3
 rotate_left
 ·exact .th
 split
 ·exact .rf _
 rcases redirs_le hs _ _ _ with ⟨e,h,h0,h3⟩ | h | h<;>rw [h]
 ·exact .er h0 h3
 rotate_left
 ·exact .th
 split
 ·exact .rf _
 exact .rf _
variable (hc:∀ts,zLe0 (cmd' ts) (cmd ts))
include hc
theorem each_le (ts:List Tk):zLe0 (fh cmd' scr' ts) (fh cmd scr ts):=by
 unfold fh;split
 ·split
  ·skip;rcases wordsLoop_le hs _ _ _ with ⟨e,h,h0,h3⟩ | h | h<;>rw [h]
   ·exact .er h0 h3
   rotate_left
   ·exact .th
   split
   ·exact .rf _
   split
   ·skip;rcases body_le hc _ with ⟨e,h,h0,h3⟩ | h | h<;>rw [h]
    ·exact .er h0 h3
    rotate_left
    ·exact .th
    split
    ·exact .rf _
    exact .rf _
   ·exact .rf _
  ·skip;rcases body_le hc _ with ⟨e,h,h0,h3⟩ | h | h<;>rw [h]
   ·exact .er h0 h3
   rotate_left
   ·exact .th
   split
   ·exact .rf _
   exact .rf _
 ·exact .rf _
theorem arm_le (ts:List Tk):zLe0 (lu cmd' scr' ts) (lu cmd scr ts):=by
 unfold lu;rcases word_le hs _ with ⟨e,h,h0,h3⟩ | h | h<;>rw [h]
 ·exact .er h0 h3
 rotate_left
 ·exact .th
 split
 ·exact .rf _
 rcases patsLoop_le hs _ _ _ with ⟨e,h,h0,h3⟩ | h | h<;>rw [h]
 ·exact .er h0 h3
 rotate_left
 ·exact .th
 split
 ·exact .rf _
 split
 ·exact .rf _
 split
 ·skip;rcases list_le hc _ with ⟨e,h,h0,h3⟩ | h | h<;>rw [h]
  ·exact .er h0 h3
  rotate_left
  ·exact .th
  split
  ·exact .rf _
  exact .rf _
 ·exact .rf _
theorem arms_le:∀(n:Nat) (acc:List Dt) (ts:List Tk),zLe0 (bF cmd' scr' n acc ts) (bF cmd scr n acc ts)
 | 0,_,_=>.rf _
 | n+1,acc,ts=>by
  unfold bF;split
  ·exact .rf _
  rcases arm_le hs hc ts with ⟨e,h,h0,h3⟩ | h | h<;>rw [h]
  ·exact .er h0 h3
  rotate_left
  ·exact .th
  split
  ·exact .rf _
  split
  ·exact arms_le n _ _
  ·exact .rf _
theorem cases_le (ts:List Tk):zLe0 (eA cmd' scr' ts) (eA cmd scr ts):=by
 unfold eA;rcases word_le hs ts with ⟨e,h,h0,h3⟩ | h | h<;>rw [h]
 ·exact .er h0 h3
 rotate_left
 ·exact .th
 split
 ·exact .rf _
 split
 ·exact .rf _
 rcases arms_le hs hc _ _ _ with ⟨e,h,h0,h3⟩ | h | h<;>rw [h]
 ·exact .er h0 h3
 rotate_left
 ·exact .th
 split
 ·exact .rf _
 exact .rf _
theorem inner_le (ts:List Tk):zLe0 (gV cmd' scr' ts) (gV cmd scr ts):=by
 unfold gV cw;by_cases c1:aj [40] ts=true
 ·rw [if_pos c1,if_pos c1];exact with_le hs (shut_le hc _ _ _)
 rw [if_neg c1,if_neg c1];by_cases c2:aF [123] ts=true
 ·rw [if_pos c2,if_pos c2];exact with_le hs (shut_le hc _ _ _)
 rw [if_neg c2,if_neg c2];by_cases c3:aF [105,102] ts=true
 ·rw [if_pos c3,if_pos c3];exact with_le hs (choice_le hc _)
 rw [if_neg c3,if_neg c3];by_cases c4:aF [119,104,105,108,101] ts=true
 ·rw [if_pos c4,if_pos c4];exact with_le hs (while_le hc _ _)
 rw [if_neg c4,if_neg c4];by_cases c5:aF [117,110,116,105,108] ts=true
 ·rw [if_pos c5,if_pos c5];exact with_le hs (while_le hc _ _)
 rw [if_neg c5,if_neg c5];by_cases c6:aF [102,111,114] ts=true
 ·rw [if_pos c6,if_pos c6];exact with_le hs (each_le hs hc _)
 rw [if_neg c6,if_neg c6];by_cases c7:aF [99,97,115,101] ts=true
 ·rw [if_pos c7,if_pos c7];exact with_le hs (cases_le hs hc _)
 rw [if_neg c7,if_neg c7];by_cases c8:(bK (aJ (ch ts)) && fF ts)=true
 ·rw [if_pos c8,if_pos c8];exact function_le hc _ _
 rw [if_neg c8,if_neg c8];exact simple_le hs _ _ _ _ _
end
end
theorem command_le:∀(K:Nat) (ts:List Tk),zLe0 (ab K ts) (ab (K+1) ts)
 | 0,ts=>by
  unfold ab;split
  ·exact .th
  ·exact .rf _
 | K+1,ts=>by
  rw [ab,ab];split
  ·exact inner_le (scr_le (command_le K)) (command_le K) ts
  ·exact .rf _
theorem allLoop_shut {cmd:List Tk→PR (List Dt)} (hN:lH cmd) (t:List Tk) (hS:Nq cmd (nlK::t)) (ht:fj (ai t)=false) :
 ∀{n n':Nat} {acc:List Dt} {ts:List Tk} {d:List Dt},n≤n'→cW cmd n acc ts=.ok (d,[])→cW cmd n' acc (ts++nlK::t)=.ok (d,ai t)
 | 0,_,_,_,_,_,h=>by cases h
 | n+1,0,_,_,_,hn,h=>by omega
 | n+1,n'+1,acc,ts,d,hn,h=>by
  unfold cW at h;split at h
  ·next ho=>
   have hm:fj (dm ts).2=true:=by rw [Bool.and_eq_true] at ho;exact ho.2
   have hen:=FY hm;have hts:ts≠[]:=by rintro rfl;exact hen rfl
   unfold cW;rw [Lc hts hen];dsimp only;rw [AS (.ne hen),if_pos ho];split at h
   ·cases h
   ·next d1 r1 hq=>
    rw [Fk hN hS _ _ _ hq (.inr ⟨_,rfl⟩)];exact allLoop_shut hN t hS ht (by omega) h
  ·next ho=>
   have hr:(dm ts).2=[]:=(Prod.mk.inj (Except.ok.inj h)).2;have hd:acc=d:=(Prod.mk.inj (Except.ok.inj h)).1;subst hd;unfold cW;rw [ends_tail hr];dsimp only;rw [ht,if_neg (by simp)]
theorem list_shut {K:Nat} {x:List Tk} {la:List Dt} (h:og (ab K) x=.ok la) (hl:la≠[]) :
 (∀t,fj (ai t)=false→bz (ab K) (x++nlK::t)=.ok (la,ai t))∧la.length=8∧∀t,fj (ai (x++nlK::t))=true:=by
 obtain⟨d,r,m,a1,a2,a3,a4⟩:=tree_ok h hl;refine⟨fun t ht=>?_,?_,fun t=>?_⟩
 ·unfold bz mM;rw [fD a4,Fk (BO K) (GV _ K) _ _ _ a1 (.inr ⟨_,rfl⟩)];dsimp only;rw [allLoop_shut (BO K) t (GV _ K) ht (n:=r.length+1) (by rw [List.length_append];omega) a2,a3]
 ·rw [a3];unfold mi;split
  ·assumption
  ·rfl
 ·rw [fD a4,AS (.ne a4)];exact andOr_more (command_heads K) a1
def LR (cmd:List Tk→PR (List Dt)) (x:List Tk) (la:List Dt):Prop:=∀t,fj (ai t)=false→bz cmd (x++nlK::t)=.ok (la,ai t)∨bz cmd (x++nlK::t)=.error 3
theorem lr_of {x:List Tk} {la:List Dt} (h:og (ab 40) x=.ok la) (hl:la≠[]):LR (ab 39) x la∧LR (ab 38) x la:=
 ⟨fun t ht=>(list_le (command_le 39) _).ok ((list_shut h hl).1 t ht),fun t ht=>(list_le (fun ts=>(command_le 38 ts).trans (command_le 39 ts)) _).ok ((list_shut h hl).1 t ht)⟩
def zwK0 (s:Bs):Tk:=⟨1,[],[dD s]⟩
def zoK0 (s:Bs):Tk:=⟨2,s,[]⟩
theorem word_k (scr:Bs→Except Nat Unit) (s:Bs) (R:List Tk):ca scr (zwK0 s::R)=.ok ([dD s],R):=by
 show (match ec scr [dD s] with
  | .error e=>(.error e:PR (List Pt))
  | .ok _=>.ok ([dD s],R))=_
 rw [show ec scr [dD s]=.ok () from by simp [ec,RO,dD]]
theorem lines_lines:∀ts:List Tk,ai (ai ts)=ai ts
 | []=>rfl
 | t::r=>by
  rw [ai];split
  ·exact lines_lines r
  ·next h=>rw [ai,if_neg h]
theorem list_lines (cmd:List Tk→PR (List Dt)) (ts:List Tk):bz cmd (ai ts)=bz cmd ts:=by unfold bz;rw [lines_lines]
def Fit (q:PR (List Dt)) (D:List Dt):Prop:=q=.ok (D,[])∨q=.error 3
section
variable {cmd:List Tk→PR (List Dt)} {scr:Bs→Except Nat Unit} {x:List Tk} {la:List Dt} (h:LR cmd x la)
include h
theorem brace_w:Fit (aM scr (fu cmd 12 (cO [125]) (x++nlK::[zwK0 [125]]))) (cE 12 false [] [] [] [] la []):=by
 unfold fu;rcases h [zwK0 [125]] rfl with e | e<;>rw [e]
 ·exact .inl rfl
 ·exact .inr rfl
theorem paren_w:Fit (aM scr (fu cmd 13 (en [41]) (x++nlK::[zoK0 [41]]))) (cE 13 false [] [] [] [] la []):=by
 unfold fu;rcases h [zoK0 [41]] rfl with e | e<;>rw [e]
 ·exact .inl rfl
 ·exact .inr rfl
theorem body_w:cL cmd (zwK0 [100,111]::(x++nlK::[zwK0 [100,111,110,101]]))=.ok (la,[])∨cL cmd (zwK0 [100,111]::(x++nlK::[zwK0 [100,111,110,101]]))=.error 3:=by
 unfold cL;rw [show cO [100,111] (zwK0 [100,111]::(x++nlK::[zwK0 [100,111,110,101]]))=.ok ((),x++nlK::[zwK0 [100,111,110,101]]) from rfl];dsimp only;rcases h [zwK0 [100,111,110,101]] rfl with e | e<;>rw [e]
 ·exact .inl rfl
 ·exact .inr rfl
theorem while_w:Fit (aM scr (dE cmd 7 (x++nlK::zwK0 [100,111]::(x++nlK::[zwK0 [100,111,110,101]])))) (cE 7 false [] [] [] [] (la++la) []):=by
 unfold dE;rcases h (zwK0 [100,111]::(x++nlK::[zwK0 [100,111,110,101]])) rfl with e | e<;>rw [e];rotate_left
 ·exact .inr rfl
 rw [show ai (zwK0 [100,111]::(x++nlK::[zwK0 [100,111,110,101]]))=zwK0 [100,111]::(x++nlK::[zwK0 [100,111,110,101]]) from rfl];dsimp only;rcases body_w h with e | e<;>rw [e]
 ·exact .inl rfl
 ·exact .inr rfl
theorem if_w:Fit (aM scr (dx cmd (x++nlK::zwK0 [116,104,101,110]::(x++nlK::zwK0 [101,108,115,101]::(x++nlK::[zwK0 [102,105]]))))) (cE 6 false [] [] [] [] (la++la++la) []):=by
 unfold dx bD;rcases h (zwK0 [116,104,101,110]::(x++nlK::zwK0 [101,108,115,101]::(x++nlK::[zwK0 [102,105]]))) rfl with e | e<;>rw [e];rotate_left
 ·exact .inr rfl
 dsimp only;rw [show cO [116,104,101,110] (ai (zwK0 [116,104,101,110]::(x++nlK::zwK0 [101,108,115,101]::(x++nlK::[zwK0 [102,105]]))))=.ok ((),x++nlK::zwK0 [101,108,115,101]::(x++nlK::[zwK0 [102,105]])) from rfl];dsimp only;rcases h (zwK0 [101,108,115,101]::(x++nlK::[zwK0 [102,105]])) rfl with e | e<;>rw [e];rotate_left
 ·exact .inr rfl
 dsimp only;rw [show ai (zwK0 [101,108,115,101]::(x++nlK::[zwK0 [102,105]]))=zwK0 [101,108,115,101]::(x++nlK::[zwK0 [102,105]]) from rfl,
  if_neg (by rw [show aF [101,108,105,102] (zwK0 [101,108,115,101]::(x++nlK::[zwK0 [102,105]]))=false from rfl];simp),if_pos (show aF [101,108,115,101] (zwK0 [101,108,115,101]::(x++nlK::[zwK0 [102,105]]))=true from rfl),
  show (zwK0 [101,108,115,101]::(x++nlK::[zwK0 [102,105]])).tail=x++nlK::[zwK0 [102,105]] from rfl]
 rcases h [zwK0 [102,105]] rfl with e | e<;>rw [e]
 ·exact .inl rfl
 ·exact .inr rfl
theorem case_w (hm:∀t,fj (ai (x++nlK::t))=true):Fit (aM scr (eA cmd scr (zwK0 [120]::zwK0 [105,110]::zwK0 [121]::zoK0 [41]::(x++nlK::zoK0 [59,59]::[zwK0 [101,115,97,99]])))) (cE 10 false [] [aB [dD [120]]] [] [] [] [.sl 1 [aB [dD [121]]],.sl 8 la]):=by
 have ha:lu cmd scr (zwK0 [121]::zoK0 [41]::(x++nlK::zoK0 [59,59]::[zwK0 [101,115,97,99]]))=.ok ([.sl 1 [aB [dD [121]]],.sl 8 la],zoK0 [59,59]::[zwK0 [101,115,97,99]])∨lu cmd scr (zwK0 [121]::zoK0 [41]::(x++nlK::zoK0 [59,59]::[zwK0 [101,115,97,99]]))=.error 3:=by
  unfold lu;rw [show (if aj [40] (zwK0 [121]::zoK0 [41]::(x++nlK::zoK0 [59,59]::[zwK0 [101,115,97,99]])) then (zwK0 [121]::zoK0 [41]::(x++nlK::zoK0 [59,59]::[zwK0 [101,115,97,99]])).tail else zwK0 [121]::zoK0 [41]::(x++nlK::zoK0 [59,59]::[zwK0 [101,115,97,99]]))=zwK0 [121]::zoK0 [41]::(x++nlK::zoK0 [59,59]::[zwK0 [101,115,97,99]]) from rfl,word_k];dsimp only;rw [show bT scr ((zoK0 [41]::(x++nlK::zoK0 [59,59]::[zwK0 [101,115,97,99]])).length+1) [aB [dD [121]]] (zoK0 [41]::(x++nlK::zoK0 [59,59]::[zwK0 [101,115,97,99]]))=.ok ([aB [dD [121]]],zoK0 [41]::(x++nlK::zoK0 [59,59]::[zwK0 [101,115,97,99]])) from rfl]
  dsimp only;rw [show en [41] (zoK0 [41]::(x++nlK::zoK0 [59,59]::[zwK0 [101,115,97,99]]))=.ok ((),x++nlK::zoK0 [59,59]::[zwK0 [101,115,97,99]]) from rfl];dsimp only;rw [if_pos (hm _),list_lines];rcases h (zoK0 [59,59]::[zwK0 [101,115,97,99]]) rfl with e | e<;>rw [e]
  ·exact .inl rfl
  ·exact .inr rfl
 unfold eA;rw [word_k];dsimp only;rw [show cO [105,110] (ai (zwK0 [105,110]::zwK0 [121]::zoK0 [41]::(x++nlK::zoK0 [59,59]::[zwK0 [101,115,97,99]])))=.ok ((),zwK0 [121]::zoK0 [41]::(x++nlK::zoK0 [59,59]::[zwK0 [101,115,97,99]])) from rfl];dsimp only;rw [show ai (zwK0 [121]::zoK0 [41]::(x++nlK::zoK0 [59,59]::[zwK0 [101,115,97,99]]))=zwK0 [121]::zoK0 [41]::(x++nlK::zoK0 [59,59]::[zwK0 [101,115,97,99]]) from rfl];unfold bF
 rw [if_neg (by rw [show aF [101,115,97,99] (zwK0 [121]::zoK0 [41]::(x++nlK::zoK0 [59,59]::[zwK0 [101,115,97,99]]))=false from rfl];simp)];rcases ha with e | e<;>rw [e]
 ·exact .inl rfl
 ·exact .inr rfl
theorem for_w:Fit (aM scr (fh cmd scr (zwK0 [105]::zwK0 [105,110]::zwK0 [49]::zwK0 [50]::zoK0 [59]::zwK0 [100,111]::(x++nlK::[zwK0 [100,111,110,101]])))) (cE 9 false [105] [aB [dD [49]],aB [dD [50]]] [] [] la []):=by
 have hw:∀(n:Nat) (R:List Tk),bC scr (n+3) [] (zwK0 [49]::zwK0 [50]::zoK0 [59]::R)=.ok ([aB [dD [49]],aB [dD [50]]],zoK0 [59]::R):=fun n R=>by
  rw [bC,if_pos (show ((ch (zwK0 [49]::zwK0 [50]::zoK0 [59]::R)).kind==1)=true from rfl),word_k];dsimp only;rw [bC,if_pos (show ((ch (zwK0 [50]::zoK0 [59]::R)).kind==1)=true from rfl),word_k];rfl
 unfold fh;rw [if_pos (show bK (aJ (ch (zwK0 [105]::zwK0 [105,110]::zwK0 [49]::zwK0 [50]::zoK0 [59]::zwK0 [100,111]::(x++nlK::[zwK0 [100,111,110,101]]))))=true from rfl)];rw [show ai (zwK0 [105]::zwK0 [105,110]::zwK0 [49]::zwK0 [50]::zoK0 [59]::zwK0 [100,111]::(x++nlK::[zwK0 [100,111,110,101]])).tail=zwK0 [105,110]::zwK0 [49]::zwK0 [50]::zoK0 [59]::zwK0 [100,111]::(x++nlK::[zwK0 [100,111,110,101]]) from rfl];rw [if_pos (show aF [105,110] (zwK0 [105,110]::zwK0 [49]::zwK0 [50]::zoK0 [59]::zwK0 [100,111]::(x++nlK::[zwK0 [100,111,110,101]]))=true from rfl)]
 rw [show (zwK0 [105,110]::zwK0 [49]::zwK0 [50]::zoK0 [59]::zwK0 [100,111]::(x++nlK::[zwK0 [100,111,110,101]])).tail=zwK0 [49]::zwK0 [50]::zoK0 [59]::zwK0 [100,111]::(x++nlK::[zwK0 [100,111,110,101]]) from rfl];rw [show (zwK0 [49]::zwK0 [50]::zoK0 [59]::zwK0 [100,111]::(x++nlK::[zwK0 [100,111,110,101]])).length+1=((x++nlK::[zwK0 [100,111,110,101]]).length+2)+3 from rfl,hw];dsimp only;rw [if_pos (show (aj [59] (zoK0 [59]::zwK0 [100,111]::(x++nlK::[zwK0 [100,111,110,101]])) || aj [10] (zoK0 [59]::zwK0 [100,111]::(x++nlK::[zwK0 [100,111,110,101]])))=true from rfl)]
 rw [show ai (zoK0 [59]::zwK0 [100,111]::(x++nlK::[zwK0 [100,111,110,101]])).tail=zwK0 [100,111]::(x++nlK::[zwK0 [100,111,110,101]]) from rfl];rcases body_w h with e | e<;>rw [e]
 ·exact .inl rfl
 ·exact .inr rfl
end
def wrapT (k:Nat) (x:List Tk):List Tk:=match k with
 | 0=>zwK0 [123]::(x++nlK::[zwK0 [125]])
 | 1=>zoK0 [40]::(x++nlK::[zoK0 [41]])
 | 2=>zwK0 [119,104,105,108,101]::(x++nlK::zwK0 [100,111]::(x++nlK::[zwK0 [100,111,110,101]]))
 | 3=>zwK0 [105,102]::(x++nlK::zwK0 [116,104,101,110]::(x++nlK::zwK0 [101,108,115,101]::(x++nlK::[zwK0 [102,105]])))
 | 4=>zwK0 [102]::zoK0 [40]::zoK0 [41]::zwK0 [123]::(x++nlK::[zwK0 [125]])
 | 5=>zwK0 [99,97,115,101]::zwK0 [120]::zwK0 [105,110]::zwK0 [121]::zoK0 [41]::(x++nlK::zoK0 [59,59]::[zwK0 [101,115,97,99]])
 | _=>zwK0 [102,111,114]::zwK0 [105]::zwK0 [105,110]::zwK0 [49]::zwK0 [50]::zoK0 [59]::zwK0 [100,111]::(x++nlK::[zwK0 [100,111,110,101]])
def wrapS (k:Nat) (a:Bs):Bs:=match k with
 | 0=>123::32::(a++10::[125])
 | 1=>40::(a++10::[41])
 | 2=>119::104::105::108::101::32::(a++10::100::111::32::(a++10::[100,111,110,101]))
 | 3=>105::102::32::(a++10::116::104::101::110::32::(a++10::101::108::115::101::32::(a++10::[102,105])))
 | 4=>102::40::41::32::123::32::(a++10::[125])
 | 5=>99::97::115::101::32::120::32::105::110::32::121::41::32::(a++10::59::59::32::[101,115,97,99])
 | _=>102::111::114::32::105::32::105::110::32::49::32::50::59::32::100::111::32::(a++10::[100,111,110,101])
def wrapD (k:Nat) (la:List Dt):List Dt:=match k with
 | 0=>cE 12 false [] [] [] [] la []
 | 1=>cE 13 false [] [] [] [] la []
 | 2=>cE 7 false [] [] [] [] (la++la) []
 | 3=>cE 6 false [] [] [] [] (la++la++la) []
 | 4=>cE 11 false [102] [] [] [] (cE 12 false [] [] [] [] la []) []
 | 5=>cE 10 false [] [aB [dD [120]]] [] [] [] [.sl 1 [aB [dD [121]]],.sl 8 la]
 | _=>cE 9 false [105] [aB [dD [49]],aB [dD [50]]] [] [] la []
theorem wrap_len (k:Nat) (la:List Dt):(wrapD k la).length=8:=by unfold wrapD;split<;>rfl
theorem wrap_head (k:Nat) (x:List Tk):ai (wrapT k x)=wrapT k x∧(wrapT k x).isEmpty=false∧aF [33] (wrapT k x)=false:=by unfold wrapT;split<;>exact⟨rfl,rfl,rfl⟩
theorem tree_fit {T:List Tk} {D:List Dt} (hl:ai T=T) (hT:T.isEmpty=false) (hb:aF [33] T=false) (h:Fit (ab 40 T) D) (hd:D.length=8):og (ab 40) T=.ok D∨og (ab 40) T=.error 3:=by
 unfold og mM da bh;rw [hl,if_neg (by rw [hT];simp),hb,if_neg (by simp)];rcases h with h | h<;>rw [h]
 ·left;dsimp only;rw [show cr (ab 40) (([]:List Tk).length+1) D []=.ok (D,[]) from rfl];dsimp only;rw [if_pos ⟨hd,rfl⟩];dsimp only;rw [show ck (ab 40) (([]:List Tk).length+1) D []=.ok (D,[]) from rfl];dsimp only;rw [show cW (ab 40) (([]:List Tk).length+1) D []=.ok (D,[]) from rfl];show Except.ok (mi D)=_;unfold mi;rw [if_pos hd]
 ·exact .inr rfl
theorem wrap_tree {x:List Tk} {la:List Dt} (ht:og (ab 40) x=.ok la) (hn:la≠[]) (k:Nat):og (ab 40) (wrapT k x)=.ok (wrapD k la)∨og (ab 40) (wrapT k x)=.error 3:=by
 obtain⟨h,h'⟩:=lr_of ht hn;obtain⟨h1,h2,h3⟩:=wrap_head k x;refine tree_fit h1 h2 h3 ?_ (wrap_len k la);clear h1 h2 h3;unfold wrapT wrapD;split
 ·exact brace_w (scr:=av (ab 39)) h
 ·exact paren_w (scr:=av (ab 39)) h
 ·exact while_w (scr:=av (ab 39)) h
 ·exact if_w (scr:=av (ab 39)) h
 ·show Fit (cy (ab 39) [102] (zwK0 [102]::zoK0 [40]::zoK0 [41]::zwK0 [123]::(x++nlK::[zwK0 [125]]))) _;unfold cy;rw [show en [41] (zwK0 [102]::zoK0 [40]::zoK0 [41]::zwK0 [123]::(x++nlK::[zwK0 [125]])).tail.tail=.ok ((),zwK0 [123]::(x++nlK::[zwK0 [125]])) from rfl];dsimp only;rw [show ai (zwK0 [123]::(x++nlK::[zwK0 [125]]))=zwK0 [123]::(x++nlK::[zwK0 [125]]) from rfl,if_pos (by rfl)];rcases (show Fit (ab 39 (zwK0 [123]::(x++nlK::[zwK0 [125]]))) _ from brace_w (scr:=av (ab 38)) h') with e | e<;>rw [e]
  ·exact .inl rfl
  ·exact .inr rfl
 ·exact case_w (scr:=av (ab 39)) h (list_shut ht hn).2.2
 ·exact for_w (scr:=av (ab 39)) h
/-! The tokens. -/
theorem tok_k {c:UInt8} {s X:List UInt8} {l:List Tk} (ho:dg (c::(s++X))=[]) (hh:(!(c==32 || c==9) && !(c==35) && !(c==92) && !(c==38))=true) (hs:(c::s).all (fun c=>Eu c && !bY c)=true) (hX:kv false X=.ok ([],X)) (h:fZ X=.ok l):fZ (c::(s++X))=.ok (zwK0 (c::s)::l):=by
 simp only [Bool.and_eq_true,Bool.not_eq_true'] at hh;obtain⟨⟨⟨h2,h3⟩,h4⟩,h5⟩:=hh;rw [io,U2 h2 h3 h4];dsimp only;rw [ph ho h5,←List.cons_append,IW false (c::s) X (fun x hx=>by
  have:=List.all_eq_true.1 hs x hx;simp only [Bool.and_eq_true,Bool.not_eq_true'] at this;exact⟨this.1,.inr this.2⟩),hX]
 show (match (Except.ok (⟨1,[],eh (((c::s).map fun c=>dD [c])++[])⟩,X):Except Nat (Tk×List UInt8)) with
  | .error e=>Except.error e
  | .ok (x,r1)=>oL x (fZ r1))=_
 rw [List.append_nil,Yl];dsimp only;rw [h];rfl
theorem brk_k {y:UInt8} {t:List UInt8} (h:bY y=true):kv false (y::t)=.ok ([],y::t):=by rw [jx,if_pos (by rw [h];rfl)]
theorem tok_b {c:UInt8} {s X:List UInt8} {l:List Tk} (hh:(!(c==32 || c==9) && !(c==35) && !(c==92) && !(c==38))=true) (hs:(c::s).all (fun c=>Eu c && !bY c)=true) (h:fZ X=.ok l) (ho:dg (c::(s++32::X))=[]):fZ (c::(s++32::X))=.ok (zwK0 (c::s)::l):=
 tok_k ho hh hs (brk_k (by decide)) (by rw [Uc (by decide)];exact h)
theorem tok_o {o t X:List UInt8} {c:UInt8} {l:List Tk} (ho:o=c::t) (h:dg (o++X)=o) (hh:(c==32 || c==9)=false∧(c==35)=false∧(c==92)=false) (hX:fZ X=.ok l):fZ (o++X)=.ok (zoK0 o::l):=by
 have ht:ed (o++X)=.ok (⟨2,o,[]⟩,X):=by
  rw [pO (by rw [h,ho];exact List.cons_ne_nil _ _),h,List.drop_left]
 have hs:bU false (o++X)=o++X:=by rw [ho];exact U2 hh.1 hh.2.1 hh.2.2 _
 rw [io,hs];rw [ho] at ht ⊢;dsimp only [List.cons_append] at ht ⊢;rw [ht];dsimp only;rw [hX];rfl
theorem wrap_toks {a:Bs} {x:List Tk} (hf:lW a) (ha:fZ a=.ok x) (k:Nat):fZ (wrapS k a)=.ok (wrapT k x):=by
 have A:∀{b:Bs} {l:List Tk},fZ b=.ok l→fZ (a++10::b)=.ok (x++nlK::l):=fun {b l} hb=>by
  rw [Ue b _ a x (Nat.le_refl _) hf ha,MM,hb];rfl
 unfold wrapS wrapT;split
 ·exact tok_b (c:=123) (s:=[]) (by decide) (by decide) (A (by rfl)) (by rfl)
 ·exact tok_o (o:=[40]) (t:=[]) rfl (by rfl) (by decide) (A (by rfl))
 ·exact tok_b (c:=119) (s:=[104,105,108,101]) (by decide) (by decide) (A (tok_b (c:=100) (s:=[111]) (by decide) (by decide) (A (by rfl)) (by rfl))) (by rfl)
 ·exact tok_b (c:=105) (s:=[102]) (by decide) (by decide) (A (tok_b (c:=116) (s:=[104,101,110]) (by decide) (by decide) (A (tok_b (c:=101) (s:=[108,115,101]) (by decide) (by decide) (A (by rfl)) (by rfl))) (by rfl))) (by rfl)
 ·exact tok_k (c:=102) (s:=[]) (by rfl) (by decide) (by decide) (brk_k (by decide)) (tok_o (o:=[40]) (t:=[]) rfl (by rfl) (by decide) (tok_o (o:=[41]) (t:=[]) rfl (by rfl) (by decide) (by
   rw [Uc (by decide)];exact tok_b (c:=123) (s:=[]) (by decide) (by decide) (A (by rfl)) (by rfl))))
 ·exact tok_b (c:=99) (s:=[97,115,101]) (by decide) (by decide) (tok_b (c:=120) (s:=[]) (by decide) (by decide) (tok_b (c:=105) (s:=[110]) (by decide) (by decide) (tok_k (c:=121) (s:=[]) (by rfl) (by decide) (by decide) (brk_k (by decide)) (tok_o (o:=[41]) (t:=[]) rfl (by rfl) (by decide) (by
   rw [Uc (by decide)];exact A (by rfl)))) (by rfl)) (by rfl)) (by rfl)
 ·exact tok_b (c:=102) (s:=[111,114]) (by decide) (by decide) (tok_b (c:=105) (s:=[]) (by decide) (by decide) (tok_b (c:=105) (s:=[110]) (by decide) (by decide) (tok_b (c:=49) (s:=[]) (by decide) (by decide) (tok_k (c:=50) (s:=[]) (by rfl) (by decide) (by decide) (brk_k (by decide)) (tok_o (o:=[59]) (t:=[]) rfl (by rfl) (by decide) (by
   rw [Uc (by decide)];exact tok_b (c:=100) (s:=[111]) (by decide) (by decide) (A (by rfl)) (by rfl)))) (by rfl)) (by rfl)) (by rfl)) (by rfl)
theorem wrap_may {a:Bs} (ha:jp a=0) (hl:a.length≤300) (k:Nat):jp (wrapS k a)=0:=by
 have h0:(0:UInt8) ∉ a:=by
  unfold jp at ha;rw [if_neg (by omega)] at ha;intro h;rw [if_pos (by simpa using h)] at ha;cases ha
 have key:∀s:Bs,s.length≤16384→(0:UInt8) ∉ s→jp s=0:=fun s hs h=>by
  unfold jp;rw [if_neg (by omega),if_neg (by simpa using h)]
 refine key _ ?_ ?_
 ·unfold wrapS;split<;>simp only [List.length_cons,List.length_append,List.length_nil]<;>omega
 ·unfold wrapS;split<;>simp [h0]
theorem parse_within {a:Bs} {la:List Dt} (h:o6 a=.ok la) (hn:la≠[]) (hf:lW a) (hl:a.length≤300) (k:Nat):(o6 (wrapS k a)=.ok (wrapD k la)∨o6 (wrapS k a)=.error 3)∧la.length=8:=by
 unfold o6 eQ at h ⊢;cases hx:ff a with
 | error e=>rw [hx] at h;cases h
 | ok x=>
  rw [hx] at h;obtain⟨a1,a2⟩:=L8 hx;refine⟨?_,(list_shut h hn).2.1⟩;rw [tn _ (wrap_may a1 hl k),wrap_toks hf a2 k];exact wrap_tree h hn k
theorem rd_cut {w:World} {D:Nat→Prop} {p q r:List Dt} {b off m c n i:Nat} (h:Rd w D (.sl 8 (p++q++r)) (.slice (some ⟨b,off,none⟩) m c)) (hp:p.length=i*8) (hq:q.length=n*8) (hn:0<n) :
 Rd w D (.sl 8 q) (.slice (some ⟨b,off+i*8,none⟩) n (c - i)):=by
 generalize hl:p++q++r=l at h;cases h with
 | nil _ c a hc=>
  have:=congrArg List.length hl;simp only [List.length_append,List.length_nil] at this;omega
 | sl _ _ b off m c vs hm hmc hc hb hD hv h=>
  subst hl;simp only [List.length_append] at hm hv h;refine .sl 8 q b (off+i*8) n (c - i) (fun j=>vs (i*8+j)) hq (by omega) (by omega) hb hD (fun j hj=>?_) (fun j hj=>?_)
  ·rw [show off+i*8+j=off+(i*8+j) by omega];exact hv _ (by omega)
  ·have h2:=h (i*8+j) (by omega);have e:(p++q++r)[i*8+j]'(by simp only [List.length_append];omega)=q[j]:=by
    rw [List.getElem_append_left (by rw [List.length_append];omega),List.getElem_append_right (by omega)];simp only [hp,Nat.add_sub_cancel_left]
   rw [e] at h2;exact h2
theorem scr_q {w w':World} {res:Except Nat (List Dt)} {e:Ending} (h:sK w res e w'):∃(a:Option Addr) (m c x:Nat),e=.returned (.tuple #[.slice a m c,.int .i64 (x:Nat)])∧ae (fun _=>False) w w'∧
 (x=0→0<m→∃ds,res=.ok ds∧ds≠[]∧ds.length=m*8∧Rd w' (fun b=>w.heap.size≤b) (.sl 8 ds) (.slice a m c)):=by
 cases res with
 | error x=>exact⟨none,0,0,x,h.1,h.2,fun _ h=>absurd h (Nat.lt_irrefl 0)⟩
 | ok ds=>
  obtain⟨a,m,c,he,hr,hk⟩:=h;have hl:=hr.len8.1;exact⟨a,m,c,0,he,hk,fun _ hm=>⟨ds,rfl,fun e=>by rw [e] at hl;simp at hl;omega,hl,hr⟩⟩
theorem end_of {s:ByteArray} (h:(au s (s.size - 1)==92)=false):lW s.data.toList:=fun p e=>by
 have hl:s.size=p.length+1:=by rw [Lib.size_eq,e];simp
 unfold au at h;rw [hl,Nat.add_sub_cancel,e] at h;simp at h
theorem size_of {s:ByteArray} {ds:List Dt} (h:o6 s.data.toList=.ok ds) (hn:ds≠[]):0<s.size:=by
 rw [Lib.size_eq];cases hs:s.data.toList with
 | nil=>
  rw [hs] at h;cases h;exact absurd rfl hn
 | cons c t=>simp
theorem ba_of {s:ByteArray} {l:List UInt8} (h:s.data.toList=l):s=⟨l.toArray⟩:=by subst h;rfl
theorem strs_cell (L:List (List UInt8)) (w1:World) (vs:Array Value) (hvs:vs=(L.map dj).toArray) (T:TypeId) (k:Nat) (hk:k<L.length):∃O:ByteArray,O.data.toList=L[k]∧(w1.alloc (.cells vs T)).cell? ⟨w1.heap.size,k,none⟩=some (.string O):=by
 refine⟨⟨L[k].toArray⟩,rfl,?_⟩;have hb:=heap_alloc_new w1 (.cells vs T);have h:=cell_of_row _ _ k _ _ _ hb;rw [h,hvs];simp [hk,dj]
def wrapL (a:Bs):List Bs:=[wrapS 0 a,wrapS 1 a,wrapS 2 a,wrapS 3 a,wrapS 4 a,wrapS 5 a,wrapS 6 a]
theorem wrap_row (a0:ByteArray):(#[.string ((⟨#[123,32]⟩:ByteArray)++a0++(⟨#[10,125]⟩:ByteArray)),.string ((⟨#[40]⟩:ByteArray)++a0++(⟨#[10,41]⟩:ByteArray)),.string ((⟨#[119,104,105,108,101,32]⟩:ByteArray)++a0++(⟨#[10,100,111,32]⟩:ByteArray)++a0++(⟨#[10,100,111,110,101]⟩:ByteArray)),.string ((⟨#[105,102,32]⟩:ByteArray)++a0++(⟨#[10,116,104,101,110,32]⟩:ByteArray)++a0++(⟨#[10,101,108,115,101,32]⟩:ByteArray)++a0++(⟨#[10,102,105]⟩:ByteArray)),.string ((⟨#[102,40,41,32,123,32]⟩:ByteArray)++a0++(⟨#[10,125]⟩:ByteArray)),.string ((⟨#[99,97,115,101,32,120,32,105,110,32,121,41,32]⟩:ByteArray)++a0++(⟨#[10,59,59,32,101,115,97,99]⟩:ByteArray)),.string ((⟨#[102,111,114,32,105,32,105,110,32,49,32,50,59,32,100,111,32]⟩:ByteArray)++a0++(⟨#[10,100,111,110,101]⟩:ByteArray))]:Array Value)=((wrapL a0.data.toList).map dj).toArray:=by
 simp only [wrapL,List.map_cons,List.map_nil,dj];rw [show (⟨#[123,32]⟩:ByteArray)++a0++(⟨#[10,125]⟩:ByteArray)=⟨(wrapS 0 a0.data.toList).toArray⟩ from ba_of (by simp [wrapS]),show (⟨#[40]⟩:ByteArray)++a0++(⟨#[10,41]⟩:ByteArray)=⟨(wrapS 1 a0.data.toList).toArray⟩ from ba_of (by simp [wrapS]),show (⟨#[119,104,105,108,101,32]⟩:ByteArray)++a0++(⟨#[10,100,111,32]⟩:ByteArray)++a0++(⟨#[10,100,111,110,101]⟩:ByteArray)=⟨(wrapS 2 a0.data.toList).toArray⟩ from ba_of (by simp [wrapS]),show (⟨#[105,102,32]⟩:ByteArray)++a0++(⟨#[10,116,104,101,110,32]⟩:ByteArray)++a0++(⟨#[10,101,108,115,101,32]⟩:ByteArray)++a0++(⟨#[10,102,105]⟩:ByteArray)=⟨(wrapS 3 a0.data.toList).toArray⟩ from ba_of (by simp [wrapS]),show (⟨#[102,40,41,32,123,32]⟩:ByteArray)++a0++(⟨#[10,125]⟩:ByteArray)=⟨(wrapS 4 a0.data.toList).toArray⟩ from ba_of (by simp [wrapS]),show (⟨#[99,97,115,101,32,120,32,105,110,32,121,41,32]⟩:ByteArray)++a0++(⟨#[10,59,59,32,101,115,97,99]⟩:ByteArray)=⟨(wrapS 5 a0.data.toList).toArray⟩ from ba_of (by simp [wrapS]),show (⟨#[102,111,114,32,105,32,105,110,32,49,32,50,59,32,100,111,32]⟩:ByteArray)++a0++(⟨#[10,100,111,110,101]⟩:ByteArray)=⟨(wrapS 6 a0.data.toList).toArray⟩ from ba_of (by simp [wrapS])]
theorem wrap_size {a:Bs} (h:a.length≤300) (k:Nat):(wrapS k a).length≤1000:=by
 unfold wrapS;split<;>simp only [List.length_cons,List.length_append,List.length_nil]<;>omega
def rep (q:Nat) (la:List Dt):List Dt:=(List.replicate q la).flatten
theorem rep_len (q:Nat) (la:List Dt) (h:la.length=8):(rep q la).length=q*8:=by simp [rep,h]
theorem rep_add (i m:Nat) (la:List Dt):rep (i+m) la=rep i la++rep m la:=by unfold rep;rw [←List.replicate_append_replicate,List.flatten_append]
theorem rep_cut {q i:Nat} (h:i<q) (la:List Dt):rep q la=rep i la++la++rep (q - 1 - i) la:=by
 obtain⟨m,rfl⟩:∃m,q=i+(1+m):=⟨q - 1 - i,by omega⟩;rw [rep_add,rep_add,show i+(1+m) - 1 - i=m by omega,show rep 1 la=la by simp [rep],List.append_assoc]
theorem wrap_kids (k:Nat) (hk:k<7) (h4:k≠4) (h5:k≠5) (la:List Dt):∃(q kd:Nat) (nm:Bs) (ws:List Dt),0<q∧q≤3∧wrapD k la=cE kd false nm ws [] [] (rep q la) []:=by
 match k,hk,h4,h5 with
 | 0,_,_,_=>exact⟨1,12,[],[],by decide,by decide,by simp [wrapD,rep]⟩
 | 1,_,_,_=>exact⟨1,13,[],[],by decide,by decide,by simp [wrapD,rep]⟩
 | 2,_,_,_=>exact⟨2,7,[],[],by decide,by decide,by simp [wrapD,rep]⟩
 | 3,_,_,_=>exact⟨3,6,[],[],by decide,by decide,by simp [wrapD,rep]⟩
 | 4,_,h,_=>exact absurd rfl h
 | 5,_,_,h=>exact absurd rfl h
 | 6,_,_,_=>exact⟨1,9,[105],[aB [dD [49]],aB [dD [50]]],by decide,by decide,by simp [wrapD,rep]⟩
theorem node_of {a:Bs} {ds:List Dt} (h:o6 a=.ok ds) (hl:ds.length=8):∃(x:Ny) (n:Nat),ds=x.row∧ds=[x].flatMap Ny.row∧ir n ds:=by
 obtain⟨n,hn⟩:=TZ h;obtain⟨xs,hx,_⟩:=hn.out;have h8:=uU (f:=Ny.row) (k:=8) (fun _=>rfl) xs;rw [←hx,hl] at h8;obtain⟨x,rfl⟩:=List.length_eq_one_iff.1 (show xs.length=1 by omega);exact⟨x,n,by rw [hx];simp,hx,hn⟩
theorem nd_row {kd:Nat} {b:Bool} {nm:Bs} {ws gs rs ks ar:List Dt} {x:Ny} (h:cE kd b nm ws gs rs ks ar=x.row):x.ks=ks∧x.ar.flatMap UA=ar:=by
 unfold cE Ny.row at h;simp only [List.cons.injEq,Dt.sl.injEq,true_and] at h;exact⟨h.2.2.2.2.2.2.1.symm,h.2.2.2.2.2.2.2.1.symm⟩
theorem parseWithin_walk (a0:ByteArray) (z:Int) (w:World) (h0:a0.size≤140737488351232) (hz:(Lit.int .i64 z).wf=true) (hsh:w.ShapedOpen Tryz.prog) (hL:laidMetH Tryz.prog Rows.parseWithinRow.laid w) :
 Calls Tryz.prog 7 #[.string a0,.int .i64 z] w fun e w'=>e=.returned (.bool true)∧Below w.heap.size w w':=by
 have HEV:=Hd (ev_of rfl hL hsh);have hc8:=aT;have HQA:=Hd (fun W=>T0 W a0.data.toList (by rw [←Lib.size_eq];exact h0));rw [show (⟨a0.data.toList.toArray⟩:ByteArray)=a0 from rfl] at HQA;clear hL hsh hz;go_enter Tryz.func7,Tryz.ntmps7;go_wp2_with fail;refine (TX w _ HEV.out).mono ?_;rintro e w1 ⟨rfl,hk1⟩;have HK1:=Hd hk1;clear hk1;go_wp2_with fail;refine (HQA.out w1).mono ?_
 intro e w2 hp;obtain⟨xa,zxm0,xc,xe,rfl,hk2,hgx⟩:=scr_q hp;have HX:=Hd hgx;have HK2:=Hd (HK1.out.trans hk2 (fun _ _ h=>h));clear hp hk2 hgx HQA;rcases Nat.lt_or_ge 300 a0.size with hl0 | hl0
 ·have p0:(300:Int)<(a0.size:Int):=by omega
  clear hl0;go_wp2_with fail;go_ret;exact⟨rfl,HK2.out.below0 (fun _ h=>h.elim)⟩
 have p0:¬(300:Int)<(a0.size:Int):=by omega
 by_cases hxe:xe=0;rotate_left
 ·have c0:((xe:Int) != 0)=true:=by rw [bne_iff_ne];omega
  clear hxe;go_wp2_with fail;go_ret;exact⟨rfl,HK2.out.below0 (fun _ h=>h.elim)⟩
 subst hxe;by_cases hxm:zxm0=0
 ·subst hxm;go_wp2_with fail;go_ret;exact⟨rfl,HK2.out.below0 (fun _ h=>h.elim)⟩
 obtain⟨la,hpa,hna,hla,hra⟩:=HX.out rfl (by omega);have sa:a0.data.toList.length≤300:=by rw [←Lib.size_eq];exact hl0
 have hpos:=size_of hpa hna;obtain⟨c,hc⟩:∃c,c=au a0 (a0.size - 1):=⟨_,rfl⟩;have hb:=gI (s:=a0) (k:=a0.size - 1) (by omega);rw [←hc] at hb;have HC:=Hd hc;have i1:IntKind.i64.wrap ((a0.size:Int) - 1)=((a0.size - 1:Nat):Int):=by
  rw [IntWalk.i64_in _ (by omega)];omega
 have i2:((a0.size - 1:Nat):Int)<(a0.size:Int):=by omega
 have c0:((zxm0:Int)==0)=false:=by rw [beq_eq_false_iff_ne];omega
 have HRA:=Hd hra;have HPA:=Hd hpa;have HNA:=Hd hna;have HLA:=Hd hla;clear hc hra hpa hna hxm hla HX;by_cases t92:c=92
 ·have f92:((c.toNat:Int)==92)=true:=aE (c:=c) (k:=92) t92;clear t92;go_wp2_with fail;go_ret;exact⟨rfl,HK2.out.below0 (fun _ h=>h.elim)⟩
 have f92:((c.toNat:Int)==92)=false:=aw (c:=c) (k:=92) t92;have HE:=Hd (end_of (s:=a0) (by rw [←HC.out];exact beq_eq_false_iff_ne.2 t92));clear t92;by_cases h0:z<0
 ·go_wp2_with fail;go_ret;exact⟨rfl,(HK2.out.alloc _).below0 (fun _ h=>h.elim)⟩
 by_cases h1:7≤z
 ·go_wp2_with fail;go_ret;exact⟨rfl,(HK2.out.alloc _).below0 (fun _ h=>h.elim)⟩
 obtain⟨k,rfl⟩:∃k:Nat,z=(k:Int):=⟨z.toNat,by omega⟩;have hk6:k<7:=by omega
 have p1:¬(k:Int)<0:=h0;have p2:(k:Int)<7:=by omega
 obtain⟨O,hO,hcO⟩:=strs_cell (wrapL a0.data.toList) w2 #[.string ((⟨#[123,32]⟩:ByteArray)++a0++(⟨#[10,125]⟩:ByteArray)),.string ((⟨#[40]⟩:ByteArray)++a0++(⟨#[10,41]⟩:ByteArray)),.string ((⟨#[119,104,105,108,101,32]⟩:ByteArray)++a0++(⟨#[10,100,111,32]⟩:ByteArray)++a0++(⟨#[10,100,111,110,101]⟩:ByteArray)),.string ((⟨#[105,102,32]⟩:ByteArray)++a0++(⟨#[10,116,104,101,110,32]⟩:ByteArray)++a0++(⟨#[10,101,108,115,101,32]⟩:ByteArray)++a0++(⟨#[10,102,105]⟩:ByteArray)),.string ((⟨#[102,40,41,32,123,32]⟩:ByteArray)++a0++(⟨#[10,125]⟩:ByteArray)),.string ((⟨#[99,97,115,101,32,120,32,105,110,32,121,41,32]⟩:ByteArray)++a0++(⟨#[10,59,59,32,101,115,97,99]⟩:ByteArray)),.string ((⟨#[102,111,114,32,105,32,105,110,32,49,32,50,59,32,100,111,32]⟩:ByteArray)++a0++(⟨#[10,100,111,110,101]⟩:ByteArray))] (wrap_row a0) 9 k hk6
 have hO:O.data.toList=wrapS k a0.data.toList:=by
  rw [hO]
  match k,hk6 with
  | 0,_=>rfl
  | 1,_=>rfl
  | 2,_=>rfl
  | 3,_=>rfl
  | 4,_=>rfl
  | 5,_=>rfl
  | 6,_=>rfl
 have hO9:O.size≤1000:=by
  rw [Lib.size_eq,hO];exact wrap_size sa k
 obtain⟨hw,ha8⟩:=parse_within HPA.out HNA.out HE.out sa k;rw [←hO] at hw;obtain rfl:zxm0=1:=by have:=HLA.out;omega
 obtain⟨W,hW⟩:∃W,W=w2.alloc (.cells #[.string ((⟨#[123,32]⟩:ByteArray)++a0++(⟨#[10,125]⟩:ByteArray)),.string ((⟨#[40]⟩:ByteArray)++a0++(⟨#[10,41]⟩:ByteArray)),.string ((⟨#[119,104,105,108,101,32]⟩:ByteArray)++a0++(⟨#[10,100,111,32]⟩:ByteArray)++a0++(⟨#[10,100,111,110,101]⟩:ByteArray)),.string ((⟨#[105,102,32]⟩:ByteArray)++a0++(⟨#[10,116,104,101,110,32]⟩:ByteArray)++a0++(⟨#[10,101,108,115,101,32]⟩:ByteArray)++a0++(⟨#[10,102,105]⟩:ByteArray)),.string ((⟨#[102,40,41,32,123,32]⟩:ByteArray)++a0++(⟨#[10,125]⟩:ByteArray)),.string ((⟨#[99,97,115,101,32,120,32,105,110,32,121,41,32]⟩:ByteArray)++a0++(⟨#[10,59,59,32,101,115,97,99]⟩:ByteArray)),.string ((⟨#[102,111,114,32,105,32,105,110,32,49,32,50,59,32,100,111,32]⟩:ByteArray)++a0++(⟨#[10,100,111,110,101]⟩:ByteArray))] 9):=⟨_,rfl⟩
 rw [←hW] at hcO;have hkW:ae (fun _=>False) w2 W:=by rw [hW];exact (ae.refl _ _).alloc _
 have HK3:=Hd (HK2.out.trans hkW (fun _ _ h=>h));have HRW:=Hd (bH HRA.out hkW);have hOW:w2.heap.size<W.heap.size:=by rw [hW];simp
 have HW:=Hd hW;have HO:=Hd hO;have HPS:=Hd (fun W (hW:ae (fun _=>False) w W)=>Ic W _ O (HEV.out.keep hW (fun _ _ h=>h)) (by omega));have HQS:=Hd (fun W=>T0 W O.data.toList (by rw [←Lib.size_eq];omega));rw [show (⟨O.data.toList.toArray⟩:ByteArray)=O from rfl] at HQS;clear hO hW hkW HRA HEV;have hcW:∀W',ae (fun _=>False) W W'→W'.cell? ⟨w2.heap.size,k,none⟩=some (.string O):=fun W' hk=>by
  rw [World.cell?_of_block (hk.block w2.heap.size hOW (fun h=>h))];exact hcO
 have HCW:=Hd hcW;clear hcW;go_wp2_with (rw [←HW.out]);refine (HPS.out W HK3.out).mono ?_;rcases hw with hw | hw;rotate_left
 ·rw [hw] at HQS ⊢;clear hw;rintro e w3 ⟨rfl,hk3⟩;have hc3:=HCW.out w3 hk3;have HK4:=Hd (HK3.out.trans hk3 (fun _ _ h=>h));have hl3:=Nat.lt_of_lt_of_le hOW hk3.size;clear hk3 hcO hOW;go_wp2_with fail;refine (HQS.out w3).mono ?_;rintro e w4 ⟨rfl,hk4⟩;have HK5:=Hd (HK4.out.trans hk4 (fun _ _ h=>h));clear hk4 hc3 hl3;go_wp2_with fail;refine (Mn 3 _).mono ?_;rintro e w5 ⟨rfl,hw5⟩;rw [hw5];clear hw5
  go_wp2_with fail;go_ret;exact⟨rfl,HK5.out.below0 (fun _ h=>h.elim)⟩
 obtain⟨X,znX0,hxr,hxf,hxn⟩:=node_of hw (wrap_len k la);obtain⟨znL0,hnL⟩:=TZ HPA.out;have HXR:=Hd (And.intro hxr hxf);have HXN:=Hd hxn;have HNL:=Hd hnL;have HA8:=Hd ha8;rw [hw] at HQS ⊢;clear hw hxr hxf hxn hnL ha8;rintro e w3 ⟨pa,pm,pc,rfl,hrp,hk3⟩;obtain rfl:pm=1:=by have:=hrp.len8.1;rw [wrap_len] at this;omega
 have hc3:=HCW.out w3 hk3;have hl3:=Nat.lt_of_lt_of_le hOW hk3.size;have HK4:=Hd (HK3.out.trans hk3 (fun _ _ h=>h));replace HRW:=Hd (bH HRW.out hk3);have HRP:=Hd hrp;clear hk3 hcO hOW hrp;go_wp2_with fail;refine (HQS.out w3).mono ?_;rintro e w4 ⟨zma0,mm,mc,rfl,hrm,hk4⟩;obtain rfl:mm=1:=by have:=hrm.len8.1;rw [wrap_len] at this;omega
 have HK5:=Hd (HK4.out.trans hk4 (fun _ _ h=>h));replace HRW:=Hd (bH HRW.out hk4);replace HRP:=Hd (bH HRP.out hk4);have HRM:=Hd hrm;clear hk4 hc3 hl3 hrm;go_wp2_with fail;refine (Mn 0 _).mono ?_;rintro e w5 ⟨rfl,hw5⟩;rw [hw5];clear hw5;go_wp2_with fail;refine (aaQ (znX0+1) znX0 (Nat.lt_succ_self _) _ _ _ _ _ _ _ _ _ _ HXN.out HRP.out HRM.out).mono ?_;rintro e w5 ⟨rfl,hk5⟩;replace HK5:=Hd (HK5.out.trans hk5 (fun _ _ h=>h))
 replace HRW:=Hd (bH HRW.out hk5);replace HRP:=Hd (bH HRP.out hk5);have hnode:=Cj (xs:=[X]) (by rw [←HXR.out.2];exact HRP.out) (i:=0) (by simp);clear hk5 HRM HPS HQS;simp only [List.getElem_cons_zero,Nat.zero_mul,Nat.add_zero] at hnode;obtain⟨zgX0,oX,waX,wlX,wcX,gaX,glX,gcX,raX,rlX,rcX,kaX,klX,kcX,aaX,alX,acX,rfl,hgX,⟨q0,q1,q2,q3,q4,q5,q6,q7⟩,hnX⟩:=hnode;obtain⟨zkX0,hkX⟩:∃l,l=X.kind:=⟨_,rfl⟩
 obtain⟨ztX0,htX⟩:∃l,l=X.nt:=⟨_,rfl⟩;obtain⟨nmX,hsX⟩:∃l:ByteArray,l=⟨X.nm.toArray⟩:=⟨_,rfl⟩;rw [←hkX] at q0;rw [←htX] at q1;rw [←hsX] at q2;clear hkX htX hsX;have HNX:=Hd hnX;have HLN:=Hd (fun (W:World) (e1 e2:Nat→Prop) (a b:Option Addr) (c d:Nat) (ha:Rd W e1 (.sl 8 la) (.slice a 1 c)) (hb:Rd W e2 (.sl 8 la) (.slice b 1 d))=>aaQ (znL0+1) znL0 (Nat.lt_succ_self _) W _ _ la a b 1 c 1 d HNL.out ha hb);clear hnX HNL
 obtain⟨Z,hZ⟩:∃Z,Z=w5.heap.size:=⟨_,rfl⟩;have HZE:=Hd hZ;clear hZ;by_cases k4:k=4
 ·subst k4;have hxk:=(nd_row (show cE 11 false [102] [] [] [] (cE 12 false [] [] [] [] la []) []=X.row from HXR.out.1)).1;have hks:=HNX.out.ks;rw [hxk] at hks;obtain⟨_,_,_,e1,hl1,hkq,hkc⟩:=Rd.shape (by decide) hks;injection e1 with e2 e3 e4;subst e2 e3 e4;obtain rfl:klX=1:=by
   have:(8:Nat)=klX*8:=hl1;omega
  have hnode:=Cj (xs:=[Ny.mk 12 false [] [] [] [] la []]) hks (i:=0) (by simp);simp only [List.getElem_cons_zero,Nat.zero_mul,Nat.add_zero] at hnode;obtain⟨zgY0,oY,waY,wlY,wcY,gaY,glY,gcY,raY,rlY,rcY,kaY,klY,kcY,aaY,alY,acY,rfl,hgY,⟨s0,s1,s2,s3,s4,s5,zs60,zs70⟩,hnY⟩:=hnode;have hks2:Rd w5 (fun b=>W.heap.size≤b) (.sl 8 (rep 1 la)) (.slice kaY klY kcY):=by rw [show rep 1 la=la by simp [rep]];exact hnY.ks
  obtain⟨_,_,_,e1,hl2,hkq,hkc⟩:=Rd.shape (by decide) hks2;injection e1 with e2 e3 e4;subst e2 e3 e4;have hrl:=rep_len 1 la HA8.out;obtain rfl:klY=1:=by omega
  obtain⟨kb,ko,rfl,hkb,_,_⟩:=Rd.base hks2 (by omega);have HKS:=Hd hks2;obtain⟨w6,hw6⟩:∃w6,w6=w5.alloc (.cells #[.int .i64 12,.bool false,.string ⟨#[]⟩,.slice waY wlY wcY,.slice gaY glY gcY,.slice raY rlY rcY,.slice (some ⟨kb,ko,none⟩) 1 kcY,.slice aaY alY acY] 44):=⟨_,rfl⟩;have hk6:ae (fun _=>False) w5 w6:=by rw [hw6];exact (ae.refl _ _).alloc _
  have hr6:af w6 w5.heap.size [.int .i64 12,.bool false,.string ⟨#[]⟩,.slice waY wlY wcY,.slice gaY glY gcY,.slice raY rlY rcY,.slice (some ⟨kb,ko,none⟩) 1 kcY,.slice aaY alY acY]:=by rw [hw6];exact aD w5 _ _ _ _ _ _ _ _ _
  have HZ:=Hd (show w5.heap.size<w6.heap.size∧_ from⟨hr6.lt,hr6.eight.1.2.2.2.2.2.2.1⟩);have HK6:=Hd (HK5.out.trans hk6 (fun _ _ h=>h));have HQC:=Hd (show 0<1∧1≤3∧1≤kcY from⟨by decide,by decide,hkq⟩);have HSAME:=Hd (fun wr (h:ae (fun _=>False) w6 wr) i (hi:i<1)=>HLN.out wr _ _ _ _ _ _ (rd_cut (i:=i) (n:=1) (by rw [←rep_cut hi la];exact bH (bH HKS.out hk6) h) (rep_len i la HA8.out) HA8.out (by decide)) (bH (bH HRW.out hk6) h))
  have HW6:=Hd hw6;clear hxk hks hl1 hkq hkc hnY hks2 hl2 hrl hkb hw6 hk6 hr6;go_wp2_with fail;rw [←HW6.out];go_loopw [14] (fun k' wr=>∃i:Nat,k'=.int .i64 i∧i≤1∧Hid (ae (fun _=>False) w6 wr)) (fun k' _=>1 - (intOf k').toNat)
  case atStart=>exact⟨0,rfl,Nat.zero_le _,Hd (ae.refl _ _)⟩
  case round=>
   obtain⟨i,rfl,hi,HK⟩:=hrel;have h6:wr.cell? ⟨w5.heap.size,6,none⟩=some (.slice (some ⟨kb,ko,none⟩) 1 kcY):=by
    rw [World.cell?_of_block (HK.out.block _ HZ.out.1 (fun h=>h))];exact HZ.out.2
   have hlt:w5.heap.size<wr.heap.size:=Nat.lt_of_lt_of_le HZ.out.1 HK.out.size;by_cases hiq:i<1
   ·have p1:(i:Int)<(1:Int):=by omega
    have HSM:=Hd (HSAME.out wr HK.out i hiq);have hq3:=HQC.out;have i1:IntKind.i64.wrap ((i:Int)+1)=((i+1:Nat):Int):=by rw [IntWalk.i64_in _ (by omega)];omega
    go_wp2_with fail;refine (HSM.out).mono ?_;rintro e w7 ⟨rfl,hk7⟩;have HK7:=Hd (HK.out.trans hk7 (fun _ _ h=>h));clear hk7;go_wp2_with fail;go_roundw
    case rel=>exact⟨i+1,by go_num,by omega,HK7⟩
    case measure=>simp [intOf];omega
   ·obtain rfl:i=1:=by omega
    go_wp2_with fail;go_ret;exact⟨rfl,(HK6.out.trans HK.out (fun _ _ h=>h)).below0 (fun _ h=>h.elim)⟩
 by_cases k5:k=5
 ·subst k5;have hal:=nd_row (show cE 10 false [] [aB [dD [120]]] [] [] [] [.sl 1 [aB [dD [121]]],.sl 8 la]=X.row from HXR.out.1);have har:=HNX.out.ar;rw [hal.2] at har;obtain⟨_,_,_,e1,hl1,_,_⟩:=Rd.shape (by decide) har;injection e1 with e2 e3 e4;subst e2 e3 e4;obtain rfl:alX=1:=by
   have:(2:Nat)=alX*2:=hl1;omega
  obtain⟨zab0,ao,rfl,hab,_,hF⟩:=Rd.base har (by show 0<2;decide);obtain⟨u1,d1,r1⟩:=hF 1 (by show 1<2;decide);have r1:Rd w5 (fun b=>W.heap.size≤b) (.sl 8 la) u1:=r1;obtain⟨ba,zbm0,bc,rfl,hbl,_,_⟩:=Rd.shape (k:=8) (by decide) r1;obtain rfl:zbm0=1:=by have:=HA8.out;omega
  have HAR:=Hd r1;clear hal har hl1 hF r1 hbl;obtain⟨w6,hw6⟩:∃w6,w6=w5.alloc (.cells #[.int .i64 zkX0,.bool ztX0,.string nmX,.slice waX wlX wcX,.slice gaX glX gcX,.slice raX rlX rcX,.slice kaX klX kcX,.slice (some ⟨zab0,ao,none⟩) 1 acX] 44):=⟨_,rfl⟩;have hk6:ae (fun _=>False) w5 w6:=by rw [hw6];exact (ae.refl _ _).alloc _
  have HSM:=Hd (HLN.out w6 _ _ _ _ _ _ (bH HAR.out hk6) (bH HRW.out hk6));have HK6:=Hd (HK5.out.trans hk6 (fun _ _ h=>h));have d1':w6.cell? ⟨zab0,ao+1,none⟩=some (.slice ba 1 bc):=by rw [World.cell?_of_block (hk6.block zab0 hab (fun h=>h))];exact d1
  rw [hw6] at d1';have HW6:=Hd hw6;clear hw6 hk6 d1;go_wp2_with fail;rw [←HW6.out];refine HSM.out.mono ?_;rintro e w7 ⟨rfl,hk7⟩;have HK7:=Hd (HK6.out.trans hk7 (fun _ _ h=>h));clear hk7;go_wp2_with fail;go_ret;exact⟨rfl,HK7.out.below0 (fun _ h=>h.elim)⟩
 have t4:((k:Int)==4)=false:=by rw [beq_eq_false_iff_ne];omega
 have t5:((k:Int)==5)=false:=by rw [beq_eq_false_iff_ne];omega
 obtain⟨q,kd,nm,ws,hq0,hq3,hD⟩:=wrap_kids k hk6 k4 k5 la;have hxk:=nd_row (hD.symm.trans HXR.out.1);have hks:=HNX.out.ks;rw [hxk.1] at hks;obtain⟨_,_,_,e1,hl1,hkq,hkc⟩:=Rd.shape (by decide) hks;injection e1 with e2 e3 e4;subst e2 e3 e4;have hrl:=rep_len q la HA8.out;obtain rfl:klX=q:=by omega
 obtain⟨kb,ko,rfl,hkb,_,_⟩:=Rd.base hks (by omega);have HKS:=Hd hks;obtain⟨w6,hw6⟩:∃w6,w6=w5.alloc (.cells #[.int .i64 zkX0,.bool ztX0,.string nmX,.slice waX wlX wcX,.slice gaX glX gcX,.slice raX rlX rcX,.slice (some ⟨kb,ko,none⟩) klX kcX,.slice aaX alX acX] 44):=⟨_,rfl⟩;have hk6:ae (fun _=>False) w5 w6:=by rw [hw6];exact (ae.refl _ _).alloc _
 have hc6:w6.cell? ⟨w5.heap.size,6,none⟩=some (.slice (some ⟨kb,ko,none⟩) klX kcX):=by
  have:=(aD w5 (.int .i64 zkX0) (.bool ztX0) (.string nmX) (.slice waX wlX wcX) (.slice gaX glX gcX) (.slice raX rlX rcX) (.slice (some ⟨kb,ko,none⟩) klX kcX) (.slice aaX alX acX) 44).eight.1.2.2.2.2.2.2.1;rw [hw6];exact this
 have HZ:=Hd (show w5.heap.size<w6.heap.size∧_ from⟨by rw [hw6];simp,hc6⟩);have HK6:=Hd (HK5.out.trans hk6 (fun _ _ h=>h));have HQC:=Hd (show 0<klX∧klX≤3∧klX≤kcX from⟨hq0,hq3,hkq⟩);have HSAME:=Hd (fun wr (h:ae (fun _=>False) w6 wr) i (hi:i<klX)=>HLN.out wr _ _ _ _ _ _ (rd_cut (i:=i) (n:=1) (by rw [←rep_cut hi la];exact bH (bH HKS.out hk6) h) (rep_len i la HA8.out) HA8.out (by decide)) (bH (bH HRW.out hk6) h))
 have HW6:=Hd hw6;clear k4 k5 hD hxk hks hl1 hkq hkc hrl hkb hk6 hc6 hw6 hq0 hq3;go_wp2_with fail;rw [←HW6.out];go_loopw [14] (fun k' wr=>∃i:Nat,k'=.int .i64 i∧i≤klX∧Hid (ae (fun _=>False) w6 wr)) (fun k' _=>klX - (intOf k').toNat)
 case atStart=>exact⟨0,rfl,Nat.zero_le _,Hd (ae.refl _ _)⟩
 case round=>
  obtain⟨i,rfl,hi,HK⟩:=hrel;have h6:wr.cell? ⟨w5.heap.size,6,none⟩=some (.slice (some ⟨kb,ko,none⟩) klX kcX):=by
   rw [World.cell?_of_block (HK.out.block _ HZ.out.1 (fun h=>h))];exact HZ.out.2
  have hlt:w5.heap.size<wr.heap.size:=Nat.lt_of_lt_of_le HZ.out.1 HK.out.size;by_cases hiq:i<klX
  ·have p1:(i:Int)<(klX:Int):=by omega
   have HSM:=Hd (HSAME.out wr HK.out i hiq);have hq3:=HQC.out;have i1:IntKind.i64.wrap ((i:Int)+1)=((i+1:Nat):Int):=by rw [IntWalk.i64_in _ (by omega)];omega
   go_wp2_with fail;refine (HSM.out).mono ?_;rintro e w7 ⟨rfl,hk7⟩;have HK7:=Hd (HK.out.trans hk7 (fun _ _ h=>h));clear hk7;go_wp2_with fail;go_roundw
   case rel=>exact⟨i+1,by go_num,by omega,HK7⟩
   case measure=>simp [intOf];omega
  ·obtain rfl:i=klX:=by omega
   have p1:¬(i:Int)<(i:Int):=by omega
   have p2:0<i:=HQC.out.1;go_wp2_with fail;go_ret;exact⟨rfl,(HK6.out.trans HK.out (fun _ _ h=>h)).below0 (fun _ h=>h.elim)⟩
end Go.Proofs.YtiihpbccabeoeaaGreatDoor
