/- The walk: a part. -/
import Derived.Test.YtiihpbccabeoeaaGreatDoorVPlA
import Derived.Test.YtiihpbccabeoeaaGreatDoorVPsA
import Derived.Test.YtiihpbccabeoeaaGreatDoorVPkI
import Derived.Test.YtiihpbccabeoeaaGreatDoorVPxAG
import Derived.Deep.AppendLies
import Derived.Deep.RegionHeld3
namespace Go.Proofs.YtiihpbccabeoeaaGreatDoor
open Go.RowKit
set_option linter.unusedVariables false
set_option maxRecDepth 100000
set_option maxHeartbeats 16000000
theorem isOp_nl (t:List Tk):aj [10] (nlK::t)=true:=rfl
theorem ends_nl (t:List Tk):dm (nlK::t)=(true,ai t):=by
 unfold dm;rw [if_pos (by rw [isOp_nl];simp)];rfl
section
variable {cmd:List Tk→PR (List Dt)}
def Heads (cmd:List Tk→PR (List Dt)):Prop:=∀ts x,cmd ts=.ok x→bB ts=true
theorem command_heads:∀K,Heads (ab K)
 | 0,ts,x,h=>by unfold ab at h;split at h<;>cases h
 | K+1,ts,x,h=>by
  unfold ab at h;split at h
  ·next hb=>exact hb
  ·cases h
theorem andOr_more (hH:Heads cmd) {ts:List Tk} {x:List Dt×List Tk} (h:da cmd ts=.ok x):fj ts=true:=by
 unfold da bh at h;unfold fj;cases hw:aF [33] ts with
 | true=>simp
 | false=>
  rw [hw,if_neg (by decide)] at h;cases hc:cmd ts with
  | error e=>rw [hc] at h;cases h
  | ok p=>rw [hH _ _ hc];rfl
theorem allLoop_acc (p:List Dt):∀{n n':Nat} {acc:List Dt} {ts:List Tk} {d:List Dt} {r:List Tk},n≤n'→cW cmd n acc ts=.ok (d,r)→cW cmd n' (p++acc) ts=.ok (p++d,r)
 | 0,_,_,_,_,_,_,h=>by cases h
 | n+1,0,_,_,_,_,hn,h=>by omega
 | n+1,n'+1,acc,ts,d,r,hn,h=>by
  unfold cW at h ⊢;split at h
  ·next ho=>
   rw [if_pos ho];split at h
   ·cases h
   ·next d1 r1 hq=>
    rw [List.append_assoc];exact allLoop_acc p (by omega) h
  ·next ho=>
   rw [if_neg ho];cases h;rfl
theorem ends_tail {ts t:List Tk} (h:(dm ts).2=[]):(dm (ts++nlK::t))=(true,ai t):=by
 cases ts with
 | nil=>exact ends_nl t
 | cons k r=>
  unfold dm at h ⊢;rw [k8 (by simp),k8 (by simp)];split at h
  ·next ho=>
   rw [if_pos ho];have h2:ai r=[]:=h;rw [show ((k::r)++nlK::t).tail=r++nlK::t from rfl,OP h2];rfl
  ·cases h
theorem allLoop_join (hN:lH cmd) (hH:Heads cmd) (t:List Tk) (hS:Nq cmd (nlK::t)) {d2 l2:List Dt} {r2:List Tk} (hb:da cmd (ai t)=.ok (d2,r2)) (hl:cW cmd (r2.length+1) d2 r2=.ok (l2,[])) :
 ∀{n n':Nat} {acc:List Dt} {ts:List Tk} {d:List Dt},n+r2.length+1≤n'→cW cmd n acc ts=.ok (d,[])→cW cmd n' acc (ts++nlK::t)=.ok (d++l2,[])
 | 0,_,_,_,_,_,h=>by cases h
 | n+1,0,_,_,_,hn,h=>by omega
 | n+1,n'+1,acc,ts,d,hn,h=>by
  unfold cW at h;split at h
  ·next ho=>
   have hm:fj (dm ts).2=true:=by rw [Bool.and_eq_true] at ho;exact ho.2
   have hen:=FY hm;have hts:ts≠[]:=by rintro rfl;exact hen rfl
   unfold cW;rw [Lc hts hen];dsimp only;rw [AS (.ne hen),if_pos ho];split at h
   ·cases h
   ·next d1 r1 hq=>
    rw [Fk hN hS _ _ _ hq (.inr ⟨_,rfl⟩)];exact allLoop_join hN hH t hS hb hl (by omega) h
  ·next ho=>
   have hr:(dm ts).2=[]:=(Prod.mk.inj (Except.ok.inj h)).2;have hd:acc=d:=(Prod.mk.inj (Except.ok.inj h)).1;subst hd;unfold cW;rw [ends_tail hr];dsimp only;rw [andOr_more hH hb,if_pos (by rfl),hb];dsimp only;exact allLoop_acc acc (by omega) hl
theorem tree_ok {ts:List Tk} {l:List Dt} (h:og cmd ts=.ok l) (hl:l≠[]):∃d r m,da cmd (ai ts)=.ok (d,r)∧cW cmd (r.length+1) d r=.ok (m,[])∧l=mi m∧ai ts≠[]:=by
 unfold og at h;split at h
 ·cases h;exact absurd rfl hl
 ·next hne=>
  split at h
  ·cases h
  ·next m r hq=>
   split at h
   ·next hr=>
    have hr0:r=[]:=List.isEmpty_iff.1 hr;subst hr0;unfold mM at hq;split at hq
    ·cases hq
    ·next d r1 ha=>exact⟨d,r1,m,ha,hq,by cases h;rfl,fun e=>hne (by rw [e];rfl)⟩
   ·cases h
theorem tree_join (hN:lH cmd) (hH:Heads cmd) (hT:ix cmd) {x y:List Tk} (hS:Nq cmd (nlK::y)) {la lb:List Dt} (ha:og cmd x=.ok la) (hb:og cmd y=.ok lb) (h1:la≠[]) (h2:lb≠[]) :
 ∃zma0 zmb0,la=mi zma0∧lb=mi zmb0∧(∃d r,da cmd (ai x)=.ok (d,r)∧cW cmd (r.length+1) d r=.ok (zma0,[]))∧(∃d r,da cmd (ai y)=.ok (d,r)∧cW cmd (r.length+1) d r=.ok (zmb0,[]))∧og cmd (x++nlK::y)=.ok (mi (zma0++zmb0)):=by
 obtain⟨d,r,zma0,a1,a2,a3,a4⟩:=tree_ok ha h1;obtain⟨d2,r2,zmb0,b1,b2,b3,b4⟩:=tree_ok hb h2;refine⟨zma0,zmb0,a3,b3,⟨d,r,a1,a2⟩,⟨d2,r2,b1,b2⟩,?_⟩;unfold og;rw [fD a4,if_neg (by cases h:ai x with | nil=>exact absurd h a4 | cons k t=>simp)];unfold mM;rw [Fk hN hS _ _ _ a1 (.inr ⟨_,rfl⟩)];dsimp only;rw [allLoop_join hN hH y hS b1 b2 (n:=r.length+1) (by
  have c1:=pu hT _ _ _ b1;have c2:=dS y;rw [List.length_append,List.length_cons];omega) a2]
 rfl
end
def zKN0 (d:List Dt):Prop:=∃(k:Nat) (b:Bool) (s:Bs) (w a r c m:List Dt),k≠5∧d=cE k b s w a r c m
theorem zKN0.len {d:List Dt} (h:zKN0 d):d.length=8:=by obtain⟨k,b,s,w,a,r,c,m,_,rfl⟩:=h;rfl
theorem zKN0.set {d:List Dt} (h:zKN0 d) (rs:List Dt):zKN0 (d.set 5 (.sl 2 rs)):=by
 obtain⟨k,b,s,w,a,r,c,m,hk,rfl⟩:=h;exact⟨k,b,s,w,a,rs,c,m,hk,rfl⟩
theorem kn_mk {k:Nat} (hk:k≠5) {b:Bool} {s:Bs} {w a r c m:List Dt} {d:List Dt} {t t':List Tk} (h:(Except.ok (cE k b s w a r c m,t):PR (List Dt))=.ok (d,t')):zKN0 d:=by
 rw [←(Prod.mk.inj (Except.ok.inj h)).1];exact⟨k,b,s,w,a,r,c,m,hk,rfl⟩
section
variable {cmd:List Tk→PR (List Dt)} {scr:Bs→Except Nat Unit}
theorem simple_kn:∀(n:Nat) (ws gz rs:List Dt) (ts:List Tk) (d:List Dt) (r:List Tk),bj scr n ws gz rs ts=.ok (d,r)→zKN0 d:=by
 intro n;induction n with
 | zero=>intro ws gz rs ts d r h;cases h
 | succ n ih=>
  intro ws gz rs ts d r h;unfold bj at h
  repeat' split at h
  all_goals first | (exact ih _ _ _ _ _ _ h) | (exact kn_mk (by decide) h) | cases h
theorem while_kn {k:Nat} (hk:k≠5) {ts:List Tk} {d:List Dt} {r:List Tk} (h:dE cmd k ts=.ok (d,r)):zKN0 d:=by
 unfold dE at h
 repeat' split at h
 all_goals first | (exact kn_mk hk h) | cases h
theorem shut_kn {k:Nat} (hk:k≠5) {close:List Tk→PR Unit} {ts:List Tk} {d:List Dt} {r:List Tk} (h:fu cmd k close ts=.ok (d,r)):zKN0 d:=by
 unfold fu at h
 repeat' split at h
 all_goals first | (exact kn_mk hk h) | cases h
theorem choice_kn {ts:List Tk} {d:List Dt} {r:List Tk} (h:dx cmd ts=.ok (d,r)):zKN0 d:=by
 unfold dx at h
 repeat' split at h
 all_goals first | (exact kn_mk (by decide) h) | cases h
theorem each_kn {ts:List Tk} {d:List Dt} {r:List Tk} (h:fh cmd scr ts=.ok (d,r)):zKN0 d:=by
 unfold fh at h
 repeat' split at h
 all_goals first | (exact kn_mk (by decide) h) | cases h
theorem cases_kn {ts:List Tk} {d:List Dt} {r:List Tk} (h:eA cmd scr ts=.ok (d,r)):zKN0 d:=by
 unfold eA at h
 repeat' split at h
 all_goals first | (exact kn_mk (by decide) h) | cases h
theorem function_kn {nm:Bs} {ts:List Tk} {d:List Dt} {r:List Tk} (h:cy cmd nm ts=.ok (d,r)):zKN0 d:=by
 unfold cy at h
 repeat' split at h
 all_goals first | (exact kn_mk (by decide) h) | cases h
theorem with_kn {q:PR (List Dt)} (hq:∀d r,q=.ok (d,r)→zKN0 d) {d:List Dt} {r:List Tk} (h:aM scr q=.ok (d,r)):zKN0 d:=by
 unfold aM at h;split at h
 ·cases h
 ·next d1 r1=>
  split at h
  ·cases h
  ·rw [←(Prod.mk.inj (Except.ok.inj h)).1];exact (hq _ _ rfl).set _
theorem compound_kn {ts:List Tk} {q:PR (List Dt)} (hq:cw cmd scr ts=some q) {d:List Dt} {r:List Tk} (h:q=.ok (d,r)):zKN0 d:=by
 unfold cw at hq;split at hq
 ·cases hq;exact with_kn (fun _ _ e=>shut_kn (by decide) e) h
 split at hq
 ·cases hq;exact with_kn (fun _ _ e=>shut_kn (by decide) e) h
 split at hq
 ·cases hq;exact with_kn (fun _ _ e=>choice_kn e) h
 split at hq
 ·cases hq;exact with_kn (fun _ _ e=>while_kn (by decide) e) h
 split at hq
 ·cases hq;exact with_kn (fun _ _ e=>while_kn (by decide) e) h
 split at hq
 ·cases hq;exact with_kn (fun _ _ e=>each_kn e) h
 split at hq
 ·cases hq;exact with_kn (fun _ _ e=>cases_kn e) h
 split at hq
 ·cases hq;exact function_kn h
 ·cases hq
end
def CmdK (cmd:List Tk→PR (List Dt)):Prop:=∀ts d r,cmd ts=.ok (d,r)→zKN0 d
theorem command_kn:∀K,CmdK (ab K)
 | 0,ts,d,r,h=>by
  unfold ab at h;split at h<;>cases h
 | K+1,ts,d,r,h=>by
  unfold ab at h;split at h
  ·unfold gV at h;split at h
   ·next q hq=>exact compound_kn hq h
   ·exact simple_kn _ [] [] [] _ _ _ h
  ·cases h
section
variable {cmd:List Tk→PR (List Dt)} (hc:CmdK cmd)
include hc
theorem pipeLoop_kn:∀(n:Nat) (acc:List Dt) (ts:List Tk) (d:List Dt) (r:List Tk),cr cmd n acc ts=.ok (d,r)→d=acc∨acc.length+8≤d.length:=by
 intro n;induction n with
 | zero=>intro acc ts d r h;cases h
 | succ n ih=>
  intro acc ts d r h;unfold cr at h;split at h
  ·split at h
   ·cases h
   ·next d1 r1 h1=>
    have h8:=(hc _ _ _ h1).len;rcases ih _ _ _ _ h with e | e
    ·right;rw [e,List.length_append];omega
    ·right;rw [List.length_append] at e;omega
  ·left;exact (Prod.mk.inj (Except.ok.inj h)).1.symm
theorem pipeline_kn {ts:List Tk} {d:List Dt} {r:List Tk} (h:bh cmd ts=.ok (d,r)):zKN0 d:=by
 unfold bh at h;split at h
 ·cases h
 ·next d1 r1 h1=>
  have hk:=hc _ _ _ h1;split at h
  ·cases h
  ·next l r2 h2=>
   split at h
   ·next hl=>
    rw [←(Prod.mk.inj (Except.ok.inj h)).1];rcases pipeLoop_kn hc _ _ _ _ _ h2 with e | e
    ·rw [e];exact hk
    ·have:=hk.len;have:=hl.1;omega
   ·exact kn_mk (by decide) h
omit hc in
theorem andLoop_kn:∀(n:Nat) (acc:List Dt) (ts:List Tk) (d:List Dt) (r:List Tk),zKN0 acc→ck cmd n acc ts=.ok (d,r)→zKN0 d:=by
 intro n;induction n with
 | zero=>intro acc ts d r _ h;cases h
 | succ n ih=>
  intro acc ts d r ha h;unfold ck at h
  repeat' split at h
  all_goals first | (exact ih _ _ _ _ ⟨_,_,_,_,_,_,_,_,by decide,rfl⟩ h) | (rw [←(Prod.mk.inj (Except.ok.inj h)).1];exact ha) | cases h
theorem andOr_kn {ts:List Tk} {d:List Dt} {r:List Tk} (h:da cmd ts=.ok (d,r)):zKN0 d:=by
 unfold da at h;split at h
 ·cases h
 ·next d1 r1 h1=>exact andLoop_kn _ _ _ _ _ (pipeline_kn hc h1) h
theorem allLoop_kn:∀(n:Nat) (acc:List Dt) (ts:List Tk) (d:List Dt) (r:List Tk),cW cmd n acc ts=.ok (d,r)→d=acc∨acc.length+8≤d.length:=by
 intro n;induction n with
 | zero=>intro acc ts d r h;cases h
 | succ n ih=>
  intro acc ts d r h;unfold cW at h;split at h
  ·split at h
   ·cases h
   ·next d1 r1 h1=>
    have h8:=(andOr_kn hc h1).len;rcases ih _ _ _ _ h with e | e
    ·right;rw [e,List.length_append];omega
    ·right;rw [List.length_append] at e;omega
  ·left;exact (Prod.mk.inj (Except.ok.inj h)).1.symm
def AndOrs (m:List Dt):Prop:=zKN0 m∨16≤m.length
theorem andOrs_of {ts:List Tk} {m:List Dt} (h:∃d r,da cmd ts=.ok (d,r)∧cW cmd (r.length+1) d r=.ok (m,[])):AndOrs m:=by
 obtain⟨d,r,h1,h2⟩:=h;have hk:=andOr_kn hc h1;rcases allLoop_kn hc _ _ _ _ _ h2 with e | e
 ·exact .inl (by rw [e];exact hk)
 ·exact .inr (by have:=hk.len;omega)
end
theorem seqF_8 {m:List Dt} (h:m.length=8):mi m=m:=by unfold mi;rw [if_pos h]
theorem seqF_n {m:List Dt} (h:m.length≠8):mi m=cE 5 false [] [] [] [] m []:=by unfold mi;rw [if_neg h]
def kidsF (l:List Dt):List Dt:=match l with
 | .int 5::_::_::_::_::_::.sl 8 k::_=>k
 | _=>l
theorem kids_seq {m:List Dt} (h:AndOrs m):kidsF (mi m)=m:=by
 rcases h with h | h
 ·rw [seqF_8 h.len];obtain⟨k,b,s,w,a,r,c,q,hk,rfl⟩:=h;unfold kidsF cE;split
  ·next heq=>
   simp only [List.cons.injEq,Dt.int.injEq] at heq;omega
  ·rfl
 ·rw [seqF_n (by omega)];rfl
theorem AndOrs.pos {m:List Dt} (h:AndOrs m):8≤m.length:=by
 rcases h with h | h
 ·rw [h.len];exact Nat.le_refl _
 ·omega
theorem tree_lists {K:Nat} {x y:List Tk} {la lb:List Dt} (ha:og (ab K) x=.ok la) (hb:og (ab K) y=.ok lb) (h1:la≠[]) (h2:lb≠[]) :
 og (ab K) (x++nlK::y)=.ok (cE 5 false [] [] [] [] (kidsF la++kidsF lb) []):=by
 obtain⟨zma0,zmb0,rfl,rfl,p3,p4,p5⟩:=tree_join (BO K) (command_heads K) (lJ K) (GV _ K) ha hb h1 h2;have ka:=andOrs_of (command_kn K) p3;have kb:=andOrs_of (command_kn K) p4;rw [p5,kids_seq ka,kids_seq kb,seqF_n (by rw [List.length_append];have:=ka.pos;have:=kb.pos;omega)]
theorem parse_lists {a b:List UInt8} {la lb:List Dt} (ha:o6 a=.ok la) (hb:o6 b=.ok lb) (h1:la≠[]) (h2:lb≠[]) (hf:lW a) (hl:a.length+1+b.length≤16384) :
 o6 (a++[10]++b)=.ok (cE 5 false [] [] [] [] (kidsF la++kidsF lb) []):=by
 unfold o6 eQ at ha hb ⊢;cases hx:ff a with
 | error e=>rw [hx] at ha;cases ha
 | ok x=>
  rw [hx] at ha;cases hy:ff b with
  | error e=>rw [hy] at hb;cases hb
  | ok y=>
   rw [hy] at hb;rw [RP hx hy hf hl];exact tree_lists ha hb h1 h2
theorem allLoop_small {cmd:List Tk→PR (List Dt)} (hc:CmdK cmd):∀(n:Nat) (acc:List Dt) (ts:List Tk) (d:List Dt) (r:List Tk),cW cmd n acc ts=.ok (d,r)→d.length≤acc.length+8*n:=by
 intro n;induction n with
 | zero=>intro acc ts d r h;cases h
 | succ n ih=>
  intro acc ts d r h;unfold cW at h;split at h
  ·split at h
   ·cases h
   ·next d1 r1 h1=>
    have h8:=(andOr_kn hc h1).len;have:=ih _ _ _ _ h;rw [List.length_append] at this;omega
  ·rw [←(Prod.mk.inj (Except.ok.inj h)).1];omega
theorem kids_small {a:Bs} {la:List Dt} (h:o6 a=.ok la) (hn:la≠[]) (hl:a.length≤300):la.length=8∧0<(kidsF la).length∧(kidsF la).length≤4000:=by
 unfold o6 eQ at h;cases hx:ff a with
 | error e=>rw [hx] at h;cases h
 | ok x=>
  rw [hx] at h;obtain⟨d,r,m,a1,a2,rfl,a4⟩:=tree_ok h hn;have hc:=Ud _ _ (L8 hx).2;have h1:=pu (lJ 40) _ _ _ a1;have h2:=dS x;have h3:=allLoop_small (command_kn 40) _ _ _ _ _ a2;have h4:=(andOr_kn (command_kn 40) a1).len;have hk:=andOrs_of (command_kn 40) ⟨d,r,a1,a2⟩;rw [kids_seq hk];refine⟨?_,Nat.lt_of_lt_of_le (by decide) hk.pos,by omega⟩;unfold mi;split
  ·assumption
  ·rfl
theorem rd_flat {w:World} {D:Nat→Prop} {d:Dt} {v:Value} (h:Rd w D d v):v.oneCell'=true:=by cases h<;>rfl
theorem rdl_flat {w:World} {D:Nat→Prop}:∀{ds:List Dt} {vs:List Value},bV w D ds vs→∀x∈vs,x.oneCell'=true
 | [],[],_,x,hx=>by cases hx
 | [],v::vs,h,_,_=>h.elim
 | d::ds,[],h,_,_=>h.elim
 | d::ds,v::vs,h,x,hx=>by
  rcases List.mem_cons.1 hx with rfl | hx
  ·exact rd_flat h.1
  ·exact rdl_flat h.2 x hx
theorem rd_vals {w:World} {D:Nat→Prop}:∀{cs:List Dt} {b off:Nat} {vs:Nat→Value},(∀j,j<cs.length→w.cell? ⟨b,off+j,none⟩=some (vs j))→(∀j (h:j<cs.length),Rd w D cs[j] (vs j))→
 ∃news:List Value,bV w D cs news∧∀j x,news[j]? = some x→w.cell? ⟨b,off+j,none⟩=some x
 | [],_,_,_,_,_=>⟨[],trivial,fun j x h=>by simp at h⟩
 | d::ds,b,off,vs,h1,h2=>by
  obtain⟨news,r,c⟩:=rd_vals (cs:=ds) (b:=b) (off:=off+1) (vs:=fun j=>vs (j+1)) (fun j hj=>by
   rw [show off+1+j=off+(j+1) by omega];exact h1 (j+1) (by rw [List.length_cons];omega)) (fun j hj=>h2 (j+1) (by rw [List.length_cons];omega))
  refine⟨vs 0::news,⟨h2 0 (by simp),r⟩,fun j x hx=>?_⟩;cases j with
  | zero=>
   obtain rfl:=Option.some.inj hx;exact h1 0 (by simp)
  | succ j=>
   rw [show off+(j+1)=off+1+j by omega];exact c j x hx
theorem rd_row {w:World} {D:Nat→Prop} {k:Nat} {cs:List Dt} {a:Option Addr} {m c:Nat} (h:Rd w D (.sl k cs) (.slice a m c)) (h0:0<cs.length) :
 ∃(b off:Nat) (news:List Value),a=some ⟨b,off,none⟩∧b<w.heap.size∧bV w D cs news∧news.length=cs.length∧(∀j x,news[j]? = some x→w.cell? ((⟨b,off,none⟩:Addr).add j)=some x)∧∀x∈news,x.oneCell'=true:=by
 cases h with
 | nil _ c a hc=>exact absurd h0 (Nat.not_lt_zero _)
 | sl _ _ b off m c vs hm hmc hc hb hD hv h=>
  obtain⟨news,r,hn⟩:=rd_vals hv h;refine⟨b,off,news,rfl,hb,r,r.len,fun j x hx=>?_,rdl_flat r⟩;rw [←hn j x hx];exact congrArg w.cell? (by unfold Addr.add;split<;>simp [*])
theorem rd_keeps {w w':World} {D:Nat→Prop} {d:Dt} {v:Value} {B:Nat} (h:Rd w D d v) (hk:ae (fun b=>B≤b) w w') (hB:w.heap.size≤B):Rd w' D d v:=h.keep hk fun b hb _ hs=>by omega
theorem ny_keeps {w w':World} {D:Nat→Prop} {x:Ny} {wa ga ra ka aa:Option Addr} {wl wc gl gc rl rcp kl kc al ac B:Nat} (h:Uy w D x wa wl wc ga gl gc ra rl rcp ka kl kc aa al ac) (hk:ae (fun b=>B≤b) w w') (hB:w.heap.size≤B):Uy w' D x wa wl wc ga gl gc ra rl rcp ka kl kc aa al ac:=⟨rd_keeps h.ws hk hB,rd_keeps h.gs hk hB,rd_keeps h.rs hk hB,rd_keeps h.ks hk hB,rd_keeps h.ar hk hB⟩
theorem own_keep {w w':World} {S:Nat→Prop} {T:TypeId} {k n:Nat} {v:Value} {vs:List Value} (ho:w.ownsRow 0 T k v n vs) (hk:ae S w w') (hv:∀g,v.ownBlock=some g→¬S g):w'.ownsRow 0 T k v n vs:=by
 refine⟨ho.1,?_⟩;rcases ho.2 with h0 | ⟨g,cap,cur,rfl,hb,hg,rest⟩
 ·exact .inl h0
 ·exact .inr ⟨g,cap,cur,rfl,hb,(hk.block g (Array.getElem?_eq_some_iff.1 hg).1 (hv g rfl)).trans hg,rest⟩
theorem own_cells {w:World} {T:TypeId} {k n c g:Nat} {vs:List Value} (ho:w.ownsRow 0 T k (.slice (some ⟨g,0,none⟩) n c) n vs):vs.length=n*k∧∀j u,vs[j]? = some u→w.cell? ((⟨g,0,none⟩:Addr).add j)=some u:=by
 refine⟨ho.1,fun j u hu=>?_⟩;have:=ho.cellAt j (by rw [←ho.1];exact (List.getElem?_eq_some_iff.1 hu).1);rw [hu] at this;rw [←this];exact congrArg w.cell? (by unfold Addr.add;split<;>simp [*])
def KidsPost (w:World) (D:Nat→Prop) (cs:List Dt) (e:Ending) (w':World):Prop:=∃(g n cap:Nat) (vs:List Value),e=.returned (.slice (some ⟨g,0,none⟩) n cap)∧bV w' D cs vs∧w'.ownsRow 0 44 8 (.slice (some ⟨g,0,none⟩) n cap) n vs∧w.heap.size≤g∧0<n∧cs.length=n*8∧ae (fun _=>False) w w'
theorem kids_join {w6:World} {N g1 n1 c1 n2:Nat} {cs1 cs2:List Dt} {vs1 vs2:List Value} (r1:bV w6 (fun b=>b<N) cs1 vs1) (r2:bV w6 (fun b=>b<N) cs2 vs2) (hg1:N≤g1) (hN:N≤w6.heap.size) (gg cap:Nat) (w7:World)
 (hown:w7.ownsRow 0 44 8 (.slice (some ⟨gg,0,none⟩) (n1+n2) cap) (n1+n2) (vs1++vs2)) (hgrow:w6.grownBy w7 (Value.slice (some ⟨g1,0,none⟩) n1 c1).ownBlock) (hat:(Value.slice (some ⟨g1,0,none⟩) n1 c1).ownBlock=some gg∨gg=w6.heap.size) :
 Rd w7 (fun _=>True) (.sl 8 (cs1++cs2)) (.slice (some ⟨gg,0,none⟩) (n1+n2) cap)∧ae (fun b=>N≤b) w6 w7:=by
 have hk:ae (fun b=>b=g1) w6 w7:=(ae.refl _ w6).grown hgrow fun k e _=>(Option.some.inj e).symm;have hgg:N≤gg:=by
  rcases hat with h | h
  ·have:g1=gg:=Option.some.inj h;omega
  ·omega
 have hr:=(r1.app r2).keep hk (fun b _ hb s=>by have:b=g1:=s;omega);have ho:eM w7 (fun _=>True) (.slice (some ⟨gg,0,none⟩) (n1+n2) cap) 8 44 (n1+n2) (cs1++cs2):=⟨vs1++vs2,hr.mono fun b _ hb=>⟨trivial,fun e=>by have:gg=b:=Option.some.inj e;omega⟩,hown⟩;exact⟨ho.reads fun _ _=>trivial,hk.mono fun b _ s=>by have:b=g1:=s;omega⟩
theorem kids_row (x:Ny):kidsF x.row=if x.kind=5 then x.ks else x.row:=by
 unfold kidsF Ny.row;split
 ·next h=>
  simp only [List.cons.injEq,Dt.int.injEq,Dt.sl.injEq,true_and] at h;obtain⟨h1,-,-,-,-,-,h2,-⟩:=h;rw [if_pos h1,h2]
 ·next h=>
  split
  ·next h5=>rw [h5] at h;exact absurd rfl (h _ _ _ _ _ _ _)
  ·rfl
theorem kids_any (w:World) (D:Nat→Prop) (x:Ny) (wa:Option Addr) (wl wc:Nat) (ga:Option Addr) (gl gc:Nat) (ra:Option Addr) (rl rcp:Nat) (ka:Option Addr) (kl kc:Nat) (aa:Option Addr) (al ac:Nat)
 (ha:Uy w D x wa wl wc ga gl gc ra rl rcp ka kl kc aa al ac) (hpos:0<(kidsF x.row).length) (hsm:(kidsF x.row).length≤8000) :
 Calls Tryz.prog 19 #[.agg #[.int .i64 x.kind,.bool x.nt,.string ⟨x.nm.toArray⟩,.slice wa wl wc,.slice ga gl gc,.slice ra rl rcp,.slice ka kl kc,.slice aa al ac]] w (KidsPost w D (kidsF x.row)):=by
 have hc8:=aT;obtain⟨i0,hi0,hz0,hz1,hz2⟩:=info_parts jm;obtain⟨cs,hcs⟩:∃cs,cs=kidsF x.row:=⟨_,rfl⟩;rw [←hcs] at hpos hsm ⊢;rw [kids_row] at hcs;obtain⟨kx,hkx⟩:∃l,l=x.kind:=⟨_,rfl⟩;obtain⟨tx,htx⟩:∃l,l=x.nt:=⟨_,rfl⟩;obtain⟨nx,hnx⟩:∃l:ByteArray,l=⟨x.nm.toArray⟩:=⟨_,rfl⟩;obtain⟨W,hW⟩:∃W,W=w.alloc (.cells #[.int .i64 kx,.bool tx,.string nx,.slice wa wl wc,.slice ga gl gc,.slice ra rl rcp,.slice ka kl kc,.slice aa al ac] 44):=⟨_,rfl⟩
 have hkW:ae (fun _=>False) w W:=by rw [hW];exact (ae.refl _ _).alloc _
 have HA:=Hd (ha.keep0 hkW);have HKW:=Hd hkW;have HR1:=Hd (show af W w.heap.size [.int .i64 kx,.bool tx,.string nx,.slice wa wl wc,.slice ga gl gc,.slice ra rl rcp,.slice ka kl kc,.slice aa al ac] by rw [hW];exact aD _ _ _ _ _ _ _ _ _ _);have HW:=Hd hW;have HSZ:=Hd (show W.heap.size=w.heap.size+1 by rw [hW];simp);rw [←hkx,←htx,←hnx];clear ha hW hkW;by_cases h5:x.kind=5
 ·rw [if_pos h5] at hcs;subst hcs;obtain⟨hkl,hkm⟩:=HA.out.ks.len8;obtain⟨b,off,news,rfl,hb,hr,hnl,hnc,hn1⟩:=rd_row HA.out.ks hpos;have t0:(kx==5)=true:=by rw [hkx,beq_iff_eq];exact h5
  have hk0:0<kl:=by omega
  have hk1:kl≤1000:=by omega
  have hnl2:news.length=kl*8:=hnl.trans hkl;obtain⟨⟨x0,x1,x2,x3,x4,x5,x6,x7⟩,_⟩:=HR1.out.eight;have hlt:=HR1.out.lt;have HR:=Hd hr;have HL:=Hd hkl;clear hkx htx hnx h5 hr hkl hnl hpos hsm;go_enter Tryz.func19,Tryz.ntmps19;go_wp2_with (at_builtin;rw [←HW.out];refine wpList_append_lies _ rfl _ _ _ rfl 0 44 i0 _ 8 152 Tryz.underlying23 hi0 hz0 hz1 hz2 rfl (by omega) (.slice none 0 0) 0 [] rfl (World.ownsRow_nil _ _ _ _) ⟨b,off,none⟩ kl kc news rfl hnl2 hnc hn1 hk0 (by unfold maxLen;omega) (by omega) (by simp) W.heap.size rfl ?_;intro gg cap w7 hown7 hgrow7 hat7 hlt7;rw [Nat.zero_add] at hown7 ⊢;rw [List.nil_append] at hown7)
  go_ret;have hk7:ae (fun _=>False) W w7:=(ae.refl _ W).grown hgrow7 fun k e=>by cases e
  refine⟨gg,kl,cap,news,rfl,HR.out.keep hk7 (fun _ _ _ h=>h),hown7,?_,hk0,HL.out,HKW.out.trans hk7 (fun _ _ h=>h)⟩;rcases hat7 with h | h
  ·cases h
  ·have:=HSZ.out;omega
 ·rw [if_neg h5] at hcs;subst hcs;have t0:(kx==5)=false:=by rw [hkx,beq_eq_false_iff_ne];exact h5
  have HR:=Hd (show bV W D x.row [.int .i64 kx,.bool tx,.string nx,.slice wa wl wc,.slice ga gl gc,.slice ra rl rcp,.slice ka kl kc,.slice aa al ac] by
   rw [hkx,htx,hnx];exact⟨.int _,.bool _,.str _,HA.out.ws,HA.out.gs,HA.out.rs,HA.out.ks,HA.out.ar,trivial⟩)
  obtain⟨⟨x0,x1,x2,x3,x4,x5,x6,x7⟩,_⟩:=HR1.out.eight;have hlt:=HR1.out.lt;clear hkx htx hnx h5 hpos hsm;go_enter Tryz.func19,Tryz.ntmps19;go_wp2_with fail;rw [←HW.out];go_wp2_with fail;go_ret;have hk7:ae (fun _=>False) W (W.alloc (.cells #[.int .i64 kx,.bool tx,.string nx,.slice wa wl wc,.slice ga gl gc,.slice ra rl rcp,.slice ka kl kc,.slice aa al ac] 44)):=(ae.refl _ _).alloc _;have ho:=World.ownsRow_lit (base:=0) (e:=44) (size:=8) W #[.int .i64 kx,.bool tx,.string nx,.slice wa wl wc,.slice ga gl gc,.slice ra rl rcp,.slice ka kl kc,.slice aa al ac] 1 (Nat.zero_le _) (by decide) (by simp)
  rw [HSZ.out] at ho;exact⟨w.heap.size+1,1,1,_,rfl,HR.out.keep hk7 (fun _ _ _ h=>h),by simpa using ho,by omega,by omega,rfl,HKW.out.trans hk7 (fun _ _ h=>h)⟩
theorem scr_q {w w':World} {res:Except Nat (List Dt)} {e:Ending} (h:sK w res e w'):∃(a:Option Addr) (m c x:Nat),e=.returned (.tuple #[.slice a m c,.int .i64 (x:Nat)])∧ae (fun _=>False) w w'∧
 (x=0→0<m→∃ds,res=.ok ds∧ds≠[]∧ds.length=m*8∧Rd w' (fun b=>w.heap.size≤b) (.sl 8 ds) (.slice a m c)):=by
 cases res with
 | error x=>exact⟨none,0,0,x,h.1,h.2,fun _ h=>absurd h (Nat.lt_irrefl 0)⟩
 | ok ds=>
  obtain⟨a,m,c,he,hr,hk⟩:=h;have hl:=hr.len8.1;exact⟨a,m,c,0,he,hk,fun _ hm=>⟨ds,rfl,fun e=>by rw [e] at hl;simp at hl;omega,hl,hr⟩⟩
theorem end_of {s:ByteArray} (h:(au s (s.size - 1)==92)=false):lW s.data.toList:=fun p e=>by
 have hl:s.size=p.length+1:=by rw [Lib.size_eq,e];simp
 unfold au at h;rw [hl,Nat.add_sub_cancel,e] at h;simp at h
theorem size_of {s:ByteArray} {ds:List Dt} (h:o6 s.data.toList=.ok ds) (hn:ds≠[]):0<s.size:=by
 rw [Lib.size_eq];cases hs:s.data.toList with
 | nil=>
  rw [hs] at h;cases h;exact absurd rfl hn
 | cons c t=>simp
theorem node_of {a:Bs} {ds:List Dt} (h:o6 a=.ok ds) (hl:ds.length=8):∃(x:Ny) (n:Nat),ds=x.row∧ds=[x].flatMap Ny.row∧ir n ds:=by
 obtain⟨n,hn⟩:=TZ h;obtain⟨xs,hx,_⟩:=hn.out;have h8:=uU (f:=Ny.row) (k:=8) (fun _=>rfl) xs;rw [←hx,hl] at h8;obtain⟨x,rfl⟩:=List.length_eq_one_iff.1 (show xs.length=1 by omega);exact⟨x,n,by rw [hx];simp,hx,hn⟩
theorem kids_good {n:Nat} {x:Ny} (h:ir n x.row):dI (kidsF x.row):=by
 rw [kids_row];split
 ·cases n with
  | zero=>cases h
  | succ n=>
   obtain⟨xs,hx,hA⟩:=h;have h8:=uU (f:=Ny.row) (k:=8) (fun _=>rfl) xs;rw [←hx] at h8;rw [show x.row.length=8 from rfl] at h8;obtain⟨y,rfl⟩:=List.length_eq_one_iff.1 (show xs.length=1 by omega);have hy:x.row=y.row:=by rw [hx];simp
   have hk:x.ks=y.ks:=by
    unfold Ny.row at hy;simp only [List.cons.injEq,Dt.sl.injEq,true_and] at hy;exact hy.2.2.2.2.2.2.1
   exact⟨n,by rw [hk];exact (hA y (by simp)).2.2.2.1⟩
 ·exact⟨n,h⟩
theorem parseLists_walk (a0 a1:ByteArray) (w:World) (h0:a0.size≤140737488351232) (h1:a1.size≤140737488351232) (hsh:w.ShapedOpen Tryz.prog) (hL:laidMetH Tryz.prog Rows.parseListsRow.laid w) :
 Calls Tryz.prog 6 #[.string a0,.string a1] w fun e w'=>e=.returned (.bool true)∧Below w.heap.size w w':=by
 have HEV:=Hd (ev_of rfl hL hsh);have hc8:=aT;obtain⟨i0,hi0,hz0,hz1,hz2⟩:=info_parts jm;have HQA:=Hd (fun W=>T0 W a0.data.toList (by rw [←Lib.size_eq];exact h0));have HQB:=Hd (fun W=>T0 W a1.data.toList (by rw [←Lib.size_eq];exact h1));rw [show (⟨a0.data.toList.toArray⟩:ByteArray)=a0 from rfl] at HQA;rw [show (⟨a1.data.toList.toArray⟩:ByteArray)=a1 from rfl] at HQB;clear hL hsh
 go_enter Tryz.func6,Tryz.ntmps6;go_wp2_with fail;refine (TX w _ HEV.out).mono ?_;rintro e w1 ⟨rfl,hk1⟩;have HK1:=Hd hk1;clear hk1;go_wp2_with fail;refine (HQA.out w1).mono ?_;intro e w2 hp;obtain⟨xa,zxm0,xc,xe,rfl,hk2,hgx⟩:=scr_q hp;have HX:=Hd hgx;have HK12:=Hd hk2;have HK2:=Hd (HK1.out.trans hk2 (fun _ _ h=>h));clear hp hk2 hgx HQA;go_wp2_with fail;refine (HQB.out w2).mono ?_;intro e w3 hp
 obtain⟨ya,ym,yc,ye,rfl,hk3,hgy⟩:=scr_q hp;have HY:=Hd hgy;have HK23:=Hd hk3;have HK3:=Hd (HK2.out.trans hk3 (fun _ _ h=>h));clear hp hk3 hgy HQB;rcases Nat.lt_or_ge 300 a0.size with hl0 | hl0
 ·have p0:(300:Int)<(a0.size:Int):=by omega
  clear hl0;go_wp2_with fail;go_ret;exact⟨rfl,HK3.out.below0 (fun _ h=>h.elim)⟩
 rcases Nat.lt_or_ge 300 a1.size with hl1 | hl1
 ·have p0:¬(300:Int)<(a0.size:Int):=by omega
  have p1:(300:Int)<(a1.size:Int):=by omega
  clear hl0 hl1;go_wp2_with fail;go_ret;exact⟨rfl,HK3.out.below0 (fun _ h=>h.elim)⟩
 have p0:¬(300:Int)<(a0.size:Int):=by omega
 have p1:¬(300:Int)<(a1.size:Int):=by omega
 by_cases hxe:xe=0;rotate_left
 ·have c0:((xe:Int) != 0)=true:=by rw [bne_iff_ne];omega
  clear hxe;go_wp2_with fail;go_ret;exact⟨rfl,HK3.out.below0 (fun _ h=>h.elim)⟩
 subst hxe;by_cases hye:ye=0;rotate_left
 ·have c0:((ye:Int) != 0)=true:=by rw [bne_iff_ne];omega
  clear hye;go_wp2_with fail;go_ret;exact⟨rfl,HK3.out.below0 (fun _ h=>h.elim)⟩
 subst hye;by_cases hxm:zxm0=0
 ·subst hxm;go_wp2_with fail;go_ret;exact⟨rfl,HK3.out.below0 (fun _ h=>h.elim)⟩
 by_cases hym:ym=0
 ·subst hym;have c0:((zxm0:Int)==0)=false:=by rw [beq_eq_false_iff_ne];omega
  clear hxm;go_wp2_with fail;go_ret;exact⟨rfl,HK3.out.below0 (fun _ h=>h.elim)⟩
 obtain⟨la,hpa,hna,hla,hra⟩:=HX.out rfl (by omega);obtain⟨lb,hpb,hnb,hlb,hrb⟩:=HY.out rfl (by omega);have sa:a0.data.toList.length≤300:=by rw [←Lib.size_eq];exact hl0
 have zsb0:a1.data.toList.length≤300:=by rw [←Lib.size_eq];exact hl1
 obtain⟨ha8,hka0,hka1⟩:=kids_small hpa hna sa;obtain⟨hb8,hkb0,hkb1⟩:=kids_small hpb hnb zsb0;obtain rfl:zxm0=1:=by omega
 obtain rfl:ym=1:=by omega
 have hpos:=size_of hpa hna;obtain⟨x,nx,hxr,hxf,hxn⟩:=node_of hpa ha8;obtain⟨y,zny0,hyr,hyf,hyn⟩:=node_of hpb hb8;have HGA:=Hd (kids_good (hxr ▸ hxn));have HGB:=Hd (kids_good (hyr ▸ hyn));obtain⟨c,hc⟩:∃c,c=au a0 (a0.size - 1):=⟨_,rfl⟩;have hb:=gI (s:=a0) (k:=a0.size - 1) (by omega);rw [←hc] at hb;have HC:=Hd hc;have i1:IntKind.i64.wrap ((a0.size:Int) - 1)=((a0.size - 1:Nat):Int):=by
  rw [IntWalk.i64_in _ (by omega)];omega
 have i2:((a0.size - 1:Nat):Int)<(a0.size:Int):=by omega
 have HRA:=Hd (bH hra HK23.out);have HRB:=Hd hrb;have HPA:=Hd hpa;have HPB:=Hd hpb;have HSM:=Hd (And.intro hka0 (And.intro hka1 (And.intro hkb0 hkb1)));have HXR:=Hd (And.intro hxr hxf);have HYR:=Hd (And.intro hyr hyf);have HNA:=Hd (And.intro hna hnb);clear hc hra hrb hpa hpb hka0 hka1 hkb0 hkb1 hxr hxf hyr hyf hna hnb hxn hyn ha8 hb8 hla hlb hxm hym HX HY;by_cases t92:c=92
 ·have f92:((c.toNat:Int)==92)=true:=aE (c:=c) (k:=92) t92;clear t92;go_wp2_with fail;go_ret;exact⟨rfl,HK3.out.below0 (fun _ h=>h.elim)⟩
 have f92:((c.toNat:Int)==92)=false:=aw (c:=c) (k:=92) t92;have HE:=Hd (end_of (s:=a0) (by rw [←HC.out];exact beq_eq_false_iff_ne.2 t92));clear t92;obtain⟨S,hS⟩:∃S,S=a0++(⟨#[10]⟩:ByteArray)++a1:=⟨_,rfl⟩;have hps:o6 S.data.toList=.ok (cE 5 false [] [] [] [] (kidsF la++kidsF lb) []):=by
  rw [hS,GH,GH];exact parse_lists HPA.out HPB.out HNA.out.1 HNA.out.2 HE.out (by omega)
 have hsz:S.size≤140737488351232:=by rw [hS,YN,YN];show a0.size+1+a1.size≤_;omega
 have HPS:=Hd (fun W (hW:ae (fun _=>False) w W)=>Ic W _ S (HEV.out.keep hW (fun _ _ h=>h)) hsz);have HPR:=Hd hps;have HS:=Hd hS;clear hps hsz hS;go_wp2_with fail;rw [←HS.out];refine (HPS.out w3 HK3.out).mono ?_;rw [HPR.out];rintro e w4 ⟨a,m,c4,rfl,hrd,hk4⟩;obtain⟨hl,_⟩:=hrd.len8;obtain rfl:m=1:=by have:(8:Nat)=m*8:=hl;omega
 obtain⟨b,o,rfl,hb4,_,hF⟩:=hrd.base (by show 0<8;decide);obtain⟨u0,d0,r0⟩:=hF 0 (by show 0<8;decide);obtain⟨u6,d6,r6⟩:=hF 6 (by show 6<8;decide);obtain rfl:=Rd.int_v (n:=5) r0;have r6:Rd w4 (fun b=>w3.heap.size≤b) (.sl 8 (kidsF la++kidsF lb)) u6:=r6;obtain⟨ka,km,kc,rfl,hkl,_,_⟩:=Rd.shape (k:=8) (by decide) r6;rw [Nat.add_zero] at d0;have HR6:=Hd r6;have HK34:=Hd hk4;have HK4:=Hd (HK3.out.trans hk4 (fun _ _ h=>h))
 replace HRA:=Hd (bH HRA.out hk4);replace HRB:=Hd (bH HRB.out hk4);clear hk4 hrd hF r0 r6 hl hkl;go_wp2_with fail;refine (Mn 0 _).mono ?_;rintro e w5 ⟨rfl,hw5⟩;rw [hw5];clear hw5;have HNX:=Cj (xs:=[x]) (by rw [←HXR.out.2];exact HRA.out.mono (D':=fun b=>b<w4.heap.size) fun b hb _=>hb) (i:=0) (by simp);simp only [List.getElem_cons_zero,Nat.zero_mul,Nat.add_zero] at HNX;obtain⟨zgX0,oX,waX,wlX,wcX,gaX,glX,gcX,raX,rlX,rcX,kaX,klX,kcX,aaX,alX,acX,rfl,hgX,hqX,hnX⟩:=HNX
 have HKX:=Hd (fun W (hW:ae (fun b=>w4.heap.size≤b) w4 W)=>kids_any W _ x _ _ _ _ _ _ _ _ _ _ _ _ _ _ _ (ny_keeps hnX hW (Nat.le_refl _)) (by rw [←HXR.out.1];exact HSM.out.1) (by rw [←HXR.out.1];have:=HSM.out.2.1;omega));rw [←HXR.out.1] at HKX;obtain⟨zkX0,hkX⟩:∃l,l=x.kind:=⟨_,rfl⟩;obtain⟨ztX0,htX⟩:∃l,l=x.nt:=⟨_,rfl⟩;obtain⟨znX0,hsX⟩:∃l:ByteArray,l=⟨x.nm.toArray⟩:=⟨_,rfl⟩;rw [←hkX,←htX,←hsX] at HKX hqX
 clear hkX htX hsX hnX;have HNY:=Cj (xs:=[y]) (by rw [←HYR.out.2];exact HRB.out.mono (D':=fun b=>b<w4.heap.size) fun b hb _=>hb) (i:=0) (by simp);simp only [List.getElem_cons_zero,Nat.zero_mul,Nat.add_zero] at HNY;obtain⟨zgY0,oY,waY,wlY,wcY,gaY,glY,gcY,raY,rlY,rcY,kaY,klY,kcY,aaY,alY,acY,rfl,hgY,hqY,hnY⟩:=HNY;have HKY:=Hd (fun W (hW:ae (fun b=>w4.heap.size≤b) w4 W)=>kids_any W _ y _ _ _ _ _ _ _ _ _ _ _ _ _ _ _ (ny_keeps hnY hW (Nat.le_refl _)) (by rw [←HYR.out.1];exact HSM.out.2.2.1) (by rw [←HYR.out.1];have:=HSM.out.2.2.2;omega))
 rw [←HYR.out.1] at HKY;obtain⟨kY,hkY⟩:∃l,l=y.kind:=⟨_,rfl⟩;obtain⟨ztY0,htY⟩:∃l,l=y.nt:=⟨_,rfl⟩;obtain⟨znY0,hsY⟩:∃l:ByteArray,l=⟨y.nm.toArray⟩:=⟨_,rfl⟩;rw [←hkY,←htY,←hsY] at HKY hqY;clear hkY htY hsY hnY;obtain⟨nn,hnn⟩:=dI.app HGA.out HGB.out;rw [←HXR.out.1,←HYR.out.1] at hnn;have HSAME:=Hd (fun W (hW:ae (fun b=>w4.heap.size≤b) w4 W) (gg cap k:Nat) (hr:Rd W (fun _=>True) (.sl 8 (kidsF la++kidsF lb)) (.slice (some ⟨gg,0,none⟩) k cap))=>aaQ (nn+1) nn (Nat.lt_succ_self _) W _ _ (kidsF la++kidsF lb) ka (some ⟨gg,0,none⟩) km kc k cap hnn (rd_keeps HR6.out hW (Nat.le_refl _)) hr)
 have HSS:Hid (∀w',ae (fun b=>w4.heap.size≤b) w4 w'→(fun w'=>w'.cell? ⟨b,o+6,none⟩=some (.slice ka km kc)∧w'.cell? ⟨zgX0,oX,none⟩=some (.int .i64 zkX0)∧w'.cell? ⟨zgX0,oX+1,none⟩=some (.bool ztX0)∧w'.cell? ⟨zgX0,oX+2,none⟩=some (.string znX0)∧w'.cell? ⟨zgX0,oX+3,none⟩=some (.slice waX wlX wcX)∧w'.cell? ⟨zgX0,oX+4,none⟩=some (.slice gaX glX gcX)∧w'.cell? ⟨zgX0,oX+5,none⟩=some (.slice raX rlX rcX)∧w'.cell? ⟨zgX0,oX+6,none⟩=some (.slice kaX klX kcX)∧w'.cell? ⟨zgX0,oX+7,none⟩=some (.slice aaX alX acX)∧w'.cell? ⟨zgY0,oY,none⟩=some (.int .i64 kY)∧w'.cell? ⟨zgY0,oY+1,none⟩=some (.bool ztY0)∧w'.cell? ⟨zgY0,oY+2,none⟩=some (.string znY0)∧w'.cell? ⟨zgY0,oY+3,none⟩=some (.slice waY wlY wcY)∧w'.cell? ⟨zgY0,oY+4,none⟩=some (.slice gaY glY gcY)∧w'.cell? ⟨zgY0,oY+5,none⟩=some (.slice raY rlY rcY)∧w'.cell? ⟨zgY0,oY+6,none⟩=some (.slice kaY klY kcY)∧w'.cell? ⟨zgY0,oY+7,none⟩=some (.slice aaY alY acY)∧ae (fun b=>w4.heap.size≤b) w4 w') w'):=Hd fun w' hk=>by
  have hcell:∀(bb oo:Nat) (v:Value),bb<w4.heap.size→w4.cell? ⟨bb,oo,none⟩=some v→w'.cell? ⟨bb,oo,none⟩=some v:=fun bb oo v hb h=>by
   rw [World.cell?_of_block (hk.block bb hb (by omega))];exact h
  obtain⟨qx0,qx1,qx2,qx3,qx4,qx5,qx6,qx7⟩:=hqX;obtain⟨qy0,qy1,qy2,qy3,qy4,qy5,qy6,qy7⟩:=hqY;exact⟨hcell _ _ _ hb4 d6,hcell _ _ _ hgX qx0,hcell _ _ _ hgX qx1,hcell _ _ _ hgX qx2,hcell _ _ _ hgX qx3,hcell _ _ _ hgX qx4,hcell _ _ _ hgX qx5,hcell _ _ _ hgX qx6,hcell _ _ _ hgX qx7,hcell _ _ _ hgY qy0,hcell _ _ _ hgY qy1,hcell _ _ _ hgY qy2,hcell _ _ _ hgY qy3,hcell _ _ _ hgY qy4,hcell _ _ _ hgY qy5,hcell _ _ _ hgY qy6,hcell _ _ _ hgY qy7,hk⟩
 clear hnn hqX hqY hgX hgY HGA HGB d6;go_wp2_with fail;go_region_held3 (fun w'=>w'.cell? ⟨b,o+6,none⟩=some (.slice ka km kc)∧w'.cell? ⟨zgX0,oX,none⟩=some (.int .i64 zkX0)∧w'.cell? ⟨zgX0,oX+1,none⟩=some (.bool ztX0)∧w'.cell? ⟨zgX0,oX+2,none⟩=some (.string znX0)∧w'.cell? ⟨zgX0,oX+3,none⟩=some (.slice waX wlX wcX)∧w'.cell? ⟨zgX0,oX+4,none⟩=some (.slice gaX glX gcX)∧w'.cell? ⟨zgX0,oX+5,none⟩=some (.slice raX rlX rcX)∧w'.cell? ⟨zgX0,oX+6,none⟩=some (.slice kaX klX kcX)∧w'.cell? ⟨zgX0,oX+7,none⟩=some (.slice aaX alX acX)∧w'.cell? ⟨zgY0,oY,none⟩=some (.int .i64 kY)∧w'.cell? ⟨zgY0,oY+1,none⟩=some (.bool ztY0)∧w'.cell? ⟨zgY0,oY+2,none⟩=some (.string znY0)∧w'.cell? ⟨zgY0,oY+3,none⟩=some (.slice waY wlY wcY)∧w'.cell? ⟨zgY0,oY+4,none⟩=some (.slice gaY glY gcY)∧w'.cell? ⟨zgY0,oY+5,none⟩=some (.slice raY rlY rcY)∧w'.cell? ⟨zgY0,oY+6,none⟩=some (.slice kaY klY kcY)∧w'.cell? ⟨zgY0,oY+7,none⟩=some (.slice aaY alY acY)∧ae (fun b=>w4.heap.size≤b) w4 w') (first | exact HSS.out _ HKK | exact HSS.out _ ((ae.refl _ _).drew)) (first
  | (refine step_append_lies _ (by rfl) _ _ _ (by rfl) 0 44 i0 _ 8 152 Tryz.underlying23 hi0 hz0 hz1 hz2 rfl (by omega) (.slice (some ⟨g1,0,none⟩) n1 c1) n1 vs1 (by rfl) ho1 ⟨g2,0,none⟩ n2 c2 vs2 (by rfl) ho3.1 ho3.2 hf2 hp2 (by unfold maxLen;omega) (by omega) (by simp) w6.heap.size (by simp) ?_;intro gg cap w7 hown7 hgrow7 hat7 hlt7;have hj:=kids_join hr1 hr2 hg1 hN6 gg cap w7 hown7 hgrow7 hat7;have HJ7:=Hd hj.1;have HKK7:=HKK.trans hj.2 (fun _ _ h=>h);clear HKK;have HKK:=HKK7;clear HKK7 hj hown7 hgrow7 hat7)
  | (go_at_call 11;refine (HSAME.out _ HKK _ _ _ HJ7.out).mono ?_;rintro e w8 ⟨rfl,hk8⟩;have HKK8:=HKK.trans hk8 (fun _ _ h=>h.elim);clear HKK;have HKK:=HKK8;clear HKK8 hk8)
  | (go_at_call 19;refine (HKY.out _ HKK5).mono ?_;rintro e w6 ⟨g2,n2,c2,vs2,rfl,hr2,ho2,hg2,hp2,hl2,hk6⟩;have ho3:=own_cells ho2;have hf2:=rdl_flat hr2;have HKK6:=HKK5.trans hk6 (fun _ _ h=>h.elim);have hN6:=HKK6.size;replace hr1:=hr1.keep hk6 (fun _ _ _ h=>h);replace ho1:=own_keep ho1 hk6 (fun _ _ h=>h);have hz1b:=HSM.out.2.1;have hz2b:=HSM.out.2.2.2;clear HKK HKK5 ho2 hg2;have HKK:=HKK6;clear HKK6 hk6)
  | (go_at_call 19;refine (HKX.out _ ((ae.refl _ _).drew)).mono ?_;rintro e w5 ⟨g1,n1,c1,vs1,rfl,hr1,ho1,hg1,hp1,hl1,hk5⟩;have HKK:=((ae.refl (fun b=>w4.heap.size≤b) w4).drew).trans hk5 (fun _ _ h=>h.elim);have HKK5:=HKK;clear hk5))
 all_goals (
  go_wp2_with fail;go_ret;exact⟨rfl,((HK4.out.mono (T:=fun b=>w.heap.size≤b) (fun _ _ h=>h.elim)).trans HKK (fun b hb h=>by have h2:w4.heap.size≤b:=h;have:=HK4.out.size;omega)).below (Nat.le_refl _)⟩)
end Go.Proofs.YtiihpbccabeoeaaGreatDoor
