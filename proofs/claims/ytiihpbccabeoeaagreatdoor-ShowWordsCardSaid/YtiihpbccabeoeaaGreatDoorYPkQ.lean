/- The walk: a part. -/
import Derived.Test.YtiihpbccabeoeaaGreatDoorYPkE
namespace Go.Proofs.YtiihpbccabeoeaaGreatDoor
open Go.RowKit
set_option linter.unusedVariables false
set_option maxRecDepth 100000
set_option maxHeartbeats 16000000
theorem eq_char:(letterB 61 || digitB 61)=false:=by decide
theorem tail_61:∀a b:List UInt8,tailRun (a++61::b)=tailRun a
 | [],b=>by
  show (if (letterB 61 || digitB 61)=true then tailRun b+1 else 0)=0;rw [eq_char,if_neg (by simp)]
 | c::a,b=>by
  show (if (letterB c || digitB c)=true then tailRun (a++61::b)+1 else 0)=if (letterB c || digitB c)=true then tailRun a+1 else 0;rw [tail_61 a b]
theorem run_61:∀a b:List UInt8,a≠[]→runF (a++61::b)=runF a
 | [],b,h=>absurd rfl h
 | c::a,b,h=>by
  show (if letterB c=true then tailRun (a++61::b)+1 else 0)=if letterB c=true then tailRun a+1 else 0;rw [tail_61 a b]
theorem cut_split:∀{s nm rest:List UInt8},cutEq s=some (nm,rest)→s=nm++61::rest
 | [],nm,rest,h=>by cases h
 | c::t,nm,rest,h=>by
  unfold cutEq at h;split at h
  ·next hc=>
   cases h;rw [beq_iff_eq] at hc;rw [hc];rfl
  ·cases ht:cutEq t with
   | none=>rw [ht] at h;cases h
   | some p=>
    obtain⟨a,b⟩:=p;rw [ht] at h;cases h;rw [cut_split ht];rfl
theorem cut_tail:∀{s:List UInt8},s[tailRun s]? = some 61→cutEq s=some (s.take (tailRun s),s.drop (tailRun s+1))
 | [],h=>by simp at h
 | c::t,h=>by
  unfold tailRun at h ⊢;by_cases hc:(letterB c || digitB c)=true
  ·rw [if_pos hc] at h ⊢;rw [List.getElem?_cons_succ] at h;have hne:(c==61)=false:=by
    rw [beq_eq_false_iff_ne];intro e;rw [e,eq_char] at hc;cases hc
   unfold cutEq;rw [hne,if_neg (by simp),cut_tail h];rfl
  ·rw [if_neg hc] at h ⊢;have e:c=61:=by simpa using h
   subst e;rfl
theorem cut_run:∀{s:List UInt8},0<runF s→s[runF s]? = some 61→cutEq s=some (s.take (runF s),s.drop (runF s+1))
 | [],h0,h=>by cases h0
 | c::t,h0,h=>by
  by_cases hc:letterB c=true
  ·have e:runF (c::t)=tailRun t+1:=if_pos hc;rw [e] at h ⊢;rw [List.getElem?_cons_succ] at h;have hne:(c==61)=false:=by
    rw [beq_eq_false_iff_ne];intro e;rw [e] at hc;exact absurd hc (by decide)
   unfold cutEq;rw [hne,if_neg (by simp),cut_tail h];rfl
  ·have e:runF (c::t)=0:=if_neg hc;rw [e] at h0;cases h0
theorem tail_take:∀s:List UInt8,tailRun (s.take (tailRun s))=tailRun s
 | []=>rfl
 | c::t=>by
  by_cases hc:(letterB c || digitB c)=true
  ·have e:tailRun (c::t)=tailRun t+1:=if_pos hc;rw [e,List.take_succ_cons];show (if (letterB c || digitB c)=true then tailRun (t.take (tailRun t))+1 else 0)=_;rw [if_pos hc,tail_take t]
  ·have e:tailRun (c::t)=0:=if_neg hc;rw [e];rfl
theorem run_take:∀s:List UInt8,runF (s.take (runF s))=runF s
 | []=>rfl
 | c::t=>by
  by_cases hc:letterB c=true
  ·have e:runF (c::t)=tailRun t+1:=if_pos hc;rw [e,List.take_succ_cons];show (if letterB c=true then tailRun (t.take (tailRun t))+1 else 0)=_;rw [if_pos hc,tail_take t]
  ·have e:runF (c::t)=0:=if_neg hc;rw [e];rfl
theorem trun_len:∀s:List UInt8,tailRun s≤s.length
 | []=>Nat.le_refl _
 | c::t=>by
  unfold tailRun;split
  ·have:=trun_len t;rw [List.length_cons];omega
  ·exact Nat.zero_le _
theorem run_len:∀s:List UInt8,runF s≤s.length
 | []=>Nat.le_refl _
 | c::t=>by
  by_cases hc:letterB c=true
  ·have e:runF (c::t)=tailRun t+1:=if_pos hc;have:=trun_len t;rw [e,List.length_cons];omega
  ·have e:runF (c::t)=0:=if_neg hc;rw [e];exact Nat.zero_le _
def assignR:List Pt→Option (Bs×List Pt)
 | []=>none
 | p::t=>if p.kind==1 then (if 0<runF p.text∧runF p.text≤60∧p.text[runF p.text]? = some 61 then some (p.text.take (runF p.text),if (p.text.drop (runF p.text+1)).isEmpty then t else txtP (p.text.drop (runF p.text+1))::t) else none) else none
theorem assign_run (w:List Pt):assignR w=assignF w:=by
 cases w with
 | nil=>rfl
 | cons p t=>
  unfold assignR assignF;dsimp only;by_cases hk:(p.kind==1)=true
  ·rw [if_pos hk,if_pos hk];generalize p.text=s;by_cases hq:0<runF s∧runF s≤60∧s[runF s]? = some 61
   ·obtain⟨h1,h2,h3⟩:=hq;rw [if_pos ⟨h1,h2,h3⟩,cut_run h1 h3];dsimp only;have hl:(s.take (runF s)).length=runF s:=by rw [List.length_take];have:=run_len s;omega
    have hn:nameOkF (s.take (runF s))=true:=by
     unfold nameOkF;rw [run_take,hl];simp only [Bool.and_eq_true,Bool.not_eq_true',decide_eq_true_eq,beq_self_eq_true,and_true];refine⟨?_,h2⟩;rw [List.isEmpty_eq_false_iff];intro e;rw [e] at hl;simp at hl;omega
    rw [hn,if_pos rfl]
   ·rw [if_neg hq];cases hc:cutEq s with
    | none=>rfl
    | some x=>
     obtain⟨nm,rest⟩:=x;dsimp only;rw [if_neg];intro hn;unfold nameOkF at hn;simp only [Bool.and_eq_true,Bool.not_eq_true',decide_eq_true_eq,beq_iff_eq] at hn;obtain⟨⟨h1,h2⟩,h3⟩:=hn;have hne:nm≠[]:=by rw [List.isEmpty_eq_false_iff] at h1;exact h1
     have hs:=cut_split hc;have hr:runF s=nm.length:=by rw [hs,run_61 nm rest hne,h3]
     refine hq ⟨?_,by omega,?_⟩
     ·have:0<nm.length:=List.length_pos_iff.2 hne;omega
     ·rw [hr,hs];simp
  ·rw [if_neg hk,if_neg hk]
def closerL:List Bs:=[[116,104,101,110],[101,108,105,102],[101,108,115,101],[102,105],[100,111],[100,111,110,101],[101,115,97,99],[125]]
def closesF (ts:List Tk):Bool:=ts.isEmpty || isOpF [41] ts || isOpF [59,59] ts || closerL.contains (plainT (atF ts))
def compB (ts:List Tk):Bool:=startsL.contains (plainT (atF ts)) || isOpF [40] ts
theorem plain_kind {t:Tk} (h:(t.kind==1)=false):plainT t=[]:=by unfold plainT;rw [h];rfl
theorem begins_split (ts:List Tk):beginsF ts=(((atF ts).kind==1) && !reservedL.contains (plainT (atF ts)) || compB ts || redirB ts):=by
 unfold beginsF compB isOpF redirB;generalize atF ts=t;cases hk:(t.kind==1) with
 | true=>
  have h2:(t.kind==2)=false:=by rw [beq_iff_eq] at hk;rw [hk];rfl
  rw [h2,if_pos rfl];cases hr:reservedL.contains (plainT t) with
  | true=>simp
  | false=>
   have hs:startsL.contains (plainT t)=false:=by
    rw [←Bool.not_eq_true];intro hh;have:reservedL.contains (plainT t)=true:=by
     rw [List.contains_iff_mem] at hh ⊢;simp only [startsL,List.mem_cons,List.not_mem_nil,or_false] at hh;rcases hh with h | h | h | h | h | h<;>rw [h]<;>decide
    rw [this] at hr;cases hr
   simp
 | false=>
  rw [if_neg (by simp),plain_kind hk];rw [show startsL.contains ([]:Bs)=false from by decide];simp
theorem redir_split (ts:List Tk):redirB ts=(isOpF [60] ts || isOpF [62] ts || isOpF [62,62] ts || isOpF [50,62] ts || isOpF [50,62,62] ts):=by
 unfold redirB isOpF;generalize atF ts=t;cases hk:(t.kind==2) with
 | false=>simp
 | true=>
  simp only [Bool.true_and];rw [Bool.eq_iff_iff,List.contains_iff_mem];simp only [redirL,List.mem_cons,List.not_mem_nil,or_false,Bool.or_eq_true,beq_iff_eq,or_assoc]
structure QS (w:World) (Lo B ps:Nat) (tv:Value) (n:Nat) (T:List Tk) (i x:Nat):Prop where
 rd:RecAt w ps [tv,.int .i64 (i:Nat),.int .i64 (x:Nat)]
 toks:TksAt w (fun b=>Lo≤b∧b<B) n T tv
 ps:B≤ps
 i:i≤T.length+1000
 sm:SmT T
theorem QS.lt {w:World} {Lo B ps:Nat} {tv:Value} {n:Nat} {T:List Tk} {i x:Nat} (h:QS w Lo B ps tv n T i x):ps<w.heap.size:=h.rd.lt
theorem QS.keep {w w':World} {Lo B ps:Nat} {tv:Value} {n:Nat} {T:List Tk} {i x:Nat} {S:Nat→Prop} (h:QS w Lo B ps tv n T i x) (hk:Keeps S w w') (hS:∀b,b<B→¬S b) (hc:¬S ps):QS w' Lo B ps tv n T i x:=
 ⟨h.rd.keep hk hc,h.toks.keep hk (fun b _ hb=>hS b hb.2),h.ps,h.i,h.sm⟩
theorem QS.keep0 {w w':World} {Lo B ps:Nat} {tv:Value} {n:Nat} {T:List Tk} {i x:Nat} (h:QS w Lo B ps tv n T i x) (hk:Keeps (fun _=>False) w w'):QS w' Lo B ps tv n T i x:=h.keep hk (fun _ _ x=>x) (fun x=>x)
theorem QS.shape {w:World} {Lo B ps:Nat} {tv:Value} {n:Nat} {T:List Tk} {i x:Nat} (h:QS w Lo B ps tv n T i x):∃a c,tv=.slice a T.length c∧T.length≤c∧c≤maxLen:=h.toks.shape
theorem QS.cells {w:World} {Lo B ps:Nat} {tv:Value} {n:Nat} {T:List Tk} {i x:Nat} (h:QS w Lo B ps tv n T i x) :
 w.cell? ⟨ps,0,none⟩=some tv∧w.cell? ⟨ps,1,none⟩=some (.int .i64 (i:Nat))∧w.cell? ⟨ps,2,none⟩=some (.int .i64 (x:Nat))∧
 w.frozen? ⟨ps,1,none⟩=false∧w.frozen? ⟨ps,2,none⟩=false:=by
 obtain⟨⟨c0,c1,c2⟩,f0,f1,f2⟩:=h.rd.three;exact⟨c0,c1,c2,f1,f2⟩
theorem QS.set1 {w:World} {Lo B ps:Nat} {tv:Value} {n:Nat} {T:List Tk} {i x:Nat} (h:QS w Lo B ps tv n T i x) {j:Nat} (hj:j≤T.length+1000):QS (w.setCell ⟨ps,1,none⟩ (.int .i64 (j:Nat))) Lo B ps tv n T j x∧Keeps (fun b=>b=ps) w (w.setCell ⟨ps,1,none⟩ (.int .i64 (j:Nat))):=by
 have hk:Keeps (fun b=>b=ps) w (w.setCell ⟨ps,1,none⟩ (.int .i64 (j:Nat))):=(Keeps.refl _ _).setCell _ _ fun _=>rfl;have hB:=h.ps;exact⟨⟨h.rd.set 1 _,h.toks.keep hk (fun b _ hb e=>by have:=hb.2;omega),h.ps,hj,h.sm⟩,hk⟩
theorem QS.set2 {w:World} {Lo B ps:Nat} {tv:Value} {n:Nat} {T:List Tk} {i x:Nat} (h:QS w Lo B ps tv n T i x) (y:Nat):QS (w.setCell ⟨ps,2,none⟩ (.int .i64 (y:Nat))) Lo B ps tv n T i y∧Keeps (fun b=>b=ps) w (w.setCell ⟨ps,2,none⟩ (.int .i64 (y:Nat))):=by
 have hk:Keeps (fun b=>b=ps) w (w.setCell ⟨ps,2,none⟩ (.int .i64 (y:Nat))):=(Keeps.refl _ _).setCell _ _ fun _=>rfl;have hB:=h.ps;exact⟨⟨h.rd.set 2 _,h.toks.keep hk (fun b _ hb e=>by have:=hb.2;omega),h.ps,h.i,h.sm⟩,hk⟩
theorem qfail_any (w:World) (Lo B ps n i x y:Nat) (tv:Value) (T:List Tk) (h:QS w Lo B ps tv n T i x) :
 Calls Tryz.prog 162 #[.pointer (some ⟨ps,0,none⟩),.int .i64 (y:Nat)] w fun e w'=>e=.returned (.tuple #[])∧QS w' Lo B ps tv n T i (if x=0 then y else x)∧Keeps (fun b=>b=ps) w w':=by
 obtain⟨c0,c1,c2,f1,f2⟩:=h.cells;by_cases hx:x=0
 ·subst hx;rw [if_pos rfl];go_enter Tryz.func162,Tryz.ntmps162;go_wp2_with fail;go_end0;exact⟨rfl,(h.set2 y).1,(h.set2 y).2⟩
 ·rw [if_neg hx];have t:((x:Int)==0)=false:=by rw [beq_eq_false_iff_ne];omega
  clear hx;go_enter Tryz.func162,Tryz.ntmps162;go_wp2_with fail;go_end0;exact⟨rfl,h,Keeps.refl _ _⟩
theorem qop_any (w:World) (Lo B ps n i x:Nat) (tv:Value) (T:List Tk) (s:List UInt8) (h:QS w Lo B ps tv n T i x) :
 Calls Tryz.prog 93 #[.pointer (some ⟨ps,0,none⟩),.string ⟨s.toArray⟩] w fun e w'=>e=.returned (.bool (isOpF s (T.drop i)))∧∃q,w'=w.drewN q:=by
 obtain⟨c0,c1,c2,f1,f2⟩:=h.cells;have hlt:=h.lt;have hc3:=cells_token;obtain⟨ta,tc,rfl,ht1,ht2⟩:=h.shape;obtain⟨r,hr⟩:∃r,r=isOpF s (T.drop i):=⟨_,rfl⟩;rw [←hr];rcases Nat.lt_or_ge i T.length with hi | hi
 ·obtain⟨g,o,xa,xl,xc,rfl,⟨q0,q1,q2⟩,hx,hg⟩:=h.toks.at (Keeps.refl _ _) hi;unfold isOpF at hr;rw [atF_in hi] at hr;generalize T[i]=t at *;have p1:(i:Int)<(T.length:Int):=by omega
  unfold strV at q1;obtain⟨L,hL⟩:∃L,L=T.length:=⟨_,rfl⟩;obtain⟨kd,hkd⟩:∃kd,kd=t.kind:=⟨_,rfl⟩;obtain⟨tx,htx⟩:∃tx,tx=t.text:=⟨_,rfl⟩;rw [←htx] at q1 hr;rw [←hkd] at q0 hr;rw [←hL] at c0 p1;have HR:=Hd hr;clear h hi hx hL hkd htx hr;by_cases hk:kd=2
  ·subst hk;cases hs:(tx==s) with
   | true=>
    have HR2:=Hd (show r=true by rw [HR.out,hs];rfl);clear HR;go_enter Tryz.func93,Tryz.ntmps93;go_wp2_with fail;go_quiet (fail);go_wp2_with fail;go_ret;rw [HR2.out];exact⟨rfl,_,rfl⟩
   | false=>
    have HR2:=Hd (show r=false by rw [HR.out,hs];rfl);clear HR;go_enter Tryz.func93,Tryz.ntmps93;go_wp2_with fail;go_quiet (fail);go_wp2_with fail;go_ret;rw [HR2.out];exact⟨rfl,_,rfl⟩
  ·have t0:((kd:Int)==2)=false:=by rw [beq_eq_false_iff_ne];omega
   have HR2:=Hd (show r=false by
    rw [HR.out,show (kd==2)=false from by rw [beq_eq_false_iff_ne];exact hk];rfl)
   clear HR hk;go_enter Tryz.func93,Tryz.ntmps93;go_wp2_with fail;go_quiet (fail);go_wp2_with fail;go_ret;rw [HR2.out];exact⟨rfl,_,rfl⟩
 ·have HR2:=Hd (show r=false by rw [hr];unfold isOpF;rw [atF_end hi];rfl);obtain⟨L,hL⟩:∃L,L=T.length:=⟨_,rfl⟩;rw [←hL] at c0 hi;have p1:¬(i:Int)<(L:Int):=by omega
  have p2:(i<L)=False:=eq_false (by omega);clear h hr hL;go_enter Tryz.func93,Tryz.ntmps93;go_wp2_with fail;go_quiet (fail);go_wp2_with fail;go_ret;rw [HR2.out];exact⟨rfl,_,rfl⟩
theorem qword_any (w:World) (Lo B ps n i x:Nat) (tv:Value) (T:List Tk) (h:QS w Lo B ps tv n T i x) :
 Calls Tryz.prog 143 #[.pointer (some ⟨ps,0,none⟩)] w fun e w'=>e=.returned (.bool ((atF (T.drop i)).kind==1))∧∃q,w'=w.drewN q:=by
 obtain⟨c0,c1,c2,f1,f2⟩:=h.cells;have hlt:=h.lt;have hc3:=cells_token;obtain⟨ta,tc,rfl,ht1,ht2⟩:=h.shape;obtain⟨r,hr⟩:∃r,r=((atF (T.drop i)).kind==1):=⟨_,rfl⟩;rw [←hr];rcases Nat.lt_or_ge i T.length with hi | hi
 ·obtain⟨g,o,xa,xl,xc,rfl,⟨q0,q1,q2⟩,hx,hg⟩:=h.toks.at (Keeps.refl _ _) hi;rw [atF_in hi] at hr;generalize T[i]=t at *;have p1:(i:Int)<(T.length:Int):=by omega
  obtain⟨L,hL⟩:∃L,L=T.length:=⟨_,rfl⟩;obtain⟨kd,hkd⟩:∃kd,kd=t.kind:=⟨_,rfl⟩;rw [←hkd] at q0 hr;rw [←hL] at c0 p1;have HR:=Hd hr;clear h hi hx hL hkd hr q1 q2;by_cases hk:kd=1
  ·subst hk;have HR2:=Hd (show r=true from HR.out);clear HR;go_enter Tryz.func143,Tryz.ntmps143;go_wp2_with fail;go_quiet (fail);go_wp2_with fail;go_ret;rw [HR2.out];exact⟨rfl,_,rfl⟩
  ·have t0:((kd:Int)==1)=false:=by rw [beq_eq_false_iff_ne];omega
   have HR2:=Hd (show r=false by rw [HR.out,beq_eq_false_iff_ne];exact hk);clear HR hk;go_enter Tryz.func143,Tryz.ntmps143;go_wp2_with fail;go_quiet (fail);go_wp2_with fail;go_ret;rw [HR2.out];exact⟨rfl,_,rfl⟩
 ·have HR2:=Hd (show r=false by rw [hr,atF_end hi];rfl);obtain⟨L,hL⟩:∃L,L=T.length:=⟨_,rfl⟩;rw [←hL] at c0 hi;have p1:¬(i:Int)<(L:Int):=by omega
  have p2:(i<L)=False:=eq_false (by omega);clear h hr hL;go_enter Tryz.func143,Tryz.ntmps143;go_wp2_with fail;go_quiet (fail);go_wp2_with fail;go_ret;rw [HR2.out];exact⟨rfl,_,rfl⟩
theorem qplain_any (w:World) (Lo B ps n i x:Nat) (tv:Value) (T:List Tk) (h:QS w Lo B ps tv n T i x) :
 Calls Tryz.prog 124 #[.pointer (some ⟨ps,0,none⟩)] w fun e w'=>e=.returned (strV (plainT (atF (T.drop i))))∧∃q,w'=w.drewN q:=by
 have hc3:=cells_token;have hc6:=cells_part;have HH:=Lib.hid h;cases hk:((atF (T.drop i)).kind==1) with
 | false=>
  have hp:plainT (atF (T.drop i))=[]:=plain_kind hk;rw [hp];have hw:=qword_any w Lo B ps n i x tv T h;rw [hk] at hw;have HW:=Hd hw;clear h hw hp hk;go_enter Tryz.func124,Tryz.ntmps124;go_wp2_with fail;refine HW.out.mono ?_;rintro e w1 ⟨rfl,q,rfl⟩;go_wp2_with fail;go_ret;exact⟨rfl,q,rfl⟩
 | true=>
  have hi:i<T.length:=by
   rcases Nat.lt_or_ge i T.length with hi | hi
   ·exact hi
   ·rw [atF_end hi] at hk;cases hk
  have hw:=qword_any w Lo B ps n i x tv T h;rw [hk] at hw;have HW:=Hd hw;obtain⟨c0,c1,c2,f1,f2⟩:=h.cells;have hlt:=h.lt;obtain⟨ta,tc,rfl,ht1,ht2⟩:=h.shape;obtain⟨g,o,xa,xl,xc,rfl,⟨q0,q1,q2⟩,hx,hg⟩:=h.toks.at (Keeps.refl _ _) hi;obtain⟨ya,yc,hye,hy1,hy2⟩:=hx.shape;injection hye with e1 e2 e3;subst e1 e2 e3;rw [atF_in hi] at hk ⊢;obtain⟨t,ht⟩:∃t,t=T[i]:=⟨_,rfl⟩;rw [←ht] at hk q2 hx hy1 ⊢;have p1:(i:Int)<(T.length:Int):=by omega
  obtain⟨L,hL⟩:∃L,L=T.length:=⟨_,rfl⟩;rw [←hL] at c0 p1;obtain⟨r,hr⟩:∃r,r=plainT t:=⟨_,rfl⟩;rw [←hr];unfold plainT at hr;rw [hk,if_pos rfl] at hr;by_cases hl:t.word.length=1
  ·obtain⟨p,hp⟩:∃p,t.word=[p]:=List.length_eq_one_iff.1 hl;rw [hp] at hx q2 hr;obtain⟨g2,o2,za,zl,zc,rfl,⟨s0,s1,s2,s3,s4,s5⟩,hz,_,hg2⟩:=hx.at (Keeps.refl _ _) (i:=0) (by simp);have q2':w.cell? ⟨g,o+i*3+2,none⟩=some (.slice (some ⟨g2,o2,none⟩) 1 xc):=q2;have s0':w.cell? ⟨g2,o2,none⟩=some (.int .i64 (p.kind:Nat)):=by simpa using s0
   have s1':w.cell? ⟨g2,o2+1,none⟩=some (strV p.text):=by simpa using s1
   obtain⟨tx,htx⟩:∃tx:ByteArray,tx=⟨p.text.toArray⟩:=⟨_,rfl⟩;unfold strV at s1';rw [←htx] at s1';obtain⟨kd,hkd⟩:∃kd,kd=p.kind:=⟨_,rfl⟩;rw [←hkd] at s0';dsimp only at hr;rw [←hkd] at hr;have HTX:=Hd htx;have HR:=Hd hr;clear h hi hx hz hL ht hr hkd htx q0 q1 q2 s0 s1 s2 s3 s4 s5 hk hl hp hw hy1 hy2;by_cases hk1:kd=1
   ·subst hk1;have HR2:=Hd (show .string tx=strV r by rw [HTX.out,HR.out];rfl);clear HR;go_enter Tryz.func124,Tryz.ntmps124;go_wp2_with fail;refine HW.out.mono ?_;rintro e w1 ⟨rfl,q,rfl⟩;go_wp2_with fail;go_quiet (fail);go_wp2_with fail;go_ret;exact⟨by rw [←HR2.out];rfl,q+nq,rfl⟩
   ·have t0:((kd:Int)==1)=false:=by rw [beq_eq_false_iff_ne];omega
    have HR2:=Hd (show r=[] by rw [HR.out,if_neg (by rw [beq_iff_eq];exact hk1)]);clear HR hk1;go_enter Tryz.func124,Tryz.ntmps124;go_wp2_with fail;refine HW.out.mono ?_;rintro e w1 ⟨rfl,q,rfl⟩;go_wp2_with fail;go_quiet (fail);go_wp2_with fail;go_ret;rw [HR2.out];exact⟨rfl,q+nq,rfl⟩
  ·have hr0:r=[]:=by
    rw [hr];split
    ·next p hp=>rw [hp] at hl;exact absurd rfl hl
    ·rfl
   have t0:((t.word.length:Int)==1)=false:=by rw [beq_eq_false_iff_ne];omega
   obtain⟨wl,hwl⟩:∃wl,wl=t.word.length:=⟨_,rfl⟩;rw [←hwl] at q2 t0;have HR2:=Hd hr0;clear h hi hx hL ht hr hr0 q0 q1 hk hl hw hwl hy1 hy2;go_enter Tryz.func124,Tryz.ntmps124;go_wp2_with fail;refine HW.out.mono ?_;rintro e w1 ⟨rfl,q,rfl⟩;go_wp2_with fail;go_quiet (fail);go_wp2_with fail;go_ret;rw [HR2.out];exact⟨rfl,q+nq,rfl⟩
theorem qlines_any (w:World) (Lo B ps n i x:Nat) (tv:Value) (T:List Tk) (h:QS w Lo B ps tv n T i x) :
 Calls Tryz.prog 62 #[.pointer (some ⟨ps,0,none⟩)] w fun e w'=>e=.returned (.tuple #[])∧∃j,i≤j∧(i≤T.length→j≤T.length)∧(T.length≤i→j=i)∧T.drop j=linesF (T.drop i)∧QS w' Lo B ps tv n T j x∧Keeps (fun b=>b=ps) w w':=by
 go_enter Tryz.func62,Tryz.ntmps62;go_wp2_with fail;go_loopg [] (T.length - i) (fun k wr=>∃I:Nat,k=T.length - I∧i≤I∧(i≤T.length→I≤T.length)∧(T.length≤i→I=i)∧QS wr Lo B ps tv n T I x∧Keeps (fun b=>b=ps) w wr∧linesF (T.drop I)=linesF (T.drop i))
 case atStart=>exact⟨i,rfl,Nat.le_refl _,id,fun _=>rfl,h,Keeps.refl _ _,rfl⟩
 case round=>
  obtain⟨I,hgk,h1,h2,h3,hs,hk,hl⟩:=hrel;have HS:=Hd hs;have HK:=Hd hk;have HL:=Hd hl;have HGK:=Hd hgk;have hm:T.length≤20000:=hs.sm.1;have hI:=hs.i;have hw:=qop_any wr Lo B ps n I x tv T [10] hs;cases ho:isOpF [10] (T.drop I) with
  | true=>
   have hlt:I<T.length:=by
    rcases Nat.lt_or_ge I T.length with hi | hi
    ·exact hi
    ·rw [show isOpF [10] (T.drop I)=false by unfold isOpF;rw [atF_end hi];rfl] at ho;cases ho
   rw [ho] at hw;have HW:=Hd hw;have hnl:linesF (T.drop (I+1))=linesF (T.drop i):=by
    rw [←hl,List.drop_eq_getElem_cons hlt];unfold isOpF at ho;rw [atF_in hlt] at ho;show _=(if T[I].kind==2 && T[I].text==[10] then linesF (T.drop (I+1)) else _);rw [ho,if_pos rfl]
   have HNL:=Hd hnl;clear hgk hs hk hl hw ho hnl h;go_wp2_with fail;refine HW.out.mono ?_;rintro e w1 ⟨rfl,q,rfl⟩;obtain⟨w2,hw2⟩:∃w2,w2=wr.drewN q:=⟨_,rfl⟩;rw [←hw2];have hk2:Keeps (fun _=>False) wr w2:=by rw [hw2];exact (Keeps.refl _ _).drewN _
   have HS2:=Hd (HS.out.keep0 hk2);have HK2:=Hd (HK.out.trans hk2 (fun _ _ h=>h.elim));obtain⟨c0,c1,c2,f1,f2⟩:=HS2.out.cells;have hlt2:=HS2.out.lt;clear hw2 hk2;go_wp2_with fail;obtain⟨a1,a2⟩:=HS2.out.set1 (j:=I+1) (by omega);have HA1:=Hd a1;have HA2:=Hd (HK2.out.trans a2 (fun _ _ h=>h));clear a1 a2;go_roundg (T.length - (I+1))
   case measure=>have:=HGK.out;omega
   case rel=>exact⟨I+1,rfl,by omega,fun _=>by omega,fun _=>by omega,by simpa using HA1.out,by simpa using HA2.out,HNL.out⟩
  | false=>
   rw [ho] at hw;have HW:=Hd hw;have hnl:linesF (T.drop I)=T.drop I:=by
    rcases Nat.lt_or_ge I T.length with hi | hi
    ·rw [List.drop_eq_getElem_cons hi];unfold isOpF at ho;rw [atF_in hi] at ho;show (if T[I].kind==2 && T[I].text==[10] then linesF (T.drop (I+1)) else T[I]::T.drop (I+1))=_;rw [ho];rfl
    ·rw [List.drop_eq_nil_of_le hi];rfl
   have HNL:=Hd (show T.drop I=linesF (T.drop i) by rw [←hl,hnl]);clear hgk hs hk hl hw ho hnl h;go_wp2_with fail;refine HW.out.mono ?_;rintro e w1 ⟨rfl,q,rfl⟩;go_wp2_with fail;go_end0;exact⟨rfl,I,h1,h2,h3,HNL.out,HS.out.keep0 ((Keeps.refl _ _).drewN _),HK.out.trans ((Keeps.refl (fun _=>False) _).drewN q) (fun _ _ h=>h.elim)⟩
theorem ls_ne {s l:List UInt8} (h:¬s=l):(s==l)=false:=by
 rw [beq_eq_false_iff_ne];exact h
theorem QS.drewN {w:World} {Lo B ps:Nat} {tv:Value} {n:Nat} {T:List Tk} {i x:Nat} (h:QS w Lo B ps tv n T i x) (q:Nat):QS (w.drewN q) Lo B ps tv n T i x:=h.keep0 ((Keeps.refl _ _).drewN _)
theorem qop_at {w:World} {Lo B ps n i x:Nat} {tv:Value} {T:List Tk} (h:QS w Lo B ps tv n T i x) (s:List UInt8) (b:Bool) (hb:isOpF s (T.drop i)=b) (q:Nat) :
 Calls Tryz.prog 93 #[.pointer (some ⟨ps,0,none⟩),.string ⟨s.toArray⟩] (w.drewN q) fun e w'=>e=.returned (.bool b)∧∃q',w'=w.drewN q':=by
 subst hb;exact (qop_any (w.drewN q) Lo B ps n i x tv T s (h.drewN q)).mono fun e w' ⟨h1,q',h2⟩=>⟨h1,q+q',by rw [h2,World.drewN_drewN]⟩
theorem qplain_at {w:World} {Lo B ps n i x:Nat} {tv:Value} {T:List Tk} (h:QS w Lo B ps tv n T i x) (s:List UInt8) (hs:plainT (atF (T.drop i))=s) (q:Nat) :
 Calls Tryz.prog 124 #[.pointer (some ⟨ps,0,none⟩)] (w.drewN q) fun e w'=>e=.returned (.string ⟨s.toArray⟩)∧∃q',w'=w.drewN q':=by
 subst hs;exact (qplain_any (w.drewN q) Lo B ps n i x tv T (h.drewN q)).mono fun e w' ⟨h1,q',h2⟩=>⟨h1,q+q',by rw [h2,World.drewN_drewN]⟩
theorem qredir_any (w:World) (Lo B ps n i x:Nat) (tv:Value) (T:List Tk) (h:QS w Lo B ps tv n T i x) :
 Calls Tryz.prog 161 #[.pointer (some ⟨ps,0,none⟩)] w fun e w'=>e=.returned (.bool (redirB (T.drop i)))∧∃q,w'=w.drewN q:=by
 rw [redir_split];cases h0:isOpF [60] (T.drop i) with
 | true=>
  have H0:=Hd (qop_at h [60] true h0);clear h h0;go_enter Tryz.func161,Tryz.ntmps161;go_wp2_with fail;refine (H0.out 0).mono ?_;rintro e w0 ⟨rfl,q0,rfl⟩;go_wp2_with fail;go_ret;exact⟨rfl,q0,rfl⟩
 | false=>
 cases h1:isOpF [62] (T.drop i) with
 | true=>
  have H0:=Hd (qop_at h [60] false h0);have H1:=Hd (qop_at h [62] true h1);clear h h0 h1;go_enter Tryz.func161,Tryz.ntmps161;go_wp2_with fail;refine (H0.out 0).mono ?_;rintro e w0 ⟨rfl,q0,rfl⟩;go_wp2_with fail;refine (H1.out q0).mono ?_;rintro e w1 ⟨rfl,q1,rfl⟩;go_wp2_with fail;go_ret;exact⟨rfl,q1,rfl⟩
 | false=>
 cases h2:isOpF [62,62] (T.drop i) with
 | true=>
  have H0:=Hd (qop_at h [60] false h0);have H1:=Hd (qop_at h [62] false h1);have H2:=Hd (qop_at h [62,62] true h2);clear h h0 h1 h2;go_enter Tryz.func161,Tryz.ntmps161;go_wp2_with fail;refine (H0.out 0).mono ?_;rintro e w0 ⟨rfl,q0,rfl⟩;go_wp2_with fail;refine (H1.out q0).mono ?_;rintro e w1 ⟨rfl,q1,rfl⟩;go_wp2_with fail;refine (H2.out q1).mono ?_;rintro e w2 ⟨rfl,q2,rfl⟩;go_wp2_with fail;go_ret;exact⟨rfl,q2,rfl⟩
 | false=>
 cases h3:isOpF [50,62] (T.drop i) with
 | true=>
  have H0:=Hd (qop_at h [60] false h0);have H1:=Hd (qop_at h [62] false h1);have H2:=Hd (qop_at h [62,62] false h2);have H3:=Hd (qop_at h [50,62] true h3);clear h h0 h1 h2 h3;go_enter Tryz.func161,Tryz.ntmps161;go_wp2_with fail;refine (H0.out 0).mono ?_;rintro e w0 ⟨rfl,q0,rfl⟩;go_wp2_with fail;refine (H1.out q0).mono ?_;rintro e w1 ⟨rfl,q1,rfl⟩;go_wp2_with fail;refine (H2.out q1).mono ?_;rintro e w2 ⟨rfl,q2,rfl⟩
  go_wp2_with fail;refine (H3.out q2).mono ?_;rintro e w3 ⟨rfl,q3,rfl⟩;go_wp2_with fail;go_ret;exact⟨rfl,q3,rfl⟩
 | false=>
 cases h4:isOpF [50,62,62] (T.drop i) with
 | true=>
  have H0:=Hd (qop_at h [60] false h0);have H1:=Hd (qop_at h [62] false h1);have H2:=Hd (qop_at h [62,62] false h2);have H3:=Hd (qop_at h [50,62] false h3);have H4:=Hd (qop_at h [50,62,62] true h4);clear h h0 h1 h2 h3 h4;go_enter Tryz.func161,Tryz.ntmps161;go_wp2_with fail;refine (H0.out 0).mono ?_;rintro e w0 ⟨rfl,q0,rfl⟩;go_wp2_with fail;refine (H1.out q0).mono ?_;rintro e w1 ⟨rfl,q1,rfl⟩;go_wp2_with fail
  refine (H2.out q1).mono ?_;rintro e w2 ⟨rfl,q2,rfl⟩;go_wp2_with fail;refine (H3.out q2).mono ?_;rintro e w3 ⟨rfl,q3,rfl⟩;go_wp2_with fail;refine (H4.out q3).mono ?_;rintro e w4 ⟨rfl,q4,rfl⟩;go_wp2_with fail;go_ret;exact⟨rfl,q4,rfl⟩
 | false=>
 have H0:=Hd (qop_at h [60] false h0);have H1:=Hd (qop_at h [62] false h1);have H2:=Hd (qop_at h [62,62] false h2);have H3:=Hd (qop_at h [50,62] false h3);have H4:=Hd (qop_at h [50,62,62] false h4);clear h h0 h1 h2 h3 h4;go_enter Tryz.func161,Tryz.ntmps161;go_wp2_with fail;refine (H0.out 0).mono ?_;rintro e w0 ⟨rfl,q0,rfl⟩;go_wp2_with fail;refine (H1.out q0).mono ?_;rintro e w1 ⟨rfl,q1,rfl⟩;go_wp2_with fail
 refine (H2.out q1).mono ?_;rintro e w2 ⟨rfl,q2,rfl⟩;go_wp2_with fail;refine (H3.out q2).mono ?_;rintro e w3 ⟨rfl,q3,rfl⟩;go_wp2_with fail;refine (H4.out q3).mono ?_;rintro e w4 ⟨rfl,q4,rfl⟩;go_wp2_with fail;go_ret;exact⟨rfl,q4,rfl⟩
theorem qcomp_any (w:World) (Lo B ps n i x:Nat) (tv:Value) (T:List Tk) (h:QS w Lo B ps tv n T i x) :
 Calls Tryz.prog 160 #[.pointer (some ⟨ps,0,none⟩)] w fun e w'=>e=.returned (.bool (compB (T.drop i)))∧∃q,w'=w.drewN q:=by
 obtain⟨s,hs⟩:∃s,plainT (atF (T.drop i))=s:=⟨_,rfl⟩;unfold compB;rw [hs];have HP:=Hd (qplain_at h s hs);by_cases hm:s∈startsL
 ·rw [show startsL.contains s=true from List.contains_iff_mem.2 hm,Bool.true_or];simp only [startsL,List.mem_cons,List.not_mem_nil,or_false] at hm;clear h hs;rcases hm with rfl | rfl | rfl | rfl | rfl | rfl
  all_goals
   go_enter Tryz.func160,Tryz.ntmps160;go_wp2_with fail;refine (HP.out 0).mono ?_;rintro e w1 ⟨rfl,q,rfl⟩;go_wp2_with fail;go_ret;exact⟨rfl,q,rfl⟩
 ·rw [show startsL.contains s=false by rw [←Bool.not_eq_true,List.contains_iff_mem];exact hm,Bool.false_or];obtain⟨b,hb⟩:∃b,isOpF [40] (T.drop i)=b:=⟨_,rfl⟩;rw [hb];have HO:=Hd (qop_at h [40] b hb);simp only [startsL,List.mem_cons,List.not_mem_nil,or_false,not_or] at hm;obtain⟨m0,m1,m2,m3,m4,m5⟩:=hm;have n0:(s==[105,102])=false:=ls_ne m0;have n1:(s==[119,104,105,108,101])=false:=ls_ne m1;have n2:(s==[117,110,116,105,108])=false:=ls_ne m2
  have n3:(s==[102,111,114])=false:=ls_ne m3;have n4:(s==[99,97,115,101])=false:=ls_ne m4;have n5:(s==[123])=false:=ls_ne m5;clear h hs hb m0 m1 m2 m3 m4 m5;go_enter Tryz.func160,Tryz.ntmps160;go_wp2_with fail;refine (HP.out 0).mono ?_;rintro e w1 ⟨rfl,q,rfl⟩;go_wp2_with fail;refine (HO.out q).mono ?_;rintro e w2 ⟨rfl,q2,rfl⟩;go_wp2_with fail;go_ret;exact⟨rfl,q2,rfl⟩
theorem qreserved_any (w:World) (s:List UInt8):Calls Tryz.prog 159 #[.string ⟨s.toArray⟩] w fun e w'=>e=.returned (.bool (reservedL.contains s))∧w'=w:=by
 by_cases hm:s∈reservedL
 ·rw [show reservedL.contains s=true from List.contains_iff_mem.2 hm];simp only [reservedL,List.mem_cons,List.not_mem_nil,or_false] at hm;rcases hm with rfl | rfl | rfl | rfl | rfl | rfl | rfl | rfl | rfl | rfl | rfl | rfl | rfl | rfl | rfl | rfl
  all_goals
   go_enter Tryz.func159,Tryz.ntmps159;go_wp2_with fail;go_ret;exact⟨rfl,rfl⟩
 ·rw [show reservedL.contains s=false by rw [←Bool.not_eq_true,List.contains_iff_mem];exact hm];simp only [reservedL,List.mem_cons,List.not_mem_nil,or_false,not_or] at hm;obtain⟨m0,m1,m2,m3,m4,m5,m6,m7,m8,m9,m10,m11,m12,m13,m14,m15⟩:=hm;have n0:(s==[105,102])=false:=ls_ne m0;have n1:(s==[116,104,101,110])=false:=ls_ne m1;have n2:(s==[101,108,105,102])=false:=ls_ne m2;have n3:(s==[101,108,115,101])=false:=ls_ne m3
  have n4:(s==[102,105])=false:=ls_ne m4;have n5:(s==[119,104,105,108,101])=false:=ls_ne m5;have n6:(s==[117,110,116,105,108])=false:=ls_ne m6;have n7:(s==[100,111])=false:=ls_ne m7;have n8:(s==[100,111,110,101])=false:=ls_ne m8;have n9:(s==[102,111,114])=false:=ls_ne m9;have n10:(s==[105,110])=false:=ls_ne m10;have n11:(s==[99,97,115,101])=false:=ls_ne m11;have n12:(s==[101,115,97,99])=false:=ls_ne m12
  have n13:(s==[123])=false:=ls_ne m13;have n14:(s==[125])=false:=ls_ne m14;have n15:(s==[33])=false:=ls_ne m15;clear m0 m1 m2 m3 m4 m5 m6 m7 m8 m9 m10 m11 m12 m13 m14 m15;go_enter Tryz.func159,Tryz.ntmps159;go_wp2_with fail;go_ret;exact⟨rfl,rfl⟩
theorem qcloses_any (w:World) (Lo B ps n i x:Nat) (tv:Value) (T:List Tk) (h:QS w Lo B ps tv n T i x) :
 Calls Tryz.prog 95 #[.pointer (some ⟨ps,0,none⟩)] w fun e w'=>e=.returned (.bool (closesF (T.drop i)))∧∃q,w'=w.drewN q:=by
 obtain⟨c0,c1,c2,f1,f2⟩:=h.cells;have hlt:=h.lt;obtain⟨ta,tc,rfl,ht1,ht2⟩:=h.shape;unfold closesF;rcases Nat.lt_or_ge i T.length with hi | hi
 ·have he:(T.drop i).isEmpty=false:=by
   rw [List.isEmpty_eq_false_iff];intro e;have:=congrArg List.length e;rw [List.length_drop,List.length_nil] at this;omega
  rw [he,Bool.false_or];cases h0:isOpF [41] (T.drop i) with
  | true=>
   have H0:=Hd (show ∀q,Calls Tryz.prog 93 #[.pointer (some ⟨ps,0,none⟩),.string ⟨#[41]⟩] (w.drewN q) (fun e w'=>e=.returned (.bool true)∧∃q',w'=w.drewN q') from qop_at h [41] true h0);rw [Bool.true_or,Bool.true_or];obtain⟨K,hK⟩:∃K,K=T.length:=⟨_,rfl⟩;rw [←hK] at c0 hi;have p1:¬(K:Int)≤(i:Int):=by omega
   have p2:(K≤i)=False:=eq_false (by omega);clear h h0 hK he;go_enter Tryz.func95,Tryz.ntmps95;go_wp2_with fail;go_quiet ((go_at_call 93;with_reducible exact H0.out _));go_wp2_with fail;go_ret;exact⟨rfl,_,rfl⟩
  | false=>
   cases h1:isOpF [59,59] (T.drop i) with
   | true=>
    have H0:=Hd (show ∀q,Calls Tryz.prog 93 #[.pointer (some ⟨ps,0,none⟩),.string ⟨#[41]⟩] (w.drewN q) (fun e w'=>e=.returned (.bool false)∧∃q',w'=w.drewN q') from qop_at h [41] false h0);have H1:=Hd (show ∀q,Calls Tryz.prog 93 #[.pointer (some ⟨ps,0,none⟩),.string ⟨#[59,59]⟩] (w.drewN q) (fun e w'=>e=.returned (.bool true)∧∃q',w'=w.drewN q') from qop_at h [59,59] true h1);rw [Bool.false_or,Bool.true_or]
    obtain⟨K,hK⟩:∃K,K=T.length:=⟨_,rfl⟩;rw [←hK] at c0 hi;have p1:¬(K:Int)≤(i:Int):=by omega
    have p2:(K≤i)=False:=eq_false (by omega);clear h h0 h1 hK he;go_enter Tryz.func95,Tryz.ntmps95;go_wp2_with fail;go_quiet ((go_at_call 93;first | with_reducible exact H0.out _ | with_reducible exact H1.out _));go_wp2_with fail;go_ret;exact⟨rfl,_,rfl⟩
   | false=>
    have H0:=Hd (show ∀q,Calls Tryz.prog 93 #[.pointer (some ⟨ps,0,none⟩),.string ⟨#[41]⟩] (w.drewN q) (fun e w'=>e=.returned (.bool false)∧∃q',w'=w.drewN q') from qop_at h [41] false h0);have H1:=Hd (show ∀q,Calls Tryz.prog 93 #[.pointer (some ⟨ps,0,none⟩),.string ⟨#[59,59]⟩] (w.drewN q) (fun e w'=>e=.returned (.bool false)∧∃q',w'=w.drewN q') from qop_at h [59,59] false h1);rw [Bool.false_or,Bool.false_or]
    obtain⟨s,hs⟩:∃s,plainT (atF (T.drop i))=s:=⟨_,rfl⟩;have HP:=Hd (qplain_at h s hs);rw [hs];obtain⟨K,hK⟩:∃K,K=T.length:=⟨_,rfl⟩;rw [←hK] at c0 hi;have p1:¬(K:Int)≤(i:Int):=by omega
    have p2:(K≤i)=False:=eq_false (by omega);clear h h0 h1 hK he hs;by_cases hm:s∈closerL
    ·rw [show closerL.contains s=true from List.contains_iff_mem.2 hm];simp only [closerL,List.mem_cons,List.not_mem_nil,or_false] at hm;rcases hm with rfl | rfl | rfl | rfl | rfl | rfl | rfl | rfl
     all_goals
      go_enter Tryz.func95,Tryz.ntmps95;go_wp2_with fail;go_quiet ((go_at_call 93;first | with_reducible exact H0.out _ | with_reducible exact H1.out _));go_wp2_with fail;refine (HP.out nq).mono ?_;rintro e w1 ⟨rfl,q,rfl⟩;go_wp2_with fail;go_ret;exact⟨rfl,q,rfl⟩
    ·rw [show closerL.contains s=false by rw [←Bool.not_eq_true,List.contains_iff_mem];exact hm];simp only [closerL,List.mem_cons,List.not_mem_nil,or_false,not_or] at hm;obtain⟨m0,m1,m2,m3,m4,m5,m6,m7⟩:=hm;have n0:(s==[116,104,101,110])=false:=ls_ne m0;have n1:(s==[101,108,105,102])=false:=ls_ne m1;have n2:(s==[101,108,115,101])=false:=ls_ne m2;have n3:(s==[102,105])=false:=ls_ne m3;have n4:(s==[100,111])=false:=ls_ne m4
     have n5:(s==[100,111,110,101])=false:=ls_ne m5;have n6:(s==[101,115,97,99])=false:=ls_ne m6;have n7:(s==[125])=false:=ls_ne m7;clear m0 m1 m2 m3 m4 m5 m6 m7;go_enter Tryz.func95,Tryz.ntmps95;go_wp2_with fail;go_quiet ((go_at_call 93;first | with_reducible exact H0.out _ | with_reducible exact H1.out _));go_wp2_with fail;refine (HP.out nq).mono ?_;rintro e w1 ⟨rfl,q,rfl⟩;go_wp2_with fail;go_ret
     exact⟨rfl,q,rfl⟩
 ·have he:(T.drop i).isEmpty=true:=by rw [List.drop_eq_nil_of_le hi];rfl
  rw [he,Bool.true_or,Bool.true_or,Bool.true_or];obtain⟨K,hK⟩:∃K,K=T.length:=⟨_,rfl⟩;rw [←hK] at c0 hi;have p1:(K:Int)≤(i:Int):=by omega
  clear h hK he;go_enter Tryz.func95,Tryz.ntmps95;go_wp2_with fail;go_quiet (fail);go_wp2_with fail;go_ret;exact⟨rfl,_,rfl⟩
theorem qwant_any (w:World) (Lo B ps n i x:Nat) (tv:Value) (T:List Tk) (s:List UInt8) (h:QS w Lo B ps tv n T i x) (hi:i+1≤T.length+1000) :
 Calls Tryz.prog 180 #[.pointer (some ⟨ps,0,none⟩),.string ⟨s.toArray⟩] w fun e w'=>e=.returned (.tuple #[])∧QS w' Lo B ps tv n T (i+1) (if x=0 then (if isWF s (T.drop i) then 0 else 2) else x)∧Keeps (fun b=>b=ps) w w':=by
 have hm:T.length≤20000:=h.sm.1;have hsum:IntKind.i64.wrap ((i:Int)+1)=(i:Int)+1:=IntWalk.i64_in _ (by omega);by_cases hx:x=0
 ·subst hx;rw [if_pos rfl];obtain⟨p,hp⟩:∃p,plainT (atF (T.drop i))=p:=⟨_,rfl⟩;have HP:=Hd (qplain_at h p hp 0);have hw:isWF s (T.drop i)=(p==s):=by unfold isWF;rw [hp]
  rw [hw];have HH:=Lib.hid h;obtain⟨d0,d1,d2,g1,g2⟩:=h.cells;have hltd:=h.lt;clear hp hw h;cases hb:(p==s) with
  | true=>
   rw [if_pos rfl];go_enter Tryz.func180,Tryz.ntmps180;go_wp2_with fail;refine HP.out.mono ?_;rintro e w1 ⟨rfl,q,rfl⟩;obtain⟨c0,c1,c2,f1,f2⟩:=(HH.out.drewN q).cells;have hlt:=(HH.out.drewN q).lt;go_wp2_with fail;go_end0;have h2:=(HH.out.drewN q).set1 (j:=i+1) hi;exact⟨rfl,by simpa using h2.1,by simpa using ((Keeps.refl (fun b=>b=ps) w).drewN q).trans h2.2 (fun _ _ h=>h)⟩
  | false=>
   rw [if_neg (by simp)];go_enter Tryz.func180,Tryz.ntmps180;go_wp2_with fail;refine HP.out.mono ?_;rintro e w1 ⟨rfl,q,rfl⟩;go_wp2_with fail;refine (qfail_any (w.drewN q) Lo B ps n i 0 2 tv T (HH.out.drewN q)).mono ?_;rintro e w2 ⟨rfl,h2,hk2⟩;rw [if_pos rfl] at h2;have H2:=Hd h2;have HK2:=Hd hk2;obtain⟨c0,c1,c2,f1,f2⟩:=h2.cells;have hlt:=h2.lt;clear h2 hk2;go_wp2_with fail;go_end0;have h3:=H2.out.set1 (j:=i+1) hi
   exact⟨rfl,by simpa using h3.1,by simpa using ((((Keeps.refl (fun b=>b=ps) w).drewN q).trans HK2.out (fun _ _ h=>h)).trans h3.2 (fun _ _ h=>h))⟩
 ·have t:((x:Int)==0)=false:=by rw [beq_eq_false_iff_ne];omega
  rw [if_neg hx];have HH:=Lib.hid h;obtain⟨c0,c1,c2,f1,f2⟩:=h.cells;have hlt:=h.lt;clear h hx;go_enter Tryz.func180,Tryz.ntmps180;go_wp2_with fail;go_end0;have h3:=HH.out.set1 (j:=i+1) hi;exact⟨rfl,by simpa using h3.1,by simpa using h3.2⟩
def QSPost (w:World) (res:Except Nat (List Dt)) (e:Ending) (w':World):Prop:=match res with
 | .ok ds=>∃(a:Option Addr) (m c:Nat),e=.returned (.tuple #[.slice a m c,.int .i64 0])∧Rd w' (fun b=>w.heap.size≤b) (.sl 8 ds) (.slice a m c)∧Keeps (fun _=>False) w w'
 | .error x=>e=.returned (.tuple #[.slice none 0 0,.int .i64 (x:Nat)])∧Keeps (fun _=>False) w w'
def QScrOK (K:Nat):Prop:=∀(w:World) (s:List UInt8) (deep:Nat),s.length≤140737488351232→deep+K=41→
 Calls Tryz.prog 20 #[.string ⟨s.toArray⟩,.int .i64 (deep:Nat)] w (QSPost w (scriptF (commandF K) s))
theorem qscr_ok {K:Nat} {s:Bs} {w w':World} {e:Ending} {u:Unit} (h:scrF (commandF K) s=.ok u) (hp:QSPost w (scriptF (commandF K) s) e w') :
 ∃(a:Option Addr) (m c:Nat),e=.returned (.tuple #[.slice a m c,.int .i64 0])∧Keeps (fun _=>False) w w':=by
 unfold scrF at h;cases hr:scriptF (commandF K) s with
 | ok ds=>
  rw [hr] at hp;obtain⟨a,m,c,he,_,hk⟩:=hp;exact⟨a,m,c,he,hk⟩
 | error x=>
  rw [hr] at hp h;cases x with
  | zero=>exact⟨none,0,0,hp.1,hp.2⟩
  | succ x=>cases h
theorem qscr_err {K:Nat} {s:Bs} {w w':World} {e:Ending} {y:Nat} (h:scrF (commandF K) s=.error y) (hp:QSPost w (scriptF (commandF K) s) e w') :
 e=.returned (.tuple #[.slice none 0 0,.int .i64 (y:Nat)])∧y≠0∧Keeps (fun _=>False) w w':=by
 unfold scrF at h;cases hr:scriptF (commandF K) s with
 | ok ds=>rw [hr] at h;cases h
 | error x=>
  rw [hr] at hp h;cases x with
  | zero=>cases h
  | succ x=>cases h;exact⟨hp.1,Nat.succ_ne_zero _,hp.2⟩
theorem qsubs_nil (scr:Bs→Except Nat Unit):subsF scr []=.ok ():=by simp [subsF]
theorem qsubs_cons (scr:Bs→Except Nat Unit) (p:Pt) (l:List Pt):subsF scr (p::l)=match (if p.kind==5 then scr p.text else .ok ()) with
 | .error e=>.error e
 | .ok _=>match subsF scr p.word with
  | .error e=>.error e
  | .ok _=>subsF scr l:=by
 cases p with
 | mk k t n o w q=>
  simp only [subsF,subsP,Pt.kind,Pt.text,Pt.word];by_cases h:(k==5)=true
  ·simp only [h,if_true];cases scr t<;>rfl
  ·simp only [h];rfl
theorem qsubs_bad (w:World) (Lo B ps n i x:Nat) (tv:Value) (T:List Tk) (a:Option Addr) (m c deep:Nat) (h:QS w Lo B ps tv n T i x) (hx:x≠0) :
 Calls Tryz.prog 201 #[.pointer (some ⟨ps,0,none⟩),.slice a m c,.int .i64 (deep:Nat)] w fun e w'=>e=.returned (.tuple #[])∧w'=w:=by
 obtain⟨c0,c1,c2,f1,f2⟩:=h.cells;have hlt:=h.lt;have t:((x:Int)==0)=false:=by rw [beq_eq_false_iff_ne];omega
 clear h hx;by_cases hm:0<m
 ·have p1:(0:Int)<(m:Int):=by omega
  go_enter Tryz.func201,Tryz.ntmps201;go_wp2_with fail;go_loopw [6] (fun k' wr=>k'=.int .i64 0∧wr=w) (fun _ _=>0)
  case atStart=>exact⟨rfl,rfl⟩
  case round=>
   obtain⟨rfl,rfl⟩:=hrel;go_wp2_with fail;go_end0;exact⟨rfl,rfl⟩
 ·obtain rfl:m=0:=by omega
  go_enter Tryz.func201,Tryz.ntmps201;go_wp2_with fail;go_loopw [6] (fun k' wr=>k'=.int .i64 0∧wr=w) (fun _ _=>0)
  case atStart=>exact⟨rfl,rfl⟩
  case round=>
   obtain⟨rfl,rfl⟩:=hrel;go_wp2_with fail;go_end0;exact⟨rfl,rfl⟩
theorem pts_blk {w:World} {D:Nat→Prop} {n:Nat} {l:List Pt} {g o k c i:Nat} (h:PtsAt w D n l (.slice (some ⟨g,o,none⟩) k c)) (hi:i<l.length):D g:=by
 cases n with
 | zero=>obtain⟨rfl,_⟩:=h;simp at hi
 | succ n=>
  obtain⟨a,c,e,_,_,H⟩:=h;obtain⟨b,off,wv,ea,hb,hd,_,_⟩:=H i hi;injection e with e1 e2 e3;have e4:=e1.trans ea;injection e4 with e4;injection e4 with e4 e5 e6;rw [e4];exact hd
def QSubs (w:World) (Lo B ps:Nat) (tv:Value) (n:Nat) (T:List Tk) (i:Nat) (res:Except Nat Unit) (e:Ending) (w':World):Prop:=
 ∃x,e=.returned (.tuple #[])∧QS w' Lo B ps tv n T i x∧(match res with | .ok _=>x=0 | .error y=>x=y∧y≠0)∧Keeps (fun b=>b=ps) w w'
theorem qsubs_deep (K deep:Nat) (hscr:QScrOK K) (hd:deep+1+K=41) (N:Nat):∀(n:Nat),n<N→∀(w:World) (Lo B ps:Nat) (tv:Value) (n':Nat) (T:List Tk) (i:Nat) (l:List Pt) (v:Value),QS w Lo B ps tv n' T i 0→PtsAt w (fun b=>Lo≤b∧b<B) n l v→Sm l→
 Calls Tryz.prog 201 #[.pointer (some ⟨ps,0,none⟩),v,.int .i64 (deep:Nat)] w (QSubs w Lo B ps tv n' T i (subsF (scrF (commandF K)) l)):=by
 have HD:=Hd hd;have hdw:IntKind.i64.wrap ((deep:Int)+1)=(deep:Int)+1:=IntWalk.i64_in _ (by omega);clear hd;induction N with
 | zero=>intro n hn;omega
 | succ N ih=>
  intro n hn w Lo B ps tv n' T i l v hq hp hsm;obtain⟨res,hres⟩:∃res,res=subsF (scrF (commandF K)) l:=⟨_,rfl⟩;rw [←hres];have hc6:=cells_part;obtain⟨va,vc,rfl,hv1,hv2⟩:=hp.shape;have hlen:=hsm.1;have HSM:=Hd hsm.2;have HQ:=Hd hq;have HP:=Hd hp;have HSCR:=Hd hscr;have HIH:=Hd ih;obtain⟨L,hL⟩:∃L,L=l.length:=⟨_,rfl⟩;have HL:=Hd hL;rw [←hL] at hlen hv1;rw [←hL];have HRES0:=Hd hres;have hps:=hq.ps;clear hq hp hscr hsm hL hres ih
  go_enter Tryz.func201,Tryz.ntmps201;go_wp2_with fail;go_loopw [6] (fun k' wr=>∃k x:Nat,k'=.int .i64 k∧k≤L∧Hid (QS wr Lo B ps tv n' T i x)∧Hid (Keeps (fun b=>b=ps) w wr)∧((x=0∧Hid (res=subsF (scrF (commandF K)) (l.drop k)))∨(x≠0∧Hid (res=.error x)))) (fun k' _=>L - (intOf k').toNat)
  case atStart=>exact⟨0,0,rfl,Nat.zero_le _,HQ,Hd (Keeps.refl _ _),.inl ⟨rfl,Hd HRES0.out⟩⟩
  case round=>
   obtain⟨k,x,rfl,hk,HS,HK,hor⟩:=hrel;obtain⟨c0,c1,c2,f1,f2⟩:=HS.out.cells;have hlt:=HS.out.lt;rcases hor with ⟨rfl,HT⟩ | ⟨hx,HT⟩
   ·by_cases hkl:k<L
    ·have hlt2:k<l.length:=by rw [←HL.out];exact hkl
     have hp:=HP.out.keep HK.out (fun b _ hb e=>by have:=hb.2;omega);rw [←HL.out] at hp;obtain⟨g,o,xa,xl,xc,rfl,⟨q0,q1,q2,q3,q4,q5⟩,hx,hn0,hg⟩:=hp.at (Keeps.refl _ _) hlt2;have hsx:=smL_mem HSM.out (List.getElem_mem hlt2);have hgB:g<B:=(pts_blk (D:=fun b=>Lo≤b∧b<B) hp hlt2).2;have hres:res=match (if l[k].kind==5 then scrF (commandF K) l[k].text else .ok ()) with
      | .error e=>.error e
      | .ok _=>match subsF (scrF (commandF K)) l[k].word with
       | .error e=>.error e
       | .ok _=>subsF (scrF (commandF K)) (l.drop (k+1)):=by
      rw [HT.out,List.drop_eq_getElem_cons hlt2,qsubs_cons]
     obtain⟨z,hze⟩:∃z,z=l[k]:=⟨_,rfl⟩;rw [←hze] at q0 q1 q2 q3 q5 hx hsx hres;unfold strV at q1 q2 q3;have p1:(k:Int)<(L:Int):=by omega
     have HRES:=Hd hres;have HX:=Hd hx;have HSX:=Hd hsx;have HN:=Hd (show n - 1<N by omega);clear hres hx hsx hze hp hlt2 HT;by_cases k5:z.kind=5
     ·have t0:((z.kind:Int)==5)=true:=by rw [beq_iff_eq];omega
      have hres:=HRES.out;rw [k5,if_pos (by rfl)] at hres;clear k5;cases hsc:scrF (commandF K) z.text with
      | error y=>
       rw [hsc] at hres;have HRX:=Hd hres;have HSC:=Hd hsc;clear hres hsc HRES;go_wp2_with fail;refine (HSCR.out wr z.text (deep+1) (by have:=HSX.out.1;omega) (by have:=HD.out;omega)).mono ?_;intro e w3 hp;obtain⟨rfl,hy,hk3⟩:=qscr_err HSC.out hp;have t1:((y:Int) != 0)=true:=by rw [bne_iff_ne];omega
       have HS3:=Hd (HS.out.keep0 hk3);have HK3:=Hd hk3;have HY:=Hd hy;clear hp hk3 hy;go_wp2_with fail;refine (qfail_any w3 Lo B ps n' i 0 y tv T HS3.out).mono ?_;rintro e w4 ⟨rfl,h4,hk4⟩;rw [if_pos rfl] at h4;have HS4:=Hd h4;have HK4:=Hd ((HK3.out.mono (T:=fun b=>b=ps) (fun _ _ h=>h.elim)).trans hk4 (fun _ _ h=>h));have b4:=(World.cell?_of_block (a:=⟨g,o+k*6+4,none⟩) (HK4.out.block g hg (fun e=>by omega))).trans q4
       have HK6:=Hd (HK.out.trans HK4.out (fun _ _ h=>h));clear h4 hk4;go_wp2_with fail;refine (qsubs_bad w4 Lo B ps n' i y tv T xa xl xc deep HS4.out HY.out).mono ?_;rintro e w5 ⟨rfl,rfl⟩;go_wp2_with fail;go_roundw
       case rel=>exact⟨k+1,y,by go_num,by omega,HS4,HK6,.inr ⟨HY.out,HRX⟩⟩
       case measure=>simp [intOf];omega
      | ok u=>
       rw [hsc] at hres;replace HRES:=Hd hres;have HSC:=Hd hsc;clear hres hsc;go_wp2_with fail;refine (HSCR.out wr z.text (deep+1) (by have:=HSX.out.1;omega) (by have:=HD.out;omega)).mono ?_;intro e w3 hp;obtain⟨sa,sm,sc,rfl,hk3⟩:=qscr_ok HSC.out hp;have HS3:=Hd (HS.out.keep0 hk3);have HK3:=Hd (HK.out.trans hk3 (fun _ _ h=>h.elim));have b4:=(World.cell?_of_block (a:=⟨g,o+k*6+4,none⟩) (hk3.block g hg (fun h=>h))).trans q4
       have hg3:g<w3.heap.size:=Nat.lt_of_lt_of_le hg hk3.size;have HX3:=Hd (HX.out.keep hk3 (fun _ _ _ h=>h));clear hp hk3;go_wp2_with fail;refine (HIH.out (n - 1) HN.out w3 Lo B ps tv n' T i z.word (.slice xa xl xc) HS3.out HX3.out HSX.out.2).mono ?_;intro e w5 hp5;obtain⟨x2,rfl,h5,hm5,hk5⟩:=hp5;have HS5:=Hd h5;have HK5:=Hd (HK3.out.trans hk5 (fun _ _ h=>h));cases hr2:subsF (scrF (commandF K)) z.word with
       | error y=>
        rw [hr2] at hm5;obtain⟨rfl,hy⟩:=hm5;have HRX:=Hd (show res=.error x2 by rw [HRES.out,hr2]);clear h5 hk5 hr2;go_wp2_with fail;go_roundw
        case rel=>exact⟨k+1,x2,by go_num,by omega,HS5,HK5,.inr ⟨hy,HRX⟩⟩
        case measure=>simp [intOf];omega
       | ok u2=>
        rw [hr2] at hm5;obtain rfl:=hm5;have HRX:=Hd (show res=subsF (scrF (commandF K)) (l.drop (k+1)) by rw [HRES.out,hr2]);clear h5 hk5 hr2;go_wp2_with fail;go_roundw
        case rel=>exact⟨k+1,0,by go_num,by omega,HS5,HK5,.inl ⟨rfl,HRX⟩⟩
        case measure=>simp [intOf];omega
     ·have t0:((z.kind:Int)==5)=false:=by rw [beq_eq_false_iff_ne];omega
      have hres:=HRES.out;rw [if_neg (by simpa using k5)] at hres;replace HRES:=Hd hres;clear hres k5;go_wp2_with fail;refine (HIH.out (n - 1) HN.out wr Lo B ps tv n' T i z.word (.slice xa xl xc) HS.out HX.out HSX.out.2).mono ?_;intro e w5 hp5;obtain⟨x2,rfl,h5,hm5,hk5⟩:=hp5;have HS5:=Hd h5;have HK5:=Hd (HK.out.trans hk5 (fun _ _ h=>h));cases hr2:subsF (scrF (commandF K)) z.word with
      | error y=>
       rw [hr2] at hm5;obtain⟨rfl,hy⟩:=hm5;have HRX:=Hd (show res=.error x2 by rw [HRES.out,hr2]);clear h5 hk5 hr2;go_wp2_with fail;go_roundw
       case rel=>exact⟨k+1,x2,by go_num,by omega,HS5,HK5,.inr ⟨hy,HRX⟩⟩
       case measure=>simp [intOf];omega
      | ok u2=>
       rw [hr2] at hm5;obtain rfl:=hm5;have HRX:=Hd (show res=subsF (scrF (commandF K)) (l.drop (k+1)) by rw [HRES.out,hr2]);clear h5 hk5 hr2;go_wp2_with fail;go_roundw
       case rel=>exact⟨k+1,0,by go_num,by omega,HS5,HK5,.inl ⟨rfl,HRX⟩⟩
       case measure=>simp [intOf];omega
    ·have p1:¬(k:Int)<(L:Int):=by omega
     have hr:res=.ok ():=by
      rw [HT.out,List.drop_eq_nil_of_le (by have:=HL.out;omega),qsubs_nil]
     have HR:=Hd hr;clear hr;go_wp2_with fail;go_end0;rw [HR.out];exact⟨0,rfl,HS.out,rfl,HK.out⟩
   ·have t0:((x:Int)==0)=false:=by rw [beq_eq_false_iff_ne];omega
    have HXN:=Hd hx;clear hx;by_cases hkl:k<L
    ·have p1:(k:Int)<(L:Int):=by omega
     go_wp2_with fail;go_end0;rw [HT.out];exact⟨x,rfl,HS.out,⟨rfl,HXN.out⟩,HK.out⟩
    ·have p1:¬(k:Int)<(L:Int):=by omega
     go_wp2_with fail;go_end0;rw [HT.out];exact⟨x,rfl,HS.out,⟨rfl,HXN.out⟩,HK.out⟩
theorem qword_at {w:World} {Lo B ps n i x:Nat} {tv:Value} {T:List Tk} (h:QS w Lo B ps tv n T i x) (b:Bool) (hb:((atF (T.drop i)).kind==1)=b) (q:Nat) :
 Calls Tryz.prog 143 #[.pointer (some ⟨ps,0,none⟩)] (w.drewN q) fun e w'=>e=.returned (.bool b)∧∃q',w'=w.drewN q':=by
 subst hb;exact (qword_any (w.drewN q) Lo B ps n i x tv T (h.drewN q)).mono fun e w' ⟨h1,q',h2⟩=>⟨h1,q+q',by rw [h2,World.drewN_drewN]⟩
def hasW (ts:List Tk):Bool:=(atF ts).kind==1 && !(atF ts).word.isEmpty
theorem qtake_none (w:World) (Lo B ps n i x deep:Nat) (tv:Value) (T:List Tk) (h:QS w Lo B ps tv n T i x) (hw:hasW (T.drop i)=false) :
 Calls Tryz.prog 185 #[.pointer (some ⟨ps,0,none⟩),.int .i64 (deep:Nat)] w fun e w'=>e=.returned (.slice none 0 0)∧QS w' Lo B ps tv n T i (if x=0 then 2 else x)∧Keeps (fun b=>b=ps) w w':=by
 have hc3:=cells_token;obtain⟨c0,c1,c2,f1,f2⟩:=h.cells;have hlt:=h.lt;have HH:=Lib.hid h;obtain⟨y,hy⟩:∃y,y=(if x=0 then 2 else x):=⟨_,rfl⟩;rw [←hy];have HY:=Hd hy;clear hy;cases hk:((atF (T.drop i)).kind==1) with
 | false=>
  have HW:=Hd (qword_at h false hk);clear h hw hk;go_enter Tryz.func185,Tryz.ntmps185;go_wp2_with fail;go_quiet ((go_at_call 143;exact HW.out _));go_wp2_with fail;refine (qfail_any _ Lo B ps n i x 2 tv T (HH.out.drewN _)).mono ?_;rintro e w2 ⟨rfl,h2,hk2⟩;rw [←HY.out] at h2;have H2:=Hd h2;have HK2:=Hd (((Keeps.refl (fun b=>b=ps) w).drewN _).trans hk2 (fun _ _ h=>h));clear h2 hk2;go_wp2_with fail;go_ret
  exact⟨rfl,H2.out,HK2.out⟩
 | true=>
  have hi:i<T.length:=by
   rcases Nat.lt_or_ge i T.length with hi | hi
   ·exact hi
   ·rw [atF_end hi] at hk;cases hk
  have HW:=Hd (qword_at h true hk);obtain⟨ta,tc,rfl,ht1,ht2⟩:=h.shape;obtain⟨g,o,xa,xl,xc,rfl,⟨q0,q1,q2⟩,hx,hg⟩:=h.toks.at (Keeps.refl _ _) hi;unfold hasW at hw;rw [hk,Bool.true_and] at hw;rw [atF_in hi] at hw;obtain⟨ya,yc,hye,hy1,hy2⟩:=hx.shape;injection hye with e1 e2 e3;subst e1 e2 e3;have hl:(T[i].word).length=0:=by
   rw [Bool.not_eq_false',List.isEmpty_iff] at hw;rw [hw];rfl
  rw [hl] at q2;obtain⟨K,hK⟩:∃K,K=T.length:=⟨_,rfl⟩;rw [←hK] at c0 hi;have p1:(i:Int)<(K:Int):=by omega
  clear h hw hk hx q0 q1 hK hl hy1 hy2 ht1 ht2;go_enter Tryz.func185,Tryz.ntmps185;go_wp2_with fail;go_quiet ((go_at_call 143;exact HW.out _));go_wp2_with fail;refine (qfail_any _ Lo B ps n i x 2 _ T (HH.out.drewN _)).mono ?_;rintro e w2 ⟨rfl,h2,hk2⟩;rw [←HY.out] at h2;have H2:=Hd h2;have HK2:=Hd (((Keeps.refl (fun b=>b=ps) w).drewN _).trans hk2 (fun _ _ h=>h));clear h2 hk2;go_wp2_with fail;go_ret
  exact⟨rfl,H2.out,HK2.out⟩
def QTook (w:World) (Lo B ps:Nat) (tv:Value) (n:Nat) (T:List Tk) (i:Nat) (wd:List Pt) (x:Nat) (e:Ending) (w':World):Prop:=
 ∃a c,e=.returned (.slice a wd.length c)∧PtsAt w' (fun b=>Lo≤b∧b<B) n wd (.slice a wd.length c)∧QS w' Lo B ps tv n T (i+1) x∧Keeps (fun b=>b=ps) w w'
theorem qtake_some (w:World) (Lo B ps n i x deep:Nat) (tv:Value) (T:List Tk) (h:QS w Lo B ps tv n T i x) (hw:hasW (T.drop i)=true) (Q:Nat→Prop)
 (hsub:∀(w2:World) (v:Value),QS w2 Lo B ps tv n T i x→PtsAt w2 (fun b=>Lo≤b∧b<B) n (atF (T.drop i)).word v→Calls Tryz.prog 201 #[.pointer (some ⟨ps,0,none⟩),v,.int .i64 (deep:Nat)] w2 fun e w'=>∃y,e=.returned (.tuple #[])∧QS w' Lo B ps tv n T i y∧Q y∧Keeps (fun b=>b=ps) w2 w') :
 Calls Tryz.prog 185 #[.pointer (some ⟨ps,0,none⟩),.int .i64 (deep:Nat)] w fun e w'=>i<T.length∧∃y,Q y∧QTook w Lo B ps tv n T i (atF (T.drop i)).word y e w':=by
 have hc3:=cells_token;obtain⟨c0,c1,c2,f1,f2⟩:=h.cells;have hlt:=h.lt;have HH:=Lib.hid h;unfold hasW at hw;rw [Bool.and_eq_true] at hw;obtain⟨hk,hne⟩:=hw;have hi:i<T.length:=by
  rcases Nat.lt_or_ge i T.length with hi | hi
  ·exact hi
  ·rw [atF_end hi] at hk;cases hk
 have HW:=Hd (qword_at h true hk);have HSUB:=Hd hsub;have hps:=h.ps;obtain⟨ta,tc,rfl,ht1,ht2⟩:=h.shape;obtain⟨g,o,xa,xl,xc,rfl,⟨q0,q1,q2⟩,hx,hg⟩:=h.toks.at (Keeps.refl _ _) hi;obtain⟨ya,yc,hye,hy1,hy2⟩:=hx.shape;injection hye with e1 e2 e3;subst e1 e2 e3;have hmT:T.length≤20000:=h.sm.1;have HI:=Hd hi;have hat:=atF_in hi;rw [hat] at hne;rw [hat];rw [hat] at HSUB;have hl0:(T[i].word).length≠0:=fun e=>by
  rw [Bool.not_eq_true',List.isEmpty_eq_false_iff] at hne;exact hne (List.eq_nil_of_length_eq_zero e)
 generalize T[i].word=wd at *;obtain⟨wl,hwl⟩:∃wl,wl=wd.length:=⟨_,rfl⟩;rw [←hwl] at q2 hl0;have t0:((wl:Int)==0)=false:=by rw [beq_eq_false_iff_ne];omega
 have HX:=Hd hx;have HWL:=Hd hwl;have HXD:=Hd (show ∀q,PtsAt (w.drewN q) (fun b=>Lo≤b∧b<B) n wd (.slice xa wl xc) from fun q=>by
  rw [hwl];exact hx.keep (S:=fun _=>False) ((Keeps.refl _ w).drewN q) (fun _ _ _ h=>h))
 obtain⟨K,hK⟩:∃K,K=T.length:=⟨_,rfl⟩;rw [←hK] at c0;have p1:(i:Int)<(K:Int):=by omega
 have hsum:IntKind.i64.wrap ((i:Int)+1)=(i:Int)+1:=IntWalk.i64_in _ (by omega);clear h hk hne hx q0 q1 hK hl0 hy1 hy2 ht1 ht2 hat hwl hsub hi;go_enter Tryz.func185,Tryz.ntmps185;go_wp2_with fail;go_quiet ((go_at_call 143;exact HW.out _));go_wp2_with fail;go_quiet (fail);go_wp2_with fail;refine (HSUB.out _ (.slice xa wl xc) (HH.out.drewN _) (HXD.out _)).mono ?_;rintro e w2 ⟨y,rfl,h2,hq,hk2⟩;obtain⟨d0,d1,d2,g1,g2⟩:=h2.cells
 have hltd:=h2.lt;have H2:=Hd h2;have HQ:=Hd hq;have HK2:=Hd (((Keeps.refl (fun b=>b=ps) w).drewN _).trans hk2 (fun _ _ h=>h));clear h2 hq hk2;go_wp2_with fail;go_ret;have h3:=H2.out.set1 (j:=i+1) (by have:=HI.out;omega);have hk3:=HK2.out.trans h3.2 (fun _ _ h=>h);exact⟨HI.out,y,HQ.out,xa,xc,by rw [←HWL.out];rfl,by simpa using HX.out.keep hk3 (fun b _ hb e=>by have:=hb.2;omega),by simpa using h3.1,by simpa using hk3⟩
end Go.Proofs.YtiihpbccabeoeaaGreatDoor
