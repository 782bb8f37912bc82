/- The walk: a part. -/
import Derived.Test.YtiihpbccabeoeaaGreatDoorWPkE
namespace Go.Proofs.YtiihpbccabeoeaaGreatDoor
open Go.RowKit
set_option linter.unusedVariables false
set_option maxRecDepth 100000
set_option maxHeartbeats 16000000
theorem Gm:(aZ 61 || bD 61)=false:=by decide
theorem Hc:∀a b:List UInt8,bH (a++61::b)=bH a
 | [],b=>by
  show (if (aZ 61 || bD 61)=true then bH b+1 else 0)=0;rw [Gm,if_neg (by simp)]
 | c::a,b=>by
  show (if (aZ c || bD c)=true then bH (a++61::b)+1 else 0)=if (aZ c || bD c)=true then bH a+1 else 0;rw [Hc a b]
theorem P2:∀a b:List UInt8,a≠[]→dK (a++61::b)=dK a
 | [],b,h=>absurd rfl h
 | c::a,b,h=>by
  show (if aZ c=true then bH (a++61::b)+1 else 0)=if aZ c=true then bH a+1 else 0;rw [Hc a b]
theorem pF:∀{s nm rest:List UInt8},j8 s=some (nm,rest)→s=nm++61::rest
 | [],nm,rest,h=>by cases h
 | c::t,nm,rest,h=>by
  unfold j8 at h;split at h
  ·next hc=>
   cases h;rw [beq_iff_eq] at hc;rw [hc];rfl
  ·cases ht:j8 t with
   | none=>rw [ht] at h;cases h
   | some p=>
    obtain⟨a,b⟩:=p;rw [ht] at h;cases h;rw [pF ht];rfl
theorem Bw:∀{s:List UInt8},s[bH s]? = some 61→j8 s=some (s.take (bH s),s.drop (bH s+1))
 | [],h=>by simp at h
 | c::t,h=>by
  unfold bH at h ⊢;by_cases hc:(aZ c || bD c)=true
  ·rw [if_pos hc] at h ⊢;rw [List.getElem?_cons_succ] at h;have hne:(c==61)=false:=by
    rw [beq_eq_false_iff_ne];intro e;rw [e,Gm] at hc;cases hc
   unfold j8;rw [hne,if_neg (by simp),Bw h];rfl
  ·rw [if_neg hc] at h ⊢;have e:c=61:=by simpa using h
   subst e;rfl
theorem Nu:∀{s:List UInt8},0<dK s→s[dK s]? = some 61→j8 s=some (s.take (dK s),s.drop (dK s+1))
 | [],h0,h=>by cases h0
 | c::t,h0,h=>by
  by_cases hc:aZ c=true
  ·have e:dK (c::t)=bH t+1:=if_pos hc;rw [e] at h ⊢;rw [List.getElem?_cons_succ] at h;have hne:(c==61)=false:=by
    rw [beq_eq_false_iff_ne];intro e;rw [e] at hc;exact absurd hc (by decide)
   unfold j8;rw [hne,if_neg (by simp),Bw h];rfl
  ·have e:dK (c::t)=0:=if_neg hc;rw [e] at h0;cases h0
theorem x8:∀s:List UInt8,bH (s.take (bH s))=bH s
 | []=>rfl
 | c::t=>by
  by_cases hc:(aZ c || bD c)=true
  ·have e:bH (c::t)=bH t+1:=if_pos hc;rw [e,List.take_succ_cons];show (if (aZ c || bD c)=true then bH (t.take (bH t))+1 else 0)=_;rw [if_pos hc,x8 t]
  ·have e:bH (c::t)=0:=if_neg hc;rw [e];rfl
theorem Mj:∀s:List UInt8,dK (s.take (dK s))=dK s
 | []=>rfl
 | c::t=>by
  by_cases hc:aZ c=true
  ·have e:dK (c::t)=bH t+1:=if_pos hc;rw [e,List.take_succ_cons];show (if aZ c=true then bH (t.take (bH t))+1 else 0)=_;rw [if_pos hc,x8 t]
  ·have e:dK (c::t)=0:=if_neg hc;rw [e];rfl
theorem Ch:∀s:List UInt8,bH s≤s.length
 | []=>Nat.le_refl _
 | c::t=>by
  unfold bH;split
  ·have:=Ch t;rw [lC];omega
  ·exact Nat.zero_le _
theorem Gr:∀s:List UInt8,dK s≤s.length
 | []=>Nat.le_refl _
 | c::t=>by
  by_cases hc:aZ c=true
  ·have e:dK (c::t)=bH t+1:=if_pos hc;have:=Ch t;rw [e,lC];omega
  ·have e:dK (c::t)=0:=if_neg hc;rw [e];exact Nat.zero_le _
def uA:List Pt→Option (Bs×List Pt)
 | []=>none
 | p::t=>if p.kind==1 then (if 0<dK p.text∧dK p.text≤60∧p.text[dK p.text]? = some 61 then some (p.text.take (dK p.text),if (p.text.drop (dK p.text+1)).isEmpty then t else eG (p.text.drop (dK p.text+1))::t) else none) else none
theorem vL (w:List Pt):uA w=c8 w:=by
 cases w with
 | nil=>rfl
 | cons p t=>
  unfold uA c8;dsimp only;by_cases hk:(p.kind==1)=true
  ·rw [if_pos hk,if_pos hk];generalize p.text=s;by_cases hq:0<dK s∧dK s≤60∧s[dK s]? = some 61
   ·obtain⟨h1,h2,h3⟩:=hq;rw [if_pos ⟨h1,h2,h3⟩,Nu h1 h3];dsimp only;have hl:(s.take (dK s)).length=dK s:=by rw [List.length_take];have:=Gr s;omega
    have hn:bO (s.take (dK s))=true:=by
     unfold bO;rw [Mj,hl];simp only [Bool.and_eq_true,Bool.not_eq_true',decide_eq_true_eq,beq_self_eq_true,and_true];refine⟨?_,h2⟩;rw [List.isEmpty_eq_false_iff];intro e;rw [e] at hl;simp at hl;omega
    rw [hn,if_pos rfl]
   ·rw [if_neg hq];cases hc:j8 s with
    | none=>rfl
    | some x=>
     obtain⟨nm,rest⟩:=x;dsimp only;rw [if_neg];intro hn;unfold bO at hn;simp only [Bool.and_eq_true,Bool.not_eq_true',decide_eq_true_eq,beq_iff_eq] at hn;obtain⟨⟨h1,h2⟩,h3⟩:=hn;have hne:nm≠[]:=by rw [List.isEmpty_eq_false_iff] at h1;exact h1
     have hs:=pF hc;have hr:dK s=nm.length:=by rw [hs,P2 nm rest hne,h3]
     refine hq ⟨?_,by omega,?_⟩
     ·have:0<nm.length:=List.length_pos_iff.2 hne;omega
     ·rw [hr,hs];simp
  ·rw [if_neg hk,if_neg hk]
def kA:List Bs:=[[116,104,101,110],[101,108,105,102],[101,108,115,101],[102,105],[100,111],[100,111,110,101],[101,115,97,99],[125]]
def cZ (ts:List Tk):Bool:=ts.isEmpty || aG [41] ts || aG [59,59] ts || kA.contains (aR (atF ts))
def dA (ts:List Tk):Bool:=dS.contains (aR (atF ts)) || aG [40] ts
theorem fZ {t:Tk} (h:(t.kind==1)=false):aR t=[]:=by unfold aR;rw [h];rfl
theorem mT (ts:List Tk):bA ts=(((atF ts).kind==1) && !cC.contains (aR (atF ts)) || dA ts || bX ts):=by
 unfold bA dA aG bX;generalize atF ts=t;cases hk:(t.kind==1) with
 | true=>
  have h2:(t.kind==2)=false:=by rw [beq_iff_eq] at hk;rw [hk];rfl
  rw [h2,if_pos rfl];cases hr:cC.contains (aR t) with
  | true=>simp
  | false=>
   have hs:dS.contains (aR t)=false:=by
    rw [←Bool.not_eq_true];intro hh;have:cC.contains (aR t)=true:=by
     rw [List.contains_iff_mem] at hh ⊢;simp only [dS,List.mem_cons,List.not_mem_nil,or_false] at hh;rcases hh with h | h | h | h | h | h<;>rw [h]<;>decide
    rw [this] at hr;cases hr
   simp
 | false=>
  rw [if_neg (by simp),fZ hk];rw [show dS.contains ([]:Bs)=false from by decide];simp
theorem B3 (ts:List Tk):bX ts=(aG [60] ts || aG [62] ts || aG [62,62] ts || aG [50,62] ts || aG [50,62,62] ts):=by
 unfold bX aG;generalize atF ts=t;cases hk:(t.kind==2) with
 | false=>simp
 | true=>
  simp only [Bool.true_and];rw [Bool.eq_iff_iff,List.contains_iff_mem];simp only [jH,List.mem_cons,List.not_mem_nil,or_false,Bool.or_eq_true,beq_iff_eq,or_assoc]
structure QS (w:World) (Lo B ps:Nat) (tv:Value) (n:Nat) (T:List Tk) (i x:Nat):Prop where
 rd:aH w ps [tv,.int .i64 (i:Nat),.int .i64 (x:Nat)]
 toks:g6 w (fun b=>Lo≤b∧b<B) n T tv
 ps:B≤ps
 i:i≤T.length+1000
 sm:SmT T
theorem QS.lt {w:World} {Lo B ps:Nat} {tv:Value} {n:Nat} {T:List Tk} {i x:Nat} (h:QS w Lo B ps tv n T i x):ps<w.heap.size:=h.rd.lt
theorem QS.keep {w w':World} {Lo B ps:Nat} {tv:Value} {n:Nat} {T:List Tk} {i x:Nat} {S:Nat→Prop} (h:QS w Lo B ps tv n T i x) (hk:aB S w w') (hS:∀b,b<B→¬S b) (hc:¬S ps):QS w' Lo B ps tv n T i x:=
 ⟨h.rd.keep hk hc,h.toks.keep hk (fun b _ hb=>hS b hb.2),h.ps,h.i,h.sm⟩
theorem QS.keep0 {w w':World} {Lo B ps:Nat} {tv:Value} {n:Nat} {T:List Tk} {i x:Nat} (h:QS w Lo B ps tv n T i x) (hk:K0 w w'):QS w' Lo B ps tv n T i x:=h.keep hk (fun _ _ x=>x) (fun x=>x)
theorem QS.shape {w:World} {Lo B ps:Nat} {tv:Value} {n:Nat} {T:List Tk} {i x:Nat} (h:QS w Lo B ps tv n T i x):∃a c,tv=.slice a T.length c∧T.length≤c∧c≤maxLen:=h.toks.shape
theorem QS.cells {w:World} {Lo B ps:Nat} {tv:Value} {n:Nat} {T:List Tk} {i x:Nat} (h:QS w Lo B ps tv n T i x) :
 w.cell? ⟨ps,0,none⟩=some tv∧w.cell? ⟨ps,1,none⟩=some (.int .i64 (i:Nat))∧w.cell? ⟨ps,2,none⟩=some (.int .i64 (x:Nat))∧
 w.frozen? ⟨ps,1,none⟩=false∧w.frozen? ⟨ps,2,none⟩=false:=by
 obtain⟨⟨c0,c1,c2⟩,f0,f1,f2⟩:=h.rd.three;exact⟨c0,c1,c2,f1,f2⟩
theorem QS.set1 {w:World} {Lo B ps:Nat} {tv:Value} {n:Nat} {T:List Tk} {i x:Nat} (h:QS w Lo B ps tv n T i x) {j:Nat} (hj:j≤T.length+1000):QS (w.setCell ⟨ps,1,none⟩ (.int .i64 (j:Nat))) Lo B ps tv n T j x∧aB (fun b=>b=ps) w (w.setCell ⟨ps,1,none⟩ (.int .i64 (j:Nat))):=by
 have hk:aB (fun b=>b=ps) w (w.setCell ⟨ps,1,none⟩ (.int .i64 (j:Nat))):=(aB.refl _ _).setCell _ _ fun _=>rfl;have hB:=h.ps;exact⟨⟨h.rd.set 1 _,h.toks.keep hk (fun b _ hb e=>by have:=hb.2;omega),h.ps,hj,h.sm⟩,hk⟩
theorem QS.set2 {w:World} {Lo B ps:Nat} {tv:Value} {n:Nat} {T:List Tk} {i x:Nat} (h:QS w Lo B ps tv n T i x) (y:Nat):QS (w.setCell ⟨ps,2,none⟩ (.int .i64 (y:Nat))) Lo B ps tv n T i y∧aB (fun b=>b=ps) w (w.setCell ⟨ps,2,none⟩ (.int .i64 (y:Nat))):=by
 have hk:aB (fun b=>b=ps) w (w.setCell ⟨ps,2,none⟩ (.int .i64 (y:Nat))):=(aB.refl _ _).setCell _ _ fun _=>rfl;have hB:=h.ps;exact⟨⟨h.rd.set 2 _,h.toks.keep hk (fun b _ hb e=>by have:=hb.2;omega),h.ps,h.i,h.sm⟩,hk⟩
theorem eD (w:World) (Lo B ps n i x y:Nat) (tv:Value) (T:List Tk) (h:QS w Lo B ps tv n T i x) :
 Calls Tryz.prog 162 #[.pointer (some ⟨ps,0,none⟩),.int .i64 (y:Nat)] w fun e w'=>e=.returned (.tuple #[])∧QS w' Lo B ps tv n T i (if x=0 then y else x)∧aB (fun b=>b=ps) w w':=by
 obtain⟨c0,c1,c2,f1,f2⟩:=h.cells;by_cases hx:x=0
 ·subst hx;rw [if_pos rfl];go_enter Tryz.func162,Tryz.ntmps162;go_wp2_with fail;go_end0;exact⟨rfl,(h.set2 y).1,(h.set2 y).2⟩
 ·rw [if_neg hx];have t:((x:Int)==0)=false:=by rw [beq_eq_false_iff_ne];omega
  clear hx;go_enter Tryz.func162,Tryz.ntmps162;go_wp2_with fail;go_end0;exact⟨rfl,h,aB.refl _ _⟩
theorem F0 (w:World) (Lo B ps n i x:Nat) (tv:Value) (T:List Tk) (s:List UInt8) (h:QS w Lo B ps tv n T i x) :
 Calls Tryz.prog 93 #[.pointer (some ⟨ps,0,none⟩),.string ⟨s.toArray⟩] w fun e w'=>e=.returned (.bool (aG s (T.drop i)))∧∃q,w'=w.drewN q:=by
 obtain⟨c0,c1,c2,f1,f2⟩:=h.cells;have hlt:=h.lt;have hc3:=fW;obtain⟨ta,tc,rfl,ht1,ht2⟩:=h.shape;obtain⟨r,hr⟩:∃r,r=aG s (T.drop i):=⟨_,rfl⟩;rw [←hr];rcases Nat.lt_or_ge i T.length with hi | hi
 ·obtain⟨g,o,xa,xl,xc,rfl,⟨q0,q1,q2⟩,hx,hg⟩:=h.toks.at (aB.refl _ _) hi;unfold aG at hr;rw [iH hi] at hr;generalize T[i]=t at *;have p1:(i:Int)<(T.length:Int):=by omega
  unfold e8 at q1;obtain⟨L,hL⟩:∃L,L=T.length:=⟨_,rfl⟩;obtain⟨kd,hkd⟩:∃kd,kd=t.kind:=⟨_,rfl⟩;obtain⟨tx,htx⟩:∃tx,tx=t.text:=⟨_,rfl⟩;rw [←htx] at q1 hr;rw [←hkd] at q0 hr;rw [←hL] at c0 p1;have HR:=Hd hr;clear h hi hx hL hkd htx hr;by_cases hk:kd=2
  ·subst hk;cases hs:(tx==s) with
   | true=>
    have HR2:=Hd (show r=true by rw [HR.o,hs];rfl);clear HR;go_enter Tryz.func93,Tryz.ntmps93;go_wp2_with fail;go_quiet (fail);go_wp2_with fail;go_ret;rw [HR2.o];exact⟨rfl,_,rfl⟩
   | false=>
    have HR2:=Hd (show r=false by rw [HR.o,hs];rfl);clear HR;go_enter Tryz.func93,Tryz.ntmps93;go_wp2_with fail;go_quiet (fail);go_wp2_with fail;go_ret;rw [HR2.o];exact⟨rfl,_,rfl⟩
  ·have t0:((kd:Int)==2)=false:=by rw [beq_eq_false_iff_ne];omega
   have HR2:=Hd (show r=false by
    rw [HR.o,show (kd==2)=false from by rw [beq_eq_false_iff_ne];exact hk];rfl)
   clear HR hk;go_enter Tryz.func93,Tryz.ntmps93;go_wp2_with fail;go_quiet (fail);go_wp2_with fail;go_ret;rw [HR2.o];exact⟨rfl,_,rfl⟩
 ·have HR2:=Hd (show r=false by rw [hr];unfold aG;rw [jK hi];rfl);obtain⟨L,hL⟩:∃L,L=T.length:=⟨_,rfl⟩;rw [←hL] at c0 hi;have p1:¬(i:Int)<(L:Int):=by omega
  have p2:(i<L)=False:=eq_false (by omega);clear h hr hL;go_enter Tryz.func93,Tryz.ntmps93;go_wp2_with fail;go_quiet (fail);go_wp2_with fail;go_ret;rw [HR2.o];exact⟨rfl,_,rfl⟩
theorem l7 (w:World) (Lo B ps n i x:Nat) (tv:Value) (T:List Tk) (h:QS w Lo B ps tv n T i x) :
 Calls Tryz.prog 143 #[.pointer (some ⟨ps,0,none⟩)] w fun e w'=>e=.returned (.bool ((atF (T.drop i)).kind==1))∧∃q,w'=w.drewN q:=by
 obtain⟨c0,c1,c2,f1,f2⟩:=h.cells;have hlt:=h.lt;have hc3:=fW;obtain⟨ta,tc,rfl,ht1,ht2⟩:=h.shape;obtain⟨r,hr⟩:∃r,r=((atF (T.drop i)).kind==1):=⟨_,rfl⟩;rw [←hr];rcases Nat.lt_or_ge i T.length with hi | hi
 ·obtain⟨g,o,xa,xl,xc,rfl,⟨q0,q1,q2⟩,hx,hg⟩:=h.toks.at (aB.refl _ _) hi;rw [iH hi] at hr;generalize T[i]=t at *;have p1:(i:Int)<(T.length:Int):=by omega
  obtain⟨L,hL⟩:∃L,L=T.length:=⟨_,rfl⟩;obtain⟨kd,hkd⟩:∃kd,kd=t.kind:=⟨_,rfl⟩;rw [←hkd] at q0 hr;rw [←hL] at c0 p1;have HR:=Hd hr;clear h hi hx hL hkd hr q1 q2;by_cases hk:kd=1
  ·subst hk;have HR2:=Hd (show r=true from HR.o);clear HR;go_enter Tryz.func143,Tryz.ntmps143;go_wp2_with fail;go_quiet (fail);go_wp2_with fail;go_ret;rw [HR2.o];exact⟨rfl,_,rfl⟩
  ·have t0:((kd:Int)==1)=false:=by rw [beq_eq_false_iff_ne];omega
   have HR2:=Hd (show r=false by rw [HR.o,beq_eq_false_iff_ne];exact hk);clear HR hk;go_enter Tryz.func143,Tryz.ntmps143;go_wp2_with fail;go_quiet (fail);go_wp2_with fail;go_ret;rw [HR2.o];exact⟨rfl,_,rfl⟩
 ·have HR2:=Hd (show r=false by rw [hr,jK hi];rfl);obtain⟨L,hL⟩:∃L,L=T.length:=⟨_,rfl⟩;rw [←hL] at c0 hi;have p1:¬(i:Int)<(L:Int):=by omega
  have p2:(i<L)=False:=eq_false (by omega);clear h hr hL;go_enter Tryz.func143,Tryz.ntmps143;go_wp2_with fail;go_quiet (fail);go_wp2_with fail;go_ret;rw [HR2.o];exact⟨rfl,_,rfl⟩
theorem El (w:World) (Lo B ps n i x:Nat) (tv:Value) (T:List Tk) (h:QS w Lo B ps tv n T i x) :
 Calls Tryz.prog 124 #[.pointer (some ⟨ps,0,none⟩)] w fun e w'=>e=.returned (e8 (aR (atF (T.drop i))))∧∃q,w'=w.drewN q:=by
 have hc3:=fW;have hc6:=dN;have HH:=Lib.hid h;cases hk:((atF (T.drop i)).kind==1) with
 | false=>
  have hp:aR (atF (T.drop i))=[]:=fZ hk;rw [hp];have hw:=l7 w Lo B ps n i x tv T h;rw [hk] at hw;have HW:=Hd hw;clear h hw hp hk;go_enter Tryz.func124,Tryz.ntmps124;go_wp2_with fail;refine HW.o.mono ?_;rintro e w1 ⟨rfl,q,rfl⟩;go_wp2_with fail;go_ret;exact⟨rfl,q,rfl⟩
 | true=>
  have hi:i<T.length:=by
   rcases Nat.lt_or_ge i T.length with hi | hi
   ·exact hi
   ·rw [jK hi] at hk;cases hk
  have hw:=l7 w Lo B ps n i x tv T h;rw [hk] at hw;have HW:=Hd hw;obtain⟨c0,c1,c2,f1,f2⟩:=h.cells;have hlt:=h.lt;obtain⟨ta,tc,rfl,ht1,ht2⟩:=h.shape;obtain⟨g,o,xa,xl,xc,rfl,⟨q0,q1,q2⟩,hx,hg⟩:=h.toks.at (aB.refl _ _) hi;obtain⟨ya,yc,hye,hy1,hy2⟩:=hx.shape;injection hye with e1 e2 e3;subst e1 e2 e3;rw [iH hi] at hk ⊢;obtain⟨t,ht⟩:∃t,t=T[i]:=⟨_,rfl⟩;rw [←ht] at hk q2 hx hy1 ⊢;have p1:(i:Int)<(T.length:Int):=by omega
  obtain⟨L,hL⟩:∃L,L=T.length:=⟨_,rfl⟩;rw [←hL] at c0 p1;obtain⟨r,hr⟩:∃r,r=aR t:=⟨_,rfl⟩;rw [←hr];unfold aR at hr;rw [hk,if_pos rfl] at hr;by_cases hl:t.word.length=1
  ·obtain⟨p,hp⟩:∃p,t.word=[p]:=List.length_eq_one_iff.1 hl;rw [hp] at hx q2 hr;obtain⟨g2,o2,za,zl,zc,rfl,⟨s0,s1,s2,s3,s4,s5⟩,hz,_,hg2⟩:=hx.at (aB.refl _ _) (i:=0) (by simp);have q2':w.cell? ⟨g,o+i*3+2,none⟩=some (.slice (some ⟨g2,o2,none⟩) 1 xc):=q2;have s0':w.cell? ⟨g2,o2,none⟩=some (.int .i64 (p.kind:Nat)):=by simpa using s0
   have s1':w.cell? ⟨g2,o2+1,none⟩=some (e8 p.text):=by simpa using s1
   obtain⟨tx,htx⟩:∃tx:ByteArray,tx=⟨p.text.toArray⟩:=⟨_,rfl⟩;unfold e8 at s1';rw [←htx] at s1';obtain⟨kd,hkd⟩:∃kd,kd=p.kind:=⟨_,rfl⟩;rw [←hkd] at s0';dsimp only at hr;rw [←hkd] at hr;have HTX:=Hd htx;have HR:=Hd hr;clear h hi hx hz hL ht hr hkd htx q0 q1 q2 s0 s1 s2 s3 s4 s5 hk hl hp hw hy1 hy2;by_cases hk1:kd=1
   ·subst hk1;have HR2:=Hd (show .string tx=e8 r by rw [HTX.o,HR.o];rfl);clear HR;go_enter Tryz.func124,Tryz.ntmps124;go_wp2_with fail;refine HW.o.mono ?_;rintro e w1 ⟨rfl,q,rfl⟩;go_wp2_with fail;go_quiet (fail);go_wp2_with fail;go_ret;exact⟨by rw [←HR2.o];rfl,q+nq,rfl⟩
   ·have t0:((kd:Int)==1)=false:=by rw [beq_eq_false_iff_ne];omega
    have HR2:=Hd (show r=[] by rw [HR.o,if_neg (by rw [beq_iff_eq];exact hk1)]);clear HR hk1;go_enter Tryz.func124,Tryz.ntmps124;go_wp2_with fail;refine HW.o.mono ?_;rintro e w1 ⟨rfl,q,rfl⟩;go_wp2_with fail;go_quiet (fail);go_wp2_with fail;go_ret;rw [HR2.o];exact⟨rfl,q+nq,rfl⟩
  ·have hr0:r=[]:=by
    rw [hr];split
    ·next p hp=>rw [hp] at hl;exact absurd rfl hl
    ·rfl
   have t0:((t.word.length:Int)==1)=false:=by rw [beq_eq_false_iff_ne];omega
   obtain⟨wl,hwl⟩:∃wl,wl=t.word.length:=⟨_,rfl⟩;rw [←hwl] at q2 t0;have HR2:=Hd hr0;clear h hi hx hL ht hr hr0 q0 q1 hk hl hw hwl hy1 hy2;go_enter Tryz.func124,Tryz.ntmps124;go_wp2_with fail;refine HW.o.mono ?_;rintro e w1 ⟨rfl,q,rfl⟩;go_wp2_with fail;go_quiet (fail);go_wp2_with fail;go_ret;rw [HR2.o];exact⟨rfl,q+nq,rfl⟩
theorem cY (w:World) (Lo B ps n i x:Nat) (tv:Value) (T:List Tk) (h:QS w Lo B ps tv n T i x) :
 Calls Tryz.prog 62 #[.pointer (some ⟨ps,0,none⟩)] w fun e w'=>e=.returned (.tuple #[])∧∃j,i≤j∧(i≤T.length→j≤T.length)∧(T.length≤i→j=i)∧T.drop j=aF (T.drop i)∧QS w' Lo B ps tv n T j x∧aB (fun b=>b=ps) w w':=by
 go_enter Tryz.func62,Tryz.ntmps62;go_wp2_with fail;go_loopg [] (T.length - i) (fun k wr=>∃I:Nat,k=T.length - I∧i≤I∧(i≤T.length→I≤T.length)∧(T.length≤i→I=i)∧QS wr Lo B ps tv n T I x∧aB (fun b=>b=ps) w wr∧aF (T.drop I)=aF (T.drop i))
 case atStart=>exact⟨i,rfl,Nat.le_refl _,id,fun _=>rfl,h,aB.refl _ _,rfl⟩
 case round=>
  obtain⟨I,hgk,h1,h2,h3,hs,hk,hl⟩:=hrel;have HS:=Hd hs;have HK:=Hd hk;have HL:=Hd hl;have HGK:=Hd hgk;have hm:T.length≤20000:=hs.sm.1;have hI:=hs.i;have hw:=F0 wr Lo B ps n I x tv T [10] hs;cases ho:aG [10] (T.drop I) with
  | true=>
   have hlt:I<T.length:=by
    rcases Nat.lt_or_ge I T.length with hi | hi
    ·exact hi
    ·rw [show aG [10] (T.drop I)=false by unfold aG;rw [jK hi];rfl] at ho;cases ho
   rw [ho] at hw;have HW:=Hd hw;have hnl:aF (T.drop (I+1))=aF (T.drop i):=by
    rw [←hl,List.drop_eq_getElem_cons hlt];unfold aG at ho;rw [iH hlt] at ho;show _=(if T[I].kind==2 && T[I].text==[10] then aF (T.drop (I+1)) else _);rw [ho,if_pos rfl]
   have HNL:=Hd hnl;clear hgk hs hk hl hw ho hnl h;go_wp2_with fail;refine HW.o.mono ?_;rintro e w1 ⟨rfl,q,rfl⟩;obtain⟨w2,hw2⟩:∃w2,w2=wr.drewN q:=⟨_,rfl⟩;rw [←hw2];have hk2:K0 wr w2:=by rw [hw2];exact (aB.refl _ _).drewN _
   have HS2:=Hd (HS.o.keep0 hk2);have HK2:=Hd (HK.o.trans hk2 (fun _ _ h=>h.elim));obtain⟨c0,c1,c2,f1,f2⟩:=HS2.o.cells;have hlt2:=HS2.o.lt;clear hw2 hk2;go_wp2_with fail;obtain⟨a1,a2⟩:=HS2.o.set1 (j:=I+1) (by omega);have HA1:=Hd a1;have HA2:=Hd (HK2.o.trans a2 k3);clear a1 a2;go_roundg (T.length - (I+1))
   case measure=>have:=HGK.o;omega
   case rel=>exact⟨I+1,rfl,by omega,fun _=>by omega,fun _=>by omega,by simpa using HA1.o,by simpa using HA2.o,HNL.o⟩
  | false=>
   rw [ho] at hw;have HW:=Hd hw;have hnl:aF (T.drop I)=T.drop I:=by
    rcases Nat.lt_or_ge I T.length with hi | hi
    ·rw [List.drop_eq_getElem_cons hi];unfold aG at ho;rw [iH hi] at ho;show (if T[I].kind==2 && T[I].text==[10] then aF (T.drop (I+1)) else T[I]::T.drop (I+1))=_;rw [ho];rfl
    ·rw [List.drop_eq_nil_of_le hi];rfl
   have HNL:=Hd (show T.drop I=aF (T.drop i) by rw [←hl,hnl]);clear hgk hs hk hl hw ho hnl h;go_wp2_with fail;refine HW.o.mono ?_;rintro e w1 ⟨rfl,q,rfl⟩;go_wp2_with fail;go_end0;exact⟨rfl,I,h1,h2,h3,HNL.o,HS.o.keep0 ((aB.refl _ _).drewN _),HK.o.trans ((aB.refl (fun _=>False) _).drewN q) (fun _ _ h=>h.elim)⟩
theorem d6 {s l:List UInt8} (h:¬s=l):(s==l)=false:=by
 rw [beq_eq_false_iff_ne];exact h
theorem QS.drewN {w:World} {Lo B ps:Nat} {tv:Value} {n:Nat} {T:List Tk} {i x:Nat} (h:QS w Lo B ps tv n T i x) (q:Nat):QS (w.drewN q) Lo B ps tv n T i x:=h.keep0 ((aB.refl _ _).drewN _)
theorem a8 {w:World} {Lo B ps n i x:Nat} {tv:Value} {T:List Tk} (h:QS w Lo B ps tv n T i x) (s:List UInt8) (b:Bool) (hb:aG s (T.drop i)=b) (q:Nat) :
 Calls Tryz.prog 93 #[.pointer (some ⟨ps,0,none⟩),.string ⟨s.toArray⟩] (w.drewN q) fun e w'=>e=.returned (.bool b)∧∃q',w'=w.drewN q':=by
 subst hb;exact (F0 (w.drewN q) Lo B ps n i x tv T s (h.drewN q)).mono fun e w' ⟨h1,q',h2⟩=>⟨h1,q+q',by rw [h2,World.drewN_drewN]⟩
theorem dH {w:World} {Lo B ps n i x:Nat} {tv:Value} {T:List Tk} (h:QS w Lo B ps tv n T i x) (s:List UInt8) (hs:aR (atF (T.drop i))=s) (q:Nat) :
 Calls Tryz.prog 124 #[.pointer (some ⟨ps,0,none⟩)] (w.drewN q) fun e w'=>e=.returned (.string ⟨s.toArray⟩)∧∃q',w'=w.drewN q':=by
 subst hs;exact (El (w.drewN q) Lo B ps n i x tv T (h.drewN q)).mono fun e w' ⟨h1,q',h2⟩=>⟨h1,q+q',by rw [h2,World.drewN_drewN]⟩
theorem qE (w:World) (Lo B ps n i x:Nat) (tv:Value) (T:List Tk) (h:QS w Lo B ps tv n T i x) :
 Calls Tryz.prog 161 #[.pointer (some ⟨ps,0,none⟩)] w fun e w'=>e=.returned (.bool (bX (T.drop i)))∧∃q,w'=w.drewN q:=by
 rw [B3];cases h0:aG [60] (T.drop i) with
 | true=>
  have H0:=Hd (a8 h [60] true h0);clear h h0;go_enter Tryz.func161,Tryz.ntmps161;go_wp2_with fail;refine (H0.o 0).mono ?_;rintro e w0 ⟨rfl,q0,rfl⟩;go_wp2_with fail;go_ret;exact⟨rfl,q0,rfl⟩
 | false=>
 cases h1:aG [62] (T.drop i) with
 | true=>
  have H0:=Hd (a8 h [60] false h0);have H1:=Hd (a8 h [62] true h1);clear h h0 h1;go_enter Tryz.func161,Tryz.ntmps161;go_wp2_with fail;refine (H0.o 0).mono ?_;rintro e w0 ⟨rfl,q0,rfl⟩;go_wp2_with fail;refine (H1.o q0).mono ?_;rintro e w1 ⟨rfl,q1,rfl⟩;go_wp2_with fail;go_ret;exact⟨rfl,q1,rfl⟩
 | false=>
 cases h2:aG [62,62] (T.drop i) with
 | true=>
  have H0:=Hd (a8 h [60] false h0);have H1:=Hd (a8 h [62] false h1);have H2:=Hd (a8 h [62,62] true h2);clear h h0 h1 h2;go_enter Tryz.func161,Tryz.ntmps161;go_wp2_with fail;refine (H0.o 0).mono ?_;rintro e w0 ⟨rfl,q0,rfl⟩;go_wp2_with fail;refine (H1.o q0).mono ?_;rintro e w1 ⟨rfl,q1,rfl⟩;go_wp2_with fail;refine (H2.o q1).mono ?_;rintro e w2 ⟨rfl,q2,rfl⟩;go_wp2_with fail;go_ret;exact⟨rfl,q2,rfl⟩
 | false=>
 cases h3:aG [50,62] (T.drop i) with
 | true=>
  have H0:=Hd (a8 h [60] false h0);have H1:=Hd (a8 h [62] false h1);have H2:=Hd (a8 h [62,62] false h2);have H3:=Hd (a8 h [50,62] true h3);clear h h0 h1 h2 h3;go_enter Tryz.func161,Tryz.ntmps161;go_wp2_with fail;refine (H0.o 0).mono ?_;rintro e w0 ⟨rfl,q0,rfl⟩;go_wp2_with fail;refine (H1.o q0).mono ?_;rintro e w1 ⟨rfl,q1,rfl⟩;go_wp2_with fail;refine (H2.o q1).mono ?_;rintro e w2 ⟨rfl,q2,rfl⟩
  go_wp2_with fail;refine (H3.o q2).mono ?_;rintro e w3 ⟨rfl,q3,rfl⟩;go_wp2_with fail;go_ret;exact⟨rfl,q3,rfl⟩
 | false=>
 cases h4:aG [50,62,62] (T.drop i) with
 | true=>
  have H0:=Hd (a8 h [60] false h0);have H1:=Hd (a8 h [62] false h1);have H2:=Hd (a8 h [62,62] false h2);have H3:=Hd (a8 h [50,62] false h3);have H4:=Hd (a8 h [50,62,62] true h4);clear h h0 h1 h2 h3 h4;go_enter Tryz.func161,Tryz.ntmps161;go_wp2_with fail;refine (H0.o 0).mono ?_;rintro e w0 ⟨rfl,q0,rfl⟩;go_wp2_with fail;refine (H1.o q0).mono ?_;rintro e w1 ⟨rfl,q1,rfl⟩;go_wp2_with fail
  refine (H2.o q1).mono ?_;rintro e w2 ⟨rfl,q2,rfl⟩;go_wp2_with fail;refine (H3.o q2).mono ?_;rintro e w3 ⟨rfl,q3,rfl⟩;go_wp2_with fail;refine (H4.o q3).mono ?_;rintro e w4 ⟨rfl,q4,rfl⟩;go_wp2_with fail;go_ret;exact⟨rfl,q4,rfl⟩
 | false=>
 have H0:=Hd (a8 h [60] false h0);have H1:=Hd (a8 h [62] false h1);have H2:=Hd (a8 h [62,62] false h2);have H3:=Hd (a8 h [50,62] false h3);have H4:=Hd (a8 h [50,62,62] false h4);clear h h0 h1 h2 h3 h4;go_enter Tryz.func161,Tryz.ntmps161;go_wp2_with fail;refine (H0.o 0).mono ?_;rintro e w0 ⟨rfl,q0,rfl⟩;go_wp2_with fail;refine (H1.o q0).mono ?_;rintro e w1 ⟨rfl,q1,rfl⟩;go_wp2_with fail
 refine (H2.o q1).mono ?_;rintro e w2 ⟨rfl,q2,rfl⟩;go_wp2_with fail;refine (H3.o q2).mono ?_;rintro e w3 ⟨rfl,q3,rfl⟩;go_wp2_with fail;refine (H4.o q3).mono ?_;rintro e w4 ⟨rfl,q4,rfl⟩;go_wp2_with fail;go_ret;exact⟨rfl,q4,rfl⟩
theorem s7 (w:World) (Lo B ps n i x:Nat) (tv:Value) (T:List Tk) (h:QS w Lo B ps tv n T i x) :
 Calls Tryz.prog 160 #[.pointer (some ⟨ps,0,none⟩)] w fun e w'=>e=.returned (.bool (dA (T.drop i)))∧∃q,w'=w.drewN q:=by
 obtain⟨s,hs⟩:∃s,aR (atF (T.drop i))=s:=⟨_,rfl⟩;unfold dA;rw [hs];have HP:=Hd (dH h s hs);by_cases hm:s∈dS
 ·rw [show dS.contains s=true from List.contains_iff_mem.2 hm,Bool.true_or];simp only [dS,List.mem_cons,List.not_mem_nil,or_false] at hm;clear h hs;rcases hm with rfl | rfl | rfl | rfl | rfl | rfl
  all_goals
   go_enter Tryz.func160,Tryz.ntmps160;go_wp2_with fail;refine (HP.o 0).mono ?_;rintro e w1 ⟨rfl,q,rfl⟩;go_wp2_with fail;go_ret;exact⟨rfl,q,rfl⟩
 ·rw [show dS.contains s=false by rw [←Bool.not_eq_true,List.contains_iff_mem];exact hm,Bool.false_or];obtain⟨b,hb⟩:∃b,aG [40] (T.drop i)=b:=⟨_,rfl⟩;rw [hb];have HO:=Hd (a8 h [40] b hb);simp only [dS,List.mem_cons,List.not_mem_nil,or_false,not_or] at hm;obtain⟨m0,m1,m2,m3,m4,m5⟩:=hm;have n0:(s==[105,102])=false:=d6 m0;have n1:(s==[119,104,105,108,101])=false:=d6 m1;have n2:(s==[117,110,116,105,108])=false:=d6 m2
  have n3:(s==[102,111,114])=false:=d6 m3;have n4:(s==[99,97,115,101])=false:=d6 m4;have n5:(s==[123])=false:=d6 m5;clear h hs hb m0 m1 m2 m3 m4 m5;go_enter Tryz.func160,Tryz.ntmps160;go_wp2_with fail;refine (HP.o 0).mono ?_;rintro e w1 ⟨rfl,q,rfl⟩;go_wp2_with fail;refine (HO.o q).mono ?_;rintro e w2 ⟨rfl,q2,rfl⟩;go_wp2_with fail;go_ret;exact⟨rfl,q2,rfl⟩
theorem pN (w:World) (s:List UInt8):Calls Tryz.prog 159 #[.string ⟨s.toArray⟩] w fun e w'=>e=.returned (.bool (cC.contains s))∧w'=w:=by
 by_cases hm:s∈cC
 ·rw [show cC.contains s=true from List.contains_iff_mem.2 hm];simp only [cC,List.mem_cons,List.not_mem_nil,or_false] at hm;rcases hm with rfl | rfl | rfl | rfl | rfl | rfl | rfl | rfl | rfl | rfl | rfl | rfl | rfl | rfl | rfl | rfl
  all_goals
   go_enter Tryz.func159,Tryz.ntmps159;go_wp2_with fail;go_ret;exact⟨rfl,rfl⟩
 ·rw [show cC.contains s=false by rw [←Bool.not_eq_true,List.contains_iff_mem];exact hm];simp only [cC,List.mem_cons,List.not_mem_nil,or_false,not_or] at hm;obtain⟨m0,m1,m2,m3,m4,m5,m6,m7,m8,m9,m10,m11,m12,m13,m14,m15⟩:=hm;have n0:(s==[105,102])=false:=d6 m0;have n1:(s==[116,104,101,110])=false:=d6 m1;have n2:(s==[101,108,105,102])=false:=d6 m2;have n3:(s==[101,108,115,101])=false:=d6 m3
  have n4:(s==[102,105])=false:=d6 m4;have n5:(s==[119,104,105,108,101])=false:=d6 m5;have n6:(s==[117,110,116,105,108])=false:=d6 m6;have n7:(s==[100,111])=false:=d6 m7;have n8:(s==[100,111,110,101])=false:=d6 m8;have n9:(s==[102,111,114])=false:=d6 m9;have n10:(s==[105,110])=false:=d6 m10;have n11:(s==[99,97,115,101])=false:=d6 m11;have n12:(s==[101,115,97,99])=false:=d6 m12
  have n13:(s==[123])=false:=d6 m13;have n14:(s==[125])=false:=d6 m14;have n15:(s==[33])=false:=d6 m15;clear m0 m1 m2 m3 m4 m5 m6 m7 m8 m9 m10 m11 m12 m13 m14 m15;go_enter Tryz.func159,Tryz.ntmps159;go_wp2_with fail;go_ret;exact⟨rfl,rfl⟩
theorem lG (w:World) (Lo B ps n i x:Nat) (tv:Value) (T:List Tk) (h:QS w Lo B ps tv n T i x) :
 Calls Tryz.prog 95 #[.pointer (some ⟨ps,0,none⟩)] w fun e w'=>e=.returned (.bool (cZ (T.drop i)))∧∃q,w'=w.drewN q:=by
 obtain⟨c0,c1,c2,f1,f2⟩:=h.cells;have hlt:=h.lt;obtain⟨ta,tc,rfl,ht1,ht2⟩:=h.shape;unfold cZ;rcases Nat.lt_or_ge i T.length with hi | hi
 ·have he:(T.drop i).isEmpty=false:=by
   rw [List.isEmpty_eq_false_iff];intro e;have:=congrArg List.length e;rw [List.length_drop,lN] at this;omega
  rw [he,Bool.false_or];cases h0:aG [41] (T.drop i) with
  | true=>
   have H0:=Hd (show ∀q,Calls Tryz.prog 93 #[.pointer (some ⟨ps,0,none⟩),.string ⟨#[41]⟩] (w.drewN q) (fun e w'=>e=.returned (.bool true)∧∃q',w'=w.drewN q') from a8 h [41] true h0);rw [Bool.true_or,Bool.true_or];obtain⟨K,hK⟩:∃K,K=T.length:=⟨_,rfl⟩;rw [←hK] at c0 hi;have p1:¬(K:Int)≤(i:Int):=by omega
   have p2:(K≤i)=False:=eq_false (by omega);clear h h0 hK he;go_enter Tryz.func95,Tryz.ntmps95;go_wp2_with fail;go_quiet ((go_at_call 93;with_reducible exact H0.o _));go_wp2_with fail;go_ret;exact⟨rfl,_,rfl⟩
  | false=>
   cases h1:aG [59,59] (T.drop i) with
   | true=>
    have H0:=Hd (show ∀q,Calls Tryz.prog 93 #[.pointer (some ⟨ps,0,none⟩),.string ⟨#[41]⟩] (w.drewN q) (fun e w'=>e=.returned (.bool false)∧∃q',w'=w.drewN q') from a8 h [41] false h0);have H1:=Hd (show ∀q,Calls Tryz.prog 93 #[.pointer (some ⟨ps,0,none⟩),.string ⟨#[59,59]⟩] (w.drewN q) (fun e w'=>e=.returned (.bool true)∧∃q',w'=w.drewN q') from a8 h [59,59] true h1);rw [Bool.false_or,Bool.true_or]
    obtain⟨K,hK⟩:∃K,K=T.length:=⟨_,rfl⟩;rw [←hK] at c0 hi;have p1:¬(K:Int)≤(i:Int):=by omega
    have p2:(K≤i)=False:=eq_false (by omega);clear h h0 h1 hK he;go_enter Tryz.func95,Tryz.ntmps95;go_wp2_with fail;go_quiet ((go_at_call 93;first | with_reducible exact H0.o _ | with_reducible exact H1.o _));go_wp2_with fail;go_ret;exact⟨rfl,_,rfl⟩
   | false=>
    have H0:=Hd (show ∀q,Calls Tryz.prog 93 #[.pointer (some ⟨ps,0,none⟩),.string ⟨#[41]⟩] (w.drewN q) (fun e w'=>e=.returned (.bool false)∧∃q',w'=w.drewN q') from a8 h [41] false h0);have H1:=Hd (show ∀q,Calls Tryz.prog 93 #[.pointer (some ⟨ps,0,none⟩),.string ⟨#[59,59]⟩] (w.drewN q) (fun e w'=>e=.returned (.bool false)∧∃q',w'=w.drewN q') from a8 h [59,59] false h1);rw [Bool.false_or,Bool.false_or]
    obtain⟨s,hs⟩:∃s,aR (atF (T.drop i))=s:=⟨_,rfl⟩;have HP:=Hd (dH h s hs);rw [hs];obtain⟨K,hK⟩:∃K,K=T.length:=⟨_,rfl⟩;rw [←hK] at c0 hi;have p1:¬(K:Int)≤(i:Int):=by omega
    have p2:(K≤i)=False:=eq_false (by omega);clear h h0 h1 hK he hs;by_cases hm:s∈kA
    ·rw [show kA.contains s=true from List.contains_iff_mem.2 hm];simp only [kA,List.mem_cons,List.not_mem_nil,or_false] at hm;rcases hm with rfl | rfl | rfl | rfl | rfl | rfl | rfl | rfl
     all_goals
      go_enter Tryz.func95,Tryz.ntmps95;go_wp2_with fail;go_quiet ((go_at_call 93;first | with_reducible exact H0.o _ | with_reducible exact H1.o _));go_wp2_with fail;refine (HP.o nq).mono ?_;rintro e w1 ⟨rfl,q,rfl⟩;go_wp2_with fail;go_ret;exact⟨rfl,q,rfl⟩
    ·rw [show kA.contains s=false by rw [←Bool.not_eq_true,List.contains_iff_mem];exact hm];simp only [kA,List.mem_cons,List.not_mem_nil,or_false,not_or] at hm;obtain⟨m0,m1,m2,m3,m4,m5,m6,m7⟩:=hm;have n0:(s==[116,104,101,110])=false:=d6 m0;have n1:(s==[101,108,105,102])=false:=d6 m1;have n2:(s==[101,108,115,101])=false:=d6 m2;have n3:(s==[102,105])=false:=d6 m3;have n4:(s==[100,111])=false:=d6 m4
     have n5:(s==[100,111,110,101])=false:=d6 m5;have n6:(s==[101,115,97,99])=false:=d6 m6;have n7:(s==[125])=false:=d6 m7;clear m0 m1 m2 m3 m4 m5 m6 m7;go_enter Tryz.func95,Tryz.ntmps95;go_wp2_with fail;go_quiet ((go_at_call 93;first | with_reducible exact H0.o _ | with_reducible exact H1.o _));go_wp2_with fail;refine (HP.o nq).mono ?_;rintro e w1 ⟨rfl,q,rfl⟩;go_wp2_with fail;go_ret
     exact⟨rfl,q,rfl⟩
 ·have he:(T.drop i).isEmpty=true:=by rw [List.drop_eq_nil_of_le hi];rfl
  rw [he,Bool.true_or,Bool.true_or,Bool.true_or];obtain⟨K,hK⟩:∃K,K=T.length:=⟨_,rfl⟩;rw [←hK] at c0 hi;have p1:(K:Int)≤(i:Int):=by omega
  clear h hK he;go_enter Tryz.func95,Tryz.ntmps95;go_wp2_with fail;go_quiet (fail);go_wp2_with fail;go_ret;exact⟨rfl,_,rfl⟩
theorem fF (w:World) (Lo B ps n i x:Nat) (tv:Value) (T:List Tk) (s:List UInt8) (h:QS w Lo B ps tv n T i x) (hi:i+1≤T.length+1000) :
 Calls Tryz.prog 180 #[.pointer (some ⟨ps,0,none⟩),.string ⟨s.toArray⟩] w fun e w'=>e=.returned (.tuple #[])∧QS w' Lo B ps tv n T (i+1) (if x=0 then (if aT s (T.drop i) then 0 else 2) else x)∧aB (fun b=>b=ps) w w':=by
 have hm:T.length≤20000:=h.sm.1;have hsum:IntKind.i64.wrap ((i:Int)+1)=(i:Int)+1:=IntWalk.i64_in _ (by omega);by_cases hx:x=0
 ·subst hx;rw [if_pos rfl];obtain⟨p,hp⟩:∃p,aR (atF (T.drop i))=p:=⟨_,rfl⟩;have HP:=Hd (dH h p hp 0);have hw:aT s (T.drop i)=(p==s):=by unfold aT;rw [hp]
  rw [hw];have HH:=Lib.hid h;obtain⟨d0,d1,d2,g1,g2⟩:=h.cells;have hltd:=h.lt;clear hp hw h;cases hb:(p==s) with
  | true=>
   rw [if_pos rfl];go_enter Tryz.func180,Tryz.ntmps180;go_wp2_with fail;refine HP.o.mono ?_;rintro e w1 ⟨rfl,q,rfl⟩;obtain⟨c0,c1,c2,f1,f2⟩:=(HH.o.drewN q).cells;have hlt:=(HH.o.drewN q).lt;go_wp2_with fail;go_end0;have h2:=(HH.o.drewN q).set1 (j:=i+1) hi;exact⟨rfl,by simpa using h2.1,by simpa using ((aB.refl (fun b=>b=ps) w).drewN q).trans h2.2 k3⟩
  | false=>
   rw [if_neg (by simp)];go_enter Tryz.func180,Tryz.ntmps180;go_wp2_with fail;refine HP.o.mono ?_;rintro e w1 ⟨rfl,q,rfl⟩;go_wp2_with fail;refine (eD (w.drewN q) Lo B ps n i 0 2 tv T (HH.o.drewN q)).mono ?_;rintro e w2 ⟨rfl,h2,hk2⟩;rw [if_pos rfl] at h2;have H2:=Hd h2;have HK2:=Hd hk2;obtain⟨c0,c1,c2,f1,f2⟩:=h2.cells;have hlt:=h2.lt;clear h2 hk2;go_wp2_with fail;go_end0;have h3:=H2.o.set1 (j:=i+1) hi
   exact⟨rfl,by simpa using h3.1,by simpa using ((((aB.refl (fun b=>b=ps) w).drewN q).trans HK2.o k3).trans h3.2 k3)⟩
 ·have t:((x:Int)==0)=false:=by rw [beq_eq_false_iff_ne];omega
  rw [if_neg hx];have HH:=Lib.hid h;obtain⟨c0,c1,c2,f1,f2⟩:=h.cells;have hlt:=h.lt;clear h hx;go_enter Tryz.func180,Tryz.ntmps180;go_wp2_with fail;go_end0;have h3:=HH.o.set1 (j:=i+1) hi;exact⟨rfl,by simpa using h3.1,by simpa using h3.2⟩
def sI (w:World) (res:Except Nat (List Dt)) (e:Ending) (w':World):Prop:=match res with
 | .ok ds=>∃(a:OA) (m c:Nat),e=.returned (.tuple #[.slice a m c,.int .i64 0])∧Rd w' (fun b=>w.heap.size≤b) (.sl 8 ds) (.slice a m c)∧K0 w w'
 | .error x=>e=.returned (.tuple #[.slice none 0 0,.int .i64 (x:Nat)])∧K0 w w'
def iP (K:Nat):Prop:=∀(w:World) (s:List UInt8) (deep:Nat),s.length≤140737488351232→deep+K=41→
 Calls Tryz.prog 20 #[.string ⟨s.toArray⟩,.int .i64 (deep:Nat)] w (sI w (gQ (aC K) s))
theorem Ni {K:Nat} {s:Bs} {w w':World} {e:Ending} {u:Unit} (h:bC (aC K) s=.ok u) (hp:sI w (gQ (aC K) s) e w') :
 ∃(a:OA) (m c:Nat),e=.returned (.tuple #[.slice a m c,.int .i64 0])∧K0 w w':=by
 unfold bC at h;cases hr:gQ (aC K) s with
 | ok ds=>
  rw [hr] at hp;obtain⟨a,m,c,he,_,hk⟩:=hp;exact⟨a,m,c,he,hk⟩
 | error x=>
  rw [hr] at hp h;cases x with
  | zero=>exact⟨none,0,0,hp.1,hp.2⟩
  | succ x=>cases h
theorem J1 {K:Nat} {s:Bs} {w w':World} {e:Ending} {y:Nat} (h:bC (aC K) s=.error y) (hp:sI w (gQ (aC K) s) e w') :
 e=.returned (.tuple #[.slice none 0 0,.int .i64 (y:Nat)])∧y≠0∧K0 w w':=by
 unfold bC at h;cases hr:gQ (aC K) s with
 | ok ds=>rw [hr] at h;cases h
 | error x=>
  rw [hr] at hp h;cases x with
  | zero=>cases h
  | succ x=>cases h;exact⟨hp.1,Nat.succ_ne_zero _,hp.2⟩
theorem zB (scr:Bs→Except Nat Unit):gI scr []=.ok ():=by simp [gI]
theorem uX (scr:Bs→Except Nat Unit) (p:Pt) (l:List Pt):gI scr (p::l)=match (if p.kind==5 then scr p.text else .ok ()) with
 | .error e=>.error e
 | .ok _=>match gI scr p.word with
  | .error e=>.error e
  | .ok _=>gI scr l:=by
 cases p with
 | mk k t n o w q=>
  simp only [gI,O6,Pt.kind,Pt.text,Pt.word];by_cases h:(k==5)=true
  ·simp only [h,if_true];cases scr t<;>rfl
  ·simp only [h];rfl
theorem Ja (w:World) (Lo B ps n i x:Nat) (tv:Value) (T:List Tk) (a:OA) (m c deep:Nat) (h:QS w Lo B ps tv n T i x) (hx:x≠0) :
 Calls Tryz.prog 201 #[.pointer (some ⟨ps,0,none⟩),.slice a m c,.int .i64 (deep:Nat)] w fun e w'=>e=.returned (.tuple #[])∧w'=w:=by
 obtain⟨c0,c1,c2,f1,f2⟩:=h.cells;have hlt:=h.lt;have t:((x:Int)==0)=false:=by rw [beq_eq_false_iff_ne];omega
 clear h hx;by_cases hm:0<m
 ·have p1:(0:Int)<(m:Int):=by omega
  go_enter Tryz.func201,Tryz.ntmps201;go_wp2_with fail;go_loopw [6] (fun k' wr=>k'=.int .i64 0∧wr=w) (fun _ _=>0)
  case atStart=>exact⟨rfl,rfl⟩
  case round=>
   obtain⟨rfl,rfl⟩:=hrel;go_wp2_with fail;go_end0;exact⟨rfl,rfl⟩
 ·obtain rfl:m=0:=by omega
  go_enter Tryz.func201,Tryz.ntmps201;go_wp2_with fail;go_loopw [6] (fun k' wr=>k'=.int .i64 0∧wr=w) (fun _ _=>0)
  case atStart=>exact⟨rfl,rfl⟩
  case round=>
   obtain⟨rfl,rfl⟩:=hrel;go_wp2_with fail;go_end0;exact⟨rfl,rfl⟩
theorem Ou {w:World} {D:Nat→Prop} {n:Nat} {l:List Pt} {g o k c i:Nat} (h:aV w D n l (.slice (some ⟨g,o,none⟩) k c)) (hi:i<l.length):D g:=by
 cases n with
 | zero=>obtain⟨rfl,_⟩:=h;simp at hi
 | succ n=>
  obtain⟨a,c,e,_,_,H⟩:=h;obtain⟨b,off,wv,ea,hb,hd,_,_⟩:=H i hi;injection e with e1 e2 e3;have e4:=e1.trans ea;injection e4 with e4;injection e4 with e4 e5 e6;rw [e4];exact hd
def Q0 (w:World) (Lo B ps:Nat) (tv:Value) (n:Nat) (T:List Tk) (i:Nat) (res:Except Nat Unit) (e:Ending) (w':World):Prop:=
 ∃x,e=.returned (.tuple #[])∧QS w' Lo B ps tv n T i x∧(match res with | .ok _=>x=0 | .error y=>x=y∧y≠0)∧aB (fun b=>b=ps) w w'
theorem E5 (K deep:Nat) (hscr:iP K) (hd:deep+1+K=41) (N:Nat):∀(n:Nat),n<N→∀(w:World) (Lo B ps:Nat) (tv:Value) (n':Nat) (T:List Tk) (i:Nat) (l:List Pt) (v:Value),QS w Lo B ps tv n' T i 0→aV w (fun b=>Lo≤b∧b<B) n l v→Sm l→
 Calls Tryz.prog 201 #[.pointer (some ⟨ps,0,none⟩),v,.int .i64 (deep:Nat)] w (Q0 w Lo B ps tv n' T i (gI (bC (aC K)) l)):=by
 have HD:=Hd hd;have hdw:IntKind.i64.wrap ((deep:Int)+1)=(deep:Int)+1:=IntWalk.i64_in _ (by omega);clear hd;induction N with
 | zero=>intro n hn;omega
 | succ N ih=>
  intro n hn w Lo B ps tv n' T i l v hq hp hsm;obtain⟨res,hres⟩:∃res,res=gI (bC (aC K)) l:=⟨_,rfl⟩;rw [←hres];have hc6:=dN;obtain⟨va,vc,rfl,hv1,hv2⟩:=hp.shape;have hlen:=hsm.1;have HSM:=Hd hsm.2;have HQ:=Hd hq;have HP:=Hd hp;have HSCR:=Hd hscr;have HIH:=Hd ih;obtain⟨L,hL⟩:∃L,L=l.length:=⟨_,rfl⟩;have HL:=Hd hL;rw [←hL] at hlen hv1;rw [←hL];have HRES0:=Hd hres;have hps:=hq.ps;clear hq hp hscr hsm hL hres ih
  go_enter Tryz.func201,Tryz.ntmps201;go_wp2_with fail;go_loopw [6] (fun k' wr=>∃k x:Nat,k'=.int .i64 k∧k≤L∧Hid (QS wr Lo B ps tv n' T i x)∧Hid (aB (fun b=>b=ps) w wr)∧((x=0∧Hid (res=gI (bC (aC K)) (l.drop k)))∨(x≠0∧Hid (res=.error x)))) (fun k' _=>L - (intOf k').toNat)
  case atStart=>exact⟨0,0,rfl,Nat.zero_le _,HQ,Hd (aB.refl _ _),.inl ⟨rfl,Hd HRES0.o⟩⟩
  case round=>
   obtain⟨k,x,rfl,hk,HS,HK,hor⟩:=hrel;obtain⟨c0,c1,c2,f1,f2⟩:=HS.o.cells;have hlt:=HS.o.lt;rcases hor with ⟨rfl,HT⟩ | ⟨hx,HT⟩
   ·by_cases hkl:k<L
    ·have hlt2:k<l.length:=by rw [←HL.o];exact hkl
     have hp:=HP.o.keep HK.o (fun b _ hb e=>by have:=hb.2;omega);rw [←HL.o] at hp;obtain⟨g,o,xa,xl,xc,rfl,⟨q0,q1,q2,q3,q4,q5⟩,hx,hn0,hg⟩:=hp.at (aB.refl _ _) hlt2;have hsx:=A0 HSM.o (List.getElem_mem hlt2);have hgB:g<B:=(Ou (D:=fun b=>Lo≤b∧b<B) hp hlt2).2;have hres:res=match (if l[k].kind==5 then bC (aC K) l[k].text else .ok ()) with
      | .error e=>.error e
      | .ok _=>match gI (bC (aC K)) l[k].word with
       | .error e=>.error e
       | .ok _=>gI (bC (aC K)) (l.drop (k+1)):=by
      rw [HT.o,List.drop_eq_getElem_cons hlt2,uX]
     obtain⟨z,hze⟩:∃z,z=l[k]:=⟨_,rfl⟩;rw [←hze] at q0 q1 q2 q3 q5 hx hsx hres;unfold e8 at q1 q2 q3;have p1:(k:Int)<(L:Int):=by omega
     have HRES:=Hd hres;have HX:=Hd hx;have HSX:=Hd hsx;have HN:=Hd (show n - 1<N by omega);clear hres hx hsx hze hp hlt2 HT;by_cases k5:z.kind=5
     ·have t0:((z.kind:Int)==5)=true:=by rw [beq_iff_eq];omega
      have hres:=HRES.o;rw [k5,if_pos (by rfl)] at hres;clear k5;cases hsc:bC (aC K) z.text with
      | error y=>
       rw [hsc] at hres;have HRX:=Hd hres;have HSC:=Hd hsc;clear hres hsc HRES;go_wp2_with fail;refine (HSCR.o wr z.text (deep+1) (by have:=HSX.o.1;omega) (by have:=HD.o;omega)).mono ?_;intro e w3 hp;obtain⟨rfl,hy,hk3⟩:=J1 HSC.o hp;have t1:((y:Int) != 0)=true:=by rw [bne_iff_ne];omega
       have HS3:=Hd (HS.o.keep0 hk3);have HK3:=Hd hk3;have HY:=Hd hy;clear hp hk3 hy;go_wp2_with fail;refine (eD w3 Lo B ps n' i 0 y tv T HS3.o).mono ?_;rintro e w4 ⟨rfl,h4,hk4⟩;rw [if_pos rfl] at h4;have HS4:=Hd h4;have HK4:=Hd ((HK3.o.mono (T:=fun b=>b=ps) (fun _ _ h=>h.elim)).trans hk4 k3);have b4:=(World.cell?_of_block (a:=⟨g,o+k*6+4,none⟩) (HK4.o.block g hg (fun e=>by omega))).trans q4
       have HK6:=Hd (HK.o.trans HK4.o k3);clear h4 hk4;go_wp2_with fail;refine (Ja w4 Lo B ps n' i y tv T xa xl xc deep HS4.o HY.o).mono ?_;rintro e w5 ⟨rfl,rfl⟩;go_wp2_with fail;go_roundw
       case rel=>exact⟨k+1,y,by go_num,by omega,HS4,HK6,.inr ⟨HY.o,HRX⟩⟩
       case measure=>simp [intOf];omega
      | ok u=>
       rw [hsc] at hres;replace HRES:=Hd hres;have HSC:=Hd hsc;clear hres hsc;go_wp2_with fail;refine (HSCR.o wr z.text (deep+1) (by have:=HSX.o.1;omega) (by have:=HD.o;omega)).mono ?_;intro e w3 hp;obtain⟨sa,sm,sc,rfl,hk3⟩:=Ni HSC.o hp;have HS3:=Hd (HS.o.keep0 hk3);have HK3:=Hd (HK.o.trans hk3 (fun _ _ h=>h.elim));have b4:=(World.cell?_of_block (a:=⟨g,o+k*6+4,none⟩) (hk3.block g hg (fun h=>h))).trans q4
       have hg3:g<w3.heap.size:=Nat.lt_of_lt_of_le hg hk3.size;have HX3:=Hd (HX.o.keep hk3 (fun _ _ _ h=>h));clear hp hk3;go_wp2_with fail;refine (HIH.o (n - 1) HN.o w3 Lo B ps tv n' T i z.word (.slice xa xl xc) HS3.o HX3.o HSX.o.2).mono ?_;intro e w5 hp5;obtain⟨x2,rfl,h5,hm5,hk5⟩:=hp5;have HS5:=Hd h5;have HK5:=Hd (HK3.o.trans hk5 k3);cases hr2:gI (bC (aC K)) z.word with
       | error y=>
        rw [hr2] at hm5;obtain⟨rfl,hy⟩:=hm5;have HRX:=Hd (show res=.error x2 by rw [HRES.o,hr2]);clear h5 hk5 hr2;go_wp2_with fail;go_roundw
        case rel=>exact⟨k+1,x2,by go_num,by omega,HS5,HK5,.inr ⟨hy,HRX⟩⟩
        case measure=>simp [intOf];omega
       | ok u2=>
        rw [hr2] at hm5;obtain rfl:=hm5;have HRX:=Hd (show res=gI (bC (aC K)) (l.drop (k+1)) by rw [HRES.o,hr2]);clear h5 hk5 hr2;go_wp2_with fail;go_roundw
        case rel=>exact⟨k+1,0,by go_num,by omega,HS5,HK5,.inl ⟨rfl,HRX⟩⟩
        case measure=>simp [intOf];omega
     ·have t0:((z.kind:Int)==5)=false:=by rw [beq_eq_false_iff_ne];omega
      have hres:=HRES.o;rw [if_neg (by simpa using k5)] at hres;replace HRES:=Hd hres;clear hres k5;go_wp2_with fail;refine (HIH.o (n - 1) HN.o wr Lo B ps tv n' T i z.word (.slice xa xl xc) HS.o HX.o HSX.o.2).mono ?_;intro e w5 hp5;obtain⟨x2,rfl,h5,hm5,hk5⟩:=hp5;have HS5:=Hd h5;have HK5:=Hd (HK.o.trans hk5 k3);cases hr2:gI (bC (aC K)) z.word with
      | error y=>
       rw [hr2] at hm5;obtain⟨rfl,hy⟩:=hm5;have HRX:=Hd (show res=.error x2 by rw [HRES.o,hr2]);clear h5 hk5 hr2;go_wp2_with fail;go_roundw
       case rel=>exact⟨k+1,x2,by go_num,by omega,HS5,HK5,.inr ⟨hy,HRX⟩⟩
       case measure=>simp [intOf];omega
      | ok u2=>
       rw [hr2] at hm5;obtain rfl:=hm5;have HRX:=Hd (show res=gI (bC (aC K)) (l.drop (k+1)) by rw [HRES.o,hr2]);clear h5 hk5 hr2;go_wp2_with fail;go_roundw
       case rel=>exact⟨k+1,0,by go_num,by omega,HS5,HK5,.inl ⟨rfl,HRX⟩⟩
       case measure=>simp [intOf];omega
    ·have p1:¬(k:Int)<(L:Int):=by omega
     have hr:res=.ok ():=by
      rw [HT.o,List.drop_eq_nil_of_le (by have:=HL.o;omega),zB]
     have HR:=Hd hr;clear hr;go_wp2_with fail;go_end0;rw [HR.o];exact⟨0,rfl,HS.o,rfl,HK.o⟩
   ·have t0:((x:Int)==0)=false:=by rw [beq_eq_false_iff_ne];omega
    have HXN:=Hd hx;clear hx;by_cases hkl:k<L
    ·have p1:(k:Int)<(L:Int):=by omega
     go_wp2_with fail;go_end0;rw [HT.o];exact⟨x,rfl,HS.o,⟨rfl,HXN.o⟩,HK.o⟩
    ·have p1:¬(k:Int)<(L:Int):=by omega
     go_wp2_with fail;go_end0;rw [HT.o];exact⟨x,rfl,HS.o,⟨rfl,HXN.o⟩,HK.o⟩
theorem lB {w:World} {Lo B ps n i x:Nat} {tv:Value} {T:List Tk} (h:QS w Lo B ps tv n T i x) (b:Bool) (hb:((atF (T.drop i)).kind==1)=b) (q:Nat) :
 Calls Tryz.prog 143 #[.pointer (some ⟨ps,0,none⟩)] (w.drewN q) fun e w'=>e=.returned (.bool b)∧∃q',w'=w.drewN q':=by
 subst hb;exact (l7 (w.drewN q) Lo B ps n i x tv T (h.drewN q)).mono fun e w' ⟨h1,q',h2⟩=>⟨h1,q+q',by rw [h2,World.drewN_drewN]⟩
def t8 (ts:List Tk):Bool:=(atF ts).kind==1 && !(atF ts).word.isEmpty
theorem Do (w:World) (Lo B ps n i x deep:Nat) (tv:Value) (T:List Tk) (h:QS w Lo B ps tv n T i x) (hw:t8 (T.drop i)=false) :
 Calls Tryz.prog 185 #[.pointer (some ⟨ps,0,none⟩),.int .i64 (deep:Nat)] w fun e w'=>e=.returned (.slice none 0 0)∧QS w' Lo B ps tv n T i (if x=0 then 2 else x)∧aB (fun b=>b=ps) w w':=by
 have hc3:=fW;obtain⟨c0,c1,c2,f1,f2⟩:=h.cells;have hlt:=h.lt;have HH:=Lib.hid h;obtain⟨y,hy⟩:∃y,y=(if x=0 then 2 else x):=⟨_,rfl⟩;rw [←hy];have HY:=Hd hy;clear hy;cases hk:((atF (T.drop i)).kind==1) with
 | false=>
  have HW:=Hd (lB h false hk);clear h hw hk;go_enter Tryz.func185,Tryz.ntmps185;go_wp2_with fail;go_quiet ((go_at_call 143;exact HW.o _));go_wp2_with fail;refine (eD _ Lo B ps n i x 2 tv T (HH.o.drewN _)).mono ?_;rintro e w2 ⟨rfl,h2,hk2⟩;rw [←HY.o] at h2;have H2:=Hd h2;have HK2:=Hd (((aB.refl (fun b=>b=ps) w).drewN _).trans hk2 k3);clear h2 hk2;go_wp2_with fail;go_ret
  exact⟨rfl,H2.o,HK2.o⟩
 | true=>
  have hi:i<T.length:=by
   rcases Nat.lt_or_ge i T.length with hi | hi
   ·exact hi
   ·rw [jK hi] at hk;cases hk
  have HW:=Hd (lB h true hk);obtain⟨ta,tc,rfl,ht1,ht2⟩:=h.shape;obtain⟨g,o,xa,xl,xc,rfl,⟨q0,q1,q2⟩,hx,hg⟩:=h.toks.at (aB.refl _ _) hi;unfold t8 at hw;rw [hk,Bool.true_and] at hw;rw [iH hi] at hw;obtain⟨ya,yc,hye,hy1,hy2⟩:=hx.shape;injection hye with e1 e2 e3;subst e1 e2 e3;have hl:(T[i].word).length=0:=by
   rw [Bool.not_eq_false',List.isEmpty_iff] at hw;rw [hw];rfl
  rw [hl] at q2;obtain⟨K,hK⟩:∃K,K=T.length:=⟨_,rfl⟩;rw [←hK] at c0 hi;have p1:(i:Int)<(K:Int):=by omega
  clear h hw hk hx q0 q1 hK hl hy1 hy2 ht1 ht2;go_enter Tryz.func185,Tryz.ntmps185;go_wp2_with fail;go_quiet ((go_at_call 143;exact HW.o _));go_wp2_with fail;refine (eD _ Lo B ps n i x 2 _ T (HH.o.drewN _)).mono ?_;rintro e w2 ⟨rfl,h2,hk2⟩;rw [←HY.o] at h2;have H2:=Hd h2;have HK2:=Hd (((aB.refl (fun b=>b=ps) w).drewN _).trans hk2 k3);clear h2 hk2;go_wp2_with fail;go_ret
  exact⟨rfl,H2.o,HK2.o⟩
def Q6 (w:World) (Lo B ps:Nat) (tv:Value) (n:Nat) (T:List Tk) (i:Nat) (wd:List Pt) (x:Nat) (e:Ending) (w':World):Prop:=
 ∃a c,e=.returned (.slice a wd.length c)∧aV w' (fun b=>Lo≤b∧b<B) n wd (.slice a wd.length c)∧QS w' Lo B ps tv n T (i+1) x∧aB (fun b=>b=ps) w w'
theorem E8 (w:World) (Lo B ps n i x deep:Nat) (tv:Value) (T:List Tk) (h:QS w Lo B ps tv n T i x) (hw:t8 (T.drop i)=true) (Q:Nat→Prop)
 (hsub:∀(w2:World) (v:Value),QS w2 Lo B ps tv n T i x→aV w2 (fun b=>Lo≤b∧b<B) n (atF (T.drop i)).word v→Calls Tryz.prog 201 #[.pointer (some ⟨ps,0,none⟩),v,.int .i64 (deep:Nat)] w2 fun e w'=>∃y,e=.returned (.tuple #[])∧QS w' Lo B ps tv n T i y∧Q y∧aB (fun b=>b=ps) w2 w') :
 Calls Tryz.prog 185 #[.pointer (some ⟨ps,0,none⟩),.int .i64 (deep:Nat)] w fun e w'=>i<T.length∧∃y,Q y∧Q6 w Lo B ps tv n T i (atF (T.drop i)).word y e w':=by
 have hc3:=fW;obtain⟨c0,c1,c2,f1,f2⟩:=h.cells;have hlt:=h.lt;have HH:=Lib.hid h;unfold t8 at hw;rw [Bool.and_eq_true] at hw;obtain⟨hk,hne⟩:=hw;have hi:i<T.length:=by
  rcases Nat.lt_or_ge i T.length with hi | hi
  ·exact hi
  ·rw [jK hi] at hk;cases hk
 have HW:=Hd (lB h true hk);have HSUB:=Hd hsub;have hps:=h.ps;obtain⟨ta,tc,rfl,ht1,ht2⟩:=h.shape;obtain⟨g,o,xa,xl,xc,rfl,⟨q0,q1,q2⟩,hx,hg⟩:=h.toks.at (aB.refl _ _) hi;obtain⟨ya,yc,hye,hy1,hy2⟩:=hx.shape;injection hye with e1 e2 e3;subst e1 e2 e3;have hmT:T.length≤20000:=h.sm.1;have HI:=Hd hi;have hat:=iH hi;rw [hat] at hne;rw [hat];rw [hat] at HSUB;have hl0:(T[i].word).length≠0:=fun e=>by
  rw [Bool.not_eq_true',List.isEmpty_eq_false_iff] at hne;exact hne (List.eq_nil_of_length_eq_zero e)
 generalize T[i].word=wd at *;obtain⟨wl,hwl⟩:∃wl,wl=wd.length:=⟨_,rfl⟩;rw [←hwl] at q2 hl0;have t0:((wl:Int)==0)=false:=by rw [beq_eq_false_iff_ne];omega
 have HX:=Hd hx;have HWL:=Hd hwl;have HXD:=Hd (show ∀q,aV (w.drewN q) (fun b=>Lo≤b∧b<B) n wd (.slice xa wl xc) from fun q=>by
  rw [hwl];exact hx.keep (S:=fun _=>False) ((aB.refl _ w).drewN q) (fun _ _ _ h=>h))
 obtain⟨K,hK⟩:∃K,K=T.length:=⟨_,rfl⟩;rw [←hK] at c0;have p1:(i:Int)<(K:Int):=by omega
 have hsum:IntKind.i64.wrap ((i:Int)+1)=(i:Int)+1:=IntWalk.i64_in _ (by omega);clear h hk hne hx q0 q1 hK hl0 hy1 hy2 ht1 ht2 hat hwl hsub hi;go_enter Tryz.func185,Tryz.ntmps185;go_wp2_with fail;go_quiet ((go_at_call 143;exact HW.o _));go_wp2_with fail;go_quiet (fail);go_wp2_with fail;refine (HSUB.o _ (.slice xa wl xc) (HH.o.drewN _) (HXD.o _)).mono ?_;rintro e w2 ⟨y,rfl,h2,hq,hk2⟩;obtain⟨d0,d1,d2,g1,g2⟩:=h2.cells
 have hltd:=h2.lt;have H2:=Hd h2;have HQ:=Hd hq;have HK2:=Hd (((aB.refl (fun b=>b=ps) w).drewN _).trans hk2 k3);clear h2 hq hk2;go_wp2_with fail;go_ret;have h3:=H2.o.set1 (j:=i+1) (by have:=HI.o;omega);have hk3:=HK2.o.trans h3.2 k3;exact⟨HI.o,y,HQ.o,xa,xc,by rw [←HWL.o];rfl,by simpa using HX.o.keep hk3 (fun b _ hb e=>by have:=hb.2;omega),by simpa using h3.1,by simpa using hk3⟩
end Go.Proofs.YtiihpbccabeoeaaGreatDoor
