/- The walk: a part. -/
import Derived.Test.YtiihpbccabeoeaaGreatDoorWPrA
import Derived.Test.YtiihpbccabeoeaaGreatDoorWPsA
import Derived.Test.YtiihpbccabeoeaaGreatDoorWPkQ
namespace Go.Proofs.YtiihpbccabeoeaaGreatDoor
set_option linter.unusedVariables false
set_option maxRecDepth 100000
set_option maxHeartbeats 16000000
/-! What is written. -/
def eH (rs:List (Bs×List Pt)):Bs:=rs.flatMap fun g=>g.1++32::(bF g.2++[32])
def jY (gs:List (Bs×List Pt)):Bs:=gs.flatMap fun g=>g.1++61::(aL false g.2++[32])
def fC (ws:List (List Pt)):Bs:=ws.flatMap fun w=>32::bF w
def Ax (ws:List (List Pt)) (gs rs:List (Bs×List Pt)):Bs:=Lib.trimSuffix (eH rs++jY gs++Lib.trimPrefix (fC ws) [32]) [32]
def qY (b:Bs) (rs:List (Bs×List Pt)):Bs:=Lib.trimSuffix (b++32::eH rs) [32]
def prQ (g:Bs×List Pt):Bs×List Dt:=(g.1,aY g.2)
def eV (xs:List Ny):List Dt:=xs.flatMap Ny.row
def iY (P:Ny→Bs→Prop):List Ny→List Bs→Prop
 | [],[]=>True
 | x::xs,S::Ss=>P x S∧iY P xs Ss
 | _,_=>False
def oM:List Bs→Bs
 | c::b::l=>c++[59,32,116,104,101,110,32]++b++[59,32]++(match l with
  | []=>[]
  | [x]=>[101,108,115,101,32]++x++[59,32]
  | l=>[101,108,105,102,32]++oM l)
 | _=>[]
structure zW where
 ps:List (List Pt)
 ks:List Ny
 os:List Bs
def arQ (a:zW):List (List Dt)×List Dt:=(a.ps.map aY,eV a.ks)
def sE (a:zW):Bs:=[40,32]++Lib.join (a.ps.map bF) [32,124,32]++[32,41,32]++Lib.join a.os [59,32]++[32,59,59,32]
def oG (w:List Pt) (ar:List zW):Bs:=[99,97,115,101]++fC [w]++[32,105,110,32]++ar.flatMap sE++[101,115,97,99]
inductive f7:Nat→Bool→Bs→List (List Pt)→List Bs→Bs→Prop
 | pipe (nt:Bool) (o:Bs) (l:List Bs):f7 2 nt [] [] (o::l) ((if nt then [33,32] else [])++Lib.join (o::l) [32,124,32])
 | and (a b:Bs):f7 3 false [] [] [a,b] (Lib.join [a,b] [32,38,38,32])
 | or (a b:Bs):f7 4 false [] [] [a,b] (Lib.join [a,b] [32,124,124,32])
 | seq (o:Bs) (l:List Bs):f7 5 false [] [] (o::l) (Lib.join (o::l) [59,32])
 | choice (a b:Bs) (l:List Bs):f7 6 false [] [] (a::b::l) ([105,102,32]++oM (a::b::l)++[102,105])
 | lpA (a b:Bs):f7 7 false [] [] [a,b] ([119,104,105,108,101,32]++a++[59,32,100,111,32]++b++[59,32,100,111,110,101])
 | lpB (a b:Bs):f7 8 false [] [] [a,b] ([117,110,116,105,108,32]++a++[59,32,100,111,32]++b++[59,32,100,111,110,101])
 | each (nm:Bs) (ws:List (List Pt)) (a:Bs):f7 9 false nm ws [a] ([102,111,114,32]++nm++[32,105,110]++fC ws++[59,32,100,111,32]++a++[59,32,100,111,110,101])
 | func (nm:Bs) (a:Bs):f7 11 false nm [] [a] (nm++[32,40,32,41,32]++a)
 | group (a:Bs):f7 12 false [] [] [a] ([123,32]++a++[59,32,125])
 | shell (a:Bs):f7 13 false [] [] [a] ([40,32]++a++[32,41])
def iZ (w:List Pt):Prop:=(∃stop d,gD stop false d w)∧(bF w).length≤20000
def Mx (w:List Pt):Prop:=(∃stop d,gD stop false d w)∧(aL false w).length≤20000
structure lU (P:Ny→Bs→Prop):Prop where
 simple:∀ws gs rs,(∀w∈ws,iZ w)→(∀g∈gs,Mx g.2)→(∀g∈rs,iZ g.2)→(eH rs).length+(jY gs).length+(fC ws).length≤60000→P ⟨1,false,[],ws.map aY,gs.map prQ,rs.map prQ,[],[]⟩ (Ax ws gs rs)
 kids:∀{kind nt nm ws ks outs b} rs,f7 kind nt nm ws outs b→(∀w∈ws,iZ w)→(∀g∈rs,iZ g.2)→iY P ks outs→b.length+(eH rs).length≤60000→P ⟨(kind:Nat),nt,nm,ws.map aY,[],rs.map prQ,eV ks,[]⟩ (qY b rs)
 case:∀w ar rs,iZ w→(∀g∈rs,iZ g.2)→(∀a∈ar,iY P a.ks a.os∧∀v∈a.ps,iZ v)→(oG w ar).length+(eH rs).length≤60000→P ⟨10,false,[],[aY w],[],rs.map prQ,[],ar.map arQ⟩ (qY (oG w ar) rs)
/-! Texts. -/
theorem Am (X:Bs):Lib.trimSuffix (X++[32]) [32]=X:=by
 unfold Lib.trimSuffix Lib.hasSuffix;rw [if_pos (by simp),lA,List.length_singleton,Nat.add_sub_cancel,List.take_left]
theorem On {X:Bs} {c:UInt8} (h:X.getLast? = some c) (hc:c≠32):Lib.trimSuffix X [32]=X:=by
 unfold Lib.trimSuffix Lib.hasSuffix;rw [if_neg];intro h2;have h3:=List.isSuffixOf_iff_suffix.1 h2;obtain⟨u,hu⟩:=h3;rw [←hu,List.getLast?_concat] at h;exact hc (Option.some.inj h).symm
theorem k9 (b:Bs):qY b []=b:=Am b
theorem wL (sep x:Bs):∀l:List Bs,Lib.join (x::l) sep=x++l.flatMap (sep++·)
 | []=>by unfold Lib.join;simp [List.intercalate]
 | y::l=>by
  have h:=wL sep y l;unfold Lib.join at h ⊢;rw [List.flatMap_cons,aA,←h];simp [List.intercalate,List.intersperse]
def Ae:List (Bs×List Pt)→Bs
 | []=>[]
 | [g]=>g.1++32::bF g.2
 | g::l=>g.1++32::(bF g.2++32::Ae l)
theorem mB (g:Bs×List Pt) (l:List (Bs×List Pt)):eH (g::l)=g.1++32::(bF g.2++32::eH l):=by
 unfold eH;rw [List.flatMap_cons];simp
theorem Ex:∀{rs:List (Bs×List Pt)},rs≠[]→eH rs=Ae rs++[32]
 | [],h=>absurd rfl h
 | [g],_=>by rw [mB];unfold Ae;simp [eH]
 | g::y::l,_=>by rw [mB,Ex (rs:=y::l) (by simp)];simp [Ae]
theorem Lj (b:Bs) {rs:List (Bs×List Pt)} (h:rs≠[]):qY b rs=b++32::Ae rs:=by
 unfold qY;rw [Ex h,show b++32::(Ae rs++[32])=(b++32::Ae rs)++[32] by simp,Am]
def gU (rs:List (Bs×List Pt)):List Tk:=rs.flatMap fun g=>[rOp g.1,rWd g.2]
theorem pE (g:Bs×List Pt) (l:List (Bs×List Pt)):gU (g::l)=rOp g.1::rWd g.2::gU l:=by unfold gU;rw [List.flatMap_cons];rfl
/-! Tokens that were read. -/
def TG (ts:List Tk):Prop:=∀t∈ts,t.kind=1→t.text=[]∧pO false t.word∧wdL t.word≤1900
def tkW (t:Tk):Nat:=20+10*wdL t.word
def WT:List Tk→Nat
 | []=>0
 | t::ts=>tkW t+WT ts
theorem TG.tail {ts:List Tk} (h:TG ts):TG ts.tail:=fun t ht=>h t (List.mem_of_mem_tail ht)
theorem zQ (ts:List Tk):WT ts.tail≤WT ts:=by
 cases ts with
 | nil=>exact Nat.le_refl _
 | cons t r=>show WT r≤tkW t+WT r;omega
theorem cP {ts:List Tk} (h:1≤ts.length):WT ts.tail+20≤WT ts:=by
 cases ts with
 | nil=>simp at h
 | cons t r=>show WT r+20≤tkW t+WT r;unfold tkW;omega
theorem TG.lines {ts:List Tk} (h:TG ts):TG (aF ts):=by
 induction ts with
 | nil=>exact h
 | cons t r ih=>
  unfold aF;split
  ·exact ih h.tail
  ·exact h
theorem eR (ts:List Tk):WT (aF ts)≤WT ts:=by
 induction ts with
 | nil=>exact Nat.le_refl _
 | cons t r ih=>
  unfold aF;split
  ·show _≤tkW t+WT r;omega
  ·exact Nat.le_refl _
theorem TG.ends {ts:List Tk} (h:TG ts):TG (dW ts).2:=by
 unfold dW;split
 ·exact h.tail.lines
 ·exact h
theorem Oi (ts:List Tk):WT (dW ts).2≤WT ts:=by
 unfold dW;split
 ·exact Nat.le_trans (eR _) (zQ _)
 ·exact Nat.le_refl _
theorem Mk {ts:List Tk} (h:(dW ts).1=true):WT (dW ts).2+20≤WT ts:=by
 unfold dW at h ⊢;split
 ·next hq=>
  have h1:1≤ts.length:=by
   rw [Bool.or_eq_true] at hq;rcases hq with hq | hq<;>exact dO hq
  have:=eR ts.tail;have:=cP h1;show WT (aF ts.tail)+20≤_;omega
 ·next hq=>rw [if_neg hq] at h;cases h
theorem TG.at {ts:List Tk} (h:TG ts) (hk:((atF ts).kind==1)=true):atF ts=rWd (atF ts).word∧pO false (atF ts).word∧wdL (atF ts).word≤1900:=by
 cases ts with
 | nil=>cases hk
 | cons t r=>
  obtain⟨h1,h2⟩:=h t (List.mem_cons_self ..) (beq_iff_eq.1 hk);have h3:t.kind=1:=beq_iff_eq.1 hk;refine⟨?_,h2⟩;show t=⟨1,[],t.word⟩;cases t;dsimp only at h1 h3;rw [h1,h3]
structure iC (scr:Bs→Except Nat Unit) (w:List Pt):Prop where
 g:pO false w
 ne:w≠[]
 sub:gI scr w=.ok ()
 sm:wdL w≤1900
theorem iC.wrd {scr:Bs→Except Nat Unit} {w:List Pt} (h:iC scr w):iZ w:=⟨⟨_,_,h.g.ok⟩,by have:=yQ w;have:=h.sm;omega⟩
section
variable {scr:Bs→Except Nat Unit}
theorem p6 {ts:List Tk} {w:List Pt} {r:List Tk} (ht:TG ts) (h:eC scr ts=.ok (w,r)):iC scr w∧TG r∧(bF w).length+18+WT r≤WT ts∧r=ts.tail∧atF ts=rWd w:=by
 unfold eC at h;split at h
 ·next hq=>
  rw [Bool.and_eq_true] at hq;split at h
  ·cases h
  ·next u hs=>
   cases h;obtain⟨h1,h2,h2s⟩:=ht.at hq.1;have hw:(atF ts).word≠[]:=by
    intro h0;rw [h0] at hq;exact absurd hq.2 (by decide)
   refine⟨⟨h2,hw,hs,h2s⟩,ht.tail,?_,rfl,h1⟩;cases ts with
   | nil=>exact absurd hq.1 (by decide)
   | cons t r=>
    have:=yQ t.word;show (bF t.word).length+18+WT r≤tkW t+WT r;unfold tkW;omega
 ·cases h
theorem gK {w:List Pt} (h:iC scr w) (R:List Tk):eC scr (rWd w::R)=.ok (w,R):=by
 unfold eC;have h1:(atF (rWd w::R)).word=w:=rfl;rw [h1,if_pos,h.sub]
 ·rfl
 ·rw [Bool.and_eq_true];refine⟨rfl,?_⟩;cases w with
  | nil=>exact absurd rfl h.ne
  | cons a b=>rfl
/-! Redirections. -/
structure zV (scr:Bs→Except Nat Unit) (g:Bs×List Pt):Prop where
 op:g.1∈jH
 w:iC scr g.2
theorem Ab {scr:Bs→Except Nat Unit} {g:Bs×List Pt} (h:zV scr g):Tok (g.1++32::bF g.2) [rOp g.1,rWd g.2]:=by
 have ho:Tok g.1 [rOp g.1]:=jF (by
  have:=h.op;simp only [jH,List.mem_cons,List.not_mem_nil,or_false] at this ⊢;rcases this with e | e | e | e | e<;>rw [e]<;>simp)
 exact ho.blank (l9 h.w.g h.w.ne)
theorem Ct:∀{rs:List (Bs×List Pt)},rs≠[]→(∀g∈rs,zV scr g)→Tok (Ae rs) (gU rs)
 | [],h,_=>absurd rfl h
 | [g],_,h=>Ab (h g (List.mem_cons_self ..))
 | g::y::l,_,h=>by
  have h1:=(Ab (h g (List.mem_cons_self ..))).blank (Ct (rs:=y::l) (by simp) fun x hx=>h x (List.mem_cons_of_mem _ hx));rw [pE];unfold Ae;simpa using h1
theorem K6 {b:Bs} {t:List Tk} (h:Tok b t) {rs:List (Bs×List Pt)} (hr:∀g∈rs,zV scr g):Tok (qY b rs) (t++gU rs):=by
 by_cases h0:rs=[]
 ·subst h0;rw [k9,show gU []=[] from rfl,List.append_nil];exact h
 ·rw [Lj b h0];exact h.blank (Ct h0 hr)
theorem Li (b:Bs) (rs:List (Bs×List Pt)):(qY b rs).length≤b.length+(eH rs).length:=by
 by_cases h0:rs=[]
 ·subst h0;rw [k9];omega
 ·rw [Lj b h0,Ex h0];simp only [lA,lC,lN];omega
theorem Gs:∀o∈jH,o.length≤3:=by decide
theorem Bh:∀(n:Nat) (acc:List Dt) (ts:List Tk) (d:List Dt) (r:List Tk),TG ts→cN scr n acc ts=.ok (d,r)→∃rs:List (Bs×List Pt),d=acc++(rs.map prQ).flatMap prD∧(∀g∈rs,zV scr g)∧TG r∧(eH rs).length+WT r≤WT ts∧bX r=false
 | 0,acc,ts,d,r,ht,h=>by cases h
 | n+1,acc,ts,d,r,ht,h=>by
  unfold cN at h;split at h
  ·next hb=>
   split at h
   ·cases h
   ·next d1 r1 h1=>
    unfold gZ at h1;split at h1
    ·cases h1
    ·next w r2 hw=>
     injection h1 with h1;injection h1 with h2 h3;subst h2 h3;obtain⟨g1,g2,g3,g4,g5⟩:=p6 ht.tail hw;obtain⟨rs,e,hr,hr2,hl,hb2⟩:=Bh n _ _ _ _ g2 h;have hop:(atF ts).text∈jH:=by
      unfold bX at hb;rw [Bool.and_eq_true] at hb;exact List.contains_iff_mem.1 hb.2
     refine⟨((atF ts).text,w)::rs,?_,fun g hg=>?_,hr2,?_,hb2⟩
     ·rw [e,aA];rfl
     ·rcases List.mem_cons.1 hg with rfl | hg
      ·exact⟨hop,g1⟩
      ·exact hr g hg
     ·rw [mB];have h5:=Gs _ hop;have h6:=cP (sB hb);simp only [lA,lC];omega
  ·next hb=>
   injection h with h;injection h with h1 h2;subst h1 h2;exact⟨[],by simp,(fun g hg=>by cases hg),ht,by show 0+_≤_;omega,by simpa using hb⟩
theorem qZ:∀(rs:List (Bs×List Pt)) (n:Nat) (acc:List Dt) (R:List Tk),(∀g∈rs,zV scr g)→bX R=false→(gU rs++R).length<n→cN scr n acc (gU rs++R)=.ok (acc++(rs.map prQ).flatMap prD,R)
 | [],0,acc,R,_,_,h=>absurd h (Nat.not_lt_zero _)
 | [],n+1,acc,R,_,hR,_=>by
  show cN scr (n+1) acc R=_;unfold cN;rw [hR,if_neg (by simp)];simp
 | g::l,0,acc,R,_,_,h=>absurd h (Nat.not_lt_zero _)
 | g::l,n+1,acc,R,hg,hR,h=>by
  rw [pE] at h ⊢;have hg1:=hg g (List.mem_cons_self ..);unfold cN;rw [if_pos (show bX (rOp g.1::rWd g.2::gU l++R)=true from (by
   show ((2:Nat)==2 && jH.contains g.1)=true;rw [List.contains_iff_mem.2 hg1.op];rfl))]
  unfold gZ;rw [show (rOp g.1::rWd g.2::gU l++R).tail=rWd g.2::(gU l++R) from rfl,gK hg1.w];dsimp only;rw [qZ l n _ R (fun x hx=>hg x (List.mem_cons_of_mem _ hx)) hR (by simp only [List.cons_append,lC] at h;omega)];rw [aA];rfl
/-! Simple commands. -/
structure uP (scr:Bs→Except Nat Unit) (w:List Pt) (g:Bs×List Pt):Prop where
 gd:iC scr w
 e:c8 w=some g
theorem Hm:∀{s:Bs},dK s=s.length→∀c∈s,(aZ c || bD c)=true:=by
 have key:∀s:Bs,bH s=s.length→∀c∈s,(aZ c || bD c)=true:=fun s=>by
  induction s with
  | nil=>intro _ c hc;cases hc
  | cons x t ih=>
   intro h c hc;unfold bH at h;split at h
   ·next hx=>
    rcases List.mem_cons.1 hc with rfl | hc
    ·exact hx
    ·exact ih (by rw [lC] at h;omega) c hc
   ·rw [lC] at h;omega
 intro s h;cases s with
 | nil=>intro c hc;cases hc
 | cons x t=>
  rw [show dK (x::t)=if aZ x then bH t+1 else 0 from rfl,lC] at h;split at h
  ·next hx=>
   intro c hc;rcases List.mem_cons.1 hc with rfl | hc
   ·rw [hx];rfl
   ·exact key t (by omega) c hc
  ·omega
theorem kT {nm:Bs} (h:bO nm=true):nm≠[]∧∀c∈nm,(aZ c || bD c)=true:=by
 unfold bO at h;rw [Bool.and_eq_true,Bool.and_eq_true] at h;refine⟨fun h0=>?_,Hm (beq_iff_eq.1 h.2)⟩;rw [h0] at h;exact absurd h.1.1 (by decide)
theorem zE {k:UInt8} (hk:(aZ k || bD k)=false) {c:UInt8} (h:(aZ c || bD c)=true):(c==k)=false:=by
 rw [beq_eq_false_iff_ne];rintro rfl;rw [hk] at h;cases h
theorem rP {w:List Pt} {g:Bs×List Pt} (h:uP scr w g):bF w=g.1++61::aL false g.2∧bO g.1=true∧(∃p l,w=p::l∧p.kind=1∧j8 p.text≠none)∧∃stop d,gD stop false d g.2:=by
 have he:=h.e;have hg:=h.gd.g;cases w with
 | nil=>cases he
 | cons p l=>
  rw [show c8 (p::l)=if p.kind==1 then (match j8 p.text with
   | none=>none
   | some (nm,rest)=>if bO nm then some (nm,if rest.isEmpty then l else eG rest::l) else none) else none from rfl] at he
  split at he
  ·next hk=>
   split at he
   ·cases he
   ·next nm rest hc=>
    split at he
    ·next hn=>
     obtain rfl:=Option.some.inj he;obtain⟨k,t,n,o,v,pq⟩:=p;have hk1:k=1:=beq_iff_eq.1 hk;subst hk1;have hc':j8 t=some (nm,rest):=hc;have ht:=pF hc';obtain⟨hn0,hnb⟩:=kT hn;have h36:∀c∈nm++[61],(c==36)=false:=fun c hc=>by
      rcases List.mem_append.1 hc with hc | hc
      ·exact zE (by decide) (hnb c hc)
      ·rw [List.mem_singleton.1 hc];rfl
     refine⟨?_,hn,⟨_,_,rfl,rfl,fun h0=>by rw [show (Pt.mk 1 t n o v pq).text=t from rfl,hc'] at h0;cases h0⟩,wS false,0,?_⟩;have h35:aI [35] t=false:=by
      rw [ht];cases nm with
      | nil=>exact absurd rfl hn0
      | cons a b=>
       have h9:=zE (k:=35) (by decide) (hnb a (List.mem_cons_self ..));have:aI [35] (a::b++61::rest)=((35:UInt8)==a && true):=by cases b<;>rfl
       rw [this,Bool.and_true,Bool.beq_comm];exact h9
     ·unfold bF nI;dsimp only;rw [if_neg (by show ¬((1:Nat)==1 && aI [35] t)=true;rw [h35];simp),List.nil_append,bZ,g8,ht,show nm++61::rest=(nm++[61])++rest by simp,vA _ h36];show nm++[61]++bW rest++aL false l=nm++61::aL false (if rest.isEmpty then l else eG rest::l);split
      ·next hr=>
       rw [List.isEmpty_iff.1 hr];simp [bW]
      ·rw [bZ];show _=nm++61::(dC false (.mk 1 rest [] [] [] false)++_);rw [g8];simp
     ·have hok:=hg.ok;unfold gD OkP at hok;split
      ·exact hok.2
      ·next hr=>
       unfold gD;refine⟨?_,hok.2⟩;rcases hok.1.2.2 with ⟨_,_,_,hcs,_⟩ | ⟨h6,_⟩ | ⟨h6,_⟩ | ⟨h6,_⟩ | ⟨h6,_⟩
       ·unfold eG OkP;exact⟨fun c hc=>hok.1.1 c (by rw [ht];simp [hc]),NZ.nil,.inl ⟨rfl,rfl,fun h0=>hr (by rw [h0];rfl),fun c hc=>hcs c (by rw [ht];simp [hc]),rfl,rfl,rfl,rfl⟩⟩
       all_goals cases h6
    ·cases he
  ·cases he
def j6 (aw:List (List Pt×(Bs×List Pt))):List Tk:=aw.map fun g=>rWd g.1
def rJ (aw:List (List Pt×(Bs×List Pt))):List (Bs×List Pt):=aw.map (·.2)
theorem uP.wrd {w:List Pt} {g:Bs×List Pt} (h:uP scr w g):Mx g.2:=by
 obtain⟨h1,_,_,h2⟩:=rP h;refine⟨h2,?_⟩;have h3:=h.gd.wrd.2;rw [h1] at h3;simp only [lA,lC] at h3;omega
theorem xW (g:Bs×List Pt) (l:List (Bs×List Pt)):jY (g::l)=g.1++61::(aL false g.2++32::jY l):=by
 unfold jY;rw [List.flatMap_cons];simp
theorem kK (w:List Pt) (l:List (List Pt)):fC (w::l)=32::(bF w++fC l):=by
 unfold fC;rw [List.flatMap_cons];rfl
structure SimG (scr:Bs→Except Nat Unit) (fresh:Bool) (ts:List Tk) (ws:List (List Pt)) (aw:List (List Pt×(Bs×List Pt))) (rs:List (Bs×List Pt)):Prop where
 w:∀w∈ws,iC scr w
 a:∀g∈aw,uP scr g.1 g.2
 r:∀g∈rs,zV scr g
 first:fresh=true→∀w l,ws=w::l→c8 w=none
 none:fresh=false→aw=[]
 head:rs=[]→aw=[]→(ws=[]∧bX ts=false∧((atF ts).kind==1)=false)∨∃w l,ws=w::l∧atF ts=rWd w
theorem rH:∀(n:Nat) (W0 G0 R0:List Dt) (ts:List Tk) (d:List Dt) (r:List Tk),TG ts→bL scr n W0 G0 R0 ts=.ok (d,r)→∃ws aw rs,d=ndR 1 false [] (W0++(ws.map aY).flatMap wdD) (G0++((rJ aw).map prQ).flatMap prD) (R0++(rs.map prQ).flatMap prD) [] []∧SimG scr W0.isEmpty ts ws aw rs∧TG r∧(eH rs).length+(jY (rJ aw)).length+(fC ws).length+WT r≤WT ts
 | 0,W0,G0,R0,ts,d,r,ht,h=>by cases h
 | n+1,W0,G0,R0,ts,d,r,ht,h=>by
  unfold bL at h;split at h
  ·next hb=>
   split at h
   ·cases h
   ·next d1 r1 h1=>
    unfold gZ at h1;split at h1
    ·cases h1
    ·next w r2 hw=>
     injection h1 with h1;injection h1 with h2 h3;subst h2 h3;obtain⟨g1,g2,g3,g4,g5⟩:=p6 ht.tail hw;obtain⟨ws,aw,rs,e,hs,hr2,hl⟩:=rH n _ _ _ _ _ _ g2 h;have hop:(atF ts).text∈jH:=by
      unfold bX at hb;rw [Bool.and_eq_true] at hb;exact List.contains_iff_mem.1 hb.2
     refine⟨ws,aw,((atF ts).text,w)::rs,?_,⟨hs.w,hs.a,fun g hg=>?_,hs.first,hs.none,fun h=>by cases h⟩,hr2,?_⟩
     ·rw [e,aA];rfl
     ·rcases List.mem_cons.1 hg with rfl | hg
      ·exact⟨hop,g1⟩
      ·exact hs.r g hg
     ·rw [mB];have h5:=Gs _ hop;have h6:=cP (sB hb);simp only [lA,lC];omega
  ·next hb=>
   split at h
   ·next hk=>
    split at h
    ·cases h
    ·next w r1 hw=>
     obtain⟨g1,g2,g3,g4,g5⟩:=p6 ht hw;split at h
     ·next nm v ha=>
      have hf:W0.isEmpty=true:=by
       by_cases hf:W0.isEmpty=true
       ·exact hf
       ·rw [if_neg hf] at ha;cases ha
      rw [if_pos hf] at ha;obtain⟨ws,aw,rs,e,hs,hr2,hl⟩:=rH n _ _ _ _ _ _ g2 h;have hA:uP scr w (nm,v):=⟨g1,ha⟩;refine⟨ws,(w,(nm,v))::aw,rs,?_,⟨hs.w,fun g hg=>?_,hs.r,hs.first,(fun hff=>by rw [hf] at hff;cases hff),fun _ h=>by cases h⟩,hr2,?_⟩
      ·rw [e,aA];rfl
      ·rcases List.mem_cons.1 hg with rfl | hg
       ·exact hA
       ·exact hs.a g hg
      ·have h5:=congrArg List.length (rP hA).1;rw [show rJ ((w,(nm,v))::aw)=(nm,v)::rJ aw from rfl,xW];simp only [lA,lC] at h5 ⊢;omega
     ·next ha=>
      obtain⟨ws,aw,rs,e,hs,hr2,hl⟩:=rH n _ _ _ _ _ _ g2 h;have haw:aw=[]:=hs.none (by cases W0<;>rfl);refine⟨w::ws,aw,rs,?_,⟨fun x hx=>?_,hs.a,hs.r,fun hf x l hx=>?_,fun _=>haw,fun _ _=>.inr ⟨w,ws,rfl,g5⟩⟩,hr2,?_⟩
      ·rw [e,aA];rfl
      ·rcases List.mem_cons.1 hx with rfl | hx
       ·exact g1
       ·exact hs.w x hx
      ·obtain⟨rfl,rfl⟩:=List.cons.inj hx;rw [if_pos hf] at ha;exact ha
      ·rw [kK];simp only [lA,lC];omega
   ·next hk=>
    injection h with h;injection h with h1 h2;subst h1 h2;exact⟨[],[],[],by simp [rJ],⟨(fun w hw=>by cases hw),(fun g hg=>by cases hg),(fun g hg=>by cases hg),(fun _ w l h=>by cases h),fun _=>rfl,fun _ _=>.inl ⟨rfl,by simpa using hb,by simpa using hk⟩⟩,ht,by show 0+0+0+_≤_;omega⟩
def Os (R:List Tk):Prop:=bX R=false∧((atF R).kind==1)=false
theorem B6:∀(ws:List (List Pt)) (n:Nat) (W0 G0 R0:List Dt) (R:List Tk),(∀w∈ws,iC scr w)→(W0.isEmpty=true→∀w l,ws=w::l→c8 w=none)→Os R→(ws.map rWd++R).length<n→bL scr n W0 G0 R0 (ws.map rWd++R)=.ok (ndR 1 false [] (W0++(ws.map aY).flatMap wdD) G0 R0 [] [],R)
 | _,0,_,_,_,_,_,_,_,h=>absurd h (Nat.not_lt_zero _)
 | [],n+1,W0,G0,R0,R,_,_,hR,_=>by
  show bL scr (n+1) W0 G0 R0 R=_;unfold bL;rw [hR.1,if_neg (by simp),hR.2,if_neg (by simp)];simp
 | w::l,n+1,W0,G0,R0,R,hw,hf,hR,h=>by
  rw [List.map_cons,List.cons_append];unfold bL;rw [if_neg (show ¬bX (rWd w::(l.map rWd++R))=true from by show ¬((1:Nat)==2 && _)=true;simp),if_pos (show ((atF (rWd w::(l.map rWd++R))).kind==1)=true from rfl),gK (hw w (List.mem_cons_self ..))];dsimp only;have hn:(if W0.isEmpty then c8 w else none)=none:=by
   split
   ·next h0=>exact hf h0 w l rfl
   ·rfl
  rw [hn];dsimp only;rw [B6 l n _ _ _ R (fun x hx=>hw x (List.mem_cons_of_mem _ hx)) (fun h0=>by cases W0<;>cases h0) hR (by rw [List.map_cons,List.cons_append,lC] at h;omega),aA];rfl
theorem Cf:∀(aw:List (List Pt×(Bs×List Pt))) (ws:List (List Pt)) (n:Nat) (G0 R0:List Dt) (R:List Tk),(∀g∈aw,uP scr g.1 g.2)→(∀w∈ws,iC scr w)→(∀w l,ws=w::l→c8 w=none)→Os R→(j6 aw++(ws.map rWd++R)).length<n→bL scr n [] G0 R0 (j6 aw++(ws.map rWd++R))=.ok (ndR 1 false [] ((ws.map aY).flatMap wdD) (G0++((rJ aw).map prQ).flatMap prD) R0 [] [],R)
 | [],ws,n,G0,R0,R,_,hw,hf,hR,h=>by
  have h1:=B6 ws n [] G0 R0 R hw (fun _=>hf) hR h;rw [List.nil_append] at h1;show bL scr n [] G0 R0 (ws.map rWd++R)=_;rw [h1];simp [rJ]
 | g::l,ws,0,G0,R0,R,_,_,_,_,h=>absurd h (Nat.not_lt_zero _)
 | g::l,ws,n+1,G0,R0,R,ha,hw,hf,hR,h=>by
  have hg:=ha g (List.mem_cons_self ..);show bL scr (n+1) [] G0 R0 (rWd g.1::(j6 l++(ws.map rWd++R)))=_;unfold bL;rw [if_neg (show ¬bX (rWd g.1::(j6 l++(ws.map rWd++R)))=true from by show ¬((1:Nat)==2 && _)=true;simp),if_pos (show ((atF (rWd g.1::(j6 l++(ws.map rWd++R)))).kind==1)=true from rfl),gK hg.gd];dsimp only;rw [if_pos (show ([]:List Dt).isEmpty=true from rfl),hg.e]
  dsimp only;rw [Cf l ws n _ _ R (fun x hx=>ha x (List.mem_cons_of_mem _ hx)) hw hf hR (by have h9:(rWd g.1::(j6 l++(ws.map rWd++R))).length<n+1:=h;rw [lC] at h9;omega),aA];rfl
theorem qH:∀(rs:List (Bs×List Pt)) (aw:List (List Pt×(Bs×List Pt))) (ws:List (List Pt)) (n:Nat) (R0:List Dt) (R:List Tk),(∀g∈rs,zV scr g)→(∀g∈aw,uP scr g.1 g.2)→(∀w∈ws,iC scr w)→(∀w l,ws=w::l→c8 w=none)→Os R→(gU rs++(j6 aw++(ws.map rWd++R))).length<n→bL scr n [] [] R0 (gU rs++(j6 aw++(ws.map rWd++R)))=.ok (ndR 1 false [] ((ws.map aY).flatMap wdD) (((rJ aw).map prQ).flatMap prD) (R0++(rs.map prQ).flatMap prD) [] [],R)
 | [],aw,ws,n,R0,R,_,ha,hw,hf,hR,h=>by
  have h1:=Cf aw ws n [] R0 R ha hw hf hR h;show bL scr n [] [] R0 (j6 aw++(ws.map rWd++R))=_;rw [h1];simp
 | g::l,aw,ws,0,R0,R,_,_,_,_,_,h=>absurd h (Nat.not_lt_zero _)
 | g::l,aw,ws,n+1,R0,R,hr,ha,hw,hf,hR,h=>by
  have hg1:=hr g (List.mem_cons_self ..);rw [pE] at h ⊢;simp only [List.cons_append] at h ⊢;unfold bL;rw [if_pos (show bX (rOp g.1::rWd g.2::(gU l++(j6 aw++(ws.map rWd++R))))=true from (by
   show ((2:Nat)==2 && jH.contains g.1)=true;rw [List.contains_iff_mem.2 hg1.op];rfl))]
  unfold gZ;rw [show (rOp g.1::rWd g.2::(gU l++(j6 aw++(ws.map rWd++R)))).tail=rWd g.2::(gU l++(j6 aw++(ws.map rWd++R))) from rfl,gK hg1.w];dsimp only;rw [qH l aw ws n _ R (fun x hx=>hr x (List.mem_cons_of_mem _ hx)) ha hw hf hR (by simp only [lC] at h;omega),aA];rfl
/-! A simple command's text. -/
def iU:List Bs→Bs
 | []=>[]
 | [x]=>x
 | x::y::l=>x++32::iU (y::l)
def mD (A:List Bs):Bs:=A.flatMap fun x=>x++[32]
theorem rY:∀(A B:List Bs),B≠[]→mD A++iU B=iU (A++B)
 | [],B,_=>rfl
 | x::A,B,h=>by
  have ih:=rY A B h;have hne:A++B≠[]:=by simp [h]
  unfold mD at ih ⊢;rw [List.flatMap_cons,aA,aA,ih,List.cons_append];cases hq:A++B with
  | nil=>exact absurd hq hne
  | cons y l=>
   show _=iU (x::(A++B));rw [hq];simp [iU]
theorem uW:∀{A:List Bs},A≠[]→mD A=iU A++[32]
 | [],h=>absurd rfl h
 | [x],_=>by simp [mD,iU]
 | x::y::l,_=>by
  have ih:=uW (A:=y::l) (by simp);unfold mD at ih ⊢;rw [List.flatMap_cons,ih];simp [iU]
theorem yV:∀{B:List Bs},B≠[]→(∀x∈B,∃c,x.getLast? = some c∧c≠32)→∃c,(iU B).getLast? = some c∧c≠32
 | [],h,_=>absurd rfl h
 | [x],_,h=>h x (List.mem_cons_self ..)
 | x::y::l,_,h=>by
  obtain⟨c,h1,h2⟩:=yV (B:=y::l) (by simp) fun z hz=>h z (List.mem_cons_of_mem _ hz);refine⟨c,?_,h2⟩;unfold iU;rw [show x++32::iU (y::l)=(x++[32])++iU (y::l) by simp,mE ?_]
  ·exact h1
  ·intro e;rw [e] at h1;cases h1
def lW:List Bs→List (List Tk)→Prop
 | [],[]=>True
 | S::Ss,t::ts=>Tok S t∧lW Ss ts
 | _,_=>False
theorem zI:∀{l:List Bs} {ts:List (List Tk)},l≠[]→lW l ts→Tok (iU l) ts.flatten
 | [],_,h,_=>absurd rfl h
 | [x],[t],_,h=>by simpa [iU] using h.1
 | x::y::l,t::ts,_,h=>by
  have h2:=zI (l:=y::l) (ts:=ts) (by simp) h.2;rw [List.flatten_cons];exact h.1.blank h2
theorem lW.app:∀{a b:List Bs} {x y:List (List Tk)},lW a x→lW b y→lW (a++b) (x++y)
 | [],_,[],_,_,h=>h
 | _::_,_,_::_,_,h,g=>⟨h.1,lW.app h.2 g⟩
def zU (rs:List (Bs×List Pt)):List Bs:=rs.map fun g=>g.1++32::bF g.2
theorem x9:∀rs:List (Bs×List Pt),mD (zU rs)=eH rs
 | []=>rfl
 | g::l=>by
  have ih:=x9 l;unfold mD zU at ih ⊢;rw [List.map_cons,List.flatMap_cons,ih,mB];simp
theorem Ce:∀{aw:List (List Pt×(Bs×List Pt))},(∀g∈aw,uP scr g.1 g.2)→mD (aw.map fun g=>bF g.1)=jY (rJ aw)
 | [],_=>rfl
 | g::l,h=>by
  have ih:=Ce (aw:=l) fun x hx=>h x (List.mem_cons_of_mem _ hx);unfold mD at ih ⊢;rw [List.map_cons,List.flatMap_cons,ih,(rP (h g (List.mem_cons_self ..))).1];show _=jY (g.2::rJ l);rw [xW];simp
theorem Jz:∀ws:List (List Pt),Lib.trimPrefix (fC ws) [32]=iU (ws.map bF):=by
 have key:∀(ws:List (List Pt)) (w:List Pt),bF w++fC ws=iU ((w::ws).map bF):=fun ws=>by
  induction ws with
  | nil=>intro w;simp [fC,iU]
  | cons y l ih=>
   intro w;rw [kK,ih y];rfl
 intro ws;cases ws with
 | nil=>rfl
 | cons w l=>
  rw [kK];unfold Lib.trimPrefix Lib.hasPrefix;rw [if_pos (by simp),←key l w];rfl
theorem Im {ws:List (List Pt)} {aw:List (List Pt×(Bs×List Pt))} {rs:List (Bs×List Pt)} (ha:∀g∈aw,uP scr g.1 g.2) (hw:∀w∈ws,iC scr w) (hne:rs≠[]∨aw≠[]∨ws≠[]) :
 Ax ws (rJ aw) rs=iU (zU rs++(aw.map (fun g=>bF g.1))++ws.map bF):=by
 unfold Ax;rw [←x9 rs,←Ce ha,Jz];have e:mD (zU rs)++mD (aw.map fun g=>bF g.1)=mD (zU rs++aw.map fun g=>bF g.1):=by unfold mD;rw [List.flatMap_append]
 rw [e];by_cases h0:ws=[]
 ·subst h0;have hA:zU rs++(aw.map fun g=>bF g.1)≠[]:=by
   unfold zU;rcases hne with h | h | h
   ·simp [h]
   ·simp [h]
   ·exact absurd rfl h
  rw [List.map_nil,List.append_nil,show iU []=[] from rfl,List.append_nil,uW hA,Am]
 ·have hB:ws.map bF≠[]:=by simpa using h0
  rw [rY _ _ hB];obtain⟨c,h1,h2⟩:=yV hB fun x hx=>by
   obtain⟨w,hw2,rfl⟩:=List.mem_map.1 hx;exact I4 (hw w hw2).g (hw w hw2).ne
  refine On (c:=c) ?_ h2;rw [←rY _ _ hB,mE ?_]
  ·exact h1
  ·intro e;rw [e] at h1;cases h1
theorem vE:∀{rs:List (Bs×List Pt)},(∀g∈rs,zV scr g)→lW (zU rs) (rs.map fun g=>[rOp g.1,rWd g.2])
 | [],_=>trivial
 | g::l,h=>⟨Ab (h g (List.mem_cons_self ..)),vE fun x hx=>h x (List.mem_cons_of_mem _ hx)⟩
theorem sF:∀{ws:List (List Pt)},(∀w∈ws,iC scr w)→lW (ws.map bF) (ws.map fun w=>[rWd w])
 | [],_=>trivial
 | w::l,h=>⟨l9 (h w (List.mem_cons_self ..)).g (h w (List.mem_cons_self ..)).ne,sF fun x hx=>h x (List.mem_cons_of_mem _ hx)⟩
theorem sL {α β:Type} (f:α→β):∀l:List α,(l.map fun x=>[f x]).flatten=l.map f
 | []=>rfl
 | x::l=>by rw [List.map_cons,List.flatten_cons,sL f l];rfl
theorem Lc {ws:List (List Pt)} {aw:List (List Pt×(Bs×List Pt))} {rs:List (Bs×List Pt)} (hr:∀g∈rs,zV scr g) (ha:∀g∈aw,uP scr g.1 g.2) (hw:∀w∈ws,iC scr w) (hne:rs≠[]∨aw≠[]∨ws≠[]) :
 Tok (Ax ws (rJ aw) rs) (gU rs++(j6 aw++ws.map rWd)):=by
 rw [Im ha hw hne];have h1:=vE hr;have h2:lW (aw.map fun g=>bF g.1) ((aw.map (·.1)).map fun w=>[rWd w]):=by
  have:=sF (ws:=aw.map (·.1)) fun w hw=>by
   obtain⟨g,hg,rfl⟩:=List.mem_map.1 hw;exact (ha g hg).gd
  rwa [List.map_map] at this
 have h3:=zI (by
  unfold zU;rcases hne with h | h | h<;>simp [h]) ((h1.app h2).app (sF hw))
 rw [List.flatten_append,List.flatten_append,sL,sL,List.map_map] at h3;have e:(rs.map fun g=>[rOp g.1,rWd g.2]).flatten=gU rs:=by unfold gU;rw [List.flatMap_def]
 rw [e,aA (gU rs)] at h3;exact h3
theorem He (X s:Bs):(Lib.trimSuffix X s).length≤X.length:=by
 unfold Lib.trimSuffix;split
 ·rw [List.length_take];omega
 ·exact Nat.le_refl _
theorem y9 (X s:Bs):(Lib.trimPrefix X s).length≤X.length:=by
 unfold Lib.trimPrefix;split
 ·rw [List.length_drop];omega
 ·exact Nat.le_refl _
theorem L6 (ws:List (List Pt)) (gs rs:List (Bs×List Pt)):(Ax ws gs rs).length≤(eH rs).length+(jY gs).length+(fC ws).length:=by
 have h1:=He (eH rs++jY gs++Lib.trimPrefix (fC ws) [32]) [32];have h2:=y9 (fC ws) [32];rw [lA,lA] at h1;unfold Ax;omega
end
/-! What may follow. -/
def Fol (l:List Bs) (R:List Tk):Prop:=R=[]∨∃s r,R=rOp s::r∧s∈l
def Bv:List Bs:=[[59],[124],[38,38],[124,124],[41],[59,59]]
def Hs:List Bs:=[[59],[38,38],[124,124],[41],[59,59]]
def Ds:List Bs:=[[59],[41],[59,59]]
def Nj:List Bs:=[[41],[59,59]]
theorem Fol.mono {l m:List Bs} {R:List Tk} (h:Fol l R) (hs:∀s∈l,s∈m):Fol m R:=by
 rcases h with rfl | ⟨s,r,rfl,hs'⟩
 ·exact .inl rfl
 ·exact .inr ⟨s,r,rfl,hs s hs'⟩
theorem Fol.op {l:List Bs} {s:Bs} (h:s∈l) (R:List Tk):Fol l (rOp s::R):=.inr ⟨s,R,rfl,h⟩
theorem pA {l:List Bs} {R:List Tk} (h:Fol l R) {s:Bs} (hs:s ∉ l):aG s R=false:=by
 rcases h with rfl | ⟨o,r,rfl,ho⟩
 ·rfl
 ·show ((2:Nat)==2 && o==s)=false;rw [show (o==s)=false from beq_eq_false_iff_ne.2 fun e=>hs (e ▸ ho)];rfl
theorem B9 {R:List Tk} (h:Fol Bv R):Os R:=by
 rcases h with rfl | ⟨o,r,rfl,ho⟩
 ·exact⟨rfl,rfl⟩
 ·refine⟨?_,rfl⟩;show ((2:Nat)==2 && jH.contains o)=false;have key:∀o∈Bv,jH.contains o=false:=by decide
  rw [key o ho];rfl
theorem pc:∀s∈Hs,s∈Bv:=by decide
theorem ap:∀s∈Ds,s∈Hs:=by decide
theorem ea:∀s∈Nj,s∈Ds:=by decide
/-! Heads. -/
theorem fP {a b:List Tk} (h:atF a=atF b):bA a=bA b∧d9 a=d9 b∧dA a=dA b∧bX a=bX b∧(∀s,aG s a=aG s b)∧∀s,aT s a=aT s b:=by
 unfold d9 bA dA bX aG aT;rw [h];exact⟨rfl,rfl,rfl,rfl,fun _=>rfl,fun _=>rfl⟩
theorem wO {t:List Tk} (h:t≠[]) (R:List Tk):atF (t++R)=atF t:=by
 cases t with
 | nil=>exact absurd rfl h
 | cons a b=>rfl
theorem Mi {t:List Tk} (h:d9 t=true):t≠[]:=by rintro rfl;cases h
theorem pV {t:List Tk} (h:bA t=true):t≠[]:=by rintro rfl;cases h
theorem lP {t:List Tk} (h:bA t=true):d9 t=true:=by unfold d9;rw [h];rfl
theorem mL {t:List Tk} (h:d9 t=true) (R:List Tk):d9 (t++R)=true:=by rw [(fP (wO (Mi h) R)).2.1];exact h
theorem mW {t:List Tk} (h:bA t=true) (R:List Tk):bA (t++R)=true:=by rw [(fP (wO (pV h) R)).1];exact h
theorem wY {t:List Tk} (h:d9 t=true):aF t=t:=by
 cases t with
 | nil=>rfl
 | cons a b=>
  unfold aF;split
  ·next hq=>
   rw [Bool.and_eq_true] at hq;exfalso;obtain⟨h1,h2⟩:=hq;have hk:a.kind=2:=beq_iff_eq.1 h1;have ht:a.text=[10]:=beq_iff_eq.1 h2;have:d9 (a::b)=false:=by
    have hp:aR a=[]:=fZ (by rw [hk];rfl);unfold d9 bA aG bX aT;show ((if a.kind==1 then _ else a.kind==2 && a.text==[40] || a.kind==2 && jH.contains a.text) || aR a==[33])=false;rw [hk,ht,hp];rfl
   rw [this] at h;cases h
  ·rfl
theorem i6 {t:List Tk} (h:d9 t=true) (R:List Tk):aF (t++R)=t++R:=wY (mL h R)
theorem vY {t:List Tk} (h:bA t=true):aT [33] t=false:=by
 unfold bA at h;unfold aT;rw [beq_eq_false_iff_ne];intro e;split at h
 ·rw [e] at h;exact absurd h (by decide)
 ·next hk=>
  rw [fZ (by simpa using hk)] at e;cases e
def pI (sep:Bs) (l:List Bs):Bs:=l.flatMap (sep++·)
theorem jW (sep:Bs):pI sep []=[]:=rfl
theorem fS (sep o:Bs) (l:List Bs):pI sep (o::l)=sep++(o++pI sep l):=by unfold pI;rw [List.flatMap_cons,aA]
theorem eW (sep x:Bs) (l:List Bs):Lib.join (x::l) sep=x++pI sep l:=wL sep x l
theorem cB (x:Ny) (l:List Ny):eV (x::l)=x.row++eV l:=by unfold eV;rw [List.flatMap_cons]
theorem eF (x:Ny):eV [x]=x.row:=by rw [cB];show x.row++[]=_;rw [List.append_nil]
theorem G2 (x:Ny):x.row.length=8:=rfl
theorem y8 (l:List Ny):(eV l).length=8*l.length:=by
 induction l with
 | nil=>rfl
 | cons x l ih=>rw [cB,lA,G2,ih,lC];omega
def kwT (s:Bs):Tk:=rWd [eG s]
def Qe (s:Bs):Bool:=!s.isEmpty && s.all (fun c=>txB c && !bJ c && c != 0 && !(c==36)) && !aI [35] s
theorem gS {s:Bs} (h:Qe s=true):Tok s [kwT s]:=by
 unfold Qe at h;rw [Bool.and_eq_true,Bool.and_eq_true] at h;refine Mu (fun h0=>by rw [h0] at h;exact absurd h.1.1 (by decide)) (fun c hc=>?_) (by simpa using h.2);have:=List.all_eq_true.1 h.1.2 c hc;simp only [Bool.and_eq_true,Bool.not_eq_true',bne_iff_ne] at this;exact⟨this.1.1.1,this.1.1.2,this.1.2,this.2⟩
variable {P:Ny→Bs→Prop}
def CG (P:Ny→Bs→Prop) (cmd:List Tk→PR (List Dt)) (ts:List Tk) (d:List Dt) (r:List Tk):Prop:=
 TG r∧∃x S t,d=Ny.row x∧P x S∧Tok S t∧S.length+WT r≤WT ts∧bA t=true∧(dA ts=true→dA t=true)∧∀R,Fol Bv R→cmd (t++R)=.ok (d,R)
def Ix (P:Ny→Bs→Prop) (cmd:List Tk→PR (List Dt)):Prop:=∀ts d r,TG ts→WT ts≤60000→cmd ts=.ok (d,r)→CG P cmd ts d r
def LvG (P:Ny→Bs→Prop) (f:List Tk→PR (List Dt)) (l:List Bs) (ts:List Tk) (d:List Dt) (r:List Tk):Prop:=
 TG r∧∃x S t,d=Ny.row x∧P x S∧Tok S t∧S.length+WT r≤WT ts∧d9 t=true∧∀R,Fol l R→f (t++R)=.ok (d,R)
section
variable {cmd:List Tk→PR (List Dt)} {scr:Bs→Except Nat Unit} (hc:Ix P cmd)
include hc
theorem Oy:∀(n:Nat) (acc:List Dt) (ts:List Tk) (d:List Dt) (r:List Tk),TG ts→WT ts≤60000→dE cmd n acc ts=.ok (d,r)→
 TG r∧∃xs outs tl,d=acc++eV xs∧iY P xs outs∧(∀S t,Tok S t→Tok (S++pI [32,124,32] outs) (t++tl))∧(pI [32,124,32] outs).length+WT r≤WT ts∧(xs=[]→tl=[])∧(∀R,Fol Hs R→Fol Bv (tl++R))∧∀m acc' R,Fol Hs R→(tl++R).length<m→dE cmd m acc' (tl++R)=.ok (acc'++eV xs,R)
 | 0,acc,ts,d,r,ht,hw,h=>by cases h
 | n+1,acc,ts,d,r,ht,hw,h=>by
  unfold dE at h;split at h
  ·next hq=>
   split at h
   ·cases h
   ·next d1 r1 h1=>
    have w1:=cP (dO hq);have w2:=eR ts.tail;obtain⟨g1,x1,S1,t1,rfl,hx1,hs1,hl1,hb1,_,hp1⟩:=hc _ _ _ ht.tail.lines (by omega) h1;obtain⟨g2,xs,outs,tl,e,ha,htok,hl,hne,hfol,hrun⟩:=Oy n _ _ _ _ g1 (by omega) h;refine⟨g2,x1::xs,S1::outs,rOp [124]::(t1++tl),?_,⟨hx1,ha⟩,fun S t hS=>?_,?_,(fun h=>by cases h),fun R hR=>Fol.op (by decide) _,fun m acc' R hR hm=>?_⟩
    ·rw [e,cB,aA]
    ·have h9:=htok _ _ ((hS.blank (jF (o:=[124]) (by decide))).blank hs1);rw [fS];simpa using h9
    ·rw [fS];simp only [lA,lC,lN];omega
    ·cases m with
     | zero=>exact absurd hm (Nat.not_lt_zero _)
     | succ m=>
      rw [List.cons_append];unfold dE;rw [if_pos (show aG [124] (rOp [124]::(t1++tl++R))=true from rfl)];rw [show (rOp [124]::(t1++tl++R)).tail=t1++(tl++R) by rw [aA];rfl,i6 (lP hb1),hp1 _ (hfol R hR)];dsimp only;rw [hrun m _ R hR (by simp only [List.cons_append,lC,lA] at hm ⊢;omega),cB,aA]
  ·next hq=>
   injection h with h;injection h with h1 h2;subst h1 h2;refine⟨ht,[],[],[],by simp [eV],trivial,fun S t hS=>by simpa [pI] using hS,by show 0+_≤_;omega,fun _=>rfl,fun R hR=>hR.mono pc,fun m acc' R hR hm=>?_⟩;cases m with
   | zero=>exact absurd hm (Nat.not_lt_zero _)
   | succ m=>
    rw [List.nil_append];unfold dE;rw [pA hR (by decide),if_neg (by simp)];simp [eV]
theorem Dx (hP:lU P) {ts:List Tk} {d:List Dt} {r:List Tk} (ht:TG ts) (hw:WT ts≤60000) (h:bM cmd ts=.ok (d,r)):LvG P (bM cmd) Hs ts d r:=by
 unfold bM at h;split at h
 ·cases h
 ·next d1 r1 h1=>
  split at h
  ·cases h
  ·next l r2 h2=>
   have ht0:TG (if aT [33] ts then ts.tail else ts):=by split;exact ht.tail;exact ht
   have hw0:WT (if aT [33] ts then ts.tail else ts)+(if aT [33] ts then 20 else 0)≤WT ts:=by
    split
    ·next hq=>exact cP (cJ (by decide) hq)
    ·omega
   obtain⟨g1,x1,S1,t1,rfl,hx1,hs1,hl1,hb1,_,hp1⟩:=hc _ _ _ ht0 (by omega) h1;obtain⟨g2,xs,outs,tl,rfl,ha,htok,hl,hne,hfol,hrun⟩:=Oy hc _ _ _ _ _ g1 (by omega) h2;obtain⟨wz,hwz⟩:∃z,z=WT (if aT [33] ts then ts.tail else ts):=⟨_,rfl⟩;rw [←hwz] at hw0 hl1;have hlen:(Ny.row x1++eV xs).length=8*(xs.length+1):=by rw [lA,G2,y8];omega
   split at h
   ·next hq=>
    injection h with h;injection h with h3 h4;subst h3 h4;have hx0:xs=[]:=List.eq_nil_of_length_eq_zero (by omega);subst hx0;have ht0:=hne rfl;subst ht0;refine⟨g2,x1,S1,t1,by simp [eV],hx1,hs1,?_,lP hb1,fun R hR=>?_⟩
    ·rw [hq.2] at hw0;simp only [Bool.false_eq_true,if_false] at hw0;omega
    ·unfold bM;have hb2:aT [33] (t1++R)=false:=vY (mW hb1 R);have h9:=hrun (R.length+1) (Ny.row x1) R hR (Nat.lt_succ_self _);rw [List.nil_append] at h9;rw [hb2,if_neg (by simp),hp1 R (hR.mono pc)];dsimp only;rw [h9];dsimp only;rw [if_pos ⟨by rw [hlen];rfl,rfl⟩]
   ·next hq=>
    injection h with h;injection h with h3 h4;subst h3 h4;obtain⟨b,hb⟩:∃b,b=aT [33] ts:=⟨_,rfl⟩;rw [←hb] at hq hw0 ⊢;have hk:=hP.kids [] (f7.pipe b S1 outs) (fun w hw=>by cases hw) (fun w hw=>by cases hw) (show iY P (x1::xs) (S1::outs) from⟨hx1,ha⟩) (by
     rw [eW];simp only [lA,eH,List.flatMap_nil,lN];have h7:(if b then [(33:UInt8),32] else []).length≤(if b then 20 else 0):=by cases b<;>simp
     generalize (if b then 20 else 0)=z at h7 hw0;omega)
    rw [k9,eW] at hk;refine⟨g2,_,_,(if b then [kwT [33]] else [])++(t1++tl),?_,hk,?_,?_,?_,fun R hR=>?_⟩
    ·rw [cB];rfl
    ·have h9:=htok _ _ hs1;cases b with
     | false=>exact h9
     | true=>exact (gS (s:=[33]) (by decide)).blank h9
    ·simp only [lA];cases b<;>simp only [if_true,Bool.false_eq_true,if_false,lC,lN] at hw0 ⊢<;>omega
    ·cases b with
     | false=>exact mL (lP hb1) tl
     | true=>rfl
    ·have hrest:∀Y,Y=t1++(tl++R)→(match cmd Y with | .error e=>.error e | .ok (d,r)=>match dE cmd (r.length+1) d r with
      | .error e=>.error e
      | .ok (l,r2)=>if l.length=8∧b=false then .ok (l,r2) else .ok (ndR 2 b [] [] [] [] l [],r2))=(.ok (ndR 2 b [] [] [] [] (Ny.row x1++eV xs) [],R):PR (List Dt)):=fun Y hY=>by
      rw [hY,hp1 _ (hfol R hR)];dsimp only;rw [hrun _ _ R hR (Nat.lt_succ_self _)];dsimp only;rw [if_neg hq]
     cases b with
     | false=>
      show bM cmd (t1++tl++R)=_;unfold bM;have hb2:aT [33] (t1++tl++R)=false:=vY (mW (mW hb1 tl) R);have e1:(if aT [33] (t1++tl++R) then (t1++tl++R).tail else (t1++tl++R))=t1++(tl++R):=by rw [hb2,aA];rfl
      rw [e1,hb2];exact hrest _ rfl
     | true=>
      unfold bM;show (match cmd (if aT [33] (kwT [33]::(t1++tl++R)) then (kwT [33]::(t1++tl++R)).tail else _) with | .error e=>_ | .ok (d,r)=>_)=_;rw [show aT [33] (kwT [33]::(t1++tl++R))=true from rfl,if_pos rfl];exact hrest _ (by simp)
theorem Py (hP:lU P):∀(n:Nat) (x:Ny) (S:Bs) (ts:List Tk) (d:List Dt) (r:List Tk),P x S→S.length+WT ts≤60000→TG ts→dU cmd n (Ny.row x) ts=.ok (d,r)→
 TG r∧∃x' U tl,d=Ny.row x'∧P x' (S++U)∧(∀t,Tok S t→Tok (S++U) (t++tl))∧U.length+WT r≤WT ts∧(∀R,Fol Ds R→Fol Hs (tl++R))∧∀m R,Fol Ds R→(tl++R).length<m→dU cmd m (Ny.row x) (tl++R)=.ok (d,R)
 | 0,x,S,ts,d,r,hx,hw,ht,h=>by cases h
 | n+1,x,S,ts,d,r,hx,hw,ht,h=>by
  unfold dU at h;split at h
  ·next hq=>
   split at h
   ·cases h
   ·next d1 r1 h1=>
    have w1:=cP (dO hq);have w2:=eR ts.tail;obtain⟨g1,x1,S1,t1,rfl,hx1,hs1,hl1,hb1,hp1⟩:=Dx hc hP ht.tail.lines (by omega) h1;have hk:=hP.kids [] (f7.and S S1) (fun w hw=>by cases hw) (fun w hw=>by cases hw) (show iY P [x,x1] [S,S1] from⟨hx,hx1,trivial⟩) (by
     rw [eW,fS,jW];simp only [lA,lC,eH,List.flatMap_nil,lN];omega)
    rw [k9,eW,fS,jW,List.append_nil,cB,eF] at hk;obtain⟨g2,x2,U,tl,e,hx2,htok,hl,hfol,hrun⟩:=Py hP n _ _ _ _ _ hk (by simp only [lA,lC,lN];omega) g1 h;refine⟨g2,x2,[32,38,38,32]++S1++U,rOp [38,38]::(t1++tl),e,?_,fun t hS=>?_,?_,fun R hR=>Fol.op (by decide) _,fun m R hR hm=>?_⟩
    ·rw [show S++([32,38,38,32]++S1++U)=S++([32,38,38,32]++S1)++U by simp];exact hx2
    ·have h9:=htok _ (by
      have h8:=(hS.blank (jF (o:=[38,38]) (by decide))).blank hs1;rw [show (S++32::[38,38])++32::S1=S++([32,38,38,32]++S1) by simp] at h8;exact h8)
     simpa using h9
    ·simp only [lA,lC,lN];omega
    ·cases m with
     | zero=>exact absurd hm (Nat.not_lt_zero _)
     | succ m=>
      rw [List.cons_append];unfold dU;rw [if_pos (show aG [38,38] (rOp [38,38]::(t1++tl++R))=true from rfl)];rw [show (rOp [38,38]::(t1++tl++R)).tail=t1++(tl++R) by rw [aA];rfl,i6 hb1,hp1 _ (hfol R hR)];dsimp only;exact hrun m R hR (by simp only [List.cons_append,lC,lA] at hm ⊢;omega)
  ·next hq0=>
   split at h
   ·next hq=>
    split at h
    ·cases h
    ·next d1 r1 h1=>
     have w1:=cP (dO hq);have w2:=eR ts.tail;obtain⟨g1,x1,S1,t1,rfl,hx1,hs1,hl1,hb1,hp1⟩:=Dx hc hP ht.tail.lines (by omega) h1;have hk:=hP.kids [] (f7.or S S1) (fun w hw=>by cases hw) (fun w hw=>by cases hw) (show iY P [x,x1] [S,S1] from⟨hx,hx1,trivial⟩) (by
      rw [eW,fS,jW];simp only [lA,lC,eH,List.flatMap_nil,lN];omega)
     rw [k9,eW,fS,jW,List.append_nil,cB,eF] at hk;obtain⟨g2,x2,U,tl,e,hx2,htok,hl,hfol,hrun⟩:=Py hP n _ _ _ _ _ hk (by simp only [lA,lC,lN];omega) g1 h;refine⟨g2,x2,[32,124,124,32]++S1++U,rOp [124,124]::(t1++tl),e,?_,fun t hS=>?_,?_,fun R hR=>Fol.op (by decide) _,fun m R hR hm=>?_⟩
     ·rw [show S++([32,124,124,32]++S1++U)=S++([32,124,124,32]++S1)++U by simp];exact hx2
     ·have h9:=htok _ (by
       have h8:=(hS.blank (jF (o:=[124,124]) (by decide))).blank hs1;rw [show (S++32::[124,124])++32::S1=S++([32,124,124,32]++S1) by simp] at h8;exact h8)
      simpa using h9
     ·simp only [lA,lC,lN];omega
     ·cases m with
      | zero=>exact absurd hm (Nat.not_lt_zero _)
      | succ m=>
       rw [List.cons_append];unfold dU;rw [if_neg (show ¬aG [38,38] (rOp [124,124]::(t1++tl++R))=true from by show ¬((2:Nat)==2 && ([124,124]:Bs)==[38,38])=true;decide),if_pos (show aG [124,124] (rOp [124,124]::(t1++tl++R))=true from rfl)];rw [show (rOp [124,124]::(t1++tl++R)).tail=t1++(tl++R) by rw [aA];rfl,i6 hb1,hp1 _ (hfol R hR)];dsimp only;exact hrun m R hR (by simp only [List.cons_append,lC,lA] at hm ⊢;omega)
   ·next hq=>
    injection h with h;injection h with h1 h2;subst h1 h2;refine⟨ht,x,[],[],rfl,by rw [List.append_nil];exact hx,fun t hS=>by simpa using hS,by show 0+_≤_;omega,fun R hR=>hR.mono ap,fun m R hR hm=>?_⟩;cases m with
    | zero=>exact absurd hm (Nat.not_lt_zero _)
    | succ m=>
     rw [List.nil_append];unfold dU;rw [pA hR (by decide),if_neg (by simp),pA hR (by decide),if_neg (by simp)]
theorem G7 (hP:lU P) {ts:List Tk} {d:List Dt} {r:List Tk} (ht:TG ts) (hw:WT ts≤60000) (h:eN cmd ts=.ok (d,r)):LvG P (eN cmd) Ds ts d r:=by
 unfold eN at h;split at h
 ·cases h
 ·next d1 r1 h1=>
  obtain⟨g1,x1,S1,t1,rfl,hx1,hs1,hl1,hb1,hp1⟩:=Dx hc hP ht hw h1;obtain⟨g2,x2,U,tl,e,hx2,htok,hl,hfol,hrun⟩:=Py hc hP _ _ _ _ _ _ hx1 (by omega) g1 h;refine⟨g2,x2,S1++U,t1++tl,e,hx2,htok _ hs1,by rw [lA];omega,mL hb1 tl,fun R hR=>?_⟩;unfold eN;rw [aA,hp1 _ (hfol R hR)];dsimp only;exact hrun _ R hR (Nat.lt_succ_self _)
def Ee (R:List Tk):Prop:=Fol Ds R∧((dW R).1 && d9 (dW R).2)=false
omit hc in
theorem La:Ee []:=⟨.inl rfl,rfl⟩
omit hc in
theorem F3 {s:Bs} (hs:s∈Nj) (R:List Tk):Ee (rOp s::R)∧(dW (rOp s::R)).2=rOp s::R:=by
 have h1:aG [59] (rOp s::R)=false:=pA (l:=Nj) (Fol.op hs R) (by decide);have h2:aG [10] (rOp s::R)=false:=pA (l:=Nj) (Fol.op hs R) (by decide);have h3:dW (rOp s::R)=(false,rOp s::R):=by unfold dW;rw [h1,h2];rfl
 exact⟨⟨(Fol.op hs R).mono ea,by rw [h3];rfl⟩,by rw [h3]⟩
def K8:List Bs:=[[116,104,101,110],[100,111],[100,111,110,101],[102,105],[101,108,115,101],[101,108,105,102],[125]]
omit hc in
theorem jN {s:Bs} (hs:s∈K8) (R:List Tk):Ee (rOp [59]::kwT s::R)∧(dW (rOp [59]::kwT s::R)).2=kwT s::R:=by
 have h3:dW (rOp [59]::kwT s::R)=(true,kwT s::R):=rfl;have h4:d9 (kwT s::R)=false:=by
  have key:∀s∈K8,d9 [kwT s]=false:=by decide
  rw [(fP (show atF (kwT s::R)=atF [kwT s] from rfl)).2.1,key s hs]
 exact⟨⟨Fol.op (by decide) _,by rw [h3,h4];rfl⟩,by rw [h3]⟩
theorem Q9 (hP:lU P):∀(n:Nat) (acc:List Dt) (ts:List Tk) (d:List Dt) (r:List Tk),TG ts→WT ts≤60000→eE cmd n acc ts=.ok (d,r)→
 TG r∧∃xs outs tl,d=acc++eV xs∧iY P xs outs∧(∀S t,Tok S t→Tok (S++pI [59,32] outs) (t++tl))∧(pI [59,32] outs).length+WT r≤WT ts∧(∀R,Ee R→Fol Ds (tl++R))∧∀m acc' R,Ee R→(tl++R).length<m→eE cmd m acc' (tl++R)=.ok (acc'++eV xs,(dW R).2)
 | 0,acc,ts,d,r,ht,hw,h=>by cases h
 | n+1,acc,ts,d,r,ht,hw,h=>by
  unfold eE at h;split at h
  ·next hq=>
   rw [Bool.and_eq_true] at hq;split at h
   ·cases h
   ·next d1 r1 h1=>
    have w1:=Mk hq.1;obtain⟨g1,x1,S1,t1,rfl,hx1,hs1,hl1,hb1,hp1⟩:=G7 hc hP ht.ends (by omega) h1;obtain⟨g2,xs,outs,tl,e,ha,htok,hl,hfol,hrun⟩:=Q9 hP n _ _ _ _ g1 (by omega) h;refine⟨g2,x1::xs,S1::outs,rOp [59]::(t1++tl),?_,⟨hx1,ha⟩,fun S t hS=>?_,?_,fun R hR=>Fol.op (by decide) _,fun m acc' R hR hm=>?_⟩
    ·rw [e,cB,aA]
    ·have h9:=htok _ _ (hS.semi hs1);rw [fS];simpa using h9
    ·rw [fS];simp only [lA,lC,lN];omega
    ·cases m with
     | zero=>exact absurd hm (Nat.not_lt_zero _)
     | succ m=>
      rw [List.cons_append];have h3:dW (rOp [59]::(t1++tl++R))=(true,t1++(tl++R)):=by
       show (true,aF (t1++tl++R))=_;rw [aA,i6 hb1]
      unfold eE;rw [h3];dsimp only;rw [mL hb1,Bool.true_and,if_pos rfl,hp1 _ (hfol R hR)];dsimp only;rw [hrun m _ R hR (by simp only [List.cons_append,lC,lA] at hm ⊢;omega),cB,aA]
  ·next hq=>
   injection h with h;injection h with h1 h2;subst h1 h2;refine⟨ht.ends,[],[],[],by simp [eV],trivial,fun S t hS=>by simpa [pI] using hS,by have:=Oi ts;show 0+_≤_;omega,fun R hR=>hR.1,fun m acc' R hR hm=>?_⟩;cases m with
   | zero=>exact absurd hm (Nat.not_lt_zero _)
   | succ m=>
    rw [List.nil_append];unfold eE;rw [hR.2,if_neg (by simp)];simp [eV]
theorem O3 (hP:lU P) {ts:List Tk} {d:List Dt} {r:List Tk} (ht:TG ts) (hw:WT ts≤60000) (h:sC cmd ts=.ok (d,r)) :
 TG r∧∃x1 xs o1 outs t,d=eV (x1::xs)∧iY P (x1::xs) (o1::outs)∧Tok (Lib.join (o1::outs) [59,32]) t∧(Lib.join (o1::outs) [59,32]).length+WT r≤WT ts∧d9 t=true∧∀R,Ee R→sC cmd (t++R)=.ok (d,(dW R).2):=by
 unfold sC at h;split at h
 ·cases h
 ·next d1 r1 h1=>
  obtain⟨g1,x1,S1,t1,rfl,hx1,hs1,hl1,hb1,hp1⟩:=G7 hc hP ht hw h1;obtain⟨g2,xs,outs,tl,rfl,ha,htok,hl,hfol,hrun⟩:=Q9 hc hP _ _ _ _ _ g1 (by omega) h;refine⟨g2,x1,xs,S1,outs,t1++tl,by rw [cB],⟨hx1,ha⟩,by rw [eW];exact htok _ _ hs1,by rw [eW,lA];omega,mL hb1 tl,fun R hR=>?_⟩;unfold sC;rw [aA,hp1 _ (hfol R hR)];dsimp only;exact hrun _ _ R hR (Nat.lt_succ_self _)
omit hc in
theorem A5 (hP:lU P) {x1:Ny} {xs:List Ny} {o1:Bs} {outs:List Bs} (ha:iY P (x1::xs) (o1::outs)) (hl:(Lib.join (o1::outs) [59,32]).length≤60000):∃x,qJ (eV (x1::xs))=Ny.row x∧P x (Lib.join (o1::outs) [59,32]):=by
 unfold qJ;rw [y8,lC];split
 ·next h=>
  have hx:xs=[]:=List.eq_nil_of_length_eq_zero (by omega);subst hx;cases outs with
  | nil=>exact⟨x1,by rw [eF],by rw [eW,jW,List.append_nil];exact ha.1⟩
  | cons a b=>exact absurd ha.2 (by simp [iY])
 ·have hk:=hP.kids [] (f7.seq o1 outs) (fun w hw=>by cases hw) (fun w hw=>by cases hw) ha (by simp only [eH,List.flatMap_nil,lN];omega);rw [k9] at hk;exact⟨_,rfl,hk⟩
def LiG (P:Ny→Bs→Prop) (cmd:List Tk→PR (List Dt)) (ts:List Tk) (d:List Dt) (r:List Tk):Prop:=
 TG r∧∃x S t,d=Ny.row x∧P x S∧Tok S t∧S.length+WT r≤WT ts∧d9 t=true∧∀R,Ee R→cU cmd (t++R)=.ok (d,(dW R).2)
theorem oK (hP:lU P) {ts:List Tk} {d:List Dt} {r:List Tk} (ht:TG ts) (hw:WT ts≤60000) (h:cU cmd ts=.ok (d,r)):LiG P cmd ts d r:=by
 unfold cU at h;split at h
 ·cases h
 ·next l r1 h1=>
  injection h with h;injection h with h2 h3;subst h2 h3;have w2:=eR ts;obtain⟨g1,x1,xs,o1,outs,t,rfl,ha,htk,hl,hb,hrun⟩:=O3 hc hP ht.lines (by omega) h1;obtain⟨x,e,hx⟩:=A5 hP ha (by omega);refine⟨g1,x,_,t,e,hx,htk,by omega,hb,fun R hR=>?_⟩;unfold cU;rw [i6 hb,hrun R hR]
end
end Go.Proofs.YtiihpbccabeoeaaGreatDoor
