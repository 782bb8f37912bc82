/- The walk: a part. -/
import Derived.Test.YtiihpbccabeoeaaGreatDoorYPkC
import Derived.StillTailTactics
import Derived.Deep.Upon
import Derived.Test.YtiihpbccabeoeaaGreatDoorProg
import Derived.WalkKit
import Derived.ProofKit
import Derived.SliceStrings
import Derived.Lib.Hide
import Derived.Lib.Strings
import Derived.SizedLaws
import Derived.Deep.QuietTactic
namespace Go.Proofs.YtiihpbccabeoeaaGreatDoor
open Go.RowKit
set_option linter.unusedVariables false
set_option maxRecDepth 100000
set_option maxHeartbeats 16000000
theorem Pt.ext {x y:Pt} (h0:x.kind=y.kind) (h1:x.text=y.text) (h2:x.name=y.name) (h3:x.op=y.op) (h4:x.word=y.word) (h5:x.quoted=y.quoted):x=y:=by
 cases x;cases y;simp only [Pt.kind,Pt.text,Pt.name,Pt.op,Pt.word,Pt.quoted] at h0 h1 h2 h3 h4 h5;subst h0 h1 h2 h3 h4 h5;rfl
theorem PtCells.keep {w w':World} {b o:Nat} {p:Pt} {v:Value} (hk:Keeps (fun _=>False) w w') (hb:b<w.heap.size) (h:PtCells w b o p v):PtCells w' b o p v:=fun j u hu=>by
 rw [World.cell?_of_block (hk.block b hb (fun x=>x))];exact h j u hu
theorem PtsAt.at {w wr:World} {D:Nat→Prop} {n:Nat} {l:List Pt} {ad:Option Addr} {k c i:Nat} (h:PtsAt w D n l (.slice ad k c)) (hk:Keeps (fun _=>False) w wr) (hi:i<l.length) :
 ∃(g o:Nat) (xa:Option Addr) (xl xc:Nat),ad=some ⟨g,o,none⟩∧Six wr g (o+i*6) l[i] (.slice xa xl xc)∧PtsAt wr D (n - 1) l[i].word (.slice xa xl xc)∧0<n∧g<wr.heap.size:=by
 cases n with
 | zero=>obtain⟨rfl,_⟩:=h;simp at hi
 | succ n=>
  obtain⟨a,c,e,_,_,H⟩:=h;obtain⟨b,off,wv,ea,hb,hd,hc,hw⟩:=H i hi;obtain⟨xa,xc,rfl,_,_⟩:=hw.shape;injection e with e1 e2 e3;exact⟨b,off,xa,_,xc,e1.trans ea,six_of (hc.keep hk hb),hw.keep hk (fun _ _ _ s=>s),Nat.succ_pos _,Nat.lt_of_lt_of_le hb hk.size⟩
def SamePost (w:World) (P:Prop) (e:Ending) (w':World):Prop:=∃r,e=.returned (.bool r)∧(r=true↔P)∧Keeps (fun _=>False) w w'
theorem take_same {α} {a b:List α} {k:Nat} (hk:k<a.length) (hk2:k<b.length) (h:a.take k=b.take k) (e:a[k]=b[k]):a.take (k+1)=b.take (k+1):=by
 rw [List.take_succ_eq_append_getElem hk,List.take_succ_eq_append_getElem hk2,h,e]
def Three (w:World) (b o:Nat) (p:Tk) (v:Value):Prop:=
 w.cell? ⟨b,o,none⟩=some (.int .i64 (p.kind:Nat))∧w.cell? ⟨b,o+1,none⟩=some (strV p.text)∧w.cell? ⟨b,o+2,none⟩=some v
theorem three_of {w:World} {b o:Nat} {p:Tk} {v:Value} (h:TkCells w b o p v):Three w b o p v:=
 ⟨h 0 _ rfl,h 1 _ rfl,h 2 _ rfl⟩
theorem TksAt.shape {w:World} {D:Nat→Prop} {n:Nat} {l:List Tk} {v:Value} (h:TksAt w D n l v):∃a c,v=.slice a l.length c∧l.length≤c∧c≤maxLen:=by
 obtain⟨a,c,e,h1,h2,_⟩:=h;exact⟨a,c,e,h1,h2⟩
theorem TksAt.at {w wr:World} {D:Nat→Prop} {n:Nat} {l:List Tk} {ad:Option Addr} {k c i:Nat} (h:TksAt w D n l (.slice ad k c)) (hk:Keeps (fun _=>False) w wr) (hi:i<l.length) :
 ∃(g o:Nat) (xa:Option Addr) (xl xc:Nat),ad=some ⟨g,o,none⟩∧Three wr g (o+i*3) l[i] (.slice xa xl xc)∧PtsAt wr D n l[i].word (.slice xa xl xc)∧g<wr.heap.size:=by
 obtain⟨a,c,e,_,_,H⟩:=h;obtain⟨b,off,wv,ea,hb,hd,hc,hw⟩:=H i hi;obtain⟨xa,xc,rfl,_,_⟩:=hw.shape;injection e with e1 e2 e3;refine⟨b,off,xa,_,xc,e1.trans ea,three_of fun j u hu=>?_,hw.keep hk (fun _ _ _ s=>s),Nat.lt_of_lt_of_le hb hk.size⟩;rw [World.cell?_of_block (hk.block b hb (fun x=>x))];exact hc j u hu
def Md.need (md:Md) (r:List UInt8):Nat:=match md with
 | .one _=>max 1 (2*r.length)
 | _=>2*r.length+1
theorem headIs_cons {c:UInt8} {r:List UInt8} (h:headIs c r=true):∃t,r=c::t:=by
 cases r with
 | nil=>cases h
 | cons x t=>exact⟨t,by rw [beq_iff_eq.1 h]⟩
theorem lexD_fuel:∀(n m:Nat) (md:Md) (d:Nat) (r:List UInt8),md.need r≤n→md.need r≤m→lexD n md d r=lexD m md d r:=by
 intro n;induction n with
 | zero=>intro m md d r hn;cases md<;>simp [Md.need] at hn<;>omega
 | succ n ih=>
  intro m md d r hn hm;cases m with
  | zero=>cases md<;>simp [Md.need] at hm<;>omega
  | succ m=>
   cases md with
   | one q=>
    cases r with
    | nil=>cases q<;>rfl
    | cons c t=>
     simp only [Md.need,List.length_cons] at hn hm;have e1:∀d,lexD n .dq d t=lexD m .dq d t:=fun d=>ih m .dq d t (by simp only [Md.need];omega) (by simp only [Md.need];omega);have e2:∀q d,lexD n (.dol q) d t=lexD m (.dol q) d t:=fun q d=>ih m (.dol q) d t (by simp only [Md.need];omega) (by simp only [Md.need];omega);cases q with
     | false=>rw [lexD_out,lexD_out,e1,e2]
     | true=>rw [lexD_inn,lexD_inn,e2]
   | dq=>
    rw [lexD_dq,lexD_dq];cases r with
    | nil=>rfl
    | cons c t=>
     simp only [Md.need,List.length_cons] at hn hm;dsimp only;rw [ih m (.one true) d (c::t) (by simp only [Md.need,List.length_cons];omega) (by simp only [Md.need,List.length_cons];omega)];split
     ·rfl
     ·cases h:lexD m (.one true) d (c::t) with
      | error e=>rfl
      | ok x=>
       obtain⟨l,r1⟩:=x;have hl:=lexD_len _ _ _ _ _ _ h;simp only [Md.least,List.length_cons] at hl;dsimp only;rw [ih m .dq d r1 (by simp only [Md.need];omega) (by simp only [Md.need];omega)]
   | br q=>
    rw [lexD_br,lexD_br];cases r with
    | nil=>rfl
    | cons c t=>
     simp only [Md.need,List.length_cons] at hn hm;dsimp only;rw [ih m (.one q) d (c::t) (by simp only [Md.need,List.length_cons];omega) (by simp only [Md.need,List.length_cons];omega)];split
     ·rfl
     ·cases h:lexD m (.one q) d (c::t) with
      | error e=>rfl
      | ok x=>
       obtain⟨l,r1⟩:=x;have hl:=lexD_len _ _ _ _ _ _ h;simp only [Md.least,List.length_cons] at hl;dsimp only;rw [ih m (.br q) d r1 (by simp only [Md.need];omega) (by simp only [Md.need];omega)]
   | dol q=>
    rw [lexD_dol,lexD_dol];by_cases h:headIs 123 r=true
    ·obtain⟨t,rfl⟩:=headIs_cons h;simp only [Md.need,List.length_cons] at hn hm;rw [if_pos h,if_pos h];exact ih m (.brace q) d t (by simp only [Md.need];omega) (by simp only [Md.need];omega)
    ·rw [if_neg h,if_neg h]
   | brace q=>
    rw [lexD_brace,lexD_brace];obtain⟨r1,hr1⟩:∃r1,r1=if longB r then r.tail else r:=⟨_,rfl⟩;have hl1:r1.length≤r.length:=by rw [hr1];split<;>simp
    rw [←hr1];by_cases h0:nameF true r1=0
    ·rw [if_pos h0,if_pos h0]
    ·rw [if_neg h0,if_neg h0];have hk:=nameF_le true r1;have hl2:((r1.drop (nameF true r1)).drop (opF (r1.drop (nameF true r1))).length).length+1≤r.length:=by
      rw [List.length_drop,List.length_drop];omega
     rw [ih m (.br q) (d+1) _ (by simp only [Md.need] at hn ⊢;omega) (by simp only [Md.need] at hm ⊢;omega)]
def lexC (md:Md) (d:Nat) (r:List UInt8):Res:=lexD (2*r.length+2) md d r
theorem lexC_of {n:Nat} {md:Md} {d:Nat} {r:List UInt8} (h:md.need r≤n):lexD n md d r=lexC md d r:=
 lexD_fuel _ _ _ _ _ h (by cases md<;>simp only [Md.need]<;>omega)
theorem wordD_fuel (wh:Bool):∀(n m:Nat) (r:List UInt8),r.length<n→r.length<m→wordD wh n r=wordD wh m r:=by
 intro n;induction n with
 | zero=>intro m r hn;omega
 | succ n ih=>
  intro m r hn hm;cases m with
  | zero=>omega
  | succ m=>
   rw [wordD_succ,wordD_succ];cases r with
   | nil=>rfl
   | cons c t=>
    dsimp only;split
    ·rfl
    ·cases h:lexD (2*(c::t).length+2) (.one false) 0 (c::t) with
     | error e=>rfl
     | ok x=>
      obtain⟨l,r1⟩:=x;have hl:=lexD_len _ _ _ _ _ _ h;simp only [Md.least,List.length_cons] at hl hn hm;dsimp only;rw [ih m r1 (by omega) (by omega)]
def wordC (wh:Bool) (r:List UInt8):Res:=wordD wh (r.length+1) r
theorem wordC_cons (wh:Bool) (c:UInt8) (t:List UInt8):wordC wh (c::t)=if !wh && breaksB c then .ok ([],c::t) else match lexC (.one false) 0 (c::t) with
 | .error e=>.error e
 | .ok (l,r1)=>(wordC wh r1).ahead l:=by
 unfold wordC;rw [wordD_succ];dsimp only;split
 ·rfl
 ·show (match lexC (.one false) 0 (c::t) with | .error e=>_ | .ok (l,r1)=>_)=_;cases h:lexC (.one false) 0 (c::t) with
  | error e=>rfl
  | ok x=>
   obtain⟨l,r1⟩:=x;have hl:=lexD_len _ _ _ _ _ _ h;simp only [Md.least,List.length_cons] at hl;dsimp only;rw [wordD_fuel wh (c::t).length (r1.length+1) r1 (by simp only [List.length_cons];omega) (by omega)]
theorem tokD_fuel:∀(n m:Nat) (r:List UInt8),r.length<n→r.length<m→tokD n r=tokD m r:=by
 intro n;induction n with
 | zero=>intro m r hn;omega
 | succ n ih=>
  intro m r hn hm;cases m with
  | zero=>omega
  | succ m=>
   rw [tokD_succ,tokD_succ];have hs:=skip_len false r;cases h:skipF false r with
   | nil=>rfl
   | cons c t=>
    dsimp only;rw [h] at hs;simp only [List.length_cons] at hs;cases h2:tokOne (c::t) with
    | error e=>rfl
    | ok x=>
     obtain⟨y,r1⟩:=x;have hl:=tokOne_len (skip_head h) h2;dsimp only;rw [ih m r1 (by omega) (by omega)]
def tokC (r:List UInt8):Except Nat (List Tk):=tokD (r.length+1) r
theorem tokC_eq (r:List UInt8):tokC r=match skipF false r with
 | []=>.ok []
 | c::t=>match tokOne (c::t) with
  | .error e=>.error e
  | .ok (x,r1)=>consT x (tokC r1):=by
 unfold tokC;rw [tokD_succ];have hs:=skip_len false r;cases h:skipF false r with
 | nil=>rfl
 | cons c t=>
  dsimp only;rw [h] at hs;simp only [List.length_cons] at hs;cases h2:tokOne (c::t) with
  | error e=>rfl
  | ok x=>
   obtain⟨y,r1⟩:=x;have hl:=tokOne_len (skip_head h) h2;dsimp only;rw [tokD_fuel r.length (r1.length+1) r1 (by omega) (by omega)]
theorem tokOne_word {r:List UInt8} (h:operF r=[]) (h38:headIs 38 r=false):tokOne r=match wordC false r with
 | .error e=>.error e
 | .ok (l,r1)=>.ok (⟨1,[],tidyF l⟩,r1):=by
 unfold tokOne wordC;rw [if_pos (by rw [h];rfl),if_neg (by rw [h38];simp)];rfl
theorem tokOne_op {r:List UInt8} (h:operF r≠[]):tokOne r=.ok (⟨2,operF r,[]⟩,r.drop (operF r).length):=by
 unfold tokOne;rw [if_neg (by simpa using h)]
theorem tokensF_C (s:List UInt8) (h:mayF s=0):tokensF s=tokC s:=by unfold tokensF tokC;rw [if_pos h]
theorem wholeF_C (s:List UInt8) (h:mayF s=0):wholeF s=match wordC true s with | .error e=>.error e | .ok (l,_)=>.ok (tidyF l):=by unfold wholeF wordC;rw [if_pos h];rfl
def plainB (c:UInt8):Bool:=!(c==39 || c==34 || c==92 || c==96 || c==36)
theorem lexC_plain {c:UInt8} (h:plainB c=true) (d:Nat) (t:List UInt8):lexC (.one false) d (c::t)=.ok ([txtP [c]],t):=by
 unfold lexC;rw [lexD_out];simp only [plainB,Bool.not_eq_true',Bool.or_eq_false_iff] at h;obtain⟨⟨⟨⟨h1,h2⟩,h3⟩,h4⟩,h5⟩:=h;rw [h1,h2,h3,h4,h5];rfl
theorem ahead_add (l m:List Pt) (R:Res):(R.ahead m).ahead l=R.ahead (l++m):=by
 cases R with
 | error e=>rfl
 | ok x=>obtain⟨a,b⟩:=x;show Except.ok _=Except.ok _;rw [List.append_assoc]
theorem lexC_out (d:Nat) (c:UInt8) (t:List UInt8):lexC (.one false) d (c::t) =
 if c==39 then (match untilF 39 t with
  | none=>.error 2
  | some k=>.ok ([quoP (t.take k)],t.drop (k+1)))
 else if c==34 then (lexC .dq d t).ahead [quoP []]
 else if c==92 then (match t with
  | []=>.ok ([quoP [92]],[])
  | x::t'=>if x==10 then .ok ([],t') else .ok ([quoP [x]],t'))
 else if c==96 then .error 2
 else if c==36 then lexC (.dol false) d t
 else .ok ([txtP [c]],t):=by
 unfold lexC;rw [lexD_out,lexC_of (md:=.dq) (r:=t) (by simp only [Md.need,List.length_cons];omega),lexC_of (md:=.dol false) (r:=t) (by simp only [Md.need,List.length_cons];omega)];rfl
theorem lexC_inn (d:Nat) (c:UInt8) (t:List UInt8):lexC (.one true) d (c::t) =
 if c==34 || c==96 then .error 2
 else if c==92 && headIs 10 t then .ok ([],t.tail)
 else if c==92 && escB (t.headD 0) then .ok ([quoP [t.headD 0]],t.tail)
 else if c==36 then lexC (.dol true) d t
 else .ok ([quoP [c]],t):=by
 unfold lexC;rw [lexD_inn,lexC_of (md:=.dol true) (r:=t) (by simp only [Md.need,List.length_cons];omega)];rfl
theorem lexC_dq (d:Nat) (r:List UInt8):lexC .dq d r=match r with
 | []=>.error 2
 | c::t=>if c==34 then .ok ([],t) else match lexC (.one true) d r with
  | .error e=>.error e
  | .ok (l,r1)=>(lexC .dq d r1).ahead l:=by
 cases r with
 | nil=>rfl
 | cons c t=>
  show lexD (2*(c::t).length+1+1) .dq d (c::t)=_;rw [lexD_dq,lexC_of (md:=.one true) (r:=c::t) (by simp only [Md.need,List.length_cons];omega)];dsimp only;cases h:lexC (.one true) d (c::t) with
  | error e=>rfl
  | ok x=>
   obtain⟨l,r1⟩:=x;have hl:=lexD_len _ _ _ _ _ _ h;simp only [Md.least,List.length_cons] at hl;dsimp only;rw [lexC_of (md:=.dq) (r:=r1) (by simp only [Md.need,List.length_cons];omega)]
theorem lexC_br (d:Nat) (q:Bool) (r:List UInt8):lexC (.br q) d r=match r with
 | []=>.error 2
 | c::t=>if c==125 then .ok ([],t) else match lexC (.one q) d r with
  | .error e=>.error e
  | .ok (l,r1)=>(lexC (.br q) d r1).ahead l:=by
 cases r with
 | nil=>rfl
 | cons c t=>
  show lexD (2*(c::t).length+1+1) (.br q) d (c::t)=_;rw [lexD_br,lexC_of (md:=.one q) (r:=c::t) (by simp only [Md.need,List.length_cons];omega)];dsimp only;cases h:lexC (.one q) d (c::t) with
  | error e=>rfl
  | ok x=>
   obtain⟨l,r1⟩:=x;have hl:=lexD_len _ _ _ _ _ _ h;simp only [Md.least,List.length_cons] at hl;dsimp only;rw [lexC_of (md:=.br q) (r:=r1) (by simp only [Md.need,List.length_cons];omega)]
theorem lexC_dol (d:Nat) (q:Bool) (r:List UInt8):lexC (.dol q) d r =
 if headIs 123 r then lexC (.brace q) d r.tail
 else if startsF [40,40] r then (match calcF 0 (r.drop 2) with
  | none=>.error 2
  | some k=>.ok ([.mk 4 ((r.drop 2).take k) [] [] [] q],(r.drop 2).drop (k+2)))
 else if headIs 40 r then (match subF .n 0 r.tail with
  | none=>.error 2
  | some k=>.ok ([.mk 5 (r.tail.take k) [] [] [] q],r.tail.drop (k+1)))
 else if nameF false r=0 then .ok ([if q then quoP [36] else txtP [36]],r)
 else .ok ([.mk 3 [] (r.take (nameF false r)) [] [] q],r.drop (nameF false r)):=by
 show lexD (2*r.length+1+1) (.dol q) d r=_;rw [lexD_dol];by_cases h:headIs 123 r=true
 ·rw [if_pos h,if_pos h];obtain⟨t,rfl⟩:=headIs_cons h;exact lexC_of (by simp only [Md.need,List.length_cons,List.tail_cons];omega)
 ·rw [if_neg h,if_neg h];rfl
theorem lexC_brace (d:Nat) (q:Bool) (r:List UInt8):lexC (.brace q) d r =
 if nameF true (if longB r then r.tail else r)=0 then .error 2
 else if headIs 125 ((if longB r then r.tail else r).drop (nameF true (if longB r then r.tail else r))) then .ok ([.mk 3 [] ((if longB r then r.tail else r).take (nameF true (if longB r then r.tail else r))) (if longB r then [76] else []) [] q],((if longB r then r.tail else r).drop (nameF true (if longB r then r.tail else r))).tail)
 else if (opF ((if longB r then r.tail else r).drop (nameF true (if longB r then r.tail else r)))).isEmpty || longB r then .error 2
 else if d=40 then .error 3
 else match lexC (.br q) (d+1) (((if longB r then r.tail else r).drop (nameF true (if longB r then r.tail else r))).drop (opF ((if longB r then r.tail else r).drop (nameF true (if longB r then r.tail else r)))).length) with
  | .error e=>.error e
  | .ok (l,r3)=>.ok ([.mk 3 [] ((if longB r then r.tail else r).take (nameF true (if longB r then r.tail else r))) (opF ((if longB r then r.tail else r).drop (nameF true (if longB r then r.tail else r)))) (tidyF l) q],r3):=by
 show lexD (2*r.length+1+1) (.brace q) d r=_;rw [lexD_brace];by_cases h0:nameF true (if longB r then r.tail else r)=0
 ·rw [if_pos h0,if_pos h0]
 ·rw [if_neg h0,if_neg h0];have hl1:(if longB r then r.tail else r).length≤r.length:=by split<;>simp
  rw [lexC_of (md:=.br q) (by
   simp only [Md.need];rw [List.length_drop,List.length_drop];have hk:=nameF_le true (if longB r then r.tail else r);omega)]
  rfl
theorem all_u8 {P:UInt8→Bool} (h:∀n:Fin 256,P (UInt8.ofNat n.val)=true) (c:UInt8):P c=true:=by
 have:=h ⟨c.toNat,c.toNat_lt⟩;simpa using this
theorem flat_reads {w:World} {D:Nat→Prop} {v:Value} {raw:List Pt} (hown:w.ownsRow 0 67 6 v raw.length (cellsL raw (raw.map fun _=>.slice none 0 0))) (hw:∀i (h:i<raw.length),raw[i].word=[]) (hD:∀g,v.ownBlock=some g→D g):∃n,PtsAt w D n raw v:=
 OwnPts.reads (D:=D) ⟨raw.map fun _=>.slice none 0 0,0,by simp,hown,fun i h h'=>by
  rw [hw i h];simp only [List.getElem_map];exact PtsAt.nil _ _ 0⟩ hD
theorem cellsT_mem:∀{m:List Tk} {us:List Value} {x:Value},x∈cellsT m us→∃p∈m,∃v∈us,x∈cellsK p v
 | [],us,x,h=>by cases us<;>cases h
 | p::l,[],x,h=>by cases h
 | p::l,v::vs,x,h=>by
  simp only [cellsT,List.mem_append] at h;rcases h with h | h
  ·exact⟨p,List.mem_cons_self ..,v,List.mem_cons_self ..,h⟩
  ·obtain⟨q,hq,u,hu,hx⟩:=cellsT_mem h;exact⟨q,List.mem_cons_of_mem _ hq,u,List.mem_cons_of_mem _ hu,hx⟩
theorem OwnTks.news {w:World} {E:Nat→Prop} {u:Value} {m:List Tk} (h:OwnTks w E u m) (hm:0<m.length) :
 ∃ad c us k,u=.slice (some ad) m.length c∧us.length=m.length∧(cellsT m us).length=m.length*3∧(∀j x,(cellsT m us)[j]? = some x→w.cell? (ad.add j)=some x)∧(∀x∈cellsT m us,x.oneCell'=true)∧∀i (h:i<m.length) (h':i<us.length),PtsAt w E k m[i].word us[i]:=by
 obtain⟨vs,n,hl,ho,hn⟩:=h;obtain⟨g,cap,rfl,_,_⟩:=ho.form hm;refine⟨⟨g,0,none⟩,cap,vs,n,rfl,hl,ho.1,fun j x hx=>?_,fun x hx=>?_,fun i h h'=>(hn i h h').mono fun b _ hb=>hb.1⟩
 ·have hj:j<m.length*3:=by rw [←ho.1];exact (List.getElem?_eq_some_iff.1 hx).1
  have:=ho.cellAt j hj;rw [hx] at this;rw [←this];exact congrArg w.cell? (by unfold Addr.add;split<;>simp [*])
 ·obtain⟨p,hp,v,hv,hx⟩:=cellsT_mem hx;obtain⟨i,hi,rfl⟩:=List.mem_iff_getElem.1 hv;obtain⟨a,c,e,_⟩:=(hn i (by omega) hi).shape;rw [e] at hx;simp only [cellsK,List.mem_cons,List.not_mem_nil,or_false] at hx;rcases hx with rfl | rfl | rfl
  ·rfl
  ·rfl
  ·rfl
theorem grow_all {w w':World} {v v':Value} {E:Nat→Prop} {raw more:List Tk} {vs us:List Value} {n m:Nat} (hl:vs.length=raw.length) (hl2:us.length=more.length)
 (hnest:∀i (h:i<raw.length) (h':i<vs.length),PtsAt w (fun b=>v.ownBlock≠some b) n raw[i].word vs[i])
 (hmore:∀i (h:i<more.length) (h':i<us.length),PtsAt w E m more[i].word us[i]) (hE:∀b,E b→v.ownBlock≠some b)
 (hown:w'.ownsRow 0 109 3 v' (raw.length+more.length) (cellsT raw vs++cellsT more us)) (hk:Keeps (fun b=>v.ownBlock=some b) w w')
 (hg:∀y,v'.ownBlock=some y→v.ownBlock=some y∨w.heap.size≤y) :
 OwnTks w' (fun _=>True) v' (raw++more):=by
 have key:∀(k:Nat) (l:List Pt) (u:Value),PtsAt w (fun b=>v.ownBlock≠some b) k l u→PtsAt w' (fun b=>True∧v'.ownBlock≠some b) k l u:=fun k l u h=>by
  have h2:PtsAt w (fun b=>v.ownBlock≠some b∧b<w.heap.size) k l u:=h.mono fun b hb hd=>⟨hd,hb⟩;refine (h2.keep hk (fun b _ hd s=>hd.1 s)).mono fun b _ hd=>⟨trivial,fun e=>?_⟩;rcases hg b e with h3 | h3
  ·exact hd.1 h3
  ·have:=hd.2;omega
 refine⟨vs++us,max n m,by simp [hl,hl2],?_,fun i h h'=>?_⟩
 ·rw [cellsT_append hl,List.length_append];exact hown
 ·by_cases hi:i<raw.length
  ·rw [List.getElem_append_left hi,List.getElem_append_left (by omega)];exact (key _ _ _ (hnest i hi (by omega))).le (by omega)
  ·rw [List.length_append] at h;rw [List.getElem_append_right (by omega),List.getElem_append_right (by omega)];simp only [hl];exact (key _ _ _ ((hmore (i - raw.length) (by omega) (by omega)).mono fun b _ hb=>hE b hb)).le (by omega)
theorem OwnTks.join {w:World} {D E:Nat→Prop} {v:Value} {l m:List Tk} {ua:Option Addr} {un uc:Nat} (h:OwnTks w D v l) (hu:OwnTks w E (.slice ua un uc) m) (hm:0<m.length) (hE:∀b,E b→v.ownBlock≠some b) :
 un=m.length∧∃ad xs news,ua=some ad∧w.ownsRow 0 109 3 v l.length xs∧news.length=m.length*3∧(∀j x,news[j]? = some x→w.cell? (ad.add j)=some x)∧(∀x∈news,x.oneCell'=true)∧
  ∀g cap (w':World),w'.ownsRow 0 109 3 (.slice (some ⟨g,0,none⟩) (l.length+m.length) cap) (l.length+m.length) (xs++news)→w.grownBy w' v.ownBlock→(v.ownBlock=some g∨g=w.heap.size)→
   (∃n,TksAt w' (fun _=>True) n (l++m) (.slice (some ⟨g,0,none⟩) (l.length+m.length) cap))∧Keeps (fun b=>v.ownBlock=some b) w w':=by
 obtain⟨ad,c,us,k,e,h1,h2,h3,h4,h5⟩:=hu.news hm;injection e with e1 e2 e3;refine⟨e2,ad,?_⟩;obtain⟨vs,n,hl,ho,hn⟩:=h;refine⟨cellsT l vs,cellsT m us,e1,ho,h2,h3,h4,fun g cap w' hown hg hat=>?_⟩;have hk:Keeps (fun b=>v.ownBlock=some b) w w':=(Keeps.refl _ w).grown hg fun k hk _=>hk;refine⟨?_,hk⟩;have ho:=grow_all (v:=v) (v':=.slice (some ⟨g,0,none⟩) (l.length+m.length) cap) hl h1 (fun i h h'=>(hn i h h').mono fun b _ hb=>hb.2) h5 hE hown hk (fun y hy=>by
  obtain rfl:g=y:=Option.some.inj hy;rcases hat with e | e
  ·exact .inl e
  ·exact .inr (by omega))
 exact ho.reads (fun _ _=>trivial)
def FreeL (r:List UInt8):Prop:=∀c∈r,(c==35)=false∧(c==92)=false
theorem FreeL.tail {c:UInt8} {t:List UInt8} (h:FreeL (c::t)):FreeL t:=fun x hx=>h x (List.mem_cons_of_mem _ hx)
theorem FreeL.drop {r:List UInt8} (h:FreeL r) (k:Nat):FreeL (r.drop k):=fun x hx=>h x (List.mem_of_mem_drop hx)
theorem FreeL.tl {r:List UInt8} (h:FreeL r):FreeL r.tail:=fun x hx=>h x (List.mem_of_mem_tail hx)
theorem calcF_ext:∀(r e:List UInt8) (o k:Nat),calcF o r=some k→calcF o (r++e)=some k∧k+2≤r.length
 | [],_,_,_,h=>by cases h
 | c::t,e,o,k,h=>by
  unfold calcF at h;rw [List.cons_append];unfold calcF;by_cases h1:(c==40)=true
  ·rw [if_pos h1] at h ⊢;cases h2:calcF (o+1) t with
   | none=>rw [h2] at h;cases h
   | some j=>
    rw [h2] at h;obtain rfl:=Option.some.inj h;obtain⟨i1,i2⟩:=calcF_ext t e _ j h2;rw [i1];exact⟨rfl,by simp only [List.length_cons];omega⟩
  rw [if_neg h1] at h ⊢;by_cases h3:(c==41)=true
  ·rw [if_pos h3] at h ⊢;by_cases h0:o=0
   ·rw [if_pos h0] at h ⊢;cases t with
    | nil=>cases h
    | cons x t'=>
     have hh:headIs 41 (x::t'++e)=headIs 41 (x::t'):=rfl;rw [hh];split at h
     ·next hx=>obtain rfl:=Option.some.inj h;rw [if_pos hx];exact⟨rfl,by simp only [List.length_cons];omega⟩
     ·cases h
   ·rw [if_neg h0] at h ⊢;cases h2:calcF (o - 1) t with
    | none=>rw [h2] at h;cases h
    | some j=>
     rw [h2] at h;obtain rfl:=Option.some.inj h;obtain⟨i1,i2⟩:=calcF_ext t e _ j h2;rw [i1];exact⟨rfl,by simp only [List.length_cons];omega⟩
  rw [if_neg h3] at h ⊢;cases h2:calcF o t with
  | none=>rw [h2] at h;cases h
  | some j=>
   rw [h2] at h;obtain rfl:=Option.some.inj h;obtain⟨i1,i2⟩:=calcF_ext t e _ j h2;rw [i1];exact⟨rfl,by simp only [List.length_cons];omega⟩
theorem map_some {o:Option Nat} {k:Nat} (h:o.map (· + 1)=some k):∃j,o=some j∧k=j+1:=by
 cases o with
 | none=>cases h
 | some j=>exact⟨j,rfl,(Option.some.inj h).symm⟩
theorem subF_ext:∀(r e:List UInt8) (m:SM) (o k:Nat),subF m o r=some k→subF m o (r++e)=some k∧k<r.length
 | [],_,m,_,_,h=>by cases m<;>cases h
 | c::t,e,m,o,k,h=>by
  have key:∀(m':SM) (o':Nat),(subF m' o' t).map (· + 1)=some k→(subF m' o' (t++e)).map (· + 1)=some k∧k<(c::t).length:=fun m' o' h'=>by
   obtain⟨j,hj,rfl⟩:=map_some h';obtain⟨i1,i2⟩:=subF_ext t e m' o' j hj;rw [i1];exact⟨rfl,by simp only [List.length_cons];omega⟩
  rw [List.cons_append];cases m with
  | n=>
   unfold subF at h ⊢;by_cases h1:(c==39)=true
   ·rw [if_pos h1] at h ⊢;exact key _ _ h
   rw [if_neg h1] at h ⊢;by_cases h2:(c==34)=true
   ·rw [if_pos h2] at h ⊢;exact key _ _ h
   rw [if_neg h2] at h ⊢;by_cases h3:(c==92)=true
   ·rw [if_pos h3] at h ⊢;exact key _ _ h
   rw [if_neg h3] at h ⊢;by_cases h4:(c==40)=true
   ·rw [if_pos h4] at h ⊢;exact key _ _ h
   rw [if_neg h4] at h ⊢;by_cases h5:(c==41)=true
   ·rw [if_pos h5] at h ⊢;by_cases h0:o=0
    ·rw [if_pos h0] at h ⊢;obtain rfl:=Option.some.inj h;exact⟨rfl,Nat.succ_pos _⟩
    ·rw [if_neg h0] at h ⊢;exact key _ _ h
   ·rw [if_neg h5] at h ⊢;exact key _ _ h
  | q1=>unfold subF at h ⊢;exact key _ _ h
  | q2=>unfold subF at h ⊢;exact key _ _ h
  | bn=>unfold subF at h ⊢;exact key _ _ h
  | bq=>unfold subF at h ⊢;exact key _ _ h
theorem find_congr {α} {p q:α→Bool}:∀(l:List α),(∀a∈l,p a=q a)→l.find? p=l.find? q
 | [],_=>rfl
 | a::l,h=>by
  rw [List.find?_cons,List.find?_cons,h a (List.mem_cons_self ..),find_congr l fun y hy=>h y (List.mem_cons_of_mem _ hy)]
end Go.Proofs.YtiihpbccabeoeaaGreatDoor
