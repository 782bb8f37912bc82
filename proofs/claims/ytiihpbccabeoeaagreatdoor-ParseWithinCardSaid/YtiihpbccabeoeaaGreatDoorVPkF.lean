/- The walk: a part. -/
import Derived.Test.YtiihpbccabeoeaaGreatDoorVM
import Derived.Test.YtiihpbccabeoeaaGreatDoorVPkE
import Derived.Lib.IndexMore
namespace Go.Proofs.YtiihpbccabeoeaaGreatDoor
open Go.RowKit
set_option linter.unusedVariables false
set_option maxRecDepth 100000
set_option maxHeartbeats 16000000
def jC (w:World) (res:Except Nat (List Dt)) (e:Ending) (w':World):Prop:=match res with
 | .ok ds=>∃(a:OA) (m c:Nat),e=.returned (.tuple #[.slice a m c,.int .i64 0])∧Rd w' (λ b=>w.heap.size≤b) (.sl 8 ds) (.slice a m c)∧K0 w w'
 | .error x=>e=.returned (.tuple #[(),.int .i64 (x:Nat)])∧K0 w w'
def oI (K:Nat):Prop:=∀(w:World) (B:Nat) (s:ByteArray) (d:Nat),Ev w B→s.size≤140737488351232→d+K=40→
 Calls Tryz.prog 31 #[s,.int .i64 (d:Nat)] w (jC w (eQ (ab K) s.data.toList))
theorem T8 {K:Nat} {s:Bs} {w w':World} {e:Ending} {u:Unit} (h:av (ab K) s=.ok u) (hp:jC w (eQ (ab K) s) e w') :
 ∃(a:OA) (m c:Nat),e=.returned (.tuple #[.slice a m c,.int .i64 0])∧K0 w w':=by
 exact WR
theorem O5 {K:Nat} {s:Bs} {w w':World} {e:Ending} {y:Nat} (h:av (ab K) s=.error y) (hp:jC w (eQ (ab K) s) e w') :
 e=.returned (.tuple #[(),.int .i64 (y:Nat)])∧y≠0∧K0 w w':=by
 exact PH
theorem IK (scr:Bs→Except Nat Unit):ec scr []=.ok ():=by simp [ec]
theorem EV (scr:Bs→Except Nat Unit) (p:Pt) (l:List Pt):ec scr (p::l)=match (if p.kind==5 then scr p.text else .ok ()) with
 | .error e=>.error e
 | .ok _=>match ec scr p.word with
  | .error e=>.error e
  | .ok _=>ec scr l:=by
 exact PP
def BA (w:World) (res:Except Nat Unit) (e:Ending) (w':World):Prop:=match res with
 | .ok _=>e=.returned (.tuple #[])∧K0 w w'
 | .error x=>e=lL x∧K0 w w'
theorem IL (K:Nat) (cR:oI K) (N:Nat):∀(n:Nat),n<N→∀(w:World) (B cs:Nat) (tv:Value) (n':Nat) (T:List Tk) (i d:Nat) (D:Nat→Prop) (l:List Pt) (v:Value),RS w B cs tv n' T i d→d+K=40→az w D n l v→Sm l→
 Calls Tryz.prog 204 #[.pointer (some ⟨cs,0,none⟩),v] w (BA w (ec (av (ab K)) l)):=by
 induction N with
 | zero=>intro n hn;omega
 | succ N ih=>
  intro n hn w B cs tv n' T i d D l v du hd hp gM;obtain⟨res,ag⟩:∃res,res=ec (av (ab K)) l:=⟨_,rfl⟩;rw [←ag];have yT:=bW;obtain⟨va,vc,rfl,Hj,hv2⟩:=hp.shape;have bS:=gM.1;have Bw:=Hd gM.2;have tt:=Hd du;have HP:=Hd hp;have vi:=Hd cR;obtain⟨L,hL⟩:∃L,L=l.length:=⟨_,rfl⟩;have HL:=Hd hL;rw [←hL] at bS Hj;rw [←hL];have oE:=Hd ag;have HD:=Hd hd;clear du hp cR gM hL ag hd
  go_enter Tryz.func204,Tryz.ntmps204;go_wp2_with fail;go_loopw [10] (λ k' wr=>∃k:Nat,k'=.int .i64 k∧k≤L∧Hid (res=ec (av (ab K)) (l.drop k))∧Hid (K0 w wr)) (λ k' _=>L - (intOf k').toNat)
  case atStart=>exact⟨0,rfl,nB _,Hd oE.o,Hd (ae.refl _ _)⟩
  case round=>
   obtain⟨k,rfl,hk,HT,HK⟩:=hrel;by_cases aW:k<L
   ·have eC:k<l.length:=by rw [←HL.o];exact aW
    have hp:=HP.o;rw [←HL.o] at hp;obtain⟨g,o,xa,xl,xc,rfl,⟨q0,q1,q2,q3,q4,q5⟩,hx,Jj,hg⟩:=hp.at HK.o eC;have Jm:=ns Bw.o (uD eC);have ag:res=match (if l[k].kind==5 then av (ab K) l[k].text else .ok ()) with
     | .error e=>.error e
     | .ok _=>match ec (av (ab K)) l[k].word with
      | .error e=>.error e
      | .ok _=>ec (av (ab K)) (l.drop (k+1)):=by
     rw [HT.o,List.drop_eq_getElem_cons eC,EV]
    obtain⟨x,i8⟩:∃x,x=l[k]:=⟨_,rfl⟩;rw [←i8] at q0 q1 q2 q3 q5 hx Jm ag;have Eg:=hx.shape;unfold dj at q1 q2 q3;have p1:(k:Int)<(L:Int):=oM
    have ay:=Hd ag;have Sx:=Hd Jm;have mj:=tt.o.keep0 HK.o;obtain⟨r0,r1,r2,_,_⟩:=mj.cells;have AH:=mj.lt;obtain⟨W,hW⟩:∃W,W=wr.alloc (.cells #[.int .i64 (x.kind:Nat),.string ⟨x.text.toArray⟩,.string ⟨x.name.toArray⟩,.string ⟨x.op.toArray⟩,.slice xa xl xc,x.quoted] 67):=⟨_,rfl⟩;have eG:K0 wr W:=by rw [hW];exact (ae.refl _ _).alloc _
    have hR:af W wr.heap.size [.int .i64 (x.kind:Nat),.string ⟨x.text.toArray⟩,.string ⟨x.name.toArray⟩,.string ⟨x.op.toArray⟩,.slice xa xl xc,x.quoted]:=by rw [hW];exact⟨_,nG wr _⟩
    have HR:=Hd hR;have hX2:=λ W2 (h:K0 W W2)=>ih (n - 1) oM W2 B cs tv n' T i d D x.word (.slice xa xl xc) ((mj.keep0 eG).keep0 h) HD.o ((hx.keep eG (λ_ _ _ h=>h)).keep h (λ_ _ _ h=>h)) Jm.2;have M6:=Hd (show ∀W2,RS W2 B cs tv n' T i d→K0 W W2→_ from λ W2 _ h=>hX2 W2 h);have ky:=Hd (HK.o.trans eG k3);have Bv:=Hd (mj.keep0 eG)
    have HW:=Hd hW;clear ag hx Jm i8 Eg mj eG hR hX2 hW hp;by_cases k5:x.kind=5
    ·have t0:((x.kind:Int)==5)=true:=by rw [nH];omega
     have ag:=ay.o;rw [k5,nE rF] at ag;clear k5;cases eY:av (ab K) x.text with
     | error y=>
      rw [eY] at ag;have bO:=Hd ag;have cK:=Hd eY;clear ag eY;obtain⟨⟨c0,c1,c2,c3,c4,c5⟩,_⟩:=HR.o.six;obtain⟨d0,d1,d2,_,_⟩:=Bv.o.cells;have abI:=Bv.o.lt;go_wp2_with fail;rw [←HW.o];go_region_with (
       go_at_call 31;refine (vi.o _ B ⟨x.text.toArray⟩ d ?_ (by rw [nT];show x.text.length≤_;have qd:=Sx.o.1;omega) HD.o).mono ?_;exact Bv.o.ev.keep (S:=λ_=>False) (ae.refl _ _).drew k3;intro e w3 hp;obtain⟨he,hy,aV⟩:=O5 cK.o hp;subst he;have t1:((y:Int) != 0)=true:=by rw [bne_iff_ne];omega
       have bZ:=Hd (ky.o.trans ((ae.refl _ _).drew.trans aV k3) k3);clear hp aV hy)
      all_goals
       go_wp2_with fail;refine (s7 y _).mono ?_;rintro e w4 ⟨rfl,rfl⟩;exact yL
     | ok u=>
      rw [eY] at ag;replace ay:=Hd ag;have cK:=Hd eY;clear ag eY;obtain⟨⟨c0,c1,c2,c3,c4,c5⟩,_⟩:=HR.o.six;obtain⟨d0,d1,d2,_,_⟩:=Bv.o.cells;have abI:=Bv.o.lt;go_wp2_with fail;rw [←HW.o];go_region_with (
       go_at_call 31;refine (vi.o _ B ⟨x.text.toArray⟩ d ?_ (by rw [nT];show x.text.length≤_;have qd:=Sx.o.1;omega) HD.o).mono ?_;exact Bv.o.ev.keep (S:=λ_=>False) (ae.refl _ _).drew k3;intro e w4 hp;obtain⟨a4,m4,c4',he,be⟩:=T8 cK.o hp;subst he;have dO:=Hd ((ae.refl (λ_=>False) W).drew.trans be k3);have qj:=Hd (ky.o.trans dO.o k3)
       have Dp:=Hd (Bv.o.keep0 dO.o);obtain⟨⟨e0,e1,e2,e3,e4,e5⟩,_⟩:=(HR.o.keep dO.o (λ h=>h)).six;clear hp be)
      all_goals
       go_wp2_with fail;exact QY
    ·have t0:((x.kind:Int)==5)=false:=by rw [nA];omega
     have ag:=ay.o;rw [nF (by simpa using k5)] at ag;replace ay:=Hd ag;clear ag k5;have dO:=Hd (ae.refl (λ_=>False) W);have qj:=ky;have Dp:=Bv;obtain⟨⟨e0,e1,e2,e3,e4,e5⟩,_⟩:=HR.o.six;go_wp2_with fail;rw [←HW.o];exact QY
   ·obtain rfl:k=L:=oM
    have p1:¬(k:Int)<(k:Int):=oM
    have bO:=Hd (show res=.ok () by rw [HT.o,List.drop_eq_nil_of_le (by rw [←HL.o];exact nC _),IK]);go_wp2_with fail;go_end0;rw [bO.o];exact⟨rfl,HK.o⟩
theorem MK (K:Nat) (cR:oI K) (w:World) (B cs:Nat) (tv:Value) (n n':Nat) (T:List Tk) (i d:Nat) (D:Nat→Prop) (l:List Pt) (v:Value) (du:RS w B cs tv n' T i d) (hd:d+K=40) (hp:az w D n l v) (hs:Sm l) :
 Calls Tryz.prog 204 #[.pointer (some ⟨cs,0,none⟩),v] w (BA w (ec (av (ab K)) l)):=
 IL K cR (n+1) n (nM _) w B cs tv n' T i d D l v du hd hp hs
def sL (w:World) (B cs:Nat) (tv:Value) (n:Nat) (T:List Tk) (i d:Nat) (res:PR (List Pt)) (e:Ending) (w':World):Prop:=match res with
 | .ok (x,r)=>∃(a:OA) (c m:Nat),gX w B cs tv n T i d (.slice a x.length c) r e w'∧az w' (λ b=>w.heap.size≤b) m x (.slice a x.length c)∧Sm x
 | .error x=>e=lL x∧ae (λ b=>b=cs) w w'
theorem Fs {T:List Tk} {i:Nat} (h:NM T):Sm (ch (T.drop i)).word∧(ch (T.drop i)).text.length≤40000:=by
 rcases nP i T.length with hi | hi
 ·rw [fY hi];have:=h.2 _ (uD hi);exact⟨this.2,this.1⟩
 ·rw [iM hi];exact⟨Sm.nil,nB _⟩
theorem jY (K:Nat) (cR:oI K) (w:World) (B cs n i d:Nat) (tv:Value) (T:List Tk) (h:RS w B cs tv n T i d) (hd:d+K=40) :
 Calls Tryz.prog 198 #[.pointer (some ⟨cs,0,none⟩)] w (sL w B cs tv n T i d (ca (av (ab K)) (T.drop i))):=by
 obtain⟨res,ag⟩:∃res,res=ca (av (ab K)) (T.drop i):=⟨_,rfl⟩;rw [←ag];unfold ca at ag;have bf:=jf w B cs n i d tv T h;have gM:=Fs (i:=i) h.sm;have lZ:=Hd (λ k=>o4 (ts:=T.drop i) k);obtain⟨tk,gB⟩:∃tk,tk=ch (T.drop i):=⟨_,rfl⟩;rw [←gB] at ag bf gM lZ;have kP:=Hd bf;have HH:=Lib.hid h;have Bw:=Hd gM.1;have vi:=Hd cR;have HD:=Hd hd;clear bf h gB gM cR hd
 by_cases k:tk.kind=1
 ·have t0:((tk.kind:Int)==1)=true:=by rw [nH];omega
  rcases Nat.eq_zero_or_pos tk.word.length with h0 | h0
  ·have he:tk.word.isEmpty=true:=by rw [nO h0];rfl
   rw [he,nF sI] at ag;have ay:=Hd ag;clear ag he k lZ;go_enter Tryz.func198,Tryz.ntmps198;go_wp2_with fail;refine kP.o.mono ?_;rintro e w1 ⟨a,c,rfl,hp,hk⟩;rw [h0];exact PE
  ·have he:tk.word.isEmpty=false:=by
    cases hw:tk.word with
    | nil=>rw [hw] at h0;simp at h0
    | cons a b=>rfl
   rw [he,k,nE rF] at ag;have fa:=lZ.o (by rw [k];rfl);have ZZ:=Hd fa;obtain⟨L,hL⟩:∃L,L=tk.word.length:=⟨_,rfl⟩;rw [←hL] at h0;have p1:(0:Int)<(L:Int):=oM
   have HL:=Hd hL;have oE:=Hd ag;clear ag he k lZ hL fa;go_enter Tryz.func198,Tryz.ntmps198;go_wp2_with fail;refine kP.o.mono ?_;rintro e w1 ⟨a,c,rfl,hp,hk⟩;rw [←HL.o];rw [←HL.o] at hp;have XH:=hk.size;obtain⟨W,hW⟩:∃W,W=w1.alloc (.cells #[.int .i64 (tk.kind:Nat),.string ⟨tk.text.toArray⟩,.slice a L c] 109):=⟨_,rfl⟩;have eG:K0 w1 W:=by rw [hW];exact (ae.refl _ _).alloc _
   have hR:af W w1.heap.size [.int .i64 (tk.kind:Nat),.string ⟨tk.text.toArray⟩,.slice a L c]:=by rw [hW];exact mv _ _ _ _ _
   have HK:=Hd (hk.trans eG k3);have HR:=Hd hR;have Z3:=Hd (hp.keep eG (λ_ _ _ h=>h));have du:=HH.o.keep0 HK.o;have tt:=Hd du;have HW:=Hd hW;have xJ:=Hd (show cs<w1.heap.size from uG HH.o.lt XH);have Po:=Hd XH;obtain⟨⟨c0,c1,c2⟩,aW⟩:=hR.three';clear hp hk XH eG hR du hW;go_wp2_with fail;rw [←HW.o];refine (df _).mono ?_;rintro e w2 ⟨rfl,rfl⟩
   obtain⟨d0,d1,d2,f1,f2⟩:=tt.o.cells;have hI:=tt.o.i;have hT:=tt.o.sm.1;have eC:=tt.o.lt;have cM:w1.heap.size≠cs:=by have:=xJ.o;omega
   have p0:(i:Int)≤20000:=oM
   have Yi:(0:Int)≤(i:Int):=oM
   go_wp2_with fail;obtain⟨h2,k2⟩:=tt.o.next ZZ.o;obtain⟨W2,et⟩:∃W2,W2=W.setCell ⟨cs,1,none⟩ (.int .i64 ((i:Int)+1)):=⟨_,rfl⟩;rw [←et] at h2 k2;have hB:=HH.o.cs;have uL:=Z3.o.keep k2 (λ b _ hb e=>oM);have Dp:=Hd h2;have cA:=Hd ((HK.o.mono (λ_ _ h=>h.elim)).trans k2 k3);have YB:=Hd uL;have gF:=Hd (HR.o.keep k2 (λ h=>by have:=xJ.o;omega))
   try rw [←et]
   clear h2 k2 et uL;refine (MK K vi.o W2 B cs tv _ _ T (i+1) d _ tk.word (.slice a L c) Dp.o HD.o YB.o Bw.o).mono ?_;intro e w3 hp;have ag:=oE.o;cases hs:ec (av (ab K)) tk.word with
   | error y=>
    rw [hs] at hp ag;obtain⟨rfl,aV⟩:=hp;have bO:=Hd (show res=.error y from ag);have bZ:=Hd (cA.o.trans aV (λ_ _ h=>h.elim));clear hs ag aV;exact yL
   | ok u=>
    rw [hs] at hp ag;obtain⟨rfl,aV⟩:=hp;have bO:=Hd (show res=.ok (tk.word,(T.drop i).tail) from ag);have bZ:=Hd (cA.o.trans aV (λ_ _ h=>h.elim));obtain⟨⟨e0,e1,e2⟩,AH⟩:=(gF.o.keep aV (λ h=>h)).three';have Z0:=Hd (YB.o.keep aV (λ_ _ _ h=>h));have St:=Hd (Dp.o.keep0 aV);clear hs ag aV;go_wp2_with fail;refine (DR _ _ tk.word (.slice a L c) w3 Z0.o Bw.o).mono ?_
    rintro e w4 ⟨a4,c4,m4,rfl,xM,be⟩;have eU:=Hd (bZ.o.trans be (λ_ _ h=>h.elim));have So:=Hd xM;have aaA:=Hd (St.o.keep0 be);rw [←HL.o];clear xM be;go_wp2_with fail;go_ret;rw [bO.o,aG];have ek:=bZ.o.size;rw [HL.o];exact⟨a4,c4,m4,⟨rfl,i+1,Nat.le_succ _,rfl,aaA.o,eU.o⟩,So.o.mono (λ b _ hb=>nY ek hb),Bw.o⟩
 ·have t0:((tk.kind:Int)==1)=false:=by rw [nA];omega
  rw [nA.2 k,nF sI] at ag;have ay:=Hd ag;clear ag k lZ;go_enter Tryz.func198,Tryz.ntmps198;go_wp2_with fail;refine kP.o.mono ?_;rintro e w1 ⟨a,c,rfl,hp,hk⟩;exact PE
def mL (w:World) (B cs:Nat) (tv:Value) (n:Nat) (T:List Tk) (i d:Nat) (shape:List Value→Prop) (res:PR (List Dt)) (e:Ending) (w':World):Prop:=match res with
 | .ok (ds,r)=>∃vs,gX w B cs tv n T i d (.agg vs.toArray) r e w'∧shape vs∧bV w' (λ b=>w.heap.size≤b) ds vs
 | .error x=>e=lL x∧ae (λ b=>b=cs) w w'
theorem af.two {w:World} {b:Nat} {a0 a1:Value} (h:af w b [a0,a1]):(w.cell? ⟨b,0,none⟩=some a0∧w.cell? ⟨b,1,none⟩=some a1)∧(w.frozen? ⟨b,0,none⟩=false∧w.frozen? ⟨b,1,none⟩=false):=by
 obtain⟨T,h⟩:=h;refine⟨⟨?_,?_⟩,?_,?_⟩<;>simp [World.cell?,World.frozen?,h]
theorem ej (w:World) (b:Nat) (u0 u1:Value):ae (λ x=>x=b) w ((w.setCell ⟨b,0,none⟩ u0).setCell ⟨b,1,none⟩ u1):=by
 have h0:=(ae.refl (λ x=>x=b) w).set1 0 u0 rfl;exact h0.set1 1 u1 rfl
def GA (vs:List Value):Prop:=∃(s:ByteArray) (a:OA) (m c:Nat),vs=[.string s,.slice a m c]
theorem mA (K:Nat) (cR:oI K) (w:World) (B cs n i d:Nat) (tv:Value) (T:List Tk) (h:RS w B cs tv n T i d) (hd:d+K=40) (fa:1≤(T.drop i).length) :
 Calls Tryz.prog 197 #[.pointer (some ⟨cs,0,none⟩)] w (mL w B cs tv n T i d GA (dN (av (ab K)) (T.drop i))):=by
 obtain⟨res,ag⟩:∃res,res=dN (av (ab K)) (T.drop i):=⟨_,rfl⟩;rw [←ag];unfold dN at ag;rw [aG] at ag;have bf:=jf w B cs n i d tv T h;obtain⟨tk,gB⟩:∃tk,tk=ch (T.drop i):=⟨_,rfl⟩;rw [←gB] at ag bf;have hf1:=vK;have kP:=Hd bf;have HH:=Lib.hid h;have vi:=Hd cR;have HD:=Hd hd;have lZ:=Hd fa;have ay:=Hd ag;have yz:=Hd gB.symm;clear bf h gB cR hd fa ag
 go_enter Tryz.func197,Tryz.ntmps197;go_wp2_with fail;obtain⟨W,hW⟩:∃W,W=w.alloc (.cells #[eS,()] 86):=⟨_,rfl⟩;have eG:K0 w W:=by rw [hW];exact (ae.refl _ _).alloc _
 have hR:af W w.heap.size [eS,()]:=by rw [hW];exact⟨_,nG w _⟩
 rw [←hW];have tt:=Hd (HH.o.keep0 eG);have HR:=Hd hR;have dO:=Hd eG;clear eG hR hW kP;refine (jf W B cs n i d tv T tt.o).mono ?_;rw [yz.o];rintro e w1 ⟨a,c,rfl,hp,hk⟩;have dp:=Hd (dO.o.trans hk k3);have ND:=Hd (tt.o.keep0 hk);have ot:=Hd (HR.o.keep hk (λ h=>h));clear hp hk;obtain⟨d0,d1,d2,f1,f2⟩:=ND.o.cells;have hI:=ND.o.i;have hT:=ND.o.sm.1;have p0:(i:Int)≤20000:=oM
 have Yi:(0:Int)≤(i:Int):=oM
 go_wp2_with fail;obtain⟨h2,k2⟩:=ND.o.next lZ.o;obtain⟨W2,et⟩:∃W2,W2=w1.setCell ⟨cs,1,none⟩ (.int .i64 ((i:Int)+1)):=⟨_,rfl⟩;rw [←et] at h2 k2;rw [←et];have Dp:=Hd h2;have aW:=HH.o.lt;have gF:=Hd (ot.o.keep k2 (λ h=>oM));have cA:=Hd ((dp.o.mono (λ_ _ h=>h.elim)).trans k2 k3);clear h2 k2 et d0 d1 d2 f1 f2;refine (jY K vi.o W2 B cs n (i+1) d tv T Dp.o HD.o).mono ?_
 intro e w3 hp;cases hw:ca (av (ab K)) (T.drop (i+1)) with
 | error y=>
  rw [hw] at hp;obtain⟨rfl,aV⟩:=hp;have bO:=Hd (show res=.error y by rw [ay.o,hw]);have bZ:=Hd (cA.o.trans aV k3);clear hw aV;exact yL
 | ok xr=>
  obtain⟨x,r⟩:=xr;rw [hw] at hp;obtain⟨a3,c3,m3,⟨rfl,j,hj,ht,du,aV⟩,hp3,gM⟩:=hp;have bO:=Hd (show res=.ok ([.str tk.text,aB x],r) by rw [ay.o,hw]);have bZ:=Hd (cA.o.trans aV k3);have eV:=Hd (gF.o.keep aV (λ h=>oM));have St:=Hd du;have Z0:=Hd hp3;have HT:=Hd ht;have HJ:=Hd hj;obtain⟨L,hL⟩:∃L,L=x.length:=⟨_,rfl⟩;rw [←hL];have HL:=Hd hL;obtain⟨⟨e0,e1⟩,g0,g1⟩:=eV.o.two
  have AH:=eV.o.lt;clear hw aV du hp3 ht hL gM hj;go_wp2_with fail;refine nJ (v:=.agg #[.string ⟨tk.text.toArray⟩,.slice a3 L c3]) (by simp [results,Tryz.results197,go_sem,e0,e1]) rfl ?_;show mL w B cs tv n T i d GA res _ _;rw [bO.o];have be:=ej w3 w.heap.size (.string ⟨tk.text.toArray⟩) (.slice a3 L c3);have hB:=HH.o.cs;have ek:=cA.o.size;have hBs:=HH.o.ev.low.2.2
  refine⟨[.string ⟨tk.text.toArray⟩,.slice a3 L c3],⟨rfl,j,by have:=HJ.o;omega,HT.o,St.o.keep be (λ b hb e=>oM) (λ e=>oM),bZ.o.fresh be (λ b e=>oM)⟩,⟨_,_,_,_,rfl⟩,.str _,?_,trivial⟩;rw [HL.o];have hp:=(Z0.o.mono (D':=λ b=>w.heap.size<b) (λ b _ hb=>by have h1:=gF.o.lt;omega)).keep be (λ b _ hb e=>oM);rw [HL.o] at hp;exact gv (hp.mono (λ b _ hb=>oM))
theorem vX:∀l:Bs,Lib.index l [61]=match iO l with | none=>-1 | some p=>(p.1.length:Int)
 | []=>rfl
 | c::t=>by
  unfold Lib.index iO;rw [vX t];by_cases h:c=61
  ·subst h;rfl
  ·have h1:([61]:Bs).isPrefixOf (c::t)=false:=by
    show (61==c && true)=false;rw [Bool.and_true,nA];exact λ e=>h e.symm
   have h2:(c==61)=false:=nA.2 h;cases hc:iO t with
   | none=>simp [h1,h2]
   | some p=>
    have h3:((p.1.length:Int) == -1)=false:=by rw [nA];omega
    simp only [h1,h2,h3,Bool.false_eq_true,if_false,Option.map_some,lC];rfl
theorem qt:∀{l:Bs} {p:Bs×Bs},iO l=some p→l=p.1++61::p.2
 | c::t,p,h=>by
  unfold iO at h;split at h
  ·next hc=>cases h;rw [nH.1 hc];rfl
  ·cases h2:iO t with
   | none=>rw [h2] at h;cases h
   | some q=>rw [h2] at h;cases h;rw [qt h2];rfl
theorem K4 {l:Bs} (h:iO l=none):Lib.cut l [61]=(l,[],false):=by
 unfold Lib.cut;rw [vX,h,nF dC]
theorem K5 {l:Bs} {p:Bs×Bs} (h:iO l=some p):Lib.cut l [61]=(p.1,p.2,true):=by
 unfold Lib.cut;rw [vX,h];dsimp only;rw [nE (Int.natCast_nonneg _),Int.toNat_natCast];have e:=qt h;have e1:l.take p.1.length=p.1:=by rw [e];simp
 have e2:l.drop (p.1.length+([61]:Bs).length)=p.2:=by rw [e];simp
 rw [e1,e2]
theorem pH {w:World} {D:Nat→Prop} {n:Nat} {l:List Pt} {g o c:Nat} (h:az w D n l (.slice (some ⟨g,o,none⟩) l.length c)):∃vs:List Value,vs.length=l.length∧
 (∀W,K0 w W→∀j u,(bg l vs)[j]? = some u→W.cell? ((⟨g,o,none⟩:Addr).add j)=some u)∧(∀u∈bg l vs,u.oneCell'=true)∧∀i (hi:i<l.length) (ri:i<vs.length),az w D n l[i].word vs[i]:=by
 cases n with
 | zero=>
  obtain⟨rfl,_⟩:=h;exact⟨[],rfl,λ W _ j u hj=>(by simp [bg] at hj),λ u hu=>(by simp [bg] at hu),λ i hi=>nQ hi (uC _)⟩
 | succ n=>
 obtain⟨a,c,e,D7,tN,H⟩:=h;injection e with e1 e2 e3;have Hw:∀i (hi:i<l.length),∃wv,ik w g (o+i*6) l[i] wv∧az w D n l[i].word wv∧g<w.heap.size:=λ i hi=>by
  obtain⟨g',o',wv,e,hb,_,hp,hq⟩:=H i hi;obtain⟨rfl,rfl⟩:g=g'∧o=o':=by simpa using e1.trans e
  exact⟨wv,hp,hq,hb⟩
 obtain⟨vs,hl,yZ⟩:∃vs:List Value,vs.length=l.length∧∀i (hi:i<l.length) (ri:i<vs.length),ik w g (o+i*6) l[i] vs[i]∧az w D n l[i].word vs[i]∧g<w.heap.size:=
  ⟨List.ofFn (λ i:Fin l.length=>Classical.choose (Hw i.1 i.2)),sI,λ i hi ri=>by
   have:=Classical.choose_spec (Hw i hi);simpa using this⟩
 refine⟨vs,hl,λ W hk j u hj=>?_,yQ hl λ i hi ri=>?_,λ i hi ri=>(yZ i hi ri).2.1.succ⟩
 ·obtain⟨i,r,hi,rfl,hu⟩:=kV hl hj;obtain⟨h1,_,h3⟩:=yZ i hi oM;have:=h1 r u hu;rw [show o+i*6+r=o+(i*6+r) by omega] at this;rw [Addr.add_lit,uH (hk.block g h3 (λ h=>h))];exact this
 ·obtain⟨a2,c2,e2,_,_⟩:=(yZ i hi ri).2.1.shape;exact⟨_,_,_,e2⟩
def Fc (w:World) (D:Nat→Prop) (res:Option (Bs×List Pt)) (e:Ending) (w':World):Prop:=match res with
 | none=>e=.returned (.tuple #[.agg #[eS,()],false])∧K0 w w'
 | some (nm,v)=>∃(a:OA) (c m:Nat),e=.returned (.tuple #[.agg #[.string ⟨nm.toArray⟩,.slice a v.length c],true])∧az w' (λ b=>D b∨w.heap.size≤b) m v (.slice a v.length c)∧K0 w w'
theorem az.tail {w:World} {D:Nat→Prop} {n g o c:Nat} {p:Pt} {t:List Pt} (h:az w D n (p::t) (.slice (some ⟨g,o,none⟩) (p::t).length c)) (a:OA) (ha:a=some ⟨g,o+6,none⟩∨t=[]):az w D n t (.slice a t.length (c - 1)):=by
 cases n with
 | zero=>obtain⟨e,_⟩:=h;cases e
 | succ n=>
  obtain⟨a',c',e,h1,h2,H⟩:=h;injection e with e1 e2 e3;subst e1 e3;rw [lC] at h1;refine⟨a,c - 1,rfl,oM,oM,λ i hi=>?_⟩;rcases ha with rfl | rfl
  ·obtain⟨b,gQ,wv,e,hb,hd,hc,hw⟩:=H (i+1) (by rw [lC];omega);obtain⟨rfl,rfl⟩:g=b∧o=gQ:=by simpa using e
   refine⟨g,o+6,wv,rfl,hb,hd,?_,hw⟩;rw [show o+6+i*6=o+(i+1)*6 by omega];exact hc
  ·simp at hi
theorem y8 (w2:World) (A:Obj) (cs:Array Value) (n:Nat) {e:TypeId} {size:Nat} (hm:n≤maxLen) (hs:cs.size=n*size) :
 ((w2.alloc A).alloc (.cells cs e)).ownsRow (w2.heap.size+1) e size (.slice (some ⟨w2.heap.size+1,0,none⟩) n n) n cs.toList:=by
 have:=World.ownsRow_lit (base:=w2.heap.size+1) (e:=e) (w2.alloc A) cs n sI hm hs;simpa using this
theorem BE {w w2 w5:World} {t1 t2:TypeId} {cs:Array Value} {v:Value} {u0 u1 x y:Value} (hg:((w2.alloc (.cells #[x,y] t1)).alloc (.cells cs t2)).grownBy w5 v.ownBlock) (aW:w.heap.size<w2.heap.size) (hR:af w2 w.heap.size [u0,u1])
 (hv:v.ownBlock=some (w2.heap.size+1)) :
 ((w5.cell? ⟨w2.heap.size,0,none⟩=some x∧w5.cell? ⟨w2.heap.size,1,none⟩=some y)∧w5.frozen? ⟨w2.heap.size,0,none⟩=false∧w5.frozen? ⟨w2.heap.size,1,none⟩=false)∧
 ((w5.cell? ⟨w.heap.size,0,none⟩=some u0∧w5.cell? ⟨w.heap.size,1,none⟩=some u1)∧w5.frozen? ⟨w.heap.size,0,none⟩=false∧w5.frozen? ⟨w.heap.size,1,none⟩=false)∧
 w2.heap.size<w5.heap.size∧w.heap.size<w5.heap.size∧ae (λ b=>b=w2.heap.size+1) w2 w5:=by
 have hk:ae (λ b=>b=w2.heap.size+1) w2 w5:=(((ae.refl _ w2).alloc _).alloc _).grown hg (λ k hk aW=>by rw [hv] at hk;have:=nD hk;omega);have aS:ae (λ b=>b=w2.heap.size+1) (w2.alloc (.cells #[x,y] t1)) w5:=((ae.refl _ (w2.alloc (.cells #[x,y] t1))).alloc _).grown hg (λ k hk aW=>by rw [hv] at hk;have:=nD hk;omega);have h7:=(show af (w2.alloc (.cells #[x,y] t1)) w2.heap.size [x,y] from⟨_,nG w2 _⟩).keep aS oM
 have h8:=hR.keep hk oM;exact⟨h7.two,h8.two,h7.lt,h8.lt,hk⟩
theorem Fr {w w2 w5:World} {D S:Nat→Prop} {n g5 rG N:Nat} {t:List Pt} {vs xs:List Value} {rst:Bs} (hN:N=(dD rst::t).length)
 (aU:w5.ownsRow (w2.heap.size+1) 67 6 (.slice (some ⟨g5,0,none⟩) N rG) N (#[.int .i64 1,.string ⟨rst.toArray⟩,.string ⟨#[]⟩,.string ⟨#[]⟩,.slice none 0 0,.bool false].toList++xs)) (oZ:xs=bg t vs)
 (nc:vs.length=t.length) (rT:∀i (hi:i<t.length) (ri:i<vs.length),az w D n t[i].word vs[i]) (aS:K0 w w2) (hk:ae S w2 w5) (hS:∀b,S b→w2.heap.size≤b) :
 ∃m,az w5 (λ b=>D b∧b<w.heap.size∨w2.heap.size+1≤b) m (dD rst::t) (.slice (some ⟨g5,0,none⟩) N rG):=by
 obtain⟨fA,hg⟩:=wO aU;have hg5:=hg g5 rfl;have ek:=aS.size;subst hN;have hO:ey w5 (λ b=>D b∧b<w.heap.size∨w2.heap.size+1≤b) (.slice (some ⟨g5,0,none⟩) (dD rst::t).length rG) (dD rst::t):=by
  refine⟨.slice none 0 0::vs,n,by simp [nc],?_,λ i hi ri=>?_⟩
  ·rw [oZ] at fA;exact fA
  ·cases i with
   | zero=>exact az.nil _ _ _
   | succ i=>
    rw [lC] at hi ri;have h1:az w (λ b=>D b∧b<w.heap.size) n t[i].word vs[i]:=(rT i oM oM).mono λ b hb hd=>⟨hd,hb⟩;have h2:=(h1.keep aS (λ_ _ _ h=>h)).keep hk (λ b _ hb s=>by have:=hS b s;omega);exact h2.mono λ b _ hb=>⟨.inl ⟨hb.1,hb.2⟩,λ e=>by have h3:g5=b:=nD e;omega⟩
 exact hO.reads (λ x hx=>by have h3:g5=x:=nD hx;exact .inr oM)
theorem DA (w:World) (B n:Nat) (D:Nat→Prop) (l:List Pt) (a:OA) (c:Nat) (vQ:Ev w B) (hp:az w D n l (.slice a l.length c)) (gM:Sm l) (cM:l≠[]) :
 Calls Tryz.prog 199 #[.slice a l.length c] w (Fc w D (dw l)):=by
 obtain⟨res,ag⟩:∃res,res=dw l:=⟨_,rfl⟩;rw [←ag];cases l with
 | nil=>exact nQ rfl cM
 | cons p t=>
  unfold dw at ag;dsimp only at ag;obtain⟨m,hm⟩:=vQ.big;have Jl:=gM.1;have e9:=ns gM.2 (List.mem_cons_self ..);obtain⟨g,o,xa,xl,xc,rfl,⟨q0,q1,q2,q3,q4,q5⟩,hx,Jj,hg⟩:=hp.at (ae.refl _ _) (i:=0) (Nat.succ_pos _);have q0':w.cell? ⟨g,o,none⟩=some (.int .i64 (p.kind:Nat)):=q0;have Yk:w.cell? ⟨g,o+1,none⟩=some (.string ⟨p.text.toArray⟩):=q1;have yT:=bW;have HM:=Hd hm;have Ok:=hp.shape
  have D7:(p::t).length≤c:=by
   exact Kx
  have tN:c≤maxLen:=by
   exact Kx
  have zU:=Hd hp;have XO:0<w.heap.size:=by have:=vQ.low;omega
  obtain⟨L,hL⟩:∃L,L=(p::t).length:=⟨_,rfl⟩;rw [←hL] at D7 Jl;rw [←hL];have p1:0<L:=by rw [hL];simp
  have HL:=Hd hL;have eI:=Hd e9.1;clear q0 q1 q2 q3 q4 q5 hx hp gM cM Ok hm hL e9 vQ;by_cases k:p.kind=1
  ·have t0:((p.kind:Int) != 1)=false:=by rw [bne_eq_false_iff_eq];omega
   rw [k,nE rF] at ag;clear k;have FN:=λ W (hW:W.cell? ⟨0,0,none⟩=some (.int .i64 m))=>Tryz.strings_Cut ⟨p.text.toArray⟩ ⟨#[61]⟩ m W (by rw [nT];show p.text.length<_;have:=eI.o;omega) hW;cases hcut:iO p.text with
   | none=>
    rw [hcut] at ag;have ay:=Hd (show res=none from ag);have e:=K4 hcut;have JJ:=Hd FN;have HE:=Hd (show Lib.cut (⟨p.text.toArray⟩:ByteArray).data.toList (⟨#[61]⟩:ByteArray).data.toList=(p.text,[],false) from e);clear ag hcut FN e;go_enter Tryz.func199,Tryz.ntmps199;go_wp2_with fail;refine (JJ.o _ (by rw [uH (((ae.refl (λ_=>False) w).alloc _).block _ XO (λ h=>h))];exact HM.o)).mono ?_
    rw [HE.o];rintro e w1 ⟨rfl,q,dM⟩;subst dM;go_wp2_with fail;refine nJ (v:=.tuple #[.agg #[eS,()],false]) (by simp [results,Tryz.results199,go_sem]) rfl ?_;rw [ay.o];exact⟨rfl,(((ae.refl _ w).alloc _).drewN q).fresh (ej _ w.heap.size (.string ⟨#[]⟩) (.slice none 0 0)) (λ b e=>oM)⟩
   | some pr=>
    obtain⟨nm,rst⟩:=pr;rw [hcut] at ag;dsimp only at ag;have e:=K5 hcut;have JJ:=Hd FN;have HE:=Hd (show Lib.cut (⟨p.text.toArray⟩:ByteArray).data.toList (⟨#[61]⟩:ByteArray).data.toList=(nm,rst,true) from e);have oW:nm.length≤140737488351232:=by
     have h:=congrArg List.length (qt hcut);rw [lA] at h;have:=eI.o;have h2:p.text.length=nm.length+(61::rst).length:=h;omega
    clear hcut FN e;cases pT:bK nm with
    | false=>
     rw [pT,nF sI] at ag;have ay:=Hd ag;have rT:=λ W=>kO nm W false oW pT;have I7:=Hd rT;clear ag pT rT;go_enter Tryz.func199,Tryz.ntmps199;go_wp2_with fail;refine (JJ.o _ (by rw [uH (((ae.refl (λ_=>False) w).alloc _).block _ XO (λ h=>h))];exact HM.o)).mono ?_;rw [HE.o];rintro e w1 ⟨rfl,q,dM⟩;subst dM;go_wp2_with fail;refine (I7.o _).mono ?_
     rintro e w2 ⟨rfl,aS⟩;have hR:=(show af (w.alloc (.cells #[eS,()] 84)) w.heap.size [eS,()] from⟨_,nG w _⟩).keep (((ae.refl (λ_=>False) _).drewN q).trans aS k3) (λ h=>h);obtain⟨⟨e0,e1⟩,g0,g1⟩:=hR.two;have AJ:=hR.lt;have Gp:=Hd ((((ae.refl (λ_=>False) w).alloc _).drewN q).trans aS k3);clear aS hR
     go_wp2_with fail;refine nJ (v:=.tuple #[.agg #[eS,()],false]) (by simp [results,Tryz.results199,go_sem,e0,e1]) rfl ?_;rw [ay.o];exact⟨rfl,Gp.o.fresh (ej _ w.heap.size (.string ⟨#[]⟩) (.slice none 0 0)) (λ b e=>oM)⟩
    | true=>
     rw [pT,nE rfl] at ag;have ay:=Hd ag;have rT:=λ W=>kO nm W true oW pT;have I7:=Hd rT;clear ag pT rT;rcases nP 1 c with hc | hc
     ·have z1:(1:Int)≤(L:Int):=oM
      have z2:(L:Int)≤(c:Int):=oM
      have z3:(1:Int)<(c:Int):=oM
      go_enter Tryz.func199,Tryz.ntmps199;go_wp2_with fail;refine (JJ.o _ (by rw [uH (((ae.refl (λ_=>False) w).alloc _).block _ XO (λ h=>h))];exact HM.o)).mono ?_;rw [HE.o];rintro e w1 ⟨rfl,q,dM⟩;subst dM;go_wp2_with fail;refine (I7.o _).mono ?_;rintro e w2 ⟨rfl,aS⟩;have hR:=(show af (w.alloc (.cells #[eS,()] 84)) w.heap.size [eS,()] from⟨_,nG w _⟩).keep (((ae.refl (λ_=>False) _).drewN q).trans aS k3) (λ h=>h)
      obtain⟨⟨e0,e1⟩,g0,g1⟩:=hR.two;have AJ:=hR.lt;have HR:=Hd hR;have Gp:=Hd ((((ae.refl (λ_=>False) w).alloc _).drewN q).trans aS k3);clear aS hR;have iH:=zU.o.tail (some ⟨g,o+6,none⟩) (.inl rfl);have ye:t.length=L - 1:=by have:=HL.o;rw [lC] at this;omega
      obtain⟨vs,nc,OJ,Hj,rT⟩:=pH iH;rw [ye] at iH;cases du:rst with
      | nil=>
       have bO:=Hd (show res=some (nm,t) by rw [ay.o,du];rfl);have HPX:=Hd iH;have xI:=Hd ye;clear iH OJ Hj rT nc ye du;go_wp2_with fail;refine nJ (v:=.tuple #[.agg #[.string ⟨nm.toArray⟩,.slice (some ⟨g,o+6,none⟩) (L - 1) (c - 1)],true]) (by simp [results,Tryz.results199,go_sem,e0,e1,AJ]) rfl ?_;rw [bO.o];have aV:=ej w2 w.heap.size (.string ⟨nm.toArray⟩) (.slice (some ⟨g,o+6,none⟩) (L - 1) (c - 1))
       have bp:=(Gp.o.fresh aV (λ b e=>oM)).alloc (.cells #[.string ⟨nm.toArray⟩,.slice (some ⟨g,o+6,none⟩) (L - 1) (c - 1)] 84);refine⟨some ⟨g,o+6,none⟩,c - 1,n,by rw [xI.o],?_,bp⟩;exact QH
      | cons c0 t0=>
       have bO:=Hd (show res=some (nm,dD (c0::t0)::t) by rw [ay.o,du];rfl);have sE:(bg t vs).length=(L - 1)*6:=by rw [fw nc,ye]
       obtain⟨xs,oZ⟩:∃xs,xs=bg t vs:=⟨_,rfl⟩;rw [←oZ] at sE OJ Hj;have mG:=Hd oZ;have HVC:=Hd OJ;have HV1:=Hd Hj;have I7:=Hd rT;have SD:=Hd nc;have xI:=Hd ye;have I9:=Hd sE;obtain⟨i0,fo,fC,fp,fq⟩:=info_parts ef;clear iH OJ Hj rT nc ye du oZ sE;go_wp2_with (at_builtin;refine wpList_append_own _ rfl _ _ 29 rfl (w2.heap.size+1) 67 i0 _ 6 88 Tryz.underlying29 fo fC fp fq rfl dC _ _ _ rfl (y8 _ _ _ 1 dC rfl) ⟨g,o+6,none⟩ (L - 1) (c - 1) xs rfl I9.o (HVC.o _ ((Gp.o.alloc _).alloc _)) HV1.o uM oM (by first | (simp;done) | (simp;omega)) ?_;intro v' w5 aU ao Hf;obtain⟨g5,rG,rfl,hg5,gT⟩:=aU.form oM;have h7:=BE ao AJ HR.o (x:=.string ⟨nm.toArray⟩) (y:=.slice (some ⟨g,o+6,none⟩) (L - 1) (c - 1)) rfl;obtain⟨⟨⟨b0,b1⟩,bf0,bf1⟩,⟨⟨r0,r1⟩,rf0,rf1⟩,hl7,hlR,XF⟩:=h7;have ql:=Hd aU;have JQ:=Hd XF;clear aU ao Hf e0 e1 g0 g1 XF)
       refine nJ (v:=.tuple #[.agg #[.string ⟨nm.toArray⟩,.slice (some ⟨g5,0,none⟩) (1+(L - 1)) rG],true]) (by simp [results,Tryz.results199,go_sem,r0,r1]) rfl ?_;rw [bO.o];have Nk:ae (λ b=>b=w2.heap.size) w5 (w5.setCell ⟨w2.heap.size,1,none⟩ (.slice (some ⟨g5,0,none⟩) (1+(L - 1)) rG)):=(ae.refl _ _).setCell _ _ λ_=>rfl;have Za:=ej (w5.setCell ⟨w2.heap.size,1,none⟩ (.slice (some ⟨g5,0,none⟩) (1+(L - 1)) rG)) w.heap.size (.string ⟨nm.toArray⟩) (.slice (some ⟨g5,0,none⟩) (1+(L - 1)) rG)
       have ek:=Gp.o.size;have bp:K0 w _:=((Gp.o.fresh JQ.o (λ b e=>oM)).fresh Nk (λ b e=>oM)).fresh Za (λ b e=>oM);obtain⟨m',hm'⟩:=Fr (rst:=c0::t0) (by have:=xI.o;rw [lC];omega) ql.o mG.o SD.o I7.o Gp.o JQ.o (λ b e=>oM);have hl:1+(L - 1)=(dD (c0::t0)::t).length:=by have:=xI.o;rw [lC];omega
       exact PC
     ·obtain rfl:c=1:=oM
      obtain rfl:L=1:=oM
      go_enter Tryz.func199,Tryz.ntmps199;go_wp2_with fail;refine (JJ.o _ (by rw [uH (((ae.refl (λ_=>False) w).alloc _).block _ XO (λ h=>h))];exact HM.o)).mono ?_;rw [HE.o];rintro e w1 ⟨rfl,q,dM⟩;subst dM;go_wp2_with fail;refine (I7.o _).mono ?_;rintro e w2 ⟨rfl,aS⟩;have hR:=(show af (w.alloc (.cells #[eS,()] 84)) w.heap.size [eS,()] from⟨_,nG w _⟩).keep (((ae.refl (λ_=>False) _).drewN q).trans aS k3) (λ h=>h)
      obtain⟨⟨e0,e1⟩,g0,g1⟩:=hR.two;have AJ:=hR.lt;have HR:=Hd hR;have Gp:=Hd ((((ae.refl (λ_=>False) w).alloc _).drewN q).trans aS k3);clear aS hR;have iH:=zU.o.tail (some ⟨g,o,none⟩) (.inr (nO (by have:=HL.o;rw [lC] at this;omega)));have ye:t.length=0:=by have:=HL.o;rw [lC] at this;omega
      obtain⟨vs,nc,OJ,Hj,rT⟩:=pH iH;rw [ye] at iH;cases du:rst with
      | nil=>
       have bO:=Hd (show res=some (nm,t) by rw [ay.o,du];rfl);have HPX:=Hd iH;have xI:=Hd ye;clear iH OJ Hj rT nc ye du;go_wp2_with fail;refine nJ (v:=.tuple #[.agg #[.string ⟨nm.toArray⟩,.slice (some ⟨g,o,none⟩) 0 0],true]) (by simp [results,Tryz.results199,go_sem,e0,e1,AJ]) rfl ?_;rw [bO.o];have aV:=ej w2 w.heap.size (.string ⟨nm.toArray⟩) (.slice (some ⟨g,o,none⟩) 0 0)
       have bp:=(Gp.o.fresh aV (λ b e=>oM)).alloc (.cells #[.string ⟨nm.toArray⟩,.slice (some ⟨g,o,none⟩) 0 0] 84);refine⟨some ⟨g,o,none⟩,0,n,by rw [xI.o],?_,bp⟩;exact QH
      | cons c0 t0=>
       have bO:=Hd (show res=some (nm,dD (c0::t0)::t) by rw [ay.o,du];rfl);have sE:(bg t vs).length=0*6:=by rw [fw nc,ye]
       obtain⟨xs,oZ⟩:∃xs,xs=bg t vs:=⟨_,rfl⟩;rw [←oZ] at sE OJ Hj;have mG:=Hd oZ;have HVC:=Hd OJ;have HV1:=Hd Hj;have I7:=Hd rT;have SD:=Hd nc;have xI:=Hd ye;have I9:=Hd sE;obtain⟨i0,fo,fC,fp,fq⟩:=info_parts ef;clear iH OJ Hj rT nc ye du oZ sE;go_wp2_with (at_builtin;refine wpList_append_own _ rfl _ _ 29 rfl (w2.heap.size+1) 67 i0 _ 6 88 Tryz.underlying29 fo fC fp fq rfl dC _ _ _ rfl (y8 _ _ _ 1 dC rfl) ⟨g,o,none⟩ 0 0 xs rfl I9.o (HVC.o _ ((Gp.o.alloc _).alloc _)) HV1.o uM oM (by first | (simp;done) | (simp;omega)) ?_;intro v' w5 aU ao Hf;obtain⟨g5,rG,rfl,hg5,gT⟩:=aU.form oM;have h7:=BE ao AJ HR.o (x:=.string ⟨nm.toArray⟩) (y:=.slice (some ⟨g,o,none⟩) 0 0) rfl;obtain⟨⟨⟨b0,b1⟩,bf0,bf1⟩,⟨⟨r0,r1⟩,rf0,rf1⟩,hl7,hlR,XF⟩:=h7;have ql:=Hd aU;have JQ:=Hd XF;clear aU ao Hf e0 e1 g0 g1 XF)
       refine nJ (v:=.tuple #[.agg #[.string ⟨nm.toArray⟩,.slice (some ⟨g5,0,none⟩) 1 rG],true]) (by simp [results,Tryz.results199,go_sem,r0,r1]) rfl ?_;rw [bO.o];have Nk:ae (λ b=>b=w2.heap.size) w5 (w5.setCell ⟨w2.heap.size,1,none⟩ (.slice (some ⟨g5,0,none⟩) 1 rG)):=(ae.refl _ _).setCell _ _ λ_=>rfl;have Za:=ej (w5.setCell ⟨w2.heap.size,1,none⟩ (.slice (some ⟨g5,0,none⟩) 1 rG)) w.heap.size (.string ⟨nm.toArray⟩) (.slice (some ⟨g5,0,none⟩) 1 rG)
       have ek:=Gp.o.size;have bp:K0 w _:=((Gp.o.fresh JQ.o (λ b e=>oM)).fresh Nk (λ b e=>oM)).fresh Za (λ b e=>oM);obtain⟨m',hm'⟩:=Fr (rst:=c0::t0) (by have:=xI.o;rw [lC];omega) ql.o mG.o SD.o I7.o Gp.o JQ.o (λ b e=>oM);have hl:1=(dD (c0::t0)::t).length:=by have:=xI.o;rw [lC];omega
       exact PC
  ·have t0:((p.kind:Int) != 1)=true:=by rw [bne_iff_ne];omega
   rw [nF (by simpa using k)] at ag;have ay:=Hd ag;clear k ag;go_enter Tryz.func199,Tryz.ntmps199;go_wp2_with fail;refine nJ (v:=.tuple #[.agg #[eS,()],false]) (by simp [results,Tryz.results199,go_sem]) rfl ?_;rw [ay.o];exact⟨rfl,(ae.refl _ w).alloc _⟩
def jA (ds:List Dt):Prop:=∃(kind:Nat) (nt:Bool) (nm:List UInt8) (ws gs rs ks ar:List Dt),ds=cE kind nt nm ws gs rs ks ar
theorem jA.len {ds:List Dt} (h:jA ds):ds.length=8:=by
 obtain⟨_,_,_,_,_,_,_,_,rfl⟩:=h;rfl
def gD (l:List Dt):Prop:=∃xs:List (List Dt),l=xs.flatten∧∀x∈xs,jA x
theorem gD.nil:gD []:=⟨[],rfl,λ x hx=>by cases hx⟩
theorem gD.of {d:List Dt} (h:jA d):gD d:=⟨[d],sI,λ x hx=>by rw [List.mem_singleton.1 hx];exact h⟩
theorem gD.app {l m:List Dt} (h:gD l) (k:gD m):gD (l++m):=by
 obtain⟨xs,rfl,hx⟩:=h;obtain⟨ys,rfl,hy⟩:=k;exact⟨xs++ys,sI,λ x h=>by rcases List.mem_append.1 h with h | h;exact hx x h;exact hy x h⟩
theorem BV:∀{xs:List (List Dt)},(∀x∈xs,jA x)→xs.flatten.length=xs.length*8
 | [],_=>rfl
 | x::xs,h=>by
  rw [List.flatten_cons,lA,(h x (List.mem_cons_self ..)).len,BV (λ y hy=>h y (List.mem_cons_of_mem _ hy)),lC];omega
theorem gD.one {l:List Dt} (h:gD l) (hl:l.length=8):jA l:=by
 obtain⟨xs,rfl,hx⟩:=h;rw [BV hx] at hl;cases xs with
 | nil=>simp at hl
 | cons x t=>
  cases t with
  | nil=>
   rw [List.flatten_cons,List.flatten_nil,List.append_nil];exact hx x (List.mem_cons_self ..)
  | cons y z=>rw [lC,lC] at hl;omega
theorem cC {w:World} {D:Nat→Prop} {ds:List Dt} {vs:List Value} (hn:jA ds) (h:bV w D ds vs):∃(k:Int) (b:Bool) (s:ByteArray) (a0:OA) (n0 c0:Nat) (a1:OA) (n1 c1:Nat) (a2:OA) (n2 c2:Nat) (a3:OA) (n3 c3:Nat) (a4:OA) (n4 c4:Nat),vs=[.int .i64 k,.bool b,.string s,.slice a0 n0 c0,.slice a1 n1 c1,.slice a2 n2 c2,.slice a3 n3 c3,.slice a4 n4 c4]:=by
 obtain⟨kind,nt,nm,ws,gs,rs,ks,ar,rfl⟩:=hn
 match vs,h with
 | [v0,v1,v2,v3,v4,v5,v6,v7],⟨h0,h1,h2,h3,h4,h5,h6,h7,_⟩=>
  cases h0;cases h1;cases h2;obtain⟨a3,n3,c3,rfl,_⟩:=h3.shape dC;obtain⟨a4,n4,c4,rfl,_⟩:=h4.shape dC;obtain⟨a5,n5,c5,rfl,_⟩:=h5.shape dC;obtain⟨a6,n6,c6,rfl,_⟩:=h6.shape dC;obtain⟨a7,n7,c7,rfl,_⟩:=h7.shape dC;exact⟨_,_,_,_,_,_,_,_,_,_,_,_,_,_,_,_,_,_,rfl⟩
theorem af.eight {w:World} {b:Nat} {v0 v1 v2 v3 v4 v5 v6 v7:Value} (h:af w b [v0,v1,v2,v3,v4,v5,v6,v7]) :
 (w.cell? ⟨b,0,none⟩=some v0∧w.cell? ⟨b,1,none⟩=some v1∧w.cell? ⟨b,2,none⟩=some v2∧w.cell? ⟨b,3,none⟩=some v3∧w.cell? ⟨b,4,none⟩=some v4∧w.cell? ⟨b,5,none⟩=some v5∧w.cell? ⟨b,6,none⟩=some v6∧w.cell? ⟨b,7,none⟩=some v7)∧
 (w.frozen? ⟨b,0,none⟩=false∧w.frozen? ⟨b,1,none⟩=false∧w.frozen? ⟨b,2,none⟩=false∧w.frozen? ⟨b,3,none⟩=false∧w.frozen? ⟨b,4,none⟩=false∧w.frozen? ⟨b,5,none⟩=false∧w.frozen? ⟨b,6,none⟩=false∧w.frozen? ⟨b,7,none⟩=false):=by
 obtain⟨T,h⟩:=h;refine⟨⟨?_,?_,?_,?_,?_,?_,?_,?_⟩,?_,?_,?_,?_,?_,?_,?_,?_⟩<;>simp [World.cell?,World.frozen?,h]
theorem ap (w:World) (b:Nat) (u0 u1 u2 u3 u4 u5 u6 u7:Value):ae (λ x=>x=b) w ((((((((w.setCell ⟨b,0,none⟩ u0).setCell ⟨b,1,none⟩ u1).setCell ⟨b,2,none⟩ u2).setCell ⟨b,3,none⟩ u3).setCell ⟨b,4,none⟩ u4).setCell ⟨b,5,none⟩ u5).setCell ⟨b,6,none⟩ u6).setCell ⟨b,7,none⟩ u7):=by
 have h0:=(ae.refl (λ x=>x=b) w).set1 0 u0 rfl;have h1:=h0.set1 1 u1 rfl;have h2:=h1.set1 2 u2 rfl;have h3:=h2.set1 3 u3 rfl;have h4:=h3.set1 4 u4 rfl;have h5:=h4.set1 5 u5 rfl;have h6:=h5.set1 6 u6 rfl;exact h6.set1 7 u7 rfl
theorem lo {w:World} {b:Nat} {v0 v1 v2 v3 v4 v5 v6 v7:Value} (h:af w b [v0,v1,v2,v3,v4,v5,v6,v7]) (u0 u1 u2 u3 u4 u5 u6 u7:Value):af ((((((((w.setCell ⟨b,0,none⟩ u0).setCell ⟨b,1,none⟩ u1).setCell ⟨b,2,none⟩ u2).setCell ⟨b,3,none⟩ u3).setCell ⟨b,4,none⟩ u4).setCell ⟨b,5,none⟩ u5).setCell ⟨b,6,none⟩ u6).setCell ⟨b,7,none⟩ u7) b [u0,u1,u2,u3,u4,u5,u6,u7]:=
 (((((((h.set 0 u0).set 1 u1).set 2 u2).set 3 u3).set 4 u4).set 5 u5).set 6 u6).set 7 u7
theorem aD (w:World) (v0 v1 v2 v3 v4 v5 v6 v7:Value) (t:TypeId):af (w.alloc (.cells #[v0,v1,v2,v3,v4,v5,v6,v7] t)) w.heap.size [v0,v1,v2,v3,v4,v5,v6,v7]:=⟨t,nG w _⟩
theorem Mx {w:World} {D:Nat→Prop} {ds:List Dt} {a:OA} {c:Nat} (h:Rd w D (.sl 8 ds) (.slice a 1 c)) (hn:jA ds):∃(g o:Nat) (k:Int) (b:Bool) (s:ByteArray) (a0:OA) (n0 c0:Nat) (a1:OA) (n1 c1:Nat) (a2:OA) (n2 c2:Nat) (a3:OA) (n3 c3:Nat) (a4:OA) (n4 c4:Nat),
 a=some ⟨g,o,none⟩∧g<w.heap.size∧(w.cell? ⟨g,o,none⟩=some (.int .i64 k)∧w.cell? ⟨g,o+1,none⟩=some (.bool b)∧w.cell? ⟨g,o+2,none⟩=some (.string s)∧w.cell? ⟨g,o+3,none⟩=some (.slice a0 n0 c0)∧w.cell? ⟨g,o+4,none⟩=some (.slice a1 n1 c1)∧w.cell? ⟨g,o+5,none⟩=some (.slice a2 n2 c2)∧w.cell? ⟨g,o+6,none⟩=some (.slice a3 n3 c3)∧w.cell? ⟨g,o+7,none⟩=some (.slice a4 n4 c4))∧bV w D ds [k,b,s,.slice a0 n0 c0,.slice a1 n1 c1,.slice a2 n2 c2,.slice a3 n3 c3,.slice a4 n4 c4]:=by
 cases h with
 | sl _ _ g o m c vs hm Ot hc hb hD hv h=>
  have hr:bV w D ds [vs 0,vs 1,vs 2,vs 3,vs 4,vs 5,vs 6,vs 7]:=by
   obtain⟨kind,nt,nm,ws,gs,rs,ks,ar,rfl⟩:=hn;have h8:(cE kind nt nm ws gs rs ks ar).length=8:=rfl;exact⟨h 0 oM,h 1 oM,h 2 oM,h 3 oM,h 4 oM,h 5 oM,h 6 oM,h 7 oM,trivial⟩
  have hl:=hn.len;obtain⟨k,b,s,a0,n0,c0,a1,n1,c1,a2,n2,c2,a3,n3,c3,a4,n4,c4,yZ⟩:=cC hn hr;have dU:=hr;rw [yZ] at dU;simp only [List.cons.injEq,and_true] at yZ;obtain⟨e0,e1,e2,e3,e4,e5,e6,e7⟩:=yZ;refine⟨g,o,k,b,s,a0,n0,c0,a1,n1,c1,a2,n2,c2,a3,n3,c3,a4,n4,c4,rfl,hb,⟨?_,?_,?_,?_,?_,?_,?_,?_⟩,dU⟩
  ·rw [←e0];exact hv 0 oM
  ·rw [←e1];exact hv 1 oM
  ·rw [←e2];exact hv 2 oM
  ·rw [←e3];exact hv 3 oM
  ·rw [←e4];exact hv 4 oM
  ·rw [←e5];exact hv 5 oM
  ·rw [←e6];exact hv 6 oM
  ·rw [←e7];exact hv 7 oM
theorem Rd.len8 {w:World} {D:Nat→Prop} {ds:List Dt} {a:OA} {m c:Nat} (h:Rd w D (.sl 8 ds) (.slice a m c)):ds.length=m*8∧c≤maxLen:=by
 obtain⟨a',m',c',e,h1,_,h2⟩:=h.shape dC;injection e with e1 e2 e3;subst e2 e3;exact⟨h1,h2⟩
theorem aT:Tryz.prog.cellsOf 44=8:=kR
theorem jm:(Tryz.prog.info? 44).map (λ i=>(i.zero,i.size,i.bytes))=some (some (.agg #[.int .i64 0,false,eS,(),(),(),(),()]),8,152):=kR
def NL (w:World) (D:Nat→Prop) (ds:List Dt) (e:Ending) (w':World):Prop:=∃vs,e=.returned (.agg vs.toArray)∧jA ds∧bV w' D ds vs∧K0 w w'
theorem Gd (w:World) (D:Nat→Prop) (ds:List Dt) (a:OA) (m c:Nat) (h:Rd w D (.sl 8 ds) (.slice a m c)) (hn:gD ds) :
 Calls Tryz.prog 90 #[.slice a m c] w (NL w D (mi ds)):=by
 obtain⟨bS,bo⟩:=h.len8;have ov:=aT;have kS:=Hd bo;clear bo;by_cases h1:m=1
 ·subst h1;have e:mi ds=ds:=by unfold mi;rw [nE oM]
  have eJ:=hn.one oM;obtain⟨g,o,k,b,s,a0,n0,c0,a1,n1,c1,a2,n2,c2,a3,n3,c3,a4,n4,c4,rfl,hg,⟨q0,q1,q2,q3,q4,q5,q6,q7⟩,hr⟩:=Mx h eJ;rw [e];have HR:=Hd hr;have lY:=Hd eJ;clear h hn hr e eJ bS;go_enter Tryz.func90,Tryz.ntmps90;go_wp2_with fail;refine nJ (v:=.agg #[k,b,s,.slice a0 n0 c0,.slice a1 n1 c1,.slice a2 n2 c2,.slice a3 n3 c3,.slice a4 n4 c4]) (by simp [results,Tryz.results90,go_sem]) rfl ?_
  have hk:=(ae.refl (λ_=>False) w).alloc (.cells #[k,b,s,.slice a0 n0 c0,.slice a1 n1 c1,.slice a2 n2 c2,.slice a3 n3 c3,.slice a4 n4 c4] 44);exact⟨[k,b,s,.slice a0 n0 c0,.slice a1 n1 c1,.slice a2 n2 c2,.slice a3 n3 c3,.slice a4 n4 c4],rfl,lY.o,HR.o.keep hk (λ_ _ _ h=>h),hk⟩
 ·have e:mi ds=cE 5 false [] [] [] [] ds []:=by unfold mi;rw [nF oM]
  have t0:((m:Int)==1)=false:=by rw [nA];omega
  rw [e];have HH:=Lib.hid h;clear h hn e h1 bS;go_enter Tryz.func90,Tryz.ntmps90;go_wp2_with fail;refine nJ (v:=.agg #[.int .i64 5,false,eS,(),(),(),.slice a m c,()]) (by simp [results,Tryz.results90,go_sem]) rfl ?_;have hk:=(ae.refl (λ_=>False) w).alloc (.cells #[.int .i64 5,false,eS,(),(),(),.slice a m c,()] 44)
  exact⟨[.int .i64 5,false,eS,(),(),(),.slice a m c,()],rfl,⟨_,_,_,_,_,_,_,_,rfl⟩,⟨.int _,.bool _,.str _,.nil _ _ _ (nB _),.nil _ _ _ (nB _),.nil _ _ _ (nB _),HH.o.keep hk (λ_ _ _ h=>h),.nil _ _ _ (nB _),trivial⟩,hk⟩
def eu (w:World) (B cs:Nat) (tv:Value) (n:Nat) (T:List Tk) (i d:Nat) (shape:List Value→Prop) (res:PR (List Dt)) (e:Ending) (w':World):Prop:=match res with
 | .ok (ds,r)=>∃vs,gX w B cs tv n T i d (.agg vs.toArray) r e w'∧shape vs∧jA ds∧bV w' (λ b=>w.heap.size≤b) ds vs
 | .error x=>e=lL x∧ae (λ b=>b=cs) w w'
def vd (vs:List Value):Prop:=True
def Bp (vs:List Value):Prop:=vs[5]? = some (.slice none 0 0)
def iI (K:Nat):Prop:=∀(w:World) (B cs n i d:Nat) (tv:Value) (T:List Tk),RS w B cs tv n T i d→d+K=40→
 Calls Tryz.prog 154 #[.pointer (some ⟨cs,0,none⟩)] w (eu w B cs tv n T i d vd (ab K (T.drop i)))
structure LI (w0 w:World) (B cs:Nat) (tv:Value) (n:Nat) (T:List Tk) (d I:Nat) (l:Value) (k:Nat) (Ty:TypeId) (m:Nat) (ds:List Dt):Prop where
 rs:RS w B cs tv n T I d
 own:eM w (λ b=>w0.heap.size≤b) l k Ty m ds
 low:∀g,l.ownBlock=some g→w0.heap.size≤g
 kp:ae (λ b=>b=cs) w0 w
section
variable {w0 w w4:World} {B cs:Nat} {tv:Value} {n:Nat} {T:List Tk} {d I J:Nat} {l:Value} {k:Nat} {Ty:TypeId} {m:Nat} {ds:List Dt}
theorem LI.move (h:LI w0 w B cs tv n T d I l k Ty m ds) (hc:cs<w0.heap.size) (hk:ae (λ b=>b=cs) w w4) (du:RS w4 B cs tv n T J d):LI w0 w4 B cs tv n T d J l k Ty m ds:=
 ⟨du,h.own.keep hk (λ b _ hb e=>oM) (λ g hg e=>by have:=h.low g hg;omega),h.low,h.kp.trans hk (λ_ _ e=>e)⟩
theorem LI.keep0 (h:LI w0 w B cs tv n T d I l k Ty m ds) (hk:K0 w w4):LI w0 w4 B cs tv n T d I l k Ty m ds:=
 ⟨h.rs.keep0 hk,h.own.keep hk (λ b _ _ e=>e) (λ g _ e=>e),h.low,h.kp.trans hk (λ_ _ e=>e.elim)⟩
theorem LI.more (h:LI w0 w B cs tv n T d I l k Ty m ds) (hc:cs<w0.heap.size) (hk:ae (λ b=>b=cs) w w4) (du:RS w4 B cs tv n T J d) {d2:List Dt} {us:List Value} (hx:bV w4 (λ b=>w.heap.size≤b) d2 us) :
 ∃xs,w4.ownsRow 0 Ty k l m xs∧∀(gg aC:Nat) (w5:World) (o:Obj),w5.ownsRow 0 Ty k (.slice (some ⟨gg,0,none⟩) (m+1) aC) (m+1) (xs++us)→(w4.alloc o).grownBy w5 l.ownBlock→(l.ownBlock=some gg∨gg=w4.heap.size+1)→
  LI w0 w5 B cs tv n T d J (.slice (some ⟨gg,0,none⟩) (m+1) aC) k Ty (m+1) (ds++d2):=by
 have h4:=h.move hc hk du;have ek:=h.kp.size;have hB:=du.cs;obtain⟨xs,hr,ho⟩:=h4.own;refine⟨xs,ho,λ gg aC w5 o aU ao bf=>?_⟩;have bi:ae (λ b=>l.ownBlock=some b) w4 w5:=((ae.refl _ w4).alloc o).grown ao (λ k hk _=>hk);have fA:=h4.low;have Hi:=hk.size;refine⟨du.keep bi (λ b hb e=>by have:=fA b e;omega) (λ e=>by have:=fA cs e;omega),?_,λ g hg=>?_,h4.kp.trans bi (λ b hb e=>by have:=fA b e;omega)⟩
 ·have pX:bV w4 (λ b=>w0.heap.size≤b∧l.ownBlock≠some b) d2 us:=hx.mono λ b _ hb=>⟨oM,λ e=>by have:=h.own.lt e;omega⟩;exact eM.grow (B:=w0.heap.size) hr pX aU bi (λ y hy=>by
   have qG:gg=y:=nD hy;rcases bf with h1 | h1
   ·exact .inl (by rw [h1,qG])
   ·exact .inr oM)
 ·exact Qs
theorem LI.one {us:List Value} {d2:List Dt} {w1:World} (du:RS w4 B cs tv n T J d) (hx:bV w4 (λ b=>w0.heap.size≤b) d2 us) (hk:ae (λ b=>b=cs) w0 w4) (hl:us.length=k) (hw:w1=w4.alloc (.cells us.toArray Ty)) :
 LI w0 w1 B cs tv n T d J (.slice (some ⟨w4.heap.size,0,none⟩) 1 1) k Ty 1 d2:=by
 have bt:K0 w4 w1:=by rw [hw];exact (ae.refl _ _).alloc _
 have ek:=hk.size;refine⟨du.keep0 bt,⟨us,?_,?_⟩,λ g hg=>by have h1:w4.heap.size=g:=nD hg;omega,hk.trans bt (λ_ _ e=>e.elim)⟩
 ·have h2:bV w4 (λ b=>w0.heap.size≤b∧b<w4.heap.size) d2 us:=hx.lt;exact (h2.keep bt (λ_ _ _ e=>e)).mono λ b _ hb=>⟨hb.1,λ e=>by have h3:w4.heap.size=b:=nD e;omega⟩
 ·rw [hw];have:=World.ownsRow_lit (base:=0) (e:=Ty) (size:=k) w4 us.toArray 1 (nB _) dC (by simp [hl]);simpa using this
end
theorem eK {w w3 w4:World} {B cs:Nat} {tv:Value} {n:Nat} {T:List Tk} {d J X:Nat} {ds:List Dt} {vs:List Value} (hk:ae (λ b=>b=cs) w w3) (du:RS w3 B cs tv n T J d) (hX:w.heap.size<X) (hc:cs<w.heap.size)
 (hr:bV w3 (λ b=>X≤b) ds vs) (h4:ae (λ b=>b=w.heap.size) w3 w4):RS w4 B cs tv n T J d∧ae (λ b=>b=cs) w w4∧bV w4 (λ b=>w.heap.size≤b) ds vs:=by
 have hB:=du.cs;exact⟨du.keep h4 (λ b hb e=>oM) (λ e=>oM),hk.fresh h4 (λ b e=>oM),(hr.keep h4 (λ b _ hb e=>oM)).mono (λ b _ hb=>oM)⟩
def fG (q:Bool) (p:PR (List Dt)):PR (List Dt):=match p with
 | .error e=>.error e
 | .ok (l,r2)=>if l.length=8∧q=false then .ok (l,r2) else .ok (cE 2 q [] [] [] [] l [],r2)
theorem tX (cmd:List Tk→PR (List Dt)) (ts:List Tk):bh cmd ts=match cmd (G0 (aF [33] ts) ts) with
 | .error e=>.error e
 | .ok (d,r)=>fG (aF [33] ts) (cr cmd (r.length+1) d r):=by
 unfold bh fG;have e:G0 (aF [33] ts) ts=if aF [33] ts then ts.tail else ts:=by cases aF [33] ts<;>rfl
 rw [e];cases cmd (if aF [33] ts=true then ts.tail else ts) with
 | error y=>rfl
 | ok x=>rfl
theorem jF (cmd:List Tk→PR (List Dt)) (n:Nat) (acc:List Dt) (ts:List Tk):cr cmd (n+1) acc ts=if aj [124] ts then (match cmd (ai ts.tail) with
 | .error e=>.error e
 | .ok (d,r)=>cr cmd n (acc++d) r) else .ok (acc,ts):=rfl
theorem kF (K:Nat) (bw:iI K) (w:World) (B cs n i d:Nat) (tv:Value) (T:List Tk) (h:RS w B cs tv n T i d) (hd:d+K=40) :
 Calls Tryz.prog 138 #[.pointer (some ⟨cs,0,none⟩)] w (eu w B cs tv n T i d vd (bh (ab K) (T.drop i))):=by
 obtain⟨res,ag⟩:∃res,res=bh (ab K) (T.drop i):=⟨_,rfl⟩;rw [←ag];rw [tX] at ag;obtain⟨q,hq⟩:∃q,aF [33] (T.drop i)=q:=⟨_,rfl⟩;rw [hq] at ag;have ov:=aT;obtain⟨i0,fo,fC,fp,fq⟩:=info_parts jm;have ay:=Hd ag;have HH:=Lib.hid h;have HC:=Hd bw;have HD:=Hd hd;have HQ:=Hd hq;have cF:=Hd h.lt;clear ag h bw hd hq;go_enter Tryz.func138,Tryz.ntmps138
 go_wp2_with fail;obtain⟨W,hW⟩:∃W,W=w.alloc (.cells #[.int .i64 0,false,eS,(),(),(),(),()] 44):=⟨_,rfl⟩;have eG:K0 w W:=by rw [hW];exact (ae.refl _ _).alloc _
 have HR:=Hd (show af W w.heap.size [.int .i64 0,false,eS,(),(),(),(),()] by rw [hW];exact aD _ _ _ _ _ _ _ _ _ _);rw [←hW];have dO:=Hd eG;have HX:=Hd (show w.heap.size<W.heap.size by rw [hW];simp);have HS:=Hd (HH.o.keep0 eG);clear eG hW;refine (cn W B cs n i d tv T [33] q HS.o dC HQ.o).mono ?_
 rintro e w1 ⟨rfl,j1,ku,ko,jj,bt⟩;have dF:=Hd jj;have dp:=Hd bt;have RA:res=match ab K (T.drop j1) with
  | .error e=>.error e
  | .ok (d,r)=>fG q (cr (ab K) (r.length+1) d r):=by rw [ay.o,ko]
 have fN:=Hd RA;clear jj bt ko RA;go_wp2_with fail;refine (HC.o w1 B cs n j1 d tv T dF.o HD.o).mono ?_;intro e w2 hp;cases bo:ab K (T.drop j1) with
 | error y=>
  exact KI
 | ok dr=>
  obtain⟨dd,r⟩:=dr;rw [bo] at hp;obtain⟨vs,⟨rfl,j2,hj2,il,ee,aS⟩,_,eJ,eo⟩:=hp;obtain⟨k,b,s,a0,n0,c0,a1,n1,c1,a2,n2,c2,a3,n3,c3,a4,n4,c4,rfl⟩:=cC eJ eo;have OE:=dp.o.size;have Ha:=LI.one (w0:=W) (k:=8) (Ty:=44) (w1:=w2.alloc (.cells #[k,b,s,.slice a0 n0 c0,.slice a1 n1 c1,.slice a2 n2 c2,.slice a3 n3 c3,.slice a4 n4 c4] 44)) ee (eo.mono λ b _ hb=>nY OE hb) (dp.o.trans aS k3) rfl rfl
  have Vk:=Hd Ha;have cJ:=Hd (show res=fG q (cr (ab K) (T.length - j2+1) dd (T.drop j2)) by rw [fN.o,bo];dsimp only;rw [←il,nI]);have zN:=Hd (gD.of eJ);have HJ:=Hd (show i≤j2 by omega);clear bo aS ee eo eJ il Ha;go_wp2_with fail;go_loopg [4] (T.length - j2) (λ g l' wr=>∃(I M m:Nat) (la:OA) (lc:Nat) (acc:List Dt),g=T.length - I∧l'=.slice la m lc∧i≤I∧1≤m∧m≤I+1∧T.length - I+1≤M∧Hid (LI W wr B cs tv n T d I (.slice la m lc) 8 44 m acc)∧Hid (gD acc)∧Hid (res=fG q (cr (ab K) M acc (T.drop I))))
  case atStart=>exact⟨j2,_,1,_,1,dd,rfl,rfl,HJ.o,nC _,oM,nC _,Vk,zN,cJ⟩
  case round=>
   obtain⟨I,M,m,la,lc,acc,eH,rfl,mI,hm1,yj,hM,HL,HA,gG⟩:=hrel;have fK:=Hd eH;have p8:=HL.o.rs.i;have vO:=HL.o.rs.sm.1;obtain⟨M,rfl⟩:∃M',M=M'+1:=⟨M - 1,oM⟩;have Be:=Hd (show cs<W.heap.size from Nat.lt_trans cF.o HX.o);clear eH Vk cJ zN;cases ho:aj [124] (T.drop I) with
   | true=>
    have fa:=eT (dA ho);have C8:res=fG q (match ab K (ai (T.drop I).tail) with
     | .error e=>.error e
     | .ok (d,r)=>cr (ab K) M (acc++d) r):=by rw [gG.o,jF,ho,nE rfl]
    have kZ:=cP wr B cs n I d tv T [124] true HL.o.rs ho;have kt:=Hd kZ;replace gG:=Hd C8;clear ho C8 kZ;go_wp2_with fail;refine kt.o.mono ?_;rintro e w3 ⟨rfl,j3,ow,iT,cX,aV⟩;have AN:T.drop j3=(T.drop I).tail:=iT;have Tq:I+1≤j3:=by
     exact KT
    have eF:=Hd cX;have ki:=Hd (HL.o.move Be.o aV cX);have uu:=Hd AN;clear cX aV iT AN kt;go_wp2_with fail;refine (dH w3 B cs n j3 d tv T eF.o).mono ?_;rintro e w4 ⟨rfl,j4,kB,iY,cG,be⟩;rw [uu.o] at iY;have iG:=Hd cG;have JT:=Hd (ki.o.move Be.o be cG);have J1:=Hd (show res=fG q (match ab K (T.drop j4) with
     | .error e=>.error e
     | .ok (d,r)=>cr (ab K) M (acc++d) r) by rw [gG.o,iY])
    clear cG be iY gG;go_wp2_with fail;refine (HC.o w4 B cs n j4 d tv T iG.o HD.o).mono ?_;intro e w5 hp;cases bo:ab K (T.drop j4) with
    | error y=>
     rw [bo] at hp;obtain⟨rfl,bi⟩:=hp;have bO:=Hd (show res=.error y by rw [J1.o,bo];rfl);have bZ:=Hd (((dO.o.mono (λ_ _ h=>h.elim)).trans JT.o.kp k3).trans bi k3);clear bo bi;exact yL
    | ok dr=>
     obtain⟨d2,r2⟩:=dr;rw [bo] at hp;obtain⟨vs,⟨rfl,j5,Y9,El,mf,bi⟩,_,eJ,eo⟩:=hp;obtain⟨kx,bx,sx,Ka,L9,c0x,Kb,Ma,c1x,Kc,Mb,c2x,Kd,Mc,c3x,Ke,Me,c4x,rfl⟩:=cC eJ eo;obtain⟨xs,hown4,hF⟩:=JT.o.more Be.o bi mf eo;have HF:=Hd hF;have Ss:=Hd (show res=fG q (cr (ab K) M (acc++d2) (T.drop j5)) by rw [J1.o,bo];dsimp only;rw [←El]);have Zx:=Hd (HA.o.app (gD.of eJ))
     have Ts:=mf.i;clear bo bi mf eo eJ El hF;go_wp2_with (at_builtin;refine nR _ rfl (.tmp 14) (.tmp 17) _ rfl 0 44 i0 _ 8 152 Tryz.underlying23 fo fC fp fq rfl oM (.slice la m lc) m xs rfl (hown4.alloc _) ⟨w5.heap.size,0,none⟩ 1 1 [kx,bx,sx,.slice Ka L9 c0x,.slice Kb Ma c1x,.slice Kc Mb c2x,.slice Kd Mc c3x,.slice Ke Me c4x] rfl rfl (nK (cs:=#[.int .i64 kx,.bool bx,.string sx,.slice Ka L9 c0x,.slice Kb Ma c1x,.slice Kc Mb c2x,.slice Kd Mc c3x,.slice Ke Me c4x]) (t:=44) (fr:=(0,0)) (nG w5 _)) oC oM uM oM sI (w5.heap.size+1) sI ?_;intro gg aC w6 aK ao bf gT;have Sg:=Hd (HF.o gg aC w6 _ aK ao bf);clear aK ao bf)
     go_roundg (T.length - j5)
     case measure=>have:=fK.o;omega
     case rel=>exact⟨j5,M,m+1,_,aC,acc++d2,rfl,rfl,oM,oM,oM,oM,Sg,Zx,Ss⟩
   | false=>
    have C8:res=fG q (.ok (acc,T.drop I)):=by rw [gG.o,jF,ho,nF sI]
    have kZ:=cP wr B cs n I d tv T [124] false HL.o.rs ho;have kt:=Hd kZ;have bS:=HL.o.own.len;unfold fG at C8;dsimp only at C8;by_cases h8:m=1∧q=false
    ·obtain⟨rfl,rfl⟩:=h8;rw [nE ⟨oM,rfl⟩] at C8;have eJ:=HA.o.one oM;have bO:=Hd C8;have lY:=Hd eJ;clear ho C8 kZ bS;go_wp2_with fail;refine kt.o.mono ?_;rintro e w3 ⟨rfl,j3,ow,iT,cX,aV⟩;have ki:=Hd (HL.o.move Be.o aV cX);have uu:=Hd (show T.drop j3=T.drop I from iT);have eF:=Hd cX;have bZ:=Hd ((dO.o.mono (λ_ _ h=>h.elim)).trans ki.o.kp k3)
     have qA:=cF.o;have eV:=Hd (HR.o.keep ki.o.kp (λ e=>oM));have me:=ki.o.own.reads (λ g hg=>ki.o.low g hg);obtain⟨g,o,k,b,s,a0,n0,c0,a1,n1,c1,a2,n2,c2,a3,n3,c3,a4,n4,c4,rfl,hg,⟨q0,q1,q2,q3,q4,q5,q6,q7⟩,hr⟩:=Mx me eJ;have eW:=Hd hr;clear cX aV iT me hr eJ;obtain⟨⟨z0,z1,z2,z3,z4,z5,z6,z7⟩,y0,y1,y2,y3,y4,y5,y6,y7⟩:=eV.o.eight;have fT:=eV.o.lt;go_wp2_with fail
     refine nJ (v:=.agg #[k,b,s,.slice a0 n0 c0,.slice a1 n1 c1,.slice a2 n2 c2,.slice a3 n3 c3,.slice a4 n4 c4]) (by simp [results,Tryz.results138,go_sem,z0,z1,z2,z3,z4,z5,z6,z7]) rfl ?_;exact S0
    ·rw [nF (by intro hh;exact h8 ⟨oM,hh.2⟩)] at C8;by_cases hm:m=1
     ·have p9:q=true:=by
       cases q with
       | false=>exact nQ ⟨hm,rfl⟩ h8
       | true=>rfl
      subst p9;subst hm;have bO:=Hd C8;have lY:=Hd (show jA (cE 2 true [] [] [] [] acc []) from⟨_,_,_,_,_,_,_,_,rfl⟩);clear C8 kZ bS h8 ho;go_wp2_with fail;refine kt.o.mono ?_;rintro e w3 ⟨rfl,j3,ow,iT,cX,aV⟩;have ki:=Hd (HL.o.move Be.o aV cX);have uu:=Hd (show T.drop j3=T.drop I from iT);have eF:=Hd cX;have bZ:=Hd ((dO.o.mono (λ_ _ h=>h.elim)).trans ki.o.kp k3)
      have qA:=cF.o;have eV:=Hd (HR.o.keep ki.o.kp (λ e=>oM));have me:=ki.o.own.reads (λ g hg=>ki.o.low g hg);have eW:=Hd (show bV w3 (λ b=>W.heap.size≤b) (cE 2 true [] [] [] [] acc []) [.int .i64 2,true,eS,(),(),(),.slice la 1 lc,()] from⟨.int _,.bool _,.str _,.nil _ _ _ (nB _),.nil _ _ _ (nB _),.nil _ _ _ (nB _),me,.nil _ _ _ (nB _),trivial⟩)
      clear cX aV iT me;obtain⟨⟨z0,z1,z2,z3,z4,z5,z6,z7⟩,y0,y1,y2,y3,y4,y5,y6,y7⟩:=eV.o.eight;have fT:=eV.o.lt;go_wp2_with fail;refine nJ (v:=.agg #[.int .i64 2,true,eS,(),(),(),.slice la 1 lc,()]) (by simp [results,Tryz.results138,go_sem,z0,z1,z2,z3,z4,z5,z6,z7]) rfl ?_;obtain⟨f1,f2,f3⟩:=eK bZ.o eF.o HX.o cF.o eW.o (ap w3 w.heap.size (.int .i64 2) (.bool true) (.string ⟨#[]⟩) (.slice none 0 0) (.slice none 0 0) (.slice none 0 0) (.slice la 1 lc) (.slice none 0 0))
      rw [bO.o];exact⟨[.int .i64 2,true,eS,(),(),(),.slice la 1 lc,()],⟨rfl,_,oM,uu.o,f1,f2⟩,trivial,lY.o,f3⟩
     ·have t0:((m:Int)==1)=false:=by rw [nA];omega
      have bO:=Hd C8;have lY:=Hd (show jA (cE 2 q [] [] [] [] acc []) from⟨_,_,_,_,_,_,_,_,rfl⟩);clear C8 kZ bS h8 ho;go_wp2_with fail;refine kt.o.mono ?_;rintro e w3 ⟨rfl,j3,ow,iT,cX,aV⟩;have ki:=Hd (HL.o.move Be.o aV cX);have uu:=Hd (show T.drop j3=T.drop I from iT);have eF:=Hd cX;have bZ:=Hd ((dO.o.mono (λ_ _ h=>h.elim)).trans ki.o.kp k3);have qA:=cF.o
      have eV:=Hd (HR.o.keep ki.o.kp (λ e=>oM));have me:=ki.o.own.reads (λ g hg=>ki.o.low g hg);have eW:=Hd (show bV w3 (λ b=>W.heap.size≤b) (cE 2 q [] [] [] [] acc []) [.int .i64 2,q,eS,(),(),(),.slice la m lc,()] from⟨.int _,.bool _,.str _,.nil _ _ _ (nB _),.nil _ _ _ (nB _),.nil _ _ _ (nB _),me,.nil _ _ _ (nB _),trivial⟩)
      clear cX aV iT me;obtain⟨⟨z0,z1,z2,z3,z4,z5,z6,z7⟩,y0,y1,y2,y3,y4,y5,y6,y7⟩:=eV.o.eight;have fT:=eV.o.lt;go_wp2_with fail;refine nJ (v:=.agg #[.int .i64 2,q,eS,(),(),(),.slice la m lc,()]) (by simp [results,Tryz.results138,go_sem,z0,z1,z2,z3,z4,z5,z6,z7]) rfl ?_;obtain⟨f1,f2,f3⟩:=eK bZ.o eF.o HX.o cF.o eW.o (ap w3 w.heap.size (.int .i64 2) (.bool q) (.string ⟨#[]⟩) (.slice none 0 0) (.slice none 0 0) (.slice none 0 0) (.slice la m lc) (.slice none 0 0))
      rw [bO.o];exact⟨[.int .i64 2,q,eS,(),(),(),.slice la m lc,()],⟨rfl,_,oM,uu.o,f1,f2⟩,trivial,lY.o,f3⟩
theorem bV.cells {w w1:World} {D:Nat→Prop} {cs:List Dt} {vs:List Value} {Ty:TypeId} (hr:bV w D cs vs) (hw:w1=w.alloc (.cells vs.toArray Ty)):∀j (hj:j<cs.length),w1.cell? ⟨w.heap.size,0+j,none⟩=some (vs.getD j (.int .i64 0))∧Rd w D cs[j] (vs.getD j (.int .i64 0)):=by
 intro j hj;have hl:=hr.len;have hb:w1.heap[w.heap.size]? = some (.cells vs.toArray Ty):=by rw [hw];exact nG w _
 have e:vs.getD j (.int .i64 0)=vs[j]'oM:=by
  rw [List.getD_eq_getElem?_getD,List.getElem?_eq_getElem oM];rfl
 rw [e];refine⟨?_,hr.at hj oM⟩;rw [cell_of_row _ _ (0+j) _ _ _ hb,Nat.zero_add];simp
theorem fk {w w1:World} {D:Nat→Prop} {cs:List Dt} {vs:List Value} {Ty:TypeId} {k m:Nat} (hr:bV w D cs vs) (hm:cs.length=m*k) (hx:m≤maxLen) (hw:w1=w.alloc (.cells vs.toArray Ty)) (hD:D w.heap.size) :
 Rd w1 D (.sl k cs) (.slice (some ⟨w.heap.size,0,none⟩) m m):=by
 have hk:K0 w w1:=by rw [hw];exact (ae.refl _ _).alloc _
 refine .sl k cs w.heap.size 0 m m (λ j=>vs.getD j (.int .i64 0)) hm (nC _) hx (by rw [hw];simp) hD (λ j hj=>?_) (λ j hj=>?_)
 ·have h:=(hr.cells hw j hj).1;exact h
 ·exact (hr.cells hw j hj).2.keep hk (λ_ _ _ h=>h)
theorem gH (cmd:List Tk→PR (List Dt)) (n:Nat) (acc:List Dt) (ts:List Tk):ck cmd (n+1) acc ts=if aj [38,38] ts then (match bh cmd (ai ts.tail) with
 | .error e=>.error e
 | .ok (d,r)=>ck cmd n (cE 3 false [] [] [] [] (acc++d) []) r)
 else if aj [124,124] ts then (match bh cmd (ai ts.tail) with
  | .error e=>.error e
  | .ok (d,r)=>ck cmd n (cE 4 false [] [] [] [] (acc++d) []) r)
 else .ok (acc,ts):=rfl
structure AI (W w wr:World) (B cs:Nat) (tv:Value) (n:Nat) (T:List Tk) (d N I:Nat) (acc:List Dt):Prop where
 rs:RS wr B cs tv n T I d
 kp:ae (λ b=>b=cs) w wr
 rc:∃vs,af wr N vs∧bV wr (λ b=>W.heap.size≤b∧b≠N) acc vs
 nd:jA acc
 zr:af wr w.heap.size [.int .i64 0,false,eS,(),(),(),(),()]
theorem yD (K:Nat) (bw:iI K) (w:World) (B cs n i d:Nat) (tv:Value) (T:List Tk) (h:RS w B cs tv n T i d) (hd:d+K=40) :
 Calls Tryz.prog 119 #[.pointer (some ⟨cs,0,none⟩)] w (eu w B cs tv n T i d vd (da (ab K) (T.drop i))):=by
 obtain⟨res,ag⟩:∃res,res=da (ab K) (T.drop i):=⟨_,rfl⟩;rw [←ag];unfold da at ag;have ov:=aT;have ay:=Hd ag;have HH:=Lib.hid h;have HC:=Hd bw;have HD:=Hd hd;have cF:=Hd h.lt;clear ag h bw hd;go_enter Tryz.func119,Tryz.ntmps119;go_wp2_with fail;obtain⟨W,hW⟩:∃W,W=w.alloc (.cells #[.int .i64 0,false,eS,(),(),(),(),()] 44):=⟨_,rfl⟩
 have eG:K0 w W:=by rw [hW];exact (ae.refl _ _).alloc _
 have HR:=Hd (show af W w.heap.size [.int .i64 0,false,eS,(),(),(),(),()] by rw [hW];exact aD _ _ _ _ _ _ _ _ _ _);rw [←hW];have dO:=Hd eG;have HX:=Hd (show w.heap.size<W.heap.size by rw [hW];simp);have HS:=Hd (HH.o.keep0 eG);have Be:=Hd (show cs<W.heap.size from Nat.lt_trans cF.o HX.o);clear eG hW
 refine (kF K HC.o W B cs n i d tv T HS.o HD.o).mono ?_;intro e w2 hp;cases bo:bh (ab K) (T.drop i) with
 | error y=>
  exact KJ
 | ok dr=>
  obtain⟨dd,r⟩:=dr;rw [bo] at hp;obtain⟨vs,⟨rfl,j2,hj2,il,ee,aS⟩,_,eJ,eo⟩:=hp;obtain⟨k,b,s,a0,n0,c0,a1,n1,c1,a2,n2,c2,a3,n3,c3,a4,n4,c4,rfl⟩:=cC eJ eo;have ky:=Hd aS.size;obtain⟨N,hN⟩:∃N,N=w2.heap.size:=⟨_,rfl⟩;obtain⟨W2,et⟩:∃W2,W2=w2.alloc (.cells #[k,b,s,.slice a0 n0 c0,.slice a1 n1 c1,.slice a2 n2 c2,.slice a3 n3 c3,.slice a4 n4 c4] 44):=⟨_,rfl⟩;have aV:K0 w2 W2:=by rw [et];exact (ae.refl _ _).alloc _
  have HAI:=Hd (show AI W w W2 B cs tv n T d N j2 dd from⟨ee.keep0 aV,((dO.o.mono (λ_ _ h=>h.elim)).trans aS k3).trans aV (λ_ _ h=>h.elim),⟨[k,b,s,.slice a0 n0 c0,.slice a1 n1 c1,.slice a2 n2 c2,.slice a3 n3 c3,.slice a4 n4 c4],by rw [et,hN];exact aD _ _ _ _ _ _ _ _ _ _,(eo.lt.keep aV (λ_ _ _ h=>h)).mono λ b _ hb=>⟨hb.1,by have:=hb.2;omega⟩⟩,eJ,(HR.o.keep aS (λ e=>by have:=cF.o;omega)).keep aV (λ h=>h)⟩)
  have cJ:=Hd (show res=ck (ab K) (T.length - j2+1) dd (T.drop j2) by rw [ay.o,bo];dsimp only;rw [←il,nI]);have xJ:=Hd (show cs<N by rw [hN];exact ee.lt);have Po:=Hd (show w.heap.size≤N∧W.heap.size≤N by rw [hN];have h1:=HX.o;have h2:=aS.size;omega);have HN:=Hd hN;clear bo aS ee eo eJ il aV;clear hN;go_wp2_with fail;rw [←et,←HN.o];clear et;go_loopg [] (T.length - j2) (λ g wr=>∃(I M:Nat) (acc:List Dt),g=T.length - I∧i≤I∧T.length - I+1≤M∧Hid (AI W w wr B cs tv n T d N I acc)∧Hid (res=ck (ab K) M acc (T.drop I)))
  case atStart=>exact⟨j2,_,dd,rfl,hj2,nC _,HAI,cJ⟩
  case round=>
   obtain⟨I,M,acc,eH,mI,hM,HA,gG⟩:=hrel;have fK:=Hd eH;have p8:=HA.o.rs.i;have vO:=HA.o.rs.sm.1;obtain⟨vs,cQ,eo⟩:=HA.o.rc;obtain⟨k,b,s,a0,n0,c0,a1,n1,c1,a2,n2,c2,a3,n3,c3,a4,n4,c4,rfl⟩:=cC HA.o.nd eo;have lY:=Hd HA.o.nd;have pp:=Hd cQ;have zV:=Hd eo;have Ps:=Hd HA.o.rs;have HZ:=Hd HA.o.zr;have gW:=Hd HA.o.kp;obtain⟨M,rfl⟩:∃M',M=M'+1:=⟨M - 1,oM⟩;clear eH HAI cJ cQ eo
   cases ho:aj [38,38] (T.drop I) with
   | true=>
    have fa:=eT (dA ho);have Z9:=Hd (show res=match bh (ab K) (ai (T.drop I).tail) with
     | .error e=>.error e
     | .ok (d,r)=>ck (ab K) M (cE 3 false [] [] [] [] (acc++d) []) r by rw [gG.o,gH,ho,nE rfl])
    have Z8:=Z9;have kt:=Hd (cP wr B cs n I d tv T [38,38] true Ps.o ho);clear ho gG;go_wp2_with fail;refine kt.o.mono ?_;rintro e w3 ⟨rfl,j3,ow,iT,cX,aV⟩;have AN:T.drop j3=(T.drop I).tail:=iT;have Tq:I+1≤j3:=by
     exact KT
    have eF:=Hd cX;have uu:=Hd AN;have bZ:=Hd (gW.o.trans aV k3);have eV:=Hd (pp.o.keep aV (λ e=>by have:=xJ.o;omega));have HZ3:=Hd (HZ.o.keep aV (λ e=>by have:=cF.o;omega));have eW:=Hd (zV.o.keep aV (λ b _ hb e=>by have:=Be.o;have:=hb.1;omega));clear cX aV iT AN kt;go_wp2_with fail;refine (dH w3 B cs n j3 d tv T eF.o).mono ?_;rintro e wl ⟨rfl,jl,uy,lE,pV,oU⟩
    rw [uu.o] at lE;have YD:=Hd pV;have Vi:=Hd (bZ.o.trans oU k3);have gG:=Hd (show res=match bh (ab K) (T.drop jl) with
     | .error e=>.error e
     | .ok (d,r)=>ck (ab K) M (cE 3 false [] [] [] [] (acc++d) []) r by rw [Z8.o,lE])
    have qn:=Hd (eV.o.keep oU (λ e=>by have:=xJ.o;omega));have HZL:=Hd (HZ3.o.keep oU (λ e=>by have:=cF.o;omega));have Sq:=Hd (eW.o.keep oU (λ b _ hb e=>by have:=Be.o;have:=hb.1;omega));clear pV oU lE;obtain⟨⟨x0,x1,x2,x3,x4,x5,x6,x7⟩,f8,gf,hC,hU,hV,hY,hZ,ia⟩:=qn.o.eight;have XS:=qn.o.lt;have Xo:cs≠N:=by have:=xJ.o;omega
    cases bo:bh (ab K) (T.drop jl) with
    | error y=>
     have bO:=Hd (show res=.error y by rw [gG.o,bo]);have kS:=Hd bo;clear bo;go_wp2_with fail;refine uF (S:=(λ w'=>af w' N [k,b,s,.slice a0 n0 c0,.slice a1 n1 c1,.slice a2 n2 c2,.slice a3 n3 c3,.slice a4 n4 c4])) kR (qn.o.keep (S:=λ_=>False) (ae.refl _ _).drew (λ h=>h)) (λ dJ=>?_);refine nS (i:=0) (v:=.int .i64 3) rfl kR kR kR (λ_ _ _ h=>h) (Or.inl ⟨rF,?_⟩) dJ ?_
     ·(intro ww jP;have ⟨⟨g0,g1,g2,g3,g4,g5,g6,g7⟩,_⟩:=af.eight jP;go_simp;all_goals (first | done | with_reducible rfl))
     exact QQ
    | ok dr=>
     obtain⟨d2,r2⟩:=dr;have bO:=Hd (show res=ck (ab K) M (cE 3 false [] [] [] [] (acc++d2) []) r2 by rw [gG.o,bo]);have kS:=Hd bo;clear bo;go_wp2_with fail;go_region_with (
      go_at_call 138;refine (kF K HC.o _ B cs n jl d tv T ?_ HD.o).mono ?_;exact YD.o.keep0 (ae.refl _ _).drew;rw [kS.o];rintro e w4 ⟨vs2,⟨rfl,j4,kB,iY,cG,be⟩,_,oV,f7⟩;obtain⟨kx,bx,sx,Ka,L9,c0x,Kb,Ma,c1x,Kc,Mb,c2x,Kd,Mc,c3x,Ke,Me,c4x,rfl⟩:=cC oV f7;have iG:=Hd cG;have Bx:=Hd iY;have bp:=(ae.refl (λ b=>b=cs) wl).drew.trans be k3
      have Bk:=qn.o.keep bp (λ e=>Xo e.symm);obtain⟨⟨y0,y1,y2,y3,y4,y5,y6,y7⟩,JC,JD,MW,MX,MY,MZ,M0,M1⟩:=Bk.eight;have UP:=Bk.lt;have tq:=Hd Bk;have HKK:=Hd bp;have Dm:=Hd f7;clear cG iY bp be Bk oV f7)
     all_goals
      obtain⟨W5,ou⟩:∃W5,W5=((((((((w4.setCell ⟨N,0,none⟩ (.int .i64 3)).setCell ⟨N,1,none⟩ (.bool false)).setCell ⟨N,2,none⟩ (.string ⟨#[]⟩)).setCell ⟨N,3,none⟩ (.slice none 0 0)).setCell ⟨N,4,none⟩ (.slice none 0 0)).setCell ⟨N,5,none⟩ (.slice none 0 0)).setCell ⟨N,6,none⟩ (.slice (some ⟨w4.heap.size,0,none⟩) 2 2)).setCell ⟨N,7,none⟩ (.slice none 0 0)):=⟨_,rfl⟩;have cu:ae (λ b=>b=N) w4 W5:=by rw [ou];exact ap w4 N (.int .i64 3) (.bool false) (.string ⟨#[]⟩) (.slice none 0 0) (.slice none 0 0) (.slice none 0 0) (.slice (some ⟨w4.heap.size,0,none⟩) 2 2) (.slice none 0 0)
      have sG:W5.heap.size=w4.heap.size:=by rw [ou];simp
      have Nh:af W5 N [.int .i64 3,false,eS,(),(),(),.slice (some ⟨w4.heap.size,0,none⟩) 2 2,()]:=by rw [ou];exact lo tq.o (.int .i64 3) (.bool false) (.string ⟨#[]⟩) (.slice none 0 0) (.slice none 0 0) (.slice none 0 0) (.slice (some ⟨w4.heap.size,0,none⟩) 2 2) (.slice none 0 0)
      obtain⟨W6,i4⟩:∃W6,W6=W5.alloc (.cells #[k,b,s,.slice a0 n0 c0,.slice a1 n1 c1,.slice a2 n2 c2,.slice a3 n3 c3,.slice a4 n4 c4,kx,bx,sx,.slice Ka L9 c0x,.slice Kb Ma c1x,.slice Kc Mb c2x,.slice Kd Mc c3x,.slice Ke Me c4x] 44):=⟨_,rfl⟩;have i5:K0 W5 W6:=by rw [i4];exact (ae.refl _ _).alloc _
      have YU:bV w4 (λ b=>W.heap.size≤b∧b≠N) d2 [kx,bx,sx,.slice Ka L9 c0x,.slice Kb Ma c1x,.slice Kc Mb c2x,.slice Kd Mc c3x,.slice Ke Me c4x]:=Dm.o.mono λ b _ hb=>by
       exact Q9
      have YT:=Sq.o.keep HKK.o (λ b _ hb e=>by have:=Be.o;have:=hb.1;omega);have YV:=(YT.app YU).keep cu (λ b _ hb e=>hb.2 e);have cv:=fk (k:=8) (m:=2) (Ty:=44) YV (by rw [lA];have h1:=lY.o.len;have h2:=Dm.o.len;simp only [lC,lN] at h2;omega) dC i4 ⟨by have h1:=Po.o.2;have h2:=tq.o.lt;omega,by have:=tq.o.lt;omega⟩
      rw [sG] at cv;have lz:=((Vi.o.trans HKK.o k3).fresh cu (λ b e=>by have:=Po.o.1;omega)).trans i5 (λ_ _ h=>h.elim);have Y3:=(iG.o.keep cu (λ b hb e=>by have h1:=iG.o.cs;have:=xJ.o;omega) (λ e=>Xo e)).keep0 i5;have Oj:bV W6 (λ b=>W.heap.size≤b∧b≠N) (cE 3 false [] [] [] [] (acc++d2) []) [.int .i64 3,false,eS,(),(),(),.slice (some ⟨w4.heap.size,0,none⟩) 2 2,()]:=⟨.int _,.bool _,.str _,.nil _ _ _ (nB _),.nil _ _ _ (nB _),.nil _ _ _ (nB _),cv,.nil _ _ _ (nB _),trivial⟩
      have M4:=Hd (show AI W w W6 B cs tv n T d N j4 (cE 3 false [] [] [] [] (acc++d2) []) from⟨Y3,lz,⟨_,Nh.keep i5 (λ h=>h),Oj⟩,⟨_,_,_,_,_,_,_,_,rfl⟩,((HZL.o.keep HKK.o (λ e=>by have:=cF.o;omega)).keep cu (λ e=>by have h1:=Po.o.2;have:=HX.o;omega)).keep i5 (λ h=>h)⟩);have VC:=Hd (show res=ck (ab K) M (cE 3 false [] [] [] [] (acc++d2) []) (T.drop j4) by rw [Bx.o];exact bO.o)
      exact WQ
   | false=>
    have kt:=Hd (cP wr B cs n I d tv T [38,38] false Ps.o ho);cases tS:aj [124,124] (T.drop I) with
    | true=>
     have fa:=eT (dA tS);have Z8:=Hd (show res=match bh (ab K) (ai (T.drop I).tail) with
      | .error e=>.error e
      | .ok (d,r)=>ck (ab K) M (cE 4 false [] [] [] [] (acc++d) []) r by rw [gG.o,gH,ho,tS,nF sI,nE rfl])
     have Sl:=Hd tS;clear ho tS gG;go_wp2_with fail;refine kt.o.mono ?_;rintro e wa ⟨rfl,ja,hja,X7,LG,uz⟩;have Pu:=Hd (show T.drop ja=T.drop I from X7);have M9:=Hd LG;have Se:=Hd uz;clear LG uz X7 kt;go_wp2_with fail;refine (cP wa B cs n ja d tv T [124,124] true M9.o (by rw [Pu.o];exact Sl.o)).mono ?_;rintro e w3 ⟨rfl,j3,ow,iT,cX,aV⟩;have AN:T.drop j3=(T.drop I).tail:=by rw [←Pu.o];exact iT
     have Tq:I+1≤j3:=by
      exact KT
     have eF:=Hd cX;have uu:=Hd AN;have LA:=Se.o.trans aV k3;have bZ:=Hd (gW.o.trans LA k3);have eV:=Hd (pp.o.keep LA (λ e=>by have:=xJ.o;omega));have HZ3:=Hd (HZ.o.keep LA (λ e=>by have:=cF.o;omega));have eW:=Hd (zV.o.keep LA (λ b _ hb e=>by have:=Be.o;have:=hb.1;omega));clear cX aV iT AN LA;go_wp2_with fail;refine (dH w3 B cs n j3 d tv T eF.o).mono ?_
     rintro e wl ⟨rfl,jl,uy,lE,pV,oU⟩;rw [uu.o] at lE;have YD:=Hd pV;have Vi:=Hd (bZ.o.trans oU k3);have gG:=Hd (show res=match bh (ab K) (T.drop jl) with
      | .error e=>.error e
      | .ok (d,r)=>ck (ab K) M (cE 4 false [] [] [] [] (acc++d) []) r by rw [Z8.o,lE])
     have qn:=Hd (eV.o.keep oU (λ e=>by have:=xJ.o;omega));have HZL:=Hd (HZ3.o.keep oU (λ e=>by have:=cF.o;omega));have Sq:=Hd (eW.o.keep oU (λ b _ hb e=>by have:=Be.o;have:=hb.1;omega));clear pV oU lE;obtain⟨⟨x0,x1,x2,x3,x4,x5,x6,x7⟩,f8,gf,hC,hU,hV,hY,hZ,ia⟩:=qn.o.eight;have XS:=qn.o.lt;have Xo:cs≠N:=by have:=xJ.o;omega
     cases bo:bh (ab K) (T.drop jl) with
     | error y=>
      have bO:=Hd (show res=.error y by rw [gG.o,bo]);have kS:=Hd bo;clear bo;go_wp2_with fail;refine uF (S:=(λ w'=>af w' N [k,b,s,.slice a0 n0 c0,.slice a1 n1 c1,.slice a2 n2 c2,.slice a3 n3 c3,.slice a4 n4 c4])) kR (qn.o.keep (S:=λ_=>False) (ae.refl _ _).drew (λ h=>h)) (λ dJ=>?_);refine nS (i:=0) (v:=.int .i64 4) rfl kR kR kR (λ_ _ _ h=>h) (Or.inl ⟨rF,?_⟩) dJ ?_
      ·(intro ww jP;have ⟨⟨g0,g1,g2,g3,g4,g5,g6,g7⟩,_⟩:=af.eight jP;go_simp;all_goals (first | done | with_reducible rfl))
      exact QQ
     | ok dr=>
      obtain⟨d2,r2⟩:=dr;have bO:=Hd (show res=ck (ab K) M (cE 4 false [] [] [] [] (acc++d2) []) r2 by rw [gG.o,bo]);have kS:=Hd bo;clear bo;go_wp2_with fail;go_region_with (
       go_at_call 138;refine (kF K HC.o _ B cs n jl d tv T ?_ HD.o).mono ?_;exact YD.o.keep0 (ae.refl _ _).drew;rw [kS.o];rintro e w4 ⟨vs2,⟨rfl,j4,kB,iY,cG,be⟩,_,oV,f7⟩;obtain⟨kx,bx,sx,Ka,L9,c0x,Kb,Ma,c1x,Kc,Mb,c2x,Kd,Mc,c3x,Ke,Me,c4x,rfl⟩:=cC oV f7;have iG:=Hd cG;have Bx:=Hd iY;have bp:=(ae.refl (λ b=>b=cs) wl).drew.trans be k3
       have Bk:=qn.o.keep bp (λ e=>Xo e.symm);obtain⟨⟨y0,y1,y2,y3,y4,y5,y6,y7⟩,JC,JD,MW,MX,MY,MZ,M0,M1⟩:=Bk.eight;have UP:=Bk.lt;have tq:=Hd Bk;have HKK:=Hd bp;have Dm:=Hd f7;clear cG iY bp be Bk oV f7)
      all_goals
       obtain⟨W5,ou⟩:∃W5,W5=((((((((w4.setCell ⟨N,0,none⟩ (.int .i64 4)).setCell ⟨N,1,none⟩ (.bool false)).setCell ⟨N,2,none⟩ (.string ⟨#[]⟩)).setCell ⟨N,3,none⟩ (.slice none 0 0)).setCell ⟨N,4,none⟩ (.slice none 0 0)).setCell ⟨N,5,none⟩ (.slice none 0 0)).setCell ⟨N,6,none⟩ (.slice (some ⟨w4.heap.size,0,none⟩) 2 2)).setCell ⟨N,7,none⟩ (.slice none 0 0)):=⟨_,rfl⟩;have cu:ae (λ b=>b=N) w4 W5:=by rw [ou];exact ap w4 N (.int .i64 4) (.bool false) (.string ⟨#[]⟩) (.slice none 0 0) (.slice none 0 0) (.slice none 0 0) (.slice (some ⟨w4.heap.size,0,none⟩) 2 2) (.slice none 0 0)
       have sG:W5.heap.size=w4.heap.size:=by rw [ou];simp
       have Nh:af W5 N [.int .i64 4,false,eS,(),(),(),.slice (some ⟨w4.heap.size,0,none⟩) 2 2,()]:=by rw [ou];exact lo tq.o (.int .i64 4) (.bool false) (.string ⟨#[]⟩) (.slice none 0 0) (.slice none 0 0) (.slice none 0 0) (.slice (some ⟨w4.heap.size,0,none⟩) 2 2) (.slice none 0 0)
       obtain⟨W6,i4⟩:∃W6,W6=W5.alloc (.cells #[k,b,s,.slice a0 n0 c0,.slice a1 n1 c1,.slice a2 n2 c2,.slice a3 n3 c3,.slice a4 n4 c4,kx,bx,sx,.slice Ka L9 c0x,.slice Kb Ma c1x,.slice Kc Mb c2x,.slice Kd Mc c3x,.slice Ke Me c4x] 44):=⟨_,rfl⟩;have i5:K0 W5 W6:=by rw [i4];exact (ae.refl _ _).alloc _
       have YU:bV w4 (λ b=>W.heap.size≤b∧b≠N) d2 [kx,bx,sx,.slice Ka L9 c0x,.slice Kb Ma c1x,.slice Kc Mb c2x,.slice Kd Mc c3x,.slice Ke Me c4x]:=Dm.o.mono λ b _ hb=>by
        exact Q9
       have YT:=Sq.o.keep HKK.o (λ b _ hb e=>by have:=Be.o;have:=hb.1;omega);have YV:=(YT.app YU).keep cu (λ b _ hb e=>hb.2 e);have cv:=fk (k:=8) (m:=2) (Ty:=44) YV (by rw [lA];have h1:=lY.o.len;have h2:=Dm.o.len;simp only [lC,lN] at h2;omega) dC i4 ⟨by have h1:=Po.o.2;have h2:=tq.o.lt;omega,by have:=tq.o.lt;omega⟩
       rw [sG] at cv;have lz:=((Vi.o.trans HKK.o k3).fresh cu (λ b e=>by have:=Po.o.1;omega)).trans i5 (λ_ _ h=>h.elim);have Y3:=(iG.o.keep cu (λ b hb e=>by have h1:=iG.o.cs;have:=xJ.o;omega) (λ e=>Xo e)).keep0 i5;have Oj:bV W6 (λ b=>W.heap.size≤b∧b≠N) (cE 4 false [] [] [] [] (acc++d2) []) [.int .i64 4,false,eS,(),(),(),.slice (some ⟨w4.heap.size,0,none⟩) 2 2,()]:=⟨.int _,.bool _,.str _,.nil _ _ _ (nB _),.nil _ _ _ (nB _),.nil _ _ _ (nB _),cv,.nil _ _ _ (nB _),trivial⟩
       have M4:=Hd (show AI W w W6 B cs tv n T d N j4 (cE 4 false [] [] [] [] (acc++d2) []) from⟨Y3,lz,⟨_,Nh.keep i5 (λ h=>h),Oj⟩,⟨_,_,_,_,_,_,_,_,rfl⟩,((HZL.o.keep HKK.o (λ e=>by have:=cF.o;omega)).keep cu (λ e=>by have h1:=Po.o.2;have:=HX.o;omega)).keep i5 (λ h=>h)⟩);have VC:=Hd (show res=ck (ab K) M (cE 4 false [] [] [] [] (acc++d2) []) (T.drop j4) by rw [Bx.o];exact bO.o)
       exact WQ
    | false=>
     have bO:=Hd (show res=.ok (acc,T.drop I) by rw [gG.o,gH,ho,tS,nF sI,nF sI]);have Sl:=Hd tS;clear ho tS gG;go_wp2_with fail;refine kt.o.mono ?_;rintro e wa ⟨rfl,ja,hja,X7,LG,uz⟩;have Pu:=Hd (show T.drop ja=T.drop I from X7);have M9:=Hd LG;have Se:=Hd uz;clear LG uz X7 kt;go_wp2_with fail;refine (cP wa B cs n ja d tv T [124,124] false M9.o (by rw [Pu.o];exact Sl.o)).mono ?_
     rintro e w3 ⟨rfl,j3,ow,iT,cX,aV⟩;have uu:=Hd (show T.drop j3=T.drop I from (show T.drop j3=T.drop ja from iT).trans Pu.o);have eF:=Hd cX;have LA:=Se.o.trans aV k3;have bZ:=Hd (gW.o.trans LA k3);have qn:=Hd (pp.o.keep LA (λ e=>by have:=xJ.o;omega));have eW:=Hd ((zV.o.keep LA (λ b _ hb e=>by have:=Be.o;have:=hb.1;omega)).mono (D':=λ b=>W.heap.size≤b) (λ b _ hb=>hb.1))
     have qA:=cF.o;have sF:=HX.o;have eV:=Hd (HZ.o.keep LA (λ e=>oM));obtain⟨⟨x0,x1,x2,x3,x4,x5,x6,x7⟩,f8,gf,hC,hU,hV,hY,hZ,ia⟩:=qn.o.eight;have XS:=qn.o.lt;clear cX aV iT LA;obtain⟨⟨z0,z1,z2,z3,z4,z5,z6,z7⟩,y0,y1,y2,y3,y4,y5,y6,y7⟩:=eV.o.eight;have fT:=eV.o.lt;go_wp2_with fail;refine nJ (v:=.agg #[k,b,s,.slice a0 n0 c0,.slice a1 n1 c1,.slice a2 n2 c2,.slice a3 n3 c3,.slice a4 n4 c4]) (by simp [results,Tryz.results119,go_sem,z0,z1,z2,z3,z4,z5,z6,z7]) rfl ?_
     exact S0
theorem GY {ts:List Tk} (h:(dm ts).1=true):(dm ts).2.length+1≤ts.length:=by
 unfold dm at h ⊢;split at h
 ·next hq=>
  rw [nE hq];have h1:1≤ts.length:=by
   rcases Bool.or_eq_true_iff.1 hq with h | h
   ·exact dA h
   ·exact dA h
  have:=dS ts.tail;rw [List.length_tail] at this;show (ai ts.tail).length+1≤_;omega
 ·cases h
theorem mN (cmd:List Tk→PR (List Dt)) (n:Nat) (acc:List Dt) (ts:List Tk):cW cmd (n+1) acc ts=if (dm ts).1 && fj (dm ts).2 then (match da cmd (dm ts).2 with
 | .error e=>.error e
 | .ok (d,r)=>cW cmd n (acc++d) r) else .ok (acc,(dm ts).2):=rfl
def Np (w:World) (B cs:Nat) (tv:Value) (n:Nat) (T:List Tk) (i d:Nat) (res:PR (List Dt)) (e:Ending) (w':World):Prop:=match res with
 | .ok (ds,r)=>∃(a:OA) (m c:Nat),gX w B cs tv n T i d (.slice a m c) r e w'∧gD ds∧Rd w' (λ b=>w.heap.size≤b) (.sl 8 ds) (.slice a m c)
 | .error x=>e=lL x∧ae (λ b=>b=cs) w w'
theorem Fj (K:Nat) (bw:iI K) (w:World) (B cs n i d:Nat) (tv:Value) (T:List Tk) (h:RS w B cs tv n T i d) (hd:d+K=40) :
 Calls Tryz.prog 91 #[.pointer (some ⟨cs,0,none⟩)] w (Np w B cs tv n T i d (mM (ab K) (T.drop i))):=by
 obtain⟨res,ag⟩:∃res,res=mM (ab K) (T.drop i):=⟨_,rfl⟩;rw [←ag];unfold mM at ag;have ov:=aT;obtain⟨i0,fo,fC,fp,fq⟩:=info_parts jm;have ay:=Hd ag;have HH:=Lib.hid h;have HC:=Hd bw;have HD:=Hd hd;have cF:=Hd h.lt;clear ag h bw hd;go_enter Tryz.func91,Tryz.ntmps91;go_wp2_with fail;refine (yD K HC.o w B cs n i d tv T HH.o HD.o).mono ?_;intro e w2 hp
 cases bo:da (ab K) (T.drop i) with
 | error y=>
  rw [bo] at hp;obtain⟨rfl,aS⟩:=hp;have bO:=Hd (show res=.error y by rw [ay.o,bo]);have bZ:=Hd aS;exact BJ
 | ok dr=>
  obtain⟨dd,r⟩:=dr;rw [bo] at hp;obtain⟨vs,⟨rfl,j2,hj2,il,ee,aS⟩,_,eJ,eo⟩:=hp;obtain⟨k,b,s,a0,n0,c0,a1,n1,c1,a2,n2,c2,a3,n3,c3,a4,n4,c4,rfl⟩:=cC eJ eo;have Ha:=LI.one (w0:=w) (k:=8) (Ty:=44) (w1:=w2.alloc (.cells #[k,b,s,.slice a0 n0 c0,.slice a1 n1 c1,.slice a2 n2 c2,.slice a3 n3 c3,.slice a4 n4 c4] 44)) ee eo aS rfl rfl;have Vk:=Hd Ha;have cJ:=Hd (show res=cW (ab K) (T.length - j2+1) dd (T.drop j2) by rw [ay.o,bo];dsimp only;rw [←il,nI])
  have zN:=Hd (gD.of eJ);have HJ:=Hd hj2;clear bo aS ee eo eJ il Ha;go_wp2_with fail;go_loopg [3] (T.length - j2) (λ g l' wr=>∃(I M m:Nat) (la:OA) (lc:Nat) (acc:List Dt),g=T.length - I∧l'=.slice la m lc∧i≤I∧m≤I+1∧T.length - I+1≤M∧Hid (LI w wr B cs tv n T d I (.slice la m lc) 8 44 m acc)∧Hid (gD acc)∧Hid (res=cW (ab K) M acc (T.drop I)))
  case atStart=>exact⟨j2,_,1,_,1,dd,rfl,rfl,HJ.o,oM,nC _,Vk,zN,cJ⟩
  case round=>
   obtain⟨I,M,m,la,lc,acc,eH,rfl,mI,yj,hM,HL,HA,gG⟩:=hrel;have fK:=Hd eH;have p8:=HL.o.rs.i;have vO:=HL.o.rs.sm.1;obtain⟨M,rfl⟩:∃M',M=M'+1:=⟨M - 1,oM⟩;clear eH Vk cJ zN;obtain⟨Uf,qd⟩:∃Uf,Uf=(dm (T.drop I)).2:=⟨_,rfl⟩;cases he:(dm (T.drop I)).1 with
   | true=>
    have XM:=GY he;rw [←qd,nI] at XM;have R7:=Hd (BR wr B cs n I d tv T true HL.o.rs he);cases Hc:fj Uf with
    | true=>
     have gh:=Hd (show res=match da (ab K) Uf with
      | .error e=>.error e
      | .ok (d,r)=>cW (ab K) M (acc++d) r by rw [gG.o,mN,he,←qd,Hc];rfl)
     have Pv:=Hd qd;have Vm:=Hd Hc;clear he Hc qd gG;go_wp2_with fail;refine R7.o.mono ?_;rw [←Pv.o];rintro e w3 ⟨rfl,j3,ow,iT,cX,aV⟩;have Tq:I+1≤j3:=by
      have:=congrArg List.length iT;rw [nI] at this;have:=cX.i;omega
     have eF:=Hd cX;have ki:=Hd (HL.o.move cF.o aV cX);have uu:=Hd iT;clear cX aV iT R7 Pv;go_wp2_with fail;refine (rV w3 B cs n j3 d tv T true eF.o (by rw [uu.o];exact Vm.o)).mono ?_;rintro e w4 ⟨rfl,be⟩;have iG:=Hd (eF.o.keep0 be);have JT:=Hd (ki.o.keep0 be);clear be Vm;go_wp2_with fail;refine (yD K HC.o w4 B cs n j3 d tv T iG.o HD.o).mono ?_
     intro e w5 hp;rw [uu.o] at hp;cases bo:da (ab K) Uf with
     | error y=>
      rw [bo] at hp;obtain⟨rfl,bi⟩:=hp;have bO:=Hd (show res=.error y by rw [gh.o,bo]);have bZ:=Hd (JT.o.kp.trans bi k3);clear bo bi;exact yL
     | ok dr=>
      obtain⟨d2,r2⟩:=dr;rw [bo] at hp;obtain⟨vs,⟨rfl,j5,Y9,El,mf,bi⟩,_,eJ,eo⟩:=hp;obtain⟨kx,bx,sx,Ka,L9,c0x,Kb,Ma,c1x,Kc,Mb,c2x,Kd,Mc,c3x,Ke,Me,c4x,rfl⟩:=cC eJ eo;obtain⟨xs,hown4,hF⟩:=JT.o.more cF.o bi mf eo;have HF:=Hd hF;have Ss:=Hd (show res=cW (ab K) M (acc++d2) (T.drop j5) by rw [gh.o,bo];dsimp only;rw [←El]);have Zx:=Hd (HA.o.app (gD.of eJ))
      have Ts:=mf.i;clear bo bi mf eo eJ El hF;go_wp2_with (at_builtin;refine nR _ rfl (.tmp 13) (.tmp 16) _ rfl 0 44 i0 _ 8 152 Tryz.underlying23 fo fC fp fq rfl oM (.slice la m lc) m xs rfl (hown4.alloc _) ⟨w5.heap.size,0,none⟩ 1 1 [kx,bx,sx,.slice Ka L9 c0x,.slice Kb Ma c1x,.slice Kc Mb c2x,.slice Kd Mc c3x,.slice Ke Me c4x] rfl rfl (nK (cs:=#[.int .i64 kx,.bool bx,.string sx,.slice Ka L9 c0x,.slice Kb Ma c1x,.slice Kc Mb c2x,.slice Kd Mc c3x,.slice Ke Me c4x]) (t:=44) (fr:=(0,0)) (nG w5 _)) oC oM uM oM sI (w5.heap.size+1) sI ?_;intro gg aC w6 aK ao bf gT;have Sg:=Hd (HF.o gg aC w6 _ aK ao bf);clear aK ao bf)
      go_roundg (T.length - j5)
      case measure=>have:=fK.o;omega
      case rel=>exact⟨j5,M,m+1,_,aC,acc++d2,rfl,rfl,oM,oM,oM,Sg,Zx,Ss⟩
    | false=>
     have bO:=Hd (show res=.ok (acc,Uf) by rw [gG.o,mN,he,←qd,Hc];rfl);have Pv:=Hd qd;have Vm:=Hd Hc;clear he Hc qd gG;go_wp2_with fail;refine R7.o.mono ?_;rw [←Pv.o];rintro e w3 ⟨rfl,j3,ow,iT,cX,aV⟩;have eF:=Hd cX;have ki:=Hd (HL.o.move cF.o aV cX);have uu:=Hd iT;clear cX aV iT R7 Pv;go_wp2_with fail;refine (rV w3 B cs n j3 d tv T false eF.o (by rw [uu.o];exact Vm.o)).mono ?_
     rintro e w4 ⟨rfl,be⟩;have iG:=Hd (eF.o.keep0 be);have JT:=Hd (ki.o.keep0 be);clear be Vm;go_wp2_with fail;go_ret;rw [bO.o];exact⟨la,m,lc,⟨rfl,j3,oM,uu.o,iG.o,JT.o.kp⟩,HA.o,JT.o.own.reads (λ g hg=>JT.o.low g hg)⟩
   | false=>
    have R7:=Hd (BR wr B cs n I d tv T false HL.o.rs he);have bO:=Hd (show res=.ok (acc,Uf) by rw [gG.o,mN,he,←qd];rfl);have Pv:=Hd qd;clear he qd gG;go_wp2_with fail;refine R7.o.mono ?_;rw [←Pv.o];rintro e w3 ⟨rfl,j3,ow,iT,cX,aV⟩;have eF:=Hd cX;have ki:=Hd (HL.o.move cF.o aV cX);have uu:=Hd iT;clear cX aV iT R7 Pv;go_wp2_with fail;go_ret
    rw [bO.o];exact⟨la,m,lc,⟨rfl,j3,oM,uu.o,eF.o,ki.o.kp⟩,HA.o,ki.o.own.reads (λ g hg=>ki.o.low g hg)⟩
theorem gn (K:Nat) (bw:iI K) (w:World) (B cs n i d:Nat) (tv:Value) (T:List Tk) (h:RS w B cs tv n T i d) (hd:d+K=40) :
 Calls Tryz.prog 189 #[.pointer (some ⟨cs,0,none⟩)] w (eu w B cs tv n T i d vd (bz (ab K) (T.drop i))):=by
 obtain⟨res,ag⟩:∃res,res=bz (ab K) (T.drop i):=⟨_,rfl⟩;rw [←ag];unfold bz at ag;have ov:=aT;have ay:=Hd ag;have HH:=Lib.hid h;have HC:=Hd bw;have HD:=Hd hd;have cF:=Hd h.lt;clear ag h bw hd;go_enter Tryz.func189,Tryz.ntmps189;go_wp2_with fail;obtain⟨W,hW⟩:∃W,W=w.alloc (.cells #[.int .i64 0,false,eS,(),(),(),(),()] 44):=⟨_,rfl⟩
 have eG:K0 w W:=by rw [hW];exact (ae.refl _ _).alloc _
 have HR:=Hd (show af W w.heap.size [.int .i64 0,false,eS,(),(),(),(),()] by rw [hW];exact aD _ _ _ _ _ _ _ _ _ _);rw [←hW];have dO:=Hd eG;have HX:=Hd (show w.heap.size<W.heap.size by rw [hW];simp);have HS:=Hd (HH.o.keep0 eG);clear eG hW;refine (dH W B cs n i d tv T HS.o).mono ?_;rintro e w1 ⟨rfl,j1,ku,ko,jj,bt⟩
 have dF:=Hd jj;have dp:=Hd bt;have Bj:=Hd ko;clear jj bt ko;go_wp2_with fail;refine (Fj K HC.o w1 B cs n j1 d tv T dF.o HD.o).mono ?_;intro e w2 hp;rw [Bj.o] at hp;cases bo:mM (ab K) (ai (T.drop i)) with
 | error y=>
  rw [bo] at hp;obtain⟨rfl,aS⟩:=hp;have bO:=Hd (show res=.error y by rw [ay.o,bo]);exact Ri
 | ok dr=>
  obtain⟨dd,r⟩:=dr;rw [bo] at hp;obtain⟨a,m,c,⟨rfl,j2,hj2,il,ee,aS⟩,han,eo⟩:=hp;have bO:=Hd (show res=.ok (mi dd,r) by rw [ay.o,bo]);have gS:=Hd ee;have cA:=Hd (dp.o.trans aS k3);have Fe:=Hd il;have RE:=Gd w2 _ dd a m c eo han;have NF:=Hd RE;clear bo aS ee eo han il RE;go_wp2_with fail;refine NF.o.mono ?_;rintro e w3 ⟨vs,rfl,eJ,eo,aV⟩;obtain⟨k,b,s,a0,n0,c0,a1,n1,c1,a2,n2,c2,a3,n3,c3,a4,n4,c4,rfl⟩:=cC eJ eo
  have eF:=Hd (gS.o.keep0 aV);have bp:=cA.o.trans aV (λ_ _ h=>h.elim);have bZ:=Hd ((dO.o.mono (λ_ _ h=>h.elim)).trans bp k3);have eV:=Hd (HR.o.keep bp (λ e=>by have:=cF.o;omega));have ek:=dp.o.size;have eW:=Hd (eo.mono (D':=λ b=>W.heap.size≤b) (λ b _ hb=>nY ek hb));have lY:=Hd eJ;clear eJ eo aV bp;obtain⟨⟨z0,z1,z2,z3,z4,z5,z6,z7⟩,y0,y1,y2,y3,y4,y5,y6,y7⟩:=eV.o.eight
  have fT:=eV.o.lt;go_wp2_with fail;refine nJ (v:=.agg #[k,b,s,.slice a0 n0 c0,.slice a1 n1 c1,.slice a2 n2 c2,.slice a3 n3 c3,.slice a4 n4 c4]) (by simp [results,Tryz.results189,go_sem,z0,z1,z2,z3,z4,z5,z6,z7]) rfl ?_;obtain⟨f1,f2,f3⟩:=eK bZ.o eF.o HX.o cF.o eW.o (ap w3 w.heap.size (.int .i64 k) (.bool b) (.string s) (.slice a0 n0 c0) (.slice a1 n1 c1) (.slice a2 n2 c2) (.slice a3 n3 c3) (.slice a4 n4 c4))
  rw [bO.o];exact⟨[k,b,s,.slice a0 n0 c0,.slice a1 n1 c1,.slice a2 n2 c2,.slice a3 n3 c3,.slice a4 n4 c4],⟨rfl,_,oM,Fe.o,f1,f2⟩,trivial,lY.o,f3⟩
structure GI (w wr:World) (B cs:Nat) (tv:Value) (n:Nat) (T:List Tk) (d X N:Nat) (Z:List Value) (pre post:List Dt) (vpre vpost:List Value) (k:Nat) (Ty:TypeId) (I m:Nat) (la:OA) (lc:Nat) (ds:List Dt):Prop where
 rs:RS wr B cs tv n T I d
 kp:ae (λ b=>b=cs) w wr
 zr:af wr w.heap.size Z
 rc:af wr N (vpre++.slice la m lc::vpost)
 own:eM wr (λ b=>X≤b∧b≠N) (.slice la m lc) k Ty m ds
 low:∀g,(Value.slice la m lc).ownBlock=some g→X≤g∧g≠N
 pr:bV wr (λ b=>(X≤b∧b≠N)∧(Value.slice la m lc).ownBlock≠some b) pre vpre
 po:bV wr (λ b=>(X≤b∧b≠N)∧(Value.slice la m lc).ownBlock≠some b) post vpost
section
variable {w wr w4:World} {B cs:Nat} {tv:Value} {n:Nat} {T:List Tk} {d X N:Nat} {Z:List Value} {pre post:List Dt} {vpre vpost:List Value} {k:Nat} {Ty:TypeId} {I J m:Nat} {la:OA} {lc:Nat} {ds:List Dt}
theorem GI.move (h:GI w wr B cs tv n T d X N Z pre post vpre vpost k Ty I m la lc ds) (hc:cs<w.heap.size) (hX:w.heap.size<X) (hN:w.heap.size<N) (hk:ae (λ b=>b=cs) wr w4) (du:RS w4 B cs tv n T J d) :
 GI w w4 B cs tv n T d X N Z pre post vpre vpost k Ty J m la lc ds:=
 ⟨du,h.kp.trans hk (λ_ _ e=>e),h.zr.keep hk (λ e=>oM),h.rc.keep hk (λ e=>oM),h.own.keep hk (λ b _ hb e=>oM) (λ g hg e=>by have:=h.low g hg;omega),h.low,
  h.pr.keep hk (λ b _ hb e=>oM),h.po.keep hk (λ b _ hb e=>oM)⟩
theorem GI.keep0 (h:GI w wr B cs tv n T d X N Z pre post vpre vpost k Ty I m la lc ds) (hk:K0 wr w4) :
 GI w w4 B cs tv n T d X N Z pre post vpre vpost k Ty I m la lc ds:=
 ⟨h.rs.keep0 hk,h.kp.trans hk (λ_ _ e=>e.elim),h.zr.keep hk (λ e=>e),h.rc.keep hk (λ e=>e),h.own.keep hk (λ b _ _ e=>e) (λ g _ e=>e),h.low,
  h.pr.keep hk (λ b _ _ e=>e),h.po.keep hk (λ b _ _ e=>e)⟩
theorem A7 {α} (a:List α) (x y:α) (b:List α):(a++x::b).set a.length y=a++y::b:=by
 rw [List.set_append_right _ _ (nC _),Nat.sub_self,List.set_cons_zero]
theorem GI.more (h:GI w wr B cs tv n T d X N Z pre post vpre vpost k Ty I m la lc ds) (hc:cs<w.heap.size) (hX:w.heap.size<X) (hN:w.heap.size<N) (sB:X≤wr.heap.size) (hk:ae (λ b=>b=cs) wr w4) (du:RS w4 B cs tv n T J d) {d2:List Dt} {us:List Value} (hx:bV w4 (λ b=>wr.heap.size≤b) d2 us) :
 ∃xs,w4.ownsRow 0 Ty k (.slice la m lc) m xs∧af w4 N (vpre++.slice la m lc::vpost)∧
  ∀(gg aC:Nat) (w5:World) (o:Obj),w5.ownsRow 0 Ty k (.slice (some ⟨gg,0,none⟩) (m+1) aC) (m+1) (xs++us)→(w4.alloc o).grownBy w5 (Value.slice la m lc).ownBlock→((Value.slice la m lc).ownBlock=some gg∨gg=w4.heap.size+1)→
   af w5 N (vpre++.slice la m lc::vpost)∧GI w (w5.setCell ⟨N,vpre.length,none⟩ (.slice (some ⟨gg,0,none⟩) (m+1) aC)) B cs tv n T d X N Z pre post vpre vpost k Ty J (m+1) (some ⟨gg,0,none⟩) aC (ds++d2):=by
 have h4:=h.move hc hX hN hk du;have hB:=du.cs;have ek:=hk.size;have fR:=h4.rc.lt;have hNr:=h.rc.lt;have fA:=h4.low;have fT:=h4.zr.lt;obtain⟨xs,hr,ho⟩:=h4.own;refine⟨xs,ho,h4.rc,λ gg aC w5 o aU ao bf=>?_⟩;have bi:ae (λ b=>(Value.slice la m lc).ownBlock=some b) w4 w5:=((ae.refl _ w4).alloc o).grown ao (λ k hk _=>hk);have UM:gg≠N:=by
  rcases bf with h1 | h1
  ·exact (fA gg h1).2
  ·omega
 have Xv:X≤gg:=by
  rcases bf with h1 | h1
  ·exact (fA gg h1).1
  ·have:=hk.size;omega
 have vU:=h4.rc.keep bi (λ e=>(fA N e).2 rfl);have cu:ae (λ b=>b=N) w5 (w5.setCell ⟨N,vpre.length,none⟩ (.slice (some ⟨gg,0,none⟩) (m+1) aC)):=(ae.refl _ _).setCell _ _ λ_=>rfl;have mf:=du.keep bi (λ b hb e=>by have:=fA b e;omega) (λ e=>by have:=fA cs e;omega);have pX:bV w4 (λ b=>(X≤b∧b≠N)∧(Value.slice la m lc).ownBlock≠some b) d2 us:=hx.mono λ b _ hb=>⟨⟨oM,oM⟩,λ e=>by have:=h.own.lt e;omega⟩
 have qC:∀{dd:List Dt} {vv:List Value},bV w4 (λ b=>(X≤b∧b≠N)∧(Value.slice la m lc).ownBlock≠some b) dd vv→
  bV (w5.setCell ⟨N,vpre.length,none⟩ (.slice (some ⟨gg,0,none⟩) (m+1) aC)) (λ b=>(X≤b∧b≠N)∧(Value.slice (some ⟨gg,0,none⟩) (m+1) aC).ownBlock≠some b) dd vv:=λ hh=>
  ((
   (hh.lt.keep bi (λ b _ hb e=>hb.1.2 e)).keep cu (λ b _ hb e=>hb.1.1.2 e)).mono λ b _ hb=>⟨hb.1.1,λ e=>by
   have h3:gg=b:=nD e;rcases bf with h1 | h1
   ·exact hb.1.2 (by rw [h1,h3])
   ·have:=hb.2;omega⟩)
 refine⟨vU,?_⟩;refine⟨mf.keep cu (λ b hb e=>oM) (λ e=>oM),(h4.kp.trans bi (λ b hb e=>by have:=fA b e;omega)).fresh cu (λ b e=>oM),(h4.zr.keep bi (λ e=>by have:=fA _ e;omega)).keep cu (λ e=>oM),?_,?_,?_,qC h4.pr,qC h4.po⟩
 ·have:=vU.set vpre.length (.slice (some ⟨gg,0,none⟩) (m+1) aC);rw [A7] at this;exact this
 ·have dU:=hr.app pX;have hr3:=((dU.lt.keep bi (λ b _ hb e=>hb.1.2 e)).keep cu (λ b _ hb e=>hb.1.1.2 e));have qb:bV (w5.setCell ⟨N,vpre.length,none⟩ (.slice (some ⟨gg,0,none⟩) (m+1) aC)) (λ b=>(X≤b∧b≠N)∧(Value.slice (some ⟨gg,0,none⟩) (m+1) aC).ownBlock≠some b) (ds++d2) (xs++us):=hr3.mono λ b _ hb=>⟨hb.1.1,λ e=>by
   have h3:gg=b:=nD e;rcases bf with h1 | h1
   ·exact hb.1.2 (by rw [h1,h3])
   ·have:=hb.2;omega⟩
  refine⟨xs++us,qb,?_⟩
  ·refine⟨aU.1,?_⟩;exact NU
 ·intro g hg;have h3:gg=g:=nD hg;exact vx
theorem GI.all (h:GI w wr B cs tv n T d X N Z pre post vpre vpost k Ty I m la lc ds):bV wr (λ b=>X≤b) (pre++.sl k ds::post) (vpre++.slice la m lc::vpost):=by
 have h1:=h.own.reads (λ g hg=>h.low g hg);exact (h.pr.mono λ b _ hb=>hb.1.1).app ⟨h1.mono λ b _ hb=>hb.1,h.po.mono λ b _ hb=>hb.1.1⟩
end
end Go.Proofs.YtiihpbccabeoeaaGreatDoor
