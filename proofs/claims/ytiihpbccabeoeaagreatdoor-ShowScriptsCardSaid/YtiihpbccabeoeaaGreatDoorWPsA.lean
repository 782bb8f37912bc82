/- The walk: a part. -/
import Derived.Test.YtiihpbccabeoeaaGreatDoorWPkE
import Derived.Test.YtiihpbccabeoeaaGreatDoorWPkC
import Derived.StillTailTactics
import Derived.Test.YtiihpbccabeoeaaGreatDoorWPkF
import Derived.Deep.RegionHeld3
namespace Go.Proofs.YtiihpbccabeoeaaGreatDoor
open Go.RowKit
set_option linter.unusedVariables false
set_option maxRecDepth 100000
set_option maxHeartbeats 16000000
structure Px where
 kind:Int
 text:Bs
 name:Bs
 op:Bs
 word:List Dt
 quoted:Bool
def Px.row (x:Px):List Dt:=[.int x.kind,.str x.text,.str x.name,.str x.op,.sl 6 x.word,.bool x.quoted]
def cD:Nat→List Dt→Prop
 | 0,ds=>ds=[]
 | n+1,ds=>∃xs:List Px,ds=xs.flatMap Px.row∧∀x∈xs,cD n x.word
structure Ny where
 kind:Int
 nt:Bool
 nm:Bs
 ws:List (List Dt)
 gs:List (Bs×List Dt)
 rs:List (Bs×List Dt)
 ks:List Dt
 ar:List (List (List Dt)×List Dt)
def wdD (w:List Dt):List Dt:=[.sl 6 w]
def prD (g:Bs×List Dt):List Dt:=[.str g.1,.sl 6 g.2]
def arD (a:List (List Dt)×List Dt):List Dt:=[.sl 1 (a.1.flatMap wdD),.sl 8 a.2]
def Ny.row (x:Ny):List Dt:=[.int x.kind,.bool x.nt,.str x.nm,.sl 1 (x.ws.flatMap wdD),.sl 2 (x.gs.flatMap prD),.sl 2 (x.rs.flatMap prD),.sl 8 x.ks,.sl 2 (x.ar.flatMap arD)]
def eQ:Nat→List Dt→Prop
 | 0,ds=>ds=[]
 | n+1,ds=>∃xs:List Ny,ds=xs.flatMap Ny.row∧∀x∈xs,(∀v∈x.ws,cD n v)∧(∀g∈x.gs,cD n g.2)∧(∀g∈x.rs,cD n g.2)∧eQ n x.ks∧∀a∈x.ar,(∀v∈a.1,cD n v)∧eQ n a.2
theorem lS {α:Type} {f:α→List Dt} {k:Nat} (hf:∀a,(f a).length=k):∀xs:List α,(xs.flatMap f).length=xs.length*k
 | []=>by simp
 | x::t=>by rw [List.flatMap_cons,lA,hf,lS hf t,lC];rw [Nat.succ_mul];omega
theorem Lt {α:Type} {f:α→List Dt} {k:Nat} (hf:∀a,(f a).length=k):∀{xs:List α} {i:Nat} (hi:i<xs.length) {j:Nat} (hj:j<k),(xs.flatMap f)[i*k+j]? = (f xs[i])[j]?
 | x::t,0,hi,j,hj=>by
  rw [List.flatMap_cons,Nat.zero_mul,Nat.zero_add,List.getElem?_append_left (by rw [hf];exact hj)];rfl
 | x::t,i+1,hi,j,hj=>by
  rw [List.flatMap_cons,List.getElem?_append_right (by rw [hf,Nat.succ_mul];omega),hf,show (i+1)*k+j - k=i*k+j by rw [Nat.succ_mul];omega];exact Lt hf (xs:=t) (by simpa using hi) hj
theorem lK {α:Type} {f:α→List Dt} {k:Nat} (hk:0<k) (hf:∀a,(f a).length=k) (hi:∀a b,f a=f b→a=b):∀xs ys:List α,xs.flatMap f=ys.flatMap f→xs=ys
 | [],[],_=>rfl
 | [],y::u,h=>by
  have:=congrArg List.length h;rw [lS hf,lS hf,lC,Nat.succ_mul,lN] at this;omega
 | x::t,[],h=>by
  have:=congrArg List.length h;rw [lS hf,lS hf,lC,Nat.succ_mul,lN] at this;omega
 | x::t,y::u,h=>by
  rw [List.flatMap_cons,List.flatMap_cons] at h;obtain⟨h1,h2⟩:=List.append_inj h (by rw [hf,hf]);rw [hi _ _ h1,lK hk hf hi t u h2]
theorem Qp (a b:Px) (h:a.row=b.row):a=b:=by
 cases a;cases b;simp only [Px.row,List.cons.injEq,Dt.int.injEq,Dt.str.injEq,Dt.sl.injEq,Dt.bool.injEq,true_and,and_true] at h;obtain⟨h0,h1,h2,h3,h4,h5⟩:=h;subst h0 h1 h2 h3 h4 h5;rfl
theorem Kw (a b:List Dt) (h:wdD a=wdD b):a=b:=by
 simp only [wdD,List.cons.injEq,Dt.sl.injEq,true_and,and_true] at h;exact h
theorem M5 (a b:Bs×List Dt) (h:prD a=prD b):a=b:=by
 simp only [prD,List.cons.injEq,Dt.sl.injEq,Dt.str.injEq,true_and,and_true] at h;exact Prod.ext h.1 h.2
theorem Pw (a b:List (List Dt)×List Dt) (h:arD a=arD b):a=b:=by
 simp only [arD,List.cons.injEq,Dt.sl.injEq,true_and,and_true] at h;exact Prod.ext (lK (k:=1) (by decide) (fun _=>rfl) Kw _ _ h.1) h.2
theorem P8 (a b:Ny) (h:a.row=b.row):a=b:=by
 cases a;cases b;simp only [Ny.row,List.cons.injEq,Dt.int.injEq,Dt.str.injEq,Dt.sl.injEq,Dt.bool.injEq,true_and,and_true] at h;obtain⟨h0,h1,h2,h3,h4,h5,h6,h7⟩:=h;have h3:=lK (k:=1) (by decide) (fun _=>rfl) Kw _ _ h3;have h4:=lK (k:=2) (by decide) (fun _=>rfl) M5 _ _ h4;have h5:=lK (k:=2) (by decide) (fun _=>rfl) M5 _ _ h5;have h7:=lK (k:=2) (by decide) (fun _=>rfl) Pw _ _ h7
 subst h0 h1 h2 h3 h4 h5 h6 h7;rfl
section
variable {w:World} {D:Nat→Prop} {a:OA} {m c:Nat}
theorem cK {α:Type} {f:α→List Dt} {k:Nat} (hf:∀a,(f a).length=k) (hk:0<k) {xs:List α} (h:Rd w D (.sl k (xs.flatMap f)) (.slice a m c)) :
 m=xs.length∧∀i (hi:i<xs.length),∃b off,a=some ⟨b,off,none⟩∧b<w.heap.size∧∀j,j<k→∃u,w.cell? ⟨b,off+i*k+j,none⟩=some u∧∀d,(f xs[i])[j]? = some d→Rd w D d u:=by
 obtain⟨a',m',c',e,hl,_,_⟩:=h.shape hk;injection e with e1 e2 e3;subst e1 e2 e3;rw [lS hf] at hl;refine⟨(Nat.eq_of_mul_eq_mul_right hk hl).symm,fun i hi=>?_⟩;have hpos:i*k+k≤xs.length*k:=by rw [←Nat.succ_mul];exact Nat.mul_le_mul_right _ hi
 obtain⟨b,off,u0,rfl,hb,_,_,_⟩:=h.cell (j:=i*k) (by rw [lS hf];omega);refine⟨b,off,rfl,hb,fun j hj=>?_⟩;have hj2:i*k+j<(xs.flatMap f).length:=by rw [lS hf];omega
 obtain⟨b2,off2,u,e,_,_,h1,h2⟩:=h.cell hj2;injection e with e;injection e with e1 e2 e3;subst e1 e2;refine⟨u,by rw [Nat.add_assoc];exact h1,fun d hd2=>?_⟩;rw [←Lt hf hi hj,List.getElem?_eq_getElem hj2] at hd2;rw [←Option.some.inj hd2];exact h2
theorem cR {k:Nat} {cs:List Dt} (hk:0<k) (h:Rd w D (.sl k cs) (.slice a m c)):m≤9223372036854775807:=by
 obtain⟨a',m',c',e,_,h1,h2⟩:=h.shape hk;injection e with e1 e2 e3;subst e1 e2 e3;unfold maxLen at h2;omega
theorem O8 {n:Int} {u:Value} (h:Rd w D (.int n) u):u=.int .i64 n:=by cases h;rfl
theorem K9 {b:Bool} {u:Value} (h:Rd w D (.bool b) u):u=.bool b:=by cases h;rfl
theorem Bd {l:List UInt8} {u:Value} (h:Rd w D (.str l) u):u=.string ⟨l.toArray⟩:=by cases h;rfl
theorem pK {k:Nat} {cs:List Dt} {u:Value} (hk:0<k) (h:Rd w D (.sl k cs) u):∃xa xl xc,u=.slice xa xl xc:=by
 obtain⟨a,m,c,rfl,_⟩:=h.shape hk;exact⟨a,m,c,rfl⟩
theorem rU {xs:List Px} (h:Rd w D (.sl 6 (xs.flatMap Px.row)) (.slice a m c)) {i:Nat} (hi:i<xs.length) :
 ∃(g o:Nat) (xa:OA) (xl xc:Nat),a=some ⟨g,o,none⟩∧g<w.heap.size∧
  (w.cell? ⟨g,o+i*6,none⟩=some (.int .i64 xs[i].kind)∧w.cell? ⟨g,o+i*6+1,none⟩=some (.string ⟨xs[i].text.toArray⟩)∧w.cell? ⟨g,o+i*6+2,none⟩=some (.string ⟨xs[i].name.toArray⟩)∧w.cell? ⟨g,o+i*6+3,none⟩=some (.string ⟨xs[i].op.toArray⟩)∧w.cell? ⟨g,o+i*6+4,none⟩=some (.slice xa xl xc)∧w.cell? ⟨g,o+i*6+5,none⟩=some (.bool xs[i].quoted))∧
  Rd w D (.sl 6 xs[i].word) (.slice xa xl xc):=by
 obtain⟨b,off,rfl,hb,hF⟩:=(cK (k:=6) (fun _=>rfl) (by decide) h).2 i hi;obtain⟨u0,c0,r0⟩:=hF 0 (by decide);obtain⟨u1,c1,r1⟩:=hF 1 (by decide);obtain⟨u2,c2,r2⟩:=hF 2 (by decide);obtain⟨u3,c3,r3⟩:=hF 3 (by decide);obtain⟨u4,c4,r4⟩:=hF 4 (by decide);obtain⟨u5,c5,r5⟩:=hF 5 (by decide);generalize xs[i]=x at *;obtain rfl:=O8 (n:=x.kind) (r0 _ rfl);obtain rfl:=Bd (l:=x.text) (r1 _ rfl);obtain rfl:=Bd (l:=x.name) (r2 _ rfl)
 obtain rfl:=Bd (l:=x.op) (r3 _ rfl);have s4:Rd w D (.sl 6 x.word) u4:=r4 _ rfl;obtain⟨xa,xl,xc,rfl⟩:=pK (by decide) s4;obtain rfl:=K9 (b:=x.quoted) (r5 _ rfl);exact⟨b,off,xa,xl,xc,rfl,hb,⟨c0,c1,c2,c3,c4,c5⟩,s4⟩
theorem oP {ws:List (List Dt)} (h:Rd w D (.sl 1 (ws.flatMap wdD)) (.slice a m c)) {i:Nat} (hi:i<ws.length) :
 ∃(g o:Nat) (xa:OA) (xl xc:Nat),a=some ⟨g,o,none⟩∧g<w.heap.size∧w.cell? ⟨g,o+i,none⟩=some (.slice xa xl xc)∧Rd w D (.sl 6 ws[i]) (.slice xa xl xc):=by
 obtain⟨b,off,rfl,hb,hF⟩:=(cK (k:=1) (fun _=>rfl) (by decide) h).2 i hi;obtain⟨u,h1,h2⟩:=hF 0 (by decide);have s4:Rd w D (.sl 6 ws[i]) u:=h2 _ rfl;obtain⟨xa,xl,xc,rfl⟩:=pK (by decide) s4;exact⟨b,off,xa,xl,xc,rfl,hb,by rw [Nat.mul_one,Nat.add_zero] at h1;exact h1,s4⟩
theorem jL {gs:List (Bs×List Dt)} (h:Rd w D (.sl 2 (gs.flatMap prD)) (.slice a m c)) {i:Nat} (hi:i<gs.length) :
 ∃(g o:Nat) (xa:OA) (xl xc:Nat),a=some ⟨g,o,none⟩∧g<w.heap.size∧w.cell? ⟨g,o+i*2,none⟩=some (.string ⟨gs[i].1.toArray⟩)∧w.cell? ⟨g,o+i*2+1,none⟩=some (.slice xa xl xc)∧Rd w D (.sl 6 gs[i].2) (.slice xa xl xc):=by
 obtain⟨b,off,rfl,hb,hF⟩:=(cK (k:=2) (fun _=>rfl) (by decide) h).2 i hi;obtain⟨u0,c0,r0⟩:=hF 0 (by decide);obtain⟨u1,c1,r1⟩:=hF 1 (by decide);obtain rfl:=Bd (l:=gs[i].1) (r0 _ rfl);have s4:Rd w D (.sl 6 gs[i].2) u1:=r1 _ rfl;obtain⟨xa,xl,xc,rfl⟩:=pK (by decide) s4;exact⟨b,off,xa,xl,xc,rfl,hb,c0,c1,s4⟩
theorem vK {ar:List (List (List Dt)×List Dt)} (h:Rd w D (.sl 2 (ar.flatMap arD)) (.slice a m c)) {i:Nat} (hi:i<ar.length) :
 ∃(g o:Nat) (pa:OA) (pn pc:Nat) (ba:OA) (bn bc:Nat),a=some ⟨g,o,none⟩∧g<w.heap.size∧w.cell? ⟨g,o+i*2,none⟩=some (.slice pa pn pc)∧w.cell? ⟨g,o+i*2+1,none⟩=some (.slice ba bn bc)∧Rd w D (.sl 1 (ar[i].1.flatMap wdD)) (.slice pa pn pc)∧Rd w D (.sl 8 ar[i].2) (.slice ba bn bc):=by
 obtain⟨b,off,rfl,hb,hF⟩:=(cK (k:=2) (fun _=>rfl) (by decide) h).2 i hi;obtain⟨u0,c0,r0⟩:=hF 0 (by decide);obtain⟨u1,c1,r1⟩:=hF 1 (by decide);have s0:Rd w D (.sl 1 (ar[i].1.flatMap wdD)) u0:=r0 _ rfl;have s1:Rd w D (.sl 8 ar[i].2) u1:=r1 _ rfl;obtain⟨pa,pn,pc,rfl⟩:=pK (by decide) s0;obtain⟨ba,bn,bc,rfl⟩:=pK (by decide) s1;exact⟨b,off,pa,pn,pc,ba,bn,bc,rfl,hb,c0,c1,s0,s1⟩
structure NyV (w:World) (D:Nat→Prop) (x:Ny) (v:Nat→Value):Prop where
 k:v 0=.int .i64 x.kind
 t:v 1=.bool x.nt
 n:v 2=.string ⟨x.nm.toArray⟩
 ws:Rd w D (.sl 1 (x.ws.flatMap wdD)) (v 3)
 gs:Rd w D (.sl 2 (x.gs.flatMap prD)) (v 4)
 rs:Rd w D (.sl 2 (x.rs.flatMap prD)) (v 5)
 ks:Rd w D (.sl 8 x.ks) (v 6)
 ar:Rd w D (.sl 2 (x.ar.flatMap arD)) (v 7)
theorem Om {xs:List Ny} (h:Rd w D (.sl 8 (xs.flatMap Ny.row)) (.slice a m c)) {i:Nat} (hi:i<xs.length) :
 ∃(g o:Nat) (v:Nat→Value),a=some ⟨g,o,none⟩∧g<w.heap.size∧(∀j,j<8→w.cell? ⟨g,o+i*8+j,none⟩=some (v j))∧NyV w D xs[i] v:=by
 obtain⟨b,off,rfl,hb,hF⟩:=(cK (k:=8) (fun _=>rfl) (by decide) h).2 i hi;have hch:∃v:Nat→Value,∀j,j<8→w.cell? ⟨b,off+i*8+j,none⟩=some (v j)∧∀d,(xs[i].row)[j]? = some d→Rd w D d (v j):=
  ⟨fun j=>if hj:j<8 then Classical.choose (hF j hj) else .int .i64 0,fun j hj=>by
   have e:(if hj:j<8 then Classical.choose (hF j hj) else Value.int .i64 0)=Classical.choose (hF j hj):=dif_pos hj;show w.cell? _=some (if hj:j<8 then Classical.choose (hF j hj) else Value.int .i64 0)∧∀d,(xs[i].row)[j]? = some d→Rd w D d (if hj:j<8 then Classical.choose (hF j hj) else Value.int .i64 0);rw [e];exact Classical.choose_spec (hF j hj)⟩
 obtain⟨v,hv⟩:=hch;refine⟨b,off,v,rfl,hb,fun j hj=>(hv j hj).1,?_⟩;generalize xs[i]=x at *;exact⟨O8 ((hv 0 (by decide)).2 _ rfl),K9 ((hv 1 (by decide)).2 _ rfl),Bd ((hv 2 (by decide)).2 _ rfl),(hv 3 (by decide)).2 _ rfl,(hv 4 (by decide)).2 _ rfl,(hv 5 (by decide)).2 _ rfl,(hv 6 (by decide)).2 _ rfl,(hv 7 (by decide)).2 _ rfl⟩
end
theorem cD.out {n:Nat} {ds:List Dt} (h:cD n ds):∃xs:List Px,ds=xs.flatMap Px.row∧∀x∈xs,0<n∧cD (n - 1) x.word:=by
 cases n with
 | zero=>exact⟨[],h,fun x hx=>by cases hx⟩
 | succ n=>
  obtain⟨xs,h1,h2⟩:=h;exact⟨xs,h1,fun x hx=>⟨Nat.succ_pos _,h2 x hx⟩⟩
theorem Px.ext' {x y:Px} (h0:x.kind=y.kind) (h1:x.text=y.text) (h2:x.name=y.name) (h3:x.op=y.op) (h4:x.word=y.word) (h5:x.quoted=y.quoted):x=y:=by
 cases x;cases y;dsimp only at h0 h1 h2 h3 h4 h5;subst h0 h1 h2 h3 h4 h5;rfl
theorem K5 {xs ys:List Px}:xs.flatMap Px.row=ys.flatMap Px.row↔xs=ys:=⟨lK (k:=6) (by decide) (fun _=>rfl) Qp xs ys,fun h=>by rw [h]⟩
theorem aE {w w':World} {D:Nat→Prop} {d:Dt} {v:Value} (h:Rd w D d v) (hk:K0 w w'):Rd w' D d v:=h.keep hk (fun _ _ _ h=>h)
theorem Qw (N:Nat):∀(n:Nat),n<N→∀(m:Nat) (D E:Nat→Prop) (ds es:List Dt) (va vb:Value) (w:World),cD n ds→cD m es→Rd w D (.sl 6 ds) va→Rd w E (.sl 6 es) vb→
 Calls Tryz.prog 14 #[va,vb] w (bY w (ds=es)):=by
 induction N with
 | zero=>intro n hn;omega
 | succ N ih=>
  intro n hn m D E ds es va vb w hds hes ha hb;obtain⟨xs,rfl,hxs⟩:=hds.out;obtain⟨ys,rfl,hys⟩:=hes.out;obtain⟨aa,al,ac,rfl⟩:=pK (by decide) ha;obtain⟨ba,bl,bc,rfl⟩:=pK (by decide) hb;have hmx:=cR (by decide) ha;have hmy:=cR (by decide) hb;have hla:=(cK (k:=6) (fun _=>rfl) (by decide) ha).1;have hlb:=(cK (k:=6) (fun _=>rfl) (by decide) hb).1;have hc6:=dN;rw [K5];have HLA:=Hd hla
  have HLB:=Hd hlb;have HA:=Hd ha;have HB:=Hd hb;have HXS:=Hd hxs;have HYS:=Hd hys;have HIH:=Hd ih;clear ha hb hla hlb hxs hys hds hes ih;by_cases hl:al=bl
  ·subst hl;have HL:=Hd (show xs.length=ys.length by rw [←HLA.o,←HLB.o]);go_enter Tryz.func14,Tryz.ntmps14;go_wp2_with fail;go_loopw [5] (fun k' wr=>∃k:Nat,k'=.int .i64 k∧k≤al∧Hid (xs.take k=ys.take k)∧Hid (K0 w wr)) (fun k' _=>al - (intOf k').toNat)
   case atStart=>exact⟨0,rfl,Nat.zero_le _,Hd rfl,Hd (aB.refl _ _)⟩
   case round=>
    obtain⟨k,rfl,hk,HT,HK⟩:=hrel;by_cases hlt:k<al
    ·have hlta:k<xs.length:=by rw [←HLA.o];exact hlt
     have hltb:k<ys.length:=by rw [←HLB.o];exact hlt
     obtain⟨g,o,xa,xl,xc,rfl,hg,⟨q0,q1,q2,q3,q4,q5⟩,hx⟩:=rU (aE HA.o HK.o) hlta;obtain⟨g',o',ya,yl,yc,rfl,hg',⟨r0,r1,r2,r3,r4,r5⟩,hy⟩:=rU (aE HB.o HK.o) hltb;obtain⟨hn0,hxw⟩:=HXS.o _ (List.getElem_mem hlta);obtain⟨_,hyw⟩:=HYS.o _ (List.getElem_mem hltb);obtain⟨x,hxe⟩:∃x,x=xs[k]:=⟨_,rfl⟩;obtain⟨y,hye⟩:∃y,y=ys[k]:=⟨_,rfl⟩;rw [←hxe] at q0 q1 q2 q3 q5 hx hxw;rw [←hye] at r0 r1 r2 r3 r5 hy hyw
     have HX:=Hd hx;have HY:=Hd hy;have HXW:=Hd hxw;have HYW:=Hd hyw;have HTK:=Hd (fun e:x=y=>fG hlta hltb HT.o (by rw [←hxe,←hye];exact e));have HNE:=Hd (show xs=ys→x=y from fun h=>by
      rw [hxe,hye];simp only [h])
     clear hx hy hxe hye hxw hyw hlta hltb HT;have p1:(k:Int)<(al:Int):=by omega
     obtain⟨kx,hkx⟩:∃q,q=x.kind:=⟨_,rfl⟩;obtain⟨ky,hky⟩:∃q,q=y.kind:=⟨_,rfl⟩;rw [←hkx] at q0;rw [←hky] at r0;by_cases c0:kx=ky
     ·have t0:(ky != ky)=false:=by simp
      have C0:=Hd (hkx.symm.trans (c0.trans hky));clear hkx hky;subst c0;cases t1:(x.text==y.text) with
      | false=>
       go_wp2_with fail;go_ret;exact⟨false,rfl,⟨fun h=>(by cases h),fun h=>absurd (by rw [HNE.o h]) (ne_of_beq_false t1)⟩,(HK.o.alloc _).alloc _⟩
      | true=>
      cases t2:(x.name==y.name) with
      | false=>
       go_wp2_with fail;go_ret;exact⟨false,rfl,⟨fun h=>(by cases h),fun h=>absurd (by rw [HNE.o h]) (ne_of_beq_false t2)⟩,(HK.o.alloc _).alloc _⟩
      | true=>
      cases t3:(x.op==y.op) with
      | false=>
       go_wp2_with fail;go_ret;exact⟨false,rfl,⟨fun h=>(by cases h),fun h=>absurd (by rw [HNE.o h]) (ne_of_beq_false t3)⟩,(HK.o.alloc _).alloc _⟩
      | true=>
      obtain⟨qx,hqx⟩:∃q,q=x.quoted:=⟨_,rfl⟩;obtain⟨qy,hqy⟩:∃q,q=y.quoted:=⟨_,rfl⟩;rw [←hqx] at q5;rw [←hqy] at r5;by_cases t4:qx=qy
      ·have HQ:=Hd (hqx.symm.trans (t4.trans hqy));clear hqx hqy;subst t4;obtain⟨W,hW⟩:∃W,W=(wr.alloc (.cells #[.int .i64 kx,.string ⟨x.text.toArray⟩,.string ⟨x.name.toArray⟩,.string ⟨x.op.toArray⟩,.slice xa xl xc,.bool qx] 67)).alloc (.cells #[.int .i64 kx,.string ⟨y.text.toArray⟩,.string ⟨y.name.toArray⟩,.string ⟨y.op.toArray⟩,.slice ya yl yc,.bool qx] 67):=⟨_,rfl⟩;have hkW:K0 wr W:=by rw [hW];exact ((aB.refl _ _).alloc _).alloc _
       have HC:=Hd (HIH.o (n - 1) (by omega) (m - 1) D E x.word y.word _ _ W HXW.o HYW.o (aE HX.o hkW) (aE HY.o hkW));have HKW:=Hd (HK.o.trans hkW (fun _ _ s=>s));have HW:=Hd hW;clear hkW hW;have HT1:=Hd (eq_of_beq t1);have HT2:=Hd (eq_of_beq t2);have HT3:=Hd (eq_of_beq t3);go_wp2_with fail;rw [←HW.o];refine HC.o.mono ?_;rintro e w2 ⟨r,rfl,hr,hk2⟩;have HK2:=Hd (HKW.o.trans hk2 (fun _ _ s=>s))
       cases r with
       | true=>
        have HWD:=Hd (hr.1 rfl);clear hr hk2;go_wp2_with fail;go_roundw
        case rel=>exact⟨k+1,by go_num,by omega,Hd (HTK.o (Px.ext' C0.out HT1.o HT2.o HT3.o HWD.o HQ.o)),HK2⟩
        case measure=>simp [intOf];omega
       | false=>
        have HWD:=Hd (show x.word≠y.word from fun h=>by have:=hr.2 h;cases this);clear hr hk2;go_wp2_with fail;go_ret;exact⟨false,rfl,⟨fun h=>(by cases h),fun h=>absurd (by rw [HNE.o h]) HWD.o⟩,HK2.o⟩
      ·have HQ:=Hd (show x.quoted≠y.quoted by rw [←hqx,←hqy];exact t4);clear hqx hqy;cases qx<;>cases qy
       ·exact absurd rfl t4
       ·clear t4;go_wp2_with fail;go_ret;exact⟨false,rfl,⟨fun h=>(by cases h),fun h=>absurd (by rw [HNE.o h]) HQ.o⟩,(HK.o.alloc _).alloc _⟩
       ·clear t4;go_wp2_with fail;go_ret;exact⟨false,rfl,⟨fun h=>(by cases h),fun h=>absurd (by rw [HNE.o h]) HQ.o⟩,(HK.o.alloc _).alloc _⟩
       ·exact absurd rfl t4
     ·have t0:(kx != ky)=true:=by rw [bne_iff_ne];exact c0
      have C0:=Hd (show x.kind≠y.kind by rw [←hkx,←hky];exact c0);clear c0 hkx hky;go_wp2_with fail;go_ret;exact⟨false,rfl,⟨fun h=>(by cases h),fun h=>absurd (by rw [HNE.o h]) C0.out⟩,(HK.o.alloc _).alloc _⟩
    ·obtain rfl:k=al:=by omega
     have HF:=Hd (show xs=ys by
      have h:=HT.o;rw [List.take_of_length_le (by rw [←HLA.o];exact Nat.le_refl _),List.take_of_length_le (by rw [←HLB.o];exact Nat.le_refl _)] at h;exact h)
     have p1:¬(k:Int)<(k:Int):=by omega
     go_wp2_with fail;go_ret;exact⟨true,rfl,⟨fun _=>HF.o,fun _=>rfl⟩,HK.o⟩
  ·have e1:((al:Int) != (bl:Int))=true:=by rw [bne_iff_ne];omega
   have HL:=Hd (show xs.length≠ys.length by rw [←HLA.o,←HLB.o];exact hl);clear hl;go_enter Tryz.func14,Tryz.ntmps14;go_wp2_with fail;go_ret;exact⟨false,rfl,⟨fun h=>(by cases h),fun h=>absurd (by rw [h]) HL.o⟩,aB.refl _ _⟩
theorem Dr (n m:Nat) (D E:Nat→Prop) (ds es:List Dt) (va vb:Value) (w:World) (hds:cD n ds) (hes:cD m es) (ha:Rd w D (.sl 6 ds) va) (hb:Rd w E (.sl 6 es) vb) :
 Calls Tryz.prog 14 #[va,vb] w (bY w (ds=es)):=Qw (n+1) n (Nat.lt_succ_self _) m D E ds es va vb w hds hes ha hb
theorem M0 (w:World) (D E:Nat→Prop) (n m:Nat) (xs ys:List (List Dt)) (hxs:∀v∈xs,cD n v) (hys:∀v∈ys,cD m v) (va vb:Value) (ha:Rd w D (.sl 1 (xs.flatMap wdD)) va) (hb:Rd w E (.sl 1 (ys.flatMap wdD)) vb) :
 Calls Tryz.prog 36 #[va,vb] w (bY w (xs=ys)):=by
 obtain⟨aa,al,ac,rfl⟩:=pK (by decide) ha;obtain⟨ba,bl,bc,rfl⟩:=pK (by decide) hb;have hmx:=cR (by decide) ha;have hmy:=cR (by decide) hb;have HLA:=Hd (cK (k:=1) (fun _=>rfl) (by decide) ha).1;have HLB:=Hd (cK (k:=1) (fun _=>rfl) (by decide) hb).1;have HA:=Hd ha;have HB:=Hd hb;have HXS:=Hd hxs;have HYS:=Hd hys;clear ha hb hxs hys;by_cases hl:al=bl
 ·subst hl;go_enter Tryz.func36,Tryz.ntmps36;go_wp2_with fail;go_loopw [5] (fun k' wr=>∃k:Nat,k'=.int .i64 k∧k≤al∧Hid (xs.take k=ys.take k)∧Hid (K0 w wr)) (fun k' _=>al - (intOf k').toNat)
  case atStart=>exact⟨0,rfl,Nat.zero_le _,Hd rfl,Hd (aB.refl _ _)⟩
  case round=>
   obtain⟨k,rfl,hk,HT,HK⟩:=hrel;by_cases hlt:k<al
   ·have hlta:k<xs.length:=by rw [←HLA.o];exact hlt
    have hltb:k<ys.length:=by rw [←HLB.o];exact hlt
    obtain⟨g,o,xa,xl,xc,rfl,hg,q0,hx⟩:=oP (aE HA.o HK.o) hlta;obtain⟨g',o',ya,yl,yc,rfl,hg',r0,hy⟩:=oP (aE HB.o HK.o) hltb;have HC:=Hd (fun W (h:K0 wr W)=>Dr n m D E xs[k] ys[k] _ _ W (HXS.o _ (List.getElem_mem hlta)) (HYS.o _ (List.getElem_mem hltb)) (aE hx h) (aE hy h));have HTK:=Hd (fun e:xs[k]=ys[k]=>fG hlta hltb HT.o e);have HNE:=Hd (show xs=ys→xs[k]=ys[k] from fun h=>by simp only [h])
    have p1:(k:Int)<(al:Int):=by omega
    obtain⟨x,hxe⟩:∃x,x=xs[k]:=⟨_,rfl⟩;obtain⟨y,hye⟩:∃y,y=ys[k]:=⟨_,rfl⟩;rw [←hxe,←hye] at HC HTK HNE;clear hx hy hxe hye hlta hltb HT;go_wp2_with fail;go_still_tail 8,(by kernel_rfl);change wpList _ _ _ _ _ wr.drew;go_wp2_with fail;refine (HC.o _ (aB.refl _ _).drew).mono ?_;rintro e w2 ⟨r,rfl,hr,hk2⟩;have HK2:=Hd ((HK.o.trans ((aB.refl (fun _=>False) wr).drew) k3).trans hk2 k3)
    cases r with
    | true=>
     have HWD:=Hd (hr.1 rfl);clear hr hk2 HC;go_wp2_with fail;go_roundw
     case rel=>exact⟨k+1,by go_num,by omega,Hd (HTK.o HWD.o),HK2⟩
     case measure=>simp [intOf];omega
    | false=>
     have HWD:=Hd (show x≠y from fun h=>by have:=hr.2 h;cases this);clear hr hk2 HC;go_wp2_with fail;go_ret;exact⟨false,rfl,⟨fun h=>(by cases h),fun h=>absurd (HNE.o h) HWD.o⟩,HK2.o⟩
   ·obtain rfl:k=al:=by omega
    have HF:=Hd (show xs=ys by
     have h:=HT.o;rw [List.take_of_length_le (by rw [←HLA.o];exact Nat.le_refl _),List.take_of_length_le (by rw [←HLB.o];exact Nat.le_refl _)] at h;exact h)
    have p1:¬(k:Int)<(k:Int):=by omega
    go_wp2_with fail;go_ret;exact⟨true,rfl,⟨fun _=>HF.o,fun _=>rfl⟩,HK.o⟩
 ·have e1:((al:Int) != (bl:Int))=true:=by rw [bne_iff_ne];omega
  have HL:=Hd (show xs.length≠ys.length by rw [←HLA.o,←HLB.o];exact hl);clear hl;go_enter Tryz.func36,Tryz.ntmps36;go_wp2_with fail;go_ret;exact⟨false,rfl,⟨fun h=>(by cases h),fun h=>absurd (by rw [h]) HL.o⟩,aB.refl _ _⟩
structure NyR (w:World) (D:Nat→Prop) (x:Ny) (wa:OA) (wl wc:Nat) (ga:OA) (gl gc:Nat) (ra:OA) (rl rcp:Nat) (ka:OA) (kl kc:Nat) (aa:OA) (al ac:Nat):Prop where
 ws:Rd w D (.sl 1 (x.ws.flatMap wdD)) (.slice wa wl wc)
 gs:Rd w D (.sl 2 (x.gs.flatMap prD)) (.slice ga gl gc)
 rs:Rd w D (.sl 2 (x.rs.flatMap prD)) (.slice ra rl rcp)
 ks:Rd w D (.sl 8 x.ks) (.slice ka kl kc)
 ar:Rd w D (.sl 2 (x.ar.flatMap arD)) (.slice aa al ac)
theorem NyR.keep0 {w w':World} {D:Nat→Prop} {x:Ny} {wa ga ra ka aa:OA} {wl wc gl gc rl rcp kl kc al ac:Nat} (h:NyR w D x wa wl wc ga gl gc ra rl rcp ka kl kc aa al ac) (hk:K0 w w'):NyR w' D x wa wl wc ga gl gc ra rl rcp ka kl kc aa al ac:=⟨aE h.ws hk,aE h.gs hk,aE h.rs hk,aE h.ks hk,aE h.ar hk⟩
theorem iO {w:World} {D:Nat→Prop} {a:OA} {m c:Nat} {xs:List Ny} (h:Rd w D (.sl 8 (xs.flatMap Ny.row)) (.slice a m c)) {i:Nat} (hi:i<xs.length) :
 ∃(g o:Nat) (wa:OA) (wl wc:Nat) (ga:OA) (gl gc:Nat) (ra:OA) (rl rcp:Nat) (ka:OA) (kl kc:Nat) (aa:OA) (al ac:Nat),a=some ⟨g,o,none⟩∧g<w.heap.size∧
  (w.cell? ⟨g,o+i*8,none⟩=some (.int .i64 xs[i].kind)∧w.cell? ⟨g,o+i*8+1,none⟩=some (.bool xs[i].nt)∧w.cell? ⟨g,o+i*8+2,none⟩=some (.string ⟨xs[i].nm.toArray⟩)∧w.cell? ⟨g,o+i*8+3,none⟩=some (.slice wa wl wc)∧w.cell? ⟨g,o+i*8+4,none⟩=some (.slice ga gl gc)∧w.cell? ⟨g,o+i*8+5,none⟩=some (.slice ra rl rcp)∧w.cell? ⟨g,o+i*8+6,none⟩=some (.slice ka kl kc)∧w.cell? ⟨g,o+i*8+7,none⟩=some (.slice aa al ac))∧
  NyR w D xs[i] wa wl wc ga gl gc ra rl rcp ka kl kc aa al ac:=by
 obtain⟨g,o,v,rfl,hg,hc,hv⟩:=Om h hi;obtain⟨wa,wl,wc,e3⟩:=pK (by decide) hv.ws;obtain⟨ga,gl,gc,e4⟩:=pK (by decide) hv.gs;obtain⟨ra,rl,rcp,e5⟩:=pK (by decide) hv.rs;obtain⟨ka,kl,kc,e6⟩:=pK (by decide) hv.ks;obtain⟨aa,al,ac,e7⟩:=pK (by decide) hv.ar;exact⟨g,o,wa,wl,wc,ga,gl,gc,ra,rl,rcp,ka,kl,kc,aa,al,ac,rfl,hg,⟨by rw [←hv.k];exact hc 0 (by decide),by rw [←hv.t];exact hc 1 (by decide),by rw [←hv.n];exact hc 2 (by decide),by rw [←e3];exact hc 3 (by decide),by rw [←e4];exact hc 4 (by decide),by rw [←e5];exact hc 5 (by decide),by rw [←e6];exact hc 6 (by decide),by rw [←e7];exact hc 7 (by decide)⟩,by rw [←e3];exact hv.ws,by rw [←e4];exact hv.gs,by rw [←e5];exact hv.rs,by rw [←e6];exact hv.ks,by rw [←e7];exact hv.ar⟩
def Aq (n:Nat) (x:Ny):Prop:=(∀v∈x.ws,cD n v)∧(∀g∈x.gs,cD n g.2)∧(∀g∈x.rs,cD n g.2)∧eQ n x.ks∧∀a∈x.ar,(∀v∈a.1,cD n v)∧eQ n a.2
theorem eQ.out {n:Nat} {ds:List Dt} (h:eQ n ds):∃xs:List Ny,ds=xs.flatMap Ny.row∧∀x∈xs,0<n∧Aq (n - 1) x:=by
 cases n with
 | zero=>exact⟨[],h,fun x hx=>by cases hx⟩
 | succ n=>
  obtain⟨xs,h1,h2⟩:=h;exact⟨xs,h1,fun x hx=>⟨Nat.succ_pos _,h2 x hx⟩⟩
theorem Lb {xs ys:List Ny}:xs.flatMap Ny.row=ys.flatMap Ny.row↔xs=ys:=⟨lK (k:=8) (by decide) (fun _=>rfl) P8 xs ys,fun h=>by rw [h]⟩
theorem Ny.ext' {x y:Ny} (h0:x.kind=y.kind) (h1:x.nt=y.nt) (h2:x.nm=y.nm) (h3:x.ws=y.ws) (h4:x.gs=y.gs) (h5:x.rs=y.rs) (h6:x.ks=y.ks) (h7:x.ar=y.ar):x=y:=by
 cases x;cases y;dsimp only at h0 h1 h2 h3 h4 h5 h6 h7;subst h0 h1 h2 h3 h4 h5 h6 h7;rfl
theorem g7 {α} {a b:List α} {k:Nat} (ha:k=a.length) (hb:k=b.length) (h:a.take k=b.take k):a=b:=by
 rw [List.take_of_length_le (by omega),List.take_of_length_le (by omega)] at h;exact h
def F7 (N:Nat):Prop:=∀(n m:Nat),n<N→∀(w:World) (D E:Nat→Prop) (ds es:List Dt) (aa ba:OA) (an ac bn bc:Nat),eQ n ds→eQ m es→Rd w D (.sl 8 ds) (.slice aa an ac)→Rd w E (.sl 8 es) (.slice ba bn bc)→
 Calls Tryz.prog 11 #[.slice aa an ac,.slice ba bn bc] w (bY w (ds=es))
theorem cD.succ:∀{n:Nat} {ds:List Dt},cD n ds→cD (n+1) ds
 | 0,ds,h=>⟨[],h,fun x hx=>by cases hx⟩
 | n+1,ds,⟨xs,h1,h2⟩=>⟨xs,h1,fun x hx=>(h2 x hx).succ⟩
theorem cD.le {n m:Nat} {ds:List Dt} (h:cD n ds) (hm:n≤m):cD m ds:=by
 induction hm with
 | refl=>exact h
 | step _ ih=>exact ih.succ
theorem eQ.succ:∀{n:Nat} {ds:List Dt},eQ n ds→eQ (n+1) ds
 | 0,ds,h=>⟨[],h,fun x hx=>by cases hx⟩
 | n+1,ds,⟨xs,h1,h2⟩=>⟨xs,h1,fun x hx=>by
  obtain⟨a,b,c,d,e⟩:=h2 x hx;exact⟨fun v hv=>(a v hv).succ,fun g hg=>(b g hg).succ,fun g hg=>(c g hg).succ,d.succ,fun y hy=>⟨fun v hv=>((e y hy).1 v hv).succ,(e y hy).2.succ⟩⟩⟩
theorem eQ.le {n m:Nat} {ds:List Dt} (h:eQ n ds) (hm:n≤m):eQ m ds:=by
 induction hm with
 | refl=>exact h
 | step _ ih=>exact ih.succ
theorem Aq.le {n m:Nat} {x:Ny} (h:Aq n x) (hm:n≤m):Aq m x:=by
 obtain⟨a,b,c,d,e⟩:=h;exact⟨fun v hv=>(a v hv).le hm,fun g hg=>(b g hg).le hm,fun g hg=>(c g hg).le hm,d.le hm,fun y hy=>⟨fun v hv=>((e y hy).1 v hv).le hm,(e y hy).2.le hm⟩⟩
def Mz (p:Pt):Px:=⟨(p.kind:Nat),p.text,p.name,p.op,aY p.word,p.quoted⟩
theorem oQ:∀l:List Pt,aY l=(l.map Mz).flatMap Px.row
 | []=>by simp [i8]
 | p::l=>by rw [jT,xA,oQ l];rfl
theorem Cq {l:List Pt} {p:Pt} (h:p∈l):SizeOf.sizeOf p.word<SizeOf.sizeOf l:=by
 have h1:=List.sizeOf_lt_of_mem h;cases p with
 | mk k t n o w q=>
  simp only [Pt.mk.sizeOf_spec] at h1;show SizeOf.sizeOf w<_;omega
theorem Ak:∀(N:Nat) (l:List Pt),SizeOf.sizeOf l≤N→cD N (aY l)
 | 0,l,h=>by
  cases l with
  | nil=>rfl
  | cons a t=>simp at h
 | N+1,l,h=>by
  refine⟨l.map Mz,oQ l,fun x hx=>?_⟩;obtain⟨p,hp,rfl⟩:=List.mem_map.1 hx;have:=Cq hp;exact Ak N p.word (by omega)
theorem vN:∀ws:List (List Pt),ws.map bG=(ws.map aY).flatMap wdD
 | []=>rfl
 | w::t=>by rw [List.map_cons,List.map_cons,List.flatMap_cons,vN t];rfl
def pR (g:Bs×List Pt):List Dt:=[.str g.1,bG g.2]
def z8 (a:List (List Pt)×List Dt):List Dt:=[.sl 1 (a.1.map bG),.sl 8 a.2]
theorem oV:∀gs:List (Bs×List Pt),gs.flatMap pR=(gs.map fun g=>(g.1,aY g.2)).flatMap prD
 | []=>rfl
 | g::t=>by rw [List.flatMap_cons,List.map_cons,List.flatMap_cons,oV t];rfl
theorem Db:∀ar:List (List (List Pt)×List Dt),ar.flatMap z8=(ar.map fun a=>(a.1.map aY,a.2)).flatMap arD
 | []=>rfl
 | a::t=>by
  rw [List.flatMap_cons,List.map_cons,List.flatMap_cons,Db t];unfold z8 arD;rw [vN]
def dR (ds:List Dt):Prop:=∃n,eQ n ds
theorem dR.nil:dR []:=⟨0,rfl⟩
theorem dR.app {a b:List Dt}:dR a→dR b→dR (a++b)
 | ⟨n,h⟩,⟨m,k⟩=>by
  obtain⟨xs,h1,h2⟩:=(h.le (Nat.le_max_left n m)).succ;obtain⟨ys,k1,k2⟩:=(k.le (Nat.le_max_right n m)).succ;refine⟨max n m+1,xs++ys,by rw [h1,k1,List.flatMap_append],fun x hx=>?_⟩;rcases List.mem_append.1 hx with hx | hx
  ·exact h2 x hx
  ·exact k2 x hx
def IsN (d:List Dt):Prop:=∃x:Ny,d=x.row∧∃n,Aq n x
theorem Ai {α:Type} {P:Nat→α→Prop} (hP:∀n m a,P n a→n≤m→P m a):∀l:List α,(∀a∈l,∃n,P n a)→∃n,∀a∈l,P n a
 | [],_=>⟨0,fun a ha=>by cases ha⟩
 | a::t,h=>by
  obtain⟨n,hn⟩:=h a (List.mem_cons_self ..);obtain⟨m,hm⟩:=Ai hP t (fun b hb=>h b (List.mem_cons_of_mem _ hb));refine⟨max n m,fun b hb=>?_⟩;rcases List.mem_cons.1 hb with rfl | hb
  ·exact hP _ _ _ hn (Nat.le_max_left ..)
  ·exact hP _ _ _ (hm b hb) (Nat.le_max_right ..)
theorem IsN.good {d:List Dt}:IsN d→dR d
 | ⟨x,h,⟨n,hn⟩⟩=>⟨n+1,[x],by simp [h],fun y hy=>by rw [List.mem_singleton.1 hy];exact hn⟩
theorem Ag (gs:List (Bs×List Pt)):∃n,∀g∈(gs.map fun g=>(g.1,aY g.2)),cD n g.2:=
 Ai (P:=fun n (g:Bs×List Dt)=>cD n g.2) (fun n m a h hm=>h.le hm) _ fun a ha=>by
  obtain⟨g,_,rfl⟩:=List.mem_map.1 ha;exact⟨_,Ak _ g.2 (Nat.le_refl _)⟩
theorem Ga (ws:List (List Pt)):∃n,∀v∈ws.map aY,cD n v:=
 Ai (P:=fun n (v:List Dt)=>cD n v) (fun n m a h hm=>h.le hm) _ fun a ha=>by
  obtain⟨g,_,rfl⟩:=List.mem_map.1 ha;exact⟨_,Ak _ g (Nat.le_refl _)⟩
theorem vX (kind:Nat) (nt:Bool) (nm:List UInt8) (ws:List (List Pt)) (gs rs:List (List UInt8×List Pt)) {ks:List Dt} (ar:List (List (List Pt)×List Dt)) (hk:dR ks) (ha:∀a∈ar,dR a.2):IsN (ndR kind nt nm (ws.map bG) (gs.flatMap pR) (rs.flatMap pR) ks (ar.flatMap z8)):=by
 obtain⟨n1,h1⟩:=Ga ws;obtain⟨n2,h2⟩:=Ag gs;obtain⟨n3,h3⟩:=Ag rs;obtain⟨n4,h4⟩:=hk;obtain⟨n5,h5⟩:=Ai (P:=fun n (a:List (List Dt)×List Dt)=>(∀v∈a.1,cD n v)∧eQ n a.2) (fun n m a h hm=>⟨fun v hv=>(h.1 v hv).le hm,h.2.le hm⟩) (ar.map fun a=>(a.1.map aY,a.2)) fun a hm=>by
  obtain⟨b,hb,rfl⟩:=List.mem_map.1 hm;obtain⟨p,hp⟩:=Ga b.1;obtain⟨q,hq⟩:=ha b hb;exact⟨max p q,fun v hv=>(hp v hv).le (Nat.le_max_left ..),hq.le (Nat.le_max_right ..)⟩
 refine⟨⟨(kind:Nat),nt,nm,ws.map aY,gs.map fun g=>(g.1,aY g.2),rs.map fun g=>(g.1,aY g.2),ks,ar.map fun a=>(a.1.map aY,a.2)⟩,?_,n1+n2+n3+n4+n5,?_⟩
 ·unfold ndR Ny.row;rw [vN,oV,oV,Db]
 ·exact⟨fun v hv=>(h1 v hv).le (by omega),fun g hg=>(h2 g hg).le (by omega),fun g hg=>(h3 g hg).le (by omega),h4.le (by omega),fun a h=>⟨fun v hv=>((h5 a h).1 v hv).le (by omega),(h5 a h).2.le (by omega)⟩⟩
theorem jU (kind:Nat) (nt:Bool) (nm:List UInt8) {ks:List Dt} (hk:dR ks):IsN (ndR kind nt nm [] [] [] ks []):=vX kind nt nm [] [] [] [] hk (fun a ha=>by cases ha)
theorem yJ {l:List Dt} (h:dR l):dR (qJ l):=by
 unfold qJ;split
 ·exact h
 ·exact (jU 5 false [] h).good
section
variable {cmd:List Tk→PR (List Dt)} {scr:Bs→Except Nat Unit}
def mS (cmd:List Tk→PR (List Dt)):Prop:=∀ts d r,cmd ts=.ok (d,r)→IsN d
theorem pM (hc:mS cmd):∀(n:Nat) (acc:List Dt) (ts:List Tk) (d:List Dt) (r:List Tk),dR acc→dE cmd n acc ts=.ok (d,r)→dR d
 | 0,acc,ts,d,r,ha,h=>by cases h
 | n+1,acc,ts,d,r,ha,h=>by
  unfold dE at h;split at h
  ·split at h
   ·cases h
   ·next d1 r1 h1=>exact pM hc n _ _ _ _ (ha.app (hc _ _ _ h1).good) h
  ·injection h with h;injection h with h1 h2;rw [←h1];exact ha
theorem lZ (hc:mS cmd) {ts:List Tk} {d:List Dt} {r:List Tk} (h:bM cmd ts=.ok (d,r)):dR d:=by
 unfold bM at h;split at h
 ·cases h
 ·next d1 r1 h1=>
  split at h
  ·cases h
  ·next l r2 h2=>
   have hl:=pM hc _ _ _ _ _ (hc _ _ _ h1).good h2;split at h
   ·injection h with h;injection h with h1 h2;rw [←h1];exact hl
   ·injection h with h;injection h with h1 h2;rw [←h1];exact (jU 2 _ [] hl).good
theorem mX (hc:mS cmd):∀(n:Nat) (acc:List Dt) (ts:List Tk) (d:List Dt) (r:List Tk),dR acc→dU cmd n acc ts=.ok (d,r)→dR d
 | 0,acc,ts,d,r,ha,h=>by cases h
 | n+1,acc,ts,d,r,ha,h=>by
  unfold dU at h;split at h
  ·split at h
   ·cases h
   ·next d1 r1 h1=>exact mX hc n _ _ _ _ (jU 3 false [] (ha.app (lZ hc h1))).good h
  ·split at h
   ·split at h
    ·cases h
    ·next d1 r1 h1=>exact mX hc n _ _ _ _ (jU 4 false [] (ha.app (lZ hc h1))).good h
   ·injection h with h;injection h with h1 h2;rw [←h1];exact ha
theorem vI (hc:mS cmd) {ts:List Tk} {d:List Dt} {r:List Tk} (h:eN cmd ts=.ok (d,r)):dR d:=by
 unfold eN at h;split at h
 ·cases h
 ·next d1 r1 h1=>exact mX hc _ _ _ _ _ (lZ hc h1) h
theorem qM (hc:mS cmd):∀(n:Nat) (acc:List Dt) (ts:List Tk) (d:List Dt) (r:List Tk),dR acc→eE cmd n acc ts=.ok (d,r)→dR d
 | 0,acc,ts,d,r,ha,h=>by cases h
 | n+1,acc,ts,d,r,ha,h=>by
  unfold eE at h;split at h
  ·split at h
   ·cases h
   ·next d1 r1 h1=>exact qM hc n _ _ _ _ (ha.app (vI hc h1)) h
  ·injection h with h;injection h with h1 h2;rw [←h1];exact ha
theorem Bz (hc:mS cmd) {ts:List Tk} {d:List Dt} {r:List Tk} (h:sC cmd ts=.ok (d,r)):dR d:=by
 unfold sC at h;split at h
 ·cases h
 ·next d1 r1 h1=>exact qM hc _ _ _ _ _ (vI hc h1) h
theorem jD (hc:mS cmd) {ts:List Tk} {d:List Dt} {r:List Tk} (h:cU cmd ts=.ok (d,r)):dR d:=by
 unfold cU at h;split at h
 ·cases h
 ·next d1 r1 h1=>injection h with h;injection h with h2 h3;rw [←h2];exact yJ (Bz hc h1)
theorem tB:∀(n:Nat) (rs:List (List UInt8×List Pt)) (ts:List Tk) (d:List Dt) (r:List Tk),cN scr n (rs.flatMap pR) ts=.ok (d,r)→∃rs2:List (List UInt8×List Pt),d=rs2.flatMap pR
 | 0,rs,ts,d,r,h=>by cases h
 | n+1,rs,ts,d,r,h=>by
  unfold cN at h;split at h
  ·split at h
   ·cases h
   ·next d1 r1 h1=>
    unfold gZ at h1;split at h1
    ·cases h1
    ·next w r2 hw=>
     injection h1 with h1;injection h1 with h2 h3;rw [←h2] at h;exact tB n (rs++[((atF ts).text,w)]) _ _ _ (by rw [List.flatMap_append];simpa [pR] using h)
  ·injection h with h;injection h with h1 h2;exact⟨rs,h1.symm⟩
theorem lM:∀(n:Nat) (ws:List (List Pt)) (gs rs:List (List UInt8×List Pt)) (ts:List Tk) (d:List Dt) (r:List Tk),bL scr n (ws.map bG) (gs.flatMap pR) (rs.flatMap pR) ts=.ok (d,r)→IsN d
 | 0,ws,gs,rs,ts,d,r,h=>by cases h
 | n+1,ws,gs,rs,ts,d,r,h=>by
  unfold bL at h;split at h
  ·split at h
   ·cases h
   ·next d1 r1 h1=>
    unfold gZ at h1;split at h1
    ·cases h1
    ·next w r2 hw=>
     injection h1 with h1;injection h1 with h2 h3;rw [←h2] at h;exact lM n ws gs (rs++[((atF ts).text,w)]) _ _ _ (by rw [List.flatMap_append];simpa [pR] using h)
  ·split at h
   ·split at h
    ·cases h
    ·next w r1 h1=>
     split at h
     ·next nm v h2=>exact lM n ws (gs++[(nm,v)]) rs _ _ _ (by rw [List.flatMap_append];simpa [pR] using h)
     ·next h2=>exact lM n (ws++[w]) gs rs _ _ _ (by rw [List.map_append];exact h)
   ·injection h with h;injection h with h1 h2;rw [←h1];exact vX 1 false [] ws gs rs [] dR.nil (fun a ha=>by cases ha)
theorem sN (hc:mS cmd) {ts:List Tk} {d:List Dt} {r:List Tk} (h:dQ cmd ts=.ok (d,r)):dR d:=by
 unfold dQ at h;split at h
 ·cases h
 ·split at h
  ·cases h
  ·next d1 r1 h1=>
   split at h
   ·cases h
   ·injection h with h;injection h with h2 h3;rw [←h2];exact jD hc h1
theorem vB (hc:mS cmd) {kind:Nat} {ts:List Tk} {d:List Dt} {r:List Tk} (h:fB cmd kind ts=.ok (d,r)):IsN d:=by
 unfold fB at h;split at h
 ·cases h
 ·next d1 r1 h1=>
  split at h
  ·cases h
  ·next b r2 h2=>injection h with h;injection h with h3 h4;rw [←h3];exact jU _ _ _ ((jD hc h1).app (sN hc h2))
theorem nL (hc:mS cmd):∀(n:Nat) (acc:List Dt) (ts:List Tk) (d:List Dt) (r:List Tk),dR acc→cA cmd n acc ts=.ok (d,r)→dR d
 | 0,acc,ts,d,r,ha,h=>by cases h
 | n+1,acc,ts,d,r,ha,h=>by
  unfold cA at h;split at h
  ·cases h
  ·next c r1 h1=>
   split at h
   ·cases h
   ·split at h
    ·cases h
    ·next b r2 h2=>
     have hg:=(ha.app (jD hc h1)).app (jD hc h2);split at h
     ·exact nL hc n _ _ _ _ hg h
     ·split at h
      ·split at h
       ·cases h
       ·next x r3 h3=>injection h with h;injection h with h4 h5;rw [←h4];exact hg.app (jD hc h3)
      ·injection h with h;injection h with h4 h5;rw [←h4];exact hg
theorem Df (hc:mS cmd) {ts:List Tk} {d:List Dt} {r:List Tk} (h:eZ cmd ts=.ok (d,r)):IsN d:=by
 unfold eZ at h;split at h
 ·cases h
 ·next l r1 h1=>
  split at h
  ·cases h
  ·injection h with h;injection h with h3 h4;rw [←h3];exact jU _ _ _ (nL hc _ _ _ _ _ dR.nil h1)
theorem wP:∀(n:Nat) (ws:List (List Pt)) (ts:List Tk) (d:List Dt) (r:List Tk),cW scr n (ws.map bG) ts=.ok (d,r)→∃ws2:List (List Pt),d=ws2.map bG
 | 0,ws,ts,d,r,h=>by cases h
 | n+1,ws,ts,d,r,h=>by
  unfold cW at h;split at h
  ·split at h
   ·cases h
   ·next w r1 h1=>exact wP n (ws++[w]) _ _ _ (by rw [List.map_append];exact h)
  ·injection h with h;injection h with h1 h2;exact⟨ws,h1.symm⟩
theorem Jb (hc:mS cmd) {ts:List Tk} {d:List Dt} {r:List Tk} (h:gM cmd scr ts=.ok (d,r)):IsN d:=by
 unfold gM at h;split at h
 ·split at h
  ·split at h
   ·cases h
   ·next ws r1 h1=>
    obtain⟨ws2,rfl⟩:=wP (scr:=scr) _ [] _ _ _ h1;split at h
    ·split at h
     ·cases h
     ·next b r2 h2=>injection h with h;injection h with h3 h4;rw [←h3];exact vX 9 false _ ws2 [] [] [] (sN hc h2) (fun a ha=>by cases ha)
    ·cases h
  ·split at h
   ·cases h
   ·next b r2 h2=>injection h with h;injection h with h3 h4;rw [←h3];exact vX 9 false _ [[.mk 3 [] [64] [] [] true]] [] [] [] (sN hc h2) (fun a ha=>by cases ha)
 ·cases h
theorem yZ:∀(n:Nat) (ws:List (List Pt)) (ts:List Tk) (d:List Dt) (r:List Tk),dF scr n (ws.map bG) ts=.ok (d,r)→∃ws2:List (List Pt),d=ws2.map bG
 | 0,ws,ts,d,r,h=>by cases h
 | n+1,ws,ts,d,r,h=>by
  unfold dF at h;split at h
  ·split at h
   ·cases h
   ·next w r1 h1=>exact yZ n (ws++[w]) _ _ _ (by rw [List.map_append];exact h)
  ·injection h with h;injection h with h1 h2;exact⟨ws,h1.symm⟩
theorem M6 (hc:mS cmd) {ts:List Tk} {d:List Dt} {r:List Tk} (h:pJ cmd scr ts=.ok (d,r)):∃a:List (List Pt)×List Dt,d=z8 a∧dR a.2:=by
 unfold pJ at h;split at h
 ·cases h
 ·next w r1 h1=>
  split at h
  ·cases h
  ·next ps r2 h2=>
   obtain⟨ws2,rfl⟩:=yZ (scr:=scr) _ [w] _ _ _ h2;split at h
   ·cases h
   ·split at h
    ·split at h
     ·cases h
     ·next b r3 h3=>injection h with h;injection h with h4 h5;exact⟨(ws2,b),h4.symm,jD hc h3⟩
    ·injection h with h;injection h with h4 h5;exact⟨(ws2,[]),h4.symm,dR.nil⟩
theorem zA {ar:List (List (List Pt)×List Dt)} {a:List (List Pt)×List Dt} (h:∀a∈ar,dR a.2) (ha:dR a.2):∀b∈ar++[a],dR b.2:=fun b hb=>by
 rcases List.mem_append.1 hb with hb | hb
 ·exact h b hb
 ·rw [List.mem_singleton.1 hb];exact ha
theorem yH (hc:mS cmd):∀(n:Nat) (ar:List (List (List Pt)×List Dt)) (ts:List Tk) (d:List Dt) (r:List Tk),(∀a∈ar,dR a.2)→cQ cmd scr n (ar.flatMap z8) ts=.ok (d,r)→∃ar2:List (List (List Pt)×List Dt),d=ar2.flatMap z8∧∀a∈ar2,dR a.2
 | 0,ar,ts,d,r,ha,h=>by cases h
 | n+1,ar,ts,d,r,ha,h=>by
  unfold cQ at h;split at h
  ·injection h with h;injection h with h1 h2;exact⟨ar,h1.symm,ha⟩
  ·split at h
   ·cases h
   ·next d1 r1 h1=>
    obtain⟨a,rfl,hg⟩:=M6 hc h1;have e:ar.flatMap z8++z8 a=(ar++[a]).flatMap z8:=by rw [List.flatMap_append];simp
    rw [e] at h;split at h
    ·exact yH hc n (ar++[a]) _ _ _ (zA ha hg) h
    ·split at h
     ·cases h
     ·injection h with h;injection h with h2 h3;exact⟨ar++[a],h2.symm,zA ha hg⟩
theorem Ek (hc:mS cmd) {ts:List Tk} {d:List Dt} {r:List Tk} (h:gC cmd scr ts=.ok (d,r)):IsN d:=by
 unfold gC at h;split at h
 ·cases h
 ·next w r1 h1=>
  split at h
  ·cases h
  ·split at h
   ·cases h
   ·next l r2 h2=>
    obtain⟨ar,rfl,ha⟩:=yH hc _ [] _ _ _ (fun a ha=>by cases ha) h2;injection h with h;injection h with h3 h4;rw [←h3];exact vX 10 false [] [w] [] [] ar dR.nil ha
theorem xQ (hc:mS cmd) {name:Bs} {ts:List Tk} {d:List Dt} {r:List Tk} (h:eP cmd name ts=.ok (d,r)):IsN d:=by
 unfold eP at h;split at h
 ·cases h
 ·split at h
  ·split at h
   ·cases h
   ·next d1 r1 h1=>injection h with h;injection h with h3 h4;rw [←h3];exact jU _ _ _ (hc _ _ _ h1).good
  ·cases h
theorem yO (hc:mS cmd) {kind:Nat} {close:List Tk→PR Unit} {ts:List Tk} {d:List Dt} {r:List Tk} (h:f8 cmd kind close ts=.ok (d,r)):IsN d:=by
 unfold f8 at h;split at h
 ·cases h
 ·next d1 r1 h1=>
  split at h
  ·cases h
  ·injection h with h;injection h with h3 h4;rw [←h3];exact jU _ _ _ (jD hc h1)
theorem jE {q:PR (List Dt)} (hq:∀d r,q=.ok (d,r)→IsN d) {d:List Dt} {r:List Tk} (h:bI scr q=.ok (d,r)):IsN d:=by
 unfold bI at h;split at h
 ·cases h
 ·next d1 r1=>
  split at h
  ·cases h
  ·next rs r2 h2=>
   obtain⟨rs2,rfl⟩:=tB (scr:=scr) _ [] _ _ _ h2;obtain⟨x,rfl,n,hn⟩:=hq _ _ rfl;injection h with h;injection h with h3 h4;rw [←h3];obtain⟨m,hm⟩:=Ag rs2;have h9:=hn.le (Nat.le_max_left n m);refine⟨{ x with rs:=rs2.map fun g=>(g.1,aY g.2) },?_,max n m,h9.1,h9.2.1,fun g hg=>(hm g hg).le (Nat.le_max_right ..),h9.2.2.2⟩;show x.row.set 5 _=_;unfold Ny.row;rw [oV];rfl
theorem xN (hc:mS cmd) {ts:List Tk} {q:PR (List Dt)} (h:bR cmd scr ts=some q) {d:List Dt} {r:List Tk} (hq:q=.ok (d,r)):IsN d:=by
 subst hq;unfold bR at h;split at h
 ·exact jE (fun d r h=>yO hc h) (Option.some.inj h)
 split at h
 ·exact jE (fun d r h=>yO hc h) (Option.some.inj h)
 split at h
 ·exact jE (fun d r h=>Df hc h) (Option.some.inj h)
 split at h
 ·exact jE (fun d r h=>vB hc h) (Option.some.inj h)
 split at h
 ·exact jE (fun d r h=>vB hc h) (Option.some.inj h)
 split at h
 ·exact jE (fun d r h=>Jb hc h) (Option.some.inj h)
 split at h
 ·exact jE (fun d r h=>Ek hc h) (Option.some.inj h)
 split at h
 ·exact xQ hc (Option.some.inj h)
 ·cases h
end
theorem qU:∀K,mS (aC K)
 | 0=>fun ts d r h=>by
  unfold aC at h;split at h<;>cases h
 | K+1=>fun ts d r h=>by
  unfold aC at h;split at h
  ·unfold gW at h;split at h
   ·next q hq=>exact xN (qU K) hq h
   ·exact lM _ [] [] [] _ _ _ h
  ·cases h
theorem Jw {K:Nat} {ts:List Tk} {ds:List Dt} (h:oI (aC K) ts=.ok ds):dR ds:=by
 unfold oI at h;split at h
 ·injection h with h;rw [←h];exact dR.nil
 ·split at h
  ·cases h
  ·next l r h1=>
   split at h
   ·injection h with h;rw [←h];exact yJ (Bz (qU K) h1)
   ·cases h
theorem uQ {s:Bs} {ds:List Dt} (h:iR s=.ok ds):dR ds:=by
 unfold iR gQ at h;split at h
 ·cases h
 ·exact Jw h
end Go.Proofs.YtiihpbccabeoeaaGreatDoor
