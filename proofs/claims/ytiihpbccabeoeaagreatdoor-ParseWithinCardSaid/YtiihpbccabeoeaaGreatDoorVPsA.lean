/- The walk: a part. -/
import Derived.Test.YtiihpbccabeoeaaGreatDoorVPkE
import Derived.Test.YtiihpbccabeoeaaGreatDoorVM
import Derived.Test.YtiihpbccabeoeaaGreatDoorVPkD
import Derived.StillTailTactics
import Derived.Test.YtiihpbccabeoeaaGreatDoorVPkF
import Derived.Deep.RegionHeld3
namespace Go.Proofs.YtiihpbccabeoeaaGreatDoor
open Go.RowKit
set_option linter.unusedVariables false
set_option maxRecDepth 100000
set_option maxHeartbeats 16000000
structure Px where
 kind:Int
 text:Bs
 name:Bs
 op:Bs
 word:List Dt
 quoted:Bool
def Px.row (x:Px):List Dt:=[.int x.kind,.str x.text,.str x.name,.str x.op,.sl 6 x.word,.bool x.quoted]
def dX:Nat→List Dt→Prop
 | 0,ds=>ds=[]
 | n+1,ds=>∃xs:List Px,ds=xs.flatMap Px.row∧∀x∈xs,dX n x.word
structure Ny where
 kind:Int
 nt:Bool
 nm:Bs
 ws:List (List Dt)
 gs:List (Bs×List Dt)
 rs:List (Bs×List Dt)
 ks:List Dt
 ar:List (List (List Dt)×List Dt)
def Nn (w:List Dt):List Dt:=[.sl 6 w]
def RM (g:Bs×List Dt):List Dt:=[.str g.1,.sl 6 g.2]
def UA (a:List (List Dt)×List Dt):List Dt:=[.sl 1 (a.1.flatMap Nn),.sl 8 a.2]
def Ny.row (x:Ny):List Dt:=[.int x.kind,.bool x.nt,.str x.nm,.sl 1 (x.ws.flatMap Nn),.sl 2 (x.gs.flatMap RM),.sl 2 (x.rs.flatMap RM),.sl 8 x.ks,.sl 2 (x.ar.flatMap UA)]
def ir:Nat→List Dt→Prop
 | 0,ds=>ds=[]
 | n+1,ds=>∃xs:List Ny,ds=xs.flatMap Ny.row∧∀x∈xs,(∀v∈x.ws,dX n v)∧(∀g∈x.gs,dX n g.2)∧(∀g∈x.rs,dX n g.2)∧ir n x.ks∧∀a∈x.ar,(∀v∈a.1,dX n v)∧ir n a.2
theorem uU {α:Type} {f:α→List Dt} {k:Nat} (hf:∀a,(f a).length=k):∀xs:List α,(xs.flatMap f).length=xs.length*k
 | []=>sI
 | x::t=>by rw [List.flatMap_cons,lA,hf,uU hf t,lC];rw [Nat.succ_mul];omega
theorem Lf {α:Type} {f:α→List Dt} {k:Nat} (hf:∀a,(f a).length=k):∀{xs:List α} {i:Nat} (hi:i<xs.length) {j:Nat} (hj:j<k),(xs.flatMap f)[i*k+j]? = (f xs[i])[j]?
 | x::t,0,hi,j,hj=>by
  rw [List.flatMap_cons,Nat.zero_mul,Nat.zero_add,List.getElem?_append_left (by rw [hf];exact hj)];rfl
 | x::t,i+1,hi,j,hj=>by
  rw [List.flatMap_cons,List.getElem?_append_right (by rw [hf,Nat.succ_mul];omega),hf,show (i+1)*k+j - k=i*k+j by rw [Nat.succ_mul];omega];exact Lf hf (xs:=t) (by simpa using hi) hj
section
variable {w:World} {D:Nat→Prop} {a:OA} {m c:Nat}
theorem gu {α:Type} {f:α→List Dt} {k:Nat} (hf:∀a,(f a).length=k) (hk:0<k) {xs:List α} (h:Rd w D (.sl k (xs.flatMap f)) (.slice a m c)) :
 m=xs.length∧∀i (hi:i<xs.length),∃b gQ,a=some ⟨b,gQ,none⟩∧b<w.heap.size∧∀j,j<k→∃u,w.cell? ⟨b,gQ+i*k+j,none⟩=some u∧∀d,(f xs[i])[j]? = some d→Rd w D d u:=by
 obtain⟨a',m',c',e,hl,_,_⟩:=h.shape hk;injection e with e1 e2 e3;subst e1 e2 e3;rw [uU hf] at hl;refine⟨(Nat.eq_of_mul_eq_mul_right hk hl).symm,λ i hi=>?_⟩;have fa:i*k+k≤xs.length*k:=by rw [←Nat.succ_mul];exact Nat.mul_le_mul_right _ hi
 obtain⟨b,gQ,u0,rfl,hb,_,_,_⟩:=h.cell (j:=i*k) (by rw [uU hf];omega);refine⟨b,gQ,rfl,hb,λ j hj=>?_⟩;have hj2:i*k+j<(xs.flatMap f).length:=by rw [uU hf];omega
 obtain⟨b2,adB,u,e,_,_,h1,h2⟩:=h.cell hj2;injection e with e;injection e with e1 e2 e3;subst e1 e2;refine⟨u,by rw [Nat.add_assoc];exact h1,λ d hd2=>?_⟩;rw [←Lf hf hi hj,List.getElem?_eq_getElem hj2] at hd2;rw [←nD hd2];exact h2
theorem pK {k:Nat} {cs:List Dt} (hk:0<k) (h:Rd w D (.sl k cs) (.slice a m c)):m≤9223372036854775807:=by
 obtain⟨a',m',c',e,_,h1,h2⟩:=h.shape hk;injection e with e1 e2 e3;subst e1 e2 e3;unfold maxLen at h2;omega
theorem RN {n:Int} {u:Value} (h:Rd w D (.int n) u):u=.int .i64 n:=by cases h;rfl
theorem Mw {b:Bool} {u:Value} (h:Rd w D (.bool b) u):u=.bool b:=by cases h;rfl
theorem Cz {l:List UInt8} {u:Value} (h:Rd w D (.str l) u):u=.string ⟨l.toArray⟩:=by cases h;rfl
theorem sf {k:Nat} {cs:List Dt} {u:Value} (hk:0<k) (h:Rd w D (.sl k cs) u):∃xa xl xc,u=.slice xa xl xc:=by
 obtain⟨a,m,c,rfl,_⟩:=h.shape hk;exact⟨a,m,c,rfl⟩
theorem F3 {xs:List Px} (h:Rd w D (.sl 6 (xs.flatMap Px.row)) (.slice a m c)) {i:Nat} (hi:i<xs.length) :
 ∃(g o:Nat) (xa:OA) (xl xc:Nat),a=some ⟨g,o,none⟩∧g<w.heap.size∧
  (w.cell? ⟨g,o+i*6,none⟩=some (.int .i64 xs[i].kind)∧w.cell? ⟨g,o+i*6+1,none⟩=some (.string ⟨xs[i].text.toArray⟩)∧w.cell? ⟨g,o+i*6+2,none⟩=some (.string ⟨xs[i].name.toArray⟩)∧w.cell? ⟨g,o+i*6+3,none⟩=some (.string ⟨xs[i].op.toArray⟩)∧w.cell? ⟨g,o+i*6+4,none⟩=some (.slice xa xl xc)∧w.cell? ⟨g,o+i*6+5,none⟩=some (.bool xs[i].quoted))∧
  Rd w D (.sl 6 xs[i].word) (.slice xa xl xc):=by
 obtain⟨b,gQ,rfl,hb,hF⟩:=(gu (k:=6) (λ_=>rfl) dC h).2 i hi;obtain⟨u0,c0,r0⟩:=hF 0 dC;obtain⟨u1,c1,r1⟩:=hF 1 dC;obtain⟨u2,c2,r2⟩:=hF 2 dC;obtain⟨u3,c3,r3⟩:=hF 3 dC;obtain⟨u4,c4,r4⟩:=hF 4 dC;obtain⟨u5,c5,r5⟩:=hF 5 dC;generalize xs[i]=x at *;obtain rfl:=RN (n:=x.kind) (r0 _ rfl);obtain rfl:=Cz (l:=x.text) (r1 _ rfl);obtain rfl:=Cz (l:=x.name) (r2 _ rfl)
 obtain rfl:=Cz (l:=x.op) (r3 _ rfl);have s4:Rd w D (.sl 6 x.word) u4:=r4 _ rfl;obtain⟨xa,xl,xc,rfl⟩:=sf dC s4;obtain rfl:=Mw (b:=x.quoted) (r5 _ rfl);exact⟨b,gQ,xa,xl,xc,rfl,hb,⟨c0,c1,c2,c3,c4,c5⟩,s4⟩
theorem Gl {ws:List (List Dt)} (h:Rd w D (.sl 1 (ws.flatMap Nn)) (.slice a m c)) {i:Nat} (hi:i<ws.length) :
 ∃(g o:Nat) (xa:OA) (xl xc:Nat),a=some ⟨g,o,none⟩∧g<w.heap.size∧w.cell? ⟨g,o+i,none⟩=some (.slice xa xl xc)∧Rd w D (.sl 6 ws[i]) (.slice xa xl xc):=by
 obtain⟨b,gQ,rfl,hb,hF⟩:=(gu (k:=1) (λ_=>rfl) dC h).2 i hi;obtain⟨u,h1,h2⟩:=hF 0 dC;have s4:Rd w D (.sl 6 ws[i]) u:=h2 _ rfl;obtain⟨xa,xl,xc,rfl⟩:=sf dC s4;exact⟨b,gQ,xa,xl,xc,rfl,hb,by rw [Nat.mul_one,Nat.add_zero] at h1;exact h1,s4⟩
theorem uW {gs:List (Bs×List Dt)} (h:Rd w D (.sl 2 (gs.flatMap RM)) (.slice a m c)) {i:Nat} (hi:i<gs.length) :
 ∃(g o:Nat) (xa:OA) (xl xc:Nat),a=some ⟨g,o,none⟩∧g<w.heap.size∧w.cell? ⟨g,o+i*2,none⟩=some (.string ⟨gs[i].1.toArray⟩)∧w.cell? ⟨g,o+i*2+1,none⟩=some (.slice xa xl xc)∧Rd w D (.sl 6 gs[i].2) (.slice xa xl xc):=by
 obtain⟨b,gQ,rfl,hb,hF⟩:=(gu (k:=2) (λ_=>rfl) dC h).2 i hi;obtain⟨u0,c0,r0⟩:=hF 0 dC;obtain⟨u1,c1,r1⟩:=hF 1 dC;obtain rfl:=Cz (l:=gs[i].1) (r0 _ rfl);have s4:Rd w D (.sl 6 gs[i].2) u1:=r1 _ rfl;obtain⟨xa,xl,xc,rfl⟩:=sf dC s4;exact⟨b,gQ,xa,xl,xc,rfl,hb,c0,c1,s4⟩
theorem Kl {ar:List (List (List Dt)×List Dt)} (h:Rd w D (.sl 2 (ar.flatMap UA)) (.slice a m c)) {i:Nat} (hi:i<ar.length) :
 ∃(g o:Nat) (pa:OA) (pn pc:Nat) (ba:OA) (bn bc:Nat),a=some ⟨g,o,none⟩∧g<w.heap.size∧w.cell? ⟨g,o+i*2,none⟩=some (.slice pa pn pc)∧w.cell? ⟨g,o+i*2+1,none⟩=some (.slice ba bn bc)∧Rd w D (.sl 1 (ar[i].1.flatMap Nn)) (.slice pa pn pc)∧Rd w D (.sl 8 ar[i].2) (.slice ba bn bc):=by
 obtain⟨b,gQ,rfl,hb,hF⟩:=(gu (k:=2) (λ_=>rfl) dC h).2 i hi;obtain⟨u0,c0,r0⟩:=hF 0 dC;obtain⟨u1,c1,r1⟩:=hF 1 dC;have s0:Rd w D (.sl 1 (ar[i].1.flatMap Nn)) u0:=r0 _ rfl;have s1:Rd w D (.sl 8 ar[i].2) u1:=r1 _ rfl;obtain⟨pa,pn,pc,rfl⟩:=sf dC s0;obtain⟨ba,bn,bc,rfl⟩:=sf dC s1;exact⟨b,gQ,pa,pn,pc,ba,bn,bc,rfl,hb,c0,c1,s0,s1⟩
structure NyV (w:World) (D:Nat→Prop) (x:Ny) (v:Nat→Value):Prop where
 k:v 0=.int .i64 x.kind
 t:v 1=.bool x.nt
 n:v 2=.string ⟨x.nm.toArray⟩
 ws:Rd w D (.sl 1 (x.ws.flatMap Nn)) (v 3)
 gs:Rd w D (.sl 2 (x.gs.flatMap RM)) (v 4)
 rs:Rd w D (.sl 2 (x.rs.flatMap RM)) (v 5)
 ks:Rd w D (.sl 8 x.ks) (v 6)
 ar:Rd w D (.sl 2 (x.ar.flatMap UA)) (v 7)
theorem OS {xs:List Ny} (h:Rd w D (.sl 8 (xs.flatMap Ny.row)) (.slice a m c)) {i:Nat} (hi:i<xs.length) :
 ∃(g o:Nat) (v:Nat→Value),a=some ⟨g,o,none⟩∧g<w.heap.size∧(∀j,j<8→w.cell? ⟨g,o+i*8+j,none⟩=some (v j))∧NyV w D xs[i] v:=by
 obtain⟨b,gQ,rfl,hb,hF⟩:=(gu (k:=8) (λ_=>rfl) dC h).2 i hi;have hch:∃v:Nat→Value,∀j,j<8→w.cell? ⟨b,gQ+i*8+j,none⟩=some (v j)∧∀d,(xs[i].row)[j]? = some d→Rd w D d (v j):=
  ⟨λ j=>if hj:j<8 then Classical.choose (hF j hj) else .int .i64 0,λ j hj=>by
   have e:(if hj:j<8 then Classical.choose (hF j hj) else Value.int .i64 0)=Classical.choose (hF j hj):=dif_pos hj;show w.cell? _=some (if hj:j<8 then Classical.choose (hF j hj) else Value.int .i64 0)∧∀d,(xs[i].row)[j]? = some d→Rd w D d (if hj:j<8 then Classical.choose (hF j hj) else Value.int .i64 0);rw [e];exact Classical.choose_spec (hF j hj)⟩
 obtain⟨v,hv⟩:=hch;refine⟨b,gQ,v,rfl,hb,λ j hj=>(hv j hj).1,?_⟩;generalize xs[i]=x at *;exact⟨RN ((hv 0 dC).2 _ rfl),Mw ((hv 1 dC).2 _ rfl),Cz ((hv 2 dC).2 _ rfl),(hv 3 dC).2 _ rfl,(hv 4 dC).2 _ rfl,(hv 5 dC).2 _ rfl,(hv 6 dC).2 _ rfl,(hv 7 dC).2 _ rfl⟩
end
theorem dX.out {n:Nat} {ds:List Dt} (h:dX n ds):∃xs:List Px,ds=xs.flatMap Px.row∧∀x∈xs,0<n∧dX (n - 1) x.word:=by
 exact PU
theorem Px.ext' {x y:Px} (h0:x.kind=y.kind) (h1:x.text=y.text) (h2:x.name=y.name) (h3:x.op=y.op) (h4:x.word=y.word) (h5:x.quoted=y.quoted):x=y:=by
 cases x;cases y;dsimp only at h0 h1 h2 h3 h4 h5;subst h0 h1 h2 h3 h4 h5;rfl
theorem bH {w w':World} {D:Nat→Prop} {d:Dt} {v:Value} (h:Rd w D d v) (hk:K0 w w'):Rd w' D d v:=h.keep hk (λ_ _ _ h=>h)
structure Uy (w:World) (D:Nat→Prop) (x:Ny) (wa:OA) (wl wc:Nat) (ga:OA) (gl gc:Nat) (ra:OA) (rl Cy:Nat) (ka:OA) (kl kc:Nat) (aa:OA) (al ac:Nat):Prop where
 ws:Rd w D (.sl 1 (x.ws.flatMap Nn)) (.slice wa wl wc)
 gs:Rd w D (.sl 2 (x.gs.flatMap RM)) (.slice ga gl gc)
 rs:Rd w D (.sl 2 (x.rs.flatMap RM)) (.slice ra rl Cy)
 ks:Rd w D (.sl 8 x.ks) (.slice ka kl kc)
 ar:Rd w D (.sl 2 (x.ar.flatMap UA)) (.slice aa al ac)
theorem Uy.keep0 {w w':World} {D:Nat→Prop} {x:Ny} {wa ga ra ka aa:OA} {wl wc gl gc rl Cy kl kc al ac:Nat} (h:Uy w D x wa wl wc ga gl gc ra rl Cy ka kl kc aa al ac) (hk:K0 w w'):Uy w' D x wa wl wc ga gl gc ra rl Cy ka kl kc aa al ac:=⟨bH h.ws hk,bH h.gs hk,bH h.rs hk,bH h.ks hk,bH h.ar hk⟩
theorem Cj {w:World} {D:Nat→Prop} {a:OA} {m c:Nat} {xs:List Ny} (h:Rd w D (.sl 8 (xs.flatMap Ny.row)) (.slice a m c)) {i:Nat} (hi:i<xs.length) :
 ∃(g o:Nat) (wa:OA) (wl wc:Nat) (ga:OA) (gl gc:Nat) (ra:OA) (rl Cy:Nat) (ka:OA) (kl kc:Nat) (aa:OA) (al ac:Nat),a=some ⟨g,o,none⟩∧g<w.heap.size∧
  (w.cell? ⟨g,o+i*8,none⟩=some (.int .i64 xs[i].kind)∧w.cell? ⟨g,o+i*8+1,none⟩=some (.bool xs[i].nt)∧w.cell? ⟨g,o+i*8+2,none⟩=some (.string ⟨xs[i].nm.toArray⟩)∧w.cell? ⟨g,o+i*8+3,none⟩=some (.slice wa wl wc)∧w.cell? ⟨g,o+i*8+4,none⟩=some (.slice ga gl gc)∧w.cell? ⟨g,o+i*8+5,none⟩=some (.slice ra rl Cy)∧w.cell? ⟨g,o+i*8+6,none⟩=some (.slice ka kl kc)∧w.cell? ⟨g,o+i*8+7,none⟩=some (.slice aa al ac))∧
  Uy w D xs[i] wa wl wc ga gl gc ra rl Cy ka kl kc aa al ac:=by
 obtain⟨g,o,v,rfl,hg,hc,hv⟩:=OS h hi;obtain⟨wa,wl,wc,e3⟩:=sf dC hv.ws;obtain⟨ga,gl,gc,e4⟩:=sf dC hv.gs;obtain⟨ra,rl,Cy,e5⟩:=sf dC hv.rs;obtain⟨ka,kl,kc,e6⟩:=sf dC hv.ks;obtain⟨aa,al,ac,e7⟩:=sf dC hv.ar;exact⟨g,o,wa,wl,wc,ga,gl,gc,ra,rl,Cy,ka,kl,kc,aa,al,ac,rfl,hg,⟨by rw [←hv.k];exact hc 0 dC,by rw [←hv.t];exact hc 1 dC,by rw [←hv.n];exact hc 2 dC,by rw [←e3];exact hc 3 dC,by rw [←e4];exact hc 4 dC,by rw [←e5];exact hc 5 dC,by rw [←e6];exact hc 6 dC,by rw [←e7];exact hc 7 dC⟩,by rw [←e3];exact hv.ws,by rw [←e4];exact hv.gs,by rw [←e5];exact hv.rs,by rw [←e6];exact hv.ks,by rw [←e7];exact hv.ar⟩
def Gy (n:Nat) (x:Ny):Prop:=(∀v∈x.ws,dX n v)∧(∀g∈x.gs,dX n g.2)∧(∀g∈x.rs,dX n g.2)∧ir n x.ks∧∀a∈x.ar,(∀v∈a.1,dX n v)∧ir n a.2
theorem ir.out {n:Nat} {ds:List Dt} (h:ir n ds):∃xs:List Ny,ds=xs.flatMap Ny.row∧∀x∈xs,0<n∧Gy (n - 1) x:=by
 exact PU
theorem Ny.ext' {x y:Ny} (h0:x.kind=y.kind) (h1:x.nt=y.nt) (h2:x.nm=y.nm) (h3:x.ws=y.ws) (h4:x.gs=y.gs) (h5:x.rs=y.rs) (h6:x.ks=y.ks) (h7:x.ar=y.ar):x=y:=by
 cases x;cases y;dsimp only at h0 h1 h2 h3 h4 h5 h6 h7;subst h0 h1 h2 h3 h4 h5 h6 h7;rfl
theorem dX.succ:∀{n:Nat} {ds:List Dt},dX n ds→dX (n+1) ds
 | 0,ds,h=>⟨[],h,λ x hx=>by cases hx⟩
 | n+1,ds,⟨xs,h1,h2⟩=>⟨xs,h1,λ x hx=>(h2 x hx).succ⟩
theorem dX.le {n m:Nat} {ds:List Dt} (h:dX n ds) (hm:n≤m):dX m ds:=by
 induction hm with
 | refl=>exact h
 | step _ ih=>exact ih.succ
theorem ir.succ:∀{n:Nat} {ds:List Dt},ir n ds→ir (n+1) ds
 | 0,ds,h=>⟨[],h,λ x hx=>by cases hx⟩
 | n+1,ds,⟨xs,h1,h2⟩=>⟨xs,h1,λ x hx=>by
  obtain⟨a,b,c,d,e⟩:=h2 x hx;exact⟨λ v hv=>(a v hv).succ,λ g hg=>(b g hg).succ,λ g hg=>(c g hg).succ,d.succ,λ y hy=>⟨λ v hv=>((e y hy).1 v hv).succ,(e y hy).2.succ⟩⟩⟩
theorem ir.le {n m:Nat} {ds:List Dt} (h:ir n ds) (hm:n≤m):ir m ds:=by
 induction hm with
 | refl=>exact h
 | step _ ih=>exact ih.succ
theorem Gy.le {n m:Nat} {x:Ny} (h:Gy n x) (hm:n≤m):Gy m x:=by
 obtain⟨a,b,c,d,e⟩:=h;exact⟨λ v hv=>(a v hv).le hm,λ g hg=>(b g hg).le hm,λ g hg=>(c g hg).le hm,d.le hm,λ y hy=>⟨λ v hv=>((e y hy).1 v hv).le hm,(e y hy).2.le hm⟩⟩
def Yj (p:Pt):Px:=⟨(p.kind:Nat),p.text,p.name,p.op,cg p.word,p.quoted⟩
theorem zi:∀l:List Pt,cg l=(l.map Yj).flatMap Px.row
 | []=>by simp [gp]
 | p::l=>by rw [iA,rX,zi l];rfl
theorem MP {l:List Pt} {p:Pt} (h:p∈l):SizeOf.sizeOf p.word<SizeOf.sizeOf l:=by
 have h1:=List.sizeOf_lt_of_mem h;cases p with
 | mk k t n o w q=>
  simp only [Pt.mk.sizeOf_spec] at h1;show SizeOf.sizeOf w<_;omega
theorem AY:∀(N:Nat) (l:List Pt),SizeOf.sizeOf l≤N→dX N (cg l)
 | 0,l,h=>by
  cases l with
  | nil=>rfl
  | cons a t=>simp at h
 | N+1,l,h=>by
  refine⟨l.map Yj,zi l,λ x hx=>?_⟩;obtain⟨p,hp,rfl⟩:=List.mem_map.1 hx;have:=MP hp;exact AY N p.word oM
theorem wI:∀ws:List (List Pt),ws.map aB=(ws.map cg).flatMap Nn
 | []=>rfl
 | w::t=>by rw [List.map_cons,List.map_cons,List.flatMap_cons,wI t];rfl
def qe (g:Bs×List Pt):List Dt:=[.str g.1,aB g.2]
def Aa (a:List (List Pt)×List Dt):List Dt:=[.sl 1 (a.1.map aB),.sl 8 a.2]
theorem py:∀gs:List (Bs×List Pt),gs.flatMap qe=(gs.map λ g=>(g.1,cg g.2)).flatMap RM
 | []=>rfl
 | g::t=>by rw [List.flatMap_cons,List.map_cons,List.flatMap_cons,py t];rfl
theorem BU:∀ar:List (List (List Pt)×List Dt),ar.flatMap Aa=(ar.map λ a=>(a.1.map cg,a.2)).flatMap UA
 | []=>rfl
 | a::t=>by
  rw [List.flatMap_cons,List.map_cons,List.flatMap_cons,BU t];unfold Aa UA;rw [wI]
def dI (ds:List Dt):Prop:=∃n,ir n ds
theorem dI.nil:dI []:=⟨0,rfl⟩
theorem dI.app {a b:List Dt}:dI a→dI b→dI (a++b)
 | ⟨n,h⟩,⟨m,k⟩=>by
  obtain⟨xs,h1,h2⟩:=(h.le (Nat.le_max_left n m)).succ;obtain⟨ys,k1,k2⟩:=(k.le (Nat.le_max_right n m)).succ;refine⟨max n m+1,xs++ys,by rw [h1,k1,List.flatMap_append],λ x hx=>?_⟩;rcases List.mem_append.1 hx with hx | hx
  ·exact h2 x hx
  ·exact k2 x hx
def Dr (d:List Dt):Prop:=∃x:Ny,d=x.row∧∃n,Gy n x
theorem z8 {α:Type} {P:Nat→α→Prop} (hP:∀n m a,P n a→n≤m→P m a):∀l:List α,(∀a∈l,∃n,P n a)→∃n,∀a∈l,P n a
 | [],_=>⟨0,λ a ha=>by cases ha⟩
 | a::t,h=>by
  obtain⟨n,hn⟩:=h a (List.mem_cons_self ..);obtain⟨m,hm⟩:=z8 hP t (λ b hb=>h b (List.mem_cons_of_mem _ hb));refine⟨max n m,λ b hb=>?_⟩;rcases List.mem_cons.1 hb with rfl | hb
  ·exact hP _ _ _ hn (Nat.le_max_left ..)
  ·exact hP _ _ _ (hm b hb) (Nat.le_max_right ..)
theorem Dr.good {d:List Dt}:Dr d→dI d
 | ⟨x,h,⟨n,hn⟩⟩=>⟨n+1,[x],by simp [h],λ y hy=>by rw [List.mem_singleton.1 hy];exact hn⟩
theorem AX (gs:List (Bs×List Pt)):∃n,∀g∈(gs.map λ g=>(g.1,cg g.2)),dX n g.2:=
 z8 (P:=λ n (g:Bs×List Dt)=>dX n g.2) (λ n m a h hm=>h.le hm) _ λ a ha=>by
  obtain⟨g,_,rfl⟩:=List.mem_map.1 ha;exact⟨_,AY _ g.2 (nC _)⟩
theorem Gm (ws:List (List Pt)):∃n,∀v∈ws.map cg,dX n v:=
 z8 (P:=λ n (v:List Dt)=>dX n v) (λ n m a h hm=>h.le hm) _ λ a ha=>by
  obtain⟨g,_,rfl⟩:=List.mem_map.1 ha;exact⟨_,AY _ g (nC _)⟩
theorem wg (kind:Nat) (nt:Bool) (nm:List UInt8) (ws:List (List Pt)) (gs rs:List (List UInt8×List Pt)) {ks:List Dt} (ar:List (List (List Pt)×List Dt)) (hk:dI ks) (ha:∀a∈ar,dI a.2):Dr (cE kind nt nm (ws.map aB) (gs.flatMap qe) (rs.flatMap qe) ks (ar.flatMap Aa)):=by
 obtain⟨n1,h1⟩:=Gm ws;obtain⟨n2,h2⟩:=AX gs;obtain⟨n3,h3⟩:=AX rs;obtain⟨n4,h4⟩:=hk;obtain⟨n5,h5⟩:=z8 (P:=λ n (a:List (List Dt)×List Dt)=>(∀v∈a.1,dX n v)∧ir n a.2) (λ n m a h hm=>⟨λ v hv=>(h.1 v hv).le hm,h.2.le hm⟩) (ar.map λ a=>(a.1.map cg,a.2)) λ a hm=>by
  obtain⟨b,hb,rfl⟩:=List.mem_map.1 hm;obtain⟨p,hp⟩:=Gm b.1;obtain⟨q,hq⟩:=ha b hb;exact⟨max p q,λ v hv=>(hp v hv).le (Nat.le_max_left ..),hq.le (Nat.le_max_right ..)⟩
 refine⟨⟨(kind:Nat),nt,nm,ws.map cg,gs.map λ g=>(g.1,cg g.2),rs.map λ g=>(g.1,cg g.2),ks,ar.map λ a=>(a.1.map cg,a.2)⟩,?_,n1+n2+n3+n4+n5,?_⟩
 ·unfold cE Ny.row;rw [wI,py,py,BU]
 ·exact⟨λ v hv=>(h1 v hv).le oM,λ g hg=>(h2 g hg).le oM,λ g hg=>(h3 g hg).le oM,h4.le oM,λ a h=>⟨λ v hv=>((h5 a h).1 v hv).le oM,(h5 a h).2.le oM⟩⟩
theorem jS (kind:Nat) (nt:Bool) (nm:List UInt8) {ks:List Dt} (hk:dI ks):Dr (cE kind nt nm [] [] [] ks []):=wg kind nt nm [] [] [] [] hk (λ a ha=>by cases ha)
theorem zx {l:List Dt} (h:dI l):dI (mi l):=by
 unfold mi;split
 ·exact h
 ·exact (jS 5 false [] h).good
section
variable {cmd:List Tk→PR (List Dt)} {scr:Bs→Except Nat Unit}
def mJ (cmd:List Tk→PR (List Dt)):Prop:=∀ts d r,cmd ts=.ok (d,r)→Dr d
theorem qg (hc:mJ cmd):∀(n:Nat) (acc:List Dt) (ts:List Tk) (d:List Dt) (r:List Tk),dI acc→cr cmd n acc ts=.ok (d,r)→dI d
 | 0,acc,ts,d,r,ha,h=>by cases h
 | n+1,acc,ts,d,r,ha,h=>by
  unfold cr at h;split at h
  ·split at h
   ·cases h
   ·next d1 r1 h1=>exact qg hc n _ _ _ _ (ha.app (hc _ _ _ h1).good) h
  ·exact Ky
theorem mg (hc:mJ cmd) {ts:List Tk} {d:List Dt} {r:List Tk} (h:bh cmd ts=.ok (d,r)):dI d:=by
 unfold bh at h;split at h
 ·cases h
 ·next d1 r1 h1=>
  split at h
  ·cases h
  ·next l r2 h2=>
   have hl:=qg hc _ _ _ _ _ (hc _ _ _ h1).good h2;split at h
   ·injection h with h;injection h with h1 h2;rw [←h1];exact hl
   ·injection h with h;injection h with h1 h2;rw [←h1];exact (jS 2 _ [] hl).good
theorem mO (hc:mJ cmd):∀(n:Nat) (acc:List Dt) (ts:List Tk) (d:List Dt) (r:List Tk),dI acc→ck cmd n acc ts=.ok (d,r)→dI d
 | 0,acc,ts,d,r,ha,h=>by cases h
 | n+1,acc,ts,d,r,ha,h=>by
  unfold ck at h;split at h
  ·split at h
   ·cases h
   ·next d1 r1 h1=>exact mO hc n _ _ _ _ (jS 3 false [] (ha.app (mg hc h1))).good h
  ·split at h
   ·split at h
    ·cases h
    ·next d1 r1 h1=>exact mO hc n _ _ _ _ (jS 4 false [] (ha.app (mg hc h1))).good h
   ·exact Ky
theorem vp (hc:mJ cmd) {ts:List Tk} {d:List Dt} {r:List Tk} (h:da cmd ts=.ok (d,r)):dI d:=by
 unfold da at h;split at h
 ·cases h
 ·next d1 r1 h1=>exact mO hc _ _ _ _ _ (mg hc h1) h
theorem rz (hc:mJ cmd):∀(n:Nat) (acc:List Dt) (ts:List Tk) (d:List Dt) (r:List Tk),dI acc→cW cmd n acc ts=.ok (d,r)→dI d
 | 0,acc,ts,d,r,ha,h=>by cases h
 | n+1,acc,ts,d,r,ha,h=>by
  unfold cW at h;split at h
  ·split at h
   ·cases h
   ·next d1 r1 h1=>exact rz hc n _ _ _ _ (ha.app (vp hc h1)) h
  ·exact Ky
theorem BC (hc:mJ cmd) {ts:List Tk} {d:List Dt} {r:List Tk} (h:mM cmd ts=.ok (d,r)):dI d:=by
 unfold mM at h;split at h
 ·cases h
 ·next d1 r1 h1=>exact rz hc _ _ _ _ _ (vp hc h1) h
theorem jo (hc:mJ cmd) {ts:List Tk} {d:List Dt} {r:List Tk} (h:bz cmd ts=.ok (d,r)):dI d:=by
 unfold bz at h;split at h
 ·cases h
 ·next d1 r1 h1=>injection h with h;injection h with h2 h3;rw [←h2];exact zx (BC hc h1)
theorem ud:∀(n:Nat) (rs:List (List UInt8×List Pt)) (ts:List Tk) (d:List Dt) (r:List Tk),bm scr n (rs.flatMap qe) ts=.ok (d,r)→∃Zo:List (List UInt8×List Pt),d=Zo.flatMap qe
 | 0,rs,ts,d,r,h=>by cases h
 | n+1,rs,ts,d,r,h=>by
  unfold bm at h;split at h
  ·split at h
   ·cases h
   ·next d1 r1 h1=>
    unfold dN at h1;split at h1
    ·cases h1
    ·next w r2 hw=>
     injection h1 with h1;injection h1 with h2 h3;rw [←h2] at h;exact ud n (rs++[((ch ts).text,w)]) _ _ _ (by rw [List.flatMap_append];simpa [qe] using h)
  ·injection h with h;injection h with h1 h2;exact⟨rs,h1.symm⟩
theorem lR:∀(n:Nat) (ws:List (List Pt)) (gs rs:List (List UInt8×List Pt)) (ts:List Tk) (d:List Dt) (r:List Tk),bj scr n (ws.map aB) (gs.flatMap qe) (rs.flatMap qe) ts=.ok (d,r)→Dr d
 | 0,ws,gs,rs,ts,d,r,h=>by cases h
 | n+1,ws,gs,rs,ts,d,r,h=>by
  unfold bj at h;split at h
  ·split at h
   ·cases h
   ·next d1 r1 h1=>
    unfold dN at h1;split at h1
    ·cases h1
    ·next w r2 hw=>
     injection h1 with h1;injection h1 with h2 h3;rw [←h2] at h;exact lR n ws gs (rs++[((ch ts).text,w)]) _ _ _ (by rw [List.flatMap_append];simpa [qe] using h)
  ·split at h
   ·split at h
    ·cases h
    ·next w r1 h1=>
     split at h
     ·next nm v h2=>exact lR n ws (gs++[(nm,v)]) rs _ _ _ (by rw [List.flatMap_append];simpa [qe] using h)
     ·next h2=>exact lR n (ws++[w]) gs rs _ _ _ (by rw [List.map_append];exact h)
   ·injection h with h;injection h with h1 h2;rw [←h1];exact wg 1 false [] ws gs rs [] dI.nil (λ a ha=>by cases ha)
theorem sO (hc:mJ cmd) {ts:List Tk} {d:List Dt} {r:List Tk} (h:cL cmd ts=.ok (d,r)):dI d:=by
 unfold cL at h;split at h
 ·cases h
 ·split at h
  ·cases h
  ·next d1 r1 h1=>
   split at h
   ·cases h
   ·injection h with h;injection h with h2 h3;rw [←h2];exact jo hc h1
theorem xB (hc:mJ cmd) {kind:Nat} {ts:List Tk} {d:List Dt} {r:List Tk} (h:dE cmd kind ts=.ok (d,r)):Dr d:=by
 unfold dE at h;split at h
 ·cases h
 ·next d1 r1 h1=>
  split at h
  ·cases h
  ·next b r2 h2=>injection h with h;injection h with h3 h4;rw [←h3];exact jS _ _ _ ((jo hc h1).app (sO hc h2))
theorem oa (hc:mJ cmd):∀(n:Nat) (acc:List Dt) (ts:List Tk) (d:List Dt) (r:List Tk),dI acc→bD cmd n acc ts=.ok (d,r)→dI d
 | 0,acc,ts,d,r,ha,h=>by cases h
 | n+1,acc,ts,d,r,ha,h=>by
  unfold bD at h;split at h
  ·cases h
  ·next c r1 h1=>
   split at h
   ·cases h
   ·split at h
    ·cases h
    ·next b r2 h2=>
     have hg:=(ha.app (jo hc h1)).app (jo hc h2);split at h
     ·exact oa hc n _ _ _ _ hg h
     ·split at h
      ·split at h
       ·cases h
       ·next x r3 h3=>injection h with h;injection h with h4 h5;rw [←h4];exact hg.app (jo hc h3)
      ·injection h with h;injection h with h4 h5;rw [←h4];exact hg
theorem BL (hc:mJ cmd) {ts:List Tk} {d:List Dt} {r:List Tk} (h:dx cmd ts=.ok (d,r)):Dr d:=by
 unfold dx at h;split at h
 ·cases h
 ·next l r1 h1=>
  split at h
  ·cases h
  ·injection h with h;injection h with h3 h4;rw [←h3];exact jS _ _ _ (oa hc _ _ _ _ _ dI.nil h1)
theorem xG:∀(n:Nat) (ws:List (List Pt)) (ts:List Tk) (d:List Dt) (r:List Tk),bC scr n (ws.map aB) ts=.ok (d,r)→∃RT:List (List Pt),d=RT.map aB
 | 0,ws,ts,d,r,h=>by cases h
 | n+1,ws,ts,d,r,h=>by
  unfold bC at h;split at h
  ·split at h
   ·cases h
   ·next w r1 h1=>exact xG n (ws++[w]) _ _ _ (by rw [List.map_append];exact h)
  ·injection h with h;injection h with h1 h2;exact⟨ws,h1.symm⟩
theorem GX (hc:mJ cmd) {ts:List Tk} {d:List Dt} {r:List Tk} (h:fh cmd scr ts=.ok (d,r)):Dr d:=by
 unfold fh at h;split at h
 ·split at h
  ·split at h
   ·cases h
   ·next ws r1 h1=>
    obtain⟨RT,rfl⟩:=xG (scr:=scr) _ [] _ _ _ h1;split at h
    ·split at h
     ·cases h
     ·next b r2 h2=>injection h with h;injection h with h3 h4;rw [←h3];exact wg 9 false _ RT [] [] [] (sO hc h2) (λ a ha=>by cases ha)
    ·cases h
  ·split at h
   ·cases h
   ·next b r2 h2=>injection h with h;injection h with h3 h4;rw [←h3];exact wg 9 false _ [[.mk 3 [] [64] [] [] true]] [] [] [] (sO hc h2) (λ a ha=>by cases ha)
 ·cases h
theorem zk:∀(n:Nat) (ws:List (List Pt)) (ts:List Tk) (d:List Dt) (r:List Tk),bT scr n (ws.map aB) ts=.ok (d,r)→∃RT:List (List Pt),d=RT.map aB
 | 0,ws,ts,d,r,h=>by cases h
 | n+1,ws,ts,d,r,h=>by
  unfold bT at h;split at h
  ·split at h
   ·cases h
   ·next w r1 h1=>exact zk n (ws++[w]) _ _ _ (by rw [List.map_append];exact h)
  ·injection h with h;injection h with h1 h2;exact⟨ws,h1.symm⟩
theorem Kj (hc:mJ cmd) {ts:List Tk} {d:List Dt} {r:List Tk} (h:lu cmd scr ts=.ok (d,r)):∃a:List (List Pt)×List Dt,d=Aa a∧dI a.2:=by
 unfold lu at h;split at h
 ·cases h
 ·next w r1 h1=>
  split at h
  ·cases h
  ·next ps r2 h2=>
   obtain⟨RT,rfl⟩:=zk (scr:=scr) _ [w] _ _ _ h2;split at h
   ·cases h
   ·split at h
    ·split at h
     ·cases h
     ·next b r3 h3=>injection h with h;injection h with h4 h5;exact⟨(RT,b),h4.symm,jo hc h3⟩
    ·injection h with h;injection h with h4 h5;exact⟨(RT,[]),h4.symm,dI.nil⟩
theorem yF {ar:List (List (List Pt)×List Dt)} {a:List (List Pt)×List Dt} (h:∀a∈ar,dI a.2) (ha:dI a.2):∀b∈ar++[a],dI b.2:=λ b hb=>by
 rcases List.mem_append.1 hb with hb | hb
 ·exact h b hb
 ·rw [List.mem_singleton.1 hb];exact ha
theorem yE (hc:mJ cmd):∀(n:Nat) (ar:List (List (List Pt)×List Dt)) (ts:List Tk) (d:List Dt) (r:List Tk),(∀a∈ar,dI a.2)→bF cmd scr n (ar.flatMap Aa) ts=.ok (d,r)→∃ar2:List (List (List Pt)×List Dt),d=ar2.flatMap Aa∧∀a∈ar2,dI a.2
 | 0,ar,ts,d,r,ha,h=>by cases h
 | n+1,ar,ts,d,r,ha,h=>by
  unfold bF at h;split at h
  ·injection h with h;injection h with h1 h2;exact⟨ar,h1.symm,ha⟩
  ·split at h
   ·cases h
   ·next d1 r1 h1=>
    obtain⟨a,rfl,hg⟩:=Kj hc h1;have e:ar.flatMap Aa++Aa a=(ar++[a]).flatMap Aa:=by rw [List.flatMap_append];simp
    rw [e] at h;split at h
    ·exact yE hc n (ar++[a]) _ _ _ (yF ha hg) h
    ·split at h
     ·cases h
     ·injection h with h;injection h with h2 h3;exact⟨ar++[a],h2.symm,yF ha hg⟩
theorem DH (hc:mJ cmd) {ts:List Tk} {d:List Dt} {r:List Tk} (h:eA cmd scr ts=.ok (d,r)):Dr d:=by
 unfold eA at h;split at h
 ·cases h
 ·next w r1 h1=>
  split at h
  ·cases h
  ·split at h
   ·cases h
   ·next l r2 h2=>
    obtain⟨ar,rfl,ha⟩:=yE hc _ [] _ _ _ (λ a ha=>by cases ha) h2;injection h with h;injection h with h3 h4;rw [←h3];exact wg 10 false [] [w] [] [] ar dI.nil ha
theorem yb (hc:mJ cmd) {name:Bs} {ts:List Tk} {d:List Dt} {r:List Tk} (h:cy cmd name ts=.ok (d,r)):Dr d:=by
 unfold cy at h;split at h
 ·cases h
 ·split at h
  ·split at h
   ·cases h
   ·next d1 r1 h1=>injection h with h;injection h with h3 h4;rw [←h3];exact jS _ _ _ (hc _ _ _ h1).good
  ·cases h
theorem zA (hc:mJ cmd) {kind:Nat} {gZ:List Tk→PR Unit} {ts:List Tk} {d:List Dt} {r:List Tk} (h:fu cmd kind gZ ts=.ok (d,r)):Dr d:=by
 unfold fu at h;split at h
 ·cases h
 ·next d1 r1 h1=>
  split at h
  ·cases h
  ·injection h with h;injection h with h3 h4;rw [←h3];exact jS _ _ _ (jo hc h1)
theorem jw {q:PR (List Dt)} (hq:∀d r,q=.ok (d,r)→Dr d) {d:List Dt} {r:List Tk} (h:aM scr q=.ok (d,r)):Dr d:=by
 unfold aM at h;split at h
 ·cases h
 ·next d1 r1=>
  split at h
  ·cases h
  ·next rs r2 h2=>
   obtain⟨Zo,rfl⟩:=ud (scr:=scr) _ [] _ _ _ h2;obtain⟨x,rfl,n,hn⟩:=hq _ _ rfl;injection h with h;injection h with h3 h4;rw [←h3];obtain⟨m,hm⟩:=AX Zo;have h9:=hn.le (Nat.le_max_left n m);refine⟨{ x with rs:=Zo.map λ g=>(g.1,cg g.2) },?_,max n m,h9.1,h9.2.1,λ g hg=>(hm g hg).le (Nat.le_max_right ..),h9.2.2.2⟩;show x.row.set 5 _=_;unfold Ny.row;rw [py];rfl
theorem xZ (hc:mJ cmd) {ts:List Tk} {q:PR (List Dt)} (h:cw cmd scr ts=some q) {d:List Dt} {r:List Tk} (hq:q=.ok (d,r)):Dr d:=by
 subst hq;unfold cw at h;split at h
 ·exact jw (λ d r h=>zA hc h) (nD h)
 split at h
 ·exact jw (λ d r h=>zA hc h) (nD h)
 split at h
 ·exact jw (λ d r h=>BL hc h) (nD h)
 split at h
 ·exact jw (λ d r h=>xB hc h) (nD h)
 split at h
 ·exact jw (λ d r h=>xB hc h) (nD h)
 split at h
 ·exact jw (λ d r h=>GX hc h) (nD h)
 split at h
 ·exact jw (λ d r h=>DH hc h) (nD h)
 split at h
 ·exact yb hc (nD h)
 ·cases h
end
theorem rL:∀K,mJ (ab K)
 | 0=>λ ts d r h=>by
  exact KH
 | K+1=>λ ts d r h=>by
  unfold ab at h;split at h
  ·unfold gV at h;split at h
   ·next q hq=>exact xZ (rL K) hq h
   ·exact lR _ [] [] [] _ _ _ h
  ·cases h
theorem IT {K:Nat} {ts:List Tk} {ds:List Dt} (h:og (ab K) ts=.ok ds):dI ds:=by
 unfold og at h;split at h
 ·injection h with h;rw [←h];exact dI.nil
 ·split at h
  ·cases h
  ·next l r h1=>
   split at h
   ·injection h with h;rw [←h];exact zx (BC (rL K) h1)
   ·cases h
theorem TZ {s:Bs} {ds:List Dt} (h:o6 s=.ok ds):dI ds:=by
 unfold o6 eQ at h;split at h
 ·cases h
 ·exact IT h
def zM (w:World) (e:Ending) (w':World):Prop:=e=.returned (.bool true)∧K0 w w'
theorem eqP (N:Nat):∀(n:Nat),n<N→∀(D E:Nat→Prop) (ds:List Dt) (va vb:Value) (w:World),dX n ds→Rd w D (.sl 6 ds) va→Rd w E (.sl 6 ds) vb→
 Calls Tryz.prog 14 #[va,vb] w (zM w):=by
 induction N with
 | zero=>intro n hn;omega
 | succ N ih=>
  intro n hn D E ds va vb w Xp ha hb;obtain⟨xs,rfl,oZ⟩:=Xp.out;obtain⟨aa,al,ac,rfl⟩:=sf dC ha;obtain⟨ba,bl,bc,rfl⟩:=sf dC hb;have hmx:=pK dC ha;have rk:=(gu (k:=6) (λ_=>rfl) dC ha).1;have XK:=(gu (k:=6) (λ_=>rfl) dC hb).1;obtain rfl:al=bl:=rk.trans XK.symm;have yT:=bW;have Bf:=Hd rk;have HA:=Hd ha;have HB:=Hd hb;have mG:=Hd oZ
  have M6:=Hd ih;clear ha hb rk XK oZ Xp ih;go_enter Tryz.func14,Tryz.ntmps14;go_wp2_with fail;go_loopw [5] (λ k' wr=>∃k:Nat,k'=.int .i64 k∧k≤al∧Hid (K0 w wr)) (λ k' _=>al - (intOf k').toNat)
  case atStart=>exact⟨0,rfl,nB _,Hd (ae.refl _ _)⟩
  case round=>
   obtain⟨k,rfl,hk,HK⟩:=hrel;by_cases aW:k<al
   ·have iR:k<xs.length:=by rw [←Bf.o];exact aW
    obtain⟨g,o,xa,xl,xc,rfl,hg,⟨q0,q1,q2,q3,q4,q5⟩,hx⟩:=F3 (bH HA.o HK.o) iR;obtain⟨g',o',ya,yl,yc,rfl,AE,⟨r0,r1,r2,r3,r4,r5⟩,hy⟩:=F3 (bH HB.o HK.o) iR;obtain⟨Jj,sF⟩:=mG.o _ (uD iR);have p1:(k:Int)<(al:Int):=oM
    obtain⟨kx,sU⟩:∃q,q=xs[k].kind:=⟨_,rfl⟩;obtain⟨tx,yY⟩:∃q:ByteArray,q=⟨xs[k].text.toArray⟩:=⟨_,rfl⟩;obtain⟨nx,vS⟩:∃q:ByteArray,q=⟨xs[k].name.toArray⟩:=⟨_,rfl⟩;obtain⟨ox,hox⟩:∃q:ByteArray,q=⟨xs[k].op.toArray⟩:=⟨_,rfl⟩;obtain⟨qx,hqx⟩:∃q,q=xs[k].quoted:=⟨_,rfl⟩;rw [←sU] at q0 r0;rw [←yY] at q1 r1;rw [←vS] at q2 r2;rw [←hox] at q3 r3;rw [←hqx] at q5 r5;have t0:(kx != kx)=false:=sI
    obtain⟨W,hW⟩:∃W,W=(wr.alloc (.cells #[kx,tx,nx,ox,.slice xa xl xc,qx] 67)).alloc (.cells #[kx,tx,nx,ox,.slice ya yl yc,qx] 67):=⟨_,rfl⟩;have eG:K0 wr W:=by rw [hW];exact ((ae.refl _ _).alloc _).alloc _
    have HC:=Hd (M6.o (n - 1) oM D E xs[k].word _ _ W sF (bH hx eG) (bH hy eG));have dO:=Hd (HK.o.trans eG (λ_ _ s=>s));have HW:=Hd hW;clear eG hW hx hy sF sU yY vS hox hqx iR;go_wp2_with fail;rw [←HW.o];refine HC.o.mono ?_;rintro e w2 ⟨rfl,aS⟩;have cA:=Hd (dO.o.trans aS (λ_ _ s=>s));clear aS;exact S3
   ·obtain rfl:k=al:=oM
    exact KQ
theorem eqW (w:World) (D E:Nat→Prop) (n:Nat) (xs:List (List Dt)) (oZ:∀v∈xs,dX n v) (va vb:Value) (ha:Rd w D (.sl 1 (xs.flatMap Nn)) va) (hb:Rd w E (.sl 1 (xs.flatMap Nn)) vb) :
 Calls Tryz.prog 36 #[va,vb] w (zM w):=by
 obtain⟨aa,al,ac,rfl⟩:=sf dC ha;obtain⟨ba,bl,bc,rfl⟩:=sf dC hb;have hmx:=pK dC ha;have rk:=(gu (k:=1) (λ_=>rfl) dC ha).1;have XK:=(gu (k:=1) (λ_=>rfl) dC hb).1;obtain rfl:al=bl:=rk.trans XK.symm;have Bf:=Hd rk;have HA:=Hd ha;have HB:=Hd hb;have mG:=Hd oZ;clear ha hb oZ rk XK;go_enter Tryz.func36,Tryz.ntmps36;go_wp2_with fail
 go_loopw [5] (λ k' wr=>∃k:Nat,k'=.int .i64 k∧k≤al∧Hid (K0 w wr)) (λ k' _=>al - (intOf k').toNat)
 case atStart=>exact⟨0,rfl,nB _,Hd (ae.refl _ _)⟩
 case round=>
  obtain⟨k,rfl,hk,HK⟩:=hrel;by_cases aW:k<al
  ·have iR:k<xs.length:=by rw [←Bf.o];exact aW
   obtain⟨g,o,xa,xl,xc,rfl,hg,q0,hx⟩:=Gl (bH HA.o HK.o) iR;obtain⟨g',o',ya,yl,yc,rfl,AE,r0,hy⟩:=Gl (bH HB.o HK.o) iR;have HC:=Hd (λ W (h:K0 wr W)=>eqP (n+1) n (nM _) D E xs[k] _ _ W (mG.o _ (uD iR)) (bH hx h) (bH hy h));have p1:(k:Int)<(al:Int):=oM
   clear hx hy iR;go_wp2_with fail;go_still_tail 8,kR;change wpList _ _ _ _ _ wr.drew;go_wp2_with fail;refine (HC.o _ (ae.refl _ _).drew).mono ?_;rintro e w2 ⟨rfl,aS⟩;have cA:=Hd ((HK.o.trans ((ae.refl (λ_=>False) wr).drew) k3).trans aS k3);clear aS HC;exact S3
  ·obtain rfl:k=al:=oM
   exact KQ
def Va (N:Nat):Prop:=∀(n:Nat),n<N→∀(w:World) (D E:Nat→Prop) (ds:List Dt) (aa ba:OA) (an ac bn bc:Nat),ir n ds→Rd w D (.sl 8 ds) (.slice aa an ac)→Rd w E (.sl 8 ds) (.slice ba bn bc)→
 Calls Tryz.prog 11 #[.slice aa an ac,.slice ba bn bc] w (zM w)
theorem eqN (N n:Nat) (hn:n<N) (LL:Va N) (w:World) (D E:Nat→Prop) (x:Ny) (hx:Gy n x) (wl wc gl gc rl Cy kl kc al ac U9 U8 YR UF Zn Iv UZ UY YM PB:Nat) (wa ga ra ka aa U7 UE U1 UX Uz:OA)
 (ha:Uy w D x wa wl wc ga gl gc ra rl Cy ka kl kc aa al ac) (hb:Uy w E x U7 U9 U8 UE YR UF U1 Zn Iv UX UZ UY Uz YM PB) :
 Calls Tryz.prog 22 #[.agg #[x.kind,x.nt,.string ⟨x.nm.toArray⟩,.slice wa wl wc,.slice ga gl gc,.slice ra rl Cy,.slice ka kl kc,.slice aa al ac],.agg #[x.kind,x.nt,.string ⟨x.nm.toArray⟩,.slice U7 U9 U8,.slice UE YR UF,.slice U1 Zn Iv,.slice UX UZ UY,.slice Uz YM PB]] w (zM w):=by
 have hcA:Tryz.prog.cellsOf 84=2:=kR
 have hcR:Tryz.prog.cellsOf 86=2:=kR
 have hcM:Tryz.prog.cellsOf 49=2:=kR
 have tQ:=pK dC ha.gs;have dU:=pK dC ha.rs;have ha2:=pK dC ha.ar;have hlg:=(gu (k:=2) (λ_=>rfl) dC ha.gs).1;have UO:=(gu (k:=2) (λ_=>rfl) dC ha.rs).1;have rk:=(gu (k:=2) (λ_=>rfl) dC ha.ar).1;obtain rfl:gl=YR:=hlg.trans (gu (k:=2) (λ_=>rfl) dC hb.gs).1.symm;obtain rfl:rl=Zn:=UO.trans (gu (k:=2) (λ_=>rfl) dC hb.rs).1.symm
 obtain rfl:al=YM:=rk.trans (gu (k:=2) (λ_=>rfl) dC hb.ar).1.symm;have HLG:=Hd hlg;have HLR:=Hd UO;have Bf:=Hd rk;have HW:=Hd (λ W (h:K0 w W)=>eqW W D E n x.ws hx.1 _ _ (bH ha.ws h) (bH hb.ws h));have HS:=Hd (λ W (h:K0 w W)=>LL n hn W D E x.ks _ _ _ _ _ _ hx.2.2.2.1 (bH ha.ks h) (bH hb.ks h));have M9:=Hd LL;have HX:=Hd hx
 have HA:=Hd ha;have HB:=Hd hb;obtain⟨kx,sU⟩:∃l,l=x.kind:=⟨_,rfl⟩;obtain⟨tx,yY⟩:∃l,l=x.nt:=⟨_,rfl⟩;obtain⟨nx,vS⟩:∃l:ByteArray,l=⟨x.nm.toArray⟩:=⟨_,rfl⟩;rw [←sU,←yY,←vS];clear ha hb hx LL hlg UO rk sU yY vS;obtain⟨W,hW⟩:∃W,W=((w.alloc (.cells #[kx,tx,nx,.slice wa wl wc,.slice ga gl gc,.slice ra rl Cy,.slice ka kl kc,.slice aa al ac] 44)).alloc (.cells #[kx,tx,nx,.slice U7 U9 U8,.slice UE gl UF,.slice U1 rl Iv,.slice UX UZ UY,.slice Uz al PB] 44)):=⟨_,rfl⟩
 have eG:K0 w W:=by rw [hW];exact ((ae.refl _ _).alloc _).alloc _
 have hR1:af W w.heap.size [kx,tx,nx,.slice wa wl wc,.slice ga gl gc,.slice ra rl Cy,.slice ka kl kc,.slice aa al ac]:=by
  rw [hW];exact (aD w _ _ _ _ _ _ _ _ _).keep (S:=λ_=>False) ((ae.refl _ _).alloc _) (λ h=>h)
 have hR2:af W (w.heap.size+1) [kx,tx,nx,.slice U7 U9 U8,.slice UE gl UF,.slice U1 rl Iv,.slice UX UZ UY,.slice Uz al PB]:=by
  rw [hW];have h:=aD (w.alloc (.cells #[kx,tx,nx,.slice wa wl wc,.slice ga gl gc,.slice ra rl Cy,.slice ka kl kc,.slice aa al ac] 44)) (.int .i64 kx) (.bool tx) (.string nx) (.slice U7 U9 U8) (.slice UE gl UF) (.slice U1 rl Iv) (.slice UX UZ UY) (.slice Uz al PB) 44;rw [show (w.alloc (.cells #[kx,tx,nx,.slice wa wl wc,.slice ga gl gc,.slice ra rl Cy,.slice ka kl kc,.slice aa al ac] 44)).heap.size=w.heap.size+1 by simp] at h
  exact h
 have ot:=Hd hR1;have gF:=Hd hR2;have dO:=Hd eG;have SH:=Hd hW;clear hW hR1 hR2 eG;have t0:(kx != kx)=false:=sI
 go_enter Tryz.func22,Tryz.ntmps22;go_wp2_with fail;rw [←SH.o];refine (HW.o W dO.o).mono ?_;rintro e w1 ⟨rfl,bt⟩;have dp:=Hd bt;obtain⟨⟨x0,x1,x2,x3,x4,x5,x6,x7⟩,_⟩:=(ot.o.keep bt (λ h=>h)).eight;obtain⟨⟨y0,y1,y2,y3,y4,y5,y6,y7⟩,_⟩:=(gF.o.keep bt (λ h=>h)).eight;have lx:=(ot.o.keep bt (λ h=>h)).lt;have ly:=(gF.o.keep bt (λ h=>h)).lt;clear bt;go_wp2_with fail;clear x0 x1 x2 x3 x4 x5 x6 x7 y0 y1 y2 y3 y4 y5 y6 y7 lx ly
 go_loopw [5] (λ k' wr=>∃k:Nat,k'=.int .i64 k∧k≤gl∧Hid (K0 W wr)) (λ k' _=>gl - (intOf k').toNat)
 case atStart=>exact⟨0,rfl,nB _,dp⟩
 case round=>
 clear dp;obtain⟨k,rfl,hk,HK⟩:=hrel;obtain⟨⟨x0,x1,x2,x3,x4,x5,x6,x7⟩,_⟩:=(ot.o.keep HK.o (λ h=>h)).eight;obtain⟨⟨y0,y1,y2,y3,y4,y5,y6,y7⟩,_⟩:=(gF.o.keep HK.o (λ h=>h)).eight;have lx:=(ot.o.keep HK.o (λ h=>h)).lt;have ly:=(gF.o.keep HK.o (λ h=>h)).lt;by_cases aW:k<gl
 ·have iR:k<x.gs.length:=by rw [←HLG.o];exact aW
  have p1:(k:Int)<(gl:Int):=oM
  obtain⟨g,o,xa,xl,xc,h1,hg,q0,q1,hp⟩:=uW (bH (bH HA.o.gs dO.o) HK.o) iR;obtain⟨g',o',ya,yl,yc,h2,AE,r0,r1,Tw⟩:=uW (bH (bH HB.o.gs dO.o) HK.o) iR;subst h1 h2;have HP:=Hd (λ V (h:K0 wr V)=>eqP (n+1) n (nM _) D E x.gs[k].2 _ _ V (HX.o.2.1 _ (uD iR)) (bH hp h) (bH Tw h));obtain⟨s,hs⟩:∃s,s=x.gs[k].1:=⟨_,rfl⟩
  exact Q4
 obtain rfl:k=gl:=oM
 have p1:¬(k:Int)<(k:Int):=oM
 go_wp2_with fail;clear p1 aW x0 x1 x2 x3 x4 x5 x6 x7 y0 y1 y2 y3 y4 y5 y6 y7 lx ly;go_loopw [6] (λ k' wr=>∃k:Nat,k'=.int .i64 k∧k≤rl∧Hid (K0 W wr)) (λ k' _=>rl - (intOf k').toNat)
 case atStart=>exact⟨0,rfl,nB _,HK⟩
 case round=>
 clear HK;obtain⟨k,rfl,hk,HK⟩:=hrel;obtain⟨⟨x0,x1,x2,x3,x4,x5,x6,x7⟩,_⟩:=(ot.o.keep HK.o (λ h=>h)).eight;obtain⟨⟨y0,y1,y2,y3,y4,y5,y6,y7⟩,_⟩:=(gF.o.keep HK.o (λ h=>h)).eight;have lx:=(ot.o.keep HK.o (λ h=>h)).lt;have ly:=(gF.o.keep HK.o (λ h=>h)).lt;by_cases aW:k<rl
 ·have iR:k<x.rs.length:=by rw [←HLR.o];exact aW
  have p1:(k:Int)<(rl:Int):=oM
  obtain⟨g,o,xa,xl,xc,h1,hg,q0,q1,hp⟩:=uW (bH (bH HA.o.rs dO.o) HK.o) iR;obtain⟨g',o',ya,yl,yc,h2,AE,r0,r1,Tw⟩:=uW (bH (bH HB.o.rs dO.o) HK.o) iR;subst h1 h2;have HP:=Hd (λ V (h:K0 wr V)=>eqP (n+1) n (nM _) D E x.rs[k].2 _ _ V (HX.o.2.2.1 _ (uD iR)) (bH hp h) (bH Tw h));obtain⟨s,hs⟩:∃s,s=x.rs[k].1:=⟨_,rfl⟩
  exact Q4
 obtain rfl:k=rl:=oM
 have p1:¬(k:Int)<(k:Int):=oM
 go_wp2_with fail;clear p1 aW x0 x1 x2 x3 x4 x5 x6 x7 y0 y1 y2 y3 y4 y5 y6 y7 lx ly;go_loopw [7] (λ k' wr=>∃k:Nat,k'=.int .i64 k∧k≤al∧Hid (K0 W wr)) (λ k' _=>al - (intOf k').toNat)
 case atStart=>exact⟨0,rfl,nB _,HK⟩
 case round=>
 clear HK;obtain⟨k,rfl,hk,HK⟩:=hrel;obtain⟨⟨x0,x1,x2,x3,x4,x5,x6,x7⟩,_⟩:=(ot.o.keep HK.o (λ h=>h)).eight;obtain⟨⟨y0,y1,y2,y3,y4,y5,y6,y7⟩,_⟩:=(gF.o.keep HK.o (λ h=>h)).eight;have lx:=(ot.o.keep HK.o (λ h=>h)).lt;have ly:=(gF.o.keep HK.o (λ h=>h)).lt;by_cases aW:k<al
 ·have iR:k<x.ar.length:=by rw [←Bf.o];exact aW
  have p1:(k:Int)<(al:Int):=oM
  obtain⟨g,o,pa,pn,pc,ba,bn,bc,h1,hg,q0,q1,hp,hbd⟩:=Kl (bH (bH HA.o.ar dO.o) HK.o) iR;obtain⟨g',o',pa',pn',pc',ba',bn',bc',h2,AE,r0,r1,Tw,Xn⟩:=Kl (bH (bH HB.o.ar dO.o) HK.o) iR;subst h1 h2;have hxa:=HX.o.2.2.2.2 _ (uD iR);have HP:=Hd (λ V (h:K0 wr V)=>eqW V D E n x.ar[k].1 hxa.1 _ _ (bH hp h) (bH Tw h))
  have HQ:=Hd (λ V (h:K0 wr V)=>M9.o n hn V D E x.ar[k].2 _ _ _ _ _ _ hxa.2 (bH hbd h) (bH Xn h));clear hp Tw hbd Xn iR hxa;have sw:=Hd (show ∀w',K0 wr w'→(λ w'=>w'.cell? ⟨w.heap.size,7,none⟩=some (.slice (some ⟨g,o,none⟩) al ac)∧w'.cell? ⟨w.heap.size+1,7,none⟩=some (.slice (some ⟨g',o',none⟩) al PB)∧w'.cell? ⟨g,o+k*2,none⟩=some (.slice pa pn pc)∧w'.cell? ⟨g,o+k*2+1,none⟩=some (.slice ba bn bc)∧w'.cell? ⟨g',o'+k*2,none⟩=some (.slice pa' pn' pc')∧w'.cell? ⟨g',o'+k*2+1,none⟩=some (.slice ba' bn' bc')∧K0 wr w') w' from λ w' hk=>⟨(uH (a:=⟨w.heap.size,7,none⟩) (hk.block _ lx (λ h=>h))).trans x7,(uH (a:=⟨w.heap.size+1,7,none⟩) (hk.block _ ly (λ h=>h))).trans y7,(uH (a:=⟨g,o+k*2,none⟩) (hk.block _ hg (λ h=>h))).trans q0,(uH (a:=⟨g,o+k*2+1,none⟩) (hk.block _ hg (λ h=>h))).trans q1,(uH (a:=⟨g',o'+k*2,none⟩) (hk.block _ AE (λ h=>h))).trans r0,(uH (a:=⟨g',o'+k*2+1,none⟩) (hk.block _ AE (λ h=>h))).trans r1,hk⟩)
  go_wp2_with fail;go_region_held3 (λ w'=>w'.cell? ⟨w.heap.size,7,none⟩=some (.slice (some ⟨g,o,none⟩) al ac)∧w'.cell? ⟨w.heap.size+1,7,none⟩=some (.slice (some ⟨g',o',none⟩) al PB)∧w'.cell? ⟨g,o+k*2,none⟩=some (.slice pa pn pc)∧w'.cell? ⟨g,o+k*2+1,none⟩=some (.slice ba bn bc)∧w'.cell? ⟨g',o'+k*2,none⟩=some (.slice pa' pn' pc')∧w'.cell? ⟨g',o'+k*2+1,none⟩=some (.slice ba' bn' bc')∧K0 wr w') (first | exact sw.o _ HKK | exact sw.o _ ((ae.refl (λ_=>False) _).drew)) (first | (go_at_call 36;refine (HP.o _ ((ae.refl _ _).drew)).mono ?_;rintro e w2 ⟨rfl,aS⟩;have HKK:=(((ae.refl (λ_=>False) wr).drew).trans aS k3);clear aS) | (go_at_call 11;refine (HQ.o _ HKK).mono ?_;rintro e w3 ⟨rfl,aV⟩;have Vh:=HKK.trans aV k3;clear HKK;have HKK:=Vh;have bZ:=Hd (HK.o.trans HKK k3);clear aV Vh))
  all_goals (
   go_wp2_with fail;go_roundw
   case rel=>exact⟨k+1,by go_num,oM,bZ⟩
   case measure=>simp [intOf];omega)
 obtain rfl:k=al:=oM
 have p1:¬(k:Int)<(k:Int):=oM
 go_wp2_with fail;refine (HS.o wr (dO.o.trans HK.o k3)).mono ?_;rintro e w2 ⟨rfl,aS⟩;have cA:=Hd ((dO.o.trans HK.o k3).trans aS k3);clear aS;exact KE
theorem aaQ:∀N,Va N:=by
 intro N;induction N with
 | zero=>intro n hn;omega
 | succ N ih=>
  intro n hn w D E ds aa ba an ac bn bc Xp ha hb;obtain⟨xs,rfl,oZ⟩:=Xp.out;have ov:=aT;have hmx:=pK dC ha;have rk:=(gu (k:=8) (λ_=>rfl) dC ha).1;obtain rfl:an=bn:=rk.trans (gu (k:=8) (λ_=>rfl) dC hb).1.symm;have Bf:=Hd rk;have HA:=Hd ha;have HB:=Hd hb;have mG:=Hd oZ;have M6:=Hd ih;clear ha hb oZ Xp ih rk;go_enter Tryz.func11,Tryz.ntmps11
  go_wp2_with fail;go_loopw [5] (λ k' wr=>∃k:Nat,k'=.int .i64 k∧k≤an∧Hid (K0 w wr)) (λ k' _=>an - (intOf k').toNat)
  case atStart=>exact⟨0,rfl,nB _,Hd (ae.refl _ _)⟩
  case round=>
   obtain⟨k,rfl,hk,HK⟩:=hrel;by_cases aW:k<an
   ·have iR:k<xs.length:=by rw [←Bf.o];exact aW
    obtain⟨g,o,wa,wl,wc,ga,gl,gc,ra,rl,Cy,ka,kl,kc,aa,al,ac,h,hg,⟨q0,q1,q2,q3,q4,q5,q6,q7⟩,hx⟩:=Cj (bH HA.o HK.o) iR;obtain⟨g',o',U7,U9,U8,UE,YR,UF,U1,Zn,Iv,UX,UZ,UY,Uz,YM,PB,h',AE,⟨r0,r1,r2,r3,r4,r5,r6,r7⟩,hy⟩:=Cj (bH HB.o HK.o) iR;subst h h';have HP:=Hd (λ W (hw:K0 wr W)=>eqN N (n - 1) (by have:=(mG.o _ (uD iR)).1;omega) M6.o W D E xs[k] (mG.o _ (uD iR)).2 _ _ _ _ _ _ _ _ _ _ _ _ _ _ _ _ _ _ _ _ _ _ _ _ _ _ _ _ _ _ (hx.keep0 hw) (hy.keep0 hw))
    obtain⟨kx,sU⟩:∃l,l=xs[k].kind:=⟨_,rfl⟩;obtain⟨tx,yY⟩:∃l,l=xs[k].nt:=⟨_,rfl⟩;obtain⟨nx,vS⟩:∃l:ByteArray,l=⟨xs[k].nm.toArray⟩:=⟨_,rfl⟩;rw [←sU,←yY,←vS] at HP;rw [←sU] at q0 r0;rw [←yY] at q1 r1;rw [←vS] at q2 r2;clear hx hy iR sU yY vS;have p1:(k:Int)<(an:Int):=oM
    go_wp2_with fail;go_still_tail 8,kR;exact Wj
   ·obtain rfl:k=an:=oM
    exact KQ
end Go.Proofs.YtiihpbccabeoeaaGreatDoor
