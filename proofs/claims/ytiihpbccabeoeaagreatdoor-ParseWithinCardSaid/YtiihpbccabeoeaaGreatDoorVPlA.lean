/- The walk: a part. -/
import Derived.Test.YtiihpbccabeoeaaGreatDoorVM
import Derived.Test.YtiihpbccabeoeaaGreatDoorVPkD
import Derived.Test.YtiihpbccabeoeaaGreatDoorVPkE
namespace Go.Proofs.YtiihpbccabeoeaaGreatDoor
set_option linter.unusedVariables false
set_option maxRecDepth 100000
set_option maxHeartbeats 16000000
def lW (r:List UInt8):Prop:=∀p,r≠p++[92]
theorem lW.tail {c:UInt8} {t:List UInt8} (h:lW (c::t)):lW t:=λ p e=>h (c::p) (by rw [e];rfl)
theorem lW.drop {r:List UInt8} (h:lW r) (k:Nat):lW (r.drop k):=λ p e=>h (r.take k++p) (by rw [aA,←e,List.take_append_drop])
theorem lW.tl {r:List UInt8} (h:lW r):lW r.tail:=by
 cases r with
 | nil=>exact h
 | cons c t=>exact h.tail
theorem lW.bs {c:UInt8} {t:List UInt8} (h:lW (c::t)) (G3:(c==92)=true):t≠[]:=by
 rintro rfl;exact h [] (by rw [nH.1 G3];rfl)
theorem oe:zX 10:=.inr rfl
theorem FU (r b:List UInt8):bu (r++10::b)=bu r:=by
 cases r with
 | nil=>rfl
 | cons c t=>
  unfold bu;rw [nZ,List.tail_cons,List.tail_cons,kX (xh oe dC) b t,FZ oe];rfl
theorem TU (b:List UInt8):∀(n:Nat) (md:Md) (d:Nat) (r:List UInt8) (l:List Pt) (r1:List UInt8),lW r→((∀q,md=.one q→r≠[]):Prop)→bN n md d r=.ok (l,r1)→
 d7 md d (r++10::b)=.ok (l,r1++10::b)∧lW r1:=by
 intro n;induction n with
 | zero=>intro md d r l r1 _ _ h;cases md<;>cases h
 | succ n ih=>
  intro md d r l r1 hf cM h;cases md with
  | one q=>
   cases r with
   | nil=>exact nQ rfl (cM q rfl)
   | cons c t=>
    have Ol:=hf.tail;rw [nZ];cases q with
    | false=>
     rw [lf] at h;rw [k9];by_cases h39:(c==39)=true
     ·rw [nE h39] at h ⊢;cases hu:bX 39 t with
      | none=>rw [hu] at h;cases h
      | some k=>
       rw [hu] at h;obtain⟨rfl,rfl⟩:=uJ (uI h);obtain⟨i1,i2⟩:=xA 39 t (10::b) k hu;rw [i1];dsimp only;rw [pg oM,jO oM];exact⟨rfl,Ol.drop _⟩
     rw [nF h39] at h ⊢;by_cases yd:(c==34)=true
     ·rw [nE yd] at h ⊢;obtain⟨m,hm,rfl⟩:=gY h;obtain⟨i1,i2⟩:=ih .dq d t m r1 Ol (by intro q e;cases e) hm;rw [i1];exact⟨rfl,i2⟩
     rw [nF yd] at h ⊢;by_cases G3:(c==92)=true
     ·rw [nE G3] at h ⊢;cases t with
      | nil=>exact nQ rfl (hf.bs G3)
      | cons y t'=>
       rw [nZ];dsimp only at h ⊢;split at h
       ·next hy=>rw [nE hy];obtain⟨rfl,rfl⟩:=uJ (uI h);exact⟨rfl,Ol.tail⟩
       ·next hy=>rw [nF hy];obtain⟨rfl,rfl⟩:=uJ (uI h);exact⟨rfl,Ol.tail⟩
     rw [nF G3] at h ⊢;by_cases h96:(c==96)=true
     ·rw [nE h96] at h;cases h
     rw [nF h96] at h ⊢;by_cases Xb:(c==36)=true
     ·rw [nE Xb] at h ⊢;exact ih (.dol false) d t l r1 Ol (by intro q e;cases e) h
     rw [nF Xb] at h ⊢;exact Kw
    | true=>
     rw [ld] at h;rw [Cf];by_cases yd:(c==34 || c==96)=true
     ·rw [nE yd] at h;cases h
     rw [nF yd] at h ⊢;by_cases G3:(c==92)=true
     ·cases t with
      | nil=>exact nQ rfl (hf.bs G3)
      | cons y t'=>
       rw [nZ];rw [show aP 10 (y::(t'++10::b))=aP 10 (y::t') from rfl,show (y::(t'++10::b)).headD 0=(y::t').headD 0 from rfl];by_cases ha:(c==92 && aP 10 (y::t'))=true
       ·rw [nE ha] at h ⊢;obtain⟨rfl,rfl⟩:=uJ (uI h);exact⟨rfl,Ol.tail⟩
       rw [nF ha] at h ⊢;by_cases hb:(c==92 && Aw ((y::t').headD 0))=true
       ·rw [nE hb] at h ⊢;obtain⟨rfl,rfl⟩:=uJ (uI h);exact⟨rfl,Ol.tail⟩
       rw [nF hb] at h ⊢;have hc:c=92:=nH.1 G3;subst hc;rw [nF dC] at h ⊢;exact Kw
     rw [Bool.not_eq_true] at G3;rw [nF (by rw [G3];simp),nF (by rw [G3];simp)] at h ⊢;by_cases Xb:(c==36)=true
     ·rw [nE Xb] at h ⊢;exact ih (.dol true) d t l r1 Ol (by intro q e;cases e) h
     rw [nF Xb] at h ⊢;exact Kw
  | dq=>
   rw [lP] at h;rw [uV];cases r with
   | nil=>cases h
   | cons c t=>
    rw [nZ];dsimp only at h ⊢;by_cases yd:(c==34)=true
    ·exact Qq
    ·rw [nF yd] at h ⊢;cases h2:bN n (.one true) d (c::t) with
     | error e=>rw [h2] at h;cases h
     | ok z=>
      obtain⟨l2,r2⟩:=z;rw [h2] at h;obtain⟨m,hm,rfl⟩:=gY h;obtain⟨i1,i2⟩:=ih (.one true) d (c::t) l2 r2 hf (λ_ _ e=>by cases e) h2;obtain⟨j1,j2⟩:=ih .dq d r2 m r1 i2 (by intro q e;cases e) hm;rw [nZ] at i1;rw [i1];dsimp only;rw [j1];exact⟨rfl,j2⟩
  | br q=>
   rw [lO] at h;rw [AR];cases r with
   | nil=>cases h
   | cons c t=>
    rw [nZ];dsimp only at h ⊢;by_cases yd:(c==125)=true
    ·exact Qq
    ·rw [nF yd] at h ⊢;cases h2:bN n (.one q) d (c::t) with
     | error e=>rw [h2] at h;cases h
     | ok z=>
      obtain⟨l2,r2⟩:=z;rw [h2] at h;obtain⟨m,hm,rfl⟩:=gY h;obtain⟨i1,i2⟩:=ih (.one q) d (c::t) l2 r2 hf (λ_ _ e=>by cases e) h2;obtain⟨j1,j2⟩:=ih (.br q) d r2 m r1 i2 (by intro q e;cases e) hm;rw [nZ] at i1;rw [i1];dsimp only;rw [j1];exact⟨rfl,j2⟩
  | dol q=>
   rw [mu] at h;rw [Ce];rw [kX (xh oe dC) b r];by_cases h1:aP 123 r=true
   ·rw [nE h1] at h ⊢;obtain⟨t,rfl⟩:=jR h1;exact ih (.brace q) d t l r1 hf.tail (by intro q e;cases e) h
   rw [nF h1] at h ⊢;rw [nw b [40,40] dC r];by_cases h2:aI [40,40] r=true
   ·rw [nE h2] at h ⊢;have hl:2≤r.length:=by
     match r,h2 with
     | [],h=>cases h
     | [a],h=>simp [aI] at h
     | a::c::t,_=>simp
    rw [jO hl];cases hu:ci 0 (r.drop 2) with
    | none=>rw [hu] at h;cases h
    | some k=>
     rw [hu] at h;obtain⟨rfl,rfl⟩:=uJ (uI h);obtain⟨i1,i2⟩:=yN _ (10::b) _ k hu;rw [i1];dsimp only;rw [pg oM,jO oM];exact⟨rfl,(hf.drop _).drop _⟩
   rw [nF h2] at h ⊢;rw [kX (xh oe dC) b r];by_cases h3:aP 40 r=true
   ·rw [nE h3] at h ⊢;obtain⟨t,rfl⟩:=jR h3;rw [nZ,List.tail_cons];rw [List.tail_cons] at h;cases hu:ce .n 0 t with
    | none=>rw [hu] at h;cases h
    | some k=>
     rw [hu] at h;obtain⟨rfl,rfl⟩:=uJ (uI h);obtain⟨i1,i2⟩:=CO t (10::b) _ _ k hu;rw [i1];dsimp only;rw [pg oM,jO oM];exact⟨rfl,hf.tail.drop _⟩
   rw [nF h3] at h ⊢;rw [zd oe];by_cases h4:bQ false r=0
   ·rw [nE h4] at h ⊢;obtain⟨rfl,rfl⟩:=uJ (uI h);exact⟨rfl,hf⟩
   ·rw [nF h4] at h ⊢;obtain⟨rfl,rfl⟩:=uJ (uI h);have hk:=iU false r;rw [pg oM,jO oM];exact⟨rfl,hf.drop _⟩
  | brace q=>
   rw [jn] at h;rw [wu];obtain⟨g,hg⟩:∃g,g=bu r:=⟨_,rfl⟩;obtain⟨r0,sV⟩:∃r0,r0=(if bu r then r.tail else r):=⟨_,rfl⟩;have uK:(if bu (r++10::b) then (r++10::b).tail else r++10::b)=r0++10::b:=by
    rw [FU,sV];by_cases hl:bu r=true
    ·rw [nE hl,nE hl];cases r with
     | nil=>cases hl
     | cons c t=>rfl
    ·rw [nF hl,nF hl]
   have Y7:lW r0:=by
    rw [sV];split
    ·exact hf.tl
    ·exact hf
   rw [uK,FU];rw [←sV,←hg] at h;rw [←hg];clear sV uK hf hg;revert Y7;revert h;generalize r0=r;intro h hf;rw [zd oe];by_cases h0:bQ true r=0
   ·rw [nE h0] at h;cases h
   rw [nF h0] at h ⊢;have hk:=iU true r;rw [jO hk,pg hk,kX (xh oe dC) b];have Y8:=hf.drop (bQ true r);obtain⟨r2,dU⟩:∃r2,r2=r.drop (bQ true r):=⟨_,rfl⟩;rw [←dU] at h Y8 ⊢;by_cases h1:aP 125 r2=true
   ·rw [nE h1] at h ⊢;obtain⟨rfl,rfl⟩:=uJ (uI h);obtain⟨t,ht⟩:=jR h1;rw [ht,nZ,List.tail_cons,List.tail_cons];rw [ht] at Y8;exact⟨rfl,Y8.tail⟩
   rw [nF h1] at h ⊢;rw [FZ oe];by_cases h2:((lF r2).isEmpty || g)=true
   ·rw [nE h2] at h;cases h
   rw [nF h2] at h ⊢;by_cases h3:d=40
   ·rw [nE h3] at h;cases h
   rw [nF h3] at h ⊢;have kZ:=Er r2;rw [jO kZ];cases h4:bN n (.br q) (d+1) (r2.drop (lF r2).length) with
   | error e=>rw [h4] at h;cases h
   | ok z=>
    obtain⟨l2,r3⟩:=z;rw [h4] at h;obtain⟨rfl,rfl⟩:=uJ (uI h);obtain⟨i1,i2⟩:=ih (.br q) (d+1) _ l2 r3 (Y8.drop _) (by intro q e;cases e) h4;rw [i1];exact⟨rfl,i2⟩
theorem Pd (b:List UInt8):∀(n:Nat) (r:List UInt8) (l:List Pt) (r1:List UInt8),r.length≤n→lW r→kv false r=.ok (l,r1)→kv false (r++10::b)=.ok (l,r1++10::b)∧lW r1∧r1.length≤r.length:=by
 have hb:bY (10:UInt8)=true:=rfl;intro n;induction n with
 | zero=>
  intro r l r1 hn hf h;obtain rfl:r=[]:=nO oM;exact PS
 | succ n ih=>
  intro r l r1 hn hf h;cases r with
  | nil=>
   exact PS
  | cons c t=>
   rw [jx] at h;rw [nZ,jx];by_cases h1:(!false && bY c)=true
   ·rw [nE h1] at h ⊢;obtain⟨rfl,rfl⟩:=uJ (uI h);exact⟨rfl,hf,nC _⟩
   rw [nF h1] at h ⊢;cases h2:d7 (.one false) 0 (c::t) with
   | error e=>rw [h2] at h;cases h
   | ok z=>
    obtain⟨l2,r2⟩:=z;rw [h2] at h;obtain⟨m,hm,rfl⟩:=gY h;obtain⟨i1,i2⟩:=TU b _ (.one false) 0 (c::t) l2 r2 hf (λ_ _ e=>by cases e) h2;have hl:=cS _ _ _ _ _ _ h2;simp only [Md.least,lC] at hl hn;obtain⟨j1,j2,j3⟩:=ih r2 m r1 oM i2 hm;rw [nZ] at i1;rw [i1];dsimp only;rw [j1];exact⟨rfl,j2,by simp only [lC];omega⟩
theorem si (b:List UInt8):∀(m:Bool) (r:List UInt8),lW r→lW (bU m r)∧(bU m r).length≤r.length∧bU m (r++10::b)=bU m r++10::b
 | true,[],h=>⟨h,nC _,rfl⟩
 | false,[],h=>⟨h,nC _,by rw [List.nil_append,dB];rfl⟩
 | true,c::t,h=>by
  obtain⟨i1,i2,i3⟩:=si b true t h.tail;rw [nZ];unfold bU;by_cases h1:(c==10)=true
  ·rw [nE h1,nE h1];exact⟨h,nC _,rfl⟩
  ·rw [nF h1,nF h1];exact⟨i1,by simp only [lC];omega,i3⟩
 | false,c::t,h=>by
  obtain⟨i1,i2,i3⟩:=si b false t h.tail;obtain⟨j1,j2,j3⟩:=si b true t h.tail;rw [nZ];unfold bU;by_cases h1:(c==32 || c==9)=true
  ·rw [nE h1,nE h1];exact⟨i1,by simp only [lC];omega,i3⟩
  rw [nF h1,nF h1];by_cases h2:(c==35)=true
  ·rw [nE h2,nE h2];exact⟨j1,by simp only [lC];omega,j3⟩
  rw [nF h2,nF h2];by_cases h3:(c==92)=true
  ·rw [nE h3,nE h3];cases t with
   | nil=>exact nQ rfl (h.bs h3)
   | cons y t'=>
    obtain⟨k1,k2,k3⟩:=si b false t' h.tail.tail;rw [nZ];dsimp only;by_cases h4:(y==10)=true
    ·rw [nE h4,nE h4];exact⟨k1,by simp only [lC];omega,k3⟩
    ·rw [nF h4,nF h4];exact⟨h,nC _,rfl⟩
  ·rw [nF h3,nF h3];exact⟨h,nC _,rfl⟩
theorem Ue (b:List UInt8):∀(n:Nat) (r:List UInt8) (l:List Tk),r.length≤n→lW r→fZ r=.ok l→fZ (r++10::b)=i6 l (fZ (10::b)):=by
 intro n;induction n with
 | zero=>
  intro r l hn hf h;obtain rfl:r=[]:=nO oM;have:([]:List Tk)=l:=uI h;rw [←this,px];rfl
 | succ n ih=>
  intro r l hn hf h;obtain⟨s1,s2,s3⟩:=si b false r hf;rw [io] at h;rw [io (r++10::b),s3];cases hs:bU false r with
  | nil=>
   rw [hs] at h;have:([]:List Tk)=l:=uI h;rw [←this,px,io (10::b),dB];rfl
  | cons c t=>
   rw [hs] at h s1 s2;dsimp only at h;have gC:∃y r1,ed (c::t)=.ok (y,r1)∧ed (c::t++10::b)=.ok (y,r1++10::b)∧lW r1:=by
    cases h2:ed (c::t) with
    | error e=>rw [h2] at h;cases h
    | ok z=>
     obtain⟨y,r1⟩:=z;refine⟨y,r1,rfl,?_⟩;by_cases kZ:dg (c::t)=[]
     ·by_cases G2:aP 38 (c::t)=true
      ·unfold ed at h2;rw [nE (by rw [kZ];rfl),nE G2] at h2;cases h2
      ·rw [ph kZ (by simpa using G2)] at h2;rw [ph (by rw [sZ oe,kZ]) (by rw [kX (xh oe dC)];simpa using G2)];cases h3:kv false (c::t) with
       | error e=>rw [h3] at h2;cases h2
       | ok z2=>
        obtain⟨l2,r2⟩:=z2;rw [h3] at h2;obtain⟨rfl,rfl⟩:=uJ (uI h2);obtain⟨i1,i2,_⟩:=Pd b _ _ _ _ (nC _) s1 h3;rw [i1];exact⟨rfl,i2⟩
     ·rw [pO kZ] at h2;obtain⟨rfl,rfl⟩:=uJ (uI h2);have UN:=wM (c::t);rw [pO (by rw [sZ oe];exact kZ),sZ oe,jO UN];exact⟨rfl,s1.drop _⟩
   obtain⟨y,r1,h2,h3,h4⟩:=gC;have hl:=jv (jt hs) h2;rw [h2] at h;dsimp only at h;rw [nZ];dsimp only;rw [←nZ,h3];dsimp only;cases h5:fZ r1 with
   | error e=>rw [h5] at h;cases h
   | ok l2=>
    rw [h5] at h;have hl2:(y::l2)=l:=uI h;simp only [lC] at hl s2;rw [ih r1 l2 oM h4 h5,←hl2];cases fZ (10::b) with
    | error e=>rfl
    | ok m=>rfl
theorem RP {a b:List UInt8} {x y:List Tk} (ha:ff a=.ok x) (hb:ff b=.ok y) (hf:lW a) (hl:a.length+1+b.length≤16384):ff (a++[10]++b)=.ok (x++⟨2,[10],[]⟩::y):=by
 obtain⟨a1,a2⟩:=L8 ha;obtain⟨b1,b2⟩:=L8 hb;rw [tn _ (L7 (c:=[10]) a1 b1 dC hl),aA,List.singleton_append,Ue b _ a x (nC _) hf a2];rw [MM,b2];rfl
def nlK:Tk:=⟨2,[10],[]⟩
def Lk (r e:List Tk):Prop:=r≠[]∨∃e',e=nlK::e'
theorem Lk.cons {t:Tk} {r e:List Tk}:Lk (t::r) e:=.inl sI
theorem Lk.ne {r e:List Tk} (h:r≠[]):Lk r e:=.inl h
theorem Lk.at {ts e:List Tk} (h:Lk ts e):(∃t r,ts=t::r)∨(ts=[]∧∃e',e=nlK::e'):=by
 rcases ts with _ | ⟨t,r⟩
 ·rcases h with h | h
  ·exact nQ rfl h
  ·exact .inr ⟨rfl,h⟩
 ·exact .inl ⟨t,r,rfl⟩
def Nq {α:Type} (f:List Tk→PR α) (e:List Tk):Prop:=∀ts d r,f ts=.ok (d,r)→Lk r e→f (ts++e)=.ok (d,r++e)
def RV {α:Type} (f:List Tk→PR α) (e:List Tk):Prop:=∀ts d r,f ts=.ok (d,r)→r≠[]→f (ts++e)=.ok (d,r++e)
def xQ {α:Type} (f:List Tk→PR α) (e:List Tk):Prop:=∀ts d r,f ts=.ok (d,r)→f (ts++e)=.ok (d,r++e)
def lH {α:Type} (f:List Tk→PR α):Prop:=∀x,f []≠.ok x
theorem lH.ne {α:Type} {f:List Tk→PR α} (h:lH f) {ts:List Tk} {x:α×List Tk} (hx:f ts=.ok x):ts≠[]:=by
 rintro rfl;exact h x hx
theorem AP {ts e:List Tk} (h:Lk ts e) {s:Bs} (hs:([10]==s)=false):aj s (ts++e)=aj s ts:=by
 rcases h.at with ⟨t,r,rfl⟩ | ⟨rfl,e',rfl⟩
 ·rfl
 ·show ((2:Nat)==2 && (([10]:Bs)==s))=((0:Nat)==2 && _);rw [hs];rfl
theorem k8 {ts e:List Tk} (h:ts≠[]) (s:Bs):aj s (ts++e)=aj s ts:=by
 exact KA
theorem OV {ts e:List Tk} (h:Lk ts e):aJ (ch (ts++e))=aJ (ch ts):=by
 exact FA
theorem ms {ts e:List Tk} (h:Lk ts e) (s:Bs):aF s (ts++e)=aF s ts:=by unfold aF;rw [OV h]
theorem LZ {ts e:List Tk} (h:Lk ts e):((ch (ts++e)).kind==1)=((ch ts).kind==1):=by
 exact FA
theorem CB {ts e:List Tk} (h:Lk ts e):bP (ts++e)=bP ts:=by
 exact FA
theorem vw {ts e:List Tk} (h:Lk ts e):bB (ts++e)=bB ts:=by
 exact FA
theorem AS {ts e:List Tk} (h:Lk ts e):fj (ts++e)=fj ts:=by
 unfold fj;rw [vw h,ms h]
theorem Kn {ts e:List Tk} (h:ts≠[]):ch (ts++e)=ch ts:=by
 exact KA
theorem e8 {ts e:List Tk} (h:ts≠[]):(ts++e).tail=ts.tail++e:=by
 exact KA
theorem ze {s:Bs} {ts:List Tk} (h:aj s ts=true):ts≠[]:=by
 rintro rfl;cases h
theorem Yo {s:Bs} (hs:s≠[]) {ts:List Tk} (h:aF s ts=true):ts≠[]:=by
 rintro rfl;exact hs (nH.1 h).symm
theorem CD {ts:List Tk} (h:bP ts=true):ts≠[]:=by
 rintro rfl;cases h
theorem yG {ts:List Tk} (h:bB ts=true):ts≠[]:=by
 rintro rfl;cases h
theorem FY {ts:List Tk} (h:fj ts=true):ts≠[]:=by
 rintro rfl;cases h
theorem fD {e:List Tk}:∀{ts:List Tk},ai ts≠[]→ai (ts++e)=ai ts++e
 | [],h=>nQ rfl h
 | t::r,h=>by
  rw [nZ];unfold ai at h ⊢;split
  ·next hq=>rw [nE hq] at h;exact fD h
  ·rfl
theorem OP {e:List Tk}:∀{ts:List Tk},ai ts=[]→ai (ts++e)=ai e
 | [],h=>rfl
 | t::r,h=>by
  rw [nZ];unfold ai at h;rw [ai];split
  ·next hq=>rw [nE hq] at h;exact OP h
  ·next hq=>rw [nF hq] at h;cases h
theorem Lc {ts e:List Tk} (h:ts≠[]) (h2:(dm ts).2≠[]):dm (ts++e)=((dm ts).1,(dm ts).2++e):=by
 unfold dm at h2 ⊢;rw [k8 h,k8 h,e8 h];split
 ·next hq=>rw [nE hq] at h2;rw [fD h2]
 ·rfl
section
variable {cmd:List Tk→PR (List Dt)} {scr:Bs→Except Nat Unit} {e:List Tk}
theorem nh {s:Bs} (hs:s≠[]):xQ (cO s) e:=by
 intro ts d r h;unfold cO at h ⊢;split at h
 ·next hq=>
  have hn:=Yo hs hq;cases h;rw [ms (.ne hn),nE hq,e8 hn]
 ·cases h
theorem jr {s:Bs} (hs:s≠[]):lH (cO s):=by
 intro x h;unfold cO at h;rw [nF λ h2=>Yo hs h2 rfl] at h;cases h
theorem wK {s:Bs}:xQ (en s) e:=by
 intro ts d r h;unfold en at h ⊢;split at h
 ·next hq=>
  have hn:=ze hq;cases h;rw [k8 hn,nE hq,e8 hn]
 ·cases h
theorem wJ {s:Bs}:lH (en s):=by
 intro x h;unfold en at h;rw [nF λ h2=>ze h2 rfl] at h;cases h
theorem pP:xQ (ca scr) e:=by
 intro ts d r h;have hn:ts≠[]:=λ h0=>by have:=(mE h).2.1;rw [h0] at this;exact nQ this dC
 unfold ca at h ⊢;rw [Kn hn];split at h
 ·next hq=>
  rw [nE hq];split at h
  ·cases h
  ·next hs=>cases h;rw [e8 hn]
 ·cases h
theorem IX:lH (ca scr):=λ x h=>by cases h
theorem CC {ts:List Tk} (hn:ts≠[]) {d:List Dt} {r:List Tk} (h:dN scr ts=.ok (d,r)):dN scr (ts++e)=.ok (d,r++e):=by
 unfold dN at h ⊢;rw [e8 hn,Kn hn];split at h
 ·cases h
 ·next w r1 hq=>cases h;rw [pP _ _ _ hq]
theorem Ix:∀{n:Nat} {acc:List Dt} {ts:List Tk} {d:List Dt} {r:List Tk},bm scr n acc ts=.ok (d,r)→Lk r e→Lk ts e
 | 0,_,_,_,_,h,_=>by cases h
 | n+1,acc,[],d,r,h,hk=>by cases h;exact hk
 | n+1,acc,t::ts,d,r,h,hk=>.cons
theorem CF:∀{n n':Nat} {acc:List Dt} {ts:List Tk} {d:List Dt} {r:List Tk},n≤n'→bm scr n acc ts=.ok (d,r)→Lk r e→bm scr n' acc (ts++e)=.ok (d,r++e)
 | 0,_,_,_,_,_,_,h,_=>by cases h
 | n+1,0,_,_,_,_,hn,h,_=>oM
 | n+1,n'+1,acc,ts,d,r,hn,h,hk=>by
  have qd:Lk ts e:=Ix h hk;unfold bm at h ⊢;rw [CB qd];split at h
  ·next ho=>
   rw [nE ho];split at h
   ·cases h
   ·next d1 r1 hq=>rw [CC (CD ho) hq];exact CF oM h hk
  ·next ho=>rw [nF ho];cases h;rfl
theorem IG:∀{n:Nat} {ws gz rs:List Dt} {ts:List Tk} {d:List Dt} {r:List Tk},bj scr n ws gz rs ts=.ok (d,r)→Lk r e→Lk ts e
 | 0,_,_,_,_,_,_,h,_=>by cases h
 | n+1,_,_,_,[],d,r,h,hk=>by cases h;exact hk
 | n+1,_,_,_,t::ts,d,r,h,hk=>.cons
theorem pf:∀{n n':Nat} {ws gz rs:List Dt} {ts:List Tk} {d:List Dt} {r:List Tk},n≤n'→bj scr n ws gz rs ts=.ok (d,r)→Lk r e→bj scr n' ws gz rs (ts++e)=.ok (d,r++e)
 | 0,_,_,_,_,_,_,_,_,h,_=>by cases h
 | n+1,0,_,_,_,_,_,_,hn,h,_=>oM
 | n+1,n'+1,ws,gz,rs,ts,d,r,hn,h,hk=>by
  have qd:Lk ts e:=IG h hk;unfold bj at h ⊢;rw [CB qd,LZ qd];split at h
  ·next ho=>
   rw [nE ho];split at h
   ·cases h
   ·next d1 r1 hq=>rw [CC (CD ho) hq];exact pf oM h hk
  ·next ho=>
   rw [nF ho];split at h
   ·next hw=>
    rw [nE hw];split at h
    ·cases h
    ·next w r1 hq=>
     rw [pP _ _ _ hq];dsimp only;split at h
     ·next nm v ha=>(try rw [ha]);exact pf oM h hk
     ·next ha=>(try rw [ha]);exact pf oM h hk
   ·next hw=>rw [nF hw];cases h;rfl
theorem Ba:∀{n:Nat} {acc:List Dt} {ts:List Tk} {d:List Dt} {r:List Tk},bC scr n acc ts=.ok (d,r)→Lk r e→Lk ts e
 | 0,_,_,_,_,h,_=>by cases h
 | n+1,acc,[],d,r,h,hk=>by cases h;exact hk
 | n+1,acc,t::ts,d,r,h,hk=>.cons
theorem um:∀{n n':Nat} {acc:List Dt} {ts:List Tk} {d:List Dt} {r:List Tk},n≤n'→bC scr n acc ts=.ok (d,r)→Lk r e→bC scr n' acc (ts++e)=.ok (d,r++e)
 | 0,_,_,_,_,_,_,h,_=>by cases h
 | n+1,0,_,_,_,_,hn,h,_=>oM
 | n+1,n'+1,acc,ts,d,r,hn,h,hk=>by
  have qd:Lk ts e:=Ba h hk;unfold bC at h ⊢;rw [LZ qd];split at h
  ·next ho=>
   rw [nE ho];split at h
   ·cases h
   ·next d1 r1 hq=>rw [pP _ _ _ hq];exact um oM h hk
  ·next ho=>rw [nF ho];cases h;rfl
theorem Cn:∀{n:Nat} {acc:List Dt} {ts:List Tk} {d:List Dt} {r:List Tk},bT scr n acc ts=.ok (d,r)→Lk r e→Lk ts e
 | 0,_,_,_,_,h,_=>by cases h
 | n+1,acc,[],d,r,h,hk=>by cases h;exact hk
 | n+1,acc,t::ts,d,r,h,hk=>.cons
theorem wQ:∀{n n':Nat} {acc:List Dt} {ts:List Tk} {d:List Dt} {r:List Tk},n≤n'→bT scr n acc ts=.ok (d,r)→Lk r e→bT scr n' acc (ts++e)=.ok (d,r++e)
 | 0,_,_,_,_,_,_,h,_=>by cases h
 | n+1,0,_,_,_,_,hn,h,_=>oM
 | n+1,n'+1,acc,ts,d,r,hn,h,hk=>by
  have qd:Lk ts e:=Cn h hk;unfold bT at h ⊢;rw [AP qd dC];split at h
  ·next ho=>
   rw [nE ho];split at h
   ·cases h
   ·next d1 r1 hq=>rw [e8 (ze ho),pP _ _ _ hq];exact wQ oM h hk
  ·next ho=>rw [nF ho];cases h;rfl
/-! Lists. -/
theorem o7:∀{n:Nat} {acc:List Dt} {ts:List Tk} {d:List Dt} {r:List Tk},cr cmd n acc ts=.ok (d,r)→Lk r e→Lk ts e
 | 0,_,_,_,_,h,_=>by cases h
 | n+1,acc,[],d,r,h,hk=>by cases h;exact hk
 | n+1,acc,t::ts,d,r,h,hk=>.cons
theorem mP:∀{n:Nat} {acc:List Dt} {ts:List Tk} {d:List Dt} {r:List Tk},ck cmd n acc ts=.ok (d,r)→Lk r e→Lk ts e
 | 0,_,_,_,_,h,_=>by cases h
 | n+1,acc,[],d,r,h,hk=>by cases h;exact hk
 | n+1,acc,t::ts,d,r,h,hk=>.cons
variable (hN:lH cmd)
include hN
theorem kG:lH (bh cmd):=by
 intro x h;unfold bh at h;rw [nF (show ¬aF [33] []=true from λ h=>by cases h)] at h;split at h
 ·cases h
 ·next d r hq=>exact hN _ hq
theorem GD:lH (da cmd):=by
 intro x h;unfold da at h;split at h
 ·cases h
 ·next d r hq=>exact kG hN _ hq
theorem NP:lH (mM cmd):=by
 intro x h;unfold mM at h;split at h
 ·cases h
 ·next d r hq=>exact GD hN _ hq
theorem OR {ts:List Tk} {x:List Dt×List Tk} (h:bz cmd ts=.ok x):ai ts≠[]:=by
 intro h0;unfold bz at h;rw [h0] at h;split at h
 ·cases h
 ·next d r hq=>exact NP hN _ hq
omit hN in
theorem rE:lH (cL cmd):=by
 intro x h;unfold cL at h;split at h
 ·cases h
 ·next d r hq=>exact jr dC _ hq
variable (hS:Nq cmd e)
include hS
theorem wR:∀{n n':Nat} {acc:List Dt} {ts:List Tk} {d:List Dt} {r:List Tk},n≤n'→cr cmd n acc ts=.ok (d,r)→Lk r e→cr cmd n' acc (ts++e)=.ok (d,r++e)
 | 0,_,_,_,_,_,_,h,_=>by cases h
 | n+1,0,_,_,_,_,hn,h,_=>oM
 | n+1,n'+1,acc,ts,d,r,hn,h,hk=>by
  have qd:Lk ts e:=o7 h hk;unfold cr at h ⊢;rw [AP qd dC];split at h
  ·next ho=>
   rw [nE ho];split at h
   ·cases h
   ·next d1 r1 hq=>
    rw [e8 (ze ho),fD (hN.ne hq),hS _ _ _ hq (o7 h hk)];exact wR oM h hk
  ·next ho=>rw [nF ho];cases h;rfl
theorem qM:Nq (bh cmd) e:=by
 intro ts d r h hk;have hn:=(kG hN).ne h;unfold bh at h ⊢;rw [ms (.ne hn)];split at h
 ·cases h
 ·next d1 r1 hq=>
  have Os:Lk r1 e:=by
   split at h
   ·cases h
   ·next l r2 hl=>
    have:r2=r:=by split at h<;>(cases h;rfl)
    rw [this] at hl;exact o7 hl hk
  have h1:cmd (if aF [33] ts=true then (ts++e).tail else ts++e)=.ok (d1,r1++e):=by
   have:=hS _ _ _ hq Os;rw [←this];split
   ·rw [e8 hn]
   ·rfl
  rw [h1];dsimp only;split at h
  ·cases h
  ·next l r2 hl=>
   have h2:r2=r:=by split at h<;>(cases h;rfl)
   rw [wR hN hS (n':=(r1++e).length+1) sI hl (by rw [h2];exact hk)];dsimp only;split at h
   ·next hc=>rw [nE hc];cases h;rfl
   ·next hc=>rw [nF hc];cases h;rfl
theorem sN:∀{n n':Nat} {acc:List Dt} {ts:List Tk} {d:List Dt} {r:List Tk},n≤n'→ck cmd n acc ts=.ok (d,r)→Lk r e→ck cmd n' acc (ts++e)=.ok (d,r++e)
 | 0,_,_,_,_,_,_,h,_=>by cases h
 | n+1,0,_,_,_,_,hn,h,_=>oM
 | n+1,n'+1,acc,ts,d,r,hn,h,hk=>by
  have qd:Lk ts e:=mP h hk;unfold ck at h ⊢;rw [AP qd dC,AP qd dC];split at h
  ·next ho=>
   rw [nE ho];split at h
   ·cases h
   ·next d1 r1 hq=>
    rw [e8 (ze ho),fD ((kG hN).ne hq),qM hN hS _ _ _ hq (mP h hk)];exact sN oM h hk
  ·next ho=>
   rw [nF ho];split at h
   ·next tS=>
    rw [nE tS];split at h
    ·cases h
    ·next d1 r1 hq=>
     rw [e8 (ze tS),fD ((kG hN).ne hq),qM hN hS _ _ _ hq (mP h hk)];exact sN oM h hk
   ·next tS=>rw [nF tS];cases h;rfl
theorem Fk:Nq (da cmd) e:=by
 intro ts d r h hk;unfold da at h ⊢;split at h
 ·cases h
 ·next d1 r1 hq=>
  rw [qM hN hS _ _ _ hq (mP h hk)];exact sN hN hS sI h hk
omit hN hS in
theorem qr {n:Nat} {acc:List Dt} {ts:List Tk} {d:List Dt} {r:List Tk} (h:cW cmd n acc ts=.ok (d,r)) (hr:r≠[]):ts≠[]:=by
 rintro rfl;cases n with
 | zero=>cases h
 | succ n=>cases h;exact hr rfl
theorem yB:∀{n n':Nat} {acc:List Dt} {ts:List Tk} {d:List Dt} {r:List Tk},n≤n'→cW cmd n acc ts=.ok (d,r)→r≠[]→cW cmd n' acc (ts++e)=.ok (d,r++e)
 | 0,_,_,_,_,_,_,h,_=>by cases h
 | n+1,0,_,_,_,_,hn,h,_=>oM
 | n+1,n'+1,acc,ts,d,r,hn,h,hk=>by
  have qd:=qr h hk;unfold cW at h ⊢;split at h
  ·next ho=>
   have hm:fj (dm ts).2=true:=by rw [nW] at ho;exact ho.2
   have Xr:=FY hm;rw [Lc qd Xr];dsimp only;rw [AS (.ne Xr),nE ho];split at h
   ·cases h
   ·next d1 r1 hq=>
    rw [Fk hN hS _ _ _ hq (.ne (qr h hk))];exact yB oM h hk
  ·next ho=>
   have hr:(dm ts).2=r:=by cases h;rfl
   have Xr:(dm ts).2≠[]:=by rw [hr];exact hk
   rw [Lc qd Xr];dsimp only;rw [AS (.ne Xr),nF ho];cases h;rfl
theorem VU:RV (mM cmd) e:=by
 intro ts d r h hk;unfold mM at h ⊢;split at h
 ·cases h
 ·next d1 r1 hq=>
  rw [Fk hN hS _ _ _ hq (.ne (qr h hk))];exact yB hN hS sI h hk
theorem sX:RV (bz cmd) e:=by
 intro ts d r h hk;have hn:=OR hN h;unfold bz at h ⊢;rw [fD hn];split at h
 ·cases h
 ·next d1 r1 hq=>
  have:r1=r:=by cases h;rfl
  rw [VU hN hS _ _ _ hq (by rw [this];exact hk)];cases h;rfl
theorem DB:xQ (cL cmd) e:=by
 intro ts d r h;unfold cL at h ⊢;split at h
 ·cases h
 ·next u r1 hq=>
  rw [nh dC _ _ _ hq];dsimp only;split at h
  ·cases h
  ·next d2 r2 dy=>
   split at h
   ·cases h
   ·next u3 r3 rn=>
    rw [sX hN hS _ _ _ dy ((jr dC).ne rn)];dsimp only;rw [nh dC _ _ _ rn];cases h;rfl
theorem Gk (kind:Nat):xQ (dE cmd kind) e:=by
 intro ts d r h;unfold dE at h ⊢;split at h
 ·cases h
 ·next d1 r1 hq=>
  split at h
  ·cases h
  ·next d2 r2 dy=>
   rw [sX hN hS _ _ _ hq ((rE).ne dy)];dsimp only;rw [DB hN hS _ _ _ dy];cases h;rfl
theorem rJ:∀{n n':Nat} {acc:List Dt} {ts:List Tk} {d:List Dt} {r:List Tk},n≤n'→bD cmd n acc ts=.ok (d,r)→r≠[]→bD cmd n' acc (ts++e)=.ok (d,r++e)
 | 0,_,_,_,_,_,_,h,_=>by cases h
 | n+1,0,_,_,_,_,hn,h,_=>oM
 | n+1,n'+1,acc,ts,d,r,hn,h,hk=>by
  unfold bD at h ⊢;split at h
  ·cases h
  ·next d1 r1 hq=>
   split at h
   ·cases h
   ·next u r2 dy=>
    rw [sX hN hS _ _ _ hq ((jr dC).ne dy)];dsimp only;rw [nh dC _ _ _ dy];dsimp only;split at h
    ·cases h
    ·next d3 r3 rn=>
     have hr3:r3≠[]:=by
      rintro rfl;rw [nF (show ¬aF [101,108,105,102] []=true from λ h=>by cases h),nF (show ¬aF [101,108,115,101] []=true from λ h=>by cases h)] at h;cases h;exact hk rfl
     rw [sX hN hS _ _ _ rn hr3];dsimp only;rw [ms (.ne hr3),ms (.ne hr3),e8 hr3];split at h
     ·next ho=>rw [nE ho];exact rJ oM h hk
     ·next ho=>
      rw [nF ho];split at h
      ·next tS=>
       rw [nE tS];split at h
       ·cases h
       ·next d4 r4 Oy=>
        exact Qx
      ·next tS=>rw [nF tS];cases h;rfl
theorem K1:xQ (dx cmd) e:=by
 intro ts d r h;unfold dx at h ⊢;split at h
 ·cases h
 ·next d1 r1 hq=>
  split at h
  ·cases h
  ·next u r2 dy=>
   rw [rJ hN hS (n':=(ts++e).length+1) sI hq ((jr dC).ne dy)];dsimp only;rw [nh dC _ _ _ dy];cases h;rfl
theorem Td:xQ (fh cmd scr) e:=by
 intro ts d r h;unfold fh at h ⊢;split at h
 ·next ho=>
  have hn:ts≠[]:=by rintro rfl;cases ho
  rw [Kn hn,nE ho,e8 hn];have hl:ai ts.tail≠[]:=by
   intro h0;rw [h0,nF (show ¬aF [105,110] []=true from λ h=>by cases h),nF (show ¬aj [59] []=true from λ h=>by cases h)] at h;split at h
   ·cases h
   ·next b r2 hq=>exact rE _ hq
  rw [fD hl,ms (.ne hl)];split at h
  ·next mY=>
   rw [nE mY,e8 hl];split at h
   ·cases h
   ·next ws r1 hq=>
    split at h
    ·next hb=>
     have pC:r1≠[]:=by rintro rfl;cases hb
     rw [um (n':=((ai ts.tail).tail++e).length+1) sI hq (.ne pC)];dsimp only;rw [k8 pC,k8 pC,nE hb,e8 pC];split at h
     ·cases h
     ·next b r2 dy=>
      rw [fD ((rE).ne dy),DB hN hS _ _ _ dy];cases h;rfl
    ·cases h
  ·next mY=>
   rw [nF mY,k8 hl];split at h
   ·cases h
   ·next b r2 dy=>
    have h9:(if aj [59] (ai ts.tail)=true then (ai ts.tail++e).tail else ai ts.tail++e)=(if aj [59] (ai ts.tail)=true then (ai ts.tail).tail else ai ts.tail)++e:=by
     split
     ·rw [e8 hl]
     ·rfl
    rw [h9,fD ((rE).ne dy),DB hN hS _ _ _ dy];cases h;rfl
 ·cases h
omit hN hS in
theorem Fo:lH (lu cmd scr):=by
 intro x h;unfold lu at h;rw [nF (show ¬aj [40] []=true from λ h=>by cases h)] at h;split at h
 ·cases h
 ·next w r hq=>exact IX _ hq
theorem VV:RV (lu cmd scr) e:=by
 intro ts d r h hk;have hn:=Fo.ne h;unfold lu at h ⊢;rw [k8 hn];have h9:(if aj [40] ts=true then (ts++e).tail else ts++e)=(if aj [40] ts=true then ts.tail else ts)++e:=by
  split
  ·rw [e8 hn]
  ·rfl
 rw [h9];split at h
 ·cases h
 ·next w r1 hq=>
  rw [pP _ _ _ hq];dsimp only;split at h
  ·cases h
  ·next ps r2 dy=>
   split at h
   ·cases h
   ·next u r3 rn=>
    rw [wQ (n':=(r1++e).length+1) sI dy (.ne (wJ.ne rn))];dsimp only;rw [wK _ _ _ rn];dsimp only;split at h
    ·next hm=>
     have hl:=FY hm;rw [fD hl,AS (.ne hl),nE hm];split at h
     ·cases h
     ·next b r4 Oy=>
      exact Qx
    ·next hm=>
     have hr:ai r3=r:=by cases h;rfl
     have hl:ai r3≠[]:=by rw [hr];exact hk
     rw [fD hl,AS (.ne hl),nF hm];cases h;rfl
omit hN hS in
theorem vr (n:Nat) (acc:List Dt):lH (bF cmd scr n acc):=by
 intro x h;cases n with
 | zero=>cases h
 | succ n=>
  unfold bF at h;rw [nF (show ¬aF [101,115,97,99] []=true from λ h=>by cases h)] at h;split at h
  ·cases h
  ·next a r hq=>exact Fo _ hq
theorem Km:∀{n n':Nat} {acc:List Dt} {ts:List Tk} {d:List Dt} {r:List Tk},n≤n'→bF cmd scr n acc ts=.ok (d,r)→bF cmd scr n' acc (ts++e)=.ok (d,r++e)
 | 0,_,_,_,_,_,_,h=>by cases h
 | n+1,0,_,_,_,_,hn,h=>oM
 | n+1,n'+1,acc,ts,d,r,hn,h=>by
  have qd:=(vr _ _).ne h;unfold bF at h ⊢;rw [ms (.ne qd)];split at h
  ·next ho=>rw [nE ho];cases h;rw [e8 qd]
  ·next ho=>
   rw [nF ho];split at h
   ·cases h
   ·next a r1 hq=>
    have pC:r1≠[]:=by
     rintro rfl;rw [nF (show ¬aj [59,59] []=true from λ h=>by cases h)] at h;split at h
     ·cases h
     ·next u r2 dy=>exact jr dC _ dy
    rw [VV hN hS _ _ _ hq pC];dsimp only;rw [k8 pC];split at h
    ·next hb=>rw [nE hb,e8 pC,fD ((vr _ _).ne h)];exact Km oM h
    ·next hb=>
     rw [nF hb];split at h
     ·cases h
     ·next u r2 dy=>rw [nh dC _ _ _ dy];cases h;rfl
theorem N8:xQ (eA cmd scr) e:=by
 intro ts d r h;unfold eA at h ⊢;split at h
 ·cases h
 ·next w r1 hq=>
  rw [pP _ _ _ hq];dsimp only;split at h
  ·cases h
  ·next u r2 dy=>
   have hl:=(jr (s:=[105,110]) dC).ne dy;rw [fD hl,nh dC _ _ _ dy];dsimp only;split at h
   ·cases h
   ·next l r3 rn=>
    have hl2:=(vr _ _).ne rn;rw [fD hl2,Km hN hS (n':=(ai r2++e).length+1) sI rn];cases h;rfl
omit hN in
theorem D0 (name:Bs) {ts:List Tk} (hn2:ts.tail≠[]) {d:List Dt} {r:List Tk} (h:cy cmd name ts=.ok (d,r)) (hk:Lk r e):cy cmd name (ts++e)=.ok (d,r++e):=by
 have hn:ts≠[]:=by rintro rfl;exact hn2 rfl
 unfold cy at h ⊢;rw [e8 hn,e8 hn2];split at h
 ·cases h
 ·next u r1 hq=>
  rw [wK _ _ _ hq];dsimp only;split at h
  ·next hb=>
   have hl:ai r1≠[]:=yG (by rw [nW] at hb;exact hb.1);rw [fD hl,vw (.ne hl),k8 hl,Kn hl,nE hb];split at h
   ·cases h
   ·next d1 r2 dy=>
    have:r2=r:=by cases h;rfl
    rw [hS _ _ _ dy (by rw [this];exact hk)];cases h;rfl
  ·cases h
theorem MF (kind:Nat) {gZ:List Tk→PR Unit} (hc:xQ gZ e) (hcn:lH gZ):xQ (fu cmd kind gZ) e:=by
 intro ts d r h;unfold fu at h ⊢;split at h
 ·cases h
 ·next d1 r1 hq=>
  split at h
  ·cases h
  ·next u r2 dy=>
   rw [sX hN hS _ _ _ hq (hcn.ne dy)];dsimp only;rw [hc _ _ _ dy];cases h;rfl
omit hN hS in
theorem qW {q q':PR (List Dt)} (hq:∀d r,q=.ok (d,r)→q'=.ok (d,r++e)) {d:List Dt} {r:List Tk} (h:aM scr q=.ok (d,r)) (hk:Lk r e):aM scr q'=.ok (d,r++e):=by
 unfold aM at h ⊢;cases q with
 | error x=>cases h
 | ok z=>
  obtain⟨d1,r1⟩:=z;rw [hq d1 r1 rfl];dsimp only at h ⊢;split at h
  ·cases h
  ·next rs r2 dy=>
   have:r2=r:=by cases h;rfl
   rw [CF (n':=(r1++e).length+1) sI dy (by rw [this];exact hk)];cases h;rfl
theorem OM {ts:List Tk} (hn:ts≠[]) {d:List Dt} {r:List Tk} (h:gV cmd scr ts=.ok (d,r)) (hk:Lk r e):gV cmd scr (ts++e)=.ok (d,r++e):=by
 have hT:=e8 (e:=e) hn;unfold gV at h ⊢;unfold cw at h ⊢;rw [k8 hn,ms (.ne hn),ms (.ne hn),ms (.ne hn),ms (.ne hn),ms (.ne hn),ms (.ne hn),Kn hn,hT];by_cases c1:aj [40] ts=true
 ·rw [nE c1] at h ⊢;exact qW (MF hN hS 13 wK wJ _) h hk
 rw [nF c1] at h ⊢;by_cases c2:aF [123] ts=true
 ·rw [nE c2] at h ⊢;exact qW (MF hN hS 12 (nh dC) (jr dC) _) h hk
 rw [nF c2] at h ⊢;by_cases c3:aF [105,102] ts=true
 ·rw [nE c3] at h ⊢;exact qW (K1 hN hS _) h hk
 rw [nF c3] at h ⊢;by_cases c4:aF [119,104,105,108,101] ts=true
 ·rw [nE c4] at h ⊢;exact qW (Gk hN hS 7 _) h hk
 rw [nF c4] at h ⊢;by_cases c5:aF [117,110,116,105,108] ts=true
 ·rw [nE c5] at h ⊢;exact qW (Gk hN hS 8 _) h hk
 rw [nF c5] at h ⊢;by_cases c6:aF [102,111,114] ts=true
 ·rw [nE c6] at h ⊢;exact qW (Td hN hS _) h hk
 rw [nF c6] at h ⊢;by_cases c7:aF [99,97,115,101] ts=true
 ·rw [nE c7] at h ⊢;exact qW (N8 hN hS _) h hk
 rw [nF c7] at h ⊢;by_cases yW:bK (aJ (ch ts))=true
 ·have ho:fF (ts++e)=fF ts:=by
   unfold fF;rw [hT];by_cases ht:ts.tail=[]
   ·rcases hk with hk | ⟨e',rfl⟩
    ·exfalso;have tK:fF ts=false:=by unfold fF;rw [ht];rfl
     rw [nF (by rw [tK];simp)] at h;dsimp only at h;have h1:((ch ts).kind==1)=true:=by
      by_cases bp:((ch ts).kind==1)=true
      ·exact bp
      ·have hp:aJ (ch ts)=[]:=by unfold aJ;rw [nF bp]
       rw [hp] at yW;cases yW
     have h2:bP ts=false:=by
      unfold bP;rw [show ((ch ts).kind==2)=false from by rw [nH.1 h1];rfl];rfl
     unfold bj at h;rw [nF (by rw [h2];simp),nE h1] at h;have gC:∀n ws gz rs w r1,ca scr ts=.ok (w,r1)→bj scr n ws gz rs r1=.ok (d,r)→False:=λ n ws gz rs w r1 hw hs=>by
      have hl:=qQ _ _ _ _ _ _ _ hs;rw [(mE hw).1,ht] at hl;exact hk (nO (Nat.le_zero.1 hl))
     split at h
     ·cases h
     ·next w r1 hw=>
      split at h
      ·exact gC _ _ _ _ _ _ hw h
      ·exact gC _ _ _ _ _ _ hw h
    ·rw [ht];rfl
   ·rw [k8 ht]
  rw [ho];by_cases c8:(bK (aJ (ch ts)) && fF ts)=true
  ·rw [nE c8] at h ⊢;have ht:ts.tail≠[]:=by
    intro h0;rw [nW] at c8;have:=c8.2;unfold fF at this;rw [h0] at this;cases this
   exact D0 hS _ ht h hk
  ·rw [nF c8] at h ⊢;exact pf sI h hk
 ·have c8:∀b,¬(bK (aJ (ch ts)) && b)=true:=λ b hb=>by rw [nW] at hb;exact yW hb.1
  rw [nF (c8 _)] at h ⊢;exact pf sI h hk
end
theorem BO:∀K,lH (ab K)
 | 0,x,h=>by cases h
 | K+1,x,h=>by cases h
theorem GV (e:List Tk):∀K,Nq (ab K) e
 | 0,ts,d,r,h,_=>by
  exact KH
 | K+1,ts,d,r,h,hk=>by
  unfold ab at h ⊢;split at h
  ·next hb=>
   have hn:=yG hb;rw [vw (.ne hn),nE hb];exact OM (BO K) (GV e K) hn h hk
  ·cases h
end Go.Proofs.YtiihpbccabeoeaaGreatDoor
