/- The walk: a part. -/
import Derived.Test.YtiihpbccabeoeaaGreatDoorVPxR
import Derived.Test.YtiihpbccabeoeaaGreatDoorVM
namespace Go.Proofs.YtiihpbccabeoeaaGreatDoor
open Go.RowKit
set_option linter.unusedVariables false
set_option maxRecDepth 100000
set_option maxHeartbeats 16000000
theorem E9 {s:Bs} (hs:kA.contains s=true) (ts:List Tk) (h:aF s ts=true):dk ts=true:=by
 unfold aF at h;unfold dk;rw [nH.1 h,hs,Bool.or_true]
theorem yt {s:Bs} (hs:s≠[]) (ts:List Tk) (h:aj [40] ts=true):aF s ts=false:=by
 unfold aF;rw [Cl h,nA];exact λ e=>hs e.symm
theorem ab3 (ts:List Tk) (h:aj [41] ts=true):dk ts=true:=by
 unfold dk;rw [h,Bool.or_true,Bool.true_or,Bool.true_or]
theorem ab4 (ts:List Tk) (h:aj [40] ts=true):aj [41] ts=false:=lQ h [41] dC
theorem mq {P:List Tk→Bool} (hP1:∀ts,P ts=true→dk ts=true) (Y1:∀ts,aj [40] ts=true→P ts=false) {w:World} {D:Nat→Prop} {T:List Tk} {res:PR (List Dt)} {us:List Value} {j x x3:Nat} (h:QF true w D T res us j x) (h3:x3=if x=0 then (if P (T.drop j) then 0 else 2) else x) :
 (∃ds,x=0∧P (T.drop j)=true∧x3=0∧jA ds∧bV w D ds us∧j≤T.length∧res=.ok (ds,T.drop j))∨
 (x3≠0∧∀{β:Type} (f:PR (List Dt)→PR β),(∀e,f (.error e)=.error e)→(∀ds r,P r=false→f (.ok (ds,r))=.error 2)→f res=.error x3):=by
 have gC:∀{β:Type} (f:PR (List Dt)→PR β),(∀ds r,P r=false→f (.ok (ds,r))=.error 2)→true=true→∀ds r,dk r=false→f (.ok (ds,r))=.error 2:=λ f hc _ ds r hr=>hc ds r (by
  cases hp:P r with
  | false=>rfl
  | true=>rw [hP1 r hp] at hr;cases hr)
 by_cases hx:x=0
 ·subst hx;rw [nE rfl] at h3;cases hp:P (T.drop j) with
  | true=>
   rw [hp,nE rfl] at h3;cases res with
   | error y=>
    rcases h with ⟨h1,h2⟩ | ⟨_,_,ho⟩
    ·exact nQ h1.symm h2
    ·rw [Y1 _ ho] at hp;cases hp
   | ok p=>
    obtain⟨ds,r⟩:=p;rcases h with ⟨_,hn,hr,hd,hj⟩ | ⟨_,hr,h9 | ⟨_,ho⟩⟩
    ·exact .inl ⟨ds,rfl,rfl,h3,hn,hr,hj,by rw [hd]⟩
    ·cases h9
    ·rw [Y1 _ ho] at hp;cases hp
  | false=>
   rw [hp,nF sI] at h3;refine .inr ⟨oM,λ f he hc=>?_⟩;rcases h.split f he (gC f hc) with ⟨ds,r,hr,_,_,_,hj,_⟩ | ⟨h9,_⟩ | ⟨_,_,hr⟩
   ·rw [hr,h3,hc ds r (by rw [←hj];exact hp)]
   ·exact nQ rfl h9
   ·rw [hr,h3]
 ·rw [nF hx] at h3;subst h3;refine .inr ⟨hx,λ f he hc=>?_⟩;rcases h.split f he (gC f hc) with ⟨ds,r,hr,h0,_⟩ | ⟨_,hr⟩ | ⟨h0,_⟩
  ·exact nQ h0 hx
  ·exact hr
  ·exact nQ h0 hx
theorem GU {P:List Tk→Bool} (hP1:∀ts,P ts=true→dk ts=true) (Y1:∀ts,aj [40] ts=true→P ts=false) (hP3:∀ts,P ts=true→1≤ts.length) {w w2:World} {D D2:Nat→Prop} {T:List Tk} {T5 res:PR (List Dt)} {us us2:List Value} {j x x3:Nat} (h:QF true w D T T5 us j x) (h3:x3=if x=0 then (if P (T.drop j) then 0 else 2) else x)
 (f:PR (List Dt)→PR (List Dt)) (g:List Dt→List Dt) (ag:res=f T5) (he:∀e,f (.error e)=.error e) (hc:∀ds r,P r=false→f (.ok (ds,r))=.error 2) (hg:∀ds r,P r=true→f (.ok (ds,r))=.ok (g ds,r.tail)) (hr:∀ds,jA ds→bV w D ds us→jA (g ds)∧bV w2 D2 (g ds) us2):QF false w2 D2 T res us2 (j+1) x3:=by
 rcases mq hP1 Y1 h h3 with ⟨ds,hx,hp,h0,hn,hd,hj,bM⟩ | ⟨hx,hf⟩
 ·have:=bL (hP3 _ hp);refine QF.good (ds:=g ds) (r:=T.drop (j+1)) ?_ h0 (hr ds hn hd).1 (hr ds hn hd).2 rfl oM;rw [ag,bM,hg ds _ hp,aG]
 ·exact QF.err hx (by rw [ag,hf f he hc])
theorem lh {s:Bs} {r:List Tk} (h:aF s r=false):cO s r=.error 2:=by unfold cO;rw [h];rfl
theorem kL {s:Bs} {r:List Tk} (h:aF s r=true):cO s r=.ok ((),r.tail):=by unfold cO;rw [h];rfl
theorem sY {s:Bs} {r:List Tk} (h:aj s r=false):en s r=.error 2:=by unfold en;rw [h];rfl
theorem qL {s:Bs} {r:List Tk} (h:aj s r=true):en s r=.ok ((),r.tail):=by unfold en;rw [h];rfl
def BG (p:PR (List Dt)):PR (List Dt):=match p with
 | .error e=>.error e
 | .ok (d,r2)=>match cO [100,111,110,101] r2 with
  | .error e=>.error e
  | .ok (_,r3)=>.ok (d,r3)
theorem NS (K:Nat) (ts:List Tk):cL (ab K) ts=if aF [100,111] ts then BG (bz (ab K) ts.tail) else .error 2:=by
 unfold cL cO;cases aF [100,111] ts with
 | false=>rfl
 | true=>
  rw [nE rfl,nE rfl];dsimp only;unfold BG;cases bz (ab K) ts.tail with
  | error e=>rfl
  | ok p=>rfl
theorem Iq (w:World) (Lo B ps n i x aN:Nat) (tv:Value) (T:List Tk) (h:QS w Lo B ps tv n T i x) (hx:x≠0) :
 Calls Tryz.prog 63 #[.pointer (some ⟨ps,0,none⟩),.int .i64 (aN:Nat)] w λ e w'=>∃j,e=.returned (.agg #[.int .i64 5,false,eS,(),(),(),(),()])∧i≤j∧(i≤T.length→j≤T.length)∧(T.length≤i→j=i)∧QS w' Lo B ps tv n T j x∧ae (λ b=>b=ps) w w':=by
 have bA:=Hd h.lt;have HS:=Lib.hid h;have ct:=Hd hx;clear h hx;go_enter Tryz.func63,Tryz.ntmps63;go_wp2_with fail;obtain⟨W,hW⟩:∃W,W=w.alloc (.cells #[.int .i64 0,false,eS,(),(),(),(),()] 44):=⟨_,rfl⟩;have dt:K0 w W:=by rw [hW];exact (ae.refl _ _).alloc _
 have HZ:=Hd (show af W w.heap.size [.int .i64 0,false,eS,(),(),(),(),()] by rw [hW];exact aD w _ _ _ _ _ _ _ _ _);rw [←hW];have mF:=Hd dt;replace HS:=Hd (HS.o.keep0 dt);clear dt hW;refine (de W Lo B ps n i x tv T HS.o).mono ?_;rintro e w1 ⟨rfl,j0,ku,hj2,ow,kB,dR,be⟩;have dp:=Hd ((mF.o.mono (λ_ _ h=>h.elim)).trans be k3)
 have dF:=Hd dR;replace HZ:=Hd (HZ.o.keep be (λ e=>by have:=bA.o;omega));have t:((x:Int)==0)=false:=by have:=ct.o;rw [nA];omega
 clear dR be kB HS mF;obtain⟨c0,c1,c2,f1,f2⟩:=dF.o.cells;have aW:=dF.o.lt;go_wp2_with fail;go_loopg [5] 0 (λ g l' wr=>g=0∧l'=.slice none 0 0∧wr=w1)
 case atStart=>exact⟨rfl,rfl,rfl⟩
 case round=>
  obtain⟨_,rfl,rfl⟩:=hrel;obtain⟨⟨z0,z1,z2,z3,z4,z5,z6,z7⟩,⟨gO,gP,ib,ic,ie,ig,ii,ij⟩⟩:=HZ.o.eight;have fT:=HZ.o.lt;go_wp2_with fail;refine nJ (v:=.agg #[.int .i64 5,false,eS,(),(),(),(),()]) (by simp [results,Tryz.results63,go_sem,z0,z1,z2,z3,z4,z5,z6,z7]) rfl ?_;have h4:=(ap wr w.heap.size (.int .i64 5) (.bool false) (.string ⟨#[]⟩) (.slice none 0 0) (.slice none 0 0) (.slice none 0 0) (.slice none 0 0) (.slice none 0 0))
  have hB:=dF.o.ps;exact⟨j0,rfl,ku,hj2,ow,dF.o.keep h4 (λ b hb e=>by have:=bA.o;omega) (λ e=>by have:=bA.o;omega),dp.o.fresh h4 (λ b e=>oM)⟩
theorem Im (w:World) (Lo B ps n i x aN:Nat) (tv:Value) (T:List Tk) (h:QS w Lo B ps tv n T i x) (hx:x≠0) (hi:i+1≤T.length+1000) :
 Calls Tryz.prog 184 #[.pointer (some ⟨ps,0,none⟩),.int .i64 (aN:Nat)] w λ e w'=>e=.returned (.agg #[.int .i64 0,false,eS,(),(),(),(),()])∧QS w' Lo B ps tv n T (i+1) x∧ae (λ b=>b=ps) w w':=by
 have bA:=Hd h.lt;have HS:=Lib.hid h;have ct:=Hd hx;clear h hx;go_enter Tryz.func184,Tryz.ntmps184;go_wp2_with fail;obtain⟨W,hW⟩:∃W,W=w.alloc (.cells #[.int .i64 0,false,eS,(),(),(),(),()] 44):=⟨_,rfl⟩;have dt:K0 w W:=by rw [hW];exact (ae.refl _ _).alloc _
 have HZ:=Hd (show af W w.heap.size [.int .i64 0,false,eS,(),(),(),(),()] by rw [hW];exact aD w _ _ _ _ _ _ _ _ _);rw [←hW];have mF:=Hd dt;replace HS:=Hd (HS.o.keep0 dt);clear dt hW;refine (eL W Lo B ps n i x tv T [100,111] HS.o hi).mono ?_;rintro e w1 ⟨rfl,dL,bt⟩;rw [nF ct.o] at dL;have dp:=Hd ((mF.o.mono (λ_ _ h=>h.elim)).trans bt k3)
 have dF:=Hd dL;replace HZ:=Hd (HZ.o.keep bt (λ e=>by have:=bA.o;omega));have t:((x:Int) != 0)=true:=by have:=ct.o;rw [bne_iff_ne];omega
 clear dL bt HS mF;obtain⟨c0,c1,c2,f1,f2⟩:=dF.o.cells;have aW:=dF.o.lt;obtain⟨⟨z0,z1,z2,z3,z4,z5,z6,z7⟩,⟨gO,gP,ib,ic,ie,ig,ii,ij⟩⟩:=HZ.o.eight;have fT:=HZ.o.lt;go_wp2_with fail;refine nJ (v:=.agg #[.int .i64 0,false,eS,(),(),(),(),()]) (by simp [results,Tryz.results184,go_sem,z0,z1,z2,z3,z4,z5,z6,z7]) rfl ?_
 have h4:=(ap w1 w.heap.size (.int .i64 0) (.bool false) (.string ⟨#[]⟩) (.slice none 0 0) (.slice none 0 0) (.slice none 0 0) (.slice none 0 0) (.slice none 0 0));have hB:=dF.o.ps;exact⟨rfl,dF.o.keep h4 (λ b hb e=>by have:=bA.o;omega) (λ e=>by have:=bA.o;omega),dp.o.fresh h4 (λ b e=>oM)⟩
theorem Il (K:Nat) (bw:ez K) (w:World) (Lo B ps n i aN:Nat) (tv:Value) (T:List Tk) (h:QS w Lo B ps tv n T i 0) (hi:i≤T.length) (hd:aN+1+K=41) :
 Calls Tryz.prog 184 #[.pointer (some ⟨ps,0,none⟩),.int .i64 (aN:Nat)] w (iw w Lo B ps tv n T i (2*K+1) false (cL (ab K) (T.drop i))):=by
 obtain⟨res,ag⟩:∃res,res=cL (ab K) (T.drop i):=⟨_,rfl⟩;rw [←ag];rw [NS,aG] at ag;have bA:=Hd h.lt;have HS:=Lib.hid h;have HC:=Hd bw;have ay:=Hd ag;have HD:=Hd hd;have Je:IntKind.i64.wrap ((aN:Int)+1)=(aN:Int)+1:=nL _ oM;have ov:=aT;clear h bw hd ag;go_enter Tryz.func184,Tryz.ntmps184;go_wp2_with fail;obtain⟨W,hW⟩:∃W,W=w.alloc (.cells #[.int .i64 0,false,eS,(),(),(),(),()] 44):=⟨_,rfl⟩
 have dt:K0 w W:=by rw [hW];exact (ae.refl _ _).alloc _
 have HZ:=Hd (show af W w.heap.size [.int .i64 0,false,eS,(),(),(),(),()] by rw [hW];exact aD w _ _ _ _ _ _ _ _ _);rw [←hW];have mF:=Hd dt;replace HS:=Hd (HS.o.keep0 dt);clear dt hW;refine (eL W Lo B ps n i 0 tv T [100,111] HS.o oM).mono ?_;rintro e w1 ⟨rfl,dL,bt⟩;rw [nE rfl] at dL
 have dp:=Hd ((mF.o.mono (λ_ _ h=>h.elim)).trans bt k3);replace HZ:=Hd (HZ.o.keep bt (λ e=>by have:=bA.o;omega));have ag:=ay.o;cases ho:aF [100,111] (T.drop i) with
 | false=>
  rw [ho,nF sI] at dL ag;have dF:=Hd dL;have bO:=Hd ag;clear dL bt HS mF ag ho ay;obtain⟨c0,c1,c2,f1,f2⟩:=dF.o.cells;have aW:=dF.o.lt;obtain⟨⟨z0,z1,z2,z3,z4,z5,z6,z7⟩,⟨gO,gP,ib,ic,ie,ig,ii,ij⟩⟩:=HZ.o.eight;have fT:=HZ.o.lt;go_wp2_with fail;refine nJ (v:=.agg #[.int .i64 0,false,eS,(),(),(),(),()]) (by simp [results,Tryz.results184,go_sem,z0,z1,z2,z3,z4,z5,z6,z7]) rfl ?_
  have hB:=dF.o.ps;obtain⟨f1,f2,f3⟩:=cI dp.o dF.o bA.o (QF.err (cl:=false) (w:=w1) (D:=λ b=>Qd Lo B w.heap.size b∧b≠w.heap.size) (us:=[.int .i64 0,.bool false,.string ⟨#[]⟩,.slice none 0 0,.slice none 0 0,.slice none 0 0,.slice none 0 0,.slice none 0 0]) dC bO.o) (ap w1 w.heap.size (.int .i64 0) (.bool false) (.string ⟨#[]⟩) (.slice none 0 0) (.slice none 0 0) (.slice none 0 0) (.slice none 0 0) (.slice none 0 0))
  exact⟨⟨0,false,⟨#[]⟩,none,0,0,none,0,0,none,0,0,none,0,0,none,0,0⟩,i+1,2,rfl,oM,oM,f1,f2,f3⟩
 | true=>
  rw [ho,nE rfl] at dL ag;have dF:=Hd dL;have bO:=Hd ag;have fa:=bL (cY dC ho);clear dL bt HS mF ag ho ay;obtain⟨c0,c1,c2,f1,f2⟩:=dF.o.cells;have aW:=dF.o.lt;go_wp2_with fail;refine (gN K HC.o w1 Lo B ps n (i+1) (aN+1) tv T dF.o oM (by have:=HD.o;omega)).mono ?_;rintro e w2 ⟨v,j2,bd,rfl,yh,Eb,cj,aS,Jf⟩;go_upto_region 5 with fail
  obtain⟨NB,ke⟩:∃NB,NB=w2.heap.size:=⟨_,rfl⟩;obtain⟨W3,ft⟩:∃W3,W3=w2.alloc (.cells #[v.k,v.nt,v.nm,.slice v.a0 v.n0 v.c0,.slice v.a1 v.n1 v.c1,.slice v.a2 v.n2 v.c2,.slice v.a3 v.n3 v.c3,.slice v.a4 v.n4 v.c4] 44):=⟨_,rfl⟩;rw [←ft]
  try rw [←ke]
  have aV:K0 w2 W3:=by rw [ft];exact (ae.refl _ _).alloc _
  have AD:af W3 NB [v.k,v.nt,v.nm,.slice v.a0 v.n0 v.c0,.slice v.a1 v.n1 v.c1,.slice v.a2 v.n2 v.c2,.slice v.a3 v.n3 v.c3,.slice v.a4 v.n4 v.c4]:=by rw [ft,ke];exact aD _ _ _ _ _ _ _ _ _ _
  have eF:=Hd (cj.keep0 aV);have abU:=cj.lt;have dM:=HZ.o.lt;have AM:=aS.size;have yk:NB≠ps:=oM
  have ZW:=Hd AD;have bZ:=Hd aV;clear ft ke AD aV;go_wp2_with fail;refine (eL W3 Lo B ps n j2 bd tv T [100,111,110,101] eF.o (by have:=HD.o;omega)).mono ?_;rintro e w4 ⟨rfl,dR,be⟩;have aV:=bZ.o;have AD:=ZW.o;obtain⟨bd4,hy4⟩:∃bd4,bd4=if bd=0 then (if aF [100,111,110,101] (T.drop j2) then 0 else 2) else bd:=⟨_,rfl⟩;rw [←hy4] at dR;have bp:=(aS.trans aV (λ_ _ h=>h.elim)).trans be k3
  have iG:=Hd dR;have eU:=Hd (dp.o.trans bp k3);replace HZ:=Hd (HZ.o.keep bp (λ e=>by have:=bA.o;omega));have Yy:=Hd (AD.keep be yk);have hf4:=GU (w2:=w4) (D2:=λ b=>Qd Lo B w.heap.size b∧b≠w.heap.size) (us2:=[.int .i64 v.k,.bool v.nt,.string v.nm,.slice v.a0 v.n0 v.c0,.slice v.a1 v.n1 v.c1,.slice v.a2 v.n2 v.c2,.slice v.a3 v.n3 v.c3,.slice v.a4 v.n4 v.c4]) (E9 (s:=[100,111,110,101]) dC) (yt dC) (λ ts h=>cY dC h) Jf hy4 BG id bO.o (λ e=>rfl) (λ ds r h=>by unfold BG;dsimp only;rw [lh h]) (λ ds r h=>by unfold BG;dsimp only;rw [kL h];rfl)
   (λ ds hn hr=>⟨hn,((hr.keep aV (λ_ _ _ h=>h)).keep be (λ b _ hb e=>jV (X:=w1.heap.size) dR.ps (by have:=bA.o;omega) hb e)).mono (λ b _ hb=>by rcases hb with h | h;exact⟨.inl h,by have:=bA.o;have:=dR.ps;omega⟩;exact⟨.inr oM,oM⟩)⟩)
  have HF4:=Hd hf4;have fv:=Hd (show i≤j2+1∧j2+1≤T.length+(2*K+1) by omega);obtain⟨⟨x0,x1,x2,x3,x4,x5,x6,x7⟩,⟨f8,gf,hC,hU,hV,hY,hZ,ia⟩⟩:=Yy.o.eight;have fR:=Yy.o.lt;clear cj aS Jf aV AD dR be hy4 bp hf4 abU dM AM c0 c1 c2 f1 f2 aW yh Eb;obtain⟨⟨z0,z1,z2,z3,z4,z5,z6,z7⟩,⟨gO,gP,ib,ic,ie,ig,ii,ij⟩⟩:=HZ.o.eight;have fT:=HZ.o.lt;go_wp2_with fail;refine nJ (v:=.agg #[v.k,v.nt,v.nm,.slice v.a0 v.n0 v.c0,.slice v.a1 v.n1 v.c1,.slice v.a2 v.n2 v.c2,.slice v.a3 v.n3 v.c3,.slice v.a4 v.n4 v.c4]) (by simp [results,Tryz.results184,go_sem,z0,z1,z2,z3,z4,z5,z6,z7]) rfl ?_
  obtain⟨f1,f2,f3⟩:=cI eU.o iG.o bA.o HF4.o (ap w4 w.heap.size (.int .i64 v.k) (.bool v.nt) (.string v.nm) (.slice v.a0 v.n0 v.c0) (.slice v.a1 v.n1 v.c1) (.slice v.a2 v.n2 v.c2) (.slice v.a3 v.n3 v.c3) (.slice v.a4 v.n4 v.c4));exact⟨v,j2+1,bd4,rfl,fv.o.1,fv.o.2,f1,f2,f3⟩
def zy (kind:Nat) (gZ:List Tk→PR Unit) (p:PR (List Dt)):PR (List Dt):=match p with
 | .error e=>.error e
 | .ok (d,r)=>match gZ r with
  | .error e=>.error e
  | .ok (_,r2)=>.ok (cE kind false [] [] [] [] d [],r2)
theorem Ge (cmd:List Tk→PR (List Dt)) (kind:Nat) (gZ:List Tk→PR Unit) (ts:List Tk):fu cmd kind gZ ts=zy kind gZ (bz cmd ts):=by
 unfold fu zy;cases bz cmd ts with
 | error e=>rfl
 | ok p=>rfl
theorem CI {kind:Nat} {gZ:List Tk→PR Unit} {ds:List Dt} {r:List Tk} (h:gZ r=.error 2):zy kind gZ (.ok (ds,r))=.error 2:=by
 unfold zy;dsimp only;rw [h]
theorem zz {kind:Nat} {gZ:List Tk→PR Unit} {ds:List Dt} {r:List Tk} (h:gZ r=.ok ((),r.tail)):zy kind gZ (.ok (ds,r))=.ok (cE kind false [] [] [] [] ds [],r.tail):=by
 unfold zy;dsimp only;rw [h]
theorem ip {s:Bs} {ts:List Tk} (h:aF s ts=true) (hs:s≠[]):aj [40] ts=false:=by
 cases ho:aj [40] ts with
 | false=>rfl
 | true=>rw [yt hs ts ho] at h;cases h
def qV (cmd:List Tk→PR (List Dt)) (kind:Nat) (p:PR (List Dt)):PR (List Dt):=match p with
 | .error e=>.error e
 | .ok (d,r)=>match cL cmd r with
  | .error e=>.error e
  | .ok (b,r2)=>.ok (cE kind false [] [] [] [] (d++b) [],r2)
theorem CY (cmd:List Tk→PR (List Dt)) (kind:Nat) (ts:List Tk):dE cmd kind ts=qV cmd kind (bz cmd ts):=by
 unfold dE qV;cases bz cmd ts with
 | error e=>rfl
 | ok p=>rfl
theorem yH {cmd:List Tk→PR (List Dt)} {ts:List Tk} (h:aF [100,111] ts=false):cL cmd ts=.error 2:=by
 unfold cL;rw [lh h]
theorem pF {w w6 w8 wE:World} {Lo B ps:Nat} {tv:Value} {n:Nat} {T:List Tk} {J x kind m:Nat} {res:PR (List Dt)} {vv:List Value} (hk:ae (λ b=>b=ps) w w6) (hs:QS w6 Lo B ps tv n T J x) (hc:ps<w.heap.size) (hw:w.heap.size<w6.heap.size)
 (h8:ae (λ b=>b=w.heap.size) w6 w8) (ek:w8.heap.size=w6.heap.size) (hE:wE=w8.alloc (.cells vv.toArray 44)) (hm:m≤2)
 (hq:(∃ds,res=.ok (cE kind false [] [] [] [] ds [],T.drop J)∧x=0∧J≤T.length∧ds.length=m*8∧bV w6 (λ b=>Qd Lo B w.heap.size b∧b≠w.heap.size) ds vv)∨QF false w6 (λ_=>False) T res [] J x) :
 QS wE Lo B ps tv n T J x∧ae (λ b=>b=ps) w wE∧QF false wE (Qd Lo B w.heap.size) T res (NV.vals ⟨(kind:Nat),false,⟨#[]⟩,none,0,0,none,0,0,none,0,0,some ⟨w6.heap.size,0,none⟩,m,m,none,0,0⟩) J x:=by
 have hB:=hs.ps;have Oq:K0 w8 wE:=by rw [hE];exact (ae.refl _ _).alloc _
 refine⟨(hs.keep h8 (λ b hb e=>oM) (λ e=>oM)).keep0 Oq,(hk.fresh h8 (λ b e=>oM)).trans Oq (λ_ _ e=>e.elim),?_⟩;rcases hq with ⟨ds,hr,hx,hJ,hl,hd⟩ | hq
 ·have h1:=(hd.keep h8 (λ b _ hb e=>hb.2 e)).mono (D':=Qd Lo B w.heap.size) (λ b _ hb=>hb.1);have h2:=fk h1 hl uM hE (.inr oM);rw [ek] at h2;exact QF.good hr hx ⟨_,_,_,_,_,_,_,_,rfl⟩ ⟨.int _,.bool _,.str _,.nil _ _ _ (nB _),.nil _ _ _ (nB _),.nil _ _ _ (nB _),h2,.nil _ _ _ (nB _),trivial⟩ rfl hJ
 ·cases res with
  | error y=>exact hq
  | ok p=>
   obtain⟨ds,r⟩:=p;rcases hq with ⟨_,hn,hr,_,_⟩ | ⟨h,_⟩
   ·have:=hr.len;rw [hn.len] at this;cases this
   ·cases h
theorem F4 {w w1 w2 w3:World} {Lo B ps:Nat} {tv:Value} {n:Nat} {T:List Tk} {J x:Nat} {res:PR (List Dt)} {us:List Value} (bt:ae (λ b=>b=ps) w w1) (hw:w.heap.size<w1.heap.size) (aS:ae (λ b=>b=ps) w1 w2) (hs:QS w2 Lo B ps tv n T J x) (hc:ps<w.heap.size)
 (hf:QF false w2 (Qd Lo B w1.heap.size) T res us J x) (h8:ae (λ b=>b=w.heap.size) w2 w3):QS w3 Lo B ps tv n T J x∧ae (λ b=>b=ps) w w3∧QF false w3 (Qd Lo B w.heap.size) T res us J x:=by
 refine cI (bt.trans aS k3) hs hc ?_ h8;cases res with
 | error y=>exact hf
 | ok p=>
  obtain⟨ds,r⟩:=p;rcases hf with ⟨h0,h1,h2,h3,h5⟩ | h
  ·exact .inl ⟨h0,h1,h2.mono (λ b _ hb=>⟨by rcases hb with h | h;exact .inl h;exact .inr oM,by have:=hs.ps;rcases hb with h | h<;>omega⟩),h3,h5⟩
  ·exact .inr h
theorem EB (K:Nat) (bw:ez K) (w:World) (Lo B ps n i aN:Nat) (tv:Value) (T:List Tk) (h:QS w Lo B ps tv n T i 0) (hi:i≤T.length) (hd:aN+1+K=41) (ho:aj [40] (T.drop i)=true) :
 Calls Tryz.prog 163 #[.pointer (some ⟨ps,0,none⟩),.int .i64 (aN:Nat)] w (iw w Lo B ps tv n T i (2*K+1) false (fu (ab K) 13 (en [41]) (T.drop i).tail)):=by
 obtain⟨res,ag⟩:∃res,res=fu (ab K) 13 (en [41]) (T.drop i).tail:=⟨_,rfl⟩;rw [←ag];rw [Ge,aG] at ag;have bA:=Hd h.lt;have HS:=Lib.hid h;have HC:=Hd bw;have HD:=Hd hd;have ay:=Hd ag;have AK:T.length≤20000:=h.sm.1;have Je:IntKind.i64.wrap ((aN:Int)+1)=(aN:Int)+1:=nL _ oM;have pW:IntKind.i64.wrap ((i:Int)+1)=(i:Int)+1:=nL _ oM
 have ov:=aT;have HO:=Hd ho;have fa:=bL (dA ho);clear h bw hd ag ho;go_enter Tryz.func163,Tryz.ntmps163;go_wp2_with fail;obtain⟨W,hW⟩:∃W,W=w.alloc (.cells #[.int .i64 0,false,eS,(),(),(),(),()] 44):=⟨_,rfl⟩;have dt:K0 w W:=by rw [hW];exact (ae.refl _ _).alloc _
 have HZ:=Hd (show af W w.heap.size [.int .i64 0,false,eS,(),(),(),(),()] by rw [hW];exact aD w _ _ _ _ _ _ _ _ _);rw [←hW];have HK:=Hd (dt.mono (T:=λ b=>b=ps) (λ_ _ h=>h.elim));replace HS:=Hd (HS.o.keep0 dt);clear dt hW;have HQ:=Hd (aY HS.o [40] true HO.o 0);refine HQ.o.mono ?_;rintro e wq ⟨rfl,dq,rfl⟩
 obtain⟨W1,aQ⟩:∃W1,W1=W.drewN dq:=⟨_,rfl⟩;rw [←aQ];have aZ:K0 W W1:=by rw [aQ];exact (ae.refl _ _).drewN _
 replace HS:=Hd (HS.o.keep0 aZ);replace HZ:=Hd (HZ.o.keep aZ (λ h=>h));replace HK:=Hd (HK.o.trans aZ (λ_ _ h=>h.elim));clear aQ aZ;obtain⟨c0,c1,c2,f1,f2⟩:=HS.o.cells;have aW:=HS.o.lt;go_wp2_with fail;obtain⟨W2,aQ⟩:∃W2,W2=W1.setCell ⟨ps,1,none⟩ (.int .i64 ((i:Int)+1)):=⟨_,rfl⟩;rw [←aQ];obtain⟨iP,fm⟩:=eE HS.o oM;rw [←aQ] at iP fm;replace HS:=Hd iP;replace HZ:=Hd (HZ.o.keep fm (λ e=>by have:=bA.o;omega))
 replace HK:=Hd (HK.o.trans fm k3);clear aQ iP fm;clear c0 c1 c2 f1 f2 aW HO;refine (gN K HC.o W2 Lo B ps n (i+1) (aN+1) tv T HS.o oM (by have:=HD.o;omega)).mono ?_;rintro e w3 ⟨v,j,bd,rfl,vR,rj,d6,aV,tP⟩;go_upto_region 4 with fail;obtain⟨NB,ke⟩:∃NB,NB=w3.heap.size:=⟨_,rfl⟩;obtain⟨W4,gL⟩:∃W4,W4=w3.alloc (.cells #[v.k,v.nt,v.nm,.slice v.a0 v.n0 v.c0,.slice v.a1 v.n1 v.c1,.slice v.a2 v.n2 v.c2,.slice v.a3 v.n3 v.c3,.slice v.a4 v.n4 v.c4] 44):=⟨_,rfl⟩
 rw [←gL]
 try rw [←ke]
 have be:K0 w3 W4:=by rw [gL];exact (ae.refl _ _).alloc _
 have bp:=aV.trans be (λ_ _ h=>h.elim);replace HS:=Hd (d6.keep0 be);have yk:NB≠ps:=by have:=d6.lt;omega
 have HN:=Hd (show af W4 NB [v.k,v.nt,v.nm,.slice v.a0 v.n0 v.c0,.slice v.a1 v.n1 v.c1,.slice v.a2 v.n2 v.c2,.slice v.a3 v.n3 v.c3,.slice v.a4 v.n4 v.c4] by rw [gL,ke];exact aD _ _ _ _ _ _ _ _ _ _);have FR:=HZ.o.lt;replace HZ:=Hd (HZ.o.keep bp (λ e=>by have:=bA.o;omega));replace HK:=Hd (HK.o.trans bp k3);have Nw:=Hd tP;have Gv:=Hd (show ∀ds,bV w3 (Qd Lo B W2.heap.size) ds v.vals→bV W4 (λ b=>Qd Lo B w.heap.size b∧b≠w.heap.size) ds v.vals from λ ds hr=>(hr.keep be (λ_ _ _ h=>h)).mono (λ b _ hb=>by have:=d6.ps;have:=bA.o;rcases hb with h | h;exact⟨.inl h,oM⟩;exact⟨.inr oM,oM⟩))
 have fv:=Hd (show i≤j+1∧j+1≤T.length+(2*K+1) by omega);have Lx:j+1≤T.length+500:=by have:=HD.o;omega
 clear d6 aV tP be bp ke gL vR rj FR;cases hb:aj [41] (T.drop j) with
 | true=>
  have je:=Hd (aY HS.o [41] true hb 0);obtain⟨xz,LW⟩:∃xz,xz=bd:=⟨_,rfl⟩;have uQ:=Hd (show xz=if bd=0 then (if aj [41] (T.drop j) then 0 else 2) else bd by rw [hb,LW];by_cases h:bd=0;rw [nE h];exact h;rw [nF h]);rw [←LW] at HS;have RF:IntKind.i64.wrap ((j:Int)+1)=(j:Int)+1:=nL _ oM;clear hb LW;go_wp2_with fail;refine je.o.mono ?_;rintro e wq ⟨rfl,dq,rfl⟩
  obtain⟨w5,aQ⟩:∃w5,w5=W4.drewN dq:=⟨_,rfl⟩;rw [←aQ];have aZ:K0 W4 w5:=by rw [aQ];exact (ae.refl _ _).drewN _
  replace HS:=Hd (HS.o.keep0 aZ);replace HZ:=Hd (HZ.o.keep aZ (λ h=>h));replace HK:=Hd (HK.o.trans aZ (λ_ _ h=>h.elim));replace HN:=Hd (HN.o.keep aZ (λ h=>h));have Yx:=Hd (aZ.mono (T:=λ b=>b=ps) (λ_ _ h=>h.elim));clear aQ aZ;exact c9x
 | false=>
  have je:=Hd (aY HS.o [41] false hb 0);obtain⟨xz,LW⟩:∃xz,xz=(if bd=0 then 2 else bd):=⟨_,rfl⟩;have uQ:=Hd (show xz=if bd=0 then (if aj [41] (T.drop j) then 0 else 2) else bd by rw [hb,LW];by_cases h:bd=0;rw [nE h,nE h];rfl;rw [nF h,nF h]);have HX4:=Hd LW;have RF:IntKind.i64.wrap ((j:Int)+1)=(j:Int)+1:=nL _ oM;clear hb LW;go_wp2_with fail;refine je.o.mono ?_
  rintro e wq ⟨rfl,dq,rfl⟩;obtain⟨wa,aQ⟩:∃wa,wa=W4.drewN dq:=⟨_,rfl⟩;rw [←aQ];have aZ:K0 W4 wa:=by rw [aQ];exact (ae.refl _ _).drewN _
  replace HS:=Hd (HS.o.keep0 aZ);replace HZ:=Hd (HZ.o.keep aZ (λ h=>h));replace HK:=Hd (HK.o.trans aZ (λ_ _ h=>h.elim));replace HN:=Hd (HN.o.keep aZ (λ h=>h));have Se:=Hd (aZ.mono (T:=λ b=>b=ps) (λ_ _ h=>h.elim));clear aQ aZ;go_wp2_with fail;refine (eg wa Lo B ps n j bd 2 tv T HS.o).mono ?_;rintro e w5 ⟨rfl,dV,bi⟩;rw [←HX4.o] at dV;replace HS:=Hd dV;replace HZ:=Hd (HZ.o.keep bi (λ e=>by have:=bA.o;omega))
  replace HK:=Hd (HK.o.trans bi k3);replace HN:=Hd (HN.o.keep bi yk);have Yx:=Hd (Se.o.trans bi k3);clear dV bi HX4;exact c9x
theorem Ey (K:Nat) (bw:ez K) (w:World) (Lo B ps n i aN:Nat) (tv:Value) (T:List Tk) (h:QS w Lo B ps tv n T i 0) (hi:i≤T.length) (hd:aN+1+K=41) (ho:aF [123] (T.drop i)=true) :
 Calls Tryz.prog 163 #[.pointer (some ⟨ps,0,none⟩),.int .i64 (aN:Nat)] w (iw w Lo B ps tv n T i (2*K+1) false (fu (ab K) 12 (cO [125]) (T.drop i).tail)):=by
 obtain⟨res,ag⟩:∃res,res=fu (ab K) 12 (cO [125]) (T.drop i).tail:=⟨_,rfl⟩;rw [←ag];rw [Ge,aG] at ag;have bA:=Hd h.lt;have HS:=Lib.hid h;have HC:=Hd bw;have HD:=Hd hd;have ay:=Hd ag;have AK:T.length≤20000:=h.sm.1;have Je:IntKind.i64.wrap ((aN:Int)+1)=(aN:Int)+1:=nL _ oM;have pW:IntKind.i64.wrap ((i:Int)+1)=(i:Int)+1:=nL _ oM
 have ov:=aT;have HO:=Hd (nH.1 ho);have kt:=Hd (ip ho dC);have fa:=bL (cY dC ho);clear h bw hd ag ho;go_enter Tryz.func163,Tryz.ntmps163;go_wp2_with fail;obtain⟨W,hW⟩:∃W,W=w.alloc (.cells #[.int .i64 0,false,eS,(),(),(),(),()] 44):=⟨_,rfl⟩;have dt:K0 w W:=by rw [hW];exact (ae.refl _ _).alloc _
 have HZ:=Hd (show af W w.heap.size [.int .i64 0,false,eS,(),(),(),(),()] by rw [hW];exact aD w _ _ _ _ _ _ _ _ _);rw [←hW];have HK:=Hd (dt.mono (T:=λ b=>b=ps) (λ_ _ h=>h.elim));replace HS:=Hd (HS.o.keep0 dt);clear dt hW;have HQ:=Hd (aY HS.o [40] false kt.o 0);refine HQ.o.mono ?_;rintro e wq ⟨rfl,dq,rfl⟩
 obtain⟨Wa,aQ⟩:∃Wa,Wa=W.drewN dq:=⟨_,rfl⟩;rw [←aQ];have aZ:K0 W Wa:=by rw [aQ];exact (ae.refl _ _).drewN _
 replace HS:=Hd (HS.o.keep0 aZ);replace HZ:=Hd (HZ.o.keep aZ (λ h=>h));replace HK:=Hd (HK.o.trans aZ (λ_ _ h=>h.elim));clear aQ aZ;have je:=Hd (di HS.o [123] HO.o 0);go_wp2_with fail;refine je.o.mono ?_;rintro e wq ⟨rfl,dq,rfl⟩;obtain⟨W1,aQ⟩:∃W1,W1=Wa.drewN dq:=⟨_,rfl⟩;rw [←aQ];have aZ:K0 Wa W1:=by rw [aQ];exact (ae.refl _ _).drewN _
 replace HS:=Hd (HS.o.keep0 aZ);replace HZ:=Hd (HZ.o.keep aZ (λ h=>h));replace HK:=Hd (HK.o.trans aZ (λ_ _ h=>h.elim));clear aQ aZ;obtain⟨c0,c1,c2,f1,f2⟩:=HS.o.cells;have aW:=HS.o.lt;go_wp2_with fail;obtain⟨W2,aQ⟩:∃W2,W2=W1.setCell ⟨ps,1,none⟩ (.int .i64 ((i:Int)+1)):=⟨_,rfl⟩;rw [←aQ];obtain⟨iP,fm⟩:=eE HS.o oM;rw [←aQ] at iP fm;replace HS:=Hd iP;replace HZ:=Hd (HZ.o.keep fm (λ e=>by have:=bA.o;omega))
 replace HK:=Hd (HK.o.trans fm k3);clear aQ iP fm;clear c0 c1 c2 f1 f2 aW HO kt;refine (gN K HC.o W2 Lo B ps n (i+1) (aN+1) tv T HS.o oM (by have:=HD.o;omega)).mono ?_;rintro e w3 ⟨v,j,bd,rfl,vR,rj,d6,aV,tP⟩;go_upto_region 13 with fail;obtain⟨NB,ke⟩:∃NB,NB=w3.heap.size:=⟨_,rfl⟩;obtain⟨W4,gL⟩:∃W4,W4=w3.alloc (.cells #[v.k,v.nt,v.nm,.slice v.a0 v.n0 v.c0,.slice v.a1 v.n1 v.c1,.slice v.a2 v.n2 v.c2,.slice v.a3 v.n3 v.c3,.slice v.a4 v.n4 v.c4] 44):=⟨_,rfl⟩
 rw [←gL]
 try rw [←ke]
 have be:K0 w3 W4:=by rw [gL];exact (ae.refl _ _).alloc _
 have bp:=aV.trans be (λ_ _ h=>h.elim);replace HS:=Hd (d6.keep0 be);have yk:NB≠ps:=by have:=d6.lt;omega
 have HN:=Hd (show af W4 NB [v.k,v.nt,v.nm,.slice v.a0 v.n0 v.c0,.slice v.a1 v.n1 v.c1,.slice v.a2 v.n2 v.c2,.slice v.a3 v.n3 v.c3,.slice v.a4 v.n4 v.c4] by rw [gL,ke];exact aD _ _ _ _ _ _ _ _ _ _);have FR:=HZ.o.lt;replace HZ:=Hd (HZ.o.keep bp (λ e=>by have:=bA.o;omega));replace HK:=Hd (HK.o.trans bp k3);have Nw:=Hd tP;have Gv:=Hd (show ∀ds,bV w3 (Qd Lo B W2.heap.size) ds v.vals→bV W4 (λ b=>Qd Lo B w.heap.size b∧b≠w.heap.size) ds v.vals from λ ds hr=>(hr.keep be (λ_ _ _ h=>h)).mono (λ b _ hb=>by have:=d6.ps;have:=bA.o;rcases hb with h | h;exact⟨.inl h,oM⟩;exact⟨.inr oM,oM⟩))
 have fv:=Hd (show i≤j+1∧j+1≤T.length+(2*K+1) by omega);have Lx:j+1≤T.length+500:=by have:=HD.o;omega
 clear d6 aV tP be bp ke gL vR rj FR;go_wp2_with fail;refine (eL W4 Lo B ps n j bd tv T [125] HS.o oM).mono ?_;rintro e w6 ⟨rfl,lM,cu⟩;obtain⟨xz,LW⟩:∃xz,xz=if bd=0 then (if aF [125] (T.drop j) then 0 else 2) else bd:=⟨_,rfl⟩;rw [←LW] at lM;replace HS:=Hd lM;replace HZ:=Hd (HZ.o.keep cu (λ e=>by have:=bA.o;omega));replace HK:=Hd (HK.o.trans cu k3)
 replace HN:=Hd (HN.o.keep cu yk);have SA:=Hd (show ∀ds,bV w3 (Qd Lo B W2.heap.size) ds v.vals→bV w6 (λ b=>Qd Lo B w.heap.size b∧b≠w.heap.size) ds v.vals from λ ds hr=>(Gv.o ds hr).keep cu (λ b _ hb e=>jV (X:=w.heap.size) HS.o.ps bA.o hb.1 e));have mj:=mq (P:=aF [125]) (E9 dC) (yt dC) Nw.o LW;have gR:=Hd (show (∃ds,res=.ok (cE 12 false [] [] [] [] ds [],T.drop (j+1))∧xz=0∧j+1≤T.length∧ds.length=1*8∧bV w6 (λ b=>Qd Lo B w.heap.size b∧b≠w.heap.size) ds v.vals)∨QF false w6 (λ_=>False) T res [] (j+1) xz from by
  rcases mj with ⟨ds,hx,hp,h0,hn,hd,hj,hr⟩ | ⟨hx,hf⟩
  ·refine .inl ⟨ds,?_,h0,?_,by rw [hn.len],SA.o ds hd⟩
   ·rw [ay.o,hr,zz (kL hp),aG]
   ·have:=bL (cY dC hp);omega
  ·exact .inr (QF.err hx (by rw [ay.o,hf _ (λ e=>rfl) (λ ds r h=>CI (lh h))])))
 clear mj;clear lM cu LW;obtain⟨⟨x0,x1,x2,x3,x4,x5,x6,x7⟩,⟨f8,gf,hC,hU,hV,hY,hZ,ia⟩⟩:=HN.o.eight;have fR:=HN.o.lt;obtain⟨⟨z0,z1,z2,z3,z4,z5,z6,z7⟩,⟨gO,gP,ib,ic,ie,ig,ii,ij⟩⟩:=HZ.o.eight;have fT:=HZ.o.lt;go_wp2_with fail;refine nJ (v:=.agg #[.int .i64 12,false,eS,(),(),(),.slice (some ⟨w6.heap.size,0,none⟩) 1 1,()]) (by simp [results,Tryz.results163,go_sem,z0,z1,z2,z3,z4,z5,z6,z7,fT]) rfl ?_
 exact⟨⟨12,false,⟨#[]⟩,none,0,0,none,0,0,none,0,0,some ⟨w6.heap.size,0,none⟩,1,1,none,0,0⟩,j+1,xz,rfl,fv.o.1,fv.o.2,pF (kind:=12) (m:=1) (vv:=v.vals) HK.o HS.o bA.o HZ.o.lt (ap w6 w.heap.size (.int .i64 12) (.bool false) (.string ⟨#[]⟩) (.slice none 0 0) (.slice none 0 0) (.slice none 0 0) (.slice (some ⟨w6.heap.size,0,none⟩) 1 1) (.slice none 0 0)) wC rfl dC gR.o⟩
end Go.Proofs.YtiihpbccabeoeaaGreatDoor
