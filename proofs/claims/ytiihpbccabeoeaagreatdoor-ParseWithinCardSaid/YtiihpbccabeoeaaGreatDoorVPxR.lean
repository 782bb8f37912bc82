/- The walk: a part. -/
import Derived.Test.YtiihpbccabeoeaaGreatDoorVM
import Derived.Test.YtiihpbccabeoeaaGreatDoorVPxO
namespace Go.Proofs.YtiihpbccabeoeaaGreatDoor
open Go.RowKit
set_option linter.unusedVariables false
set_option maxRecDepth 100000
set_option maxHeartbeats 16000000
def Pe (w:World) (g:Nat) (v:NV):Prop:=g<w.heap.size∧∀k u,v.vals[k]? = some u→w.cell? ⟨g,k,none⟩=some u
theorem Pe.keep {w w':World} {g:Nat} {v:NV} {S:Nat→Prop} (h:Pe w g v) (hk:ae S w w') (hg:¬S g):Pe w' g v:=
 ⟨uG h.1 hk.size,λ k u hu=>(uH (hk.block g h.1 hg)).trans (h.2 k u hu)⟩
theorem Pe.eight {w:World} {g:Nat} {v:NV} (h:Pe w g v):w.cell? ⟨g,0,none⟩=some (.int .i64 v.k)∧w.cell? ⟨g,1,none⟩=some (.bool v.nt)∧w.cell? ⟨g,2,none⟩=some (.string v.nm)∧w.cell? ⟨g,3,none⟩=some (.slice v.a0 v.n0 v.c0)∧w.cell? ⟨g,4,none⟩=some (.slice v.a1 v.n1 v.c1)∧w.cell? ⟨g,5,none⟩=some (.slice v.a2 v.n2 v.c2)∧w.cell? ⟨g,6,none⟩=some (.slice v.a3 v.n3 v.c3)∧w.cell? ⟨g,7,none⟩=some (.slice v.a4 v.n4 v.c4):=
 ⟨h.2 0 _ rfl,h.2 1 _ rfl,h.2 2 _ rfl,h.2 3 _ rfl,h.2 4 _ rfl,h.2 5 _ rfl,h.2 6 _ rfl,h.2 7 _ rfl⟩
theorem Mj {w:World} {Ty:TypeId} {g aC:Nat} {v:NV} (h:w.ownsRow 0 Ty 8 (.slice (some ⟨g,0,none⟩) 1 aC) 1 v.vals):Pe w g v:=by
 refine⟨(h.lt g rfl).2,λ k u hu=>?_⟩;have hk:k<8:=by
  have:=(List.getElem?_eq_some_iff.1 hu).1;simpa [NV.vals] using this
 rcases h.2 with ⟨e,h0⟩ | ⟨g',DG,x8,e,hb,hg,h1,h2,h3⟩
 ·cases e
 ·have hc:=h.cellAt k oM;obtain rfl:g=g':=by injection e with e1;injection e1 with e1;injection e1
  rw [hc];exact hu
theorem My:∀{w:World} {D:Nat→Prop} {ds:List Dt} {vs:List Value} (hl:ds.length=vs.length) (h:∀j (hj:j<ds.length) (sT:j<vs.length),Rd w D ds[j] vs[j]),bV w D ds vs
 | w,D,[],[],_,_=>trivial
 | w,D,d::ds,v::vs,hl,h=>⟨h 0 sI sI,My (by simpa using hl) (λ j hj sT=>h (j+1) (by simpa using hj) (by simpa using sT))⟩
 | w,D,[],v::vs,hl,_=>by simp at hl
 | w,D,d::ds,[],hl,_=>by simp at hl
theorem T1 {w:World} {D:Nat→Prop} {ds:List Dt} {g c:Nat} {v:NV} (h:Rd w D (.sl 8 ds) (.slice (some ⟨g,0,none⟩) 1 c)) (hl:ds.length=8) (h8:Pe w g v):bV w D ds v.vals:=by
 refine My (by rw [hl];rfl) λ j hj sT=>?_;obtain⟨b,gQ,u,e,hb,hD,hc,hr⟩:=h.cell hj;obtain⟨rfl,rfl⟩:g=b∧0=gQ:=by simpa using e
 rw [Nat.zero_add] at hc;have tN:=h8.2 j v.vals[j] (List.getElem?_eq_getElem sT);rw [hc] at tN;rw [←nD tN];exact hr
def NI (gd:Prop) (acc:List Dt) (T:List Tk) (I x:Nat) (res:PR (List Dt)):Prop:=(gd∧x=0∧I≤T.length∧gD acc∧res=.ok (mi acc,T.drop I))∨∀w D us,QF true w D T res us I x
theorem Cg {gd:Prop} {acc:List Dt} {T:List Tk} {I x:Nat} {res:PR (List Dt)} {w:World} {D:Nat→Prop} {us:List Value} (h:NI gd acc T I x res) (hr:gd→gD acc→jA (mi acc)∧bV w D (mi acc) us):QF true w D T res us I x:=by
 rcases h with ⟨g,hx,hI,ha,h⟩ | h
 ·exact QF.good h hx (hr g ha).1 (hr g ha).2 rfl hI
 ·exact h w D us
theorem O6 {acc:List Dt} (h:acc.length=8):mi acc=acc:=nE h
theorem ME {acc:List Dt} (h:acc.length≠8):mi acc=cE 5 false [] [] [] [] acc []:=nF h
theorem gN (K:Nat) (bw:ez K) (w:World) (Lo B ps n i aN:Nat) (tv:Value) (T:List Tk) (h:QS w Lo B ps tv n T i 0) (hi:i≤T.length) (hd:aN+K=41) :
 Calls Tryz.prog 63 #[.pointer (some ⟨ps,0,none⟩),.int .i64 (aN:Nat)] w (iw w Lo B ps tv n T i (2*K) true (bz (ab K) (T.drop i))):=by
 obtain⟨res,ag⟩:∃res,res=bz (ab K) (T.drop i):=⟨_,rfl⟩;rw [←ag];rw [OQ K] at ag;have ov:=aT;obtain⟨i0,fo,fC,fp,fq⟩:=info_parts jm;have ay:=Hd ag;have HC:=Hd bw;have HD:=Hd hd;have bA:=Hd h.lt;have AK:T.length≤20000:=h.sm.1;have HS:=Lib.hid h;clear ag bw h;go_enter Tryz.func63,Tryz.ntmps63;go_wp2_with fail;obtain⟨W,hW⟩:∃W,W=w.alloc (.cells #[.int .i64 0,false,eS,(),(),(),(),()] 44):=⟨_,rfl⟩
 have dt:K0 w W:=by rw [hW];exact (ae.refl _ _).alloc _
 have HZ:=Hd (show af W w.heap.size [.int .i64 0,false,eS,(),(),(),(),()] by rw [hW];exact aD w _ _ _ _ _ _ _ _ _);rw [←hW];have mF:=Hd dt;replace HS:=Hd (HS.o.keep0 dt);clear dt hW;refine (de W Lo B ps n i 0 tv T HS.o).mono ?_;rintro e w1 ⟨rfl,j0,ku,hj2,ow,kB,dR,be⟩;have hj0:=hj2 hi;have HG:=Hd (show QM True w w1 Lo B ps tv n T (w.heap.size+1) j0 0 (.slice none 0 0) 8 44 0 [] from⟨dR,⟨[],λ_=>trivial,World.ownsRow_nil _ _ _ _⟩,λ g hg=>(by cases hg),(mF.o.mono (λ_ _ h=>h.elim)).trans be k3⟩)
 replace HZ:=Hd (HZ.o.keep be (λ e=>by have:=bA.o;omega));have Bf:=Hd (show YK K [] T j0 res from .inl (by rw [kB];exact ay.o));clear dR be kB ow hj2 ay HS mF;go_wp2_with fail;go_loopg [5] (T.length+2000 - j0) (λ g l' wr=>∃(I m:Nat) (la:OA) (lc:Nat) (acc:List Dt),g=T.length+2000 - I∧l'=.slice la m lc∧i≤I∧I≤T.length∧m≤I∧Hid (QM True w wr Lo B ps tv n T (w.heap.size+1) I 0 (.slice la m lc) 8 44 m acc)∧Hid (af wr w.heap.size [.int .i64 0,false,eS,(),(),(),(),()])∧Hid (gD acc)∧Hid (YK K acc T I res))
 case atStart=>exact⟨j0,0,none,0,[],rfl,rfl,ku,hj0,nB _,HG,HZ,Hd gD.nil,Bf⟩
 case round=>
  clear HG HZ Bf;obtain⟨I,m,la,lc,acc,eH,rfl,mI,p8,yj,HG,HZ,zN,Bf⟩:=hrel;have fK:=Hd eH;clear eH;obtain⟨c0,c1,c2,f1,f2⟩:=HG.o.rs.cells;have aW:=HG.o.rs.lt;go_wp2_with fail;refine (Ew K HC.o wr Lo B ps n I aN tv T HG.o.rs p8 HD.o).mono ?_;rintro e w2 ⟨v,j2,bd,rfl,yh,Eb,cj,aS,Jf⟩;obtain⟨gd,dd,yV,e9⟩:=L2 Bf.o Jf;have eI:=Hd e9;have uq:=Hd yV;go_upto_region 5 with fail
  obtain⟨NB,ke⟩:∃NB,NB=w2.heap.size:=⟨_,rfl⟩;obtain⟨W3,ft⟩:∃W3,W3=w2.alloc (.cells #[v.k,v.nt,v.nm,.slice v.a0 v.n0 v.c0,.slice v.a1 v.n1 v.c1,.slice v.a2 v.n2 v.c2,.slice v.a3 v.n3 v.c3,.slice v.a4 v.n4 v.c4] 44):=⟨_,rfl⟩;rw [←ft]
  try rw [←ke]
  have aV:K0 w2 W3:=by rw [ft];exact (ae.refl _ _).alloc _
  have qZ:=Hd (show af W3 NB [v.k,v.nt,v.nm,.slice v.a0 v.n0 v.c0,.slice v.a1 v.n1 v.c1,.slice v.a2 v.n2 v.c2,.slice v.a3 v.n3 v.c3,.slice v.a4 v.n4 v.c4] by rw [ft,ke];exact aD _ _ _ _ _ _ _ _ _ _);have Yd:=HZ.o.lt;obtain⟨xs,hown4,hF⟩:=HG.o.more (G':=gd) (y:=bd) (J:=j2) (us:=[.int .i64 v.k,.bool v.nt,.string v.nm,.slice v.a0 v.n0 v.c0,.slice v.a1 v.n1 v.c1,.slice v.a2 v.n2 v.c2,.slice v.a3 v.n3 v.c3,.slice v.a4 v.n4 v.c4]) (d2:=dd) (by have:=bA.o;omega) Yd (Nat.le_succ _) (aS.trans aV (λ_ _ h=>h.elim)) (cj.keep0 aV) (λ_=>trivial) (λ g=>((uq.o g).2.keep aV (λ_ _ _ h=>h)))
  have HF:=Hd hF;have I9:=Hd (show m=0→xs=[] from λ e=>by have h9:=hown4.1;rw [e] at h9;exact nO oM);have Vl:=Hd HG.o.low;replace HZ:=Hd ((HZ.o.keep aS (λ e=>by have:=bA.o;omega)).keep aV (λ h=>h));have JH:=Hd (show gd→gD (acc++dd) from λ g=>zN.o.app (gD.of (uq.o g).1));have fv:=Hd (show i≤j2∧j2≤T.length+2*K by omega);have zS:=Hd yh
  obtain⟨⟨u0,u1,u2,u3,u4,u5,u6,u7⟩,⟨E1,E2,E3,E4,E5,E6,E7,E8⟩⟩:=qZ.o.eight;have AB:=qZ.o.lt;clear hF yV e9 cj aS Jf aV ke ft HG uq yh Eb c0 c1 c2 f1 f2 aW Yd;go_upto_region 6 with (at_builtin;refine nR _ rfl (.tmp 17) (.tmp 19) _ rfl 0 44 i0 _ 8 152 Tryz.underlying23 fo fC fp fq rfl oM (.slice la m lc) m xs rfl (hown4.alloc _) ⟨W3.heap.size,0,none⟩ 1 1 [v.k,v.nt,v.nm,.slice v.a0 v.n0 v.c0,.slice v.a1 v.n1 v.c1,.slice v.a2 v.n2 v.c2,.slice v.a3 v.n3 v.c3,.slice v.a4 v.n4 v.c4] rfl rfl (nK (cs:=#[.int .i64 v.k,.bool v.nt,.string v.nm,.slice v.a0 v.n0 v.c0,.slice v.a1 v.n1 v.c1,.slice v.a2 v.n2 v.c2,.slice v.a3 v.n3 v.c3,.slice v.a4 v.n4 v.c4]) (t:=44) (fr:=(0,0)) (nG W3 _)) oC oM uM oM sI (W3.heap.size+1) sI ?_;intro gg aC w5 aK ao bf gT;have gA:=HF.o gg (m+1) aC w5 _ aK ((ae.refl _ _).alloc _) ao (bf.imp id (λ h=>oM));obtain⟨lB,bi⟩:=gA;have HG:=Hd (show QM gd w w5 Lo B ps tv n T (w.heap.size+1) j2 bd (.slice (some ⟨gg,0,none⟩) (m+1) aC) 8 44 (m+1) (acc++dd) from lB);replace HZ:=Hd (HZ.o.keep bi (λ e=>by have:=Vl.o _ e;omega));have IZ:=Hd (show m=0→Pe w5 gg v from λ e=>by rw [I9.o e,e] at aK;exact Mj aK);clear lB bi;clear aK ao bf)
  obtain⟨c0,c1,c2,f1,f2⟩:=HG.o.rs.cells;have aW:=HG.o.rs.lt;have hpg:gg≠ps:=by have:=HG.o.low gg rfl;have:=bA.o;omega
  by_cases hy:bd=0
  ·subst hy;by_cases fB:aj [59] (T.drop j2)=true∨aj [10] (T.drop j2)=true
   ·obtain⟨g,yi,hr⟩:gd∧j2≤T.length∧res=pD (cW (ab K) ((T.drop j2).length+1) (acc++dd) (T.drop j2)):=by
     rcases eI.o with ⟨g,_,yi,hr⟩ | ⟨h9 | h9,_⟩
     ·exact⟨g,yi,hr⟩
     ·exact nQ rfl h9
     ·rcases fB with fB | fB
      ·rw [lQ h9 [59] dC] at fB;cases fB
      ·rw [lQ h9 [10] dC] at fB;cases fB
    have fa:j2<T.length:=by rcases fB with fB | fB<;>exact bL (dA fB)
    have Dh:=Hd (λ I h=>L1 (T:=T) (I:=I) hr (by rcases fB with h | h<;>rw [h];rfl;exact Bool.or_true _) h);have iD:=Hd g;have pW:IntKind.i64.wrap ((j2:Int)+1)=(j2:Int)+1:=nL _ oM;cases o1:aj [59] (T.drop j2) with
    | true=>
     have HQ:=Hd (aY HG.o.rs [59] true o1 0);clear fB hr g eI o1;go_wp2_with fail;refine HQ.o.mono ?_;exact QP
    | false=>
     have o2:aj [10] (T.drop j2)=true:=by rcases fB with h | h;rw [h] at o1;cases o1;exact h
     have HQ:=Hd (aY HG.o.rs [59] false o1 0);have je:=Hd (λ q=>aY HG.o.rs [10] true o2 q);clear fB hr g eI o1 o2;go_wp2_with fail;refine HQ.o.mono ?_;rintro e wq ⟨rfl,q0,rfl⟩;go_wp2_with fail;refine (je.o q0).mono ?_;exact QP
   ·obtain⟨o1,o2⟩:=not_or.1 fB;rw [Bool.not_eq_true] at o1 o2;have gR:=Hd (show NI gd (acc++dd) T j2 0 res from by
     rcases eI.o with ⟨g,hx,yi,hr⟩ | ⟨_,h9⟩
     ·exact .inl ⟨g,hx,yi,JH.o g,L3 hr o1 o2⟩
     ·exact .inr h9)
    have HQ:=Hd (aY HG.o.rs [59] false o1 0);have je:=Hd (λ q=>aY HG.o.rs [10] false o2 q);clear fB o1 o2 eI;go_wp2_with fail;refine HQ.o.mono ?_;rintro e wq ⟨rfl,q0,rfl⟩;go_wp2_with fail;refine (je.o q0).mono ?_;rintro e wq ⟨rfl,q,rfl⟩;replace HG:=Hd (HG.o.keep0 ((ae.refl _ _).drewN q));replace HZ:=Hd (HZ.o.keep ((ae.refl (λ_=>False) _).drewN q) (λ h=>h));replace IZ:=Hd (λ e=>(IZ.o e).keep ((ae.refl (λ_=>False) _).drewN q) (λ h=>h))
    clear c0 c1 c2 f1 f2 aW;obtain⟨wf,qF⟩:∃wf,wf=(w5.drewN q):=⟨_,rfl⟩;exact c2x
  ·have t:((bd:Int) != 0)=true:=by rw [bne_iff_ne];omega
   have gR:=Hd (show NI gd (acc++dd) T j2 bd res from by
    rcases eI.o with ⟨_,hx,_⟩ | ⟨_,h9⟩
    ·exact nQ hx hy
    ·exact .inr h9)
   clear hy eI;go_upto_region 10 with fail;obtain⟨wf,qF⟩:∃wf,wf=w5:=⟨_,rfl⟩;exact c2x
end Go.Proofs.YtiihpbccabeoeaaGreatDoor
