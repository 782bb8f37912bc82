/- The walk: a part. -/
import Derived.Test.YtiihpbccabeoeaaGreatDoorVM
import Derived.Test.YtiihpbccabeoeaaGreatDoorVPkV
import Derived.Deep.AppendLies
namespace Go.Proofs.YtiihpbccabeoeaaGreatDoor
open Go.RowKit
set_option linter.unusedVariables false
set_option maxRecDepth 100000
set_option maxHeartbeats 16000000
def Ml (K:Nat) (q:Bool) (p:PR (List Dt)):PR (List Dt):=match p with
 | .error e=>.error e
 | .ok (d,r)=>fG q (cr (ab K) (r.length+1) d r)
def Mm (K M:Nat) (q:Bool) (acc:List Dt) (p:PR (List Dt)):PR (List Dt):=match p with
 | .error e=>.error e
 | .ok (d,r)=>fG q (cr (ab K) M (acc++d) r)
theorem A3 (K:Nat) (ts:List Tk) (q:Bool) (hq:aF [33] ts=q):bh (ab K) ts=Ml K q (ab K (G0 q ts)):=by
 subst hq;rw [tX];rfl
theorem Ie {K M:Nat} {q:Bool} {acc:List Dt} {ts:List Tk} (h:aj [124] ts=true):fG q (cr (ab K) (M+1) acc ts)=Mm K M q acc (ab K (ai ts.tail)):=by
 rw [jF,h,nE rfl];cases ab K (ai ts.tail) with
 | error e=>rfl
 | ok p=>rfl
theorem Ih {K M:Nat} {q:Bool} {acc:List Dt} {ts:List Tk} (h:aj [124] ts=false):fG q (cr (ab K) (M+1) acc ts)=if acc.length=8∧q=false then .ok (acc,ts) else .ok (cE 2 q [] [] [] [] acc [],ts):=by
 rw [jF,h,nF sI];rfl
def PG (K:Nat) (q:Bool) (acc:List Dt) (T:List Tk) (I:Nat) (res:PR (List Dt)):Prop:=∃M,T.length - I+1≤M∧res=fG q (cr (ab K) M acc (T.drop I))
theorem mw {K:Nat} {q:Bool} {acc:List Dt} {T:List Tk} {I x m:Nat} {res:PR (List Dt)} {gd:Prop} {w:World} {D:Nat→Prop} {us:List Value} (e9:C6 gd (PG K q acc T I res) T I x res) (hx:x≠0∨aj [124] (T.drop I)=false) (hl:gd→acc.length=m*8) (ha:gd→gD acc)
 (hr:gd→bV w D (if m=1∧q=false then acc else cE 2 q [] [] [] [] acc []) us):QF false w D T res us I x:=by
 rcases hx with hx | ho
 ·exact Qe
 ·refine e9.fin (λ g hp=>?_) (λ g hp=>⟨?_,hr g⟩)
  ·obtain⟨M,hM,h⟩:=hp;obtain⟨M,rfl⟩:∃M',M=M'+1:=⟨M - 1,oM⟩;have h8:=hl g;rw [h,Ih ho];by_cases hc:m=1∧q=false
   ·rw [nE ⟨oM,hc.2⟩,nE hc]
   ·rw [nF (λ h'=>hc ⟨oM,h'.2⟩),nF hc]
  ·by_cases hc:m=1∧q=false
   ·rw [nE hc];exact (ha g).one (by have:=hl g;omega)
   ·rw [nF hc];exact⟨_,_,_,_,_,_,_,_,rfl⟩
theorem th (K:Nat) (bw:ez K) (w:World) (Lo B ps n i aN:Nat) (tv:Value) (T:List Tk) (h:QS w Lo B ps tv n T i 0) (hi:i≤T.length) (hd:aN+K=41) :
 Calls Tryz.prog 123 #[.pointer (some ⟨ps,0,none⟩),.int .i64 (aN:Nat)] w (iw w Lo B ps tv n T i (2*K) false (bh (ab K) (T.drop i))):=by
 obtain⟨res,ag⟩:∃res,res=bh (ab K) (T.drop i):=⟨_,rfl⟩;rw [←ag];obtain⟨q,hq⟩:∃q,aF [33] (T.drop i)=q:=⟨_,rfl⟩;rw [A3 K _ q hq] at ag;have ov:=aT;obtain⟨i0,fo,fC,fp,fq⟩:=info_parts jm;have ay:=Hd ag;have HC:=Hd bw;have HD:=Hd hd;have bA:=Hd h.lt;have AK:T.length≤20000:=h.sm.1;obtain⟨s,hs⟩:∃s,aJ (ch (T.drop i))=s:=⟨_,rfl⟩;have RE:(s==[33])=q:=by rw [←hs];exact hq
 have NF:=Hd hq;have HS:=Lib.hid h;have YE:=Hd hs;clear ag bw h hq hs;go_enter Tryz.func123,Tryz.ntmps123;go_wp2_with fail;obtain⟨N,hN⟩:∃N,N=w.heap.size+1:=⟨_,rfl⟩;obtain⟨W,hW⟩:∃W,W=(w.alloc (.cells #[.int .i64 0,false,eS,(),(),(),(),()] 44)).alloc (.cells #[.int .i64 2,false,eS,(),(),(),(),()] 44):=⟨_,rfl⟩
 have dt:K0 w W:=by rw [hW];exact ((ae.refl _ _).alloc _).alloc _
 have HZ:=Hd (show af W w.heap.size [.int .i64 0,false,eS,(),(),(),(),()] by rw [hW];exact (aD w _ _ _ _ _ _ _ _ _).keep (S:=λ_=>False) ((ae.refl _ _).alloc _) (λ h=>h));have HR:=Hd (show af W N [.int .i64 2,false,eS,(),(),(),(),()] by rw [hW,hN];have h9:=aD (w.alloc (.cells #[.int .i64 0,false,eS,(),(),(),(),()] 44)) (.int .i64 2) (.bool false) (.string ⟨#[]⟩) (.slice none 0 0) (.slice none 0 0) (.slice none 0 0) (.slice none 0 0) (.slice none 0 0) 44;simpa using h9)
 rw [←hW]
 try rw [←hN]
 have mF:=Hd dt;replace HS:=Hd (HS.o.keep0 dt);have gE:=Hd (show w.heap.size<N by omega);have qk:=Hd hN;clear dt hW hN;have HQ:=Hd (di HS.o s YE.o 0);refine HQ.o.mono ?_;rintro e wq ⟨rfl,dq,rfl⟩;obtain⟨W1,aQ⟩:∃W1,W1=W.drewN dq:=⟨_,rfl⟩;rw [←aQ];have aZ:K0 W W1:=by rw [aQ];exact (ae.refl _ _).drewN _
 replace HS:=Hd (HS.o.keep0 aZ);replace HZ:=Hd (HZ.o.keep aZ (λ h=>h));replace HR:=Hd (HR.o.keep aZ (λ h=>h));replace mF:=Hd (mF.o.trans aZ k3);clear aQ aZ;go_upto_if 11 with fail;go_cut [] from 12 to 19 (λ wx=>∃(j:Nat) (wy:World),wy=wx∧i≤j∧j≤T.length∧Hid (T.drop j=G0 q (T.drop i))∧Hid (QR (λ_=>False) True w wy Lo B ps tv n T (w.heap.size+1) N [.int .i64 0,false,eS,(),(),(),(),()] [.int 2,.bool q,.str [],.sl 1 [],.sl 2 [],.sl 2 []] [.sl 2 []] [.int .i64 2,q,eS,(),(),()] [()] 8 44 j 0 0 none 0 []))
 case first=>
  obtain⟨c0,c1,c2,f1,f2⟩:=HS.o.cells;have aW:=HS.o.lt;obtain⟨⟨x0,x1,x2,x3,x4,x5,x6,x7⟩,⟨f8,gf,hC,hU,hV,hY,hZ,ia⟩⟩:=HR.o.eight;have fR:=HR.o.lt;have pW:IntKind.i64.wrap ((i:Int)+1)=(i:Int)+1:=nL _ oM;have hnp:N≠ps:=by have:=gE.o;have:=bA.o;omega
  cases q with
  | true=>
   have Vr:=Hd (bL (cY dC NF.o));go_wp2_with fail;go_meet
   case rel=>
    have Rs:ae (λ b=>b=N) W1 (W1.setCell ⟨N,1,none⟩ (.bool true)):=(ae.refl _ _).setCell _ _ λ_=>rfl;have vS:=gE.o;have Ry:=bA.o;have hbp:=HS.o.ps;have hqr:QR (λ_=>False) True w (W1.setCell ⟨N,1,none⟩ (.bool true)) Lo B ps tv n T (w.heap.size+1) N [.int .i64 0,false,eS,(),(),(),(),()] [.int 2,.bool true,.str [],.sl 1 [],.sl 2 [],.sl 2 []] [.sl 2 []] [.int .i64 2,true,eS,(),(),()] [()] 8 44 i 0 0 none 0 []:=⟨HS.o.keep Rs (λ b hb e=>oM) (λ e=>hnp e.symm),(mF.o.mono (λ_ _ h=>h.elim)).fresh Rs (λ b e=>oM),HZ.o.keep Rs (λ e=>oM),HR.o.set 1 _,⟨[],λ_=>trivial,World.ownsRow_nil _ _ _ _⟩,λ g hg=>(by cases hg),λ g hg=>(by cases hg),λ_=>⟨.int _,.bool _,.str _,.nil _ _ _ (nB _),.nil _ _ _ (nB _),.nil _ _ _ (nB _),trivial⟩,λ_=>⟨.nil _ _ _ (nB _),trivial⟩⟩
    have mZ:=hqr.inc bA.o (nM _) gE.o oM;exact⟨i+1,_,rfl,oM,by have:=Vr.o;omega,Hd (by show T.drop (i+1)=(T.drop i).tail;rw [aG]),Hd mZ⟩
  | false=>
   go_wp2_with fail;go_meet
   case rel=>exact⟨i,_,rfl,nC _,hi,Hd rfl,Hd ⟨HS.o,mF.o.mono (λ_ _ h=>h.elim),HZ.o,HR.o,⟨[],λ_=>trivial,World.ownsRow_nil _ _ _ _⟩,λ g hg=>(by cases hg),λ g hg=>(by cases hg),λ_=>⟨.int _,.bool _,.str _,.nil _ _ _ (nB _),.nil _ _ _ (nB _),.nil _ _ _ (nB _),trivial⟩,λ_=>⟨.nil _ _ _ (nB _),trivial⟩⟩⟩
 case rest=>
  obtain⟨j1,wy,Jo,acH,abA,HTJ,HG⟩:=hcut;subst Jo;have hnp:N≠ps:=by have:=gE.o;have:=bA.o;omega
  have fN:=Hd (show res=Ml K q (ab K (T.drop j1)) by rw [HTJ.o];exact ay.o);have sF:=HG.o.rc.lt;have pR:=Hd (show w.heap.size+1≤wy.heap.size∧N<wy.heap.size by have:=qk.o;omega);clear ay HTJ sF RE NF YE HS HZ HR mF
  try clear x0 x1 x2 x3 x4 x5 x6 x7 f8 gf hC hU hV hY hZ ia fR
  go_wp2_with fail;refine (HC.o wy Lo B ps n j1 aN tv T HG.o.rs abA HD.o).mono ?_;rintro e w2 ⟨v,j2,bd,rfl,acI,Eb,cj,aS,Jf⟩;obtain⟨gd,dd,yV,e9⟩:=Jf.state (Ml K q) (λ e=>rfl) (λ h=>by cases h) fN.o;have eI:=Hd (e9.map (good2:=PG K q dd T j2 res) (λ_ h=>⟨(T.drop j2).length+1,by rw [nI];omega,h⟩));have uq:=Hd yV;have gS:=Hd cj;have cA:=Hd aS;clear yV e9 cj aS Jf
  go_upto_region 6 with fail;obtain⟨NB,ke⟩:∃NB,NB=w2.heap.size:=⟨_,rfl⟩;obtain⟨W3,ft⟩:∃W3,W3=w2.alloc (.cells #[v.k,v.nt,v.nm,.slice v.a0 v.n0 v.c0,.slice v.a1 v.n1 v.c1,.slice v.a2 v.n2 v.c2,.slice v.a3 v.n3 v.c3,.slice v.a4 v.n4 v.c4] 44):=⟨_,rfl⟩;rw [←ft]
  try rw [←ke]
  have aV:K0 w2 W3:=by rw [ft];exact (ae.refl _ _).alloc _
  have qZ:=Hd (show af W3 NB [v.k,v.nt,v.nm,.slice v.a0 v.n0 v.c0,.slice v.a1 v.n1 v.c1,.slice v.a2 v.n2 v.c2,.slice v.a3 v.n3 v.c3,.slice v.a4 v.n4 v.c4] by rw [ft,ke];exact aD _ _ _ _ _ _ _ _ _ _);have AM:=cA.o.size;have TG:W3.heap.size=w2.heap.size+1:=by rw [ft];simp
  obtain⟨ON,m0,OO,Rt,Zb,HG⟩:∃(ON:OA) (m0 OO:Nat),m0=0∧(∀g,(Value.slice ON m0 OO).ownBlock=some g→False)∧Hid (QR (λ_=>False) True w wy Lo B ps tv n T (w.heap.size+1) N [.int .i64 0,false,eS,(),(),(),(),()] [.int 2,.bool q,.str [],.sl 1 [],.sl 2 [],.sl 2 []] [.sl 2 []] [.int .i64 2,q,eS,(),(),()] [()] 8 44 j1 0 m0 ON OO []):=⟨none,0,0,rfl,λ g h=>(by cases h),HG⟩
  have Si:=Hd Rt;have abL:m0≤5:=oM
  have Sh:=Hd Zb;obtain⟨xs,hown4,aL,hF⟩:=(HG.o.frame (E':=λ b=>b=NB) (λ g hg=>(Zb g hg).elim)).more (G':=gd) (y:=bd) (J:=j2) (us:=[.int .i64 v.k,.bool v.nt,.string v.nm,.slice v.a0 v.n0 v.c0,.slice v.a1 v.n1 v.c1,.slice v.a2 v.n2 v.c2,.slice v.a3 v.n3 v.c3,.slice v.a4 v.n4 v.c4]) (d2:=dd) bA.o (nM _) gE.o pR.o.1 (cA.o.trans aV (λ_ _ h=>h.elim)) (gS.o.keep0 aV) (λ_=>trivial) (λ g=>((uq.o g).2.keep aV (λ_ _ _ h=>h)).mono k3) (λ b hb=>oM)
  have HDD:=Hd (show gd→jA dd∧bV W3 (λ b=>Qd Lo B (w.heap.size+1) b∧b≠N∧b<NB) dd [v.k,v.nt,v.nm,.slice v.a0 v.n0 v.c0,.slice v.a1 v.n1 v.c1,.slice v.a2 v.n2 v.c2,.slice v.a3 v.n3 v.c3,.slice v.a4 v.n4 v.c4] from λ g=>⟨(uq.o g).1,((uq.o g).2.lt.keep aV (λ_ _ _ h=>h)).mono (λ b _ hb=>by rcases hb.1 with h | h;exact⟨.inl h,by have:=gE.o;have:=bA.o;have:=gS.o.ps;omega,by have:=gE.o;have:=bA.o;have:=gS.o.ps;omega⟩;exact⟨.inr (by have:=pR.o;omega),by have:=pR.o;have:=qk.o;omega,oM⟩)⟩)
  have ut:=Hd (show N<NB∧w.heap.size<NB∧ps<NB by have:=pR.o;have:=qk.o;have:=bA.o;omega);have HF:=Hd hF;have dz:=(show af W3 N [.int .i64 2,q,eS,(),(),(),.slice ON m0 OO,()] from aL);obtain⟨⟨x0,x1,x2,x3,x4,x5,x6,x7⟩,⟨f8,gf,hC,hU,hV,hY,hZ,ia⟩⟩:=dz.eight;obtain⟨⟨u0,u1,u2,u3,u4,u5,u6,u7⟩,⟨E1,E2,E3,E4,E5,E6,E7,E8⟩⟩:=qZ.o.eight
  have fR:=aL.lt;have AB:=qZ.o.lt;have cM:N≠NB:=by have:=ut.o;omega
  clear Zb Rt hF aL dz aV AM TG ke ft HG uq gS cA;go_wp2_with (at_builtin;refine nR _ rfl (.tmp 24) (.tmp 26) _ rfl 0 44 i0 _ 8 152 Tryz.underlying23 fo fC fp fq rfl oM (.slice ON m0 OO) m0 xs rfl (hown4.alloc _) ⟨W3.heap.size,0,none⟩ 1 1 [v.k,v.nt,v.nm,.slice v.a0 v.n0 v.c0,.slice v.a1 v.n1 v.c1,.slice v.a2 v.n2 v.c2,.slice v.a3 v.n3 v.c3,.slice v.a4 v.n4 v.c4] rfl rfl (nK (cs:=#[.int .i64 v.k,.bool v.nt,.string v.nm,.slice v.a0 v.n0 v.c0,.slice v.a1 v.n1 v.c1,.slice v.a2 v.n2 v.c2,.slice v.a3 v.n3 v.c3,.slice v.a4 v.n4 v.c4]) (t:=44) (fr:=(0,0)) (nG W3 _)) oC oM uM oM sI (W3.heap.size+1) sI ?_;intro gg aC w5 aK ao bf gT;have gA:=HF.o gg (m0+1) aC w5 _ aK ((ae.refl _ _).alloc _) ao (bf.imp id (λ h=>oM));obtain⟨aH,lB,bi⟩:=gA;have aH:=(show af w5 N [.int .i64 2,q,eS,(),(),(),.slice ON m0 OO,()] from aH);obtain⟨⟨z0,z1,z2,z3,z4,z5,z6,z7⟩,⟨gO,gP,ib,ic,ie,ig,ii,ij⟩⟩:=aH.eight;have qy:=aH.lt;have fc:=Hd (show QR (λ b=>b=NB) gd w (w5.setCell ⟨N,6,none⟩ (.slice (some ⟨gg,0,none⟩) (m0+1) aC)) Lo B ps tv n T (w.heap.size+1) N [.int .i64 0,false,eS,(),(),(),(),()] [.int 2,.bool q,.str [],.sl 1 [],.sl 2 [],.sl 2 []] [.sl 2 []] [.int .i64 2,q,eS,(),(),()] [()] 8 44 j2 bd (m0+1) (some ⟨gg,0,none⟩) aC ([]++dd) from lB);have HKK:=Hd bi;clear aH lB bi;clear aK ao bf)
  go_loopg [] (T.length+2000 - j2) (λ g wr=>∃(gd:Prop) (I x m:Nat) (la:OA) (lc:Nat) (acc:List Dt),g=T.length+2000 - I∧i≤I∧I≤T.length+2*K∧1≤m∧m≤I+1∧Hid (QR (λ b=>b=NB) gd w wr Lo B ps tv n T (w.heap.size+1) N [.int .i64 0,false,eS,(),(),(),(),()] [.int 2,.bool q,.str [],.sl 1 [],.sl 2 [],.sl 2 []] [.sl 2 []] [.int .i64 2,q,eS,(),(),()] [()] 8 44 I x m la lc acc)∧Hid (gd→gD acc)∧Hid (gd→m=1→bV wr (λ b=>Qd Lo B (w.heap.size+1) b∧b≠N∧b<NB) acc [v.k,v.nt,v.nm,.slice v.a0 v.n0 v.c0,.slice v.a1 v.n1 v.c1,.slice v.a2 v.n2 v.c2,.slice v.a3 v.n3 v.c3,.slice v.a4 v.n4 v.c4])∧Hid (af wr NB [v.k,v.nt,v.nm,.slice v.a0 v.n0 v.c0,.slice v.a1 v.n1 v.c1,.slice v.a2 v.n2 v.c2,.slice v.a3 v.n3 v.c3,.slice v.a4 v.n4 v.c4])∧Hid (C6 gd (PG K q acc T I res) T I x res))
  case atStart=>exact⟨gd,j2,bd,m0+1,_,_,dd,rfl,oM,Eb,oM,by have:=Si.o;omega,fc,Hd (λ g=>gD.of (HDD.o g).1),Hd (λ g _=>((HDD.o g).2.keep HKK.o (λ b _ hb e=>by have:=ut.o;rcases e with e | e;exact hb.2.1 e;exact Sh.o _ e))),Hd (qZ.o.keep HKK.o (λ e=>by have:=ut.o;rcases e with e | e;omega;exact Sh.o _ e)),eI⟩
  case round=>
   obtain⟨gd,I,x,m,la,lc,acc,eH,mI,Ng,hm1,yj,HG,zN,yx,qZ,eI⟩:=hrel;have fK:=Hd eH;clear eH
   try clear z0 z1 z2 z3 z4 z5 z6 z7 gO gP ib ic ie ig ii ij qy
   try clear x0 x1 x2 x3 x4 x5 x6 x7 f8 gf hC hU hV hY hZ ia fR
   try clear u0 u1 u2 u3 u4 u5 u6 u7 E1 E2 E3 E4 E5 E6 E7 E8 AB
   obtain⟨c0,c1,c2,f1,f2⟩:=HG.o.rs.cells;have aW:=HG.o.rs.lt;by_cases hx:x=0
   ·subst hx;cases ho:aj [124] (T.drop I) with
    | true=>
     obtain⟨g,p8,M,hM,hr⟩:gd∧I≤T.length∧PG K q acc T I res:=by
      rcases eI.o with ⟨g,_,p8,hp⟩ | ⟨h9,_⟩ | ⟨_,h9,_⟩
      ·exact⟨g,p8,hp⟩
      ·exact nQ rfl h9
      ·rw [lQ h9 [124] dC] at ho;cases ho
     obtain⟨M,rfl⟩:∃M',M=M'+1:=⟨M - 1,oM⟩;rw [Ie ho] at hr;have HR:=Hd hr;have iD:=Hd g;have fa:=bL (dA ho);have pW:IntKind.i64.wrap ((I:Int)+1)=(I:Int)+1:=nL _ oM;have HQ:=Hd (aY HG.o.rs [124] true ho 0);clear ho hr g eI yx;go_wp2_with fail;refine HQ.o.mono ?_;rintro e wq ⟨rfl,dq,rfl⟩;obtain⟨w2,aQ⟩:∃w2,w2=wr.drewN dq:=⟨_,rfl⟩;rw [←aQ];have aZ:K0 wr w2:=by rw [aQ];exact (ae.refl _ _).drewN _
     replace HG:=Hd (HG.o.keep0 aZ);replace qZ:=Hd (qZ.o.keep aZ (λ h=>h));clear aQ aZ;obtain⟨c0,c1,c2,f1,f2⟩:=HG.o.rs.cells;have aW:=HG.o.rs.lt;go_wp2_with fail;obtain⟨w3,aQ⟩:∃w3,w3=w2.setCell ⟨ps,1,none⟩ (.int .i64 ((I:Int)+1)):=⟨_,rfl⟩;rw [←aQ];replace HG:=Hd (by have h9:=HG.o.inc bA.o (nM _) gE.o oM;rw [←aQ] at h9;exact h9);replace qZ:=Hd (qZ.o.keep (show ae (λ b=>b=ps) w2 w3 by rw [aQ];exact (ae.refl _ _).setCell _ _ λ_=>rfl) (λ e=>by have:=ut.o;omega))
     clear aQ;refine (de _ Lo B ps n (I+1) 0 tv T HG.o.rs).mono ?_;rintro e w4 ⟨rfl,j,ku,hj2,ow,kB,dR,be⟩;have yi:j≤T.length:=hj2 oM;replace HG:=Hd (HG.o.move bA.o (nM _) gE.o be dR);replace qZ:=Hd (qZ.o.keep be (λ e=>by have:=ut.o;omega));replace HR:=Hd (show res=Mm K M q acc (ab K (T.drop j)) by rw [kB,←aG];exact HR.o)
     have sF:=HG.o.rc.lt;have aaK:=Hd (show w.heap.size+1≤w4.heap.size by have:=qk.o;omega);clear dR be kB ow hj2 sF c0 c1 c2 f1 f2 aW;go_wp2_with fail;refine (HC.o w4 Lo B ps n j aN tv T HG.o.rs yi HD.o).mono ?_;rintro e w5 ⟨v2,j5,UB,rfl,XB,Oo,dV,bi,G5⟩;obtain⟨Rk,d5,Ea,Ek⟩:=G5.state (Mm K M q acc) (λ e=>rfl) (λ h=>by cases h) HR.o;have eI:=Hd (Ek.map (good2:=PG K q (acc++d5) T j5 res) (λ_ h=>⟨M,oM,h⟩))
     have uq:=Hd Ea;have l6:=Hd dV;have fL:=Hd bi;clear Ea Ek dV bi G5;go_upto_region 11 with fail;obtain⟨NC,AC⟩:∃NC,NC=w5.heap.size:=⟨_,rfl⟩;obtain⟨W6,i4⟩:∃W6,W6=w5.alloc (.cells #[v2.k,v2.nt,v2.nm,.slice v2.a0 v2.n0 v2.c0,.slice v2.a1 v2.n1 v2.c1,.slice v2.a2 v2.n2 v2.c2,.slice v2.a3 v2.n3 v2.c3,.slice v2.a4 v2.n4 v2.c4] 44):=⟨_,rfl⟩;rw [←i4]
     try rw [←AC]
     have cu:K0 w5 W6:=by rw [i4];exact (ae.refl _ _).alloc _
     have Vn:=Hd (show af W6 NC [v2.k,v2.nt,v2.nm,.slice v2.a0 v2.n0 v2.c0,.slice v2.a1 v2.n1 v2.c1,.slice v2.a2 v2.n2 v2.c2,.slice v2.a3 v2.n3 v2.c3,.slice v2.a4 v2.n4 v2.c4] by rw [i4,AC];exact aD _ _ _ _ _ _ _ _ _ _);have TH:=fL.o.size;have LP:W6.heap.size=w5.heap.size+1:=by rw [i4];simp
     have abO:=qZ.o.lt;obtain⟨xs,hown4,aL,hF⟩:=HG.o.more (G':=Rk) (y:=UB) (J:=j5) (us:=[.int .i64 v2.k,.bool v2.nt,.string v2.nm,.slice v2.a0 v2.n0 v2.c0,.slice v2.a1 v2.n1 v2.c1,.slice v2.a2 v2.n2 v2.c2,.slice v2.a3 v2.n3 v2.c3,.slice v2.a4 v2.n4 v2.c4]) (d2:=d5) bA.o (nM _) gE.o aaK.o (fL.o.trans cu (λ_ _ h=>h.elim)) (l6.o.keep0 cu) (λ_=>iD.o) (λ g=>((uq.o g).2.keep cu (λ_ _ _ h=>h)).mono k3) (λ b hb=>oM)
     have HF:=Hd hF;have yw:=Hd HG.o.ex;have ZV:=Hd ((qZ.o.keep fL.o (λ e=>by have:=ut.o;omega)).keep cu (λ h=>h));have Zy:=Hd (show Rk→gD (acc++d5) from λ g=>(zN.o iD.o).app (gD.of (uq.o g).1));have dz:=(show af W6 N [.int .i64 2,q,eS,(),(),(),.slice la m lc,()] from aL);obtain⟨⟨x0,x1,x2,x3,x4,x5,x6,x7⟩,⟨f8,gf,hC,hU,hV,hY,hZ,ia⟩⟩:=dz.eight
     obtain⟨⟨u0,u1,u2,u3,u4,u5,u6,u7⟩,⟨E1,E2,E3,E4,E5,E6,E7,E8⟩⟩:=Vn.o.eight;have fR:=aL.lt;have Oh:=Vn.o.lt;have cM:N≠NC:=by have:=ut.o;omega
     clear hF aL dz cu TH LP AC i4 HG uq l6 fL abO qZ zN;go_wp2_with (at_builtin;refine nR _ rfl (.tmp 51) (.tmp 53) _ rfl 0 44 i0 _ 8 152 Tryz.underlying23 fo fC fp fq rfl oM (.slice la m lc) m xs rfl (hown4.alloc _) ⟨W6.heap.size,0,none⟩ 1 1 [v2.k,v2.nt,v2.nm,.slice v2.a0 v2.n0 v2.c0,.slice v2.a1 v2.n1 v2.c1,.slice v2.a2 v2.n2 v2.c2,.slice v2.a3 v2.n3 v2.c3,.slice v2.a4 v2.n4 v2.c4] rfl rfl (nK (cs:=#[.int .i64 v2.k,.bool v2.nt,.string v2.nm,.slice v2.a0 v2.n0 v2.c0,.slice v2.a1 v2.n1 v2.c1,.slice v2.a2 v2.n2 v2.c2,.slice v2.a3 v2.n3 v2.c3,.slice v2.a4 v2.n4 v2.c4]) (t:=44) (fr:=(0,0)) (nG W6 _)) oC oM uM oM sI (W6.heap.size+1) sI ?_;intro gg aC w5 aK ao bf gT;have gA:=HF.o gg (m+1) aC w5 _ aK ((ae.refl _ _).alloc _) ao (bf.imp id (λ h=>oM));obtain⟨aH,lB,bi⟩:=gA;have aH:=(show af w5 N [.int .i64 2,q,eS,(),(),(),.slice la m lc,()] from aH);obtain⟨⟨z0,z1,z2,z3,z4,z5,z6,z7⟩,⟨gO,gP,ib,ic,ie,ig,ii,ij⟩⟩:=aH.eight;have qy:=aH.lt;have fc:=Hd (show QR (λ b=>b=NB) Rk w (w5.setCell ⟨N,6,none⟩ (.slice (some ⟨gg,0,none⟩) (m+1) aC)) Lo B ps tv n T (w.heap.size+1) N [.int .i64 0,false,eS,(),(),(),(),()] [.int 2,.bool q,.str [],.sl 1 [],.sl 2 [],.sl 2 []] [.sl 2 []] [.int .i64 2,q,eS,(),(),()] [()] 8 44 j5 UB (m+1) (some ⟨gg,0,none⟩) aC (acc++d5) from lB);have HKK:=Hd bi;clear aH lB bi;clear aK ao bf)
     go_roundg (T.length+2000 - j5)
     case measure=>have:=fK.o;omega
     case rel=>exact⟨Rk,j5,UB,m+1,_,_,acc++d5,rfl,oM,Oo,oM,oM,fc,Zy,Hd (λ g h=>oM),Hd (ZV.o.keep HKK.o (λ e=>by have:=ut.o;rcases e with e | e;omega;exact yw.o _ e rfl)),eI⟩
    | false=>
     have HQ:=Hd (aY HG.o.rs [124] false ho 0);have HX:=Hd (show 0≠0∨aj [124] (T.drop I)=false from .inr ho);clear ho;go_wp2_with fail;refine HQ.o.mono ?_;rintro e wq ⟨rfl,dq,rfl⟩;obtain⟨w2,aQ⟩:∃w2,w2=wr.drewN dq:=⟨_,rfl⟩;rw [←aQ];have aZ:K0 wr w2:=by rw [aQ];exact (ae.refl _ _).drewN _
     replace HG:=Hd (HG.o.keep0 aZ);replace qZ:=Hd (qZ.o.keep aZ (λ h=>h));replace yx:=Hd (λ g h=>(yx.o g h).keep aZ (λ_ _ _ h=>h));clear aQ aZ;clear c0 c1 c2 f1 f2 aW;obtain⟨wf,qF⟩:∃wf,wf=w2:=⟨_,rfl⟩;rw [←qF];rw [←qF] at HG yx qZ;clear qF;obtain⟨⟨x0,x1,x2,x3,x4,x5,x6,x7⟩,⟨f8,gf,hC,hU,hV,hY,hZ,ia⟩⟩:=(show af wf N [.int .i64 2,q,eS,(),(),(),.slice la m lc,()] from HG.o.rc).eight
     obtain⟨⟨n0,n1,n2,n3,n4,n5,n6,n7⟩,⟨Jy,Jz,nf2,nf3,nf4,nf5,nf6,nf7⟩⟩:=qZ.o.eight;have fR:=HG.o.rc.lt;have AB:=qZ.o.lt;have cM:N≠NB:=by have:=ut.o;omega
     by_cases hm:m=1
     ·subst hm;cases q with
      | false=>
       have hf:=mw (w:=wf) (D:=λ b=>Qd Lo B w.heap.size b∧b≠w.heap.size) (us:=[.int .i64 v.k,.bool v.nt,.string v.nm,.slice v.a0 v.n0 v.c0,.slice v.a1 v.n1 v.c1,.slice v.a2 v.n2 v.c2,.slice v.a3 v.n3 v.c3,.slice v.a4 v.n4 v.c4]) eI.o HX.o HG.o.mlen zN.o (λ g=>by rw [nE ⟨rfl,rfl⟩];exact (yx.o g rfl).mono (λ b _ hb=>⟨by rcases hb.1 with h | h;exact .inl h;exact .inr oM,by rcases hb.1 with h | h;exact (by have:=bA.o;have:=HG.o.rs.ps;omega);exact oM⟩))
       have HF:=Hd hf;have HK:=Hd HG.o.kp;have HS:=Hd HG.o.rs;clear hf;obtain⟨⟨z0,z1,z2,z3,z4,z5,z6,z7⟩,⟨gO,gP,ib,ic,ie,ig,ii,ij⟩⟩:=HG.o.zr.eight;have fT:=HG.o.zr.lt;go_wp2_with fail;refine nJ (v:=.agg #[v.k,v.nt,v.nm,.slice v.a0 v.n0 v.c0,.slice v.a1 v.n1 v.c1,.slice v.a2 v.n2 v.c2,.slice v.a3 v.n3 v.c3,.slice v.a4 v.n4 v.c4]) (by simp [results,Tryz.results123,go_sem,z0,z1,z2,z3,z4,z5,z6,z7]) rfl ?_
       exact WF
      | true=>
       have hf:=mw (w:=wf) (D:=λ b=>Qd Lo B w.heap.size b∧b≠w.heap.size) (us:=[.int .i64 2,.bool true,.string ⟨#[]⟩,.slice none 0 0,.slice none 0 0,.slice none 0 0,.slice la 1 lc,.slice none 0 0]) eI.o HX.o HG.o.mlen zN.o (λ g=>by rw [nF sI];exact (HG.o.all g).mono (λ b _ hb=>⟨by rcases hb with h | h;exact .inl h;exact .inr oM,by rcases hb with h | h;exact (by have:=bA.o;have:=HG.o.rs.ps;omega);exact oM⟩))
       have HF:=Hd hf;have HK:=Hd HG.o.kp;have HS:=Hd HG.o.rs;clear hf;obtain⟨⟨z0,z1,z2,z3,z4,z5,z6,z7⟩,⟨gO,gP,ib,ic,ie,ig,ii,ij⟩⟩:=HG.o.zr.eight;have fT:=HG.o.zr.lt;go_wp2_with fail;refine nJ (v:=.agg #[.int .i64 2,true,eS,(),(),(),.slice la 1 lc,()]) (by simp [results,Tryz.results123,go_sem,z0,z1,z2,z3,z4,z5,z6,z7]) rfl ?_
       obtain⟨f1,f2,f3⟩:=cI HK.o HS.o bA.o HF.o (ap wf w.heap.size (.int .i64 2) (.bool true) (.string ⟨#[]⟩) (.slice none 0 0) (.slice none 0 0) (.slice none 0 0) (.slice la 1 lc) (.slice none 0 0));exact⟨⟨2,true,⟨#[]⟩,none,0,0,none,0,0,none,0,0,la,1,lc,none,0,0⟩,I,0,rfl,mI,Ng,f1,f2,f3⟩
     ·have t1:((m:Int)==1)=false:=by rw [nA];omega
      have HM:=Hd hm;clear hm;have hf:=mw (w:=wf) (D:=λ b=>Qd Lo B w.heap.size b∧b≠w.heap.size) (us:=[.int .i64 2,.bool q,.string ⟨#[]⟩,.slice none 0 0,.slice none 0 0,.slice none 0 0,.slice la m lc,.slice none 0 0]) eI.o HX.o HG.o.mlen zN.o (λ g=>by rw [nF (λ h=>HM.o h.1)];exact (HG.o.all g).mono (λ b _ hb=>⟨by rcases hb with h | h;exact .inl h;exact .inr oM,by rcases hb with h | h;exact (by have:=bA.o;have:=HG.o.rs.ps;omega);exact oM⟩))
      have HF:=Hd hf;have HK:=Hd HG.o.kp;have HS:=Hd HG.o.rs;clear hf;obtain⟨⟨z0,z1,z2,z3,z4,z5,z6,z7⟩,⟨gO,gP,ib,ic,ie,ig,ii,ij⟩⟩:=HG.o.zr.eight;have fT:=HG.o.zr.lt;go_wp2_with fail;refine nJ (v:=.agg #[.int .i64 2,q,eS,(),(),(),.slice la m lc,()]) (by simp [results,Tryz.results123,go_sem,z0,z1,z2,z3,z4,z5,z6,z7]) rfl ?_
      obtain⟨f1,f2,f3⟩:=cI HK.o HS.o bA.o HF.o (ap wf w.heap.size (.int .i64 2) (.bool q) (.string ⟨#[]⟩) (.slice none 0 0) (.slice none 0 0) (.slice none 0 0) (.slice la m lc) (.slice none 0 0));exact⟨⟨2,q,⟨#[]⟩,none,0,0,none,0,0,none,0,0,la,m,lc,none,0,0⟩,I,0,rfl,mI,Ng,f1,f2,f3⟩
   ·have t:((x:Int)==0)=false:=by rw [nA];omega
    have HX:=Hd (show x≠0∨aj [124] (T.drop I)=false from .inl hx);clear hx;go_upto_region 12 with fail;obtain⟨wf,qF⟩:∃wf,wf=wr:=⟨_,rfl⟩;rw [←qF];rw [←qF] at HG yx qZ;clear qF;obtain⟨⟨x0,x1,x2,x3,x4,x5,x6,x7⟩,⟨f8,gf,hC,hU,hV,hY,hZ,ia⟩⟩:=(show af wf N [.int .i64 2,q,eS,(),(),(),.slice la m lc,()] from HG.o.rc).eight
    obtain⟨⟨n0,n1,n2,n3,n4,n5,n6,n7⟩,⟨Jy,Jz,nf2,nf3,nf4,nf5,nf6,nf7⟩⟩:=qZ.o.eight;have fR:=HG.o.rc.lt;have AB:=qZ.o.lt;have cM:N≠NB:=by have:=ut.o;omega
    by_cases hm:m=1
    ·subst hm;cases q with
     | false=>
      have hf:=mw (w:=wf) (D:=λ b=>Qd Lo B w.heap.size b∧b≠w.heap.size) (us:=[.int .i64 v.k,.bool v.nt,.string v.nm,.slice v.a0 v.n0 v.c0,.slice v.a1 v.n1 v.c1,.slice v.a2 v.n2 v.c2,.slice v.a3 v.n3 v.c3,.slice v.a4 v.n4 v.c4]) eI.o HX.o HG.o.mlen zN.o (λ g=>by rw [nE ⟨rfl,rfl⟩];exact (yx.o g rfl).mono (λ b _ hb=>⟨by rcases hb.1 with h | h;exact .inl h;exact .inr oM,by rcases hb.1 with h | h;exact (by have:=bA.o;have:=HG.o.rs.ps;omega);exact oM⟩))
      have HF:=Hd hf;have HK:=Hd HG.o.kp;have HS:=Hd HG.o.rs;clear hf;obtain⟨⟨z0,z1,z2,z3,z4,z5,z6,z7⟩,⟨gO,gP,ib,ic,ie,ig,ii,ij⟩⟩:=HG.o.zr.eight;have fT:=HG.o.zr.lt;go_wp2_with fail;refine nJ (v:=.agg #[v.k,v.nt,v.nm,.slice v.a0 v.n0 v.c0,.slice v.a1 v.n1 v.c1,.slice v.a2 v.n2 v.c2,.slice v.a3 v.n3 v.c3,.slice v.a4 v.n4 v.c4]) (by simp [results,Tryz.results123,go_sem,z0,z1,z2,z3,z4,z5,z6,z7]) rfl ?_
      exact WG
     | true=>
      have hf:=mw (w:=wf) (D:=λ b=>Qd Lo B w.heap.size b∧b≠w.heap.size) (us:=[.int .i64 2,.bool true,.string ⟨#[]⟩,.slice none 0 0,.slice none 0 0,.slice none 0 0,.slice la 1 lc,.slice none 0 0]) eI.o HX.o HG.o.mlen zN.o (λ g=>by rw [nF sI];exact (HG.o.all g).mono (λ b _ hb=>⟨by rcases hb with h | h;exact .inl h;exact .inr oM,by rcases hb with h | h;exact (by have:=bA.o;have:=HG.o.rs.ps;omega);exact oM⟩))
      have HF:=Hd hf;have HK:=Hd HG.o.kp;have HS:=Hd HG.o.rs;clear hf;obtain⟨⟨z0,z1,z2,z3,z4,z5,z6,z7⟩,⟨gO,gP,ib,ic,ie,ig,ii,ij⟩⟩:=HG.o.zr.eight;have fT:=HG.o.zr.lt;go_wp2_with fail;refine nJ (v:=.agg #[.int .i64 2,true,eS,(),(),(),.slice la 1 lc,()]) (by simp [results,Tryz.results123,go_sem,z0,z1,z2,z3,z4,z5,z6,z7]) rfl ?_
      obtain⟨f1,f2,f3⟩:=cI HK.o HS.o bA.o HF.o (ap wf w.heap.size (.int .i64 2) (.bool true) (.string ⟨#[]⟩) (.slice none 0 0) (.slice none 0 0) (.slice none 0 0) (.slice la 1 lc) (.slice none 0 0));exact⟨⟨2,true,⟨#[]⟩,none,0,0,none,0,0,none,0,0,la,1,lc,none,0,0⟩,I,x,rfl,mI,Ng,f1,f2,f3⟩
    ·have t1:((m:Int)==1)=false:=by rw [nA];omega
     have HM:=Hd hm;clear hm;have hf:=mw (w:=wf) (D:=λ b=>Qd Lo B w.heap.size b∧b≠w.heap.size) (us:=[.int .i64 2,.bool q,.string ⟨#[]⟩,.slice none 0 0,.slice none 0 0,.slice none 0 0,.slice la m lc,.slice none 0 0]) eI.o HX.o HG.o.mlen zN.o (λ g=>by rw [nF (λ h=>HM.o h.1)];exact (HG.o.all g).mono (λ b _ hb=>⟨by rcases hb with h | h;exact .inl h;exact .inr oM,by rcases hb with h | h;exact (by have:=bA.o;have:=HG.o.rs.ps;omega);exact oM⟩))
     have HF:=Hd hf;have HK:=Hd HG.o.kp;have HS:=Hd HG.o.rs;clear hf;obtain⟨⟨z0,z1,z2,z3,z4,z5,z6,z7⟩,⟨gO,gP,ib,ic,ie,ig,ii,ij⟩⟩:=HG.o.zr.eight;have fT:=HG.o.zr.lt;go_wp2_with fail;refine nJ (v:=.agg #[.int .i64 2,q,eS,(),(),(),.slice la m lc,()]) (by simp [results,Tryz.results123,go_sem,z0,z1,z2,z3,z4,z5,z6,z7]) rfl ?_
     obtain⟨f1,f2,f3⟩:=cI HK.o HS.o bA.o HF.o (ap wf w.heap.size (.int .i64 2) (.bool q) (.string ⟨#[]⟩) (.slice none 0 0) (.slice none 0 0) (.slice none 0 0) (.slice la m lc) (.slice none 0 0));exact⟨⟨2,q,⟨#[]⟩,none,0,0,none,0,0,none,0,0,la,m,lc,none,0,0⟩,I,x,rfl,mI,Ng,f1,f2,f3⟩
end Go.Proofs.YtiihpbccabeoeaaGreatDoor
