/- The walk: a part. -/
import Derived.Test.YtiihpbccabeoeaaGreatDoorVM
import Derived.Test.YtiihpbccabeoeaaGreatDoorVPxAD
import Derived.Deep.CutBlock
namespace Go.Proofs.YtiihpbccabeoeaaGreatDoor
open Go.RowKit
set_option linter.unusedVariables false
set_option maxRecDepth 100000
set_option maxHeartbeats 16000000
theorem DT {K:Nat} {w:World} {D:Nat→Prop} {T:List Tk} {i j x:Nat} {us:List Value} {res:PR (List Dt)} (hs:NM T) (hb:bB (T.drop i)=true) (hc:gj (T.drop i)=false) (hf:(bK (aJ (ch (T.drop i))) && aj [40] (T.drop (i+1)) && aj [41] (T.drop (i+2)))=false) (ag:res=ab (K+1) (T.drop i))
 (h:QF false w D T (bj (av (ab K)) ((T.drop i).length+1) [] [] [] (T.drop i)) us j x):QF false w D T res us j x:=by
 cases hn:(bK (aJ (ch (T.drop i))) && aj [40] (T.drop i).tail) with
 | false=>rw [ag,vH hb hc hn];exact h
 | true=>
  rw [nW] at hn;obtain⟨h1,h2⟩:=hn;obtain⟨n1,n2,n3⟩:=Hz hs h1 (av (ab K));rw [A4 h1 h2 n1 n2 n3] at h;rw [aG] at h2;rw [h1,h2] at hf;rw [aG] at h;rcases h with ⟨hx,_,_,hj,_⟩ | ⟨h9,_⟩
  ·refine QF.stk (by rw [hj];exact h2) hx ?_;rw [ag,rK hb hc h1 (by rw [aG];exact h2),se,aG,aG];rw [show aj [41] (T.drop (i+1+1))=false from hf];rfl
  ·cases h9
theorem K2 {K:Nat} {T:List Tk} {i:Nat} {res:PR (List Dt)} (hb:bB (T.drop i)=true) (hc:gj (T.drop i)=false) (h1:bK (aJ (ch (T.drop i)))=true) (h2:aj [40] (T.drop (i+1))=true) (h3:aj [41] (T.drop (i+2))=true) (ag:res=ab (K+1) (T.drop i)) :
 res=if gj (ai (T.drop (i+3))) then tf (aJ (ch (T.drop i))) (ab K (ai (T.drop (i+3)))) else .error 2:=by
 rw [ag,rK hb hc h1 (by rw [aG];exact h2),se,aG,aG,aG,nE (show aj [41] (T.drop (i+1+1))=true from h3)]
theorem Mr {cl:Bool} {w w':World} {D:Nat→Prop} {T:List Tk} {res:PR (List Dt)} {us:List Value} {j x:Nat} (h:QF cl w D T res us j x) (hk:K0 w w'):QF cl w' D T res us j x:=by
 cases res with
 | error y=>exact h
 | ok p=>
  obtain⟨ds,r⟩:=p;rcases h with ⟨h0,h1,h2,h3,h5⟩ | h
  ·exact .inl ⟨h0,h1,h2.keep hk (λ_ _ _ h=>h),h3,h5⟩
  ·exact .inr h
theorem Ib {w w6 w8 wE:World} {Lo B ps:Nat} {tv:Value} {n:Nat} {T:List Tk} {J x X:Nat} {name:Bs} {res gr:PR (List Dt)} {v:NV} (hk:ae (λ b=>b=ps) w w6) (hs:QS w6 Lo B ps tv n T J x) (hc:ps<w.heap.size) (hw:w.heap.size<w6.heap.size) (hX:w.heap.size<X)
 (h8:ae (λ b=>b=w.heap.size) w6 w8) (ek:w8.heap.size=w6.heap.size) (hE:wE=w8.alloc (.cells v.vals.toArray 44)) (ag:res=tf name gr) (hq:QF false w6 (Qd Lo B X) T gr v.vals J x) :
 QS wE Lo B ps tv n T J x∧ae (λ b=>b=ps) w wE∧QF false wE (Qd Lo B w.heap.size) T res (NV.vals ⟨(11:Nat),false,⟨name.toArray⟩,none,0,0,none,0,0,none,0,0,some ⟨w6.heap.size,0,none⟩,1,1,none,0,0⟩) J x:=by
 have hB:=hs.ps;have Oq:K0 w8 wE:=by rw [hE];exact (ae.refl _ _).alloc _
 refine⟨(hs.keep h8 (λ b hb e=>oM) (λ e=>oM)).keep0 Oq,(hk.fresh h8 (λ b e=>oM)).trans Oq (λ_ _ e=>e.elim),?_⟩;rcases hq.split (tf name) (λ e=>rfl) (λ h=>by cases h) with ⟨d,r,hg,hx,hn,hd,hj,hl⟩ | ⟨hx,hg⟩ | ⟨hx,ho,hg⟩
 ·have h1:=(hd.keep h8 (λ b _ hb e=>by rcases hb with h | h<;>omega)).mono (D':=Qd Lo B w.heap.size) (λ b _ hb=>by rcases hb with h | h;exact .inl h;exact .inr oM);have h2:=fk (k:=8) (m:=1) h1 (by rw [hn.len]) dC hE (.inr oM);rw [ek] at h2;exact QF.good (by rw [ag,hg,hj];rfl) hx ⟨_,_,_,_,_,_,_,_,rfl⟩ ⟨.int _,.bool _,.str _,.nil _ _ _ (nB _),.nil _ _ _ (nB _),.nil _ _ _ (nB _),h2,.nil _ _ _ (nB _),trivial⟩ rfl hl
 ·exact QF.err hx (by rw [ag,hg])
 ·exact QF.stk ho hx (by rw [ag,hg])
theorem yp (K:Nat) (bw:ez K) (cR:iK K):ez (K+1):=by
 intro w Lo B ps n i aN tv T h hi hd;obtain⟨res,ag⟩:∃res,res=ab (K+1) (T.drop i):=⟨_,rfl⟩;rw [←ag];obtain⟨s,hs⟩:∃s,aJ (ch (T.drop i))=s:=⟨_,rfl⟩;obtain⟨kw,aZ⟩:∃kw,((ch (T.drop i)).kind==1)=kw:=⟨_,rfl⟩;obtain⟨rv,TC⟩:∃rv,bJ.contains s=rv:=⟨_,rfl⟩;obtain⟨cb,D9⟩:∃cb,gj (T.drop i)=cb:=⟨_,rfl⟩;obtain⟨rb,ol⟩:∃rb,bP (T.drop i)=rb:=⟨_,rfl⟩;obtain⟨wb,TN⟩:∃wb,wb=(kw && !rv):=⟨_,rfl⟩
 obtain⟨nb,yk⟩:∃nb,nb = !(wb || cb || rb):=⟨_,rfl⟩;have xJ:=Hd yk;have R2:=Hd (show bB (T.drop i) = !nb by rw [rC,hs,aZ,TC,D9,ol,yk,TN,Bool.not_not]);have SG:=Hd TN;have Sv:=Hd hs;have dO:=Hd aZ;have HRV:=Hd TC;have R5:=Hd D9;have oD:=Hd ol;have bA:=Hd h.lt;have HS:=Lib.hid h;have HD:=Hd hd;have ay:=Hd ag;have AK:T.length≤20000:=h.sm.1;have Je:IntKind.i64.wrap ((aN:Int)+1)=(aN:Int)+1:=nL _ oM
 have ov:=aT;clear h hd ag hs aZ TC D9 ol TN yk;have HC:=Hd bw;have cK:=Hd cR;have ZC:=Hd (show aN+1+K=41 by have:=HD.o;omega);have Zm:((40:Int)<(aN:Int))=False:=eq_false (by have:=HD.o;omega);have p41:¬(40:Int)<(aN:Int):=by have:=HD.o;omega
 clear bw cR;go_enter Tryz.func142,Tryz.ntmps142;go_wp2_with fail;obtain⟨W,hW⟩:∃W,W=w.alloc (.cells #[.int .i64 0,false,eS,(),(),(),(),()] 44):=⟨_,rfl⟩;have dt:K0 w W:=by rw [hW];exact (ae.refl _ _).alloc _
 have HZ:=Hd (show af W w.heap.size [.int .i64 0,false,eS,(),(),(),(),()] by rw [hW];exact aD w _ _ _ _ _ _ _ _ _);rw [←hW];have HK:=Hd (dt.mono (T:=λ b=>b=ps) (λ_ _ h=>h.elim));replace HS:=Hd (HS.o.keep0 dt);clear dt hW;have HQ:=Hd (di HS.o s Sv.o 0);refine HQ.o.mono ?_;rintro e wq ⟨rfl,dq,rfl⟩
 obtain⟨w1,aQ⟩:∃w1,w1=W.drewN dq:=⟨_,rfl⟩;rw [←aQ];have aZ:K0 W w1:=by rw [aQ];exact (ae.refl _ _).drewN _
 replace HS:=Hd (HS.o.keep0 aZ);replace HZ:=Hd (HZ.o.keep aZ (λ h=>h));replace HK:=Hd (HK.o.trans aZ (λ_ _ h=>h.elim));clear aQ aZ;clear HQ;go_upto_region 2 with fail;go_cut [6] from 13 to 19 (λ v6 wx=>∃wy:World,wy=wx∧v6=.bool wb∧Hid (QS wy Lo B ps tv n T i 0)∧Hid (af wy w.heap.size [.int .i64 0,false,eS,(),(),(),(),()])∧Hid (ae (λ b=>b=ps) w wy))
 case first=>
  exact V7
 case rest=>
 clear HS HZ HK;obtain⟨wy,Cb,hv,HS,HZ,HK⟩:=hcut;subst Cb hv;have HQ:=Hd (te wy Lo B ps n i 0 tv T HS.o);rw [R5.o] at HQ;go_wp2_with fail;refine HQ.o.mono ?_;rintro e wq ⟨rfl,dq,rfl⟩;obtain⟨w3,aQ⟩:∃w3,w3=wy.drewN dq:=⟨_,rfl⟩;rw [←aQ];have aZ:K0 wy w3:=by rw [aQ];exact (ae.refl _ _).drewN _
 replace HS:=Hd (HS.o.keep0 aZ);replace HZ:=Hd (HZ.o.keep aZ (λ h=>h));replace HK:=Hd (HK.o.trans aZ (λ_ _ h=>h.elim));clear aQ aZ;clear HQ;have HQ:=Hd (qN w3 Lo B ps n i 0 tv T HS.o);rw [oD.o] at HQ;go_wp2_with fail;refine HQ.o.mono ?_;rintro e wq ⟨rfl,dq,rfl⟩;obtain⟨w4,aQ⟩:∃w4,w4=w3.drewN dq:=⟨_,rfl⟩;rw [←aQ];have aZ:K0 w3 w4:=by rw [aQ];exact (ae.refl _ _).drewN _
 replace HS:=Hd (HS.o.keep0 aZ);replace HZ:=Hd (HZ.o.keep aZ (λ h=>h));replace HK:=Hd (HK.o.trans aZ (λ_ _ h=>h.elim));clear aQ aZ;clear HQ;go_upto_region 5 with fail;go_cut [33] from 24 to 33 (λ v6 wx=>∃wy:World,wy=wx∧v6=.bool nb∧Hid (QS wy Lo B ps tv n T i 0)∧Hid (af wy w.heap.size [.int .i64 0,false,eS,(),(),(),(),()])∧Hid (ae (λ b=>b=ps) w wy))
 case first=>
  exact QW
 case rest=>
 clear HS HZ HK;obtain⟨wy,Cb,hv,HS,HZ,HK⟩:=hcut;subst Cb hv;cases nb with
 | true=>
  have gF:=Hd (show res=.error 2 by rw [ay.o];exact Aq R2.o);go_wp2_with fail;refine (eg wy Lo B ps n i 0 2 tv T HS.o).mono ?_;rintro e wz ⟨rfl,ek,kg⟩;have ek:=(show QS wz Lo B ps tv n T i 2 from ek);replace HS:=Hd ek;replace HZ:=Hd (HZ.o.keep kg (λ e=>by have:=bA.o;omega));replace HK:=Hd (HK.o.trans kg k3);have fv:=Hd (show i≤i∧i≤T.length+2*(K+1) by omega)
  exact V8
 | false=>
  cases cb with
  | true=>
   go_wp2_with fail;refine (EA K HC.o cK.o wy Lo B ps n i aN tv T HS.o hi ZC.o R5.o).mono ?_;rintro e w5 ⟨v,j,bd,rfl,vR,rj,d6,aV,tP⟩;go_upto_region 13 with fail;obtain⟨NB,ke⟩:∃NB,NB=w5.heap.size:=⟨_,rfl⟩;obtain⟨W6,gL⟩:∃W6,W6=w5.alloc (.cells #[v.k,v.nt,v.nm,.slice v.a0 v.n0 v.c0,.slice v.a1 v.n1 v.c1,.slice v.a2 v.n2 v.c2,.slice v.a3 v.n3 v.c3,.slice v.a4 v.n4 v.c4] 44):=⟨_,rfl⟩
   rw [←gL]
   try rw [←ke]
   have be:K0 w5 W6:=by rw [gL];exact (ae.refl _ _).alloc _
   have bp:=aV.trans be (λ_ _ h=>h.elim);replace HS:=Hd (d6.keep0 be);have yk:NB≠ps:=by have:=d6.lt;omega
   have HN:=Hd (show af W6 NB [v.k,v.nt,v.nm,.slice v.a0 v.n0 v.c0,.slice v.a1 v.n1 v.c1,.slice v.a2 v.n2 v.c2,.slice v.a3 v.n3 v.c3,.slice v.a4 v.n4 v.c4] by rw [gL,ke];exact aD _ _ _ _ _ _ _ _ _ _);have FR:=HZ.o.lt;replace HZ:=Hd (HZ.o.keep bp (λ e=>by have:=bA.o;omega));replace HK:=Hd (HK.o.trans bp k3);have Ns:=Hd tP;have xK:=Hd (show wy.heap.size≤NB∧NB<W6.heap.size∧w.heap.size<wy.heap.size∧NB=w5.heap.size by have:=aV.size;have:=HN.o.lt;omega)
   have eU:=Hd be;have zS:=Hd (show i≤j∧j≤T.length+(2*K+2) from⟨vR,rj⟩);clear d6 aV tP be bp ke gL vR rj FR;go_wp2_with fail;refine (Cv K cK.o W6 Lo B ps n j bd aN tv T ZC.o HS.o (Ms Ns.o)).mono ?_;rintro e w7 ⟨ra,rm,rc,j2,y,rfl,ku,hj2,LJ,i5,fB⟩;replace HZ:=Hd (HZ.o.keep i5 (λ e=>by have:=bA.o;omega));replace HK:=Hd (HK.o.trans i5 k3)
   replace HN:=Hd (HN.o.keep i5 yk);have Bi:=Hd LJ;have C1:=Hd i5;have Bg:=Hd fB;have fv:=Hd (show i≤j2∧j2≤T.length+2*(K+1) by have:=zS.o;omega);clear LJ i5 fB ku hj2 HS;obtain⟨⟨x0,x1,x2,x3,x4,x5,x6,x7⟩,⟨f8,gf,hC,hU,hV,hY,hZ,ia⟩⟩:=HN.o.eight;have fR:=HN.o.lt;go_upto_region 14 with fail;obtain⟨w9,xN⟩:∃w9,w9=w7.setCell ⟨NB,5,none⟩ (.slice ra rm rc):=⟨_,rfl⟩;rw [←xN];have iQ:ae (λ b=>b=NB) w7 w9:=by rw [xN];exact (ae.refl _ _).setCell _ _ λ_=>rfl
   have ek:=xK.o;have Ry:=bA.o;have HN9:=Hd (show af w9 NB [v.k,v.nt,v.nm,.slice v.a0 v.n0 v.c0,.slice v.a1 v.n1 v.c1,.slice ra rm rc,.slice v.a3 v.n3 v.c3,.slice v.a4 v.n4 v.c4] by rw [xN];exact HN.o.set 5 (.slice ra rm rc));replace HZ:=Hd (HZ.o.keep iQ (λ e=>oM));replace HK:=Hd (HK.o.fresh iQ (λ b e=>oM));have Gt:=Hd (Bi.o.keep iQ (λ b hb e=>by have:=Bi.o.ps;omega) (λ e=>oM))
   have HF9:=Hd (Iw (w9:=w9) (D:=λ b=>Qd Lo B w.heap.size b∧b≠w.heap.size) Ns.o (show res=aM (av (ab K)) (dZ K (T.drop i)) from by rw [ay.o,Ao R2.o R5.o]) (λ ds hr=>by
    have h1:=(((hr.lt.keep eU.o (λ_ _ _ h=>h)).keep C1.o (λ b _ hb e=>by have:=Bi.o.ps;rcases hb.1 with h | h<;>omega)).keep iQ (λ b _ hb e=>oM));exact h1.mono (λ b _ hb=>by have:=Bi.o.ps;rcases hb.1 with h | h;exact⟨.inl h,oM⟩;exact⟨.inr oM,oM⟩)) (λ ds hr=>by
    have h1:=hr.keep iQ (λ b _ hb e=>by have:=Bi.o.ps;rcases hb with h | h<;>omega);exact h1.mono (λ b _ hb=>by have:=Bi.o.ps;rcases hb with h | h;exact⟨.inl h,oM⟩;exact⟨.inr oM,oM⟩)) Bg.o)
   clear xN iQ ek Ry x0 x1 x2 x3 x4 x5 x6 x7 f8 gf hC hU hV hY hZ ia fR HN;obtain⟨⟨x0,x1,x2,x3,x4,x5,x6,x7⟩,⟨f8,gf,hC,hU,hV,hY,hZ,ia⟩⟩:=HN9.o.eight;have fR:=HN9.o.lt;obtain⟨⟨z0,z1,z2,z3,z4,z5,z6,z7⟩,⟨gO,gP,ib,ic,ie,ig,ii,ij⟩⟩:=HZ.o.eight;have fT:=HZ.o.lt;go_wp2_with fail;refine nJ (v:=.agg #[v.k,v.nt,v.nm,.slice v.a0 v.n0 v.c0,.slice v.a1 v.n1 v.c1,.slice ra rm rc,.slice v.a3 v.n3 v.c3,.slice v.a4 v.n4 v.c4]) (by simp [results,Tryz.results142,go_sem,z0,z1,z2,z3,z4,z5,z6,z7]) rfl ?_
   obtain⟨f1,f2,f3⟩:=cI HK.o Gt.o bA.o HF9.o (ap w9 w.heap.size (.int .i64 v.k) (.bool v.nt) (.string v.nm) (.slice v.a0 v.n0 v.c0) (.slice v.a1 v.n1 v.c1) (.slice ra rm rc) (.slice v.a3 v.n3 v.c3) (.slice v.a4 v.n4 v.c4));exact⟨⟨v.k,v.nt,v.nm,v.a0,v.n0,v.c0,v.a1,v.n1,v.c1,ra,rm,rc,v.a3,v.n3,v.c3,v.a4,v.n4,v.c4⟩,j2,y,rfl,fv.o.1,fv.o.2,f1,f2,f3⟩
  | false=>
   obtain⟨ta,tc,htv,ko,il⟩:=HS.o.shape;subst htv;obtain⟨fb,Xs⟩:∃fb,(bK s && aj [40] (T.drop (i+1)) && aj [41] (T.drop (i+2)))=fb:=⟨_,rfl⟩;have Ve:=Hd Xs;clear Xs;go_wp2_with fail;go_cut [125] from 51 to 125 (λ v6 wx=>∃wy:World,wy=wx∧v6=.bool fb∧Hid (QS wy Lo B ps (.slice ta T.length tc) n T i 0)∧Hid (af wy w.heap.size [.int .i64 0,false,eS,(),(),(),(),()])∧Hid (ae (λ b=>b=ps) w wy))
   case first=>
    obtain⟨nq,hnq⟩:∃nq,bK s=nq:=⟨_,rfl⟩;have ZU:=Hd hnq;have Jl:s.length≤140737488351232:=by have:=tY HS.o.sm i;rw [Sv.o] at this;omega
    have HQ:=Hd (show ∀q,Calls Tryz.prog 165 #[.string ⟨s.toArray⟩] (wy.drewN q) (λ e w'=>e=.returned (.bool nq)∧∃q',w'=wy.drewN q') from λ q=>(tg s (wy.drewN q) nq Jl ZU.o).mono λ e w' ⟨h1,q',h2⟩=>⟨h1,q+q',by rw [h2,World.drewN_drewN]⟩);clear hnq Jl;go_wp2_with fail;dsimp only [List.append];cases nq with
    | false=>
     have Gx:=Hd (show fb=false from by rw [←Ve.o,ZU.o];rfl);exact DE
    | true=>
     have dL:IntKind.i64.wrap ((i:Int)+1)=(i:Int)+1:=nL _ oM;have cj:IntKind.i64.wrap ((i:Int)+2)=(i:Int)+2:=nL _ oM;obtain⟨c0,c1,c2,f1,f2⟩:=HS.o.cells;have aW:=HS.o.lt;have Jd:=dY;by_cases h2:i+2<T.length
     ·obtain⟨g,o,xa,xl,xc,hg1,⟨q0,q1,q2⟩,abQ,hg⟩:=HS.o.toks.at (ae.refl _ _) (show i+1<T.length by omega);subst hg1;obtain⟨g2,o2,ya,yl,yc,tQ,⟨r0,r1,r2⟩,abR,B1⟩:=HS.o.toks.at (ae.refl _ _) h2;clear abQ abR B1;injection tQ with tQ;injection tQ with hg3 hg4;subst hg3 hg4;have Vc:=Hd (fY (show i+1<T.length by omega));have R1:=Hd (fY h2);generalize T[i+1]=t1 at q0 q1 q2 Vc
      generalize T[i+2]=t2 at r0 r1 r2 R1;unfold dj at q1 r1;have Bl:((i:Int)+1).toNat=i+1:=oM
      have hn2:((i:Int)+2).toNat=i+2:=oM
      have p2:((i:Int)+2)<(T.length:Int):=oM
      have p1:((i:Int)+1)<(T.length:Int):=oM
      have p0:(0:Int)≤(i:Int)+1:=oM
      have p3:(0:Int)≤(i:Int)+2:=oM
      obtain⟨L,hL⟩:∃L,L=T.length:=⟨_,rfl⟩;obtain⟨k1,bt⟩:∃k1,k1=t1.kind:=⟨_,rfl⟩;obtain⟨x1,xP⟩:∃x1,x1=t1.text:=⟨_,rfl⟩;obtain⟨k2,aS⟩:∃k2,k2=t2.kind:=⟨_,rfl⟩;obtain⟨x2,pX⟩:∃x2,x2=t2.text:=⟨_,rfl⟩;have Sb:=Hd (show fb=(true && (k1==2 && x1==[40]) && (k2==2 && x2==[41])) by rw [←Ve.o,ZU.o,bt,xP,aS,pX];unfold aj;rw [Vc.o,R1.o]);rw [←bt] at q0;rw [←xP] at q1;rw [←aS] at r0;rw [←pX] at r1
      rw [←hL] at c0 p1 p2;clear hL bt xP aS pX Vc R1 h2;by_cases e1:k1=2
      ·subst e1;cases e2:(x1==[40]) with
       | true=>
        by_cases e3:k2=2
        ·subst e3;cases e4:(x2==[41]) with
         | true=>
          have Gx:=Hd (show fb=true from by rw [Sb.o,e2,e4];rfl);exact DE
         | false=>
          have Gx:=Hd (show fb=false from by rw [Sb.o,e4];simp);exact DE
        ·have t3:((k2:Int)==2)=false:=by rw [nA];omega
         have Gx:=Hd (show fb=false from by rw [Sb.o,show (k2==2)=false from by rw [nA];exact e3];simp);exact DE
       | false=>
        have Gx:=Hd (show fb=false from by rw [Sb.o,e2];simp);exact DE
      ·have t1:((k1:Int)==2)=false:=by rw [nA];omega
       have Gx:=Hd (show fb=false from by rw [Sb.o,show (k1==2)=false from by rw [nA];exact e1];simp);exact DE
     ·have p2:(((i:Int)+2)<(T.length:Int))=False:=eq_false oM;have p4:¬((i:Int)+2)<(T.length:Int):=oM
      obtain⟨L,hL⟩:∃L,L=T.length:=⟨_,rfl⟩;have Sb:=Hd (show fb=false by rw [←Ve.o,show aj [41] (T.drop (i+2))=false from by unfold aj;rw [iM oM];rfl,Bool.and_false]);rw [←hL] at c0 p2 p4;clear hL h2;have Gx:=Hd (show fb=false from by exact Sb.o);exact DE
   case rest=>
   clear HS HZ HK;obtain⟨wy,Cb,hv,HS,HZ,HK⟩:=hcut;subst Cb hv;have ZH:=Hd Ve.o;cases fb with
   | false=>
    go_wp2_with fail;refine (Cw K cK.o wy Lo B ps n i aN (.slice ta T.length tc) T HS.o hi ZC.o).mono ?_;rintro e w9 ⟨v,j,bd,rfl,vR,rj,d6,aV,tP⟩;have xK:=Hd HZ.o.lt;replace HZ:=Hd (HZ.o.keep aV (λ e=>by have:=bA.o;omega));have eF:=Hd d6;have bZ:=Hd aV;have Ns:=Hd (DT HS.o.sm R2.o R5.o (by rw [Sv.o,Ve.o]) ay.o tP);have fv:=Hd (show i≤j∧j≤T.length+2*(K+1) by omega)
    clear d6 aV tP vR rj;obtain⟨⟨z0,z1,z2,z3,z4,z5,z6,z7⟩,⟨gO,gP,ib,ic,ie,ig,ii,ij⟩⟩:=HZ.o.eight;have fT:=HZ.o.lt;go_wp2_with fail;refine nJ (v:=.agg #[v.k,v.nt,v.nm,.slice v.a0 v.n0 v.c0,.slice v.a1 v.n1 v.c1,.slice v.a2 v.n2 v.c2,.slice v.a3 v.n3 v.c3,.slice v.a4 v.n4 v.c4]) (by simp [results,Tryz.results142,go_sem,z0,z1,z2,z3,z4,z5,z6,z7]) rfl ?_
    obtain⟨f1,f2,f3⟩:=F4 HK.o xK.o bZ.o eF.o bA.o Ns.o (ap w9 w.heap.size (.int .i64 v.k) (.bool v.nt) (.string v.nm) (.slice v.a0 v.n0 v.c0) (.slice v.a1 v.n1 v.c1) (.slice v.a2 v.n2 v.c2) (.slice v.a3 v.n3 v.c3) (.slice v.a4 v.n4 v.c4));exact⟨v,j,bd,rfl,fv.o.1,fv.o.2,f1,f2,f3⟩
   | true=>
    have Ja:aj [41] (T.drop (i+2))=true:=by have:=ZH.o;simp only [nW] at this;exact this.2
    have tK:aj [40] (T.drop (i+1))=true:=by have:=ZH.o;simp only [nW] at this;exact this.1.2
    have yW:bK s=true:=by have:=ZH.o;simp only [nW] at this;exact this.1.1
    have fm:=bL (dA Ja);have eV:=Hd (K2 R2.o R5.o (by rw [Sv.o];exact yW) tK Ja ay.o);clear Ja tK yW;have ab7:IntKind.i64.wrap ((i:Int)+3)=(i:Int)+3:=nL _ oM;obtain⟨c0,c1,c2,f1,f2⟩:=HS.o.cells;have aW:=HS.o.lt;go_wp2_with fail;obtain⟨wi,xO⟩:∃wi,wi=wy.setCell ⟨ps,1,none⟩ (.int .i64 ((i:Int)+3)):=⟨_,rfl⟩;rw [←xO];obtain⟨dL,bt⟩:=HS.o.set1 (j:=i+3) oM
    rw [show ((i+3:Nat):Int)=(i:Int)+3 by omega,←xO] at dL bt;replace HS:=Hd dL;replace HZ:=Hd (HZ.o.keep bt (λ e=>by have:=bA.o;omega));replace HK:=Hd (HK.o.trans bt k3);clear xO dL bt c0 c1 c2 f1 f2 aW;refine (de wi Lo B ps n (i+3) 0 (.slice ta T.length tc) T HS.o).mono ?_;rintro e wl ⟨rfl,j4,uK,hl2,qB,sC,kD,iE⟩;have ux:j4≤T.length:=hl2 oM
    replace HS:=Hd kD;replace HZ:=Hd (HZ.o.keep iE (λ e=>by have:=bA.o;omega));replace HK:=Hd (HK.o.trans iE k3);rw [←sC,Sv.o] at eV;have zS:=Hd (show i≤j4 by omega);clear uK hl2 qB sC kD iE;obtain⟨cz,hcz⟩:∃cz,gj (T.drop j4)=cz:=⟨_,rfl⟩;have HQ:=Hd (te wl Lo B ps n j4 0 (.slice ta T.length tc) T HS.o);rw [hcz] at HQ eV;clear hcz;go_wp2_with fail
    refine HQ.o.mono ?_;rintro e wq ⟨rfl,dq,rfl⟩;obtain⟨wm,aQ⟩:∃wm,wm=wl.drewN dq:=⟨_,rfl⟩;rw [←aQ];have aZ:K0 wl wm:=by rw [aQ];exact (ae.refl _ _).drewN _
    replace HS:=Hd (HS.o.keep0 aZ);replace HZ:=Hd (HZ.o.keep aZ (λ h=>h));replace HK:=Hd (HK.o.trans aZ (λ_ _ h=>h.elim));clear aQ aZ;clear HQ;cases cz with
    | false=>
     have tq:=Hd (show res=.error 2 from eV.o);go_wp2_with fail;refine (eg wm Lo B ps n j4 0 2 (.slice ta T.length tc) T HS.o).mono ?_;rintro e wz ⟨rfl,ek,kg⟩;have ek:=(show QS wz Lo B ps (.slice ta T.length tc) n T j4 2 from ek);replace HS:=Hd ek;replace HZ:=Hd (HZ.o.keep kg (λ e=>by have:=bA.o;omega));replace HK:=Hd (HK.o.trans kg k3);have fv:=Hd (show i≤j4∧j4≤T.length+2*(K+1) by have:=zS.o;omega)
     clear ek kg;obtain⟨⟨z0,z1,z2,z3,z4,z5,z6,z7⟩,⟨gO,gP,ib,ic,ie,ig,ii,ij⟩⟩:=HZ.o.eight;have fT:=HZ.o.lt;go_wp2_with fail;refine nJ (v:=.agg #[.int .i64 0,false,eS,(),(),(),(),()]) (by simp [results,Tryz.results142,go_sem,z0,z1,z2,z3,z4,z5,z6,z7]) rfl ?_;obtain⟨f1,f2,f3⟩:=cI HK.o HS.o bA.o (show QF false wz (λ b=>Qd Lo B w.heap.size b∧b≠w.heap.size) T res [.int .i64 0,false,eS,(),(),(),(),()] j4 2 from QF.err dC tq.o) (ap wz w.heap.size (.int .i64 0) (.bool false) (.string ⟨#[]⟩) (.slice none 0 0) (.slice none 0 0) (.slice none 0 0) (.slice none 0 0) (.slice none 0 0))
     exact⟨⟨0,false,⟨#[]⟩,none,0,0,none,0,0,none,0,0,none,0,0,none,0,0⟩,j4,2,rfl,fv.o.1,fv.o.2,f1,f2,f3⟩
    | true=>
     have tq:=Hd (show res=tf s (ab K (T.drop j4)) from eV.o);clear eV;go_wp2_with fail;refine (HC.o wm Lo B ps n j4 (aN+1) (.slice ta T.length tc) T HS.o ux (by have:=HD.o;omega)).mono ?_;rintro e w5 ⟨v,j,bd,rfl,vR,rj,d6,aV,tP⟩;go_upto_region 22 with fail;obtain⟨NB,ke⟩:∃NB,NB=w5.heap.size:=⟨_,rfl⟩;obtain⟨W6,gL⟩:∃W6,W6=w5.alloc (.cells #[v.k,v.nt,v.nm,.slice v.a0 v.n0 v.c0,.slice v.a1 v.n1 v.c1,.slice v.a2 v.n2 v.c2,.slice v.a3 v.n3 v.c3,.slice v.a4 v.n4 v.c4] 44):=⟨_,rfl⟩
     rw [←gL]
     try rw [←ke]
     have be:K0 w5 W6:=by rw [gL];exact (ae.refl _ _).alloc _
     have bp:=aV.trans be (λ_ _ h=>h.elim);replace HS:=Hd (d6.keep0 be);have yk:NB≠ps:=by have:=d6.lt;omega
     have HN:=Hd (show af W6 NB [v.k,v.nt,v.nm,.slice v.a0 v.n0 v.c0,.slice v.a1 v.n1 v.c1,.slice v.a2 v.n2 v.c2,.slice v.a3 v.n3 v.c3,.slice v.a4 v.n4 v.c4] by rw [gL,ke];exact aD _ _ _ _ _ _ _ _ _ _);have HX:=Hd HZ.o.lt;replace HZ:=Hd (HZ.o.keep bp (λ e=>by have:=bA.o;omega));replace HK:=Hd (HK.o.trans bp k3);have gR:=Hd (Mr tP be)
     have fv:=Hd (show i≤j∧j≤T.length+2*(K+1) by have:=zS.o;omega);clear d6 aV tP be bp ke gL vR rj;obtain⟨⟨x0,x1,x2,x3,x4,x5,x6,x7⟩,⟨f8,gf,hC,hU,hV,hY,hZ,ia⟩⟩:=HN.o.eight;have fR:=HN.o.lt;obtain⟨⟨z0,z1,z2,z3,z4,z5,z6,z7⟩,⟨gO,gP,ib,ic,ie,ig,ii,ij⟩⟩:=HZ.o.eight;have fT:=HZ.o.lt;go_wp2_with fail;refine nJ (v:=.agg #[.int .i64 11,false,.string ⟨s.toArray⟩,(),(),(),.slice (some ⟨W6.heap.size,0,none⟩) 1 1,()]) (by simp [results,Tryz.results142,go_sem,z0,z1,z2,z3,z4,z5,z6,z7,fT]) rfl ?_
     exact⟨⟨11,false,⟨s.toArray⟩,none,0,0,none,0,0,none,0,0,some ⟨W6.heap.size,0,none⟩,1,1,none,0,0⟩,j,bd,rfl,fv.o.1,fv.o.2,Ib (name:=s) (v:=v) HK.o HS.o bA.o HZ.o.lt HX.o (ap W6 w.heap.size (.int .i64 11) (.bool false) (.string ⟨s.toArray⟩) (.slice none 0 0) (.slice none 0 0) (.slice none 0 0) (.slice (some ⟨W6.heap.size,0,none⟩) 1 1) (.slice none 0 0)) wC rfl tq.o gR.o⟩
end Go.Proofs.YtiihpbccabeoeaaGreatDoor
