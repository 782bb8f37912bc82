/- The walk: a part. -/
import Derived.Test.YtiihpbccabeoeaaGreatDoorVM
import Derived.Test.YtiihpbccabeoeaaGreatDoorVPxU
import Derived.Deep.AppendLies
namespace Go.Proofs.YtiihpbccabeoeaaGreatDoor
open Go.RowKit
set_option linter.unusedVariables false
set_option maxRecDepth 100000
set_option maxHeartbeats 16000000
theorem Cr (K:Nat) (bw:ez K) (w:World) (Lo B ps n i aN:Nat) (tv:Value) (T:List Tk) (h:QS w Lo B ps tv n T i 0) (hi:i≤T.length) (hd:aN+1+K=41) :
 Calls Tryz.prog 181 #[.pointer (some ⟨ps,0,none⟩),.int .i64 (aN:Nat)] w (iw w Lo B ps tv n T i (2*K+2) false (dx (ab K) (T.drop i))):=by
 obtain⟨res,ag⟩:∃res,res=dx (ab K) (T.drop i):=⟨_,rfl⟩;rw [←ag];rw [Ez,nI] at ag;have ov:=aT;obtain⟨i0,fo,fC,fp,fq⟩:=info_parts jm;have ay:=Hd ag;have HC:=Hd bw;have HD:=Hd hd;have bA:=Hd h.lt;have AK:T.length≤20000:=h.sm.1;have Je:IntKind.i64.wrap ((aN:Int)+1)=(aN:Int)+1:=nL _ oM;have HS:=Lib.hid h;clear ag bw h
 go_enter Tryz.func181,Tryz.ntmps181;go_wp2_with fail;obtain⟨N,hN⟩:∃N,N=w.heap.size+1:=⟨_,rfl⟩;obtain⟨W,hW⟩:∃W,W=(w.alloc (.cells #[.int .i64 0,false,eS,(),(),(),(),()] 44)).alloc (.cells #[.int .i64 6,false,eS,(),(),(),(),()] 44):=⟨_,rfl⟩
 have dt:K0 w W:=by rw [hW];exact ((ae.refl _ _).alloc _).alloc _
 have iD:=Hd (show QR (λ_=>False) True w W Lo B ps tv n T (w.heap.size+1) N [.int .i64 0,false,eS,(),(),(),(),()] [.int 6,.bool false,.str [],.sl 1 [],.sl 2 [],.sl 2 []] [.sl 2 []] [.int .i64 6,false,eS,(),(),()] [()] 8 44 i 0 0 none 0 [] from⟨HS.o.keep0 dt,dt.mono (λ_ _ h=>h.elim),by rw [hW];exact (aD w _ _ _ _ _ _ _ _ _).keep (S:=λ_=>False) ((ae.refl _ _).alloc _) (λ h=>h),by rw [hW,hN];have h9:=aD (w.alloc (.cells #[.int .i64 0,false,eS,(),(),(),(),()] 44)) (.int .i64 6) (.bool false) (.string ⟨#[]⟩) (.slice none 0 0) (.slice none 0 0) (.slice none 0 0) (.slice none 0 0) (.slice none 0 0) 44;simpa using h9,⟨[],λ_=>trivial,World.ownsRow_nil _ _ _ _⟩,λ g hg=>(by cases hg),λ g hg=>(by cases hg),λ_=>⟨.int _,.bool _,.str _,.nil _ _ _ (nB _),.nil _ _ _ (nB _),.nil _ _ _ (nB _),trivial⟩,λ_=>⟨.nil _ _ _ (nB _),trivial⟩⟩)
 try rw [←hW]
 try rw [←hN]
 have gE:=Hd (show w.heap.size<N by omega);have qk:=Hd hN;have VL:=Hd hW;clear dt hW hN HS
 try go_wp2_with fail
 try rw [←VL.o]
 try rw [←qk.o]
 clear VL;go_loopg [] (T.length+2000 - i) (λ g wr=>∃(gd:Prop) (I x m:Nat) (la:OA) (lc:Nat) (acc:List Dt),g=T.length+2000 - I∧i≤I∧I≤T.length+(2*K+2)∧m≤I∧Hid (QR (λ_=>False) gd w wr Lo B ps tv n T (w.heap.size+1) N [.int .i64 0,false,eS,(),(),(),(),()] [.int 6,.bool false,.str [],.sl 1 [],.sl 2 [],.sl 2 []] [.sl 2 []] [.int .i64 6,false,eS,(),(),()] [()] 8 44 I x m la lc acc)∧Hid (gd→gD acc)∧Hid (CH gd K acc T I x res))
 case atStart=>exact⟨True,i,0,0,none,0,[],rfl,nC _,oM,nB _,iD,Hd (λ_=>gD.nil),Hd (.inl ⟨trivial,rfl,hi,_,nC _,ay.o⟩)⟩
 case round=>
  clear iD ay;obtain⟨gd,I,x,m,la,lc,acc,eH,mI,Ng,yj,HG,zN,eI⟩:=hrel;have fK:=Hd eH;clear eH;obtain⟨c0,c1,c2,f1,f2⟩:=HG.o.rs.cells;have aW:=HG.o.rs.lt;by_cases hx:x=0
  ·subst hx;obtain⟨g,p8,M,hM,hr⟩:gd∧I≤T.length∧∃M,T.length - I+1≤M∧res=js (bD (ab K) M acc (T.drop I)):=by
    exact Ks
   obtain⟨M,rfl⟩:∃M',M=M'+1:=⟨M - 1,oM⟩;rw [BM] at hr;have HR:=Hd hr;have iD:=Hd g;clear hr g eI;go_wp2_with fail;refine (gN K HC.o wr Lo B ps n I (aN+1) tv T HG.o.rs p8 (by have:=HD.o;omega)).mono ?_;rintro e w2 ⟨va,ja,xa,rfl,aa4,acS,cj,aS,hfa⟩;go_upto_region 4 with fail;obtain⟨NA,xL⟩:∃NA,NA=w2.heap.size:=⟨_,rfl⟩;obtain⟨W3,ft⟩:∃W3,W3=w2.alloc (.cells #[va.k,va.nt,va.nm,.slice va.a0 va.n0 va.c0,.slice va.a1 va.n1 va.c1,.slice va.a2 va.n2 va.c2,.slice va.a3 va.n3 va.c3,.slice va.a4 va.n4 va.c4] 44):=⟨_,rfl⟩
   rw [←ft]
   try rw [←xL]
   have aV:K0 w2 W3:=by rw [ft];exact (ae.refl _ _).alloc _
   have gU:=HG.o.rc.lt;have AM:=aS.size;have xR:=Hd (show af W3 NA [va.k,va.nt,va.nm,.slice va.a0 va.n0 va.c0,.slice va.a1 va.n1 va.c1,.slice va.a2 va.n2 va.c2,.slice va.a3 va.n3 va.c3,.slice va.a4 va.n4 va.c4] by rw [ft,xL];exact aD _ _ _ _ _ _ _ _ _ _);have ut:=Hd (show N<NA∧NA≠ps∧ps<w.heap.size∧w.heap.size<N∧N<wr.heap.size∧wr.heap.size≤NA by have:=gE.o;have:=bA.o;have:=cj.lt;omega)
   have uz:=aS.trans aV (λ_ _ h=>h.elim);have HGW:=Hd HG.o;have Se:=Hd uz;replace HG:=Hd (HG.o.move bA.o (nM _) gE.o uz (cj.keep0 aV));have HFA:=Hd hfa;have Pu:=Hd (show ∀ds,bV w2 (Qd Lo B wr.heap.size) ds va.vals→bV W3 (Qd Lo B wr.heap.size) ds va.vals from λ ds hr=>hr.keep aV (λ_ _ _ h=>h));clear cj aS hfa aV uz ft xL gU AM c0 c1 c2 f1 f2 aW;have acQ:ja+1≤T.length+500:=by have:=HD.o;omega
   go_wp2_with fail;refine (eL W3 Lo B ps n ja xa tv T [116,104,101,110] HG.o.rs oM).mono ?_;rintro e w4 ⟨rfl,dR,be⟩;obtain⟨xt,RK⟩:∃xt,xt=if xa=0 then (if aF [116,104,101,110] (T.drop ja) then 0 else 2) else xa:=⟨_,rfl⟩;rw [←RK] at dR;replace HG:=Hd (HG.o.move bA.o (nM _) gE.o be dR);replace xR:=Hd (xR.o.keep be ut.o.2.1);have VG:=Hd (show ∀ds,bV w2 (Qd Lo B wr.heap.size) ds va.vals→bV w4 (Qd Lo B wr.heap.size) ds va.vals from λ ds hr=>(Pu.o ds hr).keep be (λ b _ hb e=>jV (X:=wr.heap.size) dR.ps (by have:=ut.o;omega) hb e))
   have M7:=Hd (Se.o.trans be k3);have C0:=Hd (mq (P:=aF [116,104,101,110]) (E9 dC) (yt dC) HFA.o RK);have aaE:=Hd be.size;have zS:=Hd (show I≤ja from aa4);clear dR be RK Pu HFA;obtain⟨c0,c1,c2,f1,f2⟩:=HG.o.rs.cells;have aW:=HG.o.rs.lt;by_cases RK:xt=0
   ·subst RK;obtain⟨c,hw,UR,hdc,acR,hlc⟩:∃c,aF [116,104,101,110] (T.drop ja)=true∧jA c∧bV w4 (Qd Lo B wr.heap.size) c va.vals∧ja<T.length∧bz (ab K) (T.drop I)=.ok (c,T.drop ja):=by
     rcases C0.o with ⟨c,_,hw,_,hn,hd,hj,hr⟩ | ⟨h9,_⟩
     ·exact⟨c,hw,hn,VG.o c hd,bL (cY dC hw),hr⟩
     ·exact nQ rfl h9
    have C2:=Hd UR;have HDC:=Hd hdc;have oD:=Hd (show res=gJ K M (acc++c) (bz (ab K) (T.drop (ja+1))) by rw [HR.o,hlc,BK hw,aG]);clear hw UR hdc hlc C0 HR VG;go_wp2_with fail;refine (gN K HC.o w4 Lo B ps n (ja+1) (aN+1) tv T HG.o.rs oM (by have:=HD.o;omega)).mono ?_;rintro e Zr ⟨vb,jb,xb,rfl,aa5,abB,dV,bi,Xs⟩;obtain⟨gb,db,Rp,e9⟩:=Xs.state (gJ K M (acc++c)) (λ e=>rfl) (λ_ ds r h=>DM h) oD.o
    have eI:=Hd e9;go_upto_region 8 with fail;obtain⟨NB,ke⟩:∃NB,NB=Zr.heap.size:=⟨_,rfl⟩;obtain⟨W6,i4⟩:∃W6,W6=Zr.alloc (.cells #[vb.k,vb.nt,vb.nm,.slice vb.a0 vb.n0 vb.c0,.slice vb.a1 vb.n1 vb.c1,.slice vb.a2 vb.n2 vb.c2,.slice vb.a3 vb.n3 vb.c3,.slice vb.a4 vb.n4 vb.c4] 44):=⟨_,rfl⟩;rw [←i4]
    try rw [←ke]
    have cu:K0 Zr W6:=by rw [i4];exact (ae.refl _ _).alloc _
    have bp:=bi.trans cu (λ_ _ h=>h.elim);have R3:=Hd (show af W6 NB [vb.k,vb.nt,vb.nm,.slice vb.a0 vb.n0 vb.c0,.slice vb.a1 vb.n1 vb.c1,.slice vb.a2 vb.n2 vb.c2,.slice vb.a3 vb.n3 vb.c3,.slice vb.a4 vb.n4 vb.c4] by rw [i4,ke];exact aD _ _ _ _ _ _ _ _ _ _);have abM:=xR.o.lt;have abX:=M7.o.size;replace xR:=Hd (xR.o.keep bp ut.o.2.1);have sF:=HG.o.rc.lt
    have TH:=bi.size;have Hi:=aaE.o;have LP:W6.heap.size=Zr.heap.size+1:=by rw [i4];simp
    have rp:=xR.o.lt;obtain⟨Bl,hn2,hn3,UP,hn5,hn6⟩:=ut.o;obtain⟨xs,hown4,aL,hF⟩:=HGW.o.more (G':=gd∧gb) (y:=xb) (J:=jb) (us:=[.int .i64 va.k,.bool va.nt,.string va.nm,.slice va.a0 va.n0 va.c0,.slice va.a1 va.n1 va.c1,.slice va.a2 va.n2 va.c2,.slice va.a3 va.n3 va.c3,.slice va.a4 va.n4 va.c4,.int .i64 vb.k,.bool vb.nt,.string vb.nm,.slice vb.a0 vb.n0 vb.c0,.slice vb.a1 vb.n1 vb.c1,.slice vb.a2 vb.n2 vb.c2,.slice vb.a3 vb.n3 vb.c3,.slice vb.a4 vb.n4 vb.c4]) (d2:=c++db) bA.o (nM _) gE.o oM (M7.o.trans bp k3) (dV.keep0 cu) (λ g=>g.1)
     (λ g=>(HDC.o.keep bp (λ b _ hb e=>jV (X:=wr.heap.size) dV.ps oM hb e)).app (((Rp g.2).2.keep cu (λ_ _ _ h=>h)).mono (λ b _ hb=>by rcases hb with h | h;exact .inl h;exact .inr oM))) (λ b hb=>hb.elim)
    have HF:=Hd hF;have JH:=Hd (show gd∧gb→gD (acc++(c++db)) from λ g=>(zN.o g.1).app ((gD.of C2.o).app (gD.of (Rp g.2).1)));have dz:=(show af W6 N [.int .i64 6,false,eS,(),(),(),.slice la m lc,()] from aL);obtain⟨⟨x0,x1,x2,x3,x4,x5,x6,x7⟩,⟨f8,gf,hC,hU,hV,hY,hZ,ia⟩⟩:=dz.eight;obtain⟨⟨a0,a1,a2,a3,a4,a5,a6,a7⟩,⟨af0,af1,af2,af3,af4,af5,af6,af7⟩⟩:=xR.o.eight
    obtain⟨⟨b0,b1,b2,b3,b4,b5,b6,b7⟩,⟨bf0,bf1,bf2,bf3,bf4,bf5,bf6,bf7⟩⟩:=R3.o.eight;have fR:=aL.lt;have AA:=xR.o.lt;have AB:=R3.o.lt;have cM:N≠NA∧N≠NB∧NA≠NB:=oM
    obtain⟨ac3,Ee,ac4⟩:=cM;have xH:=Hd (show ja+1≤jb from aa5);have ZN:=Hd abB;have Lx:jb+1≤T.length+500:=by have:=HD.o;omega
    clear hF aL dz bi cu bp TH LP Hi rp abM abX ke i4 Rp e9 dV Xs sF Bl hn2 hn3 UP hn5 hn6 HDC C2 zN;go_upto_region 9 with (at_builtin;refine nR _ rfl (.tmp 33) (.tmp 36) _ rfl 0 44 i0 _ 8 152 Tryz.underlying23 fo fC fp fq rfl oM (.slice la m lc) m xs rfl (hown4.alloc _) ⟨W6.heap.size,0,none⟩ 2 2 [va.k,va.nt,va.nm,.slice va.a0 va.n0 va.c0,.slice va.a1 va.n1 va.c1,.slice va.a2 va.n2 va.c2,.slice va.a3 va.n3 va.c3,.slice va.a4 va.n4 va.c4,vb.k,vb.nt,vb.nm,.slice vb.a0 vb.n0 vb.c0,.slice vb.a1 vb.n1 vb.c1,.slice vb.a2 vb.n2 vb.c2,.slice vb.a3 vb.n3 vb.c3,.slice vb.a4 vb.n4 vb.c4] rfl rfl (nK (cs:=#[.int .i64 va.k,.bool va.nt,.string va.nm,.slice va.a0 va.n0 va.c0,.slice va.a1 va.n1 va.c1,.slice va.a2 va.n2 va.c2,.slice va.a3 va.n3 va.c3,.slice va.a4 va.n4 va.c4,.int .i64 vb.k,.bool vb.nt,.string vb.nm,.slice vb.a0 vb.n0 vb.c0,.slice vb.a1 vb.n1 vb.c1,.slice vb.a2 vb.n2 vb.c2,.slice vb.a3 vb.n3 vb.c3,.slice vb.a4 vb.n4 vb.c4]) (t:=44) (fr:=(0,0)) (nG W6 _)) oC oM uM oM sI (W6.heap.size+1) sI ?_;intro gg aC w5 aK ao bf gT;have gA:=HF.o gg (m+2) aC w5 _ aK ((ae.refl _ _).alloc _) ao (bf.imp id (λ h=>oM));obtain⟨aH,lB,bi⟩:=gA;have aH:=(show af w5 N [.int .i64 6,false,eS,(),(),(),.slice la m lc,()] from aH);obtain⟨⟨z0,z1,z2,z3,z4,z5,z6,z7⟩,⟨gO,gP,ib,ic,ie,ig,ii,ij⟩⟩:=aH.eight;have qy:=aH.lt;have HG:=Hd (show QR (λ_=>False) (gd∧gb) w (w5.setCell ⟨N,6,none⟩ (.slice (some ⟨gg,0,none⟩) (m+2) aC)) Lo B ps tv n T (w.heap.size+1) N [.int .i64 0,false,eS,(),(),(),(),()] [.int 6,.bool false,.str [],.sl 1 [],.sl 2 [],.sl 2 []] [.sl 2 []] [.int .i64 6,false,eS,(),(),()] [()] 8 44 jb xb (m+2) (some ⟨gg,0,none⟩) aC (acc++(c++db)) from lB);clear aH lB bi;clear aK ao bf)
    obtain⟨wk,TO⟩:∃wk,wk=w5.setCell ⟨N,6,none⟩ (.slice (some ⟨gg,0,none⟩) (m+2) aC):=⟨_,rfl⟩;rw [←TO];rw [←TO] at HG;clear TO;obtain⟨s,hs⟩:∃s,aJ (ch (T.drop jb))=s:=⟨_,rfl⟩;have HQ:=Hd (di HG.o.rs s hs 0);have sw:=Hd hs;clear hs
    try clear z0 z1 z2 z3 z4 z5 z6 z7
    go_wp2_with fail;refine HQ.o.mono ?_;rintro e wq ⟨rfl,dq,rfl⟩;obtain⟨wl,aQ⟩:∃wl,wl=wk.drewN dq:=⟨_,rfl⟩;rw [←aQ];have aZ:K0 wk wl:=by rw [aQ];exact (ae.refl _ _).drewN _
    replace HG:=Hd (HG.o.keep0 aZ);clear aQ aZ;go_wp2_with fail;refine (eL wl Lo B ps n jb xb tv T s HG.o.rs oM).mono ?_;rintro e wm ⟨rfl,gM,Lz⟩;rw [show (if xb=0 then (if aF s (T.drop jb) then 0 else 2) else xb)=xb by rw [cN sw.o s,beq_self_eq_true];by_cases h:xb=0;rw [nE h];exact h.symm;rw [nF h]] at gM;replace HG:=Hd (HG.o.move bA.o (nM _) gE.o Lz gM)
    have fv:=Hd (show i≤jb+1∧jb+1≤T.length+(2*K+2) by have:=zS.o;have:=xH.o;have:=ZN.o;omega);clear gM Lz;by_cases h1:s=[102,105]
    ·subst h1;have je:=Hd (show (((gd∧gb)∧xb=0∧jb+1≤T.length∧jA (cE 6 false [] [] [] [] (acc++(c++db)) [])∧res=.ok (cE 6 false [] [] [] [] (acc++(c++db)) [],T.drop (jb+1)))∨(∀w D us,QF false w D T res us (jb+1) xb)) from by
      have hw:aF [102,105] (T.drop jb)=true:=by rw [cN sw.o];rfl
      rcases eI.o with ⟨g,hx,_,hr⟩ | ⟨hx,hr⟩ | ⟨_,ho,_⟩
      ·have:=bL (cY dC hw);refine .inl ⟨⟨iD.o,g⟩,hx,oM,⟨_,_,_,_,_,_,_,_,rfl⟩,?_⟩;rw [hr,mU (by rw [cN sw.o];rfl) (by rw [cN sw.o];rfl),wT hw,aG,aA]
      ·exact .inr λ_ _ _=>QF.err hx hr
      ·rw [yt dC _ ho] at hw;cases hw)
     obtain⟨⟨x0,x1,x2,x3,x4,x5,x6,x7⟩,⟨f8,gf,hC,hU,hV,hY,hZ,ia⟩⟩:=(show af wm N [.int .i64 6,false,eS,(),(),(),.slice (some ⟨gg,0,none⟩) (m+2) aC,()] from HG.o.rc).eight;have fR:=HG.o.rc.lt;have HF:=Hd (show QF false wm (λ b=>Qd Lo B w.heap.size b∧b≠w.heap.size) T res [.int .i64 6,false,eS,(),(),(),.slice (some ⟨gg,0,none⟩) (m+2) aC,()] _ _ from o8 HG.o (nM _) bA.o je.o)
     have HK:=Hd HG.o.kp;have HS:=Hd HG.o.rs;obtain⟨⟨z0,z1,z2,z3,z4,z5,z6,z7⟩,⟨gO,gP,ib,ic,ie,ig,ii,ij⟩⟩:=HG.o.zr.eight;have fT:=HG.o.zr.lt;go_wp2_with fail;refine nJ (v:=.agg #[.int .i64 6,false,eS,(),(),(),.slice (some ⟨gg,0,none⟩) (m+2) aC,()]) (by simp [results,Tryz.results181,go_sem,z0,z1,z2,z3,z4,z5,z6,z7]) rfl ?_
     obtain⟨f1,f2,f3⟩:=cI HK.o HS.o bA.o HF.o (ap wm w.heap.size (.int .i64 6) (.bool false) (.string ⟨#[]⟩) (.slice none 0 0) (.slice none 0 0) (.slice none 0 0) (.slice (some ⟨gg,0,none⟩) (m+2) aC) (.slice none 0 0));exact⟨⟨6,false,⟨#[]⟩,none,0,0,none,0,0,none,0,0,some ⟨gg,0,none⟩,m+2,aC,none,0,0⟩,_,_,rfl,fv.o.1,fv.o.2,f1,f2,f3⟩
    ·have t1:(s==[102,105])=false:=d9 h1;have H1:=Hd h1;clear h1;by_cases h2:s=[101,108,105,102]
     ·subst h2;have R6:=Hd (show CH (gd∧gb) K (acc++(c++db)) T (jb+1) xb res from by
       have hw:aF [101,108,105,102] (T.drop jb)=true:=by rw [cN sw.o];rfl
       rcases eI.o with ⟨g,hx,_,hr⟩ | ⟨hx,hr⟩ | ⟨_,ho,_⟩
       ·have:=bL (cY dC hw);refine .inl ⟨⟨iD.o,g⟩,hx,oM,M,by have:=zS.o;have:=xH.o;omega,?_⟩;rw [hr,Ak hw,aG,aA]
       ·exact .inr ⟨hx,hr⟩
       ·rw [yt dC _ ho] at hw;cases hw)
      go_wp2_with fail;go_roundg (T.length+2000 - (jb+1))
      case measure=>have:=fK.o;have:=zS.o;have:=xH.o;have:=fv.o;omega
      case rel=>exact⟨gd∧gb,jb+1,xb,m+2,_,_,acc++(c++db),rfl,fv.o.1,fv.o.2,by have:=zS.o;have:=xH.o;omega,HG,JH,R6⟩
     ·have t2:(s==[101,108,105,102])=false:=d9 h2;have H2:=Hd h2;clear h2;by_cases h3:s=[101,108,115,101]
      ·subst h3;have hw:aF [101,108,115,101] (T.drop jb)=true:=by rw [cN sw.o];rfl
       have uy:=bL (cY dC hw);have HW:=Hd hw;clear hw;go_wp2_with fail;refine (zn K HC.o wm Lo B ps n (jb+1) xb (aN+1) tv T HG.o.rs (λ_=>oM) (by have:=HD.o;omega)).mono ?_;rintro e wn ⟨vc,jc,xc,rfl,abC,abD,hsn,hkn,Xt⟩;obtain⟨xe,i8⟩:∃xe,xe=if xc=0 then (if aF [102,105] (T.drop jc) then 0 else 2) else xc:=⟨_,rfl⟩;obtain⟨gc,dc,Rq,cm⟩:=uv eI.o HW.o Xt i8
       have sz:=Hd i8;have I1:=Hd cm;go_upto_region 17 with fail;obtain⟨NC,AC⟩:∃NC,NC=wn.heap.size:=⟨_,rfl⟩;obtain⟨W7,D3⟩:∃W7,W7=wn.alloc (.cells #[vc.k,vc.nt,vc.nm,.slice vc.a0 vc.n0 vc.c0,.slice vc.a1 vc.n1 vc.c1,.slice vc.a2 vc.n2 vc.c2,.slice vc.a3 vc.n3 vc.c3,.slice vc.a4 vc.n4 vc.c4] 44):=⟨_,rfl⟩;rw [←D3]
       try rw [←AC]
       have i5:K0 wn W7:=by rw [D3];exact (ae.refl _ _).alloc _
       have bp:=hkn.trans i5 (λ_ _ h=>h.elim);have HCR:=Hd (show af W7 NC [vc.k,vc.nt,vc.nm,.slice vc.a0 vc.n0 vc.c0,.slice vc.a1 vc.n1 vc.c1,.slice vc.a2 vc.n2 vc.c2,.slice vc.a3 vc.n3 vc.c3,.slice vc.a4 vc.n4 vc.c4] by rw [D3,AC];exact aD _ _ _ _ _ _ _ _ _ _);have sF:=HG.o.rc.lt;have abY:=hkn.size;obtain⟨xs,hown4,aL,hF⟩:=HG.o.more (G':=gc) (y:=xc) (J:=jc) (us:=[.int .i64 vc.k,.bool vc.nt,.string vc.nm,.slice vc.a0 vc.n0 vc.c0,.slice vc.a1 vc.n1 vc.c1,.slice vc.a2 vc.n2 vc.c2,.slice vc.a3 vc.n3 vc.c3,.slice vc.a4 vc.n4 vc.c4]) (d2:=dc) bA.o (nM _) gE.o (by have:=qk.o;omega) bp (hsn.keep0 i5) (λ g=>⟨iD.o,(Rq g).1⟩) (λ g=>(Rq g).2.2.keep i5 (λ_ _ _ h=>h)) (λ b hb=>hb.elim)
       have HF:=Hd hF;have dz:=(show af W7 N [.int .i64 6,false,eS,(),(),(),.slice (some ⟨gg,0,none⟩) (m+2) aC,()] from aL);obtain⟨⟨x0,x1,x2,x3,x4,x5,x6,x7⟩,⟨f8,gf,hC,hU,hV,hY,hZ,ia⟩⟩:=dz.eight;obtain⟨⟨u0,u1,u2,u3,u4,u5,u6,u7⟩,⟨E1,E2,E3,E4,E5,E6,E7,E8⟩⟩:=HCR.o.eight;have fR:=aL.lt;have Oh:=HCR.o.lt
       have He:N≠NC:=oM
       have hjc:jc+1≤T.length+900:=by have:=HD.o;omega
       have HIC:=Hd (show i≤jc+1∧jc+1≤T.length+(2*K+2) by have:=fv.o;omega);clear hF aL dz i5 bp AC D3 Rq cm hsn hkn Xt i8 sF abY abC abD;go_upto_region 18 with (at_builtin;refine nR _ rfl (.tmp 57) (.tmp 59) _ rfl 0 44 i0 _ 8 152 Tryz.underlying23 fo fC fp fq rfl oM (.slice (some ⟨gg,0,none⟩) (m+2) aC) (m+2) xs rfl (hown4.alloc _) ⟨W7.heap.size,0,none⟩ 1 1 [vc.k,vc.nt,vc.nm,.slice vc.a0 vc.n0 vc.c0,.slice vc.a1 vc.n1 vc.c1,.slice vc.a2 vc.n2 vc.c2,.slice vc.a3 vc.n3 vc.c3,.slice vc.a4 vc.n4 vc.c4] rfl rfl (nK (cs:=#[.int .i64 vc.k,.bool vc.nt,.string vc.nm,.slice vc.a0 vc.n0 vc.c0,.slice vc.a1 vc.n1 vc.c1,.slice vc.a2 vc.n2 vc.c2,.slice vc.a3 vc.n3 vc.c3,.slice vc.a4 vc.n4 vc.c4]) (t:=44) (fr:=(0,0)) (nG W7 _)) oC oM uM oM sI (W7.heap.size+1) sI ?_;intro Of Ac w6 aK ao bf gT;have gA:=HF.o Of ((m+2)+1) Ac w6 _ aK ((ae.refl _ _).alloc _) ao (bf.imp id (λ h=>oM));obtain⟨aH,lB,bi⟩:=gA;have aH:=(show af w6 N [.int .i64 6,false,eS,(),(),(),.slice (some ⟨gg,0,none⟩) (m+2) aC,()] from aH);obtain⟨⟨z0,z1,z2,z3,z4,z5,z6,z7⟩,⟨gO,gP,ib,ic,ie,ig,ii,ij⟩⟩:=aH.eight;have qy:=aH.lt;have HG:=Hd (show QR (λ_=>False) gc w (w6.setCell ⟨N,6,none⟩ (.slice (some ⟨Of,0,none⟩) (m+2+1) Ac)) Lo B ps tv n T (w.heap.size+1) N [.int .i64 0,false,eS,(),(),(),(),()] [.int 6,.bool false,.str [],.sl 1 [],.sl 2 [],.sl 2 []] [.sl 2 []] [.int .i64 6,false,eS,(),(),()] [()] 8 44 jc xc (m+2+1) (some ⟨Of,0,none⟩) Ac (acc++(c++db)++dc) from lB);clear aH lB bi;clear aK ao bf)
       obtain⟨wo,Em⟩:∃wo,wo=w6.setCell ⟨N,6,none⟩ (.slice (some ⟨Of,0,none⟩) (m+2+1) Ac):=⟨_,rfl⟩;rw [←Em];rw [←Em] at HG;clear Em
       try clear z0 z1 z2 z3 z4 z5 z6 z7
       go_wp2_with fail;refine (eL wo Lo B ps n jc xc tv T [102,105] HG.o.rs oM).mono ?_;rintro e wp ⟨rfl,oy,pS⟩;rw [←sz.o] at oy;replace HG:=Hd (HG.o.move bA.o (nM _) gE.o pS oy);have je:=Hd (show ((gc∧xe=0∧jc+1≤T.length∧jA (cE 6 false [] [] [] [] (acc++(c++db)++dc) [])∧res=.ok (cE 6 false [] [] [] [] (acc++(c++db)++dc) [],T.drop (jc+1)))∨(∀w D us,QF false w D T res us (jc+1) xe)) from by
        rcases I1.o with ⟨g,h0,hj,hr⟩ | ⟨h0,hr⟩
        ·exact .inl ⟨g,h0,hj,⟨_,_,_,_,_,_,_,_,rfl⟩,by rw [hr,aA acc c db]⟩
        ·exact .inr λ_ _ _=>QF.err h0 hr)
       clear oy pS;obtain⟨⟨x0,x1,x2,x3,x4,x5,x6,x7⟩,⟨f8,gf,hC,hU,hV,hY,hZ,ia⟩⟩:=(show af wp N [.int .i64 6,false,eS,(),(),(),.slice (some ⟨Of,0,none⟩) (m+2+1) Ac,()] from HG.o.rc).eight;have fR:=HG.o.rc.lt;have HF:=Hd (show QF false wp (λ b=>Qd Lo B w.heap.size b∧b≠w.heap.size) T res [.int .i64 6,false,eS,(),(),(),.slice (some ⟨Of,0,none⟩) (m+2+1) Ac,()] _ _ from o8 HG.o (nM _) bA.o je.o)
       have HK:=Hd HG.o.kp;have HS:=Hd HG.o.rs;obtain⟨⟨z0,z1,z2,z3,z4,z5,z6,z7⟩,⟨gO,gP,ib,ic,ie,ig,ii,ij⟩⟩:=HG.o.zr.eight;have fT:=HG.o.zr.lt;go_wp2_with fail;refine nJ (v:=.agg #[.int .i64 6,false,eS,(),(),(),.slice (some ⟨Of,0,none⟩) (m+2+1) Ac,()]) (by simp [results,Tryz.results181,go_sem,z0,z1,z2,z3,z4,z5,z6,z7]) rfl ?_
       obtain⟨f1,f2,f3⟩:=cI HK.o HS.o bA.o HF.o (ap wp w.heap.size (.int .i64 6) (.bool false) (.string ⟨#[]⟩) (.slice none 0 0) (.slice none 0 0) (.slice none 0 0) (.slice (some ⟨Of,0,none⟩) (m+2+1) Ac) (.slice none 0 0));exact⟨⟨6,false,⟨#[]⟩,none,0,0,none,0,0,none,0,0,some ⟨Of,0,none⟩,m+2+1,Ac,none,0,0⟩,_,_,rfl,HIC.o.1,HIC.o.2,f1,f2,f3⟩
      ·have t3:(s==[101,108,115,101])=false:=d9 h3;obtain⟨xf,sD⟩:∃xf,xf=if xb=0 then 2 else xb:=⟨_,rfl⟩;have R6:=Hd (show CH False K [] T (jb+1) xf res from by
        have dM:aF [102,105] (T.drop jb)=false:=by rw [cN sw.o];exact t1
        have aQ:aF [101,108,105,102] (T.drop jb)=false:=by rw [cN sw.o];exact t2
        have kh:aF [101,108,115,101] (T.drop jb)=false:=by rw [cN sw.o];exact t3
        rcases eI.o with ⟨g,hx,_,hr⟩ | ⟨hx,hr⟩ | ⟨hx,_,hr⟩
        ·rw [nE hx] at sD;exact .inr ⟨oM,by rw [hr,sD,mU aQ kh,td dM]⟩
        ·rw [nF hx] at sD;exact .inr ⟨oM,by rw [sD];exact hr⟩
        ·rw [nE hx] at sD;exact .inr ⟨oM,by rw [sD];exact hr⟩)
       have Uw:=Hd sD;clear h3 sD;go_wp2_with fail;refine (eg wm Lo B ps n (jb+1) xb 2 tv T HG.o.rs).mono ?_;rintro e wq ⟨rfl,RE,Nl⟩;rw [←Uw.o] at RE;replace HG:=Hd (HG.o.move bA.o (nM _) gE.o Nl RE);clear RE Nl;go_wp2_with fail;go_roundg (T.length+2000 - (jb+1))
       case measure=>have:=fK.o;have:=zS.o;have:=xH.o;have:=fv.o;omega
       case rel=>
        have hw:=HG.o.weak (G':=False) (λ h=>h.elim);obtain⟨xs,_,ho⟩:=hw.own;exact⟨False,jb+1,xf,m+2,_,_,[],rfl,fv.o.1,fv.o.2,by have:=zS.o;have:=xH.o;omega,Hd ⟨hw.rs,hw.kp,hw.zr,hw.rc,⟨xs,λ h=>h.elim,ho⟩,hw.low,hw.ex,λ h=>h.elim,λ h=>h.elim⟩,Hd (λ h=>h.elim),R6⟩
   ·have t:((xt:Int) != 0)=true:=by rw [bne_iff_ne];omega
    have uo:=Hd (show ∀w D us,QF false w D T res us (ja+1) xt from λ_ _ _=>by
     rcases C0.o with ⟨_,_,_,h9,_⟩ | ⟨_,hf⟩
     ·exact nQ h9 RK
     ·exact QF.err RK (by rw [HR.o,hf (mT K M acc) (λ e=>rfl) (λ ds r h=>DL h)]))
    have fv:=Hd (show i≤ja+1∧ja+1≤T.length+(2*K+2) by have:=zS.o;omega);clear RK C0 HR;obtain⟨⟨x0,x1,x2,x3,x4,x5,x6,x7⟩,⟨f8,gf,hC,hU,hV,hY,hZ,ia⟩⟩:=(show af w4 N [.int .i64 6,false,eS,(),(),(),.slice la m lc,()] from HG.o.rc).eight;have fR:=HG.o.rc.lt;have HF:=Hd (show QF false w4 (λ b=>Qd Lo B w.heap.size b∧b≠w.heap.size) T res [.int .i64 6,false,eS,(),(),(),.slice la m lc,()] _ _ from o8 HG.o (nM _) bA.o (.inr uo.o))
    have HK:=Hd HG.o.kp;have HS:=Hd HG.o.rs;obtain⟨⟨z0,z1,z2,z3,z4,z5,z6,z7⟩,⟨gO,gP,ib,ic,ie,ig,ii,ij⟩⟩:=HG.o.zr.eight;have fT:=HG.o.zr.lt;go_wp2_with fail;refine nJ (v:=.agg #[.int .i64 6,false,eS,(),(),(),.slice la m lc,()]) (by simp [results,Tryz.results181,go_sem,z0,z1,z2,z3,z4,z5,z6,z7]) rfl ?_;obtain⟨f1,f2,f3⟩:=cI HK.o HS.o bA.o HF.o (ap w4 w.heap.size (.int .i64 6) (.bool false) (.string ⟨#[]⟩) (.slice none 0 0) (.slice none 0 0) (.slice none 0 0) (.slice la m lc) (.slice none 0 0))
    exact Qc
  ·have t:((x:Int)==0)=false:=by rw [nA];omega
   have uo:=Hd (show ∀w D us,QF false w D T res us I x from λ_ _ _=>by
    rcases eI.o with ⟨_,h9,_⟩ | ⟨_,h9⟩
    ·exact nQ h9 hx
    ·exact QF.err hx h9)
   have fv:=Hd (show i≤I∧I≤T.length+(2*K+2) by omega);clear hx eI;obtain⟨⟨x0,x1,x2,x3,x4,x5,x6,x7⟩,⟨f8,gf,hC,hU,hV,hY,hZ,ia⟩⟩:=(show af wr N [.int .i64 6,false,eS,(),(),(),.slice la m lc,()] from HG.o.rc).eight;have fR:=HG.o.rc.lt;have HF:=Hd (show QF false wr (λ b=>Qd Lo B w.heap.size b∧b≠w.heap.size) T res [.int .i64 6,false,eS,(),(),(),.slice la m lc,()] _ _ from o8 HG.o (nM _) bA.o (.inr uo.o))
   have HK:=Hd HG.o.kp;have HS:=Hd HG.o.rs;obtain⟨⟨z0,z1,z2,z3,z4,z5,z6,z7⟩,⟨gO,gP,ib,ic,ie,ig,ii,ij⟩⟩:=HG.o.zr.eight;have fT:=HG.o.zr.lt;go_wp2_with fail;refine nJ (v:=.agg #[.int .i64 6,false,eS,(),(),(),.slice la m lc,()]) (by simp [results,Tryz.results181,go_sem,z0,z1,z2,z3,z4,z5,z6,z7]) rfl ?_;obtain⟨f1,f2,f3⟩:=cI HK.o HS.o bA.o HF.o (ap wr w.heap.size (.int .i64 6) (.bool false) (.string ⟨#[]⟩) (.slice none 0 0) (.slice none 0 0) (.slice none 0 0) (.slice la m lc) (.slice none 0 0))
   exact Qc
end Go.Proofs.YtiihpbccabeoeaaGreatDoor
