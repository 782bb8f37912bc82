/- The walk: a part. -/
import Derived.Test.YtiihpbccabeoeaaGreatDoorVM
import Derived.Test.YtiihpbccabeoeaaGreatDoorVPxW
namespace Go.Proofs.YtiihpbccabeoeaaGreatDoor
open Go.RowKit
set_option linter.unusedVariables false
set_option maxRecDepth 100000
set_option maxHeartbeats 16000000
theorem Le (l:Bs) (R:Nat):(⟨l.toArray⟩:ByteArray).extract 0 R=⟨(l.take R).toArray⟩:=by
 apply ByteArray.ext;apply Array.ext';rw [Lib.extract_data];simp
theorem Ld (l:Bs) (R:Nat):(⟨l.toArray⟩:ByteArray).extract R l.length=⟨(l.drop R).toArray⟩:=by
 apply ByteArray.ext;apply Array.ext';rw [Lib.extract_data];simp only [List.take_of_length_le (Nat.le_of_eq (nI ..))]
theorem Fq {w wy w5 w6:World} {D:Nat→Prop} {hd t:List Pt} {v v':Value} {vs us:List Value} {nn n:Nat} (nc:vs.length=hd.length) (rT:∀i (h:i<hd.length) (h':i<vs.length),az wy (λ b=>False∧v.ownBlock≠some b) nn hd[i].word vs[i])
 (LS:us.length=t.length) (AO:∀i (h:i<t.length) (h':i<us.length),az w D n t[i].word us[i]) (dt:K0 w wy) (bi:ae (λ b=>v.ownBlock=some b) wy w5) (hv:∀g,v.ownBlock=some g→w.heap.size<g)
 (bf:v'.ownBlock=v.ownBlock∨v'.ownBlock=some wy.heap.size) (aU:w5.ownsRow 0 67 6 v' (hd.length+t.length) (bg hd vs++bg t us)) (cu:ae (λ b=>b=w.heap.size) w5 w6) (hw:w.heap.size<wy.heap.size) :
 (∃m,az w6 (λ b=>D b∨w.heap.size≤b) m (hd++t) v')∧K0 w w6:=by
 have hv':∀g,v'.ownBlock=some g→w.heap.size<g:=λ g hg=>by
  rcases bf with h | h
  ·exact hv g (by rw [←h];exact hg)
  ·rw [h] at hg;have:=nD hg;omega
 have hk:K0 w w6:=(dt.fresh bi (λ b e=>by have:=hv b e;omega)).fresh cu (λ b e=>oM);refine⟨?_,hk⟩;have hO:ey w6 (λ b=>D b∨w.heap.size≤b) v' (hd++t):=by
  refine⟨vs++us,nn+n,by simp [nc,LS],?_,λ i hi ri=>?_⟩
  ·rw [eX nc,lA];exact iz aU cu (λ g hg e=>by have:=hv' g hg;omega)
  ·rcases nP i hd.length with h9 | h9
   ·rw [uA h9,uA oM];exact ((((rT i h9 oM).mono (D':=λ_=>False) (λ b _ hb=>hb.1)).keep bi (λ_ _ h=>h.elim)).keep cu (λ_ _ h=>h.elim)).le (Nat.le_add_right _ _) |>.mono (λ b _ h=>h.elim)
   ·rw [uB h9,uB oM];have h8:=AO (i - hd.length) (by rw [lA] at hi;omega) (by rw [lA] at ri;omega);have h7:az w (λ b=>D b∧b<w.heap.size) n (t[i - hd.length]'(by rw [lA] at hi;omega)).word (us[i - hd.length]'(by rw [lA] at ri;omega)):=h8.mono λ b hb hd=>⟨hd,hb⟩;have h6:=((h7.keep hk (λ_ _ _ h=>h)).le (Nat.le_add_left n nn)).mono (D':=λ b=>(D b∨w.heap.size≤b)∧v'.ownBlock≠some b) (λ b _ hb=>⟨.inl hb.1,λ e=>by have:=hv' b e;omega⟩)
    simpa only [nc] using h6
 exact hO.reads (λ g hg=>.inr (by have:=hv' g hg;omega))
theorem vt {p:Pt} {t:List Pt} (h:¬(0<cU p.text∧cU p.text≤60∧p.text[cU p.text]? = some 61)):dw (p::t)=none:=by
 rw [←vu];unfold uS;dsimp only;rw [nF h];split<;>rfl
theorem BF {p:Pt} {t:List Pt} (hk:p.kind=1) (h:0<cU p.text∧cU p.text≤60∧p.text[cU p.text]? = some 61):dw (p::t)=some (p.text.take (cU p.text),(if (p.text.drop (cU p.text+1)).isEmpty then [] else [dD (p.text.drop (cU p.text+1))])++t):=by
 rw [←vu];unfold uS;dsimp only;rw [nE (by rw [hk];rfl),nE h];cases (p.text.drop (cU p.text+1)).isEmpty<;>rfl
theorem Cq (w:World) (n:Nat) (D:Nat→Prop) (l:List Pt) (a:OA) (c:Nat) (hp:az w D n l (.slice a l.length c)) (gM:Sm l) :
 Calls Tryz.prog 186 #[.slice a l.length c] w (Fc w D (dw l)):=by
 obtain⟨res,ag⟩:∃res,res=dw l:=⟨_,rfl⟩;rw [←ag];have tN:Tryz.prog.cellsOf 84=2:=kR
 cases l with
 | nil=>
  have ay:=Hd (show res=none from ag);clear ag hp gM;go_enter Tryz.func186,Tryz.ntmps186;go_wp2_with fail;refine nJ (v:=.tuple #[.agg #[eS,()],false]) (by simp [results,Tryz.results186,go_sem]) rfl ?_;rw [ay.o];exact⟨rfl,(ae.refl _ w).alloc _⟩
 | cons p t=>
  have e9:=ns gM.2 (List.mem_cons_self ..);have Jl:=gM.1;obtain⟨g,o,xa,xl,xc,rfl,⟨q0,q1,q2,q3,q4,q5⟩,hx,Jj,hg⟩:=hp.at (ae.refl _ _) (i:=0) (Nat.succ_pos _);have q0':w.cell? ⟨g,o,none⟩=some (.int .i64 (p.kind:Nat)):=q0;have Yk:w.cell? ⟨g,o+1,none⟩=some (.string ⟨p.text.toArray⟩):=q1;have yT:=bW;have Ok:=hp.shape;obtain⟨D7,bo⟩:(p::t).length≤c∧c≤maxLen:=by
   exact Kx
  have zU:=Hd hp;obtain⟨L,hL⟩:∃L,L=(p::t).length:=⟨_,rfl⟩;rw [←hL] at D7 Jl;rw [←hL];have p1:0<L:=by rw [hL];simp
  have p2:((L:Int)==0)=false:=by rw [nA];omega
  have HL:=Hd hL;have ay:=Hd ag;have lE:=e9.1;clear q0 q1 q2 q3 q4 q5 hx hp gM Ok hL e9 ag;by_cases k:p.kind=1
  ·have t0:((p.kind:Int) != 1)=false:=by rw [bne_eq_false_iff_eq];omega
   obtain⟨R,hR⟩:∃R,R=cU p.text:=⟨_,rfl⟩;have HN:=Hd (λ w q=>Ct p.text w oM q);have FK:R≤p.text.length:=by rw [hR];exact Gc _
   rw [←hR] at HN;have pZ:=Hd hR;have HK:=Hd k;obtain⟨s,hs⟩:∃s:ByteArray,s=⟨p.text.toArray⟩:=⟨_,rfl⟩;have ek:s.size=p.text.length:=by rw [hs];exact nT _
   rw [←hs] at Yk HN;have sw:=Hd hs;have xK:=Hd ek;clear hR k hs;by_cases hq:0<R∧R≤60∧p.text[R]? = some 61
   ·obtain⟨h1,h2,h3⟩:=hq;have hRL:R<s.size:=by
     have:=(List.getElem?_eq_some_iff.1 h3).1;omega
    have hb:s[R]'hRL=61:=by
     rw [gI hRL];unfold au;rw [List.getD_eq_getElem?_getD];have h4:=h3;rw [show p.text=s.data.toList by rw [sw.o]] at h4;rw [h4];rfl
    have cJ:=Hd (show res=some (p.text.take R,(if (p.text.drop (R+1)).isEmpty then [] else [dD (p.text.drop (R+1))])++t) by rw [ay.o,BF HK.o (by rw [←pZ.o];exact⟨h1,h2,h3⟩),←pZ.o]);have r1:((R:Int)==0)=false:=by rw [nA];omega
    have r2:((60:Int)<(R:Int))=False:=eq_false oM;have r3:((s.size:Int)≤(R:Int))=False:=eq_false oM;have r3b:(s.size≤R)=False:=eq_false oM;have r4:(0:Int)≤(R:Int):=oM
    have r5:IntKind.i64.wrap ((R:Int)+1)=(R:Int)+1:=nL _ oM;have r6:(0:Int)≤(R:Int)+1:=oM
    have r7:((R:Int)+1).toNat=R+1:=oM
    have r8:(R:Int)≤(s.size:Int):=oM
    have ac9:s.size≤40000:=oM
    obtain⟨i0,fo,fC,fp,fq⟩:=info_parts ef;clear h3 ay ek FK h1 h2 lE;go_enter Tryz.func186,Tryz.ntmps186;go_wp2_with fail;obtain⟨W,hW⟩:∃W,W=w.alloc (.cells #[eS,()] 84):=⟨_,rfl⟩;have dt:K0 w W:=by rw [hW];exact (ae.refl _ _).alloc _
    have HZ:=Hd (show af W w.heap.size [eS,()] by rw [hW];exact⟨_,nG w _⟩);rw [←hW];have mF:=Hd dt;have q1W:=(uH (a:=⟨g,o+1,none⟩) (dt.block g hg (λ h=>h))).trans Yk;have hgW:=uG hg dt.size;have hWw:=HZ.o.lt;clear dt hW;refine (HN.o W 0).mono ?_;rintro e w1 ⟨rfl,dq,rfl⟩;obtain⟨w2,aQ⟩:∃w2,w2=W.drewN dq:=⟨_,rfl⟩;rw [←aQ]
    have aZ:K0 W w2:=by rw [aQ];exact (ae.refl _ _).drewN _
    replace HZ:=Hd (HZ.o.keep aZ (λ h=>h));replace mF:=Hd (mF.o.trans aZ k3);clear aQ aZ;go_upto_region 7 with fail;go_cut [6] from 42 to 42 (λ l wx=>∃(la:OA) (m lc:Nat),m=0∧l=.slice la m lc∧wx=w2∧Hid (w2.ownsRow 0 67 6 (.slice la m lc) m [])∧Hid (∀g,(Value.slice la m lc).ownBlock=some g→False))
    case first=>
     go_wp2_with fail;go_meet
     case rel=>exact⟨none,0,0,rfl,rfl,rfl,Hd (World.ownsRow_nil _ _ _ _),Hd (λ g hg=>by cases hg)⟩
    case rest=>
    obtain⟨ON,m0,OO,Rt,rfl,rfl,HO0,yx⟩:=hcut;have abL:m0≤5:=oM
    have Si:=Hd Rt;clear Rt;have aQ:=HZ.o.lt;go_upto_if 47 with fail;go_cut [6] from 43 to 55 (λ l wx=>∃(hd:List Pt) (la:OA) (lc:Nat) (wy:World),wy=wx∧l=.slice la hd.length lc∧Hid (hd=if (p.text.drop (R+1)).isEmpty then [] else [dD (p.text.drop (R+1))])∧Hid (ey wy (λ_=>False) (.slice la hd.length lc) hd)∧Hid (K0 wc wy)∧Hid (∀g,(Value.slice la hd.length lc).ownBlock=some g→w.heap.size<g))
    case first=>
     rcases nP (R+1) s.size with h8 | h8
     ·have r9:(R:Int)+1<(s.size:Int):=oM
      have r10:(R:Int)+1≤(s.size:Int):=oM
      have zR:=Hd (show [dD (p.text.drop (R+1))]=if (p.text.drop (R+1)).isEmpty then [] else [dD (p.text.drop (R+1))] from by
       rw [nF];rw [Bool.not_eq_true,List.isEmpty_eq_false_iff];intro e;have:=congrArg List.length e;rw [nI,lN] at this;have:=xK.o;omega)
      clear h8;go_wp2_with (at_builtin;refine nR _ rfl (.tmp 48) (.tmp 54) _ rfl 0 67 i0 _ 6 88 Tryz.underlying29 fo fC fp fq rfl oM (.slice ON m0 OO) m0 [] rfl (HO0.o.alloc _) ⟨wc.heap.size,0,none⟩ 1 1 [.int .i64 1,.string (s.extract (R+1) s.size),eS,eS,(),false] rfl rfl (nK (cs:=#[.int .i64 1,.string (s.extract (R+1) s.size),.string ⟨#[]⟩,.string ⟨#[]⟩,.slice none 0 0,.bool false]) (t:=67) (fr:=(0,0)) (nG wc _)) oC oM uM oM sI (wc.heap.size+1) sI ?_;intro gg aC w5 aK ao bf gT;have HOW:=Hd aK;have JQ:=Hd (show K0 wc w5 from (((ae.refl _ wc).alloc _).grown ao (λ k hk _=>(yx.o k hk))));have xS:=Hd (show w.heap.size<gg by rcases bf with h | h;exact (yx.o _ h).elim;omega);clear aK ao bf)
      go_meet
      case rel=>exact⟨[dD (p.text.drop (R+1))],some ⟨gg,0,none⟩,aC,_,rfl,by show Value.slice _ (m0+1) _=Value.slice _ 1 _;rw [Si.o],zR,Hd ⟨[()],0,rfl,by
       have h9:=HOW.o;rw [Si.o] at h9;rw [xK.o,sw.o,Ld] at h9;exact h9,λ i hi ri=>by
        obtain rfl:i=0:=by simpa using hi
        exact az.nil _ _ _⟩,JQ,Hd (λ g hg=>by have h3:gg=g:=nD hg;have:=xS.o;omega)⟩
     ·have r9:¬(R:Int)+1<(s.size:Int):=oM
      have zR:=Hd (show []=if (p.text.drop (R+1)).isEmpty then [] else [dD (p.text.drop (R+1))] from by
       rw [nE];rw [List.isEmpty_iff];exact List.drop_eq_nil_of_le (by have:=xK.o;omega))
      clear h8;go_wp2_with fail;go_meet
      case rel=>exact⟨[],ON,OO,_,rfl,by show Value.slice _ m0 _=Value.slice _ 0 _;rw [Si.o],zR,Hd ⟨[],0,rfl,by have h9:=HO0.o;rw [Si.o] at h9;exact h9,λ i hi=>nQ hi (uC _)⟩,Hd (ae.refl _ _),Hd (λ g hg=>by rw [Si.o] at yx;exact (yx.o g hg).elim)⟩
    case rest=>
    obtain⟨hd,la,lc,wy,Cb,rfl,zR,HO,Uq,Sh⟩:=hcut;subst Cb;have hh1:hd.length≤1:=by rw [zR.o];split<;>simp
    have lG:=Hd (show res=some (p.text.take R,hd++t) by rw [cJ.o,zR.o]);have adA:=Uq.o.size;replace HZ:=Hd (HZ.o.keep Uq.o (λ h=>h));have xN:=HZ.o.lt;rcases nP 1 c with hc | hc
    ·have z1:(1:Int)≤(L:Int):=oM
     have z2:(L:Int)≤(c:Int):=oM
     have z3:(1:Int)<(c:Int):=oM
     have z4:(c=1)=False:=eq_false oM;go_wp2_with fail;have iH:=zU.o.tail (some ⟨g,o+6,none⟩) (.inl rfl);have ye:t.length=(L - 1):=by have:=HL.o;rw [lC] at this;omega
     obtain⟨us,LS,TK,TJ,AO⟩:=pH iH;obtain⟨ys,OL⟩:∃ys,ys=bg t us:=⟨_,rfl⟩;have Hp:ys.length=(L - 1)*6:=by rw [OL,fw LS,ye]
     rw [←OL] at TK TJ;obtain⟨vs,nn,nc,aU,rT⟩:=HO.o;obtain⟨xs,oZ⟩:∃xs,xs=bg hd vs:=⟨_,rfl⟩;rw [←oZ] at aU;have HYS:=Hd OL;have mG:=Hd oZ;have HUC:=Hd TK;have HU1:=Hd TJ;have J6:=Hd AO;have HUL:=Hd LS;have SD:=Hd nc;have I7:=Hd rT;have HYL:=Hd Hp;have xI:=Hd ye;obtain⟨hh,Lv⟩:∃hh,hh=hd.length:=⟨_,rfl⟩;rw [←Lv] at aU hh1;rw [←Lv];have JM:=Hd Lv;have Dj:=Hd (show ∀g,(Value.slice la hh lc).ownBlock=some g→w.heap.size<g by rw [Lv];exact Sh.o)
     clear iH LS TK TJ AO nc rT OL oZ Hp ye Lv;go_region_law
      ((
       refine kr rF _ _ _ rF 0 67 i0 _ 6 88 Tryz.underlying29 fo fC fp fq rfl oM (.slice la hh lc) hh xs rF (aU.drew)
        ⟨g,o+6,none⟩ (L - 1) (c - 1) ys rF HYL.o (HUC.o _ ((mF.o.trans Uq.o k3).drew)) HU1.o uM oM oM ?_;intro va vc w5 rP ao bf
       have Tu:ae (λ b=>(Value.slice la hh lc).ownBlock=some b) wy w5:=((ae.refl _ wy).drew).grown ao (λ k hk _=>hk);have Tm:=HZ.o.keep Tu (λ e=>by have:=Dj.o _ e;omega);obtain⟨⟨e0,e1⟩,g0,g1⟩:=Tm.two;have AJ:=Tm.lt;have JY:=Hd rP;have JQ:=Hd Tu;have kP:=Hd bf;clear rP ao bf Tu Tm))
     go_wp2_with fail;refine nJ (v:=.tuple #[.agg #[.string (s.extract 0 R),.slice va (hh+(L - 1)) vc],true]) (by simp [results,Tryz.results186,go_sem,e0,e1]) rfl ?_;obtain⟨⟨mm,hpm⟩,bp⟩:=Fq (D:=D) (v':=.slice va (hh+(L - 1)) vc) SD.o I7.o HUL.o J6.o (mF.o.trans Uq.o k3) (by rw [←JM.o];exact JQ.o) (by first | exact Dj.o | (rw [←JM.o];exact Dj.o)) (by rw [←JM.o];exact kP.o) (by rw [←JM.o,xI.o,←mG.o,←HYS.o];exact JY.o) (ej w5 w.heap.size (.string (s.extract 0 R)) (.slice va (hh+(L - 1)) vc)) HZ.o.lt
     have bS:hh+(L - 1)=(hd++t).length:=by rw [lA,xI.o,JM.o]
     exact Qo
    ·obtain rfl:c=1:=oM
     obtain rfl:L=1:=oM
     go_wp2_with fail;have iH:=zU.o.tail (some ⟨g,o,none⟩) (.inr (nO (by have:=HL.o;rw [lC] at this;omega)));have ye:t.length=0:=by have:=HL.o;rw [lC] at this;omega
     obtain⟨us,LS,TK,TJ,AO⟩:=pH iH;obtain⟨ys,OL⟩:∃ys,ys=bg t us:=⟨_,rfl⟩;have Hp:ys.length=0*6:=by rw [OL,fw LS,ye]
     rw [←OL] at TK TJ;obtain⟨vs,nn,nc,aU,rT⟩:=HO.o;obtain⟨xs,oZ⟩:∃xs,xs=bg hd vs:=⟨_,rfl⟩;rw [←oZ] at aU;have HYS:=Hd OL;have mG:=Hd oZ;have HUC:=Hd TK;have HU1:=Hd TJ;have J6:=Hd AO;have HUL:=Hd LS;have SD:=Hd nc;have I7:=Hd rT;have HYL:=Hd Hp;have xI:=Hd ye;obtain⟨hh,Lv⟩:∃hh,hh=hd.length:=⟨_,rfl⟩;rw [←Lv] at aU hh1;rw [←Lv];have JM:=Hd Lv;have Dj:=Hd (show ∀g,(Value.slice la hh lc).ownBlock=some g→w.heap.size<g by rw [Lv];exact Sh.o)
     clear iH LS TK TJ AO nc rT OL oZ Hp ye Lv;go_region_law
      ((
       refine kr rF _ _ _ rF 0 67 i0 _ 6 88 Tryz.underlying29 fo fC fp fq rfl oM (.slice la hh lc) hh xs rF (aU.drew)
        ⟨g,o,none⟩ 0 0 ys rF HYL.o (HUC.o _ ((mF.o.trans Uq.o k3).drew)) HU1.o uM oM oM ?_;intro va vc w5 rP ao bf
       have Tu:ae (λ b=>(Value.slice la hh lc).ownBlock=some b) wy w5:=((ae.refl _ wy).drew).grown ao (λ k hk _=>hk);have Tm:=HZ.o.keep Tu (λ e=>by have:=Dj.o _ e;omega);obtain⟨⟨e0,e1⟩,g0,g1⟩:=Tm.two;have AJ:=Tm.lt;have JY:=Hd rP;have JQ:=Hd Tu;have kP:=Hd bf;clear rP ao bf Tu Tm))
     go_wp2_with fail;refine nJ (v:=.tuple #[.agg #[.string (s.extract 0 R),.slice va (hh+0) vc],true]) (by simp [results,Tryz.results186,go_sem,e0,e1]) rfl ?_;obtain⟨⟨mm,hpm⟩,bp⟩:=Fq (D:=D) (v':=.slice va (hh+0) vc) SD.o I7.o HUL.o J6.o (mF.o.trans Uq.o k3) (by rw [←JM.o];exact JQ.o) (by first | exact Dj.o | (rw [←JM.o];exact Dj.o)) (by rw [←JM.o];exact kP.o) (by rw [←JM.o,xI.o,←mG.o,←HYS.o];exact JY.o) (ej w5 w.heap.size (.string (s.extract 0 R)) (.slice va (hh+0) vc)) HZ.o.lt
     have bS:hh+0=(hd++t).length:=by rw [lA,xI.o,JM.o]
     exact Qo
   ·have cJ:=Hd (show res=none by rw [ay.o];exact vt (by rw [←pZ.o];exact hq));clear ay ek lE;rcases Nat.eq_zero_or_pos R with h0 | h0
    ·have r1:((R:Int)==0)=true:=by rw [nH];omega
     clear h0 hq;exact YO
    ·have r1:((R:Int)==0)=false:=by rw [nA];omega
     rcases nP 60 R with h6 | h6
     ·have r2:(60:Int)<(R:Int):=oM
      clear h0 h6 hq;exact YO
     ·have r2:((60:Int)<(R:Int))=False:=eq_false oM;rcases nP R s.size with h7 | h7
      ·have r3:¬(s.size:Int)≤(R:Int):=oM
       have r4:(0:Int)≤(R:Int):=oM
       obtain⟨cb,D9⟩:∃cb,cb=s[R]'h7:=⟨_,rfl⟩;have cM:cb≠61:=λ e=>hq ⟨h0,h6,by
        rw [e,gI h7] at D9;unfold au at D9;rw [List.getD_eq_getElem?_getD] at D9;have h8:R<s.data.toList.length:=by simpa using h7
        rw [List.getElem?_eq_getElem h8] at D9;rw [show p.text=s.data.toList by rw [sw.o],List.getElem?_eq_getElem h8];exact congrArg some D9.symm⟩
       have hb:=D9.symm;have r9:((cb.toNat:Int) != 61)=true:=by
        rw [bne_iff_ne];intro e;exact cM (UInt8.toNat_inj.1 (by
         have:cb.toNat=61:=oM
         rw [this];rfl))
       clear D9 cM hq;clear h0 h6;exact YO
      ·have r3:(s.size:Int)≤(R:Int):=oM
       clear h0 h6 hq;exact YO
  ·have t0:((p.kind:Int) != 1)=true:=by rw [bne_iff_ne];omega
   have cJ:=Hd (show res=none by
    rw [ay.o];unfold dw;dsimp only;rw [nF (by simpa using k)])
   clear k ay;go_enter Tryz.func186,Tryz.ntmps186;go_wp2_with fail;refine nJ (v:=.tuple #[.agg #[eS,()],false]) (by simp [results,Tryz.results186,go_sem]) rfl ?_;rw [cJ.o];exact⟨rfl,(ae.refl _ w).alloc _⟩
def ls (G:Prop) (w:World) (D:Nat→Prop) (v:Value) (k:Nat) (T:TypeId) (n:Nat) (cs:List Dt):Prop:=∃vs,(G→bV w (λ b=>D b∧v.ownBlock≠some b) cs vs)∧w.ownsRow 0 T k v n vs
theorem ls.nil (G:Prop) (w:World) (D:Nat→Prop) (k:Nat) (T:TypeId):ls G w D (.slice none 0 0) k T 0 []:=⟨[],λ_=>trivial,World.ownsRow_nil _ _ _ _⟩
theorem ls.lt {G:Prop} {w:World} {D:Nat→Prop} {v:Value} {k n:Nat} {T:TypeId} {cs:List Dt} (h:ls G w D v k T n cs) {g:Nat} (hg:v.ownBlock=some g):g<w.heap.size:=by
 obtain⟨vs,hr,ho⟩:=h;exact (ho.lt g hg).2
theorem ls.keep {G:Prop} {w w':World} {D S:Nat→Prop} {v:Value} {k n:Nat} {T:TypeId} {cs:List Dt} (h:ls G w D v k T n cs) (hk:ae S w w') (hD:∀b,b<w.heap.size→D b→¬S b) (hv:∀g,v.ownBlock=some g→¬S g):ls G w' D v k T n cs:=by
 obtain⟨vs,hr,ho⟩:=h;exact⟨vs,λ g=>(hr g).keep hk (λ b hb hd=>hD b hb hd.1),iz ho hk hv⟩
theorem D1 {G G':Prop} {w4:World} {Lo B X N:Nat} {P:Nat→Prop} {v v2 v3:Value} {k k2 k3 m m2 m3:Nat} {Ty T2 T3:TypeId} {ds WT WU d2:List Dt} {us:List Value} {L0:Nat}
 (hP:∀b,P b→(Qd Lo B X b∧b≠N)∧v.ownBlock≠some b∧v2.ownBlock≠some b∧v3.ownBlock≠some b)
 (h1:ls G w4 P v k Ty m ds) (h2:ls G w4 P v2 k2 T2 m2 WT) (h3:ls G w4 P v3 k3 T3 m3 WU)
 (l1:∀g,v.ownBlock=some g→X≤g∧g≠N∧v2.ownBlock≠some g∧v3.ownBlock≠some g) (l2:∀g,v2.ownBlock=some g→g≠N) (l3:∀g,v3.ownBlock=some g→g≠N)
 (hL:X≤L0∧N<L0∧L0≤w4.heap.size∧∀g,(v.ownBlock=some g∨v2.ownBlock=some g∨v3.ownBlock=some g)→g<L0) (Oi:∀b,Qd Lo B L0 b→P b) (hG:G'→G)
 (hx:G'→bV w4 (Qd Lo B L0) d2 us) (UH:B≤X) :
 ∃xs,w4.ownsRow 0 Ty k v m xs∧∀(gg m' aC:Nat) (w5 wo:World) (f:Nat) (P':Nat→Prop),w5.ownsRow 0 Ty k (.slice (some ⟨gg,0,none⟩) m' aC) m' (xs++us)→K0 w4 wo→wo.grownBy w5 v.ownBlock→(v.ownBlock=some gg∨w4.heap.size≤gg)→
  (∀b,P b→gg≠b→P' b)→
  (X≤gg∧gg≠N∧v2.ownBlock≠some gg∧v3.ownBlock≠some gg)∧ae (λ b=>v.ownBlock=some b) w4 w5∧
  ls G' (w5.setCell ⟨N,f,none⟩ (.slice (some ⟨gg,0,none⟩) m' aC)) P' (.slice (some ⟨gg,0,none⟩) m' aC) k Ty m' (ds++d2)∧
  ls G' (w5.setCell ⟨N,f,none⟩ (.slice (some ⟨gg,0,none⟩) m' aC)) P' v2 k2 T2 m2 WT∧ls G' (w5.setCell ⟨N,f,none⟩ (.slice (some ⟨gg,0,none⟩) m' aC)) P' v3 k3 T3 m3 WU:=by
 obtain⟨hXL,hNL,hLw,Xu⟩:=hL;obtain⟨xs,hr,ho⟩:=h1;refine⟨xs,ho,λ gg m' aC w5 wo f P' aU Em ao bf Xi=>?_⟩;have bi:ae (λ b=>v.ownBlock=some b) w4 w5:=(Em.mono (λ_ _ h=>h.elim)).grown ao (λ k hk _=>hk);have UM:gg≠N:=by
  rcases bf with h | h
  ·exact (l1 gg h).2.1
  ·omega
 have Xv:X≤gg:=by
  rcases bf with h | h
  ·exact (l1 gg h).1
  ·omega
 have tQ:v2.ownBlock≠some gg∧v3.ownBlock≠some gg:=by
  exact PX
 have cu:ae (λ b=>b=N) w5 (w5.setCell ⟨N,f,none⟩ (.slice (some ⟨gg,0,none⟩) m' aC)):=(ae.refl _ _).setCell _ _ λ_=>rfl;have cM:∀b,b<w4.heap.size→v.ownBlock≠some b→gg≠b:=λ b hb hv e=>by
  rcases bf with h | h
  ·exact hv (by rw [h,e])
  ·omega
 have qC:∀{vv:Value} {kk mm:Nat} {TT:TypeId} {dd:List Dt},ls G w4 P vv kk TT mm dd→(∀g,vv.ownBlock=some g→v.ownBlock≠some g∧g≠N)→
  ls G' (w5.setCell ⟨N,f,none⟩ (.slice (some ⟨gg,0,none⟩) m' aC)) P' vv kk TT mm dd:=by
  intro vv kk mm TT dd hh hv;obtain⟨ys,hy,hyo⟩:=hh;have qG:=λ g':G'=>(((hy (hG g')).lt.keep bi (λ b _ hb e=>(hP b hb.1.1).2.1 e)).keep cu (λ b _ hb e=>(hP b hb.1.1).1.2 e));have cm:=λ g':G'=>(qG g').mono (D':=λ b=>P' b∧vv.ownBlock≠some b) λ b _ hb=>⟨Xi b hb.1.1 (cM b hb.2 (hP b hb.1.1).2.1),hb.1.2⟩;exact WD
 refine⟨⟨Xv,UM,tQ⟩,bi,?_,qC h2 (λ g hg=>⟨λ e=>(l1 g e).2.2.1 hg,l2 g hg⟩),qC h3 (λ g hg=>⟨λ e=>(l1 g e).2.2.2 hg,l3 g hg⟩)⟩;have pX:G'→bV w4 (λ b=>P b∧v.ownBlock≠some b) d2 us:=λ g'=>(hx g').mono λ b _ hb=>⟨Oi b hb,λ e=>by have h8:=Xu b (.inl e);have h7:=(l1 b e).1;rcases hb with hb | hb<;>omega⟩;have dU:=λ g':G'=>(hr (hG g')).app (pX g');have hr3:=λ g':G'=>(((dU g').lt.keep bi (λ b _ hb e=>hb.1.2 e)).keep cu (λ b _ hb e=>(hP b hb.1.1).1.2 e))
 have qb:=λ g':G'=>(hr3 g').mono (D':=λ b=>P' b∧(Value.slice (some ⟨gg,0,none⟩) m' aC).ownBlock≠some b) λ b _ hb=>⟨Xi b hb.1.1 (cM b hb.2 hb.1.2),λ e=>cM b hb.2 hb.1.2 (nD e)⟩;refine⟨xs++us,qb,aU.1,?_⟩;exact NU
def NJ (Lo B X N:Nat) (o1 o2 o3:Option Nat) (b:Nat):Prop:=(Qd Lo B X b∧b≠N)∧o1≠some b∧o2≠some b∧o3≠some b
structure SQ (G:Prop) (w wr:World) (Lo B ps:Nat) (tv:Value) (n:Nat) (T:List Tk) (X N I x:Nat) (wa:OA) (wm wc:Nat) (ws:List Dt) (ga:OA) (gm gc:Nat) (gs:List Dt) (ra:OA) (rm rc:Nat) (rd:List Dt):Prop where
 rs:QS wr Lo B ps tv n T I x
 kp:ae (λ b=>b=ps) w wr
 zr:af wr w.heap.size [.int .i64 0,false,eS,(),(),(),(),()]
 ro:af wr N [.int .i64 1,false,eS,.slice wa wm wc,.slice ga gm gc,.slice ra rm rc,(),()]
 o1:ls G wr (NJ Lo B X N (Value.slice wa wm wc).ownBlock (Value.slice ga gm gc).ownBlock (Value.slice ra rm rc).ownBlock) (.slice wa wm wc) 1 29 wm ws
 o2:ls G wr (NJ Lo B X N (Value.slice wa wm wc).ownBlock (Value.slice ga gm gc).ownBlock (Value.slice ra rm rc).ownBlock) (.slice ga gm gc) 2 84 gm gs
 o3:ls G wr (NJ Lo B X N (Value.slice wa wm wc).ownBlock (Value.slice ga gm gc).ownBlock (Value.slice ra rm rc).ownBlock) (.slice ra rm rc) 2 86 rm rd
 l1:∀g,(Value.slice wa wm wc).ownBlock=some g→X≤g∧g≠N∧(Value.slice ga gm gc).ownBlock≠some g∧(Value.slice ra rm rc).ownBlock≠some g
 l2:∀g,(Value.slice ga gm gc).ownBlock=some g→X≤g∧g≠N∧(Value.slice wa wm wc).ownBlock≠some g∧(Value.slice ra rm rc).ownBlock≠some g
 l3:∀g,(Value.slice ra rm rc).ownBlock=some g→X≤g∧g≠N∧(Value.slice wa wm wc).ownBlock≠some g∧(Value.slice ga gm gc).ownBlock≠some g
section
variable {G G':Prop} {w wr w4:World} {Lo B ps:Nat} {tv:Value} {n:Nat} {T:List Tk} {X N I J x y:Nat} {wa:OA} {wm wc:Nat} {ws:List Dt} {ga:OA} {gm gc:Nat} {gs:List Dt} {ra:OA} {rm rc:Nat} {rd:List Dt}
theorem SQ.move (h:SQ G w wr Lo B ps tv n T X N I x wa wm wc ws ga gm gc gs ra rm rc rd) (hc:ps<w.heap.size) (hX:w.heap.size<X) (hN:w.heap.size<N) (hk:ae (λ b=>b=ps) wr w4) (du:QS w4 Lo B ps tv n T J y) :
 SQ G w w4 Lo B ps tv n T X N J y wa wm wc ws ga gm gc gs ra rm rc rd:=
 ⟨du,h.kp.trans hk (λ_ _ e=>e),h.zr.keep hk (λ e=>oM),h.ro.keep hk (λ e=>oM),
  h.o1.keep hk (λ b _ hb e=>jV (X:=X) du.ps oM hb.1.1 e) (λ g hg e=>by have:=(h.l1 g hg).1;omega),h.o2.keep hk (λ b _ hb e=>jV (X:=X) du.ps oM hb.1.1 e) (λ g hg e=>by have:=(h.l2 g hg).1;omega),
  h.o3.keep hk (λ b _ hb e=>jV (X:=X) du.ps oM hb.1.1 e) (λ g hg e=>by have:=(h.l3 g hg).1;omega),h.l1,h.l2,h.l3⟩
theorem SQ.keep0 (h:SQ G w wr Lo B ps tv n T X N I x wa wm wc ws ga gm gc gs ra rm rc rd) (hk:K0 wr w4) :
 SQ G w w4 Lo B ps tv n T X N I x wa wm wc ws ga gm gc gs ra rm rc rd:=
 ⟨h.rs.keep0 hk,h.kp.trans hk (λ_ _ e=>e.elim),h.zr.keep hk (λ e=>e),h.ro.keep hk (λ e=>e),
  h.o1.keep hk (λ b _ _ e=>e) (λ g _ e=>e),h.o2.keep hk (λ b _ _ e=>e) (λ g _ e=>e),h.o3.keep hk (λ b _ _ e=>e) (λ g _ e=>e),h.l1,h.l2,h.l3⟩
theorem SQ.sizes (h:SQ G w wr Lo B ps tv n T X N I x wa wm wc ws ga gm gc gs ra rm rc rd) (sB:X≤wr.heap.size):X≤wr.heap.size∧N<wr.heap.size∧∀g,((Value.slice wa wm wc).ownBlock=some g∨(Value.slice ga gm gc).ownBlock=some g∨(Value.slice ra rm rc).ownBlock=some g)→g<wr.heap.size:=
 ⟨sB,h.ro.lt,λ g hg=>by rcases hg with hg | hg | hg;exact h.o1.lt hg;exact h.o2.lt hg;exact h.o3.lt hg⟩
theorem SQ.rest {w5 w6:World} {v u:Value} {f:Nat} (h:SQ G w w4 Lo B ps tv n T X N J y wa wm wc ws ga gm gc gs ra rm rc rd) (hc:ps<w.heap.size) (hX:w.heap.size<X) (hN:w.heap.size<N)
 (hv:∀g,v.ownBlock=some g→X≤g∧g≠N) (bi:ae (λ b=>v.ownBlock=some b) w4 w5) (im:w6=w5.setCell ⟨N,f,none⟩ u) :
 QS w6 Lo B ps tv n T J y∧ae (λ b=>b=ps) w w6∧af w6 w.heap.size [.int .i64 0,false,eS,(),(),(),(),()]∧
 af w5 N [.int .i64 1,false,eS,.slice wa wm wc,.slice ga gm gc,.slice ra rm rc,(),()]∧
 af w6 N ([.int .i64 1,.bool false,.string ⟨#[]⟩,.slice wa wm wc,.slice ga gm gc,.slice ra rm rc,.slice none 0 0,.slice none 0 0].set f u):=by
 have hB:=h.rs.ps;have cu:ae (λ b=>b=N) w5 w6:=by rw [im];exact (ae.refl _ _).setCell _ _ λ_=>rfl
 have vU:=h.ro.keep bi (λ e=>(hv N e).2 rfl);refine⟨(h.rs.keep bi (λ b hb e=>by have:=(hv b e).1;omega) (λ e=>by have:=(hv ps e).1;omega)).keep cu (λ b hb e=>oM) (λ e=>oM),
  (h.kp.trans bi (λ b hb e=>by have:=(hv b e).1;omega)).fresh cu (λ b e=>oM),(h.zr.keep bi (λ e=>by have:=(hv _ e).1;omega)).keep cu (λ e=>oM),vU,?_⟩
 rw [im];exact vU.set f u
theorem SQ.moreR (h:SQ G w wr Lo B ps tv n T X N I x wa wm wc ws ga gm gc gs ra rm rc rd) (hc:ps<w.heap.size) (hX:w.heap.size<X) (hN:w.heap.size<N) (sB:X≤wr.heap.size) (hk:ae (λ b=>b=ps) wr w4) (du:QS w4 Lo B ps tv n T J y) {d2:List Dt} {us:List Value} (hG:G'→G) (hx:G'→bV w4 (Qd Lo B wr.heap.size) d2 us) :
 ∃xs,w4.ownsRow 0 86 2 (.slice ra rm rc) rm xs∧af w4 N [.int .i64 1,false,eS,.slice wa wm wc,.slice ga gm gc,.slice ra rm rc,(),()]∧
  ∀(gg m' aC:Nat) (w5 wo:World),w5.ownsRow 0 86 2 (.slice (some ⟨gg,0,none⟩) m' aC) m' (xs++us)→K0 w4 wo→wo.grownBy w5 (Value.slice ra rm rc).ownBlock→((Value.slice ra rm rc).ownBlock=some gg∨w4.heap.size≤gg)→
   af w5 N [.int .i64 1,false,eS,.slice wa wm wc,.slice ga gm gc,.slice ra rm rc,(),()]∧
   SQ G' w (w5.setCell ⟨N,5,none⟩ (.slice (some ⟨gg,0,none⟩) m' aC)) Lo B ps tv n T X N J y wa wm wc ws ga gm gc gs (some ⟨gg,0,none⟩) m' aC (rd++d2):=by
 have h4:=h.move hc hX hN hk du;obtain⟨s1,s2,s3⟩:=h.sizes sB;have UH:B≤X:=by have:=du.ps;omega
 have Oi:∀b,Qd Lo B wr.heap.size b→NJ Lo B X N (Value.slice wa wm wc).ownBlock (Value.slice ga gm gc).ownBlock (Value.slice ra rm rc).ownBlock b:=λ b hb=>by
  exact SZ
 obtain⟨xs,ho,hF⟩:=D1 (G':=G') (Lo:=Lo) (B:=B) (λ b hb=>⟨hb.1,hb.2.2.2,hb.2.1,hb.2.2.1⟩) h4.o3 h4.o1 h4.o2 h4.l3 (λ g hg=>(h4.l1 g hg).2.1) (λ g hg=>(h4.l2 g hg).2.1)
  ⟨s1,s2,hk.size,λ g hg=>by rcases hg with hg | hg | hg;exact s3 g (.inr (.inr hg));exact s3 g (.inl hg);exact s3 g (.inr (.inl hg))⟩
  (λ b hb=>Oi b hb) hG hx UH
 refine⟨xs,ho,h4.ro,λ gg m' aC w5 wo aU Em ao bf=>?_⟩;obtain⟨⟨a1,a2,a3,a4⟩,bi,p1,p2,p3⟩:=hF gg m' aC w5 wo 5 (NJ Lo B X N (Value.slice wa wm wc).ownBlock (Value.slice ga gm gc).ownBlock (Value.slice (some ⟨gg,0,none⟩) m' aC).ownBlock) aU Em ao bf (λ b hb hg=>⟨hb.1,hb.2.1,hb.2.2.1,λ e=>hg (nD e)⟩);obtain⟨r1,r2,r3,r4,r5⟩:=h4.rest hc hX hN (λ g hg=>⟨(h4.l3 g hg).1,(h4.l3 g hg).2.1⟩) bi (f:=5) (u:=.slice (some ⟨gg,0,none⟩) m' aC) rfl
 exact Wz
theorem SQ.moreW (h:SQ G w wr Lo B ps tv n T X N I x wa wm wc ws ga gm gc gs ra rm rc rd) (hc:ps<w.heap.size) (hX:w.heap.size<X) (hN:w.heap.size<N) (sB:X≤wr.heap.size) (hk:ae (λ b=>b=ps) wr w4) (du:QS w4 Lo B ps tv n T J y) {d2:List Dt} {us:List Value} (hG:G'→G) (hx:G'→bV w4 (Qd Lo B wr.heap.size) d2 us) :
 ∃xs,w4.ownsRow 0 29 1 (.slice wa wm wc) wm xs∧af w4 N [.int .i64 1,false,eS,.slice wa wm wc,.slice ga gm gc,.slice ra rm rc,(),()]∧
  ∀(gg m' aC:Nat) (w5 wo:World),w5.ownsRow 0 29 1 (.slice (some ⟨gg,0,none⟩) m' aC) m' (xs++us)→K0 w4 wo→wo.grownBy w5 (Value.slice wa wm wc).ownBlock→((Value.slice wa wm wc).ownBlock=some gg∨w4.heap.size≤gg)→
   af w5 N [.int .i64 1,false,eS,.slice wa wm wc,.slice ga gm gc,.slice ra rm rc,(),()]∧
   SQ G' w (w5.setCell ⟨N,3,none⟩ (.slice (some ⟨gg,0,none⟩) m' aC)) Lo B ps tv n T X N J y (some ⟨gg,0,none⟩) m' aC (ws++d2) ga gm gc gs ra rm rc rd:=by
 have h4:=h.move hc hX hN hk du;obtain⟨s1,s2,s3⟩:=h.sizes sB;have UH:B≤X:=by have:=du.ps;omega
 have Oi:∀b,Qd Lo B wr.heap.size b→NJ Lo B X N (Value.slice wa wm wc).ownBlock (Value.slice ga gm gc).ownBlock (Value.slice ra rm rc).ownBlock b:=λ b hb=>by
  exact SZ
 obtain⟨xs,ho,hF⟩:=D1 (G':=G') (Lo:=Lo) (B:=B) (λ b hb=>⟨hb.1,hb.2.1,hb.2.2.1,hb.2.2.2⟩) h4.o1 h4.o2 h4.o3 h4.l1 (λ g hg=>(h4.l2 g hg).2.1) (λ g hg=>(h4.l3 g hg).2.1)
  ⟨s1,s2,hk.size,s3⟩
  (λ b hb=>Oi b hb) hG hx UH
 refine⟨xs,ho,h4.ro,λ gg m' aC w5 wo aU Em ao bf=>?_⟩;obtain⟨⟨a1,a2,a3,a4⟩,bi,p1,p2,p3⟩:=hF gg m' aC w5 wo 3 (NJ Lo B X N (Value.slice (some ⟨gg,0,none⟩) m' aC).ownBlock (Value.slice ga gm gc).ownBlock (Value.slice ra rm rc).ownBlock) aU Em ao bf (λ b hb hg=>⟨hb.1,λ e=>hg (nD e),hb.2.2.1,hb.2.2.2⟩);obtain⟨r1,r2,r3,r4,r5⟩:=h4.rest hc hX hN (λ g hg=>⟨(h4.l1 g hg).1,(h4.l1 g hg).2.1⟩) bi (f:=3) (u:=.slice (some ⟨gg,0,none⟩) m' aC) rfl
 exact Wx
theorem SQ.moreA (h:SQ G w wr Lo B ps tv n T X N I x wa wm wc ws ga gm gc gs ra rm rc rd) (hc:ps<w.heap.size) (hX:w.heap.size<X) (hN:w.heap.size<N) (sB:X≤wr.heap.size) (hk:ae (λ b=>b=ps) wr w4) (du:QS w4 Lo B ps tv n T J y) {d2:List Dt} {us:List Value} (hG:G'→G) (hx:G'→bV w4 (Qd Lo B wr.heap.size) d2 us) :
 ∃xs,w4.ownsRow 0 84 2 (.slice ga gm gc) gm xs∧af w4 N [.int .i64 1,false,eS,.slice wa wm wc,.slice ga gm gc,.slice ra rm rc,(),()]∧
  ∀(gg m' aC:Nat) (w5 wo:World),w5.ownsRow 0 84 2 (.slice (some ⟨gg,0,none⟩) m' aC) m' (xs++us)→K0 w4 wo→wo.grownBy w5 (Value.slice ga gm gc).ownBlock→((Value.slice ga gm gc).ownBlock=some gg∨w4.heap.size≤gg)→
   af w5 N [.int .i64 1,false,eS,.slice wa wm wc,.slice ga gm gc,.slice ra rm rc,(),()]∧
   SQ G' w (w5.setCell ⟨N,4,none⟩ (.slice (some ⟨gg,0,none⟩) m' aC)) Lo B ps tv n T X N J y wa wm wc ws (some ⟨gg,0,none⟩) m' aC (gs++d2) ra rm rc rd:=by
 have h4:=h.move hc hX hN hk du;obtain⟨s1,s2,s3⟩:=h.sizes sB;have UH:B≤X:=by have:=du.ps;omega
 have Oi:∀b,Qd Lo B wr.heap.size b→NJ Lo B X N (Value.slice wa wm wc).ownBlock (Value.slice ga gm gc).ownBlock (Value.slice ra rm rc).ownBlock b:=λ b hb=>by
  exact SZ
 obtain⟨xs,ho,hF⟩:=D1 (G':=G') (Lo:=Lo) (B:=B) (λ b hb=>⟨hb.1,hb.2.2.1,hb.2.1,hb.2.2.2⟩) h4.o2 h4.o1 h4.o3 h4.l2 (λ g hg=>(h4.l1 g hg).2.1) (λ g hg=>(h4.l3 g hg).2.1)
  ⟨s1,s2,hk.size,λ g hg=>by rcases hg with hg | hg | hg;exact s3 g (.inr (.inl hg));exact s3 g (.inl hg);exact s3 g (.inr (.inr hg))⟩
  (λ b hb=>Oi b hb) hG hx UH
 refine⟨xs,ho,h4.ro,λ gg m' aC w5 wo aU Em ao bf=>?_⟩;obtain⟨⟨a1,a2,a3,a4⟩,bi,p1,p2,p3⟩:=hF gg m' aC w5 wo 4 (NJ Lo B X N (Value.slice wa wm wc).ownBlock (Value.slice (some ⟨gg,0,none⟩) m' aC).ownBlock (Value.slice ra rm rc).ownBlock) aU Em ao bf (λ b hb hg=>⟨hb.1,hb.2.1,λ e=>hg (nD e),hb.2.2.2⟩);obtain⟨r1,r2,r3,r4,r5⟩:=h4.rest hc hX hN (λ g hg=>⟨(h4.l2 g hg).1,(h4.l2 g hg).2.1⟩) bi (f:=4) (u:=.slice (some ⟨gg,0,none⟩) m' aC) rfl
 exact Wy
theorem SQ.all (h:SQ G w wr Lo B ps tv n T X N I x wa wm wc ws ga gm gc gs ra rm rc rd) (g:G):bV wr (Qd Lo B X) (cE 1 false [] ws gs rd [] []) [.int .i64 1,false,eS,.slice wa wm wc,.slice ga gm gc,.slice ra rm rc,(),()]:=by
 have gC:∀{v:Value} {k m:Nat} {Ty:TypeId} {ds:List Dt} {P:Nat→Prop},ls G wr P v k Ty m ds→(∀b,P b→Qd Lo B X b)→(∀g,v.ownBlock=some g→X≤g)→Rd wr (Qd Lo B X) (.sl k ds) v:=λ ho hP hv=>by
  obtain⟨us,hu,hoo⟩:=ho;exact eM.reads (D:=Qd Lo B X) ⟨us,(hu g).mono λ b _ hb=>⟨hP b hb.1,hb.2⟩,hoo⟩ (λ g hg=>.inr (hv g hg))
 exact WM
end
end Go.Proofs.YtiihpbccabeoeaaGreatDoor
