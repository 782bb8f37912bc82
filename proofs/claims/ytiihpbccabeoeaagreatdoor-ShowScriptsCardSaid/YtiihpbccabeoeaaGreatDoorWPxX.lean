/- The walk: a part. -/
import Derived.Test.YtiihpbccabeoeaaGreatDoorWPxW
namespace Go.Proofs.YtiihpbccabeoeaaGreatDoor
open Go.RowKit
set_option linter.unusedVariables false
set_option maxRecDepth 100000
set_option maxHeartbeats 16000000
theorem Cv (l:Bs) (R:Nat):(⟨l.toArray⟩:ByteArray).extract 0 R=⟨(l.take R).toArray⟩:=by
 apply ByteArray.ext;apply Array.ext';rw [Lib.extract_data];simp
theorem L2 (l:Bs) (R:Nat):(⟨l.toArray⟩:ByteArray).extract R l.length=⟨(l.drop R).toArray⟩:=by
 apply ByteArray.ext;apply Array.ext';rw [Lib.extract_data];simp only [List.take_of_length_le (Nat.le_of_eq (List.length_drop ..))]
theorem F9 {w wy w5 w6:World} {D:Nat→Prop} {hd t:List Pt} {v v':Value} {vs us:List Value} {nn n:Nat} (hvl:vs.length=hd.length) (hvn:∀i (h:i<hd.length) (h':i<vs.length),aV wy (fun b=>False∧v.ownBlock≠some b) nn hd[i].word vs[i])
 (hul:us.length=t.length) (hun:∀i (h:i<t.length) (h':i<us.length),aV w D n t[i].word us[i]) (hk0:K0 w wy) (hk5:aB (fun b=>v.ownBlock=some b) wy w5) (hv:∀g,v.ownBlock=some g→w.heap.size<g)
 (hat:v'.ownBlock=v.ownBlock∨v'.ownBlock=some wy.heap.size) (hown:w5.ownsRow 0 67 6 v' (hd.length+t.length) (cL hd vs++cL t us)) (hk6:aB (fun b=>b=w.heap.size) w5 w6) (hw:w.heap.size<wy.heap.size) :
 (∃m,aV w6 (fun b=>D b∨w.heap.size≤b) m (hd++t) v')∧K0 w w6:=by
 have hv':∀g,v'.ownBlock=some g→w.heap.size<g:=fun g hg=>by
  rcases hat with h | h
  ·exact hv g (by rw [←h];exact hg)
  ·rw [h] at hg;have:=Option.some.inj hg;omega
 have hk:K0 w w6:=(hk0.fresh hk5 (fun b e=>by have:=hv b e;omega)).fresh hk6 (fun b e=>by omega);refine⟨?_,hk⟩;have hO:gE w6 (fun b=>D b∨w.heap.size≤b) v' (hd++t):=by
  refine⟨vs++us,nn+n,by simp [hvl,hul],?_,fun i hi hi'=>?_⟩
  ·rw [iD hvl,lA];exact iK hown hk6 (fun g hg e=>by have:=hv' g hg;omega)
  ·rcases Nat.lt_or_ge i hd.length with h9 | h9
   ·rw [List.getElem_append_left h9,List.getElem_append_left (by omega)];exact ((((hvn i h9 (by omega)).mono (D':=fun _=>False) (fun b _ hb=>hb.1)).keep hk5 (fun _ _ h=>h.elim)).keep hk6 (fun _ _ h=>h.elim)).le (Nat.le_add_right _ _) |>.mono (fun b _ h=>h.elim)
   ·rw [List.getElem_append_right h9,List.getElem_append_right (by omega)];have h8:=hun (i - hd.length) (by rw [lA] at hi;omega) (by rw [lA] at hi';omega);have h7:aV w (fun b=>D b∧b<w.heap.size) n (t[i - hd.length]'(by rw [lA] at hi;omega)).word (us[i - hd.length]'(by rw [lA] at hi';omega)):=h8.mono fun b hb hd=>⟨hd,hb⟩;have h6:=((h7.keep hk (fun _ _ _ h=>h)).le (Nat.le_add_left n nn)).mono (D':=fun b=>(D b∨w.heap.size≤b)∧v'.ownBlock≠some b) (fun b _ hb=>⟨.inl hb.1,fun e=>by have:=hv' b e;omega⟩)
    simpa only [hvl] using h6
 exact hO.reads (fun g hg=>.inr (by have:=hv' g hg;omega))
theorem wR {p:Pt} {t:List Pt} (h:¬(0<dK p.text∧dK p.text≤60∧p.text[dK p.text]? = some 61)):c8 (p::t)=none:=by
 rw [←vL];unfold uA;dsimp only;rw [if_neg h];split<;>rfl
theorem Cw {p:Pt} {t:List Pt} (hk:p.kind=1) (h:0<dK p.text∧dK p.text≤60∧p.text[dK p.text]? = some 61):c8 (p::t)=some (p.text.take (dK p.text),(if (p.text.drop (dK p.text+1)).isEmpty then [] else [eG (p.text.drop (dK p.text+1))])++t):=by
 rw [←vL];unfold uA;dsimp only;rw [if_pos (by rw [hk];rfl),if_pos h];cases (p.text.drop (dK p.text+1)).isEmpty<;>rfl
theorem Cj (w:World) (n:Nat) (D:Nat→Prop) (l:List Pt) (a:OA) (c:Nat) (hp:aV w D n l (.slice a l.length c)) (hsm:Sm l) :
 Calls Tryz.prog 186 #[.slice a l.length c] w (Nh w D (c8 l)):=by
 obtain⟨res,hres⟩:∃res,res=c8 l:=⟨_,rfl⟩;rw [←hres];have hc2:Tryz.prog.cellsOf 84=2:=by kernel_rfl
 cases l with
 | nil=>
  have HRES:=Hd (show res=none from hres);clear hres hp hsm;go_enter Tryz.func186,Tryz.ntmps186;go_wp2_with fail;refine bodyPost_ret (v:=.tuple #[.agg #[.string ⟨#[]⟩,.slice none 0 0],.bool false]) (by simp [results,Tryz.results186,go_sem]) rfl ?_;rw [HRES.o];exact⟨rfl,(aB.refl _ w).alloc _⟩
 | cons p t=>
  have hst:=A0 hsm.2 (List.mem_cons_self ..);have hsl:=hsm.1;obtain⟨g,o,xa,xl,xc,rfl,⟨q0,q1,q2,q3,q4,q5⟩,hx,hn0,hg⟩:=hp.at (aB.refl _ _) (i:=0) (Nat.succ_pos _);have q0':w.cell? ⟨g,o,none⟩=some (.int .i64 (p.kind:Nat)):=q0;have q1':w.cell? ⟨g,o+1,none⟩=some (.string ⟨p.text.toArray⟩):=q1;have hc6:=dN;have hcap:=hp.shape;obtain⟨hc1,hcm⟩:(p::t).length≤c∧c≤maxLen:=by
   obtain⟨a',c',e,h1,h2⟩:=hcap;injection e with e1 e2 e3;omega
  have HPT:=Hd hp;obtain⟨L,hL⟩:∃L,L=(p::t).length:=⟨_,rfl⟩;rw [←hL] at hc1 hsl;rw [←hL];have p1:0<L:=by rw [hL];simp
  have p2:((L:Int)==0)=false:=by rw [beq_eq_false_iff_ne];omega
  have HL:=Hd hL;have HRES:=Hd hres;have htl:=hst.1;clear q0 q1 q2 q3 q4 q5 hx hp hsm hcap hL hst hres;by_cases k:p.kind=1
  ·have t0:((p.kind:Int) != 1)=false:=by rw [bne_eq_false_iff_eq];omega
   obtain⟨R,hR⟩:∃R,R=dK p.text:=⟨_,rfl⟩;have HN:=Hd (fun w q=>By p.text w (by omega) q);have hRl:R≤p.text.length:=by rw [hR];exact Gr _
   rw [←hR] at HN;have HRR:=Hd hR;have HK:=Hd k;obtain⟨s,hs⟩:∃s:ByteArray,s=⟨p.text.toArray⟩:=⟨_,rfl⟩;have hsz:s.size=p.text.length:=by rw [hs];exact Lib.size_eq _
   rw [←hs] at q1' HN;have HSS:=Hd hs;have HSZ:=Hd hsz;clear hR k hs;by_cases hq:0<R∧R≤60∧p.text[R]? = some 61
   ·obtain⟨h1,h2,h3⟩:=hq;have hRL:R<s.size:=by
     have:=(List.getElem?_eq_some_iff.1 h3).1;omega
    have hb:s[R]'hRL=61:=by
     rw [gB hRL];unfold aM;rw [List.getD_eq_getElem?_getD];have h4:=h3;rw [show p.text=s.data.toList by rw [HSS.o]] at h4;rw [h4];rfl
    have HRES2:=Hd (show res=some (p.text.take R,(if (p.text.drop (R+1)).isEmpty then [] else [eG (p.text.drop (R+1))])++t) by rw [HRES.o,Cw HK.o (by rw [←HRR.o];exact⟨h1,h2,h3⟩),←HRR.o]);have r1:((R:Int)==0)=false:=by rw [beq_eq_false_iff_ne];omega
    have r2:((60:Int)<(R:Int))=False:=eq_false (by omega);have r3:((s.size:Int)≤(R:Int))=False:=eq_false (by omega);have r3b:(s.size≤R)=False:=eq_false (by omega);have r4:(0:Int)≤(R:Int):=by omega
    have r5:IntKind.i64.wrap ((R:Int)+1)=(R:Int)+1:=IntWalk.i64_in _ (by omega);have r6:(0:Int)≤(R:Int)+1:=by omega
    have r7:((R:Int)+1).toNat=R+1:=by omega
    have r8:(R:Int)≤(s.size:Int):=by omega
    have hsm2:s.size≤40000:=by omega
    obtain⟨i0,hi0,hz0,hz1,hz2⟩:=info_parts i9;clear h3 HRES hsz hRl h1 h2 htl;go_enter Tryz.func186,Tryz.ntmps186;go_wp2_with fail;obtain⟨W,hW⟩:∃W,W=w.alloc (.cells #[.string ⟨#[]⟩,.slice none 0 0] 84):=⟨_,rfl⟩;have hk0:K0 w W:=by rw [hW];exact (aB.refl _ _).alloc _
    have HZ:=Hd (show aH W w.heap.size [.string ⟨#[]⟩,.slice none 0 0] by rw [hW];exact⟨_,heap_alloc_new w _⟩);rw [←hW];have HK0:=Hd hk0;have q1W:=(World.cell?_of_block (a:=⟨g,o+1,none⟩) (hk0.block g hg (fun h=>h))).trans q1';have hgW:=Nat.lt_of_lt_of_le hg hk0.size;have hWw:=HZ.o.lt;clear hk0 hW;refine (HN.o W 0).mono ?_;rintro e w1 ⟨rfl,dq,rfl⟩;obtain⟨w2,hw2⟩:∃w2,w2=W.drewN dq:=⟨_,rfl⟩;rw [←hw2]
    have hkw:K0 W w2:=by rw [hw2];exact (aB.refl _ _).drewN _
    replace HZ:=Hd (HZ.o.keep hkw (fun h=>h));replace HK0:=Hd (HK0.o.trans hkw k3);clear hw2 hkw;go_upto_region 7 with fail;go_cut [6] from 42 to 42 (fun l wx=>∃(la:OA) (m lc:Nat),m=0∧l=.slice la m lc∧wx=w2∧Hid (w2.ownsRow 0 67 6 (.slice la m lc) m [])∧Hid (∀g,(Value.slice la m lc).ownBlock=some g→False))
    case first=>
     go_wp2_with fail;go_meet
     case rel=>exact⟨none,0,0,rfl,rfl,rfl,Hd (World.ownsRow_nil _ _ _ _),Hd (fun g hg=>by cases hg)⟩
    case rest=>
    obtain⟨la0,m0,lc0,hm0,rfl,rfl,HO0,HN0⟩:=hcut;have hm0b:m0≤5:=by omega
    have HM0:=Hd hm0;clear hm0;have hw2:=HZ.o.lt;go_upto_if 47 with fail;go_cut [6] from 43 to 55 (fun l wx=>∃(hd:List Pt) (la:OA) (lc:Nat) (wy:World),wy=wx∧l=.slice la hd.length lc∧Hid (hd=if (p.text.drop (R+1)).isEmpty then [] else [eG (p.text.drop (R+1))])∧Hid (gE wy (fun _=>False) (.slice la hd.length lc) hd)∧Hid (K0 wc wy)∧Hid (∀g,(Value.slice la hd.length lc).ownBlock=some g→w.heap.size<g))
    case first=>
     rcases Nat.lt_or_ge (R+1) s.size with h8 | h8
     ·have r9:(R:Int)+1<(s.size:Int):=by omega
      have r10:(R:Int)+1≤(s.size:Int):=by omega
      have HHD:=Hd (show [eG (p.text.drop (R+1))]=if (p.text.drop (R+1)).isEmpty then [] else [eG (p.text.drop (R+1))] from by
       rw [if_neg];rw [Bool.not_eq_true,List.isEmpty_eq_false_iff];intro e;have:=congrArg List.length e;rw [List.length_drop,lN] at this;have:=HSZ.o;omega)
      clear h8;go_wp2_with (at_builtin;refine wpList_append_lies _ rfl (.tmp 48) (.tmp 54) _ rfl 0 67 i0 _ 6 88 Tryz.underlying29 hi0 hz0 hz1 hz2 rfl (by omega) (.slice la0 m0 lc0) m0 [] rfl (HO0.o.alloc _) ⟨wc.heap.size,0,none⟩ 1 1 [.int .i64 1,.string (s.extract (R+1) s.size),.string ⟨#[]⟩,.string ⟨#[]⟩,.slice none 0 0,.bool false] rfl rfl (World.news_of_block (cs:=#[.int .i64 1,.string (s.extract (R+1) s.size),.string ⟨#[]⟩,.string ⟨#[]⟩,.slice none 0 0,.bool false]) (t:=67) (fr:=(0,0)) (heap_alloc_new wc _)) (by simp [Value.oneCell']) (by omega) (by unfold maxLen;omega) (by omega) (by simp) (wc.heap.size+1) (by simp) ?_;intro gg cap w5 hown2 hgrow hat hlt5;have HOW:=Hd hown2;have HKG:=Hd (show K0 wc w5 from (((aB.refl _ wc).alloc _).grown hgrow (fun k hk _=>(HN0.o k hk))));have HGG:=Hd (show w.heap.size<gg by rcases hat with h | h;exact (HN0.o _ h).elim;omega);clear hown2 hgrow hat)
      go_meet
      case rel=>exact⟨[eG (p.text.drop (R+1))],some ⟨gg,0,none⟩,cap,_,rfl,by show Value.slice _ (m0+1) _=Value.slice _ 1 _;rw [HM0.o],HHD,Hd ⟨[.slice none 0 0],0,rfl,by
       have h9:=HOW.o;rw [HM0.o] at h9;rw [HSZ.o,HSS.o,L2] at h9;exact h9,fun i hi hi'=>by
        obtain rfl:i=0:=by simpa using hi
        exact aV.nil _ _ _⟩,HKG,Hd (fun g hg=>by have h3:gg=g:=Option.some.inj hg;have:=HGG.o;omega)⟩
     ·have r9:¬(R:Int)+1<(s.size:Int):=by omega
      have HHD:=Hd (show []=if (p.text.drop (R+1)).isEmpty then [] else [eG (p.text.drop (R+1))] from by
       rw [if_pos];rw [List.isEmpty_iff];exact List.drop_eq_nil_of_le (by have:=HSZ.o;omega))
      clear h8;go_wp2_with fail;go_meet
      case rel=>exact⟨[],la0,lc0,_,rfl,by show Value.slice _ m0 _=Value.slice _ 0 _;rw [HM0.o],HHD,Hd ⟨[],0,rfl,by have h9:=HO0.o;rw [HM0.o] at h9;exact h9,fun i hi=>absurd hi (Nat.not_lt_zero _)⟩,Hd (aB.refl _ _),Hd (fun g hg=>by rw [HM0.o] at HN0;exact (HN0.o g hg).elim)⟩
    case rest=>
    obtain⟨hd,la,lc,wy,hwy,rfl,HHD,HO,HKY,HLO⟩:=hcut;subst hwy;have hh1:hd.length≤1:=by rw [HHD.o];split<;>simp
    have HRES3:=Hd (show res=some (p.text.take R,hd++t) by rw [HRES2.o,HHD.o]);have hwle:=HKY.o.size;replace HZ:=Hd (HZ.o.keep HKY.o (fun h=>h));have hw9:=HZ.o.lt;rcases Nat.lt_or_ge 1 c with hc | hc
    ·have z1:(1:Int)≤(L:Int):=by omega
     have z2:(L:Int)≤(c:Int):=by omega
     have z3:(1:Int)<(c:Int):=by omega
     have z4:(c=1)=False:=eq_false (by omega);go_wp2_with fail;have hpt:=HPT.o.tail (some ⟨g,o+6,none⟩) (.inl rfl);have hL1:t.length=(L - 1):=by have:=HL.o;rw [lC] at this;omega
     obtain⟨us,hul,huc,hu1,hun⟩:=xX hpt;obtain⟨ys,hys⟩:∃ys,ys=cL t us:=⟨_,rfl⟩;have hyl:ys.length=(L - 1)*6:=by rw [hys,k6 hul,hL1]
     rw [←hys] at huc hu1;obtain⟨vs,nn,hvl,hown,hvn⟩:=HO.o;obtain⟨xs,hxs⟩:∃xs,xs=cL hd vs:=⟨_,rfl⟩;rw [←hxs] at hown;have HYS:=Hd hys;have HXS:=Hd hxs;have HUC:=Hd huc;have HU1:=Hd hu1;have HUN:=Hd hun;have HUL:=Hd hul;have HVL:=Hd hvl;have HVN:=Hd hvn;have HYL:=Hd hyl;have HL1:=Hd hL1;obtain⟨hh,hhh⟩:∃hh,hh=hd.length:=⟨_,rfl⟩;rw [←hhh] at hown hh1;rw [←hhh];have HHH:=Hd hhh;have HLO2:=Hd (show ∀g,(Value.slice la hh lc).ownBlock=some g→w.heap.size<g by rw [hhh];exact HLO.o)
     clear hpt hul huc hu1 hun hvl hvn hys hxs hyl hL1 hhh;go_region_law
      ((
       refine jZ (by rfl) _ _ _ (by rfl) 0 67 i0 _ 6 88 Tryz.underlying29 hi0 hz0 hz1 hz2 rfl (by omega) (.slice la hh lc) hh xs (by rfl) (hown.drew)
        ⟨g,o+6,none⟩ (L - 1) (c - 1) ys (by rfl) HYL.o (HUC.o _ ((HK0.o.trans HKY.o k3).drew)) HU1.o (by unfold maxLen;omega) (by omega) (by omega) ?_;intro va vc w5 hown5 hgrow hat
       have hkg:aB (fun b=>(Value.slice la hh lc).ownBlock=some b) wy w5:=((aB.refl _ wy).drew).grown hgrow (fun k hk _=>hk);have hZ5:=HZ.o.keep hkg (fun e=>by have:=HLO2.o _ e;omega);obtain⟨⟨e0,e1⟩,g0,g1⟩:=hZ5.two;have hltR:=hZ5.lt;have HOWN5:=Hd hown5;have HKG:=Hd hkg;have HAT:=Hd hat;clear hown5 hgrow hat hkg hZ5))
     go_wp2_with fail;refine bodyPost_ret (v:=.tuple #[.agg #[.string (s.extract 0 R),.slice va (hh+(L - 1)) vc],.bool true]) (by simp [results,Tryz.results186,go_sem,e0,e1]) rfl ?_;obtain⟨⟨mm,hpm⟩,hkk⟩:=F9 (D:=D) (v':=.slice va (hh+(L - 1)) vc) HVL.o HVN.o HUL.o HUN.o (HK0.o.trans HKY.o k3) (by rw [←HHH.o];exact HKG.o) (by first | exact HLO2.o | (rw [←HHH.o];exact HLO2.o)) (by rw [←HHH.o];exact HAT.o) (by rw [←HHH.o,HL1.o,←HXS.o,←HYS.o];exact HOWN5.o) (jB w5 w.heap.size (.string (s.extract 0 R)) (.slice va (hh+(L - 1)) vc)) HZ.o.lt
     have hlen:hh+(L - 1)=(hd++t).length:=by rw [lA,HL1.o,HHH.o]
     rw [HRES3.o];refine⟨va,vc,mm,?_,?_,hkk⟩
     ·rw [←hlen,HSS.o,Cv]
     ·rw [←hlen];exact hpm
    ·obtain rfl:c=1:=by omega
     obtain rfl:L=1:=by omega
     go_wp2_with fail;have hpt:=HPT.o.tail (some ⟨g,o,none⟩) (.inr (List.eq_nil_of_length_eq_zero (by have:=HL.o;rw [lC] at this;omega)));have hL1:t.length=0:=by have:=HL.o;rw [lC] at this;omega
     obtain⟨us,hul,huc,hu1,hun⟩:=xX hpt;obtain⟨ys,hys⟩:∃ys,ys=cL t us:=⟨_,rfl⟩;have hyl:ys.length=0*6:=by rw [hys,k6 hul,hL1]
     rw [←hys] at huc hu1;obtain⟨vs,nn,hvl,hown,hvn⟩:=HO.o;obtain⟨xs,hxs⟩:∃xs,xs=cL hd vs:=⟨_,rfl⟩;rw [←hxs] at hown;have HYS:=Hd hys;have HXS:=Hd hxs;have HUC:=Hd huc;have HU1:=Hd hu1;have HUN:=Hd hun;have HUL:=Hd hul;have HVL:=Hd hvl;have HVN:=Hd hvn;have HYL:=Hd hyl;have HL1:=Hd hL1;obtain⟨hh,hhh⟩:∃hh,hh=hd.length:=⟨_,rfl⟩;rw [←hhh] at hown hh1;rw [←hhh];have HHH:=Hd hhh;have HLO2:=Hd (show ∀g,(Value.slice la hh lc).ownBlock=some g→w.heap.size<g by rw [hhh];exact HLO.o)
     clear hpt hul huc hu1 hun hvl hvn hys hxs hyl hL1 hhh;go_region_law
      ((
       refine jZ (by rfl) _ _ _ (by rfl) 0 67 i0 _ 6 88 Tryz.underlying29 hi0 hz0 hz1 hz2 rfl (by omega) (.slice la hh lc) hh xs (by rfl) (hown.drew)
        ⟨g,o,none⟩ 0 0 ys (by rfl) HYL.o (HUC.o _ ((HK0.o.trans HKY.o k3).drew)) HU1.o (by unfold maxLen;omega) (by omega) (by omega) ?_;intro va vc w5 hown5 hgrow hat
       have hkg:aB (fun b=>(Value.slice la hh lc).ownBlock=some b) wy w5:=((aB.refl _ wy).drew).grown hgrow (fun k hk _=>hk);have hZ5:=HZ.o.keep hkg (fun e=>by have:=HLO2.o _ e;omega);obtain⟨⟨e0,e1⟩,g0,g1⟩:=hZ5.two;have hltR:=hZ5.lt;have HOWN5:=Hd hown5;have HKG:=Hd hkg;have HAT:=Hd hat;clear hown5 hgrow hat hkg hZ5))
     go_wp2_with fail;refine bodyPost_ret (v:=.tuple #[.agg #[.string (s.extract 0 R),.slice va (hh+0) vc],.bool true]) (by simp [results,Tryz.results186,go_sem,e0,e1]) rfl ?_;obtain⟨⟨mm,hpm⟩,hkk⟩:=F9 (D:=D) (v':=.slice va (hh+0) vc) HVL.o HVN.o HUL.o HUN.o (HK0.o.trans HKY.o k3) (by rw [←HHH.o];exact HKG.o) (by first | exact HLO2.o | (rw [←HHH.o];exact HLO2.o)) (by rw [←HHH.o];exact HAT.o) (by rw [←HHH.o,HL1.o,←HXS.o,←HYS.o];exact HOWN5.o) (jB w5 w.heap.size (.string (s.extract 0 R)) (.slice va (hh+0) vc)) HZ.o.lt
     have hlen:hh+0=(hd++t).length:=by rw [lA,HL1.o,HHH.o]
     rw [HRES3.o];refine⟨va,vc,mm,?_,?_,hkk⟩
     ·rw [←hlen,HSS.o,Cv]
     ·rw [←hlen];exact hpm
   ·have HRES2:=Hd (show res=none by rw [HRES.o];exact wR (by rw [←HRR.o];exact hq));clear HRES hsz htl;rcases Nat.eq_zero_or_pos R with h0 | h0
    ·have r1:((R:Int)==0)=true:=by rw [beq_iff_eq];omega
     clear h0 hq;go_enter Tryz.func186,Tryz.ntmps186;go_wp2_with fail;obtain⟨W,hW⟩:∃W,W=w.alloc (.cells #[.string ⟨#[]⟩,.slice none 0 0] 84):=⟨_,rfl⟩;have hk0:K0 w W:=by rw [hW];exact (aB.refl _ _).alloc _
     have HZ:=Hd (show aH W w.heap.size [.string ⟨#[]⟩,.slice none 0 0] by rw [hW];exact⟨_,heap_alloc_new w _⟩);rw [←hW];have HK0:=Hd hk0;have q1W:=(World.cell?_of_block (a:=⟨g,o+1,none⟩) (hk0.block g hg (fun h=>h))).trans q1';have hgW:=Nat.lt_of_lt_of_le hg hk0.size;have hWw:=HZ.o.lt;clear hk0 hW;refine (HN.o W 0).mono ?_;rintro e w1 ⟨rfl,dq,rfl⟩;obtain⟨w2,hw2⟩:∃w2,w2=W.drewN dq:=⟨_,rfl⟩;rw [←hw2]
     have hkw:K0 W w2:=by rw [hw2];exact (aB.refl _ _).drewN _
     replace HZ:=Hd (HZ.o.keep hkw (fun h=>h));replace HK0:=Hd (HK0.o.trans hkw k3);clear hw2 hkw;obtain⟨⟨e0,e1⟩,g0,g1⟩:=HZ.o.two;have hltR:=HZ.o.lt;go_wp2_with fail;refine bodyPost_ret (v:=.tuple #[.agg #[.string ⟨#[]⟩,.slice none 0 0],.bool false]) (by simp [results,Tryz.results186,go_sem,e0,e1]) rfl ?_;rw [HRES2.o];exact⟨rfl,HK0.o.fresh (jB _ w.heap.size (.string ⟨#[]⟩) (.slice none 0 0)) (fun b e=>by omega)⟩
    ·have r1:((R:Int)==0)=false:=by rw [beq_eq_false_iff_ne];omega
     rcases Nat.lt_or_ge 60 R with h6 | h6
     ·have r2:(60:Int)<(R:Int):=by omega
      clear h0 h6 hq;go_enter Tryz.func186,Tryz.ntmps186;go_wp2_with fail;obtain⟨W,hW⟩:∃W,W=w.alloc (.cells #[.string ⟨#[]⟩,.slice none 0 0] 84):=⟨_,rfl⟩;have hk0:K0 w W:=by rw [hW];exact (aB.refl _ _).alloc _
      have HZ:=Hd (show aH W w.heap.size [.string ⟨#[]⟩,.slice none 0 0] by rw [hW];exact⟨_,heap_alloc_new w _⟩);rw [←hW];have HK0:=Hd hk0;have q1W:=(World.cell?_of_block (a:=⟨g,o+1,none⟩) (hk0.block g hg (fun h=>h))).trans q1';have hgW:=Nat.lt_of_lt_of_le hg hk0.size;have hWw:=HZ.o.lt;clear hk0 hW;refine (HN.o W 0).mono ?_;rintro e w1 ⟨rfl,dq,rfl⟩;obtain⟨w2,hw2⟩:∃w2,w2=W.drewN dq:=⟨_,rfl⟩;rw [←hw2]
      have hkw:K0 W w2:=by rw [hw2];exact (aB.refl _ _).drewN _
      replace HZ:=Hd (HZ.o.keep hkw (fun h=>h));replace HK0:=Hd (HK0.o.trans hkw k3);clear hw2 hkw;obtain⟨⟨e0,e1⟩,g0,g1⟩:=HZ.o.two;have hltR:=HZ.o.lt;go_wp2_with fail;refine bodyPost_ret (v:=.tuple #[.agg #[.string ⟨#[]⟩,.slice none 0 0],.bool false]) (by simp [results,Tryz.results186,go_sem,e0,e1]) rfl ?_;rw [HRES2.o];exact⟨rfl,HK0.o.fresh (jB _ w.heap.size (.string ⟨#[]⟩) (.slice none 0 0)) (fun b e=>by omega)⟩
     ·have r2:((60:Int)<(R:Int))=False:=eq_false (by omega);rcases Nat.lt_or_ge R s.size with h7 | h7
      ·have r3:¬(s.size:Int)≤(R:Int):=by omega
       have r4:(0:Int)≤(R:Int):=by omega
       obtain⟨cb,hcb⟩:∃cb,cb=s[R]'h7:=⟨_,rfl⟩;have hne:cb≠61:=fun e=>hq ⟨h0,h6,by
        rw [e,gB h7] at hcb;unfold aM at hcb;rw [List.getD_eq_getElem?_getD] at hcb;have h8:R<s.data.toList.length:=by simpa using h7
        rw [List.getElem?_eq_getElem h8] at hcb;rw [show p.text=s.data.toList by rw [HSS.o],List.getElem?_eq_getElem h8];exact congrArg some hcb.symm⟩
       have hb:=hcb.symm;have r9:((cb.toNat:Int) != 61)=true:=by
        rw [bne_iff_ne];intro e;exact hne (UInt8.toNat_inj.1 (by
         have:cb.toNat=61:=by omega
         rw [this];rfl))
       clear hcb hne hq;clear h0 h6;go_enter Tryz.func186,Tryz.ntmps186;go_wp2_with fail;obtain⟨W,hW⟩:∃W,W=w.alloc (.cells #[.string ⟨#[]⟩,.slice none 0 0] 84):=⟨_,rfl⟩;have hk0:K0 w W:=by rw [hW];exact (aB.refl _ _).alloc _
       have HZ:=Hd (show aH W w.heap.size [.string ⟨#[]⟩,.slice none 0 0] by rw [hW];exact⟨_,heap_alloc_new w _⟩);rw [←hW];have HK0:=Hd hk0;have q1W:=(World.cell?_of_block (a:=⟨g,o+1,none⟩) (hk0.block g hg (fun h=>h))).trans q1';have hgW:=Nat.lt_of_lt_of_le hg hk0.size;have hWw:=HZ.o.lt;clear hk0 hW;refine (HN.o W 0).mono ?_;rintro e w1 ⟨rfl,dq,rfl⟩;obtain⟨w2,hw2⟩:∃w2,w2=W.drewN dq:=⟨_,rfl⟩
       rw [←hw2];have hkw:K0 W w2:=by rw [hw2];exact (aB.refl _ _).drewN _
       replace HZ:=Hd (HZ.o.keep hkw (fun h=>h));replace HK0:=Hd (HK0.o.trans hkw k3);clear hw2 hkw;obtain⟨⟨e0,e1⟩,g0,g1⟩:=HZ.o.two;have hltR:=HZ.o.lt;go_wp2_with fail;refine bodyPost_ret (v:=.tuple #[.agg #[.string ⟨#[]⟩,.slice none 0 0],.bool false]) (by simp [results,Tryz.results186,go_sem,e0,e1]) rfl ?_;rw [HRES2.o];exact⟨rfl,HK0.o.fresh (jB _ w.heap.size (.string ⟨#[]⟩) (.slice none 0 0)) (fun b e=>by omega)⟩
      ·have r3:(s.size:Int)≤(R:Int):=by omega
       clear h0 h6 hq;go_enter Tryz.func186,Tryz.ntmps186;go_wp2_with fail;obtain⟨W,hW⟩:∃W,W=w.alloc (.cells #[.string ⟨#[]⟩,.slice none 0 0] 84):=⟨_,rfl⟩;have hk0:K0 w W:=by rw [hW];exact (aB.refl _ _).alloc _
       have HZ:=Hd (show aH W w.heap.size [.string ⟨#[]⟩,.slice none 0 0] by rw [hW];exact⟨_,heap_alloc_new w _⟩);rw [←hW];have HK0:=Hd hk0;have q1W:=(World.cell?_of_block (a:=⟨g,o+1,none⟩) (hk0.block g hg (fun h=>h))).trans q1';have hgW:=Nat.lt_of_lt_of_le hg hk0.size;have hWw:=HZ.o.lt;clear hk0 hW;refine (HN.o W 0).mono ?_;rintro e w1 ⟨rfl,dq,rfl⟩;obtain⟨w2,hw2⟩:∃w2,w2=W.drewN dq:=⟨_,rfl⟩
       rw [←hw2];have hkw:K0 W w2:=by rw [hw2];exact (aB.refl _ _).drewN _
       replace HZ:=Hd (HZ.o.keep hkw (fun h=>h));replace HK0:=Hd (HK0.o.trans hkw k3);clear hw2 hkw;obtain⟨⟨e0,e1⟩,g0,g1⟩:=HZ.o.two;have hltR:=HZ.o.lt;go_wp2_with fail;refine bodyPost_ret (v:=.tuple #[.agg #[.string ⟨#[]⟩,.slice none 0 0],.bool false]) (by simp [results,Tryz.results186,go_sem,e0,e1]) rfl ?_;rw [HRES2.o];exact⟨rfl,HK0.o.fresh (jB _ w.heap.size (.string ⟨#[]⟩) (.slice none 0 0)) (fun b e=>by omega)⟩
  ·have t0:((p.kind:Int) != 1)=true:=by rw [bne_iff_ne];omega
   have HRES2:=Hd (show res=none by
    rw [HRES.o];unfold c8;dsimp only;rw [if_neg (by simpa using k)])
   clear k HRES;go_enter Tryz.func186,Tryz.ntmps186;go_wp2_with fail;refine bodyPost_ret (v:=.tuple #[.agg #[.string ⟨#[]⟩,.slice none 0 0],.bool false]) (by simp [results,Tryz.results186,go_sem]) rfl ?_;rw [HRES2.o];exact⟨rfl,(aB.refl _ w).alloc _⟩
def lE (G:Prop) (w:World) (D:Nat→Prop) (v:Value) (k:Nat) (T:TypeId) (n:Nat) (cs:List Dt):Prop:=∃vs,(G→RdL w (fun b=>D b∧v.ownBlock≠some b) cs vs)∧w.ownsRow 0 T k v n vs
theorem lE.nil (G:Prop) (w:World) (D:Nat→Prop) (k:Nat) (T:TypeId):lE G w D (.slice none 0 0) k T 0 []:=⟨[],fun _=>trivial,World.ownsRow_nil _ _ _ _⟩
theorem lE.lt {G:Prop} {w:World} {D:Nat→Prop} {v:Value} {k n:Nat} {T:TypeId} {cs:List Dt} (h:lE G w D v k T n cs) {g:Nat} (hg:v.ownBlock=some g):g<w.heap.size:=by
 obtain⟨vs,hr,ho⟩:=h;exact (ho.lt g hg).2
theorem lE.keep {G:Prop} {w w':World} {D S:Nat→Prop} {v:Value} {k n:Nat} {T:TypeId} {cs:List Dt} (h:lE G w D v k T n cs) (hk:aB S w w') (hD:∀b,b<w.heap.size→D b→¬S b) (hv:∀g,v.ownBlock=some g→¬S g):lE G w' D v k T n cs:=by
 obtain⟨vs,hr,ho⟩:=h;exact⟨vs,fun g=>(hr g).keep hk (fun b hb hd=>hD b hb hd.1),iK ho hk hv⟩
theorem Du {G G':Prop} {w4:World} {Lo B X N:Nat} {P:Nat→Prop} {v v2 v3:Value} {k k2 k3 m m2 m3:Nat} {Ty T2 T3:TypeId} {ds ds2 ds3 d2:List Dt} {us:List Value} {L0:Nat}
 (hP:∀b,P b→(Qd Lo B X b∧b≠N)∧v.ownBlock≠some b∧v2.ownBlock≠some b∧v3.ownBlock≠some b)
 (h1:lE G w4 P v k Ty m ds) (h2:lE G w4 P v2 k2 T2 m2 ds2) (h3:lE G w4 P v3 k3 T3 m3 ds3)
 (l1:∀g,v.ownBlock=some g→X≤g∧g≠N∧v2.ownBlock≠some g∧v3.ownBlock≠some g) (l2:∀g,v2.ownBlock=some g→g≠N) (l3:∀g,v3.ownBlock=some g→g≠N)
 (hL:X≤L0∧N<L0∧L0≤w4.heap.size∧∀g,(v.ownBlock=some g∨v2.ownBlock=some g∨v3.ownBlock=some g)→g<L0) (hPL:∀b,Qd Lo B L0 b→P b) (hG:G'→G)
 (hx:G'→RdL w4 (Qd Lo B L0) d2 us) (hBX:B≤X) :
 ∃xs,w4.ownsRow 0 Ty k v m xs∧∀(gg m' cap:Nat) (w5 wo:World) (f:Nat) (P':Nat→Prop),w5.ownsRow 0 Ty k (.slice (some ⟨gg,0,none⟩) m' cap) m' (xs++us)→K0 w4 wo→wo.grownBy w5 v.ownBlock→(v.ownBlock=some gg∨w4.heap.size≤gg)→
  (∀b,P b→gg≠b→P' b)→
  (X≤gg∧gg≠N∧v2.ownBlock≠some gg∧v3.ownBlock≠some gg)∧aB (fun b=>v.ownBlock=some b) w4 w5∧
  lE G' (w5.setCell ⟨N,f,none⟩ (.slice (some ⟨gg,0,none⟩) m' cap)) P' (.slice (some ⟨gg,0,none⟩) m' cap) k Ty m' (ds++d2)∧
  lE G' (w5.setCell ⟨N,f,none⟩ (.slice (some ⟨gg,0,none⟩) m' cap)) P' v2 k2 T2 m2 ds2∧lE G' (w5.setCell ⟨N,f,none⟩ (.slice (some ⟨gg,0,none⟩) m' cap)) P' v3 k3 T3 m3 ds3:=by
 obtain⟨hXL,hNL,hLw,hgL⟩:=hL;obtain⟨xs,hr,ho⟩:=h1;refine⟨xs,ho,fun gg m' cap w5 wo f P' hown hwo hgrow hat hP'=>?_⟩;have hk5:aB (fun b=>v.ownBlock=some b) w4 w5:=(hwo.mono (fun _ _ h=>h.elim)).grown hgrow (fun k hk _=>hk);have hgN:gg≠N:=by
  rcases hat with h | h
  ·exact (l1 gg h).2.1
  ·omega
 have hgX:X≤gg:=by
  rcases hat with h | h
  ·exact (l1 gg h).1
  ·omega
 have hg2:v2.ownBlock≠some gg∧v3.ownBlock≠some gg:=by
  rcases hat with h | h
  ·exact (l1 gg h).2.2
  ·exact⟨fun e=>by have:=hgL gg (.inr (.inl e));omega,fun e=>by have:=hgL gg (.inr (.inr e));omega⟩
 have hk6:aB (fun b=>b=N) w5 (w5.setCell ⟨N,f,none⟩ (.slice (some ⟨gg,0,none⟩) m' cap)):=(aB.refl _ _).setCell _ _ fun _=>rfl;have hne:∀b,b<w4.heap.size→v.ownBlock≠some b→gg≠b:=fun b hb hv e=>by
  rcases hat with h | h
  ·exact hv (by rw [h,e])
  ·omega
 have hoth:∀{vv:Value} {kk mm:Nat} {TT:TypeId} {dd:List Dt},lE G w4 P vv kk TT mm dd→(∀g,vv.ownBlock=some g→v.ownBlock≠some g∧g≠N)→
  lE G' (w5.setCell ⟨N,f,none⟩ (.slice (some ⟨gg,0,none⟩) m' cap)) P' vv kk TT mm dd:=by
  intro vv kk mm TT dd hh hv;obtain⟨ys,hy,hyo⟩:=hh;have hy2:=fun g':G'=>(((hy (hG g')).lt.keep hk5 (fun b _ hb e=>(hP b hb.1.1).2.1 e)).keep hk6 (fun b _ hb e=>(hP b hb.1.1).1.2 e));have hfin:=fun g':G'=>(hy2 g').mono (D':=fun b=>P' b∧vv.ownBlock≠some b) fun b _ hb=>⟨hP' b hb.1.1 (hne b hb.2 (hP b hb.1.1).2.1),hb.1.2⟩;refine⟨ys,hfin,hyo.1,?_⟩;rcases hyo.2 with h0 | ⟨g',cap',cur,e,hb,hg,rest⟩
  ·exact .inl h0
  ·have hq:=hv g' (by rw [e];rfl);have hgl:=(Array.getElem?_eq_some_iff.1 hg).1;exact .inr ⟨g',cap',cur,e,hb,(hk6.block g' (Nat.lt_of_lt_of_le hgl hk5.size) hq.2).trans ((hk5.block g' hgl hq.1).trans hg),rest⟩
 refine⟨⟨hgX,hgN,hg2⟩,hk5,?_,hoth h2 (fun g hg=>⟨fun e=>(l1 g e).2.2.1 hg,l2 g hg⟩),hoth h3 (fun g hg=>⟨fun e=>(l1 g e).2.2.2 hg,l3 g hg⟩)⟩;have hx2:G'→RdL w4 (fun b=>P b∧v.ownBlock≠some b) d2 us:=fun g'=>(hx g').mono fun b _ hb=>⟨hPL b hb,fun e=>by have h8:=hgL b (.inl e);have h7:=(l1 b e).1;rcases hb with hb | hb<;>omega⟩;have hr2:=fun g':G'=>(hr (hG g')).app (hx2 g');have hr3:=fun g':G'=>(((hr2 g').lt.keep hk5 (fun b _ hb e=>hb.1.2 e)).keep hk6 (fun b _ hb e=>(hP b hb.1.1).1.2 e))
 have hr4:=fun g':G'=>(hr3 g').mono (D':=fun b=>P' b∧(Value.slice (some ⟨gg,0,none⟩) m' cap).ownBlock≠some b) fun b _ hb=>⟨hP' b hb.1.1 (hne b hb.2 hb.1.2),fun e=>hne b hb.2 hb.1.2 (Option.some.inj e)⟩;refine⟨xs++us,hr4,hown.1,?_⟩;rcases hown.2 with ⟨e,h0⟩ | ⟨g',cap',cur,e,hb,hg,rest⟩
 ·cases e
 ·have e1:gg=g':=by injection e with e1;injection e1 with e1;injection e1
  exact .inr ⟨g',cap',cur,e,hb,(hk6.block g' (Array.getElem?_eq_some_iff.1 hg).1 (fun e2=>hgN (e1.trans e2))).trans hg,rest⟩
def PrQ (Lo B X N:Nat) (o1 o2 o3:Option Nat) (b:Nat):Prop:=(Qd Lo B X b∧b≠N)∧o1≠some b∧o2≠some b∧o3≠some b
structure SQ (G:Prop) (w wr:World) (Lo B ps:Nat) (tv:Value) (n:Nat) (T:List Tk) (X N I x:Nat) (wa:OA) (wm wc:Nat) (ws:List Dt) (ga:OA) (gm gc:Nat) (gs:List Dt) (ra:OA) (rm rc:Nat) (rd:List Dt):Prop where
 rs:QS wr Lo B ps tv n T I x
 kp:aB (fun b=>b=ps) w wr
 zr:aH wr w.heap.size [.int .i64 0,.bool false,.string ⟨#[]⟩,.slice none 0 0,.slice none 0 0,.slice none 0 0,.slice none 0 0,.slice none 0 0]
 ro:aH wr N [.int .i64 1,.bool false,.string ⟨#[]⟩,.slice wa wm wc,.slice ga gm gc,.slice ra rm rc,.slice none 0 0,.slice none 0 0]
 o1:lE G wr (PrQ Lo B X N (Value.slice wa wm wc).ownBlock (Value.slice ga gm gc).ownBlock (Value.slice ra rm rc).ownBlock) (.slice wa wm wc) 1 29 wm ws
 o2:lE G wr (PrQ Lo B X N (Value.slice wa wm wc).ownBlock (Value.slice ga gm gc).ownBlock (Value.slice ra rm rc).ownBlock) (.slice ga gm gc) 2 84 gm gs
 o3:lE G wr (PrQ Lo B X N (Value.slice wa wm wc).ownBlock (Value.slice ga gm gc).ownBlock (Value.slice ra rm rc).ownBlock) (.slice ra rm rc) 2 86 rm rd
 l1:∀g,(Value.slice wa wm wc).ownBlock=some g→X≤g∧g≠N∧(Value.slice ga gm gc).ownBlock≠some g∧(Value.slice ra rm rc).ownBlock≠some g
 l2:∀g,(Value.slice ga gm gc).ownBlock=some g→X≤g∧g≠N∧(Value.slice wa wm wc).ownBlock≠some g∧(Value.slice ra rm rc).ownBlock≠some g
 l3:∀g,(Value.slice ra rm rc).ownBlock=some g→X≤g∧g≠N∧(Value.slice wa wm wc).ownBlock≠some g∧(Value.slice ga gm gc).ownBlock≠some g
section
variable {G G':Prop} {w wr w4:World} {Lo B ps:Nat} {tv:Value} {n:Nat} {T:List Tk} {X N I J x y:Nat} {wa:OA} {wm wc:Nat} {ws:List Dt} {ga:OA} {gm gc:Nat} {gs:List Dt} {ra:OA} {rm rc:Nat} {rd:List Dt}
theorem SQ.move (h:SQ G w wr Lo B ps tv n T X N I x wa wm wc ws ga gm gc gs ra rm rc rd) (hc:ps<w.heap.size) (hX:w.heap.size<X) (hN:w.heap.size<N) (hk:aB (fun b=>b=ps) wr w4) (hrs:QS w4 Lo B ps tv n T J y) :
 SQ G w w4 Lo B ps tv n T X N J y wa wm wc ws ga gm gc gs ra rm rc rd:=
 ⟨hrs,h.kp.trans hk (fun _ _ e=>e),h.zr.keep hk (fun e=>by omega),h.ro.keep hk (fun e=>by omega),
  h.o1.keep hk (fun b _ hb e=>iX (X:=X) hrs.ps (by omega) hb.1.1 e) (fun g hg e=>by have:=(h.l1 g hg).1;omega),h.o2.keep hk (fun b _ hb e=>iX (X:=X) hrs.ps (by omega) hb.1.1 e) (fun g hg e=>by have:=(h.l2 g hg).1;omega),
  h.o3.keep hk (fun b _ hb e=>iX (X:=X) hrs.ps (by omega) hb.1.1 e) (fun g hg e=>by have:=(h.l3 g hg).1;omega),h.l1,h.l2,h.l3⟩
theorem SQ.keep0 (h:SQ G w wr Lo B ps tv n T X N I x wa wm wc ws ga gm gc gs ra rm rc rd) (hk:K0 wr w4) :
 SQ G w w4 Lo B ps tv n T X N I x wa wm wc ws ga gm gc gs ra rm rc rd:=
 ⟨h.rs.keep0 hk,h.kp.trans hk (fun _ _ e=>e.elim),h.zr.keep hk (fun e=>e),h.ro.keep hk (fun e=>e),
  h.o1.keep hk (fun b _ _ e=>e) (fun g _ e=>e),h.o2.keep hk (fun b _ _ e=>e) (fun g _ e=>e),h.o3.keep hk (fun b _ _ e=>e) (fun g _ e=>e),h.l1,h.l2,h.l3⟩
theorem SQ.sizes (h:SQ G w wr Lo B ps tv n T X N I x wa wm wc ws ga gm gc gs ra rm rc rd) (hXw:X≤wr.heap.size):X≤wr.heap.size∧N<wr.heap.size∧∀g,((Value.slice wa wm wc).ownBlock=some g∨(Value.slice ga gm gc).ownBlock=some g∨(Value.slice ra rm rc).ownBlock=some g)→g<wr.heap.size:=
 ⟨hXw,h.ro.lt,fun g hg=>by rcases hg with hg | hg | hg;exact h.o1.lt hg;exact h.o2.lt hg;exact h.o3.lt hg⟩
theorem SQ.rest {w5 w6:World} {v u:Value} {f:Nat} (h:SQ G w w4 Lo B ps tv n T X N J y wa wm wc ws ga gm gc gs ra rm rc rd) (hc:ps<w.heap.size) (hX:w.heap.size<X) (hN:w.heap.size<N)
 (hv:∀g,v.ownBlock=some g→X≤g∧g≠N) (hk5:aB (fun b=>v.ownBlock=some b) w4 w5) (hw6:w6=w5.setCell ⟨N,f,none⟩ u) :
 QS w6 Lo B ps tv n T J y∧aB (fun b=>b=ps) w w6∧aH w6 w.heap.size [.int .i64 0,.bool false,.string ⟨#[]⟩,.slice none 0 0,.slice none 0 0,.slice none 0 0,.slice none 0 0,.slice none 0 0]∧
 aH w5 N [.int .i64 1,.bool false,.string ⟨#[]⟩,.slice wa wm wc,.slice ga gm gc,.slice ra rm rc,.slice none 0 0,.slice none 0 0]∧
 aH w6 N ([.int .i64 1,.bool false,.string ⟨#[]⟩,.slice wa wm wc,.slice ga gm gc,.slice ra rm rc,.slice none 0 0,.slice none 0 0].set f u):=by
 have hB:=h.rs.ps;have hk6:aB (fun b=>b=N) w5 w6:=by rw [hw6];exact (aB.refl _ _).setCell _ _ fun _=>rfl
 have hrc5:=h.ro.keep hk5 (fun e=>(hv N e).2 rfl);refine⟨(h.rs.keep hk5 (fun b hb e=>by have:=(hv b e).1;omega) (fun e=>by have:=(hv ps e).1;omega)).keep hk6 (fun b hb e=>by omega) (fun e=>by omega),
  (h.kp.trans hk5 (fun b hb e=>by have:=(hv b e).1;omega)).fresh hk6 (fun b e=>by omega),(h.zr.keep hk5 (fun e=>by have:=(hv _ e).1;omega)).keep hk6 (fun e=>by omega),hrc5,?_⟩
 rw [hw6];exact hrc5.set f u
theorem SQ.moreR (h:SQ G w wr Lo B ps tv n T X N I x wa wm wc ws ga gm gc gs ra rm rc rd) (hc:ps<w.heap.size) (hX:w.heap.size<X) (hN:w.heap.size<N) (hXw:X≤wr.heap.size) (hk:aB (fun b=>b=ps) wr w4) (hrs:QS w4 Lo B ps tv n T J y) {d2:List Dt} {us:List Value} (hG:G'→G) (hx:G'→RdL w4 (Qd Lo B wr.heap.size) d2 us) :
 ∃xs,w4.ownsRow 0 86 2 (.slice ra rm rc) rm xs∧aH w4 N [.int .i64 1,.bool false,.string ⟨#[]⟩,.slice wa wm wc,.slice ga gm gc,.slice ra rm rc,.slice none 0 0,.slice none 0 0]∧
  ∀(gg m' cap:Nat) (w5 wo:World),w5.ownsRow 0 86 2 (.slice (some ⟨gg,0,none⟩) m' cap) m' (xs++us)→K0 w4 wo→wo.grownBy w5 (Value.slice ra rm rc).ownBlock→((Value.slice ra rm rc).ownBlock=some gg∨w4.heap.size≤gg)→
   aH w5 N [.int .i64 1,.bool false,.string ⟨#[]⟩,.slice wa wm wc,.slice ga gm gc,.slice ra rm rc,.slice none 0 0,.slice none 0 0]∧
   SQ G' w (w5.setCell ⟨N,5,none⟩ (.slice (some ⟨gg,0,none⟩) m' cap)) Lo B ps tv n T X N J y wa wm wc ws ga gm gc gs (some ⟨gg,0,none⟩) m' cap (rd++d2):=by
 have h4:=h.move hc hX hN hk hrs;obtain⟨s1,s2,s3⟩:=h.sizes hXw;have hBX:B≤X:=by have:=hrs.ps;omega
 have hPL:∀b,Qd Lo B wr.heap.size b→PrQ Lo B X N (Value.slice wa wm wc).ownBlock (Value.slice ga gm gc).ownBlock (Value.slice ra rm rc).ownBlock b:=fun b hb=>by
  have k1:∀g,(Value.slice wa wm wc).ownBlock=some g→X≤g∧g<wr.heap.size:=fun g hg=>⟨(h.l1 g hg).1,s3 g (.inl hg)⟩;have k2:∀g,(Value.slice ga gm gc).ownBlock=some g→X≤g∧g<wr.heap.size:=fun g hg=>⟨(h.l2 g hg).1,s3 g (.inr (.inl hg))⟩;have k3:∀g,(Value.slice ra rm rc).ownBlock=some g→X≤g∧g<wr.heap.size:=fun g hg=>⟨(h.l3 g hg).1,s3 g (.inr (.inr hg))⟩;have hB:=hrs.ps;rcases hb with hb | hb
  ·exact⟨⟨.inl hb,by omega⟩,fun e=>by have:=k1 b e;omega,fun e=>by have:=k2 b e;omega,fun e=>by have:=k3 b e;omega⟩
  ·exact⟨⟨.inr (by omega),by omega⟩,fun e=>by have:=k1 b e;omega,fun e=>by have:=k2 b e;omega,fun e=>by have:=k3 b e;omega⟩
 obtain⟨xs,ho,hF⟩:=Du (G':=G') (Lo:=Lo) (B:=B) (fun b hb=>⟨hb.1,hb.2.2.2,hb.2.1,hb.2.2.1⟩) h4.o3 h4.o1 h4.o2 h4.l3 (fun g hg=>(h4.l1 g hg).2.1) (fun g hg=>(h4.l2 g hg).2.1)
  ⟨s1,s2,hk.size,fun g hg=>by rcases hg with hg | hg | hg;exact s3 g (.inr (.inr hg));exact s3 g (.inl hg);exact s3 g (.inr (.inl hg))⟩
  (fun b hb=>hPL b hb) hG hx hBX
 refine⟨xs,ho,h4.ro,fun gg m' cap w5 wo hown hwo hgrow hat=>?_⟩;obtain⟨⟨a1,a2,a3,a4⟩,hk5,p1,p2,p3⟩:=hF gg m' cap w5 wo 5 (PrQ Lo B X N (Value.slice wa wm wc).ownBlock (Value.slice ga gm gc).ownBlock (Value.slice (some ⟨gg,0,none⟩) m' cap).ownBlock) hown hwo hgrow hat (fun b hb hg=>⟨hb.1,hb.2.1,hb.2.2.1,fun e=>hg (Option.some.inj e)⟩);obtain⟨r1,r2,r3,r4,r5⟩:=h4.rest hc hX hN (fun g hg=>⟨(h4.l3 g hg).1,(h4.l3 g hg).2.1⟩) hk5 (f:=5) (u:=.slice (some ⟨gg,0,none⟩) m' cap) rfl
 exact⟨r4,⟨r1,r2,r3,r5,p2,p3,p1,fun g hg=>⟨(h4.l1 g hg).1,(h4.l1 g hg).2.1,(h4.l1 g hg).2.2.1,fun e=>by have h9:gg=g:=Option.some.inj e;exact a3 (by rw [h9];exact hg)⟩,
  fun g hg=>⟨(h4.l2 g hg).1,(h4.l2 g hg).2.1,(h4.l2 g hg).2.2.1,fun e=>by have h9:gg=g:=Option.some.inj e;exact a4 (by rw [h9];exact hg)⟩,fun g hg=>by have h9:gg=g:=Option.some.inj hg;subst h9;exact⟨a1,a2,a3,a4⟩⟩⟩
theorem SQ.moreW (h:SQ G w wr Lo B ps tv n T X N I x wa wm wc ws ga gm gc gs ra rm rc rd) (hc:ps<w.heap.size) (hX:w.heap.size<X) (hN:w.heap.size<N) (hXw:X≤wr.heap.size) (hk:aB (fun b=>b=ps) wr w4) (hrs:QS w4 Lo B ps tv n T J y) {d2:List Dt} {us:List Value} (hG:G'→G) (hx:G'→RdL w4 (Qd Lo B wr.heap.size) d2 us) :
 ∃xs,w4.ownsRow 0 29 1 (.slice wa wm wc) wm xs∧aH w4 N [.int .i64 1,.bool false,.string ⟨#[]⟩,.slice wa wm wc,.slice ga gm gc,.slice ra rm rc,.slice none 0 0,.slice none 0 0]∧
  ∀(gg m' cap:Nat) (w5 wo:World),w5.ownsRow 0 29 1 (.slice (some ⟨gg,0,none⟩) m' cap) m' (xs++us)→K0 w4 wo→wo.grownBy w5 (Value.slice wa wm wc).ownBlock→((Value.slice wa wm wc).ownBlock=some gg∨w4.heap.size≤gg)→
   aH w5 N [.int .i64 1,.bool false,.string ⟨#[]⟩,.slice wa wm wc,.slice ga gm gc,.slice ra rm rc,.slice none 0 0,.slice none 0 0]∧
   SQ G' w (w5.setCell ⟨N,3,none⟩ (.slice (some ⟨gg,0,none⟩) m' cap)) Lo B ps tv n T X N J y (some ⟨gg,0,none⟩) m' cap (ws++d2) ga gm gc gs ra rm rc rd:=by
 have h4:=h.move hc hX hN hk hrs;obtain⟨s1,s2,s3⟩:=h.sizes hXw;have hBX:B≤X:=by have:=hrs.ps;omega
 have hPL:∀b,Qd Lo B wr.heap.size b→PrQ Lo B X N (Value.slice wa wm wc).ownBlock (Value.slice ga gm gc).ownBlock (Value.slice ra rm rc).ownBlock b:=fun b hb=>by
  have k1:∀g,(Value.slice wa wm wc).ownBlock=some g→X≤g∧g<wr.heap.size:=fun g hg=>⟨(h.l1 g hg).1,s3 g (.inl hg)⟩;have k2:∀g,(Value.slice ga gm gc).ownBlock=some g→X≤g∧g<wr.heap.size:=fun g hg=>⟨(h.l2 g hg).1,s3 g (.inr (.inl hg))⟩;have k3:∀g,(Value.slice ra rm rc).ownBlock=some g→X≤g∧g<wr.heap.size:=fun g hg=>⟨(h.l3 g hg).1,s3 g (.inr (.inr hg))⟩;have hB:=hrs.ps;rcases hb with hb | hb
  ·exact⟨⟨.inl hb,by omega⟩,fun e=>by have:=k1 b e;omega,fun e=>by have:=k2 b e;omega,fun e=>by have:=k3 b e;omega⟩
  ·exact⟨⟨.inr (by omega),by omega⟩,fun e=>by have:=k1 b e;omega,fun e=>by have:=k2 b e;omega,fun e=>by have:=k3 b e;omega⟩
 obtain⟨xs,ho,hF⟩:=Du (G':=G') (Lo:=Lo) (B:=B) (fun b hb=>⟨hb.1,hb.2.1,hb.2.2.1,hb.2.2.2⟩) h4.o1 h4.o2 h4.o3 h4.l1 (fun g hg=>(h4.l2 g hg).2.1) (fun g hg=>(h4.l3 g hg).2.1)
  ⟨s1,s2,hk.size,s3⟩
  (fun b hb=>hPL b hb) hG hx hBX
 refine⟨xs,ho,h4.ro,fun gg m' cap w5 wo hown hwo hgrow hat=>?_⟩;obtain⟨⟨a1,a2,a3,a4⟩,hk5,p1,p2,p3⟩:=hF gg m' cap w5 wo 3 (PrQ Lo B X N (Value.slice (some ⟨gg,0,none⟩) m' cap).ownBlock (Value.slice ga gm gc).ownBlock (Value.slice ra rm rc).ownBlock) hown hwo hgrow hat (fun b hb hg=>⟨hb.1,fun e=>hg (Option.some.inj e),hb.2.2.1,hb.2.2.2⟩);obtain⟨r1,r2,r3,r4,r5⟩:=h4.rest hc hX hN (fun g hg=>⟨(h4.l1 g hg).1,(h4.l1 g hg).2.1⟩) hk5 (f:=3) (u:=.slice (some ⟨gg,0,none⟩) m' cap) rfl
 exact⟨r4,⟨r1,r2,r3,r5,p1,p2,p3,fun g hg=>(by have h9:gg=g:=Option.some.inj hg;subst h9;exact⟨a1,a2,a3,a4⟩),
  fun g hg=>⟨(h4.l2 g hg).1,(h4.l2 g hg).2.1,fun e=>(by have h9:gg=g:=Option.some.inj e;exact a3 (by rw [h9];exact hg)),(h4.l2 g hg).2.2.2⟩,
  fun g hg=>⟨(h4.l3 g hg).1,(h4.l3 g hg).2.1,fun e=>(by have h9:gg=g:=Option.some.inj e;exact a4 (by rw [h9];exact hg)),(h4.l3 g hg).2.2.2⟩⟩⟩
theorem SQ.moreA (h:SQ G w wr Lo B ps tv n T X N I x wa wm wc ws ga gm gc gs ra rm rc rd) (hc:ps<w.heap.size) (hX:w.heap.size<X) (hN:w.heap.size<N) (hXw:X≤wr.heap.size) (hk:aB (fun b=>b=ps) wr w4) (hrs:QS w4 Lo B ps tv n T J y) {d2:List Dt} {us:List Value} (hG:G'→G) (hx:G'→RdL w4 (Qd Lo B wr.heap.size) d2 us) :
 ∃xs,w4.ownsRow 0 84 2 (.slice ga gm gc) gm xs∧aH w4 N [.int .i64 1,.bool false,.string ⟨#[]⟩,.slice wa wm wc,.slice ga gm gc,.slice ra rm rc,.slice none 0 0,.slice none 0 0]∧
  ∀(gg m' cap:Nat) (w5 wo:World),w5.ownsRow 0 84 2 (.slice (some ⟨gg,0,none⟩) m' cap) m' (xs++us)→K0 w4 wo→wo.grownBy w5 (Value.slice ga gm gc).ownBlock→((Value.slice ga gm gc).ownBlock=some gg∨w4.heap.size≤gg)→
   aH w5 N [.int .i64 1,.bool false,.string ⟨#[]⟩,.slice wa wm wc,.slice ga gm gc,.slice ra rm rc,.slice none 0 0,.slice none 0 0]∧
   SQ G' w (w5.setCell ⟨N,4,none⟩ (.slice (some ⟨gg,0,none⟩) m' cap)) Lo B ps tv n T X N J y wa wm wc ws (some ⟨gg,0,none⟩) m' cap (gs++d2) ra rm rc rd:=by
 have h4:=h.move hc hX hN hk hrs;obtain⟨s1,s2,s3⟩:=h.sizes hXw;have hBX:B≤X:=by have:=hrs.ps;omega
 have hPL:∀b,Qd Lo B wr.heap.size b→PrQ Lo B X N (Value.slice wa wm wc).ownBlock (Value.slice ga gm gc).ownBlock (Value.slice ra rm rc).ownBlock b:=fun b hb=>by
  have k1:∀g,(Value.slice wa wm wc).ownBlock=some g→X≤g∧g<wr.heap.size:=fun g hg=>⟨(h.l1 g hg).1,s3 g (.inl hg)⟩;have k2:∀g,(Value.slice ga gm gc).ownBlock=some g→X≤g∧g<wr.heap.size:=fun g hg=>⟨(h.l2 g hg).1,s3 g (.inr (.inl hg))⟩;have k3:∀g,(Value.slice ra rm rc).ownBlock=some g→X≤g∧g<wr.heap.size:=fun g hg=>⟨(h.l3 g hg).1,s3 g (.inr (.inr hg))⟩;have hB:=hrs.ps;rcases hb with hb | hb
  ·exact⟨⟨.inl hb,by omega⟩,fun e=>by have:=k1 b e;omega,fun e=>by have:=k2 b e;omega,fun e=>by have:=k3 b e;omega⟩
  ·exact⟨⟨.inr (by omega),by omega⟩,fun e=>by have:=k1 b e;omega,fun e=>by have:=k2 b e;omega,fun e=>by have:=k3 b e;omega⟩
 obtain⟨xs,ho,hF⟩:=Du (G':=G') (Lo:=Lo) (B:=B) (fun b hb=>⟨hb.1,hb.2.2.1,hb.2.1,hb.2.2.2⟩) h4.o2 h4.o1 h4.o3 h4.l2 (fun g hg=>(h4.l1 g hg).2.1) (fun g hg=>(h4.l3 g hg).2.1)
  ⟨s1,s2,hk.size,fun g hg=>by rcases hg with hg | hg | hg;exact s3 g (.inr (.inl hg));exact s3 g (.inl hg);exact s3 g (.inr (.inr hg))⟩
  (fun b hb=>hPL b hb) hG hx hBX
 refine⟨xs,ho,h4.ro,fun gg m' cap w5 wo hown hwo hgrow hat=>?_⟩;obtain⟨⟨a1,a2,a3,a4⟩,hk5,p1,p2,p3⟩:=hF gg m' cap w5 wo 4 (PrQ Lo B X N (Value.slice wa wm wc).ownBlock (Value.slice (some ⟨gg,0,none⟩) m' cap).ownBlock (Value.slice ra rm rc).ownBlock) hown hwo hgrow hat (fun b hb hg=>⟨hb.1,hb.2.1,fun e=>hg (Option.some.inj e),hb.2.2.2⟩);obtain⟨r1,r2,r3,r4,r5⟩:=h4.rest hc hX hN (fun g hg=>⟨(h4.l2 g hg).1,(h4.l2 g hg).2.1⟩) hk5 (f:=4) (u:=.slice (some ⟨gg,0,none⟩) m' cap) rfl
 exact⟨r4,⟨r1,r2,r3,r5,p2,p1,p3,fun g hg=>⟨(h4.l1 g hg).1,(h4.l1 g hg).2.1,fun e=>(by have h9:gg=g:=Option.some.inj e;exact a3 (by rw [h9];exact hg)),(h4.l1 g hg).2.2.2⟩,
  fun g hg=>(by have h9:gg=g:=Option.some.inj hg;subst h9;exact⟨a1,a2,a3,a4⟩),
  fun g hg=>⟨(h4.l3 g hg).1,(h4.l3 g hg).2.1,(h4.l3 g hg).2.2.1,fun e=>(by have h9:gg=g:=Option.some.inj e;exact a4 (by rw [h9];exact hg))⟩⟩⟩
theorem SQ.all (h:SQ G w wr Lo B ps tv n T X N I x wa wm wc ws ga gm gc gs ra rm rc rd) (g:G):RdL wr (Qd Lo B X) (ndR 1 false [] ws gs rd [] []) [.int .i64 1,.bool false,.string ⟨#[]⟩,.slice wa wm wc,.slice ga gm gc,.slice ra rm rc,.slice none 0 0,.slice none 0 0]:=by
 have key:∀{v:Value} {k m:Nat} {Ty:TypeId} {ds:List Dt} {P:Nat→Prop},lE G wr P v k Ty m ds→(∀b,P b→Qd Lo B X b)→(∀g,v.ownBlock=some g→X≤g)→Rd wr (Qd Lo B X) (.sl k ds) v:=fun ho hP hv=>by
  obtain⟨us,hu,hoo⟩:=ho;exact lD.reads (D:=Qd Lo B X) ⟨us,(hu g).mono fun b _ hb=>⟨hP b hb.1,hb.2⟩,hoo⟩ (fun g hg=>.inr (hv g hg))
 exact⟨.int _,.bool _,.str _,key h.o1 (fun b hb=>hb.1.1) (fun g hg=>(h.l1 g hg).1),key h.o2 (fun b hb=>hb.1.1) (fun g hg=>(h.l2 g hg).1),key h.o3 (fun b hb=>hb.1.1) (fun g hg=>(h.l3 g hg).1),.nil _ _ _ (Nat.zero_le _),.nil _ _ _ (Nat.zero_le _),trivial⟩
end
end Go.Proofs.YtiihpbccabeoeaaGreatDoor
