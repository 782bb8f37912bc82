/- The walk: a part. -/
import Derived.Test.YtiihpbccabeoeaaGreatDoorYPxW
namespace Go.Proofs.YtiihpbccabeoeaaGreatDoor
open Go.RowKit
set_option linter.unusedVariables false
set_option maxRecDepth 100000
set_option maxHeartbeats 16000000
theorem ext_take (l:Bs) (R:Nat):(⟨l.toArray⟩:ByteArray).extract 0 R=⟨(l.take R).toArray⟩:=by
 apply ByteArray.ext;apply Array.ext';rw [Lib.extract_data];simp
theorem ext_drop (l:Bs) (R:Nat):(⟨l.toArray⟩:ByteArray).extract R l.length=⟨(l.drop R).toArray⟩:=by
 apply ByteArray.ext;apply Array.ext';rw [Lib.extract_data];simp only [List.take_of_length_le (Nat.le_of_eq (List.length_drop ..))]
theorem asg_fin {w wy w5 w6:World} {D:Nat→Prop} {hd t:List Pt} {v v':Value} {vs us:List Value} {nn n:Nat} (hvl:vs.length=hd.length) (hvn:∀i (h:i<hd.length) (h':i<vs.length),PtsAt wy (fun b=>False∧v.ownBlock≠some b) nn hd[i].word vs[i])
 (hul:us.length=t.length) (hun:∀i (h:i<t.length) (h':i<us.length),PtsAt w D n t[i].word us[i]) (hk0:Keeps (fun _=>False) w wy) (hk5:Keeps (fun b=>v.ownBlock=some b) wy w5) (hv:∀g,v.ownBlock=some g→w.heap.size<g)
 (hat:v'.ownBlock=v.ownBlock∨v'.ownBlock=some wy.heap.size) (hown:w5.ownsRow 0 67 6 v' (hd.length+t.length) (cellsL hd vs++cellsL t us)) (hk6:Keeps (fun b=>b=w.heap.size) w5 w6) (hw:w.heap.size<wy.heap.size) :
 (∃m,PtsAt w6 (fun b=>D b∨w.heap.size≤b) m (hd++t) v')∧Keeps (fun _=>False) w w6:=by
 have hv':∀g,v'.ownBlock=some g→w.heap.size<g:=fun g hg=>by
  rcases hat with h | h
  ·exact hv g (by rw [←h];exact hg)
  ·rw [h] at hg;have:=Option.some.inj hg;omega
 have hk:Keeps (fun _=>False) w w6:=(hk0.fresh hk5 (fun b e=>by have:=hv b e;omega)).fresh hk6 (fun b e=>by omega);refine⟨?_,hk⟩;have hO:OwnPts w6 (fun b=>D b∨w.heap.size≤b) v' (hd++t):=by
  refine⟨vs++us,nn+n,by simp [hvl,hul],?_,fun i hi hi'=>?_⟩
  ·rw [cellsL_append hvl,List.length_append];exact owns_keep hown hk6 (fun g hg e=>by have:=hv' g hg;omega)
  ·rcases Nat.lt_or_ge i hd.length with h9 | h9
   ·rw [List.getElem_append_left h9,List.getElem_append_left (by omega)];exact ((((hvn i h9 (by omega)).mono (D':=fun _=>False) (fun b _ hb=>hb.1)).keep hk5 (fun _ _ h=>h.elim)).keep hk6 (fun _ _ h=>h.elim)).le (Nat.le_add_right _ _) |>.mono (fun b _ h=>h.elim)
   ·rw [List.getElem_append_right h9,List.getElem_append_right (by omega)];have h8:=hun (i - hd.length) (by rw [List.length_append] at hi;omega) (by rw [List.length_append] at hi';omega);have h7:PtsAt w (fun b=>D b∧b<w.heap.size) n (t[i - hd.length]'(by rw [List.length_append] at hi;omega)).word (us[i - hd.length]'(by rw [List.length_append] at hi';omega)):=h8.mono fun b hb hd=>⟨hd,hb⟩;have h6:=((h7.keep hk (fun _ _ _ h=>h)).le (Nat.le_add_left n nn)).mono (D':=fun b=>(D b∨w.heap.size≤b)∧v'.ownBlock≠some b) (fun b _ hb=>⟨.inl hb.1,fun e=>by have:=hv' b e;omega⟩)
    simpa only [hvl] using h6
 exact hO.reads (fun g hg=>.inr (by have:=hv' g hg;omega))
theorem assignR_no {p:Pt} {t:List Pt} (h:¬(0<runF p.text∧runF p.text≤60∧p.text[runF p.text]? = some 61)):assignF (p::t)=none:=by
 rw [←assign_run];unfold assignR;dsimp only;rw [if_neg h];split<;>rfl
theorem assignR_yes {p:Pt} {t:List Pt} (hk:p.kind=1) (h:0<runF p.text∧runF p.text≤60∧p.text[runF p.text]? = some 61):assignF (p::t)=some (p.text.take (runF p.text),(if (p.text.drop (runF p.text+1)).isEmpty then [] else [txtP (p.text.drop (runF p.text+1))])++t):=by
 rw [←assign_run];unfold assignR;dsimp only;rw [if_pos (by rw [hk];rfl),if_pos h];cases (p.text.drop (runF p.text+1)).isEmpty<;>rfl
theorem qassign_any (w:World) (n:Nat) (D:Nat→Prop) (l:List Pt) (a:Option Addr) (c:Nat) (hp:PtsAt w D n l (.slice a l.length c)) (hsm:Sm l) :
 Calls Tryz.prog 186 #[.slice a l.length c] w (AsgPost w D (assignF l)):=by
 obtain⟨res,hres⟩:∃res,res=assignF l:=⟨_,rfl⟩;rw [←hres];have hc2:Tryz.prog.cellsOf 84=2:=by kernel_rfl
 cases l with
 | nil=>
  have HRES:=Hd (show res=none from hres);clear hres hp hsm;go_enter Tryz.func186,Tryz.ntmps186;go_wp2_with fail;refine bodyPost_ret (v:=.tuple #[.agg #[.string ⟨#[]⟩,.slice none 0 0],.bool false]) (by simp [results,Tryz.results186,go_sem]) rfl ?_;rw [HRES.out];exact⟨rfl,(Keeps.refl _ w).alloc _⟩
 | cons p t=>
  have hst:=smL_mem hsm.2 (List.mem_cons_self ..);have hsl:=hsm.1;obtain⟨g,o,xa,xl,xc,rfl,⟨q0,q1,q2,q3,q4,q5⟩,hx,hn0,hg⟩:=hp.at (Keeps.refl _ _) (i:=0) (Nat.succ_pos _);have q0':w.cell? ⟨g,o,none⟩=some (.int .i64 (p.kind:Nat)):=q0;have q1':w.cell? ⟨g,o+1,none⟩=some (.string ⟨p.text.toArray⟩):=q1;have hc6:=cells_part;have hcap:=hp.shape;obtain⟨hc1,hcm⟩:(p::t).length≤c∧c≤maxLen:=by
   obtain⟨a',c',e,h1,h2⟩:=hcap;injection e with e1 e2 e3;omega
  have HPT:=Hd hp;obtain⟨L,hL⟩:∃L,L=(p::t).length:=⟨_,rfl⟩;rw [←hL] at hc1 hsl;rw [←hL];have p1:0<L:=by rw [hL];simp
  have p2:((L:Int)==0)=false:=by rw [beq_eq_false_iff_ne];omega
  have HL:=Hd hL;have HRES:=Hd hres;have htl:=hst.1;clear q0 q1 q2 q3 q4 q5 hx hp hsm hcap hL hst hres;by_cases k:p.kind=1
  ·have t0:((p.kind:Int) != 1)=false:=by rw [bne_eq_false_iff_eq];omega
   obtain⟨R,hR⟩:∃R,R=runF p.text:=⟨_,rfl⟩;have HN:=Hd (fun w q=>qnlen_at p.text w (by omega) q);have hRl:R≤p.text.length:=by rw [hR];exact run_len _
   rw [←hR] at HN;have HRR:=Hd hR;have HK:=Hd k;obtain⟨s,hs⟩:∃s:ByteArray,s=⟨p.text.toArray⟩:=⟨_,rfl⟩;have hsz:s.size=p.text.length:=by rw [hs];exact Lib.size_eq _
   rw [←hs] at q1' HN;have HSS:=Hd hs;have HSZ:=Hd hsz;clear hR k hs;by_cases hq:0<R∧R≤60∧p.text[R]? = some 61
   ·obtain⟨h1,h2,h3⟩:=hq;have hRL:R<s.size:=by
     have:=(List.getElem?_eq_some_iff.1 h3).1;omega
    have hb:s[R]'hRL=61:=by
     rw [byteAt_in hRL];unfold byteAt;rw [List.getD_eq_getElem?_getD];have h4:=h3;rw [show p.text=s.data.toList by rw [HSS.out]] at h4;rw [h4];rfl
    have HRES2:=Hd (show res=some (p.text.take R,(if (p.text.drop (R+1)).isEmpty then [] else [txtP (p.text.drop (R+1))])++t) by rw [HRES.out,assignR_yes HK.out (by rw [←HRR.out];exact⟨h1,h2,h3⟩),←HRR.out]);have r1:((R:Int)==0)=false:=by rw [beq_eq_false_iff_ne];omega
    have r2:((60:Int)<(R:Int))=False:=eq_false (by omega);have r3:((s.size:Int)≤(R:Int))=False:=eq_false (by omega);have r3b:(s.size≤R)=False:=eq_false (by omega);have r4:(0:Int)≤(R:Int):=by omega
    have r5:IntKind.i64.wrap ((R:Int)+1)=(R:Int)+1:=IntWalk.i64_in _ (by omega);have r6:(0:Int)≤(R:Int)+1:=by omega
    have r7:((R:Int)+1).toNat=R+1:=by omega
    have r8:(R:Int)≤(s.size:Int):=by omega
    have hsm2:s.size≤40000:=by omega
    obtain⟨i0,hi0,hz0,hz1,hz2⟩:=info_parts info_part;clear h3 HRES hsz hRl h1 h2 htl;go_enter Tryz.func186,Tryz.ntmps186;go_wp2_with fail;obtain⟨W,hW⟩:∃W,W=w.alloc (.cells #[.string ⟨#[]⟩,.slice none 0 0] 84):=⟨_,rfl⟩;have hk0:Keeps (fun _=>False) w W:=by rw [hW];exact (Keeps.refl _ _).alloc _
    have HZ:=Hd (show RecAt W w.heap.size [.string ⟨#[]⟩,.slice none 0 0] by rw [hW];exact⟨_,heap_alloc_new w _⟩);rw [←hW];have HK0:=Hd hk0;have q1W:=(World.cell?_of_block (a:=⟨g,o+1,none⟩) (hk0.block g hg (fun h=>h))).trans q1';have hgW:=Nat.lt_of_lt_of_le hg hk0.size;have hWw:=HZ.out.lt;clear hk0 hW;refine (HN.out W 0).mono ?_;rintro e w1 ⟨rfl,dq,rfl⟩;obtain⟨w2,hw2⟩:∃w2,w2=W.drewN dq:=⟨_,rfl⟩;rw [←hw2]
    have hkw:Keeps (fun _=>False) W w2:=by rw [hw2];exact (Keeps.refl _ _).drewN _
    replace HZ:=Hd (HZ.out.keep hkw (fun h=>h));replace HK0:=Hd (HK0.out.trans hkw (fun _ _ h=>h));clear hw2 hkw;go_upto_region 7 with fail;go_cut [6] from 42 to 42 (fun l wx=>∃(la:Option Addr) (m lc:Nat),m=0∧l=.slice la m lc∧wx=w2∧Hid (w2.ownsRow 0 67 6 (.slice la m lc) m [])∧Hid (∀g,(Value.slice la m lc).ownBlock=some g→False))
    case first=>
     go_wp2_with fail;go_meet
     case rel=>exact⟨none,0,0,rfl,rfl,rfl,Hd (World.ownsRow_nil _ _ _ _),Hd (fun g hg=>by cases hg)⟩
    case rest=>
    obtain⟨la0,m0,lc0,hm0,rfl,rfl,HO0,HN0⟩:=hcut;have hm0b:m0≤5:=by omega
    have HM0:=Hd hm0;clear hm0;have hw2:=HZ.out.lt;go_upto_if 47 with fail;go_cut [6] from 43 to 55 (fun l wx=>∃(hd:List Pt) (la:Option Addr) (lc:Nat) (wy:World),wy=wx∧l=.slice la hd.length lc∧Hid (hd=if (p.text.drop (R+1)).isEmpty then [] else [txtP (p.text.drop (R+1))])∧Hid (OwnPts wy (fun _=>False) (.slice la hd.length lc) hd)∧Hid (Keeps (fun _=>False) wc wy)∧Hid (∀g,(Value.slice la hd.length lc).ownBlock=some g→w.heap.size<g))
    case first=>
     rcases Nat.lt_or_ge (R+1) s.size with h8 | h8
     ·have r9:(R:Int)+1<(s.size:Int):=by omega
      have r10:(R:Int)+1≤(s.size:Int):=by omega
      have HHD:=Hd (show [txtP (p.text.drop (R+1))]=if (p.text.drop (R+1)).isEmpty then [] else [txtP (p.text.drop (R+1))] from by
       rw [if_neg];rw [Bool.not_eq_true,List.isEmpty_eq_false_iff];intro e;have:=congrArg List.length e;rw [List.length_drop,List.length_nil] at this;have:=HSZ.out;omega)
      clear h8;go_wp2_with (at_builtin;refine wpList_append_lies _ rfl (.tmp 48) (.tmp 54) _ rfl 0 67 i0 _ 6 88 Tryz.underlying29 hi0 hz0 hz1 hz2 rfl (by omega) (.slice la0 m0 lc0) m0 [] rfl (HO0.out.alloc _) ⟨wc.heap.size,0,none⟩ 1 1 [.int .i64 1,.string (s.extract (R+1) s.size),.string ⟨#[]⟩,.string ⟨#[]⟩,.slice none 0 0,.bool false] rfl rfl (World.news_of_block (cs:=#[.int .i64 1,.string (s.extract (R+1) s.size),.string ⟨#[]⟩,.string ⟨#[]⟩,.slice none 0 0,.bool false]) (t:=67) (fr:=(0,0)) (heap_alloc_new wc _)) (by simp [Value.oneCell']) (by omega) (by unfold maxLen;omega) (by omega) (by simp) (wc.heap.size+1) (by simp) ?_;intro gg cap w5 hown2 hgrow hat hlt5;have HOW:=Hd hown2;have HKG:=Hd (show Keeps (fun _=>False) wc w5 from (((Keeps.refl _ wc).alloc _).grown hgrow (fun k hk _=>(HN0.out k hk))));have HGG:=Hd (show w.heap.size<gg by rcases hat with h | h;exact (HN0.out _ h).elim;omega);clear hown2 hgrow hat)
      go_meet
      case rel=>exact⟨[txtP (p.text.drop (R+1))],some ⟨gg,0,none⟩,cap,_,rfl,by show Value.slice _ (m0+1) _=Value.slice _ 1 _;rw [HM0.out],HHD,Hd ⟨[.slice none 0 0],0,rfl,by
       have h9:=HOW.out;rw [HM0.out] at h9;rw [HSZ.out,HSS.out,ext_drop] at h9;exact h9,fun i hi hi'=>by
        obtain rfl:i=0:=by simpa using hi
        exact PtsAt.nil _ _ _⟩,HKG,Hd (fun g hg=>by have h3:gg=g:=Option.some.inj hg;have:=HGG.out;omega)⟩
     ·have r9:¬(R:Int)+1<(s.size:Int):=by omega
      have HHD:=Hd (show []=if (p.text.drop (R+1)).isEmpty then [] else [txtP (p.text.drop (R+1))] from by
       rw [if_pos];rw [List.isEmpty_iff];exact List.drop_eq_nil_of_le (by have:=HSZ.out;omega))
      clear h8;go_wp2_with fail;go_meet
      case rel=>exact⟨[],la0,lc0,_,rfl,by show Value.slice _ m0 _=Value.slice _ 0 _;rw [HM0.out],HHD,Hd ⟨[],0,rfl,by have h9:=HO0.out;rw [HM0.out] at h9;exact h9,fun i hi=>absurd hi (Nat.not_lt_zero _)⟩,Hd (Keeps.refl _ _),Hd (fun g hg=>by rw [HM0.out] at HN0;exact (HN0.out g hg).elim)⟩
    case rest=>
    obtain⟨hd,la,lc,wy,hwy,rfl,HHD,HO,HKY,HLO⟩:=hcut;subst hwy;have hh1:hd.length≤1:=by rw [HHD.out];split<;>simp
    have HRES3:=Hd (show res=some (p.text.take R,hd++t) by rw [HRES2.out,HHD.out]);have hwle:=HKY.out.size;replace HZ:=Hd (HZ.out.keep HKY.out (fun h=>h));have hw9:=HZ.out.lt;rcases Nat.lt_or_ge 1 c with hc | hc
    ·have z1:(1:Int)≤(L:Int):=by omega
     have z2:(L:Int)≤(c:Int):=by omega
     have z3:(1:Int)<(c:Int):=by omega
     have z4:(c=1)=False:=eq_false (by omega);go_wp2_with fail;have hpt:=HPT.out.tail (some ⟨g,o+6,none⟩) (.inl rfl);have hL1:t.length=(L - 1):=by have:=HL.out;rw [List.length_cons] at this;omega
     obtain⟨us,hul,huc,hu1,hun⟩:=pts_cells hpt;obtain⟨ys,hys⟩:∃ys,ys=cellsL t us:=⟨_,rfl⟩;have hyl:ys.length=(L - 1)*6:=by rw [hys,cellsL_len hul,hL1]
     rw [←hys] at huc hu1;obtain⟨vs,nn,hvl,hown,hvn⟩:=HO.out;obtain⟨xs,hxs⟩:∃xs,xs=cellsL hd vs:=⟨_,rfl⟩;rw [←hxs] at hown;have HYS:=Hd hys;have HXS:=Hd hxs;have HUC:=Hd huc;have HU1:=Hd hu1;have HUN:=Hd hun;have HUL:=Hd hul;have HVL:=Hd hvl;have HVN:=Hd hvn;have HYL:=Hd hyl;have HL1:=Hd hL1;obtain⟨hh,hhh⟩:∃hh,hh=hd.length:=⟨_,rfl⟩;rw [←hhh] at hown hh1;rw [←hhh];have HHH:=Hd hhh;have HLO2:=Hd (show ∀g,(Value.slice la hh lc).ownBlock=some g→w.heap.size<g by rw [hhh];exact HLO.out)
     clear hpt hul huc hu1 hun hvl hvn hys hxs hyl hL1 hhh;go_region_law
      ((
       refine step_append_own (by rfl) _ _ _ (by rfl) 0 67 i0 _ 6 88 Tryz.underlying29 hi0 hz0 hz1 hz2 rfl (by omega) (.slice la hh lc) hh xs (by rfl) (hown.drew)
        ⟨g,o+6,none⟩ (L - 1) (c - 1) ys (by rfl) HYL.out (HUC.out _ ((HK0.out.trans HKY.out (fun _ _ h=>h)).drew)) HU1.out (by unfold maxLen;omega) (by omega) (by omega) ?_;intro va vc w5 hown5 hgrow hat
       have hkg:Keeps (fun b=>(Value.slice la hh lc).ownBlock=some b) wy w5:=((Keeps.refl _ wy).drew).grown hgrow (fun k hk _=>hk);have hZ5:=HZ.out.keep hkg (fun e=>by have:=HLO2.out _ e;omega);obtain⟨⟨e0,e1⟩,g0,g1⟩:=hZ5.two;have hltR:=hZ5.lt;have HOWN5:=Hd hown5;have HKG:=Hd hkg;have HAT:=Hd hat;clear hown5 hgrow hat hkg hZ5))
     go_wp2_with fail;refine bodyPost_ret (v:=.tuple #[.agg #[.string (s.extract 0 R),.slice va (hh+(L - 1)) vc],.bool true]) (by simp [results,Tryz.results186,go_sem,e0,e1]) rfl ?_;obtain⟨⟨mm,hpm⟩,hkk⟩:=asg_fin (D:=D) (v':=.slice va (hh+(L - 1)) vc) HVL.out HVN.out HUL.out HUN.out (HK0.out.trans HKY.out (fun _ _ h=>h)) (by rw [←HHH.out];exact HKG.out) (by first | exact HLO2.out | (rw [←HHH.out];exact HLO2.out)) (by rw [←HHH.out];exact HAT.out) (by rw [←HHH.out,HL1.out,←HXS.out,←HYS.out];exact HOWN5.out) (set2_keeps w5 w.heap.size (.string (s.extract 0 R)) (.slice va (hh+(L - 1)) vc)) HZ.out.lt
     have hlen:hh+(L - 1)=(hd++t).length:=by rw [List.length_append,HL1.out,HHH.out]
     rw [HRES3.out];refine⟨va,vc,mm,?_,?_,hkk⟩
     ·rw [←hlen,HSS.out,ext_take]
     ·rw [←hlen];exact hpm
    ·obtain rfl:c=1:=by omega
     obtain rfl:L=1:=by omega
     go_wp2_with fail;have hpt:=HPT.out.tail (some ⟨g,o,none⟩) (.inr (List.eq_nil_of_length_eq_zero (by have:=HL.out;rw [List.length_cons] at this;omega)));have hL1:t.length=0:=by have:=HL.out;rw [List.length_cons] at this;omega
     obtain⟨us,hul,huc,hu1,hun⟩:=pts_cells hpt;obtain⟨ys,hys⟩:∃ys,ys=cellsL t us:=⟨_,rfl⟩;have hyl:ys.length=0*6:=by rw [hys,cellsL_len hul,hL1]
     rw [←hys] at huc hu1;obtain⟨vs,nn,hvl,hown,hvn⟩:=HO.out;obtain⟨xs,hxs⟩:∃xs,xs=cellsL hd vs:=⟨_,rfl⟩;rw [←hxs] at hown;have HYS:=Hd hys;have HXS:=Hd hxs;have HUC:=Hd huc;have HU1:=Hd hu1;have HUN:=Hd hun;have HUL:=Hd hul;have HVL:=Hd hvl;have HVN:=Hd hvn;have HYL:=Hd hyl;have HL1:=Hd hL1;obtain⟨hh,hhh⟩:∃hh,hh=hd.length:=⟨_,rfl⟩;rw [←hhh] at hown hh1;rw [←hhh];have HHH:=Hd hhh;have HLO2:=Hd (show ∀g,(Value.slice la hh lc).ownBlock=some g→w.heap.size<g by rw [hhh];exact HLO.out)
     clear hpt hul huc hu1 hun hvl hvn hys hxs hyl hL1 hhh;go_region_law
      ((
       refine step_append_own (by rfl) _ _ _ (by rfl) 0 67 i0 _ 6 88 Tryz.underlying29 hi0 hz0 hz1 hz2 rfl (by omega) (.slice la hh lc) hh xs (by rfl) (hown.drew)
        ⟨g,o,none⟩ 0 0 ys (by rfl) HYL.out (HUC.out _ ((HK0.out.trans HKY.out (fun _ _ h=>h)).drew)) HU1.out (by unfold maxLen;omega) (by omega) (by omega) ?_;intro va vc w5 hown5 hgrow hat
       have hkg:Keeps (fun b=>(Value.slice la hh lc).ownBlock=some b) wy w5:=((Keeps.refl _ wy).drew).grown hgrow (fun k hk _=>hk);have hZ5:=HZ.out.keep hkg (fun e=>by have:=HLO2.out _ e;omega);obtain⟨⟨e0,e1⟩,g0,g1⟩:=hZ5.two;have hltR:=hZ5.lt;have HOWN5:=Hd hown5;have HKG:=Hd hkg;have HAT:=Hd hat;clear hown5 hgrow hat hkg hZ5))
     go_wp2_with fail;refine bodyPost_ret (v:=.tuple #[.agg #[.string (s.extract 0 R),.slice va (hh+0) vc],.bool true]) (by simp [results,Tryz.results186,go_sem,e0,e1]) rfl ?_;obtain⟨⟨mm,hpm⟩,hkk⟩:=asg_fin (D:=D) (v':=.slice va (hh+0) vc) HVL.out HVN.out HUL.out HUN.out (HK0.out.trans HKY.out (fun _ _ h=>h)) (by rw [←HHH.out];exact HKG.out) (by first | exact HLO2.out | (rw [←HHH.out];exact HLO2.out)) (by rw [←HHH.out];exact HAT.out) (by rw [←HHH.out,HL1.out,←HXS.out,←HYS.out];exact HOWN5.out) (set2_keeps w5 w.heap.size (.string (s.extract 0 R)) (.slice va (hh+0) vc)) HZ.out.lt
     have hlen:hh+0=(hd++t).length:=by rw [List.length_append,HL1.out,HHH.out]
     rw [HRES3.out];refine⟨va,vc,mm,?_,?_,hkk⟩
     ·rw [←hlen,HSS.out,ext_take]
     ·rw [←hlen];exact hpm
   ·have HRES2:=Hd (show res=none by rw [HRES.out];exact assignR_no (by rw [←HRR.out];exact hq));clear HRES hsz htl;rcases Nat.eq_zero_or_pos R with h0 | h0
    ·have r1:((R:Int)==0)=true:=by rw [beq_iff_eq];omega
     clear h0 hq;go_enter Tryz.func186,Tryz.ntmps186;go_wp2_with fail;obtain⟨W,hW⟩:∃W,W=w.alloc (.cells #[.string ⟨#[]⟩,.slice none 0 0] 84):=⟨_,rfl⟩;have hk0:Keeps (fun _=>False) w W:=by rw [hW];exact (Keeps.refl _ _).alloc _
     have HZ:=Hd (show RecAt W w.heap.size [.string ⟨#[]⟩,.slice none 0 0] by rw [hW];exact⟨_,heap_alloc_new w _⟩);rw [←hW];have HK0:=Hd hk0;have q1W:=(World.cell?_of_block (a:=⟨g,o+1,none⟩) (hk0.block g hg (fun h=>h))).trans q1';have hgW:=Nat.lt_of_lt_of_le hg hk0.size;have hWw:=HZ.out.lt;clear hk0 hW;refine (HN.out W 0).mono ?_;rintro e w1 ⟨rfl,dq,rfl⟩;obtain⟨w2,hw2⟩:∃w2,w2=W.drewN dq:=⟨_,rfl⟩;rw [←hw2]
     have hkw:Keeps (fun _=>False) W w2:=by rw [hw2];exact (Keeps.refl _ _).drewN _
     replace HZ:=Hd (HZ.out.keep hkw (fun h=>h));replace HK0:=Hd (HK0.out.trans hkw (fun _ _ h=>h));clear hw2 hkw;obtain⟨⟨e0,e1⟩,g0,g1⟩:=HZ.out.two;have hltR:=HZ.out.lt;go_wp2_with fail;refine bodyPost_ret (v:=.tuple #[.agg #[.string ⟨#[]⟩,.slice none 0 0],.bool false]) (by simp [results,Tryz.results186,go_sem,e0,e1]) rfl ?_;rw [HRES2.out];exact⟨rfl,HK0.out.fresh (set2_keeps _ w.heap.size (.string ⟨#[]⟩) (.slice none 0 0)) (fun b e=>by omega)⟩
    ·have r1:((R:Int)==0)=false:=by rw [beq_eq_false_iff_ne];omega
     rcases Nat.lt_or_ge 60 R with h6 | h6
     ·have r2:(60:Int)<(R:Int):=by omega
      clear h0 h6 hq;go_enter Tryz.func186,Tryz.ntmps186;go_wp2_with fail;obtain⟨W,hW⟩:∃W,W=w.alloc (.cells #[.string ⟨#[]⟩,.slice none 0 0] 84):=⟨_,rfl⟩;have hk0:Keeps (fun _=>False) w W:=by rw [hW];exact (Keeps.refl _ _).alloc _
      have HZ:=Hd (show RecAt W w.heap.size [.string ⟨#[]⟩,.slice none 0 0] by rw [hW];exact⟨_,heap_alloc_new w _⟩);rw [←hW];have HK0:=Hd hk0;have q1W:=(World.cell?_of_block (a:=⟨g,o+1,none⟩) (hk0.block g hg (fun h=>h))).trans q1';have hgW:=Nat.lt_of_lt_of_le hg hk0.size;have hWw:=HZ.out.lt;clear hk0 hW;refine (HN.out W 0).mono ?_;rintro e w1 ⟨rfl,dq,rfl⟩;obtain⟨w2,hw2⟩:∃w2,w2=W.drewN dq:=⟨_,rfl⟩;rw [←hw2]
      have hkw:Keeps (fun _=>False) W w2:=by rw [hw2];exact (Keeps.refl _ _).drewN _
      replace HZ:=Hd (HZ.out.keep hkw (fun h=>h));replace HK0:=Hd (HK0.out.trans hkw (fun _ _ h=>h));clear hw2 hkw;obtain⟨⟨e0,e1⟩,g0,g1⟩:=HZ.out.two;have hltR:=HZ.out.lt;go_wp2_with fail;refine bodyPost_ret (v:=.tuple #[.agg #[.string ⟨#[]⟩,.slice none 0 0],.bool false]) (by simp [results,Tryz.results186,go_sem,e0,e1]) rfl ?_;rw [HRES2.out];exact⟨rfl,HK0.out.fresh (set2_keeps _ w.heap.size (.string ⟨#[]⟩) (.slice none 0 0)) (fun b e=>by omega)⟩
     ·have r2:((60:Int)<(R:Int))=False:=eq_false (by omega);rcases Nat.lt_or_ge R s.size with h7 | h7
      ·have r3:¬(s.size:Int)≤(R:Int):=by omega
       have r4:(0:Int)≤(R:Int):=by omega
       obtain⟨cb,hcb⟩:∃cb,cb=s[R]'h7:=⟨_,rfl⟩;have hne:cb≠61:=fun e=>hq ⟨h0,h6,by
        rw [e,byteAt_in h7] at hcb;unfold byteAt at hcb;rw [List.getD_eq_getElem?_getD] at hcb;have h8:R<s.data.toList.length:=by simpa using h7
        rw [List.getElem?_eq_getElem h8] at hcb;rw [show p.text=s.data.toList by rw [HSS.out],List.getElem?_eq_getElem h8];exact congrArg some hcb.symm⟩
       have hb:=hcb.symm;have r9:((cb.toNat:Int) != 61)=true:=by
        rw [bne_iff_ne];intro e;exact hne (UInt8.toNat_inj.1 (by
         have:cb.toNat=61:=by omega
         rw [this];rfl))
       clear hcb hne hq;clear h0 h6;go_enter Tryz.func186,Tryz.ntmps186;go_wp2_with fail;obtain⟨W,hW⟩:∃W,W=w.alloc (.cells #[.string ⟨#[]⟩,.slice none 0 0] 84):=⟨_,rfl⟩;have hk0:Keeps (fun _=>False) w W:=by rw [hW];exact (Keeps.refl _ _).alloc _
       have HZ:=Hd (show RecAt W w.heap.size [.string ⟨#[]⟩,.slice none 0 0] by rw [hW];exact⟨_,heap_alloc_new w _⟩);rw [←hW];have HK0:=Hd hk0;have q1W:=(World.cell?_of_block (a:=⟨g,o+1,none⟩) (hk0.block g hg (fun h=>h))).trans q1';have hgW:=Nat.lt_of_lt_of_le hg hk0.size;have hWw:=HZ.out.lt;clear hk0 hW;refine (HN.out W 0).mono ?_;rintro e w1 ⟨rfl,dq,rfl⟩;obtain⟨w2,hw2⟩:∃w2,w2=W.drewN dq:=⟨_,rfl⟩
       rw [←hw2];have hkw:Keeps (fun _=>False) W w2:=by rw [hw2];exact (Keeps.refl _ _).drewN _
       replace HZ:=Hd (HZ.out.keep hkw (fun h=>h));replace HK0:=Hd (HK0.out.trans hkw (fun _ _ h=>h));clear hw2 hkw;obtain⟨⟨e0,e1⟩,g0,g1⟩:=HZ.out.two;have hltR:=HZ.out.lt;go_wp2_with fail;refine bodyPost_ret (v:=.tuple #[.agg #[.string ⟨#[]⟩,.slice none 0 0],.bool false]) (by simp [results,Tryz.results186,go_sem,e0,e1]) rfl ?_;rw [HRES2.out];exact⟨rfl,HK0.out.fresh (set2_keeps _ w.heap.size (.string ⟨#[]⟩) (.slice none 0 0)) (fun b e=>by omega)⟩
      ·have r3:(s.size:Int)≤(R:Int):=by omega
       clear h0 h6 hq;go_enter Tryz.func186,Tryz.ntmps186;go_wp2_with fail;obtain⟨W,hW⟩:∃W,W=w.alloc (.cells #[.string ⟨#[]⟩,.slice none 0 0] 84):=⟨_,rfl⟩;have hk0:Keeps (fun _=>False) w W:=by rw [hW];exact (Keeps.refl _ _).alloc _
       have HZ:=Hd (show RecAt W w.heap.size [.string ⟨#[]⟩,.slice none 0 0] by rw [hW];exact⟨_,heap_alloc_new w _⟩);rw [←hW];have HK0:=Hd hk0;have q1W:=(World.cell?_of_block (a:=⟨g,o+1,none⟩) (hk0.block g hg (fun h=>h))).trans q1';have hgW:=Nat.lt_of_lt_of_le hg hk0.size;have hWw:=HZ.out.lt;clear hk0 hW;refine (HN.out W 0).mono ?_;rintro e w1 ⟨rfl,dq,rfl⟩;obtain⟨w2,hw2⟩:∃w2,w2=W.drewN dq:=⟨_,rfl⟩
       rw [←hw2];have hkw:Keeps (fun _=>False) W w2:=by rw [hw2];exact (Keeps.refl _ _).drewN _
       replace HZ:=Hd (HZ.out.keep hkw (fun h=>h));replace HK0:=Hd (HK0.out.trans hkw (fun _ _ h=>h));clear hw2 hkw;obtain⟨⟨e0,e1⟩,g0,g1⟩:=HZ.out.two;have hltR:=HZ.out.lt;go_wp2_with fail;refine bodyPost_ret (v:=.tuple #[.agg #[.string ⟨#[]⟩,.slice none 0 0],.bool false]) (by simp [results,Tryz.results186,go_sem,e0,e1]) rfl ?_;rw [HRES2.out];exact⟨rfl,HK0.out.fresh (set2_keeps _ w.heap.size (.string ⟨#[]⟩) (.slice none 0 0)) (fun b e=>by omega)⟩
  ·have t0:((p.kind:Int) != 1)=true:=by rw [bne_iff_ne];omega
   have HRES2:=Hd (show res=none by
    rw [HRES.out];unfold assignF;dsimp only;rw [if_neg (by simpa using k)])
   clear k HRES;go_enter Tryz.func186,Tryz.ntmps186;go_wp2_with fail;refine bodyPost_ret (v:=.tuple #[.agg #[.string ⟨#[]⟩,.slice none 0 0],.bool false]) (by simp [results,Tryz.results186,go_sem]) rfl ?_;rw [HRES2.out];exact⟨rfl,(Keeps.refl _ w).alloc _⟩
end Go.Proofs.YtiihpbccabeoeaaGreatDoor
