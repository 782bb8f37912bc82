/- The walk: a part. -/
import Derived.Test.YtiihpbccabeoeaaGreatDoorWPxO
namespace Go.Proofs.YtiihpbccabeoeaaGreatDoor
open Go.RowKit
set_option linter.unusedVariables false
set_option maxRecDepth 100000
set_option maxHeartbeats 16000000
def At8 (w:World) (g:Nat) (v:NV):Prop:=g<w.heap.size∧∀k u,v.vals[k]? = some u→w.cell? ⟨g,k,none⟩=some u
theorem At8.keep {w w':World} {g:Nat} {v:NV} {S:Nat→Prop} (h:At8 w g v) (hk:aB S w w') (hg:¬S g):At8 w' g v:=
 ⟨Nat.lt_of_lt_of_le h.1 hk.size,fun k u hu=>(World.cell?_of_block (hk.block g h.1 hg)).trans (h.2 k u hu)⟩
theorem At8.eight {w:World} {g:Nat} {v:NV} (h:At8 w g v):w.cell? ⟨g,0,none⟩=some (.int .i64 v.k)∧w.cell? ⟨g,1,none⟩=some (.bool v.nt)∧w.cell? ⟨g,2,none⟩=some (.string v.nm)∧w.cell? ⟨g,3,none⟩=some (.slice v.a0 v.n0 v.c0)∧w.cell? ⟨g,4,none⟩=some (.slice v.a1 v.n1 v.c1)∧w.cell? ⟨g,5,none⟩=some (.slice v.a2 v.n2 v.c2)∧w.cell? ⟨g,6,none⟩=some (.slice v.a3 v.n3 v.c3)∧w.cell? ⟨g,7,none⟩=some (.slice v.a4 v.n4 v.c4):=
 ⟨h.2 0 _ rfl,h.2 1 _ rfl,h.2 2 _ rfl,h.2 3 _ rfl,h.2 4 _ rfl,h.2 5 _ rfl,h.2 6 _ rfl,h.2 7 _ rfl⟩
theorem L5 {w:World} {Ty:TypeId} {g cap:Nat} {v:NV} (h:w.ownsRow 0 Ty 8 (.slice (some ⟨g,0,none⟩) 1 cap) 1 v.vals):At8 w g v:=by
 refine⟨(h.lt g rfl).2,fun k u hu=>?_⟩;have hk:k<8:=by
  have:=(List.getElem?_eq_some_iff.1 hu).1;simpa [NV.vals] using this
 rcases h.2 with ⟨e,h0⟩ | ⟨g',cap',cur,e,hb,hg,h1,h2,h3⟩
 ·cases e
 ·have hc:=h.cellAt k (by omega);obtain rfl:g=g':=by injection e with e1;injection e1 with e1;injection e1
  rw [hc];exact hu
theorem Ms:∀{w:World} {D:Nat→Prop} {ds:List Dt} {vs:List Value} (hl:ds.length=vs.length) (h:∀j (hj:j<ds.length) (hj':j<vs.length),Rd w D ds[j] vs[j]),RdL w D ds vs
 | w,D,[],[],_,_=>trivial
 | w,D,d::ds,v::vs,hl,h=>⟨h 0 (by simp) (by simp),Ms (by simpa using hl) (fun j hj hj'=>h (j+1) (by simpa using hj) (by simpa using hj'))⟩
 | w,D,[],v::vs,hl,_=>by simp at hl
 | w,D,d::ds,[],hl,_=>by simp at hl
theorem Af {w:World} {D:Nat→Prop} {ds:List Dt} {g c:Nat} {v:NV} (h:Rd w D (.sl 8 ds) (.slice (some ⟨g,0,none⟩) 1 c)) (hl:ds.length=8) (h8:At8 w g v):RdL w D ds v.vals:=by
 refine Ms (by rw [hl];rfl) fun j hj hj'=>?_;obtain⟨b,off,u,e,hb,hD,hc,hr⟩:=h.cell hj;obtain⟨rfl,rfl⟩:g=b∧0=off:=by simpa using e
 rw [Nat.zero_add] at hc;have hc2:=h8.2 j v.vals[j] (List.getElem?_eq_getElem hj');rw [hc] at hc2;rw [←Option.some.inj hc2];exact hr
def Mf (gd:Prop) (acc:List Dt) (T:List Tk) (I x:Nat) (res:PR (List Dt)):Prop:=(gd∧x=0∧I≤T.length∧jP acc∧res=.ok (qJ acc,T.drop I))∨∀w D us,QF true w D T res us I x
theorem jR {gd:Prop} {acc:List Dt} {T:List Tk} {I x:Nat} {res:PR (List Dt)} {w:World} {D:Nat→Prop} {us:List Value} (h:Mf gd acc T I x res) (hr:gd→jP acc→NdD (qJ acc)∧RdL w D (qJ acc) us):QF true w D T res us I x:=by
 rcases h with ⟨g,hx,hI,ha,h⟩ | h
 ·exact QF.good h hx (hr g ha).1 (hr g ha).2 rfl hI
 ·exact h w D us
theorem uB {acc:List Dt} (h:acc.length=8):qJ acc=acc:=if_pos h
theorem rR {acc:List Dt} (h:acc.length≠8):qJ acc=ndR 5 false [] [] [] [] acc []:=if_neg h
theorem gR (K:Nat) (hcmd:eU K) (w:World) (Lo B ps n i deep:Nat) (tv:Value) (T:List Tk) (h:QS w Lo B ps tv n T i 0) (hi:i≤T.length) (hd:deep+K=41) :
 Calls Tryz.prog 63 #[.pointer (some ⟨ps,0,none⟩),.int .i64 (deep:Nat)] w (iJ w Lo B ps tv n T i (2*K) true (cU (aC K) (T.drop i))):=by
 obtain⟨res,hres⟩:∃res,res=cU (aC K) (T.drop i):=⟨_,rfl⟩;rw [←hres];rw [Of K] at hres;have hc8:=bV;obtain⟨i0,hi0,hz0,hz1,hz2⟩:=info_parts sX;have HRES:=Hd hres;have HC:=Hd hcmd;have HD:=Hd hd;have HPS:=Hd h.lt;have hmT:T.length≤20000:=h.sm.1;have HS:=Lib.hid h;clear hres hcmd h;go_enter Tryz.func63,Tryz.ntmps63;go_wp2_with fail;obtain⟨W,hW⟩:∃W,W=w.alloc (.cells #[.int .i64 0,.bool false,.string ⟨#[]⟩,.slice none 0 0,.slice none 0 0,.slice none 0 0,.slice none 0 0,.slice none 0 0] 44):=⟨_,rfl⟩
 have hk0:K0 w W:=by rw [hW];exact (aB.refl _ _).alloc _
 have HZ:=Hd (show aH W w.heap.size [.int .i64 0,.bool false,.string ⟨#[]⟩,.slice none 0 0,.slice none 0 0,.slice none 0 0,.slice none 0 0,.slice none 0 0] by rw [hW];exact aK w _ _ _ _ _ _ _ _ _);rw [←hW];have HK0:=Hd hk0;replace HS:=Hd (HS.o.keep0 hk0);clear hk0 hW;refine (cY W Lo B ps n i 0 tv T HS.o).mono ?_;rintro e w1 ⟨rfl,j0,hj1,hj2,hj3,hj4,hs4,hk4⟩;have hj0:=hj2 hi;have HG:=Hd (show QM True w w1 Lo B ps tv n T (w.heap.size+1) j0 0 (.slice none 0 0) 8 44 0 [] from⟨hs4,⟨[],fun _=>trivial,World.ownsRow_nil _ _ _ _⟩,fun g hg=>(by cases hg),(HK0.o.mono (fun _ _ h=>h.elim)).trans hk4 k3⟩)
 replace HZ:=Hd (HZ.o.keep hk4 (fun e=>by have:=HPS.o;omega));have HLA:=Hd (show LAt K [] T j0 res from .inl (by rw [hj4];exact HRES.o));clear hs4 hk4 hj4 hj3 hj2 HRES HS HK0;go_wp2_with fail;go_loopg [5] (T.length+2000 - j0) (fun g l' wr=>∃(I m:Nat) (la:OA) (lc:Nat) (acc:List Dt),g=T.length+2000 - I∧l'=.slice la m lc∧i≤I∧I≤T.length∧m≤I∧Hid (QM True w wr Lo B ps tv n T (w.heap.size+1) I 0 (.slice la m lc) 8 44 m acc)∧Hid (aH wr w.heap.size [.int .i64 0,.bool false,.string ⟨#[]⟩,.slice none 0 0,.slice none 0 0,.slice none 0 0,.slice none 0 0,.slice none 0 0])∧Hid (jP acc)∧Hid (LAt K acc T I res))
 case atStart=>exact⟨j0,0,none,0,[],rfl,rfl,hj1,hj0,Nat.zero_le _,HG,HZ,Hd jP.nil,HLA⟩
 case round=>
  clear HG HZ HLA;obtain⟨I,m,la,lc,acc,hgk,rfl,hiI,hIT,hmI,HG,HZ,HAN,HLA⟩:=hrel;have HGK:=Hd hgk;clear hgk;obtain⟨c0,c1,c2,f1,f2⟩:=HG.o.rs.cells;have hlt:=HG.o.rs.lt;go_wp2_with fail;refine (E7 K HC.o wr Lo B ps n I deep tv T HG.o.rs hIT HD.o).mono ?_;rintro e w2 ⟨v,j2,bd,rfl,hij2,hj2b,hs2,hk2,hf2⟩;obtain⟨gd,dd,hgd,hst⟩:=Lv HLA.o hf2;have HST:=Hd hst;have HGD:=Hd hgd;go_upto_region 5 with fail
  obtain⟨NB,hNB⟩:∃NB,NB=w2.heap.size:=⟨_,rfl⟩;obtain⟨W3,hW3⟩:∃W3,W3=w2.alloc (.cells #[.int .i64 v.k,.bool v.nt,.string v.nm,.slice v.a0 v.n0 v.c0,.slice v.a1 v.n1 v.c1,.slice v.a2 v.n2 v.c2,.slice v.a3 v.n3 v.c3,.slice v.a4 v.n4 v.c4] 44):=⟨_,rfl⟩;rw [←hW3]
  try rw [←hNB]
  have hk3:K0 w2 W3:=by rw [hW3];exact (aB.refl _ _).alloc _
  have HNR:=Hd (show aH W3 NB [.int .i64 v.k,.bool v.nt,.string v.nm,.slice v.a0 v.n0 v.c0,.slice v.a1 v.n1 v.c1,.slice v.a2 v.n2 v.c2,.slice v.a3 v.n3 v.c3,.slice v.a4 v.n4 v.c4] by rw [hW3,hNB];exact aK _ _ _ _ _ _ _ _ _ _);have hzl0:=HZ.o.lt;obtain⟨xs,hown4,hF⟩:=HG.o.more (G':=gd) (y:=bd) (J:=j2) (us:=[.int .i64 v.k,.bool v.nt,.string v.nm,.slice v.a0 v.n0 v.c0,.slice v.a1 v.n1 v.c1,.slice v.a2 v.n2 v.c2,.slice v.a3 v.n3 v.c3,.slice v.a4 v.n4 v.c4]) (d2:=dd) (by have:=HPS.o;omega) hzl0 (Nat.le_succ _) (hk2.trans hk3 (fun _ _ h=>h.elim)) (hs2.keep0 hk3) (fun _=>trivial) (fun g=>((HGD.o g).2.keep hk3 (fun _ _ _ h=>h)))
  have HF:=Hd hF;have HXL:=Hd (show m=0→xs=[] from fun e=>by have h9:=hown4.1;rw [e] at h9;exact List.eq_nil_of_length_eq_zero (by omega));have HLOW:=Hd HG.o.low;replace HZ:=Hd ((HZ.o.keep hk2 (fun e=>by have:=HPS.o;omega)).keep hk3 (fun h=>h));have HAN2:=Hd (show gd→jP (acc++dd) from fun g=>HAN.o.app (jP.of (HGD.o g).1));have HIB:=Hd (show i≤j2∧j2≤T.length+2*K by omega);have HIJ:=Hd hij2
  obtain⟨⟨u0,u1,u2,u3,u4,u5,u6,u7⟩,⟨uf0,uf1,uf2,uf3,uf4,uf5,uf6,uf7⟩⟩:=HNR.o.eight;have hNBl:=HNR.o.lt;clear hF hgd hst hs2 hk2 hf2 hk3 hNB hW3 HG HGD hij2 hj2b c0 c1 c2 f1 f2 hlt hzl0;go_upto_region 6 with (at_builtin;refine wpList_append_lies _ rfl (.tmp 17) (.tmp 19) _ rfl 0 44 i0 _ 8 152 Tryz.underlying23 hi0 hz0 hz1 hz2 rfl (by omega) (.slice la m lc) m xs rfl (hown4.alloc _) ⟨W3.heap.size,0,none⟩ 1 1 [.int .i64 v.k,.bool v.nt,.string v.nm,.slice v.a0 v.n0 v.c0,.slice v.a1 v.n1 v.c1,.slice v.a2 v.n2 v.c2,.slice v.a3 v.n3 v.c3,.slice v.a4 v.n4 v.c4] rfl rfl (World.news_of_block (cs:=#[.int .i64 v.k,.bool v.nt,.string v.nm,.slice v.a0 v.n0 v.c0,.slice v.a1 v.n1 v.c1,.slice v.a2 v.n2 v.c2,.slice v.a3 v.n3 v.c3,.slice v.a4 v.n4 v.c4]) (t:=44) (fr:=(0,0)) (heap_alloc_new W3 _)) (by simp [Value.oneCell']) (by omega) (by unfold maxLen;omega) (by omega) (by simp) (W3.heap.size+1) (by simp) ?_;intro gg cap w5 hown2 hgrow hat hlt5;have hG5:=HF.o gg (m+1) cap w5 _ hown2 ((aB.refl _ _).alloc _) hgrow (hat.imp id (fun h=>by omega));obtain⟨hq5,hk5⟩:=hG5;have HG:=Hd (show QM gd w w5 Lo B ps tv n T (w.heap.size+1) j2 bd (.slice (some ⟨gg,0,none⟩) (m+1) cap) 8 44 (m+1) (acc++dd) from hq5);replace HZ:=Hd (HZ.o.keep hk5 (fun e=>by have:=HLOW.o _ e;omega));have HA8:=Hd (show m=0→At8 w5 gg v from fun e=>by rw [HXL.o e,e] at hown2;exact L5 hown2);clear hq5 hk5;clear hown2 hgrow hat)
  obtain⟨c0,c1,c2,f1,f2⟩:=HG.o.rs.cells;have hlt:=HG.o.rs.lt;have hpg:gg≠ps:=by have:=HG.o.low gg rfl;have:=HPS.o;omega
  by_cases hy:bd=0
  ·subst hy;by_cases hor:aG [59] (T.drop j2)=true∨aG [10] (T.drop j2)=true
   ·obtain⟨g,hjT,hr⟩:gd∧j2≤T.length∧res=o6 (eE (aC K) ((T.drop j2).length+1) (acc++dd) (T.drop j2)):=by
     rcases HST.o with ⟨g,_,hjT,hr⟩ | ⟨h9 | h9,_⟩
     ·exact⟨g,hjT,hr⟩
     ·exact absurd rfl h9
     ·rcases hor with hor | hor
      ·rw [lH h9 [59] (by decide)] at hor;cases hor
      ·rw [lH h9 [10] (by decide)] at hor;cases hor
    have hpos:j2<T.length:=by rcases hor with hor | hor<;>exact bQ (dO hor)
    have HGO:=Hd (fun I h=>Kj (T:=T) (I:=I) hr (by rcases hor with h | h<;>rw [h];rfl;exact Bool.or_true _) h);have HG0:=Hd g;have hsum:IntKind.i64.wrap ((j2:Int)+1)=(j2:Int)+1:=IntWalk.i64_in _ (by omega);cases o1:aG [59] (T.drop j2) with
    | true=>
     have HQ:=Hd (a8 HG.o.rs [59] true o1 0);clear hor hr g HST o1;go_wp2_with fail;refine HQ.o.mono ?_;rintro e wq ⟨rfl,q,rfl⟩;obtain⟨w6,hw6⟩:∃w6,w6=w5.drewN q:=⟨_,rfl⟩;rw [←hw6];have hkw:K0 w5 w6:=by rw [hw6];exact (aB.refl _ _).drewN _
     replace HG:=Hd (HG.o.keep0 hkw);replace HZ:=Hd (HZ.o.keep hkw (fun h=>h));replace HA8:=Hd (fun e=>(HA8.o e).keep hkw (fun h=>h));clear hw6 hkw;obtain⟨c0,c1,c2,f1,f2⟩:=HG.o.rs.cells;have hlt:=HG.o.rs.lt;go_wp2_with fail;obtain⟨w7,hw7⟩:∃w7,w7=w6.setCell ⟨ps,1,none⟩ (.int .i64 ((j2:Int)+1)):=⟨_,rfl⟩;rw [←hw7];replace HG:=Hd (by have h9:=HG.o.inc (by have:=HPS.o;omega) (by omega);rw [←hw7] at h9;exact h9)
     have hkw:aB (fun b=>b=ps) w6 w7:=by rw [hw7];exact (aB.refl _ _).setCell _ _ fun _=>rfl
     refine (cY w7 Lo B ps n (j2+1) 0 tv T HG.o.rs).mono ?_;rintro e w8 ⟨rfl,j,hj1,hj2,hj3,hj4,hs8,hk8⟩;have hjT2:j≤T.length:=hj2 (by omega);rw [←aS] at hj4;obtain⟨hgo1,hgo2⟩:=HGO.o j hj4;have hkw8:=hkw.trans hk8 k3;replace HG:=Hd (HG.o.move (by have:=HPS.o;omega) hk8 hs8);replace HZ:=Hd (HZ.o.keep hkw8 (fun e=>by have:=HPS.o;omega));replace HA8:=Hd (fun e=>(HA8.o e).keep hkw8 hpg)
     have HIJ2:=Hd (show j2+1≤j from hj1);have HGO1:=Hd hgo1;have HGO2:=Hd hgo2;clear hw7 hkw hs8 hk8 hj1 hj2 hj3 hj4 hkw8 hgo1 hgo2 c0 c1 c2 f1 f2 hlt HIB;cases hcl:cZ (T.drop j) with
     | true=>
      have HCL:=Hd (lG w8 Lo B ps n j 0 tv T HG.o.rs);rw [hcl] at HCL;have HFIN:=Hd (show Mf gd (acc++dd) T j 0 res from .inl ⟨HG0.o,rfl,hjT2,HAN2.o HG0.o,HGO1.o hcl⟩);have HIB:=Hd (show i≤j∧j≤T.length+2*K by have:=HIJ.o;have:=HIJ2.o;omega);clear hcl;go_wp2_with fail;refine HCL.o.mono ?_;rintro e wq ⟨rfl,q2,rfl⟩;replace HG:=Hd (HG.o.keep0 ((aB.refl _ _).drewN q2));replace HZ:=Hd (HZ.o.keep ((aB.refl (fun _=>False) _).drewN q2) (fun h=>h))
      replace HA8:=Hd (fun e=>(HA8.o e).keep ((aB.refl (fun _=>False) _).drewN q2) (fun h=>h));obtain⟨wf,hwf⟩:∃wf,wf=(w8.drewN q2):=⟨_,rfl⟩;rw [←hwf];rw [←hwf] at HG HZ HA8;have HK:=Hd HG.o.kp;have HS:=Hd HG.o.rs;by_cases hm:m=0
      ·subst hm;have hf:=jR (w:=wf) (D:=fun b=>Qd Lo B w.heap.size b∧b≠w.heap.size) (us:=[.int .i64 v.k,.bool v.nt,.string v.nm,.slice v.a0 v.n0 v.c0,.slice v.a1 v.n1 v.c1,.slice v.a2 v.n2 v.c2,.slice v.a3 v.n3 v.c3,.slice v.a4 v.n4 v.c4]) HFIN.o (fun g ha=>by
        have hl:=HG.o.mlen g;rw [uB (by omega)];exact⟨ha.one (by omega),(Af (HG.o.reads g) (by omega) (HA8.o rfl)).mono (fun b _ hb=>⟨by rcases hb with h | h;exact .inl h;exact .inr (by omega),by rcases hb with h | h;exact (by have:=HPS.o;have:=HG.o.rs.ps;omega);exact (by omega)⟩)⟩)
       have HF:=Hd hf;obtain⟨n0,n1,n2,n3,n4,n5,n6,n7⟩:=(HA8.o rfl).eight;have hgl:=(HA8.o rfl).1;clear hf hwf;obtain⟨⟨z0,z1,z2,z3,z4,z5,z6,z7⟩,⟨zf0,zf1,zf2,zf3,zf4,zf5,zf6,zf7⟩⟩:=HZ.o.eight;have hzl:=HZ.o.lt;go_wp2_with fail;refine bodyPost_ret (v:=.agg #[.int .i64 v.k,.bool v.nt,.string v.nm,.slice v.a0 v.n0 v.c0,.slice v.a1 v.n1 v.c1,.slice v.a2 v.n2 v.c2,.slice v.a3 v.n3 v.c3,.slice v.a4 v.n4 v.c4]) (by simp [results,Tryz.results63,go_sem,z0,z1,z2,z3,z4,z5,z6,z7]) rfl ?_
       obtain⟨f1,f2,f3⟩:=bS HK.o HS.o HPS.o HF.o (aJ wf w.heap.size (.int .i64 v.k) (.bool v.nt) (.string v.nm) (.slice v.a0 v.n0 v.c0) (.slice v.a1 v.n1 v.c1) (.slice v.a2 v.n2 v.c2) (.slice v.a3 v.n3 v.c3) (.slice v.a4 v.n4 v.c4));exact⟨v,_,_,rfl,HIB.o.1,HIB.o.2,f1,f2,f3⟩
      ·have t1:(((m+1:Nat):Int)==1)=false:=by rw [beq_eq_false_iff_ne];omega
       have hf:=jR (w:=wf) (D:=fun b=>Qd Lo B w.heap.size b∧b≠w.heap.size) (us:=[.int .i64 5,.bool false,.string ⟨#[]⟩,.slice none 0 0,.slice none 0 0,.slice none 0 0,.slice (some ⟨gg,0,none⟩) (m+1) cap,.slice none 0 0]) HFIN.o (fun g ha=>by
        have hl:=HG.o.mlen g;rw [rR (by omega)];have hr:=(HG.o.reads g).mono (D':=fun b=>Qd Lo B w.heap.size b∧b≠w.heap.size) (fun b _ hb=>⟨by rcases hb with h | h;exact .inl h;exact .inr (by omega),by rcases hb with h | h;exact (by have:=HPS.o;have:=HG.o.rs.ps;omega);exact (by omega)⟩);exact⟨⟨_,_,_,_,_,_,_,_,rfl⟩,.int _,.bool _,.str _,.nil _ _ _ (Nat.zero_le _),.nil _ _ _ (Nat.zero_le _),.nil _ _ _ (Nat.zero_le _),hr,.nil _ _ _ (Nat.zero_le _),trivial⟩)
       have HF:=Hd hf;clear hf hwf hm;obtain⟨⟨z0,z1,z2,z3,z4,z5,z6,z7⟩,⟨zf0,zf1,zf2,zf3,zf4,zf5,zf6,zf7⟩⟩:=HZ.o.eight;have hzl:=HZ.o.lt;go_wp2_with fail;refine bodyPost_ret (v:=.agg #[.int .i64 5,.bool false,.string ⟨#[]⟩,.slice none 0 0,.slice none 0 0,.slice none 0 0,.slice (some ⟨gg,0,none⟩) (m+1) cap,.slice none 0 0]) (by simp [results,Tryz.results63,go_sem,z0,z1,z2,z3,z4,z5,z6,z7]) rfl ?_
       obtain⟨f1,f2,f3⟩:=bS HK.o HS.o HPS.o HF.o (aJ wf w.heap.size (.int .i64 5) (.bool false) (.string ⟨#[]⟩) (.slice none 0 0) (.slice none 0 0) (.slice none 0 0) (.slice (some ⟨gg,0,none⟩) (m+1) cap) (.slice none 0 0));exact⟨⟨5,false,⟨#[]⟩,none,0,0,none,0,0,none,0,0,some ⟨gg,0,none⟩,m+1,cap,none,0,0⟩,_,_,rfl,HIB.o.1,HIB.o.2,f1,f2,f3⟩
     | false=>
      have HCL:=Hd (lG w8 Lo B ps n j 0 tv T HG.o.rs);rw [hcl] at HCL;have HLA2:=Hd (HGO2.o hcl);clear hcl;go_wp2_with fail;refine HCL.o.mono ?_;rintro e wq ⟨rfl,q2,rfl⟩;go_wp2_with fail;go_roundg (T.length+2000 - j)
      case measure=>have:=HGK.o;have:=HIJ.o;have:=HIJ2.o;omega
      case rel=>exact⟨j,m+1,_,_,acc++dd,rfl,rfl,by have:=HIJ.o;have:=HIJ2.o;omega,hjT2,by have:=HIJ.o;have:=HIJ2.o;omega,Hd ((HG.o.weak (fun _=>HG0.o)).keep0 ((aB.refl _ _).drewN q2)),Hd (HZ.o.keep ((aB.refl (fun _=>False) _).drewN q2) (fun h=>h)),Hd (HAN2.o HG0.o),HLA2⟩
    | false=>
     have o2:aG [10] (T.drop j2)=true:=by rcases hor with h | h;rw [h] at o1;cases o1;exact h
     have HQ:=Hd (a8 HG.o.rs [59] false o1 0);have HQ2:=Hd (fun q=>a8 HG.o.rs [10] true o2 q);clear hor hr g HST o1 o2;go_wp2_with fail;refine HQ.o.mono ?_;rintro e wq ⟨rfl,q0,rfl⟩;go_wp2_with fail;refine (HQ2.o q0).mono ?_;rintro e wq ⟨rfl,q,rfl⟩;obtain⟨w6,hw6⟩:∃w6,w6=w5.drewN q:=⟨_,rfl⟩;rw [←hw6];have hkw:K0 w5 w6:=by rw [hw6];exact (aB.refl _ _).drewN _
     replace HG:=Hd (HG.o.keep0 hkw);replace HZ:=Hd (HZ.o.keep hkw (fun h=>h));replace HA8:=Hd (fun e=>(HA8.o e).keep hkw (fun h=>h));clear hw6 hkw;obtain⟨c0,c1,c2,f1,f2⟩:=HG.o.rs.cells;have hlt:=HG.o.rs.lt;go_wp2_with fail;obtain⟨w7,hw7⟩:∃w7,w7=w6.setCell ⟨ps,1,none⟩ (.int .i64 ((j2:Int)+1)):=⟨_,rfl⟩;rw [←hw7];replace HG:=Hd (by have h9:=HG.o.inc (by have:=HPS.o;omega) (by omega);rw [←hw7] at h9;exact h9)
     have hkw:aB (fun b=>b=ps) w6 w7:=by rw [hw7];exact (aB.refl _ _).setCell _ _ fun _=>rfl
     refine (cY w7 Lo B ps n (j2+1) 0 tv T HG.o.rs).mono ?_;rintro e w8 ⟨rfl,j,hj1,hj2,hj3,hj4,hs8,hk8⟩;have hjT2:j≤T.length:=hj2 (by omega);rw [←aS] at hj4;obtain⟨hgo1,hgo2⟩:=HGO.o j hj4;have hkw8:=hkw.trans hk8 k3;replace HG:=Hd (HG.o.move (by have:=HPS.o;omega) hk8 hs8);replace HZ:=Hd (HZ.o.keep hkw8 (fun e=>by have:=HPS.o;omega));replace HA8:=Hd (fun e=>(HA8.o e).keep hkw8 hpg)
     have HIJ2:=Hd (show j2+1≤j from hj1);have HGO1:=Hd hgo1;have HGO2:=Hd hgo2;clear hw7 hkw hs8 hk8 hj1 hj2 hj3 hj4 hkw8 hgo1 hgo2 c0 c1 c2 f1 f2 hlt HIB;cases hcl:cZ (T.drop j) with
     | true=>
      have HCL:=Hd (lG w8 Lo B ps n j 0 tv T HG.o.rs);rw [hcl] at HCL;have HFIN:=Hd (show Mf gd (acc++dd) T j 0 res from .inl ⟨HG0.o,rfl,hjT2,HAN2.o HG0.o,HGO1.o hcl⟩);have HIB:=Hd (show i≤j∧j≤T.length+2*K by have:=HIJ.o;have:=HIJ2.o;omega);clear hcl;go_wp2_with fail;refine HCL.o.mono ?_;rintro e wq ⟨rfl,q2,rfl⟩;replace HG:=Hd (HG.o.keep0 ((aB.refl _ _).drewN q2));replace HZ:=Hd (HZ.o.keep ((aB.refl (fun _=>False) _).drewN q2) (fun h=>h))
      replace HA8:=Hd (fun e=>(HA8.o e).keep ((aB.refl (fun _=>False) _).drewN q2) (fun h=>h));obtain⟨wf,hwf⟩:∃wf,wf=(w8.drewN q2):=⟨_,rfl⟩;rw [←hwf];rw [←hwf] at HG HZ HA8;have HK:=Hd HG.o.kp;have HS:=Hd HG.o.rs;by_cases hm:m=0
      ·subst hm;have hf:=jR (w:=wf) (D:=fun b=>Qd Lo B w.heap.size b∧b≠w.heap.size) (us:=[.int .i64 v.k,.bool v.nt,.string v.nm,.slice v.a0 v.n0 v.c0,.slice v.a1 v.n1 v.c1,.slice v.a2 v.n2 v.c2,.slice v.a3 v.n3 v.c3,.slice v.a4 v.n4 v.c4]) HFIN.o (fun g ha=>by
        have hl:=HG.o.mlen g;rw [uB (by omega)];exact⟨ha.one (by omega),(Af (HG.o.reads g) (by omega) (HA8.o rfl)).mono (fun b _ hb=>⟨by rcases hb with h | h;exact .inl h;exact .inr (by omega),by rcases hb with h | h;exact (by have:=HPS.o;have:=HG.o.rs.ps;omega);exact (by omega)⟩)⟩)
       have HF:=Hd hf;obtain⟨n0,n1,n2,n3,n4,n5,n6,n7⟩:=(HA8.o rfl).eight;have hgl:=(HA8.o rfl).1;clear hf hwf;obtain⟨⟨z0,z1,z2,z3,z4,z5,z6,z7⟩,⟨zf0,zf1,zf2,zf3,zf4,zf5,zf6,zf7⟩⟩:=HZ.o.eight;have hzl:=HZ.o.lt;go_wp2_with fail;refine bodyPost_ret (v:=.agg #[.int .i64 v.k,.bool v.nt,.string v.nm,.slice v.a0 v.n0 v.c0,.slice v.a1 v.n1 v.c1,.slice v.a2 v.n2 v.c2,.slice v.a3 v.n3 v.c3,.slice v.a4 v.n4 v.c4]) (by simp [results,Tryz.results63,go_sem,z0,z1,z2,z3,z4,z5,z6,z7]) rfl ?_
       obtain⟨f1,f2,f3⟩:=bS HK.o HS.o HPS.o HF.o (aJ wf w.heap.size (.int .i64 v.k) (.bool v.nt) (.string v.nm) (.slice v.a0 v.n0 v.c0) (.slice v.a1 v.n1 v.c1) (.slice v.a2 v.n2 v.c2) (.slice v.a3 v.n3 v.c3) (.slice v.a4 v.n4 v.c4));exact⟨v,_,_,rfl,HIB.o.1,HIB.o.2,f1,f2,f3⟩
      ·have t1:(((m+1:Nat):Int)==1)=false:=by rw [beq_eq_false_iff_ne];omega
       have hf:=jR (w:=wf) (D:=fun b=>Qd Lo B w.heap.size b∧b≠w.heap.size) (us:=[.int .i64 5,.bool false,.string ⟨#[]⟩,.slice none 0 0,.slice none 0 0,.slice none 0 0,.slice (some ⟨gg,0,none⟩) (m+1) cap,.slice none 0 0]) HFIN.o (fun g ha=>by
        have hl:=HG.o.mlen g;rw [rR (by omega)];have hr:=(HG.o.reads g).mono (D':=fun b=>Qd Lo B w.heap.size b∧b≠w.heap.size) (fun b _ hb=>⟨by rcases hb with h | h;exact .inl h;exact .inr (by omega),by rcases hb with h | h;exact (by have:=HPS.o;have:=HG.o.rs.ps;omega);exact (by omega)⟩);exact⟨⟨_,_,_,_,_,_,_,_,rfl⟩,.int _,.bool _,.str _,.nil _ _ _ (Nat.zero_le _),.nil _ _ _ (Nat.zero_le _),.nil _ _ _ (Nat.zero_le _),hr,.nil _ _ _ (Nat.zero_le _),trivial⟩)
       have HF:=Hd hf;clear hf hwf hm;obtain⟨⟨z0,z1,z2,z3,z4,z5,z6,z7⟩,⟨zf0,zf1,zf2,zf3,zf4,zf5,zf6,zf7⟩⟩:=HZ.o.eight;have hzl:=HZ.o.lt;go_wp2_with fail;refine bodyPost_ret (v:=.agg #[.int .i64 5,.bool false,.string ⟨#[]⟩,.slice none 0 0,.slice none 0 0,.slice none 0 0,.slice (some ⟨gg,0,none⟩) (m+1) cap,.slice none 0 0]) (by simp [results,Tryz.results63,go_sem,z0,z1,z2,z3,z4,z5,z6,z7]) rfl ?_
       obtain⟨f1,f2,f3⟩:=bS HK.o HS.o HPS.o HF.o (aJ wf w.heap.size (.int .i64 5) (.bool false) (.string ⟨#[]⟩) (.slice none 0 0) (.slice none 0 0) (.slice none 0 0) (.slice (some ⟨gg,0,none⟩) (m+1) cap) (.slice none 0 0));exact⟨⟨5,false,⟨#[]⟩,none,0,0,none,0,0,none,0,0,some ⟨gg,0,none⟩,m+1,cap,none,0,0⟩,_,_,rfl,HIB.o.1,HIB.o.2,f1,f2,f3⟩
     | false=>
      have HCL:=Hd (lG w8 Lo B ps n j 0 tv T HG.o.rs);rw [hcl] at HCL;have HLA2:=Hd (HGO2.o hcl);clear hcl;go_wp2_with fail;refine HCL.o.mono ?_;rintro e wq ⟨rfl,q2,rfl⟩;go_wp2_with fail;go_roundg (T.length+2000 - j)
      case measure=>have:=HGK.o;have:=HIJ.o;have:=HIJ2.o;omega
      case rel=>exact⟨j,m+1,_,_,acc++dd,rfl,rfl,by have:=HIJ.o;have:=HIJ2.o;omega,hjT2,by have:=HIJ.o;have:=HIJ2.o;omega,Hd ((HG.o.weak (fun _=>HG0.o)).keep0 ((aB.refl _ _).drewN q2)),Hd (HZ.o.keep ((aB.refl (fun _=>False) _).drewN q2) (fun h=>h)),Hd (HAN2.o HG0.o),HLA2⟩
   ·obtain⟨o1,o2⟩:=not_or.1 hor;rw [Bool.not_eq_true] at o1 o2;have HFIN:=Hd (show Mf gd (acc++dd) T j2 0 res from by
     rcases HST.o with ⟨g,hx,hjT,hr⟩ | ⟨_,h9⟩
     ·exact .inl ⟨g,hx,hjT,HAN2.o g,Lr hr o1 o2⟩
     ·exact .inr h9)
    have HQ:=Hd (a8 HG.o.rs [59] false o1 0);have HQ2:=Hd (fun q=>a8 HG.o.rs [10] false o2 q);clear hor o1 o2 HST;go_wp2_with fail;refine HQ.o.mono ?_;rintro e wq ⟨rfl,q0,rfl⟩;go_wp2_with fail;refine (HQ2.o q0).mono ?_;rintro e wq ⟨rfl,q,rfl⟩;replace HG:=Hd (HG.o.keep0 ((aB.refl _ _).drewN q));replace HZ:=Hd (HZ.o.keep ((aB.refl (fun _=>False) _).drewN q) (fun h=>h));replace HA8:=Hd (fun e=>(HA8.o e).keep ((aB.refl (fun _=>False) _).drewN q) (fun h=>h))
    clear c0 c1 c2 f1 f2 hlt;obtain⟨wf,hwf⟩:∃wf,wf=(w5.drewN q):=⟨_,rfl⟩;rw [←hwf];rw [←hwf] at HG HZ HA8;have HK:=Hd HG.o.kp;have HS:=Hd HG.o.rs;by_cases hm:m=0
    ·subst hm;have hf:=jR (w:=wf) (D:=fun b=>Qd Lo B w.heap.size b∧b≠w.heap.size) (us:=[.int .i64 v.k,.bool v.nt,.string v.nm,.slice v.a0 v.n0 v.c0,.slice v.a1 v.n1 v.c1,.slice v.a2 v.n2 v.c2,.slice v.a3 v.n3 v.c3,.slice v.a4 v.n4 v.c4]) HFIN.o (fun g ha=>by
      have hl:=HG.o.mlen g;rw [uB (by omega)];exact⟨ha.one (by omega),(Af (HG.o.reads g) (by omega) (HA8.o rfl)).mono (fun b _ hb=>⟨by rcases hb with h | h;exact .inl h;exact .inr (by omega),by rcases hb with h | h;exact (by have:=HPS.o;have:=HG.o.rs.ps;omega);exact (by omega)⟩)⟩)
     have HF:=Hd hf;obtain⟨n0,n1,n2,n3,n4,n5,n6,n7⟩:=(HA8.o rfl).eight;have hgl:=(HA8.o rfl).1;clear hf hwf;obtain⟨⟨z0,z1,z2,z3,z4,z5,z6,z7⟩,⟨zf0,zf1,zf2,zf3,zf4,zf5,zf6,zf7⟩⟩:=HZ.o.eight;have hzl:=HZ.o.lt;go_wp2_with fail;refine bodyPost_ret (v:=.agg #[.int .i64 v.k,.bool v.nt,.string v.nm,.slice v.a0 v.n0 v.c0,.slice v.a1 v.n1 v.c1,.slice v.a2 v.n2 v.c2,.slice v.a3 v.n3 v.c3,.slice v.a4 v.n4 v.c4]) (by simp [results,Tryz.results63,go_sem,z0,z1,z2,z3,z4,z5,z6,z7]) rfl ?_
     obtain⟨f1,f2,f3⟩:=bS HK.o HS.o HPS.o HF.o (aJ wf w.heap.size (.int .i64 v.k) (.bool v.nt) (.string v.nm) (.slice v.a0 v.n0 v.c0) (.slice v.a1 v.n1 v.c1) (.slice v.a2 v.n2 v.c2) (.slice v.a3 v.n3 v.c3) (.slice v.a4 v.n4 v.c4));exact⟨v,_,_,rfl,HIB.o.1,HIB.o.2,f1,f2,f3⟩
    ·have t1:(((m+1:Nat):Int)==1)=false:=by rw [beq_eq_false_iff_ne];omega
     have hf:=jR (w:=wf) (D:=fun b=>Qd Lo B w.heap.size b∧b≠w.heap.size) (us:=[.int .i64 5,.bool false,.string ⟨#[]⟩,.slice none 0 0,.slice none 0 0,.slice none 0 0,.slice (some ⟨gg,0,none⟩) (m+1) cap,.slice none 0 0]) HFIN.o (fun g ha=>by
      have hl:=HG.o.mlen g;rw [rR (by omega)];have hr:=(HG.o.reads g).mono (D':=fun b=>Qd Lo B w.heap.size b∧b≠w.heap.size) (fun b _ hb=>⟨by rcases hb with h | h;exact .inl h;exact .inr (by omega),by rcases hb with h | h;exact (by have:=HPS.o;have:=HG.o.rs.ps;omega);exact (by omega)⟩);exact⟨⟨_,_,_,_,_,_,_,_,rfl⟩,.int _,.bool _,.str _,.nil _ _ _ (Nat.zero_le _),.nil _ _ _ (Nat.zero_le _),.nil _ _ _ (Nat.zero_le _),hr,.nil _ _ _ (Nat.zero_le _),trivial⟩)
     have HF:=Hd hf;clear hf hwf hm;obtain⟨⟨z0,z1,z2,z3,z4,z5,z6,z7⟩,⟨zf0,zf1,zf2,zf3,zf4,zf5,zf6,zf7⟩⟩:=HZ.o.eight;have hzl:=HZ.o.lt;go_wp2_with fail;refine bodyPost_ret (v:=.agg #[.int .i64 5,.bool false,.string ⟨#[]⟩,.slice none 0 0,.slice none 0 0,.slice none 0 0,.slice (some ⟨gg,0,none⟩) (m+1) cap,.slice none 0 0]) (by simp [results,Tryz.results63,go_sem,z0,z1,z2,z3,z4,z5,z6,z7]) rfl ?_;obtain⟨f1,f2,f3⟩:=bS HK.o HS.o HPS.o HF.o (aJ wf w.heap.size (.int .i64 5) (.bool false) (.string ⟨#[]⟩) (.slice none 0 0) (.slice none 0 0) (.slice none 0 0) (.slice (some ⟨gg,0,none⟩) (m+1) cap) (.slice none 0 0))
     exact⟨⟨5,false,⟨#[]⟩,none,0,0,none,0,0,none,0,0,some ⟨gg,0,none⟩,m+1,cap,none,0,0⟩,_,_,rfl,HIB.o.1,HIB.o.2,f1,f2,f3⟩
  ·have t:((bd:Int) != 0)=true:=by rw [bne_iff_ne];omega
   have HFIN:=Hd (show Mf gd (acc++dd) T j2 bd res from by
    rcases HST.o with ⟨_,hx,_⟩ | ⟨_,h9⟩
    ·exact absurd hx hy
    ·exact .inr h9)
   clear hy HST;go_upto_region 10 with fail;obtain⟨wf,hwf⟩:∃wf,wf=w5:=⟨_,rfl⟩;rw [←hwf];rw [←hwf] at HG HZ HA8;have HK:=Hd HG.o.kp;have HS:=Hd HG.o.rs;by_cases hm:m=0
   ·subst hm;have hf:=jR (w:=wf) (D:=fun b=>Qd Lo B w.heap.size b∧b≠w.heap.size) (us:=[.int .i64 v.k,.bool v.nt,.string v.nm,.slice v.a0 v.n0 v.c0,.slice v.a1 v.n1 v.c1,.slice v.a2 v.n2 v.c2,.slice v.a3 v.n3 v.c3,.slice v.a4 v.n4 v.c4]) HFIN.o (fun g ha=>by
     have hl:=HG.o.mlen g;rw [uB (by omega)];exact⟨ha.one (by omega),(Af (HG.o.reads g) (by omega) (HA8.o rfl)).mono (fun b _ hb=>⟨by rcases hb with h | h;exact .inl h;exact .inr (by omega),by rcases hb with h | h;exact (by have:=HPS.o;have:=HG.o.rs.ps;omega);exact (by omega)⟩)⟩)
    have HF:=Hd hf;obtain⟨n0,n1,n2,n3,n4,n5,n6,n7⟩:=(HA8.o rfl).eight;have hgl:=(HA8.o rfl).1;clear hf hwf;obtain⟨⟨z0,z1,z2,z3,z4,z5,z6,z7⟩,⟨zf0,zf1,zf2,zf3,zf4,zf5,zf6,zf7⟩⟩:=HZ.o.eight;have hzl:=HZ.o.lt;go_wp2_with fail;refine bodyPost_ret (v:=.agg #[.int .i64 v.k,.bool v.nt,.string v.nm,.slice v.a0 v.n0 v.c0,.slice v.a1 v.n1 v.c1,.slice v.a2 v.n2 v.c2,.slice v.a3 v.n3 v.c3,.slice v.a4 v.n4 v.c4]) (by simp [results,Tryz.results63,go_sem,z0,z1,z2,z3,z4,z5,z6,z7]) rfl ?_
    obtain⟨f1,f2,f3⟩:=bS HK.o HS.o HPS.o HF.o (aJ wf w.heap.size (.int .i64 v.k) (.bool v.nt) (.string v.nm) (.slice v.a0 v.n0 v.c0) (.slice v.a1 v.n1 v.c1) (.slice v.a2 v.n2 v.c2) (.slice v.a3 v.n3 v.c3) (.slice v.a4 v.n4 v.c4));exact⟨v,_,_,rfl,HIB.o.1,HIB.o.2,f1,f2,f3⟩
   ·have t1:(((m+1:Nat):Int)==1)=false:=by rw [beq_eq_false_iff_ne];omega
    have hf:=jR (w:=wf) (D:=fun b=>Qd Lo B w.heap.size b∧b≠w.heap.size) (us:=[.int .i64 5,.bool false,.string ⟨#[]⟩,.slice none 0 0,.slice none 0 0,.slice none 0 0,.slice (some ⟨gg,0,none⟩) (m+1) cap,.slice none 0 0]) HFIN.o (fun g ha=>by
     have hl:=HG.o.mlen g;rw [rR (by omega)];have hr:=(HG.o.reads g).mono (D':=fun b=>Qd Lo B w.heap.size b∧b≠w.heap.size) (fun b _ hb=>⟨by rcases hb with h | h;exact .inl h;exact .inr (by omega),by rcases hb with h | h;exact (by have:=HPS.o;have:=HG.o.rs.ps;omega);exact (by omega)⟩);exact⟨⟨_,_,_,_,_,_,_,_,rfl⟩,.int _,.bool _,.str _,.nil _ _ _ (Nat.zero_le _),.nil _ _ _ (Nat.zero_le _),.nil _ _ _ (Nat.zero_le _),hr,.nil _ _ _ (Nat.zero_le _),trivial⟩)
    have HF:=Hd hf;clear hf hwf hm;obtain⟨⟨z0,z1,z2,z3,z4,z5,z6,z7⟩,⟨zf0,zf1,zf2,zf3,zf4,zf5,zf6,zf7⟩⟩:=HZ.o.eight;have hzl:=HZ.o.lt;go_wp2_with fail;refine bodyPost_ret (v:=.agg #[.int .i64 5,.bool false,.string ⟨#[]⟩,.slice none 0 0,.slice none 0 0,.slice none 0 0,.slice (some ⟨gg,0,none⟩) (m+1) cap,.slice none 0 0]) (by simp [results,Tryz.results63,go_sem,z0,z1,z2,z3,z4,z5,z6,z7]) rfl ?_;obtain⟨f1,f2,f3⟩:=bS HK.o HS.o HPS.o HF.o (aJ wf w.heap.size (.int .i64 5) (.bool false) (.string ⟨#[]⟩) (.slice none 0 0) (.slice none 0 0) (.slice none 0 0) (.slice (some ⟨gg,0,none⟩) (m+1) cap) (.slice none 0 0))
    exact⟨⟨5,false,⟨#[]⟩,none,0,0,none,0,0,none,0,0,some ⟨gg,0,none⟩,m+1,cap,none,0,0⟩,_,_,rfl,HIB.o.1,HIB.o.2,f1,f2,f3⟩
end Go.Proofs.YtiihpbccabeoeaaGreatDoor
