/- The walk: a part. -/
import Derived.WalkKit
import Derived.WalkSpells
import Derived.WalkLawsBesides
import Derived.WalkArith
import Derived.Lib.Strings
import Derived.Lib.Bytealg
import Derived.Lib.IndexLaws
import Derived.Lib.Hide
import Derived.Outline
import Derived.Deep.QuietTactic
import Derived.BigQuiet
import Derived.IntWalk
import Derived.Deep.RegionHeld3
import Derived.Deep.AppendLies
import Derived.Laws.OwnMore
import Derived.OneCell
import Derived.RegionTactic
import Derived.ChangeAlike
import Derived.Lib.IndexBytes
import Derived.Lib.ConvBytes
import Derived.Deep.LoopGhost
import Derived.StillTailTactics
import Derived.Laws.IdiomStrings
import Derived.Deep.CutBlock
import Derived.Defers
import Derived.Recover
import Derived.Laws.Pointers
import Derived.Lib.SliceRun
import Derived.Deep.Upon
import Derived.ProofKit
import Derived.SliceStrings
import Derived.SizedLaws
import Derived.Lib.LaidTab
import Derived.Lib.Fields
import Derived.Lib.SlicesS
import Derived.Lib.IndexMore
import Derived.WalkMore
import Derived.Test.YtiihpbccabeoeaaGreatDoorVShelf
namespace Go.Proofs.YtiihpbccabeoeaaGreatDoor
set_option linter.unusedVariables false
set_option maxRecDepth 100000
set_option maxHeartbeats 16000000
instance:Coe Unit Value:=⟨λ_=>.slice none 0 0⟩
instance:Coe Bool Value:=⟨.bool⟩
instance:Coe ByteArray Value:=⟨.string⟩
instance:Coe Int Value:=⟨.int .i64⟩
instance:Coe Nat Value:=⟨λ n=>.int .i64 n⟩
inductive ES|e
abbrev eS:=ES.e
instance:Coe ES Value:=⟨λ_=>.string ⟨#[]⟩⟩
theorem oM {p:Prop} (h:p:=by omega):p:=h
theorem kR {p:Prop} (h:p:=by kernel_rfl):p:=h
theorem dC {p:Prop} (h:p:=by decide):p:=h
theorem sI {p:Prop} (h:p:=by simp):p:=h
theorem uM {p:Prop} (h:p:=by unfold maxLen;omega):p:=h
theorem oC {p:Prop} (h:p:=by simp [Value.oneCell']):p:=h
theorem rF {p:Prop} (h:p:=by rfl):p:=h
theorem wC {p:Prop} (h:p:=by simp [World.setCell]):p:=h
abbrev nA:=@beq_eq_false_iff_ne
abbrev nB:=@Nat.zero_le
abbrev nC:=@Nat.le_refl
abbrev nD:=@Option.some.inj
abbrev nE:=@if_pos
abbrev nF:=@if_neg
abbrev nG:=@heap_alloc_new
abbrev nH:=@beq_iff_eq
abbrev nI:=@List.length_drop
abbrev nJ:=@bodyPost_ret
abbrev nK:=@World.news_of_block
abbrev nL:=@IntWalk.i64_in
abbrev nM:=@Nat.lt_succ_self
abbrev nN:=@List.getElem_cons_zero
abbrev nO:=@List.eq_nil_of_length_eq_zero
abbrev nP:=@Nat.lt_or_ge
abbrev nQ:=@absurd
abbrev nR:=@wpList_append_lies
abbrev nS:=@wpAnyH_take
abbrev nT:=@Lib.size_eq
abbrev nU:=@decide_eq_true
abbrev nV:=@decide_eq_false
abbrev nW:=@Bool.and_eq_true
abbrev nX:=@Calls.quiet_of_same
abbrev nY:=@Nat.le_trans
abbrev nZ:=@List.cons_append
abbrev uA:=@List.getElem_append_left
abbrev uB:=@List.getElem_append_right
abbrev uC:=@Nat.not_lt_zero
abbrev uD:=@List.getElem_mem
abbrev uE:=@wpAnyH_ready
abbrev uF:=@wp_region_held_drew
abbrev uG:=@Nat.lt_of_lt_of_le
abbrev uH:=@World.cell?_of_block
abbrev uI:=@Except.ok.inj
abbrev uJ:=@Prod.mk.inj
theorem c0x {p:Prop} (h:p:=by
 obtain⟨ds,r⟩:=dr;rw [bo] at hp;obtain⟨vs,⟨rfl,j2,hj2,il,ee,aS⟩,Zd,eJ,eo⟩:=hp;obtain⟨k,b,s,a0,n0,c0,a1,n1,c1,a3,n3,c3,a4,n4,c4,rfl⟩:=GK eJ eo Zd;have gG:=Hd (show res=some (gw ds (bm (av (ab K)) (T.length - j2+1) [] (T.drop j2))) by rw [oD.o,bo,A9,←il,nI]);obtain⟨wr,gU⟩:∃wr,wr=((((((((w2.setCell ⟨N,0,none⟩ (.int .i64 k)).setCell ⟨N,1,none⟩ (.bool b)).setCell ⟨N,2,none⟩ (.string s)).setCell ⟨N,3,none⟩ (.slice a0 n0 c0)).setCell ⟨N,4,none⟩ (.slice a1 n1 c1)).setCell ⟨N,5,none⟩ (.slice none 0 0)).setCell ⟨N,6,none⟩ (.slice a3 n3 c3)).setCell ⟨N,7,none⟩ (.slice a4 n4 c4)):=⟨_,rfl⟩
 have tR:ae (λ b=>b=N) w2 wr:=by rw [gU];exact ap _ _ _ _ _ _ _ _ _ _
 have bp:=ur.o.trans aS k3;have Jq:=ct.o;have i8:=sz.o;have cM:=qk.o;have qA:=cF.o;have OC:=ur.o.size;have hB:=ee.cs;have rQ:=yx.o.keep bp (λ e=>oM);have me:=(eo.keep tR (λ b _ hb e=>oM)).mono (D':=λ b=>X≤b) (λ b _ hb=>oM);obtain⟨⟨z0,z1,z2,z3,z4,z5,z6,z7⟩,y0,y1,y2,y3,y4,y5,y6,y7⟩:=rQ.eight;have fT:=rQ.lt;have On:i≤j2:=oM
 obtain⟨p0,p1,p2,p3,p4,q6,q7,uN,B3,Rr⟩:=Av (w:=w) (N:=N) (X:=X) (Z:=[.int .i64 0,.bool false,.string ⟨#[]⟩,.slice none 0 0,.slice none 0 0,.slice none 0 0,.slice none 0 0,.slice none 0 0]) (ds:=ds) eJ me (ee.keep tR (λ b hb e=>oM) (λ e=>oM)) (((dO.o.mono (λ_ _ h=>h.elim)).trans bp k3).fresh tR (λ b e=>oM)) ((HR.o.keep bp (λ e=>oM)).keep tR (λ e=>oM)) (by rw [gU];exact lo rQ _ _ _ _ _ _ _ _) oM
 have iD:=Hd Rr;have Dq:=Hd uN;have JV:=Hd B3;have rg:=Hd gU;clear bo aS ee Zd eJ eo il tR bp Jq i8 cM qA OC hB rQ me uN B3 Rr gU;go_wp2_with fail;rw [←rg.o];clear rg z0 z1 z2 z3 z4 z5 z6 z7 y0 y1 y2 y3 y4 y5 y6 y7 fT;go_loopg [] (T.length - j2) (λ g wr=>∃(I M m:Nat) (la:OA) (lc:Nat) (acc:List Dt),g=T.length - I∧i≤I∧m≤I∧T.length - I+1≤M∧Hid (GI w wr B cs tv n T d X N [.int .i64 0,false,eS,(),(),(),(),()] [p0,p1,p2,p3,p4] [q6,q7] [k,b,s,.slice a0 n0 c0,.slice a1 n1 c1] [.slice a3 n3 c3,.slice a4 n4 c4] 2 86 I m la lc acc)∧Hid (res=some (gw ds (bm (av (ab K)) M acc (T.drop I)))))
 case atStart=>exact⟨j2,_,0,none,0,[],rfl,oM,nB _,nC _,iD,gG⟩
 case round=>
  obtain⟨I,M,m,la,lc,acc,eH,mI,yj,hM,HG,oG⟩:=hrel;have fK:=Hd eH;have p8:=HG.o.rs.i;have vO:=HG.o.rs.sm.1;obtain⟨M,rfl⟩:∃M',M=M'+1:=⟨M - 1,oM⟩;clear eH iD gG;cases hq:bP (T.drop I) with
  | true=>
   have lZ:=Hd (mB hq);have gh:=Hd (show res=some (gw ds (match dN (av (ab K)) (T.drop I) with
    | .error e=>.error e
    | .ok (d,r)=>bm (av (ab K)) M (acc++d) r)) by rw [oG.o,iC,hq,nE rfl];all_goals rfl)
   have HQ:=Hd hq;clear hq oG;go_wp2_with fail;refine (cT _ B cs n I d tv T true HG.o.rs HQ.o).mono ?_;rintro e Gj ⟨rfl,hk⟩;have fM:=Hd (HG.o.keep0 hk);clear hk HG;go_wp2_with fail;have sB:=ct.o.1;have pR:=Hd (show X≤Gj.heap.size by have h1:=fM.o.rc.lt;have h2:=mG.o;omega);obtain⟨⟨x0,x1,x2,x3,x4,x5,x6,x7⟩,⟨f8,gf,hC,hU,hV,hY,hZ,ia⟩⟩:=(show af Gj N [k,b,s,.slice a0 n0 c0,.slice a1 n1 c1,.slice la m lc,.slice a3 n3 c3,.slice a4 n4 c4] from fM.o.rc).eight
   have fR:=fM.o.rc.lt;cases bo:dN (av (ab K)) (T.drop I) with
   | error y=>
    have bO:=Hd (show res=some (.error y) by rw [gh.o,bo];rfl);have kS:=Hd bo;clear bo;go_wp2_with fail;refine uF (S:=(λ w'=>af w' N [k,b,s,.slice a0 n0 c0,.slice a1 n1 c1,.slice la m lc,.slice a3 n3 c3,.slice a4 n4 c4])) kR (fM.o.rc.keep (S:=λ_=>False) (ae.refl _ _).drew (λ h=>h)) (λ dJ=>?_);exact c3x
   | ok dr=>
    obtain⟨d2,r2⟩:=dr;have bO:=Hd (show res=some (gw ds (bm (av (ab K)) M (acc++d2) r2)) by rw [gh.o,bo]);have kS:=Hd bo;clear bo;have dv:=Hd (show ∀e w4,mL Gj.drew B cs tv n T I d GA (.ok (d2,r2)) e w4→∃(j4:Nat) (sv:ByteArray) (a5:OA) (m5 c5:Nat) (xs:List Value),e=.returned (.agg #[sv,.slice a5 m5 c5])∧(I≤j4∧j4≤T.length∧T.drop j4=r2∧True)∧w4.ownsRow 0 86 2 (.slice la m lc) m xs∧af w4 N [k,b,s,.slice a0 n0 c0,.slice a1 n1 c1,.slice la m lc,.slice a3 n3 c3,.slice a4 n4 c4]∧
     (∀(gg aC:Nat) (w5:World) (o:Obj),w5.ownsRow 0 86 2 (.slice (some ⟨gg,0,none⟩) (m+1) aC) (m+1) (xs++[.string sv,.slice a5 m5 c5])→(w4.alloc o).grownBy w5 (Value.slice la m lc).ownBlock→((Value.slice la m lc).ownBlock=some gg∨gg=w4.heap.size+1)→
      af w5 N [k,b,s,.slice a0 n0 c0,.slice a1 n1 c1,.slice la m lc,.slice a3 n3 c3,.slice a4 n4 c4]∧GI w (w5.setCell ⟨N,5,none⟩ (.slice (some ⟨gg,0,none⟩) (m+1) aC)) B cs tv n T d X N [.int .i64 0,false,eS,(),(),(),(),()] [p0,p1,p2,p3,p4] [q6,q7] [k,b,s,.slice a0 n0 c0,.slice a1 n1 c1] [.slice a3 n3 c3,.slice a4 n4 c4] 2 86 j4 (m+1) (some ⟨gg,0,none⟩) aC (acc++d2)) from λ e w4 hp=>by
     obtain⟨vs,⟨he,j4,kB,iY,cG,be⟩,⟨sv,a5,m5,c5,rfl⟩,f7⟩:=hp;obtain⟨xs,ho,cQ,hF⟩:=fM.o.more cF.o ct.o.1 ct.o.2 pR.o ((ae.refl (λ b=>b=cs) Gj).drew.trans be k3) cG f7;exact⟨j4,sv,a5,m5,c5,xs,he,⟨kB,cG.i,iY,trivial⟩,ho,cQ,hF⟩)
    go_wp2_with fail;go_region_law (first
     | (
      refine step_append_lies _ rF _ _ _ rF 0 86 i0 _ 2 40 Tryz.underlying41 fo fC fp fq rfl oM (.slice la m lc) m xs rF (hown4.alloc _)
       ⟨w4.heap.size,0,none⟩ 1 1 [sv,.slice a5 m5 c5] rF rF (nK (cs:=#[.string sv,.slice a5 m5 c5]) (t:=86) (fr:=(0,0)) (nG w4 _)) oC
       oM uM oM sI (w4.heap.size+1) sI ?_;intro gg aC w5 aK ao bf gT
      obtain⟨aH,gA⟩:=HF.o gg aC w5 _ aK ao bf;obtain⟨⟨z0,z1,z2,z3,z4,z5,z6,z7⟩,⟨gO,gP,ib,ic,ie,ig,ii,ij⟩⟩:=af.eight aH;have qy:=aH.lt;have fc:=Hd gA;clear aH gA aK ao bf)
     | (go_simp;go_at_call 197;refine (mA K cK.o _ B cs n I d tv T (fM.o.rs.keep0 (ae.refl _ _).drew) HD.o lZ.o).mono ?_;rw [kS.o];intro e w4 hp;obtain⟨j4,sv,a5,m5,c5,xs,he,mc,hown4,aL,hF⟩:=dv.o e w4 hp;subst he;obtain⟨⟨y0,y1,y2,y3,y4,y5,y6,y7⟩,⟨JC,JD,MW,MX,MY,MZ,M0,M1⟩⟩:=af.eight aL;have Jc:=aL.lt;have HF:=Hd hF;have kJ:=Hd mc;clear hp hF mc aL))
    all_goals
     obtain⟨w3,kh⟩:∃w3,w3=w5.setCell ⟨N,5,none⟩ (.slice (some ⟨gg,0,none⟩) (m+1) aC):=⟨_,rfl⟩;rw [←kh] at fc;rw [←kh];have qn:=Hd (show res=some (gw ds (bm (av (ab K)) M (acc++d2) (T.drop j4))) by rw [bO.o,kJ.o.2.2.1]);exact SW
  | false=>
   have bO:=Hd (show res=some (.ok (ds.set 5 (.sl 2 acc),T.drop I)) by rw [oG.o,iC,hq];rfl);have HQ:=Hd hq;clear hq oG;go_wp2_with fail;refine (cT _ B cs n I d tv T false HG.o.rs HQ.o).mono ?_;rintro e wy ⟨rfl,hk⟩;have rr:=Hd (HG.o.keep0 hk);clear hk HG;have cQ:=(show af wy N [k,b,s,.slice a0 n0 c0,.slice a1 n1 c1,.slice la m lc,.slice a3 n3 c3,.slice a4 n4 c4] from rr.o.rc)
   obtain⟨⟨v0,v1,v2,v3,v4,v5,v6,v7⟩,_⟩:=cQ.eight;have oW:=cQ.lt;have eV:=Hd rr.o.zr;have bZ:=Hd rr.o.kp;have eF:=Hd rr.o.rs;have eW:=Hd (show bV wy (λ b=>X≤b) (ds.set 5 (.sl 2 acc)) [k,b,s,.slice a0 n0 c0,.slice a1 n1 c1,.slice la m lc,.slice a3 n3 c3,.slice a4 n4 c4] by rw [Dq.o];exact rr.o.all);have lY:=Hd (JV.o acc);clear cQ;obtain⟨⟨z0,z1,z2,z3,z4,z5,z6,z7⟩,y0,y1,y2,y3,y4,y5,y6,y7⟩:=eV.o.eight
   have fT:=eV.o.lt;go_wp2_with fail;refine nJ (v:=.tuple #[.agg #[k,b,s,.slice a0 n0 c0,.slice a1 n1 c1,.slice la m lc,.slice a3 n3 c3,.slice a4 n4 c4],true]) (by simp [results,Tryz.results175,go_sem,z0,z1,z2,z3,z4,z5,z6,z7]) rfl ?_;obtain⟨f1,f2,f3⟩:=eK bZ.o eF.o ct.o.1 cF.o eW.o (ap wy w.heap.size (.int .i64 k) (.bool b) (.string s) (.slice a0 n0 c0) (.slice a1 n1 c1) (.slice la m lc) (.slice a3 n3 c3) (.slice a4 n4 c4))
   rw [bO.o];exact⟨[k,b,s,.slice a0 n0 c0,.slice a1 n1 c1,.slice la m lc,.slice a3 n3 c3,.slice a4 n4 c4],⟨rfl,_,mI,rfl,f1,f2⟩,lY.o,f3⟩):p:=h
theorem c1x {p:Prop} (h:p:=by
 obtain⟨n,T,tQ,rfl,rfl,hn,gB,HD⟩:=hrel;have Bq:=Hd tQ;have H3:=Hd gB;obtain⟨d0,d1,d2,g1,g2⟩:=gB.sc.cells;clear tQ gB;rcases HD.o with ⟨hT,US⟩ | ⟨hT,kZ⟩
 ·have HNO:=Hd US;have HTE:=Hd hT;obtain⟨u1,u2⟩:=eN hT;by_cases AH:n<13
  ·have p1:(n:Int)<13:=oM
   have eB:wr.cell? ⟨ob,n,none⟩=some (dj (lm.getD n [])):=by
    rw [cell_of_row wr ob n _ _ _ H3.o.ops];exact O4 n AH
   obtain⟨qB,sC⟩:=MA n AH;unfold dj at eB;obtain⟨R,hR⟩:∃R,R=s.extract I s.size:=⟨_,rfl⟩;have FK:R.data.toList=rest s I:=by rw [hR,Lib.extract_to_end];rfl
   have su:=Hd hR;have gG:=Hd FK;have hRz:(s.extract I s.size).size≤s.size:=by rw [ByteArray.size_extract];omega
   have Pi:=Hd (λ q=>H3.o.drewN q yg B0);clear hR FK US hT HD;cases e9:aI (lm.getD n []) (rest s I)
   ·have HS:=Hd e9;have Sj:=Hd (oT HNO.o e9);clear e9;generalize lm.getD n []=t at eB HS qB sC;obtain⟨Q,hQ⟩:∃Q:ByteArray,Q=⟨t.toArray⟩:=⟨_,rfl⟩;have kQ:=Hd (show aI Q.data.toList (s.extract I s.size).data.toList=false by rw [←su.o,gG.o,hQ];exact HS.o);rw [←hQ] at eB;clear hQ;go_wp2_with fail;go_quiet ((go_at_call 61;exact nX ((mR _ _ _ oM).mono (λ e w' hh=>by rw [kQ.o] at hh;exact hh))))
    go_wp2_with fail;go_roundg (15 - (n+1))
    case measure=>have:=Bq.o;omega
    case rel=>exact⟨n+1,T,rfl,by go_num,rfl,oM,Pi.o _,Hd (.inl ⟨HTE.o,Sj.o⟩)⟩
   ·have HF:=Hd ((zq _).symm.trans (oQ HNO.o (show n<lm.length from AH) e9));have HS:=Hd e9;clear e9;generalize lm.getD n []=t at eB HS qB sC HF;obtain⟨Q,hQ⟩:∃Q:ByteArray,Q=⟨t.toArray⟩:=⟨_,rfl⟩;have kQ:=Hd (show aI Q.data.toList (s.extract I s.size).data.toList=true by rw [←su.o,gG.o,hQ];exact HS.o);have HQT:=Hd (show Q.data.toList=t by rw [hQ]);rw [←hQ] at eB
    clear hQ;go_wp2_with fail;go_quiet ((go_at_call 61;exact nX ((mR _ _ _ oM).mono (λ e w' hh=>by rw [kQ.o] at hh;exact hh))));have hcell2:(wr.drewN nq).cell? ⟨ob,n,none⟩=some (.string Q):=eB;go_wp2_with fail;go_roundg (15 - (n+1))
    case measure=>have:=Bq.o;omega
    case rel=>exact⟨n+1,Q,rfl,by go_num,rfl,oM,Pi.o _,Hd (.inr ⟨by rw [HQT.o];intro h;rw [h] at sC;exact nQ sC dC,by rw [HQT.o,HF.o]⟩)⟩
  ·obtain rfl:n=13:=oM
   have HF:=Hd ((zq (rest s I)).symm.trans (mW (l:=lm) HNO.o));have H38:=Hd (show aP 38 (rest s I)=(c==38) by rw [pp.o];rfl);clear US hT HD;by_cases Gg:c=38
   ·have f38:((c.toNat:Int)==38)=true:=aE (c:=c) (k:=38) Gg;have NH:=Hd (show res=.error 2 by
     have h1:=io (rest s I);rw [J3.o,pp.o] at h1;rw [HR.o,pp.o,h1];dsimp only;unfold ed;rw [←pp.o,HF.o,nE rF,H38.o,Gg];rfl)
    clear Gg;go_wp2_with fail;go_ret2;exact Ga H3.o.kp dO.o Be.o ZK.o dC NH.o
   ·have f38:((c.toNat:Int)==38)=false:=aw (c:=c) (k:=38) Gg;obtain⟨wd,LV⟩:∃wd,wd=kv false (rest s I):=⟨_,rfl⟩;have YJ:=Hd LV.symm;have HN:=Hd (show res=MQ l wd by
     have h1:=io (rest s I);rw [J3.o,pp.o] at h1;rw [HR.o,pp.o,h1];dsimp only;rw [←pp.o,ph HF.o (by rw [H38.o];exact nA.2 Gg),←LV];cases wd with
     | error e=>rfl
     | ok z=>exact qs _ _ _)
    have Uv:=Hd (show ∀p r1,wd=.ok (p,r1)→r1.length<s.size - I from λ p r1 h=>by
     rw [LV,pp.o,jx] at h;have hb:=yI c (rest s (I+1)) (by rw [←pp.o];exact HF.o) Gg TB.out;rw [hb] at h;simp only [Bool.not_false,Bool.and_false,Bool.false_eq_true,if_false] at h;cases h2:d7 (.one false) 0 (c::rest s (I+1)) with
     | error e=>rw [h2] at h;cases h
     | ok z=>
      obtain⟨l2,r2⟩:=z;rw [h2] at h;dsimp only at h;have h4:=cS _ _ _ _ _ _ h2;obtain⟨m',h5,_⟩:=gY h;have h6:=tp _ _ _ _ _ h5;simp only [Md.least,lC,aO] at h4;omega)
    clear Gg LV;have fi:=IE cs s I false wr H3.o.sc oM hs (by have:=H3.o.size;omega);rw [YJ.o] at fi;have dv:=Hd fi;clear fi d0 d1 d2 g1 g2;go_wp2_with fail;refine dv.o.mono ?_;intro e w6 hp;cases wd with
    | error x=>
     obtain⟨Hn,v,nn,i',l',rfl,ri,eY,iH,hk⟩:=hp;obtain⟨xa,xc,rfl,_,_⟩:=iH.shape;have b0:((x:Int) != 0)=true:=by rw [bne_iff_ne];omega
     obtain⟨d0,d1,d2,g1,g2⟩:=eY.cells;have st:=Hd (H3.o.kp.trans hk (λ_ _ e=>.inl e));have HX0:=Hd Hn;clear iH eY hk;go_wp2_with fail;go_quiet (fail);go_wp2_with fail;go_ret2;exact Ga (st.o.drewN _) dO.o Be.o ZK.o HX0.o HN.o
    | ok z=>
     obtain⟨p,r1⟩:=z;obtain⟨v,nn,i',rfl,ri,hri,eY,iH,hk⟩:=hp;obtain⟨xa,xc,rfl,_,_⟩:=iH.shape;have UO:=Uv.o p r1 rfl;rw [←hri,aO] at UO;obtain⟨d0,d1,d2,g1,g2⟩:=eY.cells;have hIi:I<i':=oM
     obtain⟨rT,xs,aU,hF⟩:=H3.o.more (x:=⟨1,[],eh p⟩) hk eY yg B0 hoH iH;have Ns:=Hd (show res=i6 (l++[⟨1,[],eh p⟩]) (fZ (rest s i')) by rw [HN.o,hri];rfl);have HF:=Hd hF;have HI:=Hd ri;obtain⟨xn,Jq⟩:∃xn,xn=(eh p).length:=⟨_,rfl⟩;have e0:dj ([]:List UInt8)=.string ⟨#[]⟩:=rfl;unfold kj at HF;dsimp only at HF;rw [←Jq,e0] at HF;rw [←Jq];have HIi:=Hd hIi;have RJ:vn≤20000:=oM
     clear iH eY hk hF hri UO ri Jq hIi e0 rT;go_wp2_with (at_builtin;refine nR _ rfl (.tmp 128) (.tmp 131) _ rfl 0 109 i0 _ 3 48 Tryz.underlying76 fo fC fp fq rfl oM (.slice va vn vc) vn xs rfl (aU.alloc _) ⟨w6.heap.size,0,none⟩ 1 1 [.int .i64 1,eS,.slice xa xn xc] rfl rfl (nK (cs:=#[.int .i64 1,.string ⟨#[]⟩,.slice xa xn xc]) (t:=109) (fr:=(0,0)) (nG w6 _)) oC oM uM oM sI (w6.heap.size+1) sI ?_;intro gg aC w7 hown6 hgrow6 hat6 hlt6;have HM2:=Hd (HF.o gg aC w7 _ hown6 hgrow6 hat6))
     go_roundg (s.size+2 - i')
     case measure=>have:=xS.o;have:=HIi.o;have:=HI.o;omega
     case rel=>exact⟨i',_,rfl,HI.o,by rw [lA];have:=HIi.o;show l.length+1≤i';omega,HM2.o,Ns⟩
 ·have kt:=Hd kZ;obtain⟨u1,u2⟩:=fd hT;have sy:=Hd (show 0<T.size by rw [nT];exact List.length_pos_iff.2 hT);have hTz:I+T.size≤s.size:=by
   have h1:=wM (rest s I);rw [←kZ,←nT,aO] at h1;omega
  have HN:=Hd (show res=i6 (l++[⟨2,T.data.toList,[]⟩]) (fZ (rest s (I+T.size))) by
   have h1:=io (rest s I);rw [J3.o,pp.o] at h1;rw [HR.o,pp.o,h1];dsimp only;rw [←pp.o,pO (by rw [←kZ];exact hT),←kZ,←nT,b8];exact qs _ _ _)
  obtain⟨rT,xs,aU,hF⟩:=H3.o.more (ae.refl _ _) H3.o.sc yg B0 hoH (x:=⟨2,T.data.toList,[]⟩) (n:=0) (az.nil wr _ 0);have RJ:vn≤20000:=oM
  have e0:dj T.data.toList=.string T:=jH rfl;have HF:=Hd hF;unfold kj at HF;dsimp only at HF;rw [e0] at HF;have HTZ:=Hd hTz;clear hF e0 kZ hT HD d0 d1 d2 g1 g2 rT;rcases nP n 13 with h13 | h13
  ·have p13:(n:Int)<13:=oM
   exact QT
  ·have p13:¬(n:Int)<13:=oM
   exact QT):p:=h
theorem c2x {p:Prop} (h:p:=by
 rw [←qF];rw [←qF] at HG HZ IZ;have HK:=Hd HG.o.kp;have HS:=Hd HG.o.rs;by_cases hm:m=0
 ·subst hm;have hf:=Cg (w:=wf) (D:=λ b=>Qd Lo B w.heap.size b∧b≠w.heap.size) (us:=[.int .i64 v.k,.bool v.nt,.string v.nm,.slice v.a0 v.n0 v.c0,.slice v.a1 v.n1 v.c1,.slice v.a2 v.n2 v.c2,.slice v.a3 v.n3 v.c3,.slice v.a4 v.n4 v.c4]) gR.o (λ g ha=>by
   have hl:=HG.o.mlen g;rw [O6 oM];exact⟨ha.one oM,(T1 (HG.o.reads g) oM (IZ.o rfl)).mono (λ b _ hb=>⟨by rcases hb with h | h;exact .inl h;exact .inr oM,by rcases hb with h | h;exact (by have:=bA.o;have:=HG.o.rs.ps;omega);exact oM⟩)⟩)
  have HF:=Hd hf;obtain⟨n0,n1,n2,n3,n4,n5,n6,n7⟩:=(IZ.o rfl).eight;have Xx:=(IZ.o rfl).1;clear hf qF;obtain⟨⟨z0,z1,z2,z3,z4,z5,z6,z7⟩,⟨gO,gP,ib,ic,ie,ig,ii,ij⟩⟩:=HZ.o.eight;have fT:=HZ.o.lt;go_wp2_with fail;refine nJ (v:=.agg #[v.k,v.nt,v.nm,.slice v.a0 v.n0 v.c0,.slice v.a1 v.n1 v.c1,.slice v.a2 v.n2 v.c2,.slice v.a3 v.n3 v.c3,.slice v.a4 v.n4 v.c4]) (by simp [results,Tryz.results63,go_sem,z0,z1,z2,z3,z4,z5,z6,z7]) rfl ?_
  obtain⟨f1,f2,f3⟩:=cI HK.o HS.o bA.o HF.o (ap wf w.heap.size (.int .i64 v.k) (.bool v.nt) (.string v.nm) (.slice v.a0 v.n0 v.c0) (.slice v.a1 v.n1 v.c1) (.slice v.a2 v.n2 v.c2) (.slice v.a3 v.n3 v.c3) (.slice v.a4 v.n4 v.c4));exact⟨v,_,_,rfl,fv.o.1,fv.o.2,f1,f2,f3⟩
 ·have t1:(((m+1:Nat):Int)==1)=false:=by rw [nA];omega
  have hf:=Cg (w:=wf) (D:=λ b=>Qd Lo B w.heap.size b∧b≠w.heap.size) (us:=[.int .i64 5,.bool false,.string ⟨#[]⟩,.slice none 0 0,.slice none 0 0,.slice none 0 0,.slice (some ⟨gg,0,none⟩) (m+1) aC,.slice none 0 0]) gR.o (λ g ha=>by
   have hl:=HG.o.mlen g;rw [ME oM];have hr:=(HG.o.reads g).mono (D':=λ b=>Qd Lo B w.heap.size b∧b≠w.heap.size) (λ b _ hb=>⟨by rcases hb with h | h;exact .inl h;exact .inr oM,by rcases hb with h | h;exact (by have:=bA.o;have:=HG.o.rs.ps;omega);exact oM⟩);exact⟨⟨_,_,_,_,_,_,_,_,rfl⟩,.int _,.bool _,.str _,.nil _ _ _ (nB _),.nil _ _ _ (nB _),.nil _ _ _ (nB _),hr,.nil _ _ _ (nB _),trivial⟩)
  have HF:=Hd hf;clear hf qF hm;obtain⟨⟨z0,z1,z2,z3,z4,z5,z6,z7⟩,⟨gO,gP,ib,ic,ie,ig,ii,ij⟩⟩:=HZ.o.eight;have fT:=HZ.o.lt;go_wp2_with fail;refine nJ (v:=.agg #[.int .i64 5,false,eS,(),(),(),.slice (some ⟨gg,0,none⟩) (m+1) aC,()]) (by simp [results,Tryz.results63,go_sem,z0,z1,z2,z3,z4,z5,z6,z7]) rfl ?_;obtain⟨f1,f2,f3⟩:=cI HK.o HS.o bA.o HF.o (ap wf w.heap.size (.int .i64 5) (.bool false) (.string ⟨#[]⟩) (.slice none 0 0) (.slice none 0 0) (.slice none 0 0) (.slice (some ⟨gg,0,none⟩) (m+1) aC) (.slice none 0 0))
  exact⟨⟨5,false,⟨#[]⟩,none,0,0,none,0,0,none,0,0,some ⟨gg,0,none⟩,m+1,aC,none,0,0⟩,_,_,rfl,fv.o.1,fv.o.2,f1,f2,f3⟩):p:=h
theorem c3x {p:Prop} (h:p:=by
 refine nS (i:=0) (v:=.pointer (some ⟨N,5,none⟩)) rfl kR kR kR (λ_ _ _ h=>h) (Or.inl ⟨rF,?_⟩) dJ ?_
 ·(intro ww jP;have ⟨⟨g0,g1,g2,g3,g4,g5,g6,g7⟩,_⟩:=af.eight jP;go_simp;all_goals (first | done | with_reducible rfl))
 refine nS (i:=1) (v:=.slice la m lc) rfl kR kR kR (λ_ _ _ h=>h) (Or.inl ⟨rF,?_⟩) dJ ?_
 ·(intro ww jP;have ⟨⟨g0,g1,g2,g3,g4,g5,g6,g7⟩,_⟩:=af.eight jP;go_simp;all_goals (first | done | with_reducible rfl))
 exact Rc):p:=h
theorem c4x {p:Prop} (h:p:=by
 obtain⟨T,hT⟩:∃T,T=s.extract (J - 1) J:=⟨_,rfl⟩;have sy:=Hd (show T.data.toList=[x] by
  rw [hT,Lib.extract_data];have h1:s.data.toList.drop (J - 1)=rest s (J - 1):=rfl;rw [h1,ak oM,show J - (J - 1)=1 by omega];rw [show J - 1=I+1 by omega,HX.o];rfl)
 have Gw:=Hd hT;have HJ:=Hd hJ;clear jk hT dV bi hJ;go_wp2_with fail;rw [←uP.o];obtain⟨d0,d1,d2,g1,g2⟩:=l6.o.cells;have p1:((J:Int) - 1).toNat=J - 1:=oM
 have p2:(0:Int)≤(J:Int) - 1:=oM
 have p2':(1:Int)≤(J:Int):=oM
 have p3:(J:Int) - 1≤(J:Int):=oM
 have p4:(J:Int)≤(s.size:Int):=oM
 have ew:IntKind.i64.wrap ((J:Int) - 1)=(J:Int) - 1:=nL _ oM;go_still_tail 16,kR;change wpList _ _ _ _ _ w5.drew;obtain⟨w6,im⟩:∃w6,w6=w5.drew:=⟨_,rfl⟩;rw [←im];have lM:ah w6 cs s J ((0:Nat):Int):=by rw [im];exact l6.o.keep (S:=λ_=>False) (ae.refl _ _).drew (λ h=>h)
 have st:=Hd (show ae (λ b=>b=cs) w w6 by rw [im];exact fL.o.drew);have Nh:=l5.o.keep st.o (λ_ _ e=>oM);have ji:=iX B 2 (s.extract (J - 1) J) _ raw w6 Nh (nY hB st.o.size) (by have:=re.o;omega) (.inl rfl);have mn:=Hd ji;have xW:=Hd lM;clear Nh ji im lM;go_wp2_with fail;refine mn.o.mono ?_;rintro e w7 ⟨v7,rfl,cv,eP⟩;obtain⟨a7,n7,c7,rfl⟩:∃a n c,v7=.slice a n c:=by obtain⟨a,c,e,_⟩:=cv.shape;exact⟨a,_,c,e⟩
 have HROW7:=Hd cv;have HKEEP:=Hd eP;clear cv eP;go_wp2_with fail;go_ret;have lE:=sy.o;rw [Gw.o] at lE;have cv:=HROW7.o;rw [lE] at cv;rw [Bu.o];have hJ:=HJ.o;subst hJ;exact⟨_,I+2,rfl,oM,rfl,xW.o.keep HKEEP.o (λ e=>oM),cv,by rw [bv];show er raw+(1+1+0)≤_;omega,(st.o.mono λ_ _ e=>.inl e).trans HKEEP.o (λ_ _ e=>.inr e)⟩):p:=h
theorem c5x {p:Prop} (h:p:=by
 have sy:=Hd lE;clear pV oU lE;go_wp2_with fail;refine (rD K HC.o wl B cs n jl d tv T Br.o.rs HD.o).mono ?_;intro e w4 hp;rw [sy.o] at hp;have od:=Ut.o;unfold lK at od;cases bo:cL (ab K) (ai (T.drop (I+1))) with
 | error y=>
  exact Re
 | ok dr=>
  obtain⟨dd,r⟩:=dr;rw [bo] at hp od;obtain⟨vs,⟨rfl,j4,kB,iY,cG,be⟩,_,eJ,eo⟩:=hp;obtain⟨k,b,s,a0,n0,c0,a1,n1,c1,a2,n2,c2,a3,n3,c3,a4,n4,c4,rfl⟩:=cC eJ eo;have bO:=Hd (show res=.ok (cE 9 false nm acc [] [] dd [],r) from od);have tL:=Br.o.move cF.o ct.o.1 ct.o.2 be cG;have Bx:=Hd iY;have aL:=(show af w4 N [.int .i64 9,false,.string ⟨nm.toArray⟩,.slice la m lc,(),(),(),()] from tL.rc)
  obtain⟨⟨x0,x1,x2,x3,x4,x5,x6,x7⟩,f8,gf,hC,hU,hV,hY,hZ,ia⟩:=aL.eight;have fR:=aL.lt;obtain⟨W5,ou⟩:∃W5,W5=w4.setCell ⟨N,6,none⟩ (.slice (some ⟨w4.heap.size,0,none⟩) 1 1):=⟨_,rfl⟩;have bi:ae (λ b=>b=N) w4 W5:=by rw [ou];exact (ae.refl _ _).setCell _ _ λ_=>rfl
  have sG:W5.heap.size=w4.heap.size:=by rw [ou];simp
  have BZ:af W5 N [.int .i64 9,false,.string ⟨nm.toArray⟩,.slice la m lc,(),(),.slice (some ⟨w4.heap.size,0,none⟩) 1 1,()]:=by rw [ou];exact aL.set 6 _
  obtain⟨W6,i4⟩:∃W6,W6=W5.alloc (.cells #[k,b,s,.slice a0 n0 c0,.slice a1 n1 c1,.slice a2 n2 c2,.slice a3 n3 c3,.slice a4 n4 c4] 44):=⟨_,rfl⟩;have cu:K0 W5 W6:=by rw [i4];exact (ae.refl _ _).alloc _
  have Jq:=ct.o;have Xl:X≤w4.heap.size:=by have h1:=mG.o;have h2:=tL.zr.lt;omega
  have Hb:X≤wl.heap.size:=by have h1:=mG.o;have h2:=Br.o.zr.lt;omega
  have FO:bV w4 (λ b=>X≤b∧b≠N) dd [k,b,s,.slice a0 n0 c0,.slice a1 n1 c1,.slice a2 n2 c2,.slice a3 n3 c3,.slice a4 n4 c4]:=eo.mono λ b _ hb=>by
   have h1:=Br.o.rc.lt;have h2:wl.heap.size≤b:=hb;exact vx
  have cv:=fk (k:=8) (m:=1) (Ty:=44) (FO.keep bi (λ b _ hb e=>hb.2 e)) (by have h1:=eJ.len;omega) dC i4 ⟨oM,oM⟩;rw [sG] at cv;have yf:=(tL.all2.keep bi (λ b _ hb e=>hb.2 e)).keep cu (λ_ _ _ h=>h);have eW:=Hd (show bV W6 (λ b=>X≤b) (cE 9 false nm acc [] [] dd []) [.int .i64 9,false,.string ⟨nm.toArray⟩,.slice la m lc,(),(),.slice (some ⟨w4.heap.size,0,none⟩) 1 1,()] from by
   obtain⟨a0,a1,a2,a3,a4,a5,_,a7,_⟩:=yf;exact bV.mono (λ b _ hb=>hb.1) (D:=λ b=>X≤b∧b≠N) ⟨a0,a1,a2,a3,a4,a5,cv,a7,trivial⟩)
  have bp:=(tL.kp.fresh bi (λ b e=>oM)).trans cu (λ_ _ h=>h.elim);have bZ:=Hd bp;have eF:=Hd ((tL.rs.keep bi (λ b hb e=>by have h1:=tL.rs.cs;have h2:=cF.o;omega) (λ e=>by have h2:=cF.o;omega)).keep0 cu);have eV:=Hd ((tL.zr.keep bi (λ e=>oM)).keep cu (λ h=>h));obtain⟨⟨q0,q1,q2,q3,q4,q5,q6,q7⟩,_⟩:=(BZ.keep cu (λ h=>h)).eight;have XR:=(BZ.keep cu (λ h=>h)).lt
  have uQ:=Hd ct.o.1;have lY:=Hd (show jA (cE 9 false nm acc [] [] dd []) from⟨_,_,_,_,_,_,_,_,rfl⟩);have uP:=Hd ou;have Nb:=Hd i4;clear bo od cG be eJ eo iY tL aL ou bi sG BZ i4 cu FO cv yf bp;go_upto_region 14 with fail;rw [←uP.o,←Nb.o];obtain⟨⟨z0,z1,z2,z3,z4,z5,z6,z7⟩,y0,y1,y2,y3,y4,y5,y6,y7⟩:=eV.o.eight;have fT:=eV.o.lt;go_wp2_with fail;refine nJ (v:=.agg #[.int .i64 9,false,.string ⟨nm.toArray⟩,.slice la m lc,(),(),.slice (some ⟨w4.heap.size,0,none⟩) 1 1,()]) (by simp [results,Tryz.results192,go_sem,z0,z1,z2,z3,z4,z5,z6,z7]) rfl ?_
  obtain⟨f1,f2,f3⟩:=eK bZ.o eF.o uQ.o cF.o eW.o (ap W6 w.heap.size (.int .i64 9) (.bool false) (.string ⟨nm.toArray⟩) (.slice la m lc) (.slice none 0 0) (.slice none 0 0) (.slice (some ⟨w4.heap.size,0,none⟩) 1 1) (.slice none 0 0));rw [bO.o];exact⟨[.int .i64 9,false,.string ⟨nm.toArray⟩,.slice la m lc,(),(),.slice (some ⟨w4.heap.size,0,none⟩) 1 1,()],⟨rfl,_,oM,Bx.o,f1,f2⟩,rfl,lY.o,f3⟩):p:=h
theorem YO {p:Prop} (h:p:=by
 go_enter Tryz.func186,Tryz.ntmps186;go_wp2_with fail;obtain⟨W,hW⟩:∃W,W=w.alloc (.cells #[eS,()] 84):=⟨_,rfl⟩;have dt:K0 w W:=by rw [hW];exact (ae.refl _ _).alloc _
 have HZ:=Hd (show af W w.heap.size [eS,()] by rw [hW];exact⟨_,nG w _⟩);rw [←hW];have mF:=Hd dt;have q1W:=(uH (a:=⟨g,o+1,none⟩) (dt.block g hg (λ h=>h))).trans Yk;have hgW:=uG hg dt.size;have hWw:=HZ.o.lt;clear dt hW;refine (HN.o W 0).mono ?_;rintro e w1 ⟨rfl,dq,rfl⟩;obtain⟨w2,aQ⟩:∃w2,w2=W.drewN dq:=⟨_,rfl⟩;rw [←aQ]
 have aZ:K0 W w2:=by rw [aQ];exact (ae.refl _ _).drewN _
 replace HZ:=Hd (HZ.o.keep aZ (λ h=>h));replace mF:=Hd (mF.o.trans aZ k3);clear aQ aZ;obtain⟨⟨e0,e1⟩,g0,g1⟩:=HZ.o.two;have AJ:=HZ.o.lt;go_wp2_with fail;refine nJ (v:=.tuple #[.agg #[eS,()],false]) (by simp [results,Tryz.results186,go_sem,e0,e1]) rfl ?_;rw [cJ.o];exact⟨rfl,mF.o.fresh (ej _ w.heap.size (.string ⟨#[]⟩) (.slice none 0 0)) (λ b e=>oM)⟩):p:=h
theorem c7x {p:Prop} (h:p:=by
 go_enter Tryz.func45,Tryz.ntmps45;go_wp2_with fail;rw [←I8.o];refine (aR cs s (I+1) _ _ dF.o oM oM).mono ?_;rintro e w2 ⟨rfl,q2,rfl⟩;rw [HC.o];obtain⟨W2,et⟩:∃W2,W2=w1.drewN q2:=⟨_,rfl⟩;rw [←et];have cj:ah W2 cs s ((I+1:Nat):Int) ((0:Nat):Int):=by rw [et];exact dF.o.drewN _
 have cA:=Hd (show ae (λ b=>b=cs) w W2 by rw [et];exact dp.o.drewN _);obtain⟨d0,d1,d2,g1,g2⟩:=cj.cells;clear et;go_wp2_with fail;go_quiet ((go_at_call 69;exact nX ((dK s (I+1) _ oM oM).mono (λ e w' hh=>⟨by rw [hh.1,mK.o],hh.2.symm⟩))));obtain⟨W3,ft⟩:∃W3,W3=W2.drewN nq:=⟨_,rfl⟩;rw [←ft];have d6:ah W3 cs s ((I+1:Nat):Int) ((0:Nat):Int):=by rw [ft];exact cj.drewN _
 have bZ:=Hd (show ae (λ b=>b=cs) w W3 by rw [ft];exact cA.o.drewN _);clear ft d0 d1 d2 g1 g2 cj;go_wp2_with fail;refine (ep c _).mono ?_;rintro e w4 ⟨rfl,fU⟩;rw [HD.o,fU];clear fU;have Bu:=Hd (show res=.ok ([.mk 3 [] ((rest s (I+1)).take 1) [] [] q],rest s (I+1+1)) by rw [SC.o,b8]);obtain⟨c0,c1,c2,f1,f2⟩:=d6.cells;go_wp2_with fail;go_quiet (fail);obtain⟨W4,gL⟩:∃W4,W4=W3.drewN nq:=⟨_,rfl⟩
 rw [←gL];have dR:ah W4 cs s ((I+1:Nat):Int) ((0:Nat):Int):=by rw [gL];exact d6.drewN _
 have eU:=Hd (show ae (λ b=>b=cs) w W4 by rw [gL];exact bZ.o.drewN _);clear gL c0 c1 c2 f1 f2;obtain⟨c0,c1,c2,f1,f2⟩:=dR.cells;have ltW:=dR.lt;obtain⟨dV,bi⟩:=dl dR (j:=(I:Int)+1+1) (J:=I+1+1) oM;have fL:=Hd (eU.o.trans bi (λ_ _ e=>e));have hB5:B≤(W4.setCell ⟨cs,1,none⟩ (.int .i64 ((I:Int)+1+1))).heap.size:=nY hB fL.o.size;have BZ:=l5.o.keep fL.o (λ_ _ e=>oM)
 obtain⟨xs,aU,hF⟩:=BZ.more0 hB5 (ae.refl _ _) (x:=.mk 3 [] ((rest s (I+1)).take 1) [] [] q) rfl;have e1:dj ((rest s (I+1)).take 1)=.string (s.extract (I+1) (I+1+1)):=jH (by rw [Lib.extract_data];unfold rest;rw [show I+1+1 - (I+1)=1 by omega]);simp only [cH,Pt.kind,Pt.text,Pt.name,Pt.op,Pt.quoted,e1] at hF;have HF:=Hd hF;have l6:=Hd dV;rw [←re.o] at aU HF;have sG:(W4.setCell ⟨cs,1,none⟩ (.int .i64 ((I:Int)+1+1))).heap.size=W4.heap.size:=wC
 have qz:=nG (W4.setCell ⟨cs,1,none⟩ (.int .i64 ((I:Int)+1+1))) (.cells #[.int .i64 3,eS,.string (s.extract (I+1) (I+1+1)),eS,(),q] 67);rw [sG] at qz;have kQ:=Hd qz;clear dV bi BZ hF e1 qz sG;go_wp2_with (at_builtin;refine nR _ rfl (.tmp 131) (.tmp 135) _ rfl 0 67 i0 _ 6 88 Tryz.underlying29 fo fC fp fq rfl oM (.slice va R0 vc) R0 xs rfl (aU.alloc _) ⟨W4.heap.size,0,none⟩ 1 1 [.int .i64 3,eS,.string (s.extract (I+1) (I+1+1)),eS,(),q] rfl rfl (nK (cs:=#[.int .i64 3,.string ⟨#[]⟩,.string (s.extract (I+1) (I+1+1)),.string ⟨#[]⟩,.slice none 0 0,.bool q]) (t:=67) (fr:=(0,0)) kQ.o) oC oM uM oM sI (W4.heap.size+1) wC ?_;intro gg aC w5 aK ao bf eC)
 go_ret;obtain⟨cv,eP⟩:=HF.o gg aC w5 _ aK ao (by simpa [World.setCell] using bf);rw [Bu.o];exact⟨_,I+1+1,rfl,oM,rfl,l6.o.keep eP (λ e=>oM),cv,by rw [bv];simp only [er,Pt.text,lN];omega,(fL.o.mono λ_ _ e=>.inl e).trans eP (λ_ _ e=>.inr e)⟩):p:=h
theorem yL {p:Prop} (h:p:=by
 go_wp2_with fail;refine⟨rfl,?_⟩;rw [bO.o];exact⟨rfl,bZ.o⟩):p:=h
theorem c9x {p:Prop} (h:p:=by
 replace Gv:=Hd (show ∀ds,bV w3 (Qd Lo B W2.heap.size) ds v.vals→bV w5 (λ b=>Qd Lo B w.heap.size b∧b≠w.heap.size) ds v.vals from λ ds hr=>(Gv.o ds hr).keep Yx.o (λ b _ hb e=>jV (X:=w.heap.size) HS.o.ps bA.o hb.1 e));obtain⟨c0,c1,c2,f1,f2⟩:=HS.o.cells;have aW:=HS.o.lt;go_upto_region 7 with fail;obtain⟨w6,aQ⟩:∃w6,w6=w5.setCell ⟨ps,1,none⟩ (.int .i64 ((j:Int)+1)):=⟨_,rfl⟩
 rw [←aQ];obtain⟨iP,fm⟩:=eE HS.o oM;rw [←aQ] at iP fm;replace HS:=Hd iP;replace HZ:=Hd (HZ.o.keep fm (λ e=>by have:=bA.o;omega));replace HK:=Hd (HK.o.trans fm k3);replace HN:=Hd (HN.o.keep fm yk);have zT:=Hd fm;clear aQ iP fm;have SA:=Hd (show ∀ds,bV w3 (Qd Lo B W2.heap.size) ds v.vals→bV w6 (λ b=>Qd Lo B w.heap.size b∧b≠w.heap.size) ds v.vals from λ ds hr=>(Gv.o ds hr).keep zT.o (λ b _ hb e=>jV (X:=w.heap.size) HS.o.ps bA.o hb.1 e))
 have mj:=mq (P:=aj [41]) ab3 ab4 Nw.o uQ.o;have gR:=Hd (show (∃ds,res=.ok (cE 13 false [] [] [] [] ds [],T.drop (j+1))∧xz=0∧j+1≤T.length∧ds.length=1*8∧bV w6 (λ b=>Qd Lo B w.heap.size b∧b≠w.heap.size) ds v.vals)∨QF false w6 (λ_=>False) T res [] (j+1) xz from by
  rcases mj with ⟨ds,hx,hp,h0,hn,hd,hj,hr⟩ | ⟨hx,hf⟩
  ·refine .inl ⟨ds,?_,h0,?_,by rw [hn.len],SA.o ds hd⟩
   ·rw [ay.o,hr,zz (qL hp),aG]
   ·have:=bL (dA hp);omega
  ·exact .inr (QF.err hx (by rw [ay.o,hf _ (λ e=>rfl) (λ ds r h=>CI (sY h))])))
 clear mj;clear c0 c1 c2 f1 f2 aW;obtain⟨⟨x0,x1,x2,x3,x4,x5,x6,x7⟩,⟨f8,gf,hC,hU,hV,hY,hZ,ia⟩⟩:=HN.o.eight;have fR:=HN.o.lt;obtain⟨⟨z0,z1,z2,z3,z4,z5,z6,z7⟩,⟨gO,gP,ib,ic,ie,ig,ii,ij⟩⟩:=HZ.o.eight;have fT:=HZ.o.lt;go_wp2_with fail;refine nJ (v:=.agg #[.int .i64 13,false,eS,(),(),(),.slice (some ⟨w6.heap.size,0,none⟩) 1 1,()]) (by simp [results,Tryz.results163,go_sem,z0,z1,z2,z3,z4,z5,z6,z7,fT]) rfl ?_
 exact⟨⟨13,false,⟨#[]⟩,none,0,0,none,0,0,none,0,0,some ⟨w6.heap.size,0,none⟩,1,1,none,0,0⟩,j+1,xz,rfl,fv.o.1,fv.o.2,pF (kind:=13) (m:=1) (vv:=v.vals) HK.o HS.o bA.o HZ.o.lt (ap w6 w.heap.size (.int .i64 13) (.bool false) (.string ⟨#[]⟩) (.slice none 0 0) (.slice none 0 0) (.slice none 0 0) (.slice (some ⟨w6.heap.size,0,none⟩) 1 1) (.slice none 0 0)) wC rfl dC gR.o⟩):p:=h
theorem VW {p:Prop} (h:p:=by
 obtain⟨xs,hown4,aL,hF⟩:=fM.o.moreW cF.o ct.o.1 ct.o.2 pR.o ur.o zQ.o.rs YJ.o;have dz:=(show af we N [.int .i64 1,false,eS,.slice wa wm wc,.slice ga gm gc,.slice ra rm rc,(),()] from aL);obtain⟨⟨x0,x1,x2,x3,x4,x5,x6,x7⟩,f8,gf,hC,hU,hV,hY,hZ,ia⟩:=dz.eight;have fR:=aL.lt;have HF:=Hd (show ∀(gg aC:Nat) (w5:World) (o:Obj),w5.ownsRow 0 29 1 (.slice (some ⟨gg,0,none⟩) (wm+1) aC) (wm+1) (xs++[.slice xa xl xc])→(we.alloc o).grownBy w5 (Value.slice wa wm wc).ownBlock→((Value.slice wa wm wc).ownBlock=some gg∨gg=we.heap.size+1)→
  af w5 N [.int .i64 1,false,eS,.slice wa wm wc,.slice ga gm gc,.slice ra rm rc,(),()]∧SI w (w5.setCell ⟨N,3,none⟩ (.slice (some ⟨gg,0,none⟩) (wm+1) aC)) B cs tv n T d X N j4 (some ⟨gg,0,none⟩) (wm+1) aC (ws++[aB x]) ga gm gc gs ra rm rc rd from λ gg aC w5 o=>hF gg aC w5 o)
 clear hF aL dz;go_upto_region 7 with fail;rw [←SH.o];go_upto_region 9 with fail;go_wp2_with (at_builtin;refine nR _ rfl (.tmp 46) (.tmp 48) _ rfl 0 29 i2 _ 1 24 Tryz.underlying39 fm Hn xP pX rfl oM (.slice wa wm wc) wm xs rfl (hown4.alloc _) ⟨we.heap.size,0,none⟩ 1 1 [.slice xa xl xc] rfl rfl (nK (cs:=#[.slice xa xl xc]) (t:=29) (fr:=(0,0)) (nG we _)) oC oM uM oM sI (we.heap.size+1) sI ?_;intro gg aC w5 aK ao bf gT;obtain⟨aH,gA⟩:=HF.o gg aC w5 _ aK ao bf;obtain⟨⟨z0,z1,z2,z3,z4,z5,z6,z7⟩,gO,gP,ib,ic,ie,ig,ii,ij⟩:=af.eight aH;have qy:=aH.lt;have fc:=Hd gA;clear aH gA aK ao bf)
 obtain⟨w6,im⟩:∃w6,w6=w5.setCell ⟨N,3,none⟩ (.slice (some ⟨gg,0,none⟩) (wm+1) aC):=⟨_,rfl⟩;rw [←im] at fc;rw [←im];clear im;go_wp2_with fail;go_roundg (T.length - j4)
 case measure=>have:=fK.o;omega
 case rel=>exact⟨j4,M,_,(wm+1),aC,(ws++[aB x]),ga,gm,gc,gs,ra,rm,rc,rd,rfl,oM,oM,oM,oM,oM,fc,qn⟩):p:=h
theorem SW {p:Prop} (h:p:=by
 have Tr:I+1≤j4:=by
  have h1:=iu kS.o;exact S1
 have ux:=kJ.o.2.1;clear kh kJ kS;go_wp2_with fail;go_roundg (T.length - j4)
 case measure=>have:=fK.o;omega
 case rel=>exact⟨j4,M,m+1,_,aC,acc++d2,rfl,oM,oM,oM,fc,qn⟩):p:=h
theorem SX {p:Prop} (h:p:=by
 rintro e w3 ⟨v,j,bd,rfl,vR,rj,d6,aV,tP⟩;have xK:=Hd HZ.o.lt;replace HZ:=Hd (HZ.o.keep aV (λ e=>by have:=bA.o;omega));have eF:=Hd d6;have bZ:=Hd aV;have Ns:=Hd tP;have fv:=Hd (show i≤j∧j≤T.length+(2*K+2) by omega);rw [←ay.o] at Ns;clear d6 aV tP vR rj;obtain⟨⟨z0,z1,z2,z3,z4,z5,z6,z7⟩,⟨gO,gP,ib,ic,ie,ig,ii,ij⟩⟩:=HZ.o.eight;have fT:=HZ.o.lt;go_wp2_with fail
 refine nJ (v:=.agg #[v.k,v.nt,v.nm,.slice v.a0 v.n0 v.c0,.slice v.a1 v.n1 v.c1,.slice v.a2 v.n2 v.c2,.slice v.a3 v.n3 v.c3,.slice v.a4 v.n4 v.c4]) (by simp [results,Tryz.results163,go_sem,z0,z1,z2,z3,z4,z5,z6,z7]) rfl ?_;obtain⟨f1,f2,f3⟩:=F4 HK.o xK.o bZ.o eF.o bA.o Ns.o (ap w3 w.heap.size (.int .i64 v.k) (.bool v.nt) (.string v.nm) (.slice v.a0 v.n0 v.c0) (.slice v.a1 v.n1 v.c1) (.slice v.a2 v.n2 v.c2) (.slice v.a3 v.n3 v.c3) (.slice v.a4 v.n4 v.c4))
 exact⟨v,j,bd,rfl,fv.o.1,fv.o.2,f1,f2,f3⟩):p:=h
theorem VX {p:Prop} (h:p:=by
 have U6:IntKind.i64.wrap ((i:Int)+1+1)=(i:Int)+1+1:=nL _ oM;have p1:0≤(i:Int)+1:=oM
 have p2:(i:Int)+1≤(i:Int)+1+1:=oM
 have p3:(i:Int)+1+1≤(s.size:Int):=oM
 have p4:((i:Int)+1).toNat=i+1:=oM
 have p5:((i:Int)+1+1).toNat=i+1+1:=oM
 clear c0 c1 c2 f1 f2;go_wp2_with fail;have cj:ah (w1.drewN (q2+q3)) cs s ((i:Int)+1) d:=dF.o.drewN _;have bp:ae (λ b=>b=cs) w1 (w1.drewN (q2+q3)):=(ae.refl _ _).drewN _;have qz:=sp.o.keep bp (λ_ _ e=>e);have aS:=dp.o.trans bp k3;obtain⟨W,hW⟩:∃W,W=w1.drewN (q2+q3):=⟨_,rfl⟩;rw [←hW] at cj qz aS;rw [←hW];have kQ:=Hd qz;have cA:=Hd aS;clear hW bp qz aS
 have gS:=Hd cj;obtain⟨d0,d1,d2,df1,df2⟩:=cj.cells;clear cj;refine wp_region_still_tail 15 kR kR ?_;simp only [List.take_succ_cons,List.take_zero,List.drop_succ_cons,List.drop_zero];change wpStill _ _ W.drew _ _ _
 repeat still_step
 refine wpStill_nil ?_;change wpList _ _ _ _ _ W.drew;go_wp2_with fail;obtain⟨R,hR⟩:∃R,R=s.extract (i+1) (i+1+1):=⟨_,rfl⟩;rw [←hR];have hRd:R.data.toList=[x]:=by
  rw [hR,Lib.extract_data,show i+1+1 - (i+1)=1 by omega];show (rest s (i+1)).take 1=_;rw [ak aW,←HX.o];rfl
 have Xj:R.size=1:=by rw [nT,hRd];rfl
 have HR:=Hd hRd;clear hR hRd;have Tn:=kQ.o.keep ((ae.refl (λ b=>b=cs) W).drewN 1) (λ_ _ e=>e);have d6:=gS.o.drewN 1;have aV:=cA.o.drewN 1;refine (mx B cs wb g N (2*i) R _ Tn oM d6.lt).mono ?_;intro e w3 hp;obtain⟨he,g',dR,hb4,UP,be⟩:=wS (d:=d) (i:=i+1) hp d6 Tn aV;subst he;have Zz:=Hd hb4;have Yy:=Hd UP;have eU:=Hd be;have iG:=Hd dR;obtain⟨c0,c1,c2,f1,f2⟩:=dR.cells
 have tt:=Hd Xj;clear hp Tn d6 aV hb4 UP be dR Xj;go_wp2_with fail;go_end0;rw [ay.o];refine EZ (j:=i+1+1) Zz.o Yy.o eU.o (gx iG.o 0 oM) (mt _ _ _ _) oM rfl (by rw [HR.o];rfl) (by have:=tt.o;omega)):p:=h
theorem DE {p:Prop} (h:p:=by
 go_quiet ((go_at_call 165;with_reducible exact HQ.o _));go_wp2_with fail;go_meet
 case rel=>exact⟨_,rfl,by rw [Gx.o],Hd (HS.o.keep0 ((ae.refl _ _).drewN _)),Hd (HZ.o.keep (S:=λ_=>False) ((ae.refl _ _).drewN _) (λ h=>h)),Hd (HK.o.trans ((ae.refl (λ_=>False) _).drewN _) (λ_ _ h=>h.elim))⟩):p:=h
theorem VY {p:Prop} (h:p:=by
 obtain⟨T,hT⟩:∃T,T=s.extract (J - 1) J:=⟨_,rfl⟩;have sy:=Hd (show T.data.toList=[c] by
  rw [hT,Lib.extract_data];have h1:s.data.toList.drop (J - 1)=rest s (J - 1):=rfl;rw [h1,ak oM,show J - (J - 1)=1 by omega];rw [show J - 1=I by omega,HC.o];rfl)
 have Gw:=Hd hT;have HJ:=Hd hJ;clear jk hT dV bi hJ;go_wp2_with fail;rw [←uP.o];obtain⟨d0,d1,d2,g1,g2⟩:=l6.o.cells;have p1:((J:Int) - 1).toNat=J - 1:=oM
 have p2:(0:Int)≤(J:Int) - 1:=oM
 have p2':(1:Int)≤(J:Int):=oM
 have p3:(J:Int) - 1≤(J:Int):=oM
 have p4:(J:Int)≤(s.size:Int):=oM
 have ew:IntKind.i64.wrap ((J:Int) - 1)=(J:Int) - 1:=nL _ oM;go_still_tail 16,kR;change wpList _ _ _ _ _ w5.drew;obtain⟨w6,im⟩:∃w6,w6=w5.drew:=⟨_,rfl⟩;rw [←im];have lM:ah w6 cs s J ((0:Nat):Int):=by rw [im];exact l6.o.keep (S:=λ_=>False) (ae.refl _ _).drew (λ h=>h)
 have st:=Hd (show ae (λ b=>b=cs) w w6 by rw [im];exact fL.o.drew);have Nh:=l5.o.keep st.o (λ_ _ e=>oM);have ji:=iX B 2 (s.extract (J - 1) J) _ raw w6 Nh (nY hB st.o.size) (by have:=re.o;omega) (.inl rfl);have mn:=Hd ji;have xW:=Hd lM;clear Nh ji im lM;go_wp2_with fail;refine mn.o.mono ?_;rintro e w7 ⟨v7,rfl,cv,eP⟩;obtain⟨a7,n7,c7,rfl⟩:∃a n c,v7=.slice a n c:=by obtain⟨a,c,e,_⟩:=cv.shape;exact⟨a,_,c,e⟩
 have HROW7:=Hd cv;have HKEEP:=Hd eP;clear cv eP;go_wp2_with fail;go_ret;have lE:=sy.o;rw [Gw.o] at lE;have cv:=HROW7.o;rw [lE] at cv;rw [Bu.o];have hJ:=HJ.o;subst hJ;exact⟨_,I+1,rfl,oM,rfl,xW.o.keep HKEEP.o (λ e=>oM),cv,by rw [bv];show er raw+(1+1+0)≤_;omega,(st.o.mono λ_ _ e=>.inl e).trans HKEEP.o (λ_ _ e=>.inr e)⟩):p:=h
theorem VZ {p:Prop} (h:p:=by
 have Jc:=HG.o.rc.lt;have vS:=gE.o;replace HG:=Hd (HG.o.move bA.o gE.o bi dV);go_upto_region 9 with fail;obtain⟨NC,AC⟩:∃NC,NC=w5.heap.size:=⟨_,rfl⟩;obtain⟨W6,i4⟩:∃W6,W6=w5.alloc (.cells #[v2.k,v2.nt,v2.nm,.slice v2.a0 v2.n0 v2.c0,.slice v2.a1 v2.n1 v2.c1,.slice v2.a2 v2.n2 v2.c2,.slice v2.a3 v2.n3 v2.c3,.slice v2.a4 v2.n4 v2.c4] 44):=⟨_,rfl⟩;rw [←i4]
 try rw [←AC]
 have cu:K0 w5 W6:=by rw [i4];exact (ae.refl _ _).alloc _
 have Vn:=Hd (show af W6 NC [v2.k,v2.nt,v2.nm,.slice v2.a0 v2.n0 v2.c0,.slice v2.a1 v2.n1 v2.c1,.slice v2.a2 v2.n2 v2.c2,.slice v2.a3 v2.n3 v2.c3,.slice v2.a4 v2.n4 v2.c4] by rw [i4,AC];exact aD _ _ _ _ _ _ _ _ _ _);replace HG:=Hd (HG.o.keep0 cu);have HD5:=Hd (show Rk→jA d5∧bV W6 (λ b=>Qd Lo B (w.heap.size+1) b∧b≠N) d5 v2.vals from λ g=>⟨(Ea g).1,((Ea g).2.keep cu (λ_ _ _ h=>h)).mono (λ b _ hb=>by rcases hb with h | h;exact⟨.inl h,by have:=bA.o;have:=dV.ps;omega⟩;exact⟨.inr oM,oM⟩)⟩)
 have Y0:=HG.o.rc.lt;have cM:N≠NC:=by have:=bi.size;omega
 have Bn:=(show af W6 N [v.k,v.nt,v.nm,.slice v.a0 v.n0 v.c0,.slice v.a1 v.n1 v.c1,.slice v.a2 v.n2 v.c2,.slice v.a3 v.n3 v.c3,.slice v.a4 v.n4 v.c4] from HG.o.rc);obtain⟨⟨x0,x1,x2,x3,x4,x5,x6,x7⟩,⟨f8,gf,hC,hU,hV,hY,hZ,ia⟩⟩:=Bn.eight;obtain⟨⟨u0,u1,u2,u3,u4,u5,u6,u7⟩,⟨E1,E2,E3,E4,E5,E6,E7,E8⟩⟩:=Vn.o.eight;have Oh:=Vn.o.lt;clear Ea Ek dV bi G5 cu i4 AC Bn Jc vS
 go_wp2_with fail;go_roundg (T.length+2000 - j5)
 case measure=>have:=fK.o;omega
 case rel=>exact⟨Rk,j5,UB,_,_,rfl,oM,Oo,Hd (HG.o.next bA.o gE.o (λ_=>iD.o) HD5.o rfl),eI⟩):p:=h
theorem V0 {p:Prop} (h:p:=by
 rintro e wz ⟨rfl,ek,kg⟩;have ek:=(show QS wz Lo B ps tv n T (I+1) xe by rw [sz.o];exact ek);replace HG:=Hd (HG.o.move bA.o (nM _) gE.o kg ek);clear ek kg;obtain⟨⟨x0,x1,x2,x3,x4,x5,x6,x7⟩,⟨f8,gf,hC,hU,hV,hY,hZ,ia⟩⟩:=(show af wz N [.int .i64 10,false,eS,.slice (some ⟨NW,0,none⟩) 1 1,(),(),(),.slice la m lc] from HG.o.rc).eight
 have fR:=HG.o.rc.lt;have HF:=Hd (show QF false wz (λ b=>Qd Lo B w.heap.size b∧b≠w.heap.size) T res [.int .i64 10,false,eS,.slice (some ⟨NW,0,none⟩) 1 1,(),(),(),.slice la m lc] (I+1) xe from o8 HG.o (nM _) bA.o (by rcases I1.o with ⟨g,h0,hj,hr⟩ | ⟨h0,hr⟩;exact .inl ⟨g,h0,hj,⟨_,_,_,_,_,_,_,_,rfl⟩,hr⟩;exact .inr λ_ _ _=>QF.err h0 hr))
 have HK:=Hd HG.o.kp;have HS:=Hd HG.o.rs;obtain⟨⟨z0,z1,z2,z3,z4,z5,z6,z7⟩,⟨gO,gP,ib,ic,ie,ig,ii,ij⟩⟩:=HG.o.zr.eight;have fT:=HG.o.zr.lt;go_wp2_with fail;refine nJ (v:=.agg #[.int .i64 10,false,eS,.slice (some ⟨NW,0,none⟩) 1 1,(),(),(),.slice la m lc]) (by simp [results,Tryz.results183,go_sem,z0,z1,z2,z3,z4,z5,z6,z7]) rfl ?_
 obtain⟨f1,f2,f3⟩:=cI HK.o HS.o bA.o HF.o (ap wz w.heap.size (.int .i64 10) (.bool false) (.string ⟨#[]⟩) (.slice (some ⟨NW,0,none⟩) 1 1) (.slice none 0 0) (.slice none 0 0) (.slice none 0 0) (.slice la m lc));exact⟨⟨10,false,⟨#[]⟩,some ⟨NW,0,none⟩,1,1,none,0,0,none,0,0,none,0,0,la,m,lc⟩,(I+1),xe,rfl,fv.o.1,fv.o.2,f1,f2,f3⟩):p:=h
theorem SY {p:Prop} (h:p:=by
 rw [kS.o];rintro e w4 ⟨rfl,be⟩;have eU:=Hd ((fM.o.kp.drew).trans be k3);exact KV):p:=h
theorem V1 {p:Prop} (h:p:=by
 go_wp2_with (at_builtin;refine nR _ rfl (.tmp 50) (.tmp 52) _ rfl 0 29 i2 _ 1 24 Tryz.underlying39 fm Hn xP pX rfl oM (.slice wa wm wc) wm xs rfl (hown4.alloc _) ⟨w4.heap.size,0,none⟩ 1 1 [.slice ta wl tc] rfl rfl (nK (cs:=#[.slice ta wl tc]) (t:=29) (fr:=(0,0)) (nG w4 _)) oC oM uM oM sI (w4.heap.size+1) sI ?_;intro gg aC w5 aK ao bf gT;have gA:=HF.o gg (wm+1) aC w5 _ aK ((ae.refl _ _).alloc _) ao (bf.imp id (λ h=>oM));obtain⟨aH,lB⟩:=gA;have aH:=(show af w5 N [.int .i64 1,false,eS,.slice wa wm wc,.slice ga gm gc,.slice ra rm rc,(),()] from aH);obtain⟨⟨z0,z1,z2,z3,z4,z5,z6,z7⟩,⟨gO,gP,ib,ic,ie,ig,ii,ij⟩⟩:=aH.eight;have qy:=aH.lt;have fc:=Hd (show SQ True w (w5.setCell ⟨N,3,none⟩ (.slice (some ⟨gg,0,none⟩) (wm+1) aC)) Lo B ps tv n T (w.heap.size+1) N j y (some ⟨gg,0,none⟩) (wm+1) aC (ws++[aB wd]) ga gm gc gs ra rm rc rd from lB);clear aH lB;clear aK ao bf)
 rcases Nv.o with ⟨h1,h2,hr⟩ | ⟨h1,hr⟩
 ·go_roundg (T.length+2000 - j)
  case measure=>have:=fK.o;omega
  case rel=>exact⟨True,j,y,_,wm+1,_,_,ga,gm,gc,gs,ra,rm,rc,rd,oM,yi,fc,.inl ⟨h1,rfl,oM,oM,oM,Hd ⟨trivial,M,oM,by rw [h2];exact hr⟩⟩⟩
 ·go_roundg 0
  case measure=>have:=fK.o;omega
  case rel=>exact⟨True,j,y,_,wm+1,_,_,ga,gm,gc,gs,ra,rm,rc,rd,by have:=Uo.o;omega,yi,fc,.inr ⟨h1,rfl,Hd hr⟩⟩):p:=h
theorem V2 {p:Prop} (h:p:=by
 have sF:=HX.o;have qA:=cF.o;have JO:=Hd (dO.o.trans bp k3);have Gt:=Hd AL;have J0:=Hd (eo.mono (D':=λ b=>w.heap.size<b) (λ b _ hb=>oM));have lY:=Hd (show jA (cE 11 false nm [] [] [] acc []) from⟨_,_,_,_,_,_,_,_,rfl⟩);have HLN:=Hd eJ.len;have VF:=Hd OI;have HJ9:=Hd (show i≤j9 by omega);obtain⟨⟨z0,z1,z2,z3,z4,z5,z6,z7⟩,y0,y1,y2,y3,y4,y5,y6,y7⟩:=(HR.o.keep bp (λ e=>oM)).eight
 have fT:=(HR.o.keep bp (λ e=>oM)).lt;clear bo iQ AL eo eJ OI bp ek OF sF qA;go_wp2_with fail;refine nJ (v:=.agg #[.int .i64 11,false,.string ⟨nm.toArray⟩,(),(),(),.slice (some ⟨w9.heap.size,0,none⟩) 1 1,()]) (by simp [results,Tryz.results196,go_sem,z0,z1,z2,z3,z4,z5,z6,z7,fT]) rfl ?_;obtain⟨f1,f2,f3⟩:=Oe JO.o Gt.o cF.o J0.o HLN.o (ap w9 w.heap.size (.int .i64 11) (.bool false) (.string ⟨nm.toArray⟩) (.slice none 0 0) (.slice none 0 0) (.slice none 0 0) (.slice (some ⟨w9.heap.size,0,none⟩) 1 1) (.slice none 0 0)) sI rfl
 rw [bO.o];exact⟨[.int .i64 11,false,.string ⟨nm.toArray⟩,(),(),(),.slice (some ⟨w9.heap.size,0,none⟩) 1 1,()],⟨rfl,_,HJ9.o,VF.o,f1,f2⟩,trivial,lY.o,⟨.int _,.bool _,.str _,.nil _ _ _ (nB _),.nil _ _ _ (nB _),.nil _ _ _ (nB _),f3,.nil _ _ _ (nB _),trivial⟩⟩):p:=h
theorem V3 {p:Prop} (h:p:=by
 rintro e wy ⟨rfl,hsy,hky⟩;have hsy:=(show QS wy Lo B ps tv n T I xf by rw [Uw.o];exact hsy);have hG:=HG.o.move bA.o (nM _) gE.o hky hsy;have HS:=Hd hG.rs;have HK:=Hd hG.kp;have HZ:=Hd hG.zr;have HR:=Hd (show af wy N [.int .i64 9,false,.string ⟨s.toArray⟩,.slice la m lc,(),(),(),()] from hG.rc);clear hsy hky hG;obtain⟨⟨x0,x1,x2,x3,x4,x5,x6,x7⟩,⟨f8,gf,hC,hU,hV,hY,hZ,ia⟩⟩:=HR.o.eight
 have fR:=HR.o.lt;have HF:=Hd (show QF false wy (λ b=>Qd Lo B w.heap.size b∧b≠w.heap.size) T res [.int .i64 9,false,.string ⟨s.toArray⟩,.slice la m lc,(),(),(),()] I xf from uo.o _ _ _);obtain⟨⟨z0,z1,z2,z3,z4,z5,z6,z7⟩,⟨gO,gP,ib,ic,ie,ig,ii,ij⟩⟩:=HZ.o.eight;have fT:=HZ.o.lt;go_wp2_with fail;refine nJ (v:=.agg #[.int .i64 9,false,.string ⟨s.toArray⟩,.slice la m lc,(),(),(),()]) (by simp [results,Tryz.results182,go_sem,z0,z1,z2,z3,z4,z5,z6,z7]) rfl ?_
 obtain⟨f1,f2,f3⟩:=cI HK.o HS.o bA.o HF.o (ap wy w.heap.size (.int .i64 9) (.bool false) (.string ⟨s.toArray⟩) (.slice la m lc) (.slice none 0 0) (.slice none 0 0) (.slice none 0 0) (.slice none 0 0));exact⟨⟨9,false,⟨s.toArray⟩,la,m,lc,none,0,0,none,0,0,none,0,0,none,0,0⟩,I,xf,rfl,fv.o.1,fv.o.2,f1,f2,f3⟩):p:=h
theorem V4 {p:Prop} (h:p:=by
 go_simp;go_at_call 87;refine (zF cs s I _ Su.o aW hs).mono ?_;rw [yz.o];rintro e w4 ⟨rfl,be⟩;obtain⟨hA,hB,bi⟩:=hL4 w4 be;have fL:=Hd bi;have g0:=hA.one;have g1:=hB.one;have WX:=hB.lt;clear be bi;go_simp;clear hK K;refine leaves_cons (f:=83) (args:=#[.pointer (some ⟨w.heap.size,0,none⟩),.pointer (some ⟨w.heap.size+1,0,none⟩)]) sI (by simp [go_sem]) ?_;refine (IS _ _ x _ _ [] _ g0.1 g1.1 g0.2 g1.2 oM oM WX).mono ?_
 rintro e u' Yn ⟨rfl,rfl,rfl⟩;obtain⟨W4,gL,k0,k1,be⟩:=ma (x:=x) (o:=.cells #[x] 143) hA hB;rw [←gL];simp [Leaves,settle,results,Tryz.results59,go_sem,k0,k1];rw [bO.o];exact⟨rfl,gR.o _ _ fL.o be⟩):p:=h
theorem SZ {p:Prop} (h:p:=by
 have k1:∀g,(Value.slice wa wm wc).ownBlock=some g→X≤g∧g<wr.heap.size:=λ g hg=>⟨(h.l1 g hg).1,s3 g (.inl hg)⟩;have k2:∀g,(Value.slice ga gm gc).ownBlock=some g→X≤g∧g<wr.heap.size:=λ g hg=>⟨(h.l2 g hg).1,s3 g (.inr (.inl hg))⟩;have k3:∀g,(Value.slice ra rm rc).ownBlock=some g→X≤g∧g<wr.heap.size:=λ g hg=>⟨(h.l3 g hg).1,s3 g (.inr (.inr hg))⟩;have hB:=du.ps;rcases hb with hb | hb
 ·exact⟨⟨.inl hb,oM⟩,λ e=>by have:=k1 b e;omega,λ e=>by have:=k2 b e;omega,λ e=>by have:=k3 b e;omega⟩
 ·exact⟨⟨.inr oM,oM⟩,λ e=>by have:=k1 b e;omega,λ e=>by have:=k2 b e;omega,λ e=>by have:=k3 b e;omega⟩):p:=h
theorem V5 {p:Prop} (h:p:=by
 have cA:=Hd ((sR zT.o).trans kn (λ_ _ e=>e));clear kn;refine (zj W.heap.size cs W.heap.size g' _ _ _ kQ.o oM gS.o.lt).mono ?_;rintro e w3 ⟨v,k,rfl,hp,aV⟩;obtain⟨ax,cx,rfl,_,_⟩:=hp.shape;obtain⟨tl,lE⟩:∃tl,tl=(lq (l.foldl cd ([],false))).length:=⟨_,rfl⟩;rw [←lE] at hp;rw [←lE];have iT:=((HTW.o.keep cA.o (λ h=>oM))).keep aV (λ h=>h);obtain⟨⟨c0,c1,c2⟩,f0,f1,f2⟩:=iT.three
 have HP:=Hd hp;have bZ:=Hd aV;have HHL:=Hd (show w.heap.size<W.heap.size from HTW.o.lt);clear hp aV iT lE;go_wp2_with fail;refine nJ (v:=.agg #[.int .i64 1,eS,.slice ax tl cx]) (by simp [results,Tryz.results87,go_sem,c0,c1,c2]) rfl ?_;show uR w cs s res _ _;rw [bO.o];have be:=nr w3 w.heap.size (.int .i64 1) (.string ⟨#[]⟩) (.slice ax tl cx);have bp:ae (λ b=>b=cs) w w3:=(dO.o.trans cA.o (λ_ _ e=>e)).trans bZ.o (λ_ _ h=>h.elim)
 exact⟨I,k,⟨#[]⟩,_,rfl,rfl,hI,rfl,(gS.o.keep bZ.o (λ h=>h)).keep be (λ h=>oM),(HP.o.keep be (λ b hb hx e=>by have:=hx.1;have:=HHL.o;omega)).mono (λ b _ h=>by have:=h.1;have:=HHL.o;omega),pE bp rfl be⟩):p:=h
theorem KV {p:Prop} (h:p:=by
 clear be;go_wp2_with fail;refine⟨rfl,?_⟩;rw [bO.o];exact⟨rfl,eU.o⟩):p:=h
theorem V6 {p:Prop} (h:p:=by
 have Bh:=Hd lD;clear lD ho;go_wp2_with fail;obtain⟨w6,im,lM,pU,cu⟩:=dh l6.o I6.o cM 3 (.string O);rw [←im];have st:=Hd (pi fL.o cu);have xW:=Hd lM;have vT:af w6 pb [.int .i64 3,eS,R,O,(),q]:=pU;have Pp:=Hd vT;obtain⟨⟨_,_,_,d3,_,d5⟩,_,_,_,_,f4⟩:=vT.six;obtain⟨_,_,e2,_,g2⟩:=lM.cells;clear im lM pU cu g3 vT
 refine (fQ 2 _).mono ?_;exact Ra):p:=h
theorem vy {p:Prop} (h:p:=by
 rw [List.getD_eq_getElem?_getD,List.getElem?_eq_none (by rw [←nT];omega)];rfl):p:=h
theorem vz {p:Prop} (h:p:=by
 go_enter Tryz.func41,Tryz.ntmps41;go_wp2_with fail;go_ret;exact⟨sh (by rw [HR.o,HT.o]),rfl⟩):p:=h
theorem V7 {p:Prop} (h:p:=by
 have HQ:=Hd (pJ w1 Lo B ps n i 0 tv T HS.o);rw [dO.o] at HQ;have je:=Hd (λ w=>yr w s);rw [HRV.o] at je;go_wp2_with fail;refine HQ.o.mono ?_;rintro e wq ⟨rfl,dq,rfl⟩;obtain⟨w2,aQ⟩:∃w2,w2=w1.drewN dq:=⟨_,rfl⟩;rw [←aQ];have aZ:K0 w1 w2:=by rw [aQ];exact (ae.refl _ _).drewN _
 replace HS:=Hd (HS.o.keep0 aZ);replace HZ:=Hd (HZ.o.keep aZ (λ h=>h));replace HK:=Hd (HK.o.trans aZ (λ_ _ h=>h.elim));clear aQ aZ;cases kw with
 | false=>
  have Gx:=Hd (show wb=false from SG.o);exact KW
 | true=>
  go_wp2_with fail;refine (je.o _).mono ?_;rintro e wq ⟨rfl,rfl⟩;cases rv with
  | false=>
   have Gx:=Hd (show wb=true from SG.o);exact KW
  | true=>
   have Gx:=Hd (show wb=false from SG.o);exact KW):p:=h
theorem KW {p:Prop} (h:p:=by
 go_wp2_with fail;go_meet
 case rel=>exact⟨_,rfl,by rw [Gx.o],HS,HZ,HK⟩):p:=h
theorem V8 {p:Prop} (h:p:=by
 clear ek kg;obtain⟨⟨z0,z1,z2,z3,z4,z5,z6,z7⟩,⟨gO,gP,ib,ic,ie,ig,ii,ij⟩⟩:=HZ.o.eight;have fT:=HZ.o.lt;go_wp2_with fail;refine nJ (v:=.agg #[.int .i64 0,false,eS,(),(),(),(),()]) (by simp [results,Tryz.results142,go_sem,z0,z1,z2,z3,z4,z5,z6,z7]) rfl ?_;obtain⟨f1,f2,f3⟩:=cI HK.o HS.o bA.o (show QF false wz (λ b=>Qd Lo B w.heap.size b∧b≠w.heap.size) T res [.int .i64 0,false,eS,(),(),(),(),()] i 2 from QF.err dC gF.o) (ap wz w.heap.size (.int .i64 0) (.bool false) (.string ⟨#[]⟩) (.slice none 0 0) (.slice none 0 0) (.slice none 0 0) (.slice none 0 0) (.slice none 0 0))
 exact⟨⟨0,false,⟨#[]⟩,none,0,0,none,0,0,none,0,0,none,0,0,none,0,0⟩,i,2,rfl,fv.o.1,fv.o.2,f1,f2,f3⟩):p:=h
theorem V9 {p:Prop} (h:p:=by
 clear u9;go_wp2_with fail;refine (bk cs s I _ _ jZ.o).mono ?_;rintro e w1 ⟨rfl,q1,rfl⟩;rw [HE.o];go_wp2_with fail;refine (aR cs s I _ _ (jZ.o.drewN _) oM oM).mono ?_;rintro e w2 ⟨rfl,q2,rfl⟩;rw [Bd.o];obtain⟨W3,ft⟩:∃W3,W3=(wr.drewN q1).drewN q2:=⟨_,rfl⟩;rw [←ft];have d6:ah W3 cs s I ((0:Nat):Int):=by rw [ft];exact (jZ.o.drewN _).drewN _
 have bZ:=Hd (show ae (λ b=>b=cs) w W3 by rw [ft];exact (HK.o.drewN _).drewN _);clear ft;go_wp2_with fail;refine (zt cs s I _ d6 hs aW).mono ?_;rintro e w4 ⟨rfl,J,ym,dR,be⟩;have Gv:=Hd ym;have Lr:=ym.1;have FJ:=ym.2.1;have iG:=Hd dR;have eU:=Hd (bZ.o.trans be (λ_ _ e=>e));clear ym dR be;go_wp2_with fail;go_roundg (s.size+3 - J)
 case measure=>have:=fK.o;omega
 case rel=>exact⟨n,J,by go_num,rfl,oM,FJ,oM,iG.o,eU,Hd (HN.o J Gv.o)⟩):p:=h
theorem Wd {p:Prop} (h:p:=by
 have kQ:=Hd (sp.o.keep bp (λ_ _ e=>e));have cA:=Hd (dp.o.trans bp k3);clear bp;refine (mx B cs wb g N (2*i) ⟨#[c]⟩ _ kQ.o oM (gS.o.lt)).mono ?_;intro e w3 hp;have cm:=ju (d:=d) (i:=i+1) (r:=rest s (i+1)) (l:=[cq [c]]) hp gS.o kQ.o cA.o iP rfl rfl (by show 2*i+1+1≤_;omega);exact NX):p:=h
theorem We {p:Prop} (h:p:=by
 have hp:=HA.o.stop aW (by rw [HX.o,tx];rfl);have HP:=Hd (show l8 s I (K+1) by have h:=A2 hI HQ.o dC hp;rwa [show I+(K+1 - (I+1)+1)=K+1 by omega] at h);clear tx hp;go_wp2_with fail;refine (bk cs s K _ _ HS.o).mono ?_;rintro e w3 ⟨rfl,q3,rfl⟩;rw [HE.o];go_wp2_with fail;refine (aR cs s K _ _ (HS.o.drewN _) oM oM).mono ?_;rintro e w4 ⟨rfl,q4,rfl⟩
 rw [HX.o];obtain⟨w5,jk⟩:∃w5,w5=(wr.drewN q3).drewN q4:=⟨_,rfl⟩;rw [←jk];have dV:ah w5 cs s K ((0:Nat):Int):=by rw [jk];exact (HS.o.drewN _).drewN _
 have fL:=Hd (show ae (λ b=>b=cs) w w5 by rw [jk];exact (HK.o.drewN _).drewN _);exact Q0):p:=h
theorem Wf {p:Prop} (h:p:=by
 obtain⟨l2,r2⟩:=lr;rw [bM] at cm;have bS:=cS _ _ _ _ _ _ bM;have jQ:=kP.o;rw [lO,ak aW] at jQ;dsimp only at jQ;rw [nF (λ h=>Zw.o (nH.1 h)),←ak aW,bM] at jQ;dsimp only at jQ;rw [jM] at jQ;obtain⟨he,I2,g2,a1,a2,a3,a4,a5,a6⟩:=cm;subst he;rw [←a2,aO,aO] at bS;rw [←a2] at jQ;have JI:=Hd jQ;have eF:=Hd a3
 have Pg:=Hd a4;have Pm:=Hd a5;have bZ:=Hd a6;have LB:I+1≤I2:=by simp only [Md.least] at bS;omega
 clear bM jQ a2 a3 a4 a5 a6 bS;go_wp2_with fail;go_roundg (s.size+2 - I2)
 case measure=>have:=fK.o;omega
 case rel=>exact⟨I2,M,l++l2,g2,rfl,a1,eF.o,by rw [List.foldl_append];exact Pg.o,I5.o.trans zT.o.size Pm.o,zT.o.next I5.o bZ.o,oM,oM,JI.o⟩):p:=h
theorem S0 {p:Prop} (h:p:=by
 obtain⟨f1,f2,f3⟩:=eK bZ.o eF.o HX.o cF.o eW.o (ap w3 w.heap.size (.int .i64 k) (.bool b) (.string s) (.slice a0 n0 c0) (.slice a1 n1 c1) (.slice a2 n2 c2) (.slice a3 n3 c3) (.slice a4 n4 c4));rw [bO.o];exact⟨[k,b,s,.slice a0 n0 c0,.slice a1 n1 c1,.slice a2 n2 c2,.slice a3 n3 c3,.slice a4 n4 c4],⟨rfl,_,oM,uu.o,f1,f2⟩,trivial,lY.o,f3⟩):p:=h
theorem NU {p:Prop} (h:p:=by
 rcases aU.2 with ⟨e,h0⟩ | ⟨g',DG,x8,e,hb,hg,rest⟩
 ·cases e
 ·have e1:gg=g':=by injection e with e1;injection e1 with e1;injection e1
  exact .inr ⟨g',DG,x8,e,hb,(cu.block g' (Array.getElem?_eq_some_iff.1 hg).1 (λ e2=>UM (e1.trans e2))).trans hg,rest⟩):p:=h
theorem S1 {p:Prop} (h:p:=by
 have h2:=congrArg List.length kJ.o.2.2.1;rw [nI] at h1 h2;have h3:=kJ.o.2.1;omega):p:=h
theorem Wg {p:Prop} (h:p:=by
 have nk:∀a b:Nat,((a:Int)==(b:Int))=(a==b):=λ a b=>by
  rw [Bool.eq_iff_iff,nH,nH];omega
 have n1:((p.kind:Int)==1)=(p.kind==1):=nk p.kind 1;have n2:((p.kind:Int)==2)=(p.kind==2):=nk p.kind 2;have n3:=nk y.kind p.kind;rw [n2] at e1;rw [n1,n2,n3];unfold Pt.joins;cases a1:(y.kind==p.kind)
 ·rcases e1 with e1 | ⟨e1,e2,e3⟩
  ·exact .inl ⟨sI,.inl ⟨e1,rfl⟩⟩
  ·exact .inl ⟨sI,.inr (.inr ⟨e1,e2,e3,rfl⟩)⟩
 ·cases a2:(p.kind==1)
  ·rcases e1 with e1 | ⟨e1,e2,e3⟩
   ·exact .inl ⟨by rw [e1];rfl,.inr (.inl ⟨e1,rfl,rfl⟩)⟩
   ·exact .inr ⟨by rw [e1];rfl,.inr ⟨e1,e2,e3,rfl,rfl⟩⟩
  ·have e4:(p.kind==2)=false:=by
    rw [nH] at a2;rw [a2];rfl
   exact .inr ⟨sI,.inl ⟨e4,rfl,rfl⟩⟩):p:=h
theorem Wh {p:Prop} (h:p:=by
 go_wp2_with fail;refine (cB cs s i d _ cK.o oM oM).mono ?_;rintro e w1 ⟨rfl,q,rfl⟩;rw [←HC.o];go_wp2_with fail;obtain⟨w1,dM,dL,jD,bt⟩:=eR (n:=q) cK.o HB.o ((i:Int)+1);rw [←dM];have dp:=Hd bt;have sp:=Hd jD;have dF:=Hd dL;clear bt dM jD dL;refine (kq cs s ⟨#[10]⟩ (i+1) d _ dF.o oM iP dC (by rw [aq,bI];exact HH.o)).mono ?_
 rintro e w2 ⟨rfl,cj,aS⟩;have gS:=Hd cj;have kQ:=Hd (sp.o.keep aS (λ_ _ e=>e));have cA:=Hd (dp.o.trans aS k3);clear cj aS;go_wp2_with fail;go_end0;rw [ay.o];exact xq (i:=i+1+1) gS.o kQ.o cA.o oM rfl oM):p:=h
theorem Wi {p:Prop} (h:p:=by
 go_enter Tryz.func42,Tryz.ntmps42;go_wp2_with fail;refine (aR cs s I _ _ h oM oM).mono ?_;rintro e w1 ⟨rfl,q1,rfl⟩;rw [HC.o];obtain⟨W0,hW⟩:∃W0,W0=w.drewN q1:=⟨_,rfl⟩;rw [←hW];have kC:ah W0 cs s I ((0:Nat):Int):=by rw [hW];exact h.drewN _
 have ky:=Hd (show ae (λ b=>b=cs) w W0 by rw [hW];exact (ae.refl _ _).drewN _);clear hW;go_wp2_with fail;refine (fl cs s I 0 2 _ kC).mono ?_;rintro e w2 ⟨rfl,cj,aS⟩;have gS:=Hd cj;have cA:=Hd (ky.o.trans aS (λ_ _ e=>e));clear cj aS;go_wp2_with fail;go_ret;rw [pk.o];exact⟨dC,_,I,raw,rfl,oM,gS.o,l5.o.keep cA.o (λ_ _ e=>oM),oM,cA.o.mono λ_ _ e=>.inl e⟩):p:=h
theorem Wj {p:Prop} (h:p:=by
 change wpList _ _ _ _ _ wr.drew;go_wp2_with fail;refine (HP.o _ ((ae.refl _ _).drew)).mono ?_;rintro e w2 ⟨rfl,aS⟩;have cA:=Hd ((HK.o.trans ((ae.refl (λ_=>False) wr).drew) k3).trans aS k3);clear aS HP;exact S3):p:=h
theorem Wk {p:Prop} (h:p:=by
 have HE:=Hd (show decide (s.size≤K)=true from nU lv);have HP:=Hd (A1 (J:=K+1) hI HQ.o dC (HA.o.over lv) oM oM);go_wp2_with fail;refine (bk cs s K _ _ HS.o).mono ?_;rintro e w3 ⟨rfl,q3,rfl⟩;rw [HE.o];obtain⟨w5,jk⟩:∃w5,w5=wr.drewN q3:=⟨_,rfl⟩;rw [←jk];have dV:ah w5 cs s K ((0:Nat):Int):=by rw [jk];exact HS.o.drewN _
 have fL:=Hd (show ae (λ b=>b=cs) w w5 by rw [jk];exact HK.o.drewN _);exact Q0):p:=h
theorem aaN {p:Prop} (h:p:=by
 have C0:=Hd (t7 w8 Lo B ps n j 0 tv T HG.o.rs);rw [mj] at C0;have HLA2:=Hd (HGO2.o mj);clear mj;go_wp2_with fail;refine C0.o.mono ?_;rintro e wq ⟨rfl,q2,rfl⟩;go_wp2_with fail;go_roundg (T.length+2000 - j)
 case measure=>have:=fK.o;have:=zS.o;have:=HIJ2.o;omega
 case rel=>exact⟨j,m+1,_,_,acc++dd,rfl,rfl,by have:=zS.o;have:=HIJ2.o;omega,hjT2,by have:=zS.o;have:=HIJ2.o;omega,Hd ((HG.o.weak (λ_=>iD.o)).keep0 ((ae.refl _ _).drewN q2)),Hd (HZ.o.keep ((ae.refl (λ_=>False) _).drewN q2) (λ h=>h)),Hd (JH.o iD.o),HLA2⟩):p:=h
theorem Wl {p:Prop} (h:p:=by
 cases dU:ec (av (ab K)) z.word with
 | error y=>
  rw [dU] at XN;obtain⟨rfl,hy⟩:=XN;have bO:=Hd (show res=.error x2 by rw [ay.o,dU]);clear h5 bi dU;go_wp2_with fail;go_roundw
  case rel=>exact⟨k+1,x2,by go_num,oM,l6,fL,.inr ⟨hy,bO⟩⟩
  case measure=>simp [intOf];omega
 | ok u2=>
  rw [dU] at XN;obtain rfl:=XN;have bO:=Hd (show res=ec (av (ab K)) (l.drop (k+1)) by rw [ay.o,dU]);clear h5 bi dU;go_wp2_with fail;go_roundw
  case rel=>exact⟨k+1,0,by go_num,oM,l6,fL,.inl ⟨rfl,bO⟩⟩
  case measure=>simp [intOf];omega):p:=h
theorem Wm {p:Prop} (h:p:=by
 clear u9 hn;go_wp2_with fail;refine (bk cs s I _ _ jZ.o).mono ?_;rintro e w1 ⟨rfl,q1,rfl⟩;rw [HE.o];go_wp2_with fail;refine (aR cs s I _ _ (jZ.o.drewN _) oM oM).mono ?_;rintro e w2 ⟨rfl,q2,rfl⟩;rw [Bd.o];obtain⟨w2,aQ,cj,aS⟩:=cD (n:=q1+q2) jZ.o ((I:Int)+1);obtain⟨d0,d1,d2,g1,g2⟩:=jZ.o.cells;go_wp2_with fail;rw [←aQ];go_roundg (s.size+2 - (I+1))
 case measure=>have:=fK.o;omega
 case rel=>exact⟨n,I+1,by go_num,rfl,oM,oM,cj,Hd (HK.o.trans aS (λ_ _ e=>e)),HN⟩):p:=h
theorem S2 {p:Prop} (h:p:=by
 have dv:=Hd fi;have uP:=Hd jk;clear fi jk dV bi;go_wp2_with fail;rw [←uP.o];refine dv.o.mono ?_;intro e w6 hp;rw [←oD.o] at hp;obtain⟨a,n,cc,rfl,uL⟩:=hp.from fL.o;have HP:=Hd uL;clear hp uL;go_wp2_with fail;go_ret;exact HP.o):p:=h
theorem DF {p:Prop} (h:p:=by
 rw [nI,List.length_tail,nI] at this;omega):p:=h
theorem NX {p:Prop} (h:p:=by
 have he:=hp.1;subst he;have HF:=Hd cm;clear hp cm;go_wp2_with fail;go_end0;rw [ay.o];exact HF.o):p:=h
theorem Wn {p:Prop} (h:p:=by
 go_wp2_with fail;go_quiet (fail);go_wp2_with fail;go_ret;rw [gF.o];exact⟨rfl,_,rfl⟩):p:=h
theorem Wo {p:Prop} (h:p:=by
 clear Gf tb;obtain⟨d0,d1,d2,g1,g2⟩:=H2.o.sc.cells;obtain⟨W3,hW⟩:∃Z:World,Z=W2.setCell ⟨cs,1,none⟩ (.int .i64 ((I:Int)+1)):=⟨_,rfl⟩;obtain⟨gM,Lz⟩:=dl H2.o.sc (j:=(I:Int)+1) (J:=I+1) oM;have H3:=Hd (show sA W W3 cs ob H s (I+1) l (.slice va vn vc) by rw [hW];exact H2.o.move Lz gM yg B0);have YH:=Hd hW;clear hW gM Lz;go_wp2_with fail;rw [←YH.o];go_roundg (s.size+2 - (I+1))
 case measure=>have:=xS.o;omega
 case rel=>exact⟨I+1,l,rfl,oM,oM,H3.o,HN⟩):p:=h
theorem Wp {p:Prop} (h:p:=by
 have mn:=Hd ji;clear Y2 ji;go_wp2_with fail;refine mn.o.mono ?_;rintro e w6 ⟨v6,rfl,cv,eP⟩;obtain⟨a6,n6,c6,rfl⟩:∃a n c,v6=.slice a n c:=by obtain⟨a,c,e,_⟩:=cv.shape;exact⟨a,_,c,e⟩
 have HROW6:=Hd cv;have HKEEP:=Hd eP;clear cv eP;go_wp2_with fail;go_ret;rw [oD.o];exact⟨_,I+1,rfl,oM,rfl,d6.keep HKEEP.o (λ e=>oM),HROW6.o,by rw [bv];show er raw+(1+1+0)≤_;omega,(bZ.o.mono λ_ _ e=>.inl e).trans HKEEP.o (λ_ _ e=>.inr e)⟩):p:=h
theorem Wq {p:Prop} (h:p:=by
 rw [←rp];replace HG:=Hd (HG.o.keep0 (show K0 wk wa by rw [rp];exact (ae.refl _ _).drewN _));clear rp;obtain⟨c0,c1,c2,f1,f2⟩:=HG.o.rs.cells;have aW:=HG.o.rs.lt;go_wp2_with fail;go_meet
 case rel=>
  have hG:=HG.o.inc bA.o (nM _) gE.o oM;have yf:=λ g=>hG.all g;exact⟨gd,I+1,0,la,m,lc,acc,_,rfl,Hd ⟨by have:=Pk.o;omega,oM⟩,Hd hG.rs,Hd hG.kp,Hd hG.zr,Hd hG.rc,Hd (λ g=>wV hG g),Hd HE.o⟩):p:=h
theorem Wr {p:Prop} (h:p:=by
 rw [←rp];replace HG:=Hd (HG.o.keep0 (show K0 wr wa by rw [rp];exact (ae.refl _ _).drewN _));clear rp;obtain⟨c0,c1,c2,f1,f2⟩:=HG.o.rs.cells;have aW:=HG.o.rs.lt;go_wp2_with fail;go_meet
 case rel=>
  have hG:=HG.o.inc bA.o (nM _) gE.o oM;have yf:=λ g=>hG.all g;exact⟨gd,I+1,x,la,m,lc,acc,_,rfl,Hd ⟨by have:=Pk.o;omega,oM⟩,Hd hG.rs,Hd hG.kp,Hd hG.zr,Hd hG.rc,Hd (λ g=>wV hG g),Hd HE.o⟩):p:=h
theorem Ws {p:Prop} (h:p:=by
 go_wp2_with fail;refine (bk cs s I _ _ jZ.o).mono ?_;rintro e w1 ⟨rfl,q1,rfl⟩;rw [HE.o];go_wp2_with fail;refine (fl cs s I 0 2 _ (jZ.o.drewN _)).mono ?_;rintro e w2 ⟨rfl,cj,aS⟩;have gS:=Hd cj;have cA:=Hd ((HK.o.drewN q1).trans aS (λ_ _ e=>e));clear cj aS;go_wp2_with fail;go_ret;rw [HX.o];exact⟨dC,_,I,raw,rfl,oM,gS.o,by rw [HL.o];rw [HL.o] at HR;exact HR.o.keep cA.o (λ_ _ e=>oM),oM,cA.o.mono λ_ _ e=>.inl e⟩):p:=h
theorem Wt {p:Prop} (h:p:=by
 rw [←jk];have dV:ah w5 cs s K ((0:Nat):Int):=by rw [jk];exact (HS.o.drewN _).drewN _
 have fL:=Hd (show ae (λ b=>b=cs) w w5 by rw [jk];exact (HK.o.drewN _).drewN _);obtain⟨d0,d1,d2,g1,g2⟩:=dV.cells;clear jk;go_wp2_with fail;obtain⟨lM,cu⟩:=dl dV (j:=(K:Int)+1) (J:=K+1) oM;go_roundg (s.size+3 - (K+1))
 case measure=>have:=HG.o;omega
 case rel=>exact⟨K+1,rfl,oM,oM,Hd lM,Hd (fL.o.trans cu (λ_ _ e=>e)),HN⟩):p:=h
theorem Wu {p:Prop} (h:p:=by
 go_wp2_with fail;refine (cB cs s i d _ cK.o oM oM).mono ?_;rintro e w1 ⟨rfl,q,rfl⟩;rw [←HC.o];go_wp2_with fail;obtain⟨w1,dM,dL,jD,bt⟩:=eR (n:=q) cK.o HB.o ((i:Int)+1);rw [←dM];have dp:=Hd bt;have sp:=Hd jD;have dF:=Hd dL;clear bt dM jD dL;refine (fQ 2 _).mono ?_;rintro e w2 ⟨rfl,rfl⟩;go_wp2_with fail;refine⟨rfl,?_⟩;rw [ay.o];exact⟨rfl,dp.o.mono λ_ _ h=>.inl h⟩):p:=h
theorem Wv {p:Prop} (h:p:=by
 clear h h0 h1 h2 h3 h4;go_enter Tryz.func161,Tryz.ntmps161;go_wp2_with fail;refine (H0.o 0).mono ?_;rintro e w0 ⟨rfl,q0,rfl⟩;go_wp2_with fail;refine (H1.o q0).mono ?_;rintro e w1 ⟨rfl,q1,rfl⟩;go_wp2_with fail;refine (H2.o q1).mono ?_;rintro e w2 ⟨rfl,q2,rfl⟩;go_wp2_with fail;refine (H3.o q2).mono ?_;rintro e w3 ⟨rfl,q3,rfl⟩;go_wp2_with fail;refine (H4.o q3).mono ?_;rintro e w4 ⟨rfl,q4,rfl⟩
 go_wp2_with fail;go_ret;exact⟨rfl,q4,rfl⟩):p:=h
theorem Ww {p:Prop} (h:p:=by
 have he:decide (s.size≤I)=true:=nU oM;have HE:=Hd he;clear he;have hr:res=none:=by rw [←ay.o];exact C3.o.over oM
 have HR:=Hd hr;clear hr;go_wp2_with fail;refine (dT b s I d _ cK.o).mono ?_;rintro e w1 ⟨rfl,q1,rfl⟩;rw [HE.o];go_wp2_with fail;refine (fQ 2 _).mono ?_;rintro e w4 ⟨rfl,rfl⟩;go_wp2_with fail;refine⟨rfl,?_⟩;rw [HR.o];exact⟨rfl,rt.o.drewN _⟩):p:=h
theorem S3 {p:Prop} (h:p:=by
 go_wp2_with fail;go_roundw
 case rel=>exact⟨k+1,by go_num,oM,cA⟩
 case measure=>simp [intOf];omega):p:=h
theorem S4 {p:Prop} (h:p:=by
 obtain⟨l,r⟩:=lr;rw [bM] at hp cm;have dU:=ay.o.trans bM;have gF:=Hd dU;have he:=hp.1;subst he;have HF:=Hd cm;clear hp cm bM dU;go_wp2_with fail;go_end0;rw [gF.o];exact HF.o):p:=h
theorem S5 {p:Prop} (h:p:=by
 rw [bM] at hp cm;have dU:=ay.o.trans bM;have gF:=Hd dU;have he:=hp.1;subst he;have HF:=Hd cm;clear hp cm bM dU;go_wp2_with fail;refine⟨rfl,?_⟩;rw [gF.o];exact HF.o):p:=h
theorem Wx {p:Prop} (h:p:=by
 exact⟨r4,⟨r1,r2,r3,r5,p1,p2,p3,λ g hg=>(by have h9:gg=g:=nD hg;subst h9;exact⟨a1,a2,a3,a4⟩),
  λ g hg=>⟨(h4.l2 g hg).1,(h4.l2 g hg).2.1,λ e=>(by have h9:gg=g:=nD e;exact a3 (by rw [h9];exact hg)),(h4.l2 g hg).2.2.2⟩,
  λ g hg=>⟨(h4.l3 g hg).1,(h4.l3 g hg).2.1,λ e=>(by have h9:gg=g:=nD e;exact a4 (by rw [h9];exact hg)),(h4.l3 g hg).2.2.2⟩⟩⟩):p:=h
theorem Wy {p:Prop} (h:p:=by
 exact⟨r4,⟨r1,r2,r3,r5,p2,p1,p3,λ g hg=>⟨(h4.l1 g hg).1,(h4.l1 g hg).2.1,λ e=>(by have h9:gg=g:=nD e;exact a3 (by rw [h9];exact hg)),(h4.l1 g hg).2.2.2⟩,
  λ g hg=>(by have h9:gg=g:=nD hg;subst h9;exact⟨a1,a2,a3,a4⟩),
  λ g hg=>⟨(h4.l3 g hg).1,(h4.l3 g hg).2.1,(h4.l3 g hg).2.2.1,λ e=>(by have h9:gg=g:=nD e;exact a4 (by rw [h9];exact hg))⟩⟩⟩):p:=h
theorem NY {p:Prop} (h:p:=by
 simp only [Option.bind_some,Option.map_some];rw [List.drop_succ_cons];cases ce .n o (t.drop k) with
 | none=>rfl
 | some m=>simp;omega):p:=h
theorem Wz {p:Prop} (h:p:=by
 exact⟨r4,⟨r1,r2,r3,r5,p2,p3,p1,λ g hg=>⟨(h4.l1 g hg).1,(h4.l1 g hg).2.1,(h4.l1 g hg).2.2.1,λ e=>by have h9:gg=g:=nD e;exact a3 (by rw [h9];exact hg)⟩,
  λ g hg=>⟨(h4.l2 g hg).1,(h4.l2 g hg).2.1,(h4.l2 g hg).2.2.1,λ e=>by have h9:gg=g:=nD e;exact a4 (by rw [h9];exact hg)⟩,λ g hg=>by have h9:gg=g:=nD hg;subst h9;exact⟨a1,a2,a3,a4⟩⟩⟩):p:=h
theorem NZ {p:Prop} (h:p:=by
 go_enter Tryz.func140,Tryz.ntmps140;go_wp2_with fail;go_ret;exact⟨rfl,(ae.refl _ _).alloc _⟩):p:=h
theorem WA {p:Prop} (h:p:=by
 rw [eI.o];have hj2:=((HO.o.alloc (.cells #[.int .i64 (p.kind:Nat),T,.string ⟨p.name.toArray⟩,.string ⟨p.op.toArray⟩,.slice pa pl pc,p.quoted] 67)).drewN (nq+1));have ow:=fs.join (p:=p) (s:=TY++T) (c:=co) (g:=go) (l:=l) (y:=y) (by rw [Di.o];exact hj2) (by rw [GH,HTY.o,HT.o]);rw [show (l++[y.join p]).length=l.length+1 by simp] at ow;exact ow):p:=h
theorem xY {p:Prop} (h:p:=by
 go_wp2_with fail;go_ret;exact⟨rfl,rfl⟩):p:=h
theorem N0 {p:Prop} (h:p:=by
 have Nm:=HK.o.size;rcases bf with bf | bf
 ·first | (cases bf;done) | (obtain rfl:=nD bf;omega)
 ·omega):p:=h
theorem GL {p:Prop} (h:p:=by
 refine⟨e,?_⟩;rw [e];unfold cw;exact WC):p:=h
theorem WB {p:Prop} (h:p:=by
 rcases ho.2 with h0 | ⟨g,aC,x8,rfl,hb,hg,rest⟩
 ·exact .inl h0
 ·exact Q8):p:=h
theorem N3 {p:Prop} (h:p:=by
 refine .inl ⟨g,h0,?_⟩;rw [hr];unfold mh;dsimp only;rw [nE (by rw [Bool.or_eq_true];exact fB),aG]):p:=h
theorem WC {p:Prop} (h:p:=by
 rw [ho];unfold aF;rw [hp];rfl):p:=h
theorem aaO {p:Prop} (h:p:=by
 rw [dU] at hp;obtain⟨he,aV⟩:=hp;subst he;have bO:=Hd (show res=ec (av (ab K)) (l.drop (k+1)) by rw [ay.o,dU]);have bZ:=Hd (qj.o.trans aV k3);clear aV dU;go_wp2_with fail;go_roundw
 case rel=>exact⟨k+1,by go_num,oM,Hd bO.o,Hd bZ.o⟩
 case measure=>simp [intOf];omega):p:=h
theorem GM {p:Prop} (h:p:=by
 go_wp2_with fail;go_meet
 case rel=>exact⟨by rw [HV.o],rfl⟩):p:=h
theorem WD {p:Prop} (h:p:=by
 refine⟨ys,cm,hyo.1,?_⟩;rcases hyo.2 with h0 | ⟨g',DG,x8,e,hb,hg,rest⟩
 ·exact .inl h0
 ·have hq:=hv g' (by rw [e];rfl);have Xx:=(Array.getElem?_eq_some_iff.1 hg).1;exact .inr ⟨g',DG,x8,e,hb,(cu.block g' (uG Xx bi.size) hq.2).trans ((bi.block g' Xx hq.1).trans hg),rest⟩):p:=h
theorem S6 {p:Prop} (h:p:=by
 rcases ho.2 with ⟨rfl,h0⟩ | ⟨g,aC,x8,rfl,_,_,h1,h2,_⟩
 ·exact⟨none,0,by rw [h0],oM,nB _⟩
 ·exact⟨_,aC,rfl,h1,h2⟩):p:=h
theorem WE {p:Prop} (h:p:=by
 rw [bM] at hp;have dU:=HR.o;rw [bM] at dU;dsimp only at dU;obtain⟨he,aS⟩:=hp;subst he;have gF:=Hd dU;have cA:=Hd (dp.o.trans aS (λ_ _ e=>e));exact Q5):p:=h
theorem WF {p:Prop} (h:p:=by
 obtain⟨f1,f2,f3⟩:=cI HK.o HS.o bA.o HF.o (ap wf w.heap.size (.int .i64 v.k) (.bool v.nt) (.string v.nm) (.slice v.a0 v.n0 v.c0) (.slice v.a1 v.n1 v.c1) (.slice v.a2 v.n2 v.c2) (.slice v.a3 v.n3 v.c3) (.slice v.a4 v.n4 v.c4));exact⟨v,I,0,rfl,mI,Ng,f1,f2,f3⟩):p:=h
theorem WG {p:Prop} (h:p:=by
 obtain⟨f1,f2,f3⟩:=cI HK.o HS.o bA.o HF.o (ap wf w.heap.size (.int .i64 v.k) (.bool v.nt) (.string v.nm) (.slice v.a0 v.n0 v.c0) (.slice v.a1 v.n1 v.c1) (.slice v.a2 v.n2 v.c2) (.slice v.a3 v.n3 v.c3) (.slice v.a4 v.n4 v.c4));exact⟨v,I,x,rfl,mI,Ng,f1,f2,f3⟩):p:=h
theorem S7 {p:Prop} (h:p:=by
 rw [h2] at h;obtain rfl:=nD h;obtain⟨i1,i2⟩:=yN t e _ j h2;rw [i1];exact KP):p:=h
theorem WH {p:Prop} (h:p:=by
 have w1:y.text.length≤er raw:=nY (Gn (l:=l++[y]) sI) (by rw [Dk.o];exact nY (Mg _) (MU _ _));have w2:p.text.length≤er raw:=Gn (by rw [HP.o];exact uD _);rw [nT,nT,HTY.o,HT.o];omega):p:=h
theorem WI {p:Prop} (h:p:=by
 cases r with
 | nil=>cases h
 | cons c t=>
  simp only at h;split at h
  ·cases h;exact Nat.le_succ _
  split at h
  ·cases h
  ·next l' r' h1=>
   obtain⟨m',h',_⟩:=gY h;have e1:=ih _ _ _ _ _ h1;have e2:=ih _ _ _ _ _ h';simp only [Md.least] at e1 e2 ⊢;omega):p:=h
theorem WJ {p:Prop} (h:p:=by
 go_wp2_with fail;refine (ti w.heap.size _ raw _ sr.o.row sr.o.size oM).mono ?_;rintro e wt ⟨v2,n2,rfl,hp,hk⟩;have HP:=Hd hp;have cA:=Hd hk;clear hp hk;go_wp2_with fail;go_ret;exact CG sr.o oM Fd.o HP.o cA.o):p:=h
theorem S8 {p:Prop} (h:p:=by
 go_enter Tryz.func195,Tryz.ntmps195;go_wp2_with fail;go_quiet (fail);go_wp2_with fail;go_ret;exact⟨rfl,(ae.refl _ _).drewN _⟩):p:=h
theorem WK {p:Prop} (h:p:=by
 go_enter Tryz.func95,Tryz.ntmps95;go_wp2_with fail;go_quiet ((go_at_call 93;first | with_reducible exact H0.o _ | with_reducible exact H1.o _));go_wp2_with fail;refine (HP.o nq).mono ?_;exact KN):p:=h
theorem KX {p:Prop} (h:p:=by
 go_wp2_with fail;go_ret;exact⟨rfl,_,rfl⟩):p:=h
theorem N4 {p:Prop} (h:p:=by
 go_wp2
 all_goals (go_ret;exact⟨sh (by rw [Bool.eq_iff_iff];simp;omega),rfl⟩)):p:=h
theorem WL {p:Prop} (h:p:=by
 clear hq h2;go_enter Tryz.func194,Tryz.ntmps194;go_wp2_with fail;refine (mK.o _).mono ?_;rintro e w1 ⟨rfl,dM⟩;rw [show cU (⟨l.toArray⟩:ByteArray).data.toList=R from HR.o.symm];subst dM;go_wp2_with fail;go_ret;exact⟨rfl,ae.refl _ _⟩):p:=h
theorem WM {p:Prop} (h:p:=by
 exact⟨.int _,.bool _,.str _,gC h.o1 (λ b hb=>hb.1.1) (λ g hg=>(h.l1 g hg).1),gC h.o2 (λ b hb=>hb.1.1) (λ g hg=>(h.l2 g hg).1),gC h.o3 (λ b hb=>hb.1.1) (λ g hg=>(h.l3 g hg).1),.nil _ _ _ (nB _),.nil _ _ _ (nB _),trivial⟩):p:=h
theorem WN {p:Prop} (h:p:=by
 rw [bM] at cm;have dU:=HR.o;rw [bM] at dU;have gF:=Hd dU;obtain⟨he,bi⟩:=cm;subst he;have fL:=Hd (zT.o.next I5.o bi);clear bM dU bi;go_wp2_with fail;refine⟨rfl,?_⟩;rw [gF.o];exact⟨rfl,sR fL.o⟩):p:=h
theorem WO {p:Prop} (h:p:=by
 go_wp2_with fail;refine (gkz b s _ i d _ (eY.drewN q) hi (by rw [aq];exact HS.o)).mono ?_;rintro e w2 ⟨rfl,q2,rfl⟩;go_wp2_with fail;go_roundw
 case rel=>exact⟨k+1,_,by go_num,oM,rfl,Sj⟩
 case measure=>simp [intOf];omega):p:=h
theorem WP {p:Prop} (h:p:=by
 by_cases h2:p.kind=2
 ·by_cases h3:p.text=[]
  ·exact nQ (by unfold Pt.isE;rw [h2,h3];rfl) hE
  ·obtain⟨t1,t2⟩:=fd (s:=T) (by rw [vO];exact h3);exact .inr ⟨by rw [h2];rfl,t1,t2⟩
 ·exact .inl (by rw [nA];omega)):p:=h
theorem N5 {p:Prop} (h:p:=by
 go_round
 case rel=>exact⟨k+1,by go_num,HN⟩
 case measure=>simp [intOf];omega):p:=h
theorem N6 {p:Prop} (h:p:=by
 obtain⟨T,h⟩:=h;exact⟨T,by simp [World.setCell,Array.getElem?_modify,h]⟩):p:=h
theorem WQ {p:Prop} (h:p:=by
 have ux:=iG.o.i;rw [←ou,←i4];clear cu sG Nh i5 YU YT YV cv lz Y3 Oj ou i4;go_wp2_with fail;go_roundg (T.length - j4)
 case measure=>have:=fK.o;omega
 case rel=>exact⟨j4,M,_,rfl,oM,oM,M4,VC⟩):p:=h
theorem WR {p:Prop} (h:p:=by
 unfold av at h;cases hr:eQ (ab K) s with
 | ok ds=>
  rw [hr] at hp;obtain⟨a,m,c,he,_,hk⟩:=hp;exact⟨a,m,c,he,hk⟩
 | error x=>
  rw [hr] at hp h;cases x with
  | zero=>exact⟨none,0,0,hp.1,hp.2⟩
  | succ x=>cases h):p:=h
theorem WS {p:Prop} (h:p:=by
 go_enter Tryz.func201,Tryz.ntmps201;go_wp2_with fail;go_loopw [6] (λ k' wr=>k'=.int .i64 0∧wr=w) (λ_ _=>0)
 case atStart=>exact⟨rfl,rfl⟩
 case round=>
  obtain⟨rfl,rfl⟩:=hrel;go_wp2_with fail;go_end0;exact⟨rfl,rfl⟩):p:=h
theorem PC {p:Prop} (h:p:=by
 refine⟨some ⟨g5,0,none⟩,rG,m',by rw [hl],?_,bp⟩;rw [←hl];exact ((hm'.keep Nk (λ b _ h e=>oM)).keep Za (λ b _ h e=>oM)).mono (λ b _ h=>by rcases h with h | h;exact .inl h.1;exact .inr oM)):p:=h
theorem Fu {p:Prop} (h:p:=by
 go_wp2_with fail;go_ret;exact⟨rfl,HK.o⟩):p:=h
theorem Fv {p:Prop} (h:p:=by
 go_wp2_with fail;have qD:=xV.o;subst qD;go_meet
 case rel=>exact HF.o):p:=h
theorem vx {p:Prop} (h:p:=by
 exact⟨oM,oM⟩):p:=h
theorem PD {p:Prop} (h:p:=by
 rintro e w2 ⟨rfl,h2,aS⟩;rw [←HY.o] at h2;have H2:=Hd h2;have cA:=Hd (((ae.refl (λ b=>b=ps) w).drewN _).trans aS k3);clear h2 aS;go_wp2_with fail;go_ret;exact⟨rfl,H2.o,cA.o⟩):p:=h
theorem PE {p:Prop} (h:p:=by
 have HK:=Hd hk;clear hp hk;go_wp2_with fail;refine (jE _).mono ?_;rintro e w2 ⟨rfl,rfl⟩;go_wp2_with fail;refine⟨rfl,?_⟩;rw [ay.o];exact⟨rfl,(HK.o.alloc _).mono (λ_ _ h=>h.elim)⟩):p:=h
theorem PF {p:Prop} (h:p:=by
 have ux:=kJ.o.2.1;clear kh kJ kS;go_wp2_with fail;go_roundg (T.length - j4)
 case measure=>have:=fK.o;omega
 case rel=>exact⟨j4,M,m+1,_,aC,acc++[aB x],rfl,oM,oM,oM,fc,qn⟩):p:=h
theorem Fw {p:Prop} (h:p:=by
 obtain⟨_,rfl⟩:=uJ (uI h);exact nC _):p:=h
theorem PH {p:Prop} (h:p:=by
 unfold av at h;cases hr:eQ (ab K) s with
 | ok ds=>rw [hr] at h;cases h
 | error x=>
  rw [hr] at hp h;cases x with
  | zero=>cases h
  | succ x=>cases h;exact⟨hp.1,Nat.succ_ne_zero _,hp.2⟩):p:=h
theorem PI {p:Prop} (h:p:=by
 go_enter Tryz.func124,Tryz.ntmps124;go_wp2_with fail;refine HW.o.mono ?_;rintro e w1 ⟨rfl,q,rfl⟩;go_wp2_with fail;go_quiet (fail);go_wp2_with fail;go_ret;rw [gF.o];exact⟨rfl,q+nq,rfl⟩):p:=h
theorem BH {p:Prop} (h:p:=by
 have:=h ⟨c.toNat,c.toNat_lt⟩;simpa using this):p:=h
theorem PJ {p:Prop} (h:p:=by
 refine (h2.keep hk (λ b _ hd s=>by rcases s with s | s;exact hd.1.1.2 s;exact hd.1.2 s)).mono λ b _ hd=>⟨hd.1.1,λ e=>?_⟩;exact KO):p:=h
theorem PK {p:Prop} (h:p:=by
 clear hr;subst dU;go_enter Tryz.func82,Tryz.ntmps82;go_wp2_with (go_at_call 78;refine (Tryz.strings_IndexByte _ _ _).mono ?_;rintro e w1 ⟨rfl,dM⟩;subst dM);go_ret;exact⟨rfl,rfl⟩):p:=h
theorem Fx {p:Prop} (h:p:=by
 exact⟨by simp [er,cq,Pt.text,Md.slack];omega,oj.quo _⟩):p:=h
theorem PL {p:Prop} (h:p:=by
 obtain rfl | rfl | rfl | rfl | rfl | rfl | rfl | rfl | rfl | rfl | rfl | rfl | rfl:k=0∨k=1∨k=2∨k=3∨k=4∨k=5∨k=6∨k=7∨k=8∨k=9∨k=10∨k=11∨k=12:=oM
 all_goals rfl):p:=h
theorem Kq {p:Prop} (h:p:=by
 rcases nP i T.length with hi | hi
 ·exact hi
 ·rw [iM hi] at hk;cases hk):p:=h
theorem Kr {p:Prop} (h:p:=by
 split at h
 ·cases h
 ·next x2 y2 dy=>
  have h2:=Kp hc _ _ _ dy;cases h;omega):p:=h
theorem PM {p:Prop} (h:p:=by
 rw [yW];have gM:=Fs (i:=i) h.sm;unfold aJ;split
 ·split
  ·next p hp=>
   split
   ·have:=ns gM.1.2 (p:=p) (by rw [hp];simp);omega
   ·simp
  ·simp
 ·simp):p:=h
theorem PN {p:Prop} (h:p:=by
 have hm:=List.mem_of_getElem? hu;rw [e2] at hm;simp only [cH,dj,List.mem_cons,List.not_mem_nil,or_false] at hm;rcases hm with rfl | rfl | rfl | rfl | rfl | rfl<;>rfl):p:=h
theorem Ks {p:Prop} (h:p:=by
 rcases eI.o with ⟨g,_,h9⟩ | ⟨h9,_⟩
 ·exact⟨g,h9⟩
 ·exact nQ rfl h9):p:=h
theorem PO {p:Prop} (h:p:=by
 rw [uB (nC _),uB oM];simp only [hl,Nat.sub_self,nN];exact (gC _ _ _ hx).le oM):p:=h
theorem PP {p:Prop} (h:p:=by
 cases p with
 | mk k t n o w q=>
  simp only [ec,RO,Pt.kind,Pt.text,Pt.word];by_cases h:(k==5)=true
  ·simp only [h,if_true];cases scr t<;>rfl
  ·simp only [h];rfl):p:=h
theorem Fy {p:Prop} (h:p:=by
 rcases bf with h | h;exact .inl h;exact .inr oM):p:=h
theorem PQ {p:Prop} (h:p:=by
 clear hq h2;go_enter Tryz.func165,Tryz.ntmps165;go_wp2_with fail;refine (mK.o 0).mono ?_;rintro e w1 ⟨rfl,q0,rfl⟩;go_wp2_with fail;go_ret;exact⟨rfl,q0,rfl⟩):p:=h
theorem Fz {p:Prop} (h:p:=by
 cases h;exact⟨by simp [er,Md.slack];omega,oj.nil⟩):p:=h
theorem FA {p:Prop} (h:p:=by
 rcases h.at with ⟨t,r,rfl⟩ | ⟨rfl,e',rfl⟩<;>rfl):p:=h
theorem PS {p:Prop} (h:p:=by
 rw [IV] at h;obtain⟨rfl,rfl⟩:=uJ (uI h);rw [List.nil_append,jx,nE (by rw [hb];rfl)];exact⟨rfl,hf,nC _⟩):p:=h
theorem PT {p:Prop} (h:p:=by
 rw [List.contains_iff_mem] at hh ⊢;simp only [fe,List.mem_cons,List.not_mem_nil,or_false] at hh;rcases hh with h | h | h | h | h | h<;>rw [h]<;>decide):p:=h
theorem PU {p:Prop} (h:p:=by
 cases n with
 | zero=>exact⟨[],h,λ x hx=>by cases hx⟩
 | succ n=>
  obtain⟨xs,h1,h2⟩:=h;exact⟨xs,h1,λ x hx=>⟨Nat.succ_pos _,h2 x hx⟩⟩):p:=h
theorem PV {p:Prop} (h:p:=by
 have hp:=Cl h;unfold fj bB aF bP;unfold aj at h ⊢;rw [nW] at h;rw [hp,nH.1 h.1,nH.1 h.2];decide):p:=h
theorem PW {p:Prop} (h:p:=by
 obtain⟨l,r1⟩:=x;have hl:=cS _ _ _ _ _ _ h;simp only [Md.least,lC] at hl hn hm;dsimp only;rw [ih m r1 oM oM]):p:=h
theorem PX {p:Prop} (h:p:=by
 rcases bf with h | h
 ·exact (l1 gg h).2.2
 ·exact⟨λ e=>by have:=Xu gg (.inr (.inl e));omega,λ e=>by have:=Xu gg (.inr (.inr e));omega⟩):p:=h
theorem Kt {p:Prop} (h:p:=by
 exact⟨_,eB _ rfl,λ hj=>by rw [nD hp];exact .str _⟩):p:=h
theorem PY {p:Prop} (h:p:=by
 go_wp2_with fail;have qD:=xV.o;subst qD;go_meet
 case rel=>exact⟨by rw [HJ.o,Ur.o];exact dV,by rw [Ur.o];exact I6.o,fL.o⟩):p:=h
theorem Ku {p:Prop} (h:p:=by
 have hl:=h.lt;obtain⟨T,h⟩:=h;exact⟨T,(hk.block b hl hb).trans h⟩):p:=h
theorem PZ {p:Prop} (h:p:=by
 simp only [Option.bind_some];rw [b8,show I+1+k=I+(k+1) by omega];cases ce .n o (rest s (I+(k+1))) with
 | none=>rfl
 | some m=>simp;omega):p:=h
theorem Kv {p:Prop} (h:p:=by
 go_wp2_with fail;refine⟨rfl,?_⟩;rw [bO.o];exact⟨rfl,JO.o⟩):p:=h
theorem FB {p:Prop} (h:p:=by
 go_ret;exact⟨A5 (by rw [pZ.o]),rfl⟩):p:=h
theorem Kw {p:Prop} (h:p:=by
 obtain⟨rfl,rfl⟩:=uJ (uI h);exact⟨rfl,Ol⟩):p:=h
theorem yJ {p:Prop} (h:p:=by
 cases h;exact nC _):p:=h
theorem P0 {p:Prop} (h:p:=by
 go_wp2_with fail;go_quiet (fail);go_wp2_with fail;go_quiet (fail);go_wp2_with fail;go_ret;exact⟨by rw [←E.out];rfl,Tb _ _ _⟩):p:=h
theorem P1 {p:Prop} (h:p:=by
 unfold aj at h ⊢;rw [nW] at h;rw [h.1,Bool.true_and,nH.1 h.2,nA];exact λ e=>hs e.symm):p:=h
theorem P2 {p:Prop} (h:p:=by
 have hx:((x:Int) != 0)=true:=by
  rw [bne_iff_ne];omega
 clear bt gB;go_wp2_with fail;go_ret2;rw [bO.o];exact⟨rfl,HK.o⟩):p:=h
theorem P3 {p:Prop} (h:p:=by
 rcases List.eq_nil_or_concat vs with h | ⟨us,u,h⟩
 ·rw [h] at hl;simp at hl
 ·exact⟨us,u,by rw [h,List.concat_eq_append]⟩):p:=h
theorem P4 {p:Prop} (h:p:=by
 rcases aU.2 with ⟨_,h0⟩ | ⟨g,aC,x8,e,_⟩
 ·rw [bS] at h0;omega
 ·simp only [Value.slice.injEq] at e;exact⟨g,e.1⟩):p:=h
theorem P5 {p:Prop} (h:p:=by
 go_wp2_with fail;go_roundw
 case rel=>exact⟨k+1,by go_num,oM,Hd (Pi.o _),Sj⟩
 case measure=>simp [intOf];omega):p:=h
theorem Kx {p:Prop} (h:p:=by
 obtain⟨a',c',e,h1,h2⟩:=Ok;injection e with e1 e2 e3;omega):p:=h
theorem P6 {p:Prop} (h:p:=by
 rw [uA hi,uA oM];exact (gC _ _ _ (eD i hi oM)).le oM):p:=h
theorem P7 {p:Prop} (h:p:=by
 have eI:=Hd e9;clear hp e9;go_wp2_with fail;go_roundg g'
 case measure=>have:=xS.o;omega
 case rel=>exact eI.o):p:=h
theorem Ky {p:Prop} (h:p:=by
 injection h with h;injection h with h1 h2;rw [←h1];exact ha):p:=h
theorem P8 {p:Prop} (h:p:=by
 have h9:(l++[y]).length≤raw.length:=by rw [Dk.o];exact nY (H5 _) (List.length_take_le' _ _)
 omega):p:=h
theorem Kz {p:Prop} (h:p:=by
 obtain⟨T,h⟩:=h;exact (Array.getElem?_eq_some_iff.1 h).1):p:=h
theorem P9 {p:Prop} (h:p:=by
 refine⟨?_,oj.leaf _ _ _ _ _⟩;simp only [er,Pt.text,Md.slack,List.length_take,nI] at this ⊢;omega):p:=h
theorem Qa {p:Prop} (h:p:=by
 have hj:j<6:=(List.getElem?_eq_some_iff.1 hu).1;rw [ho.cellAt _ oM,Nat.zero_add];exact jg hl hi j u hu):p:=h
theorem Qb {p:Prop} (h:p:=by
 rcases ql.o.2 with ⟨_,h0⟩ | ⟨G,aC,x8,e,_⟩
 ·omega
 ·simp only [Value.slice.injEq] at e;exact⟨G,e.1⟩):p:=h
theorem Qc {p:Prop} (h:p:=by
 exact⟨⟨6,false,⟨#[]⟩,none,0,0,none,0,0,none,0,0,la,m,lc,none,0,0⟩,_,_,rfl,fv.o.1,fv.o.2,f1,f2,f3⟩):p:=h
theorem Qe {p:Prop} (h:p:=by
 rcases e9 with ⟨_,h0,_⟩ | ⟨_,h⟩ | ⟨h0,_⟩
 ·exact nQ h0 hx
 ·exact QF.err hx h
 ·exact nQ h0 hx):p:=h
theorem Qf {p:Prop} (h:p:=by
 obtain rfl:false=q:=hq;go_enter Tryz.func194,Tryz.ntmps194;go_wp2_with fail;go_ret;exact⟨rfl,ae.refl _ _⟩):p:=h
theorem Qg {p:Prop} (h:p:=by
 split at h
 ·cases h
 ·next x y hq=>
  have h1:=sd hc _ _ _ hq;have h2:=tz n _ _ _ _ h;omega):p:=h
theorem FC {p:Prop} (h:p:=by
 go_wp2_with fail;go_ret2;exact HP.o):p:=h
theorem Qh {p:Prop} (h:p:=by
 go_wp2_with fail;go_roundg 0
 case measure=>have:=xS.o;omega
 case rel=>exact .inr ⟨x,rfl,HXR.o,kQ.o⟩):p:=h
theorem KA {p:Prop} (h:p:=by
 cases ts with
 | nil=>exact nQ rfl h
 | cons t r=>rfl):p:=h
theorem Qi {p:Prop} (h:p:=by
 have he:=hp.1;subst he;have HF:=Hd cm;clear hp cm;go_wp2_with fail;go_end0;rw [pZ.o];exact HF.o):p:=h
theorem Qj {p:Prop} (h:p:=by
 cases res with
 | ok ds=>obtain⟨a,m,c,he,_⟩:=h;exact⟨a,m,c,0,he⟩
 | error x=>exact⟨none,0,0,x,h.1⟩):p:=h
theorem KC {p:Prop} (h:p:=by
 refine⟨?_,h4⟩;simp only [Md.slack] at h3 ⊢;omega):p:=h
theorem Qk {p:Prop} (h:p:=by
 go_wp2_with fail;go_meet
 case rel=>exact⟨j4,_,_,_,rfl,⟨kJ.o.1,kJ.o.2.1,kJ.o.2.2.1⟩,fc⟩):p:=h
theorem Ql {p:Prop} (h:p:=by
 exact xi hx (Go.ownsRow_setCell_other aU (by simpa [Value.ownBlock] using oS) _) _ _ _ _ _ _):p:=h
theorem Qm {p:Prop} (h:p:=by
 obtain rfl:false=q:=hq;go_enter Tryz.func165,Tryz.ntmps165;go_wp2_with fail;go_ret;exact⟨rfl,0,rfl⟩):p:=h
theorem Qn {p:Prop} (h:p:=by
 rcases nP (j+k) s.size with x | x
 ·exact x
 ·have:=HH.o;rw [aX x] at this;cases this):p:=h
theorem Qo {p:Prop} (h:p:=by
 rw [lG.o];refine⟨va,vc,mm,?_,?_,bp⟩
 ·rw [←bS,sw.o,Le]
 ·rw [←bS];exact hpm):p:=h
theorem Qp {p:Prop} (h:p:=by
 rw [yU dC] at h2;have:=oi (x:=au s (i+1)) (c:=125);rw [h2] at this;exact this):p:=h
theorem Qq {p:Prop} (h:p:=by
 rw [nE yd] at h ⊢;obtain⟨rfl,rfl⟩:=uJ (uI h);exact⟨rfl,hf.tail⟩):p:=h
theorem Qr {p:Prop} (h:p:=by
 exact (k1.setCell _ _ λ_=>.inl rfl).trans (ln _ _ _ _ _ _ _ _ _) λ k hk e=>k2 k hk e):p:=h
theorem Qs {p:Prop} (h:p:=by
 have tQ:gg=g:=nD hg;rcases bf with h1 | h1
 ·exact fA g (by rw [h1,tQ])
 ·omega):p:=h
theorem Qt {p:Prop} (h:p:=by
 rintro e w' ⟨v,j,y,he,h1,h2,h3,h4,h5⟩;exact⟨v,j,y,he,h1,.inl h2,h3,h4,.inl ⟨rfl,h5⟩⟩):p:=h
theorem Qu {p:Prop} (h:p:=by
 rw [yU dC] at h1;have:=Ym (x:=au s i) (c:=35);rw [h1] at this;exact this):p:=h
theorem KD {p:Prop} (h:p:=by
 rw [eX hl];simpa [bg] using aU):p:=h
theorem KE {p:Prop} (h:p:=by
 go_wp2_with fail;go_ret;exact⟨rfl,cA.o⟩):p:=h
theorem Qv {p:Prop} (h:p:=by
 refine .inl ⟨g,h0,Xd,M,by have:=xH.o;omega,?_⟩;rw [hr,OY HO.o,sC,aG]):p:=h
theorem Qw {p:Prop} (h:p:=by
 refine QF.err oM ?_;rw [hr,sD];unfold mh;dsimp only;rw [o1,o2,nF sI]):p:=h
theorem Qx {p:Prop} (h:p:=by
 have:r4=r:=by cases h;rfl
 rw [sX hN hS _ _ _ Oy (by rw [this];exact hk)];cases h;rfl):p:=h
theorem Qy {p:Prop} (h:p:=by
 intro e;have:=congrArg List.length e;rw [nI,lN] at this;omega):p:=h
theorem Qz {p:Prop} (h:p:=by
 go_wp2_with fail;go_end0;exact⟨rfl,I,mI,hI,HF.o,cK.o.drewN _,rt.o.drewN _⟩):p:=h
theorem QA {p:Prop} (h:p:=by
 intro e;obtain rfl:g=cs:=nD e;rcases h3 with h3 | h3
 ·exact ho h3
 ·omega):p:=h
theorem QB {p:Prop} (h:p:=by
 go_wp2_with fail;go_ret;exact⟨_,0,rfl,by rw [HT.o];exact az.nil _ _ _,HK.o⟩):p:=h
theorem QC {p:Prop} (h:p:=by
 go_wp2_with fail;go_end0;rw [HT.o];exact⟨x,rfl,HS.o,⟨rfl,ct.o⟩,HK.o⟩):p:=h
theorem KF {p:Prop} (h:p:=by
 cases h;simp only [nI];omega):p:=h
theorem QD {p:Prop} (h:p:=by
 rw [List.getElem?_append_left]
 ·exact hu
 ·exact (List.getElem?_eq_some_iff.1 hu).1):p:=h
theorem QE {p:Prop} (h:p:=by
 exact ((HK.o.alloc _).drewN _).setCell _ _ (λ AH=>by simp only at AH;omega)):p:=h
theorem KG {p:Prop} (h:p:=by
 have h2:=qQ n _ _ _ _ _ _ h;omega):p:=h
theorem KH {p:Prop} (h:p:=by
 unfold ab at h;split at h<;>cases h):p:=h
theorem QG {p:Prop} (h:p:=by
 go_wp2_with fail;go_quiet (fail);go_wp2_with fail;go_ret;exact⟨sI,_,rfl⟩):p:=h
theorem QH {p:Prop} (h:p:=by
 rw [xI.o];exact (HPX.o.keep bp (λ_ _ _ h=>h)).mono (λ b _ h=>Or.inl h)):p:=h
theorem QI {p:Prop} (h:p:=by
 refine⟨?_,h4.append h6⟩;rw [bv];simp only [Md.slack] at h5 ⊢;omega):p:=h
theorem QJ {p:Prop} (h:p:=by
 cases bh (ab K) (ai ts.tail) with
 | error e=>rfl
 | ok p=>rfl):p:=h
theorem QK {p:Prop} (h:p:=by
 rw [List.length_take,aO] at h2;simp only [lN] at h2;omega):p:=h
theorem QL {p:Prop} (h:p:=by
 rintro e w2 ⟨rfl,q2,rfl⟩;go_wp2_with fail;go_ret;exact⟨rfl,q2,rfl⟩):p:=h
theorem QN {p:Prop} (h:p:=by
 obtain⟨T,h⟩:=h;refine⟨?_,?_⟩<;>simp [World.cell?,World.frozen?,h]):p:=h
theorem QO {p:Prop} (h:p:=by
 obtain⟨⟨c0,c1,c2⟩,f0,f1,f2⟩:=h.rd.three;exact⟨c0,c1,c2,f1,f2⟩):p:=h
theorem QP {p:Prop} (h:p:=by
 rintro e wq ⟨rfl,q,rfl⟩;obtain⟨w6,im⟩:∃w6,w6=w5.drewN q:=⟨_,rfl⟩;rw [←im];have aZ:K0 w5 w6:=by rw [im];exact (ae.refl _ _).drewN _
 replace HG:=Hd (HG.o.keep0 aZ);replace HZ:=Hd (HZ.o.keep aZ (λ h=>h));replace IZ:=Hd (λ e=>(IZ.o e).keep aZ (λ h=>h));clear im aZ;obtain⟨c0,c1,c2,f1,f2⟩:=HG.o.rs.cells;have aW:=HG.o.rs.lt;go_wp2_with fail;obtain⟨w7,Ca⟩:∃w7,w7=w6.setCell ⟨ps,1,none⟩ (.int .i64 ((j2:Int)+1)):=⟨_,rfl⟩;rw [←Ca];replace HG:=Hd (by have h9:=HG.o.inc (by have:=bA.o;omega) oM;rw [←Ca] at h9;exact h9)
 have aZ:ae (λ b=>b=ps) w6 w7:=by rw [Ca];exact (ae.refl _ _).setCell _ _ λ_=>rfl
 refine (de w7 Lo B ps n (j2+1) 0 tv T HG.o.rs).mono ?_;rintro e w8 ⟨rfl,j,ku,hj2,ow,kB,C9,lz⟩;have hjT2:j≤T.length:=hj2 oM;rw [←aG] at kB;obtain⟨hgo1,G6⟩:=Dh.o j kB;have hkw8:=aZ.trans lz k3;replace HG:=Hd (HG.o.move (by have:=bA.o;omega) lz C9);replace HZ:=Hd (HZ.o.keep hkw8 (λ e=>by have:=bA.o;omega));replace IZ:=Hd (λ e=>(IZ.o e).keep hkw8 hpg)
 have HIJ2:=Hd (show j2+1≤j from ku);have sJ:=Hd hgo1;have HGO2:=Hd G6;clear Ca aZ C9 lz ku hj2 ow kB hkw8 hgo1 G6 c0 c1 c2 f1 f2 aW fv;cases mj:dk (T.drop j) with
 | true=>
  have C0:=Hd (t7 w8 Lo B ps n j 0 tv T HG.o.rs);rw [mj] at C0;have gR:=Hd (show NI gd (acc++dd) T j 0 res from .inl ⟨iD.o,rfl,hjT2,JH.o iD.o,sJ.o mj⟩);have fv:=Hd (show i≤j∧j≤T.length+2*K by have:=zS.o;have:=HIJ2.o;omega);clear mj;go_wp2_with fail;refine C0.o.mono ?_;rintro e wq ⟨rfl,q2,rfl⟩;replace HG:=Hd (HG.o.keep0 ((ae.refl _ _).drewN q2));replace HZ:=Hd (HZ.o.keep ((ae.refl (λ_=>False) _).drewN q2) (λ h=>h))
  replace IZ:=Hd (λ e=>(IZ.o e).keep ((ae.refl (λ_=>False) _).drewN q2) (λ h=>h));obtain⟨wf,qF⟩:∃wf,wf=(w8.drewN q2):=⟨_,rfl⟩;exact c2x
 | false=>
  exact aaN):p:=h
theorem QQ {p:Prop} (h:p:=by
 refine nS (i:=1) (v:=.agg #[k,b,s,.slice a0 n0 c0,.slice a1 n1 c1,.slice a2 n2 c2,.slice a3 n3 c3,.slice a4 n4 c4]) rfl kR kR kR (λ_ _ _ h=>h) (Or.inl ⟨rF,?_⟩) dJ ?_
 ·(intro ww jP;have ⟨⟨g0,g1,g2,g3,g4,g5,g6,g7⟩,_⟩:=af.eight jP;go_simp;all_goals (first | done | with_reducible rfl))
 refine nS (i:=2) (v:=.pointer (some ⟨cs,0,none⟩)) rfl kR kR kR (λ_ _ _ h=>h) (Or.inl ⟨rF,?_⟩) dJ ?_
 ·(intro ww jP;have ⟨⟨g0,g1,g2,g3,g4,g5,g6,g7⟩,_⟩:=af.eight jP;go_simp;all_goals (first | done | with_reducible rfl))
 refine uE (rs:=[3]) kR sI ?_;refine AllReadyH.cons rfl (λ KK hK=>?_) AllReadyH.nil;go_simp;go_at_call 138;refine (kF K HC.o _ B cs n jl d tv T (YD.o.keep0 (ae.refl _ _).drew) HD.o).mono ?_;rw [kS.o];rintro e w4 ⟨rfl,be⟩;have eU:=Hd ((Vi.o.drew).trans be k3);exact KV):p:=h
theorem QT {p:Prop} (h:p:=by
 go_wp2_with (at_builtin;refine nR _ rfl (.tmp 100) (.tmp 103) _ rfl 0 109 i0 _ 3 48 Tryz.underlying76 fo fC fp fq rfl oM (.slice va vn vc) vn xs rfl (aU.alloc _) ⟨wr.heap.size,0,none⟩ 1 1 [.int .i64 2,T,()] rfl rfl (nK (cs:=#[.int .i64 2,.string T,.slice none 0 0]) (t:=109) (fr:=(0,0)) (nG wr _)) oC oM uM oM sI (wr.heap.size+1) sI ?_;intro gg aC w6 hown6 hgrow6 hat6 hlt6;have HM2:=Hd (HF.o gg aC w6 _ hown6 hgrow6 hat6);obtain⟨d0,d1,d2,g1,g2⟩:=HM2.o.sc.cells)
 go_roundg (s.size+2 - (I+T.size))
 case measure=>have:=xS.o;have:=sy.o;have:=HTZ.o;omega
 case rel=>exact⟨I+T.size,_,rfl,HTZ.o,by rw [lA];have:=sy.o;show l.length+1≤I+T.size;omega,HM2.o.move (dl HM2.o.sc (j:=(I:Int)+(T.size:Int)) (J:=I+T.size) oM).2 (dl HM2.o.sc (j:=(I:Int)+(T.size:Int)) (J:=I+T.size) oM).1 yg B0,HN⟩):p:=h
theorem BI {p:Prop} (h:p:=by
 rw [bo] at hp;obtain⟨rfl,aS⟩:=hp;have bO:=Hd (show res=some (.error y) by rw [oD.o,bo];rfl);exact QU):p:=h
theorem QU {p:Prop} (h:p:=by
 have bZ:=Hd (((dO.o.mono (λ_ _ h=>h.elim)).trans ur.o k3).trans aS k3);exact BJ):p:=h
theorem KI {p:Prop} (h:p:=by
 rw [bo] at hp;obtain⟨rfl,aS⟩:=hp;have bO:=Hd (show res=.error y by rw [fN.o,bo]);exact Ri):p:=h
theorem KJ {p:Prop} (h:p:=by
 rw [bo] at hp;obtain⟨rfl,aS⟩:=hp;have bO:=Hd (show res=.error y by rw [ay.o,bo]);have bZ:=Hd ((dO.o.mono (λ_ _ h=>h.elim)).trans aS k3);exact BJ):p:=h
theorem QV {p:Prop} (h:p:=by
 have bO:=Hd (show res=.error 2 by rw [ay.o];unfold ab;rw [hb];rfl);refine (iB W B cs n i d tv T false HS.o hb).mono ?_;rintro e w1 ⟨rfl,bt⟩;have bZ:=Hd ((dO.o.mono (T:=λ b=>b=cs) (λ_ _ h=>h.elim)).trans bt (λ_ _ h=>h.elim));clear bt hb;exact KM):p:=h
theorem QW {p:Prop} (h:p:=by
 cases wb with
 | true=>
  exact KU
 | false=>
  cases cb with
  | true=>
   exact KU
  | false=>
   cases rb with
   | true=>
    exact KU
   | false=>
    have Gx:=Hd (show nb=true from xJ.o);exact KW):p:=h
theorem QX {p:Prop} (h:p:=by
 rintro e w2 ⟨rfl,q3,rfl⟩;clear kb;have kb:=oO (w1.drewN (q2+q3)) w1.heap.size c rfl;go_wp2_with fail;clear kb;have gS:=Hd ((dF.o.drewN (q2+q3)).alloc (.cells #[.int .u8 (c.toNat:Nat)] 5));have bp:ae (λ b=>b=cs) w1 ((w1.drewN (q2+q3)).alloc (.cells #[.int .u8 (c.toNat:Nat)] 5)):=((ae.refl _ _).drewN _).alloc _;exact Wd):p:=h
theorem QY {p:Prop} (h:p:=by
 refine (M6.o _ (Dp.o) (dO.o)).mono ?_;intro e w3 hp;cases dU:ec (av (ab K)) x.word with
 | error y=>
  rw [dU] at hp;obtain⟨he,aV⟩:=hp;subst he;have bO:=Hd (show res=.error y by rw [ay.o,dU]);have bZ:=Hd (qj.o.trans aV k3);clear aV dU;exact yL
 | ok u=>
  exact aaO):p:=h
theorem FD {p:Prop} (h:p:=by
 go_wp2_with fail;refine (jE _).mono ?_;rintro e w4 ⟨rfl,rfl⟩;exact yL):p:=h
theorem QZ {p:Prop} (h:p:=by
 clear hq;go_wp2_with fail;refine jJ.o.mono ?_;rintro e wz ⟨rfl,jz,hjz,htz,iF,kg⟩;have bZ:=Hd (fM.o.kp.trans kg k3);exact Rh):p:=h
theorem KL {p:Prop} (h:p:=by
 rw [hx];rcases nP (I+1) s.size with h | h
 ·rw [ak h];rfl
 ·rw [aX h];unfold au;exact vy):p:=h
theorem KM {p:Prop} (h:p:=by
 go_wp2_with fail;refine (jE _).mono ?_;rintro e w2 ⟨rfl,rfl⟩;exact yL):p:=h
theorem Q0 {p:Prop} (h:p:=by
 obtain⟨d0,d1,d2,g1,g2⟩:=dV.cells;clear jk;go_wp2_with fail;go_end0;obtain⟨lM,cu⟩:=dl dV (j:=(K:Int)+1) (J:=K+1) oM;exact kK.mk' HP.o lM (fL.o.trans cu (λ_ _ e=>e))):p:=h
theorem Q1 {p:Prop} (h:p:=by
 go_simp;refine hK _ _ ?_;clear hK K;refine wpAny_ready (rs:=[2]) kR sI ?_;refine AllReady.cons rfl (λ K hK=>?_) AllReady.nil;exact V4):p:=h
theorem Q2 {p:Prop} (h:p:=by
 clear k2;subst hr;show Calls _ _ #[.agg #[.int .i64 (tk.kind:Nat),.string ⟨tk.text.toArray⟩,.slice (some ⟨g,o,none⟩) 1 c]] w _;exact NZ):p:=h
theorem KN {p:Prop} (h:p:=by
 rintro e w1 ⟨rfl,q,rfl⟩;go_wp2_with fail;go_ret;exact⟨rfl,q,rfl⟩):p:=h
theorem FE {p:Prop} (h:p:=by
 go_enter Tryz.func93,Tryz.ntmps93;exact Wn):p:=h
theorem Q3 {p:Prop} (h:p:=by
 obtain⟨vs,n,hl,ho,hn⟩:=h;refine⟨vs,n,hl,⟨ho.1,?_⟩,λ i h h'=>(hn i h h').keep hk λ b hb hd=>hD b hb hd.1⟩;exact WB):p:=h
theorem Q4 {p:Prop} (h:p:=by
 rw [←hs] at q0 r0;clear hp Tw hs iR;have t9:(s==s)=true:=sI
 go_wp2_with fail;go_still_tail 26,kR;exact Wj):p:=h
theorem KO {p:Prop} (h:p:=by
 rcases hg b e with h3 | h3
 ·exact hd.1.2 h3
 ·have:=hd.2;omega):p:=h
theorem yK {p:Prop} (h:p:=by
 unfold dZ;exact WC):p:=h
theorem Q5 {p:Prop} (h:p:=by
 clear dU bM aS;go_wp2_with fail;refine⟨rfl,?_⟩;rw [gF.o];exact⟨rfl,cA.o.mono λ_ _ e=>.inl e⟩):p:=h
theorem Q6 {p:Prop} (h:p:=by
 obtain⟨t1,t2⟩:=eN (s:=O) (HO.o.trans ho);have lD:=Gs.o;rw [ho,nE rF] at lD;exact V6):p:=h
theorem Q7 {p:Prop} (h:p:=by
 rw [kS.o];rintro e w4 ⟨rfl,be⟩;have eU:=Hd ((HG.o.kp.drew).trans be k3);exact KV):p:=h
theorem Q8 {p:Prop} (h:p:=by
 exact .inr ⟨g,aC,x8,rfl,hb,(hk.block g (Array.getElem?_eq_some_iff.1 hg).1 (hv g rfl)).trans hg,rest⟩):p:=h
theorem KP {p:Prop} (h:p:=by
 exact⟨rfl,by simp only [lC];omega⟩):p:=h
theorem Q9 {p:Prop} (h:p:=by
 have h1:=Vi.o.size;have h2:=qn.o.lt;have h4:wl.heap.size≤b:=hb;have h5:=Po.o.2;exact vx):p:=h
theorem Ra {p:Prop} (h:p:=by
 rintro e w9 ⟨rfl,rfl⟩;go_wp2_with fail;refine⟨rfl,?_⟩;rw [Bh.o];exact⟨rfl,st.o⟩):p:=h
theorem KQ {p:Prop} (h:p:=by
 have p1:¬(k:Int)<(k:Int):=oM
 exact Fu):p:=h
theorem KR {p:Prop} (h:p:=by
 go_enter Tryz.func143,Tryz.ntmps143;exact Wn):p:=h
theorem KS {p:Prop} (h:p:=by
 go_wp2_with fail;go_quiet (fail);exact KX):p:=h
theorem KT {p:Prop} (h:p:=by
 have:=congrArg List.length AN;exact DF):p:=h
theorem Rb {p:Prop} (h:p:=by
 have bZ:=Hd (fM.o.kp.trans be k3);clear bo be;exact yL):p:=h
theorem Rc {p:Prop} (h:p:=by
 refine nS (i:=2) (v:=.pointer (some ⟨cs,0,none⟩)) rfl kR kR kR (λ_ _ _ h=>h) (Or.inl ⟨rF,?_⟩) dJ ?_
 ·(intro ww jP;have ⟨⟨g0,g1,g2,g3,g4,g5,g6,g7⟩,_⟩:=af.eight jP;go_simp;all_goals (first | done | with_reducible rfl))
 refine uE (rs:=[3]) kR sI ?_;refine AllReadyH.cons rfl (λ KK hK=>?_) AllReadyH.nil;go_simp;go_at_call 197;refine (mA K cK.o _ B cs n I d tv T (fM.o.rs.keep0 (ae.refl _ _).drew) HD.o lZ.o).mono ?_;exact SY):p:=h
theorem Re {p:Prop} (h:p:=by
 rw [bo] at hp od;obtain⟨rfl,be⟩:=hp;have bO:=Hd (show res=.error y from od);have bZ:=Hd (Br.o.kp.trans be k3);clear bo be od;exact yL):p:=h
theorem BJ {p:Prop} (h:p:=by
 clear bo aS;exact yL):p:=h
theorem Rf {p:Prop} (h:p:=by
 rw [bo] at hp;obtain⟨rfl,aS⟩:=hp;have bO:=Hd (show res=some (.error y) by rw [oD.o];unfold fu;rw [bo];rfl);exact QU):p:=h
theorem Rg {p:Prop} (h:p:=by
 rintro e w3 ⟨rfl,j3,ow,iT,cX,aV⟩;have bZ:=Hd (iD.o.kp.trans aV k3);clear cX aV iT dy;exact FD):p:=h
theorem KU {p:Prop} (h:p:=by
 have Gx:=Hd (show nb=false from xJ.o);exact KW):p:=h
theorem Rh {p:Prop} (h:p:=by
 clear iF kg htz jJ;go_wp2_with fail;refine (jE _).mono ?_;rintro e wy ⟨rfl,rfl⟩;exact yL):p:=h
theorem Ri {p:Prop} (h:p:=by
 have bZ:=Hd (((dO.o.mono (λ_ _ h=>h.elim)).trans dp.o k3).trans aS k3);exact BJ):p:=h
end Go.Proofs.YtiihpbccabeoeaaGreatDoor
