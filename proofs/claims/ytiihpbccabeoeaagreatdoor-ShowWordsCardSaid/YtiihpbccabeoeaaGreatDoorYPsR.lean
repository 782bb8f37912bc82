/- The walk: a part. -/
import Derived.Test.YtiihpbccabeoeaaGreatDoorYPsA
import Derived.ProofKit
import Derived.OpenShut
import Derived.ChangeArms
import Derived.Deep.Slices
import Derived.Test.YtiihpbccabeoeaaGreatDoorYPsY
import Derived.Test.YtiihpbccabeoeaaGreatDoorYPsN
import Derived.Test.YtiihpbccabeoeaaGreatDoorYPsD
import Derived.Test.YtiihpbccabeoeaaGreatDoorYPxAG
import Derived.Test.YtiihpbccabeoeaaGreatDoorYPwF
namespace Go.Proofs.YtiihpbccabeoeaaGreatDoor
open Go.RowKit
set_option linter.unusedVariables false
set_option maxRecDepth 100000
set_option maxHeartbeats 16000000
section
variable {H:Type} {enc:TypeId×Value→H} {w:World} {base:Nat} {spare:Nat→Bool} {held:Bool}
end
theorem maxLen10 (w:World) (h:w.ShapedOpen Tryz.prog):∃m,w.cell? ⟨0,0,none⟩=some (.int .i64 m):=Go.Proofs.cell_of_shapedOpen_int (zero:=#[.int .i64 0]) (t:=3) h (of_decide_eq_true (by kernel_rfl)) (by kernel_rfl) rfl (by kernel_rfl) (by kernel_rfl) Tryz.underlying3
theorem keeps_below0 {a b:World} (h:Keeps (fun _=>False) a b):Below a.heap.size a b:=(h.mono (T:=fun x=>a.heap.size≤x) fun x _ s=>s.elim).below (Nat.le_refl _)
def NdAt (w:World) (n:Nat) (ds:List Dt) (a:Option Addr) (m c:Nat):Prop:=NodesD n ds∧Rd w (fun _=>True) (.sl 8 ds) (.slice a m c)
theorem NdAt.keep0 {w w':World} {n:Nat} {ds:List Dt} {a:Option Addr} {m c:Nat} (h:NdAt w n ds a m c) (hk:Keeps (fun _=>False) w w'):NdAt w' n ds a m c:=⟨h.1,rdKeep0 h.2 hk⟩
theorem same_ask {w:World} {n k:Nat} {ds es:List Dt} {a b:Option Addr} {m c m' c':Nat} (h:NdAt w n ds a m c) (g:NdAt w k es b m' c'):Calls Tryz.prog 11 #[.slice a m c,.slice b m' c'] w (SamePost w (ds=es)):=same_allx (n+1) n k (Nat.lt_succ_self _) w _ _ ds es a b m c m' c' h.1 g.1 h.2 g.2
theorem show_ask {w:World} {n k:Nat} {ds es:List Dt} {a b:Option Addr} {m c m' c':Nat} (h:NdAt w n ds a m c) (g:NdAt w k es b m' c'):Calls Tryz.prog 15 #[.slice a m c,.slice b m' c'] w (SamePost w (ds=es)):=show_all (n+1) n k (Nat.lt_succ_self _) w _ _ ds es a b m c m' c' h.1 g.1 h.2 g.2
theorem alive10 (m:Int) (w:World) (hm:w.cell? ⟨0,0,none⟩=some (.int .i64 m)) :
 Calls Tryz.prog 8 #[] w fun e w'=>e=.returned (.bool true)∧Keeps (fun _=>False) w w':=by
 obtain⟨n,hn⟩:=parse_good ex_parse;obtain⟨S,hS⟩:∃S:ByteArray,S=⟨exS.toArray⟩:=⟨_,rfl⟩;have hQ:∀W,Calls Tryz.prog 9 #[.string S] W fun e w'=>∃(a:Option Addr) (c:Nat),e=.returned (.tuple #[.slice a 1 c,.int .i64 0])∧NdAt w' n exT a 1 c∧Keeps (fun _=>False) W w':=fun W=>by
  have h:=qparse_any W exS (by decide);rw [ex_parse,←hS] at h;refine h.mono fun e w' hp=>?_;obtain⟨a,m,c,he,hrd,hk⟩:=hp;have hm1:m=1:=(rdRecs (k:=8) (f:=Ny.row) (xs:=[exAnd]) (fun _=>rfl) (by decide) hrd).1;subst hm1;exact⟨a,c,he,⟨hn,hrd.mono fun _ _ _=>trivial⟩,hk⟩
 have HQ:=Hd hQ;have hlit:(⟨#[97,32,39,98,32,99,39,32,124,32,100,32,38,38,32,101]⟩:ByteArray)=S:=by rw [hS];rfl
 have hQ0:=hQ;rw [←hlit] at hQ0;have HQ0:=Hd hQ0;have HSC:=Hd (show ∀(W:World) (a:Option Addr) (c:Nat),NdAt W n exT a 1 c→Keeps (fun _=>False) w W→Calls Tryz.prog 10 #[.slice a 1 c] W (NodeSays W S) from fun W a c h hk=>by
  rw [hS];exact ex_script m W _ a 1 c h.2 (cellKeep hm hk (cellLt hm)))
 have HNE:=Hd (show exT≠[] from fun h=>by have:=congrArg List.length h;cases this);clear hQ hQ0 hlit hS hm;obtain⟨ds,hds⟩:∃ds,ds=exT:=⟨_,rfl⟩;rw [←hds] at HQ HQ0 HSC HNE;clear hds hn;go_enter Tryz.func8,Tryz.ntmps8;go_wp2_with fail;refine (HQ0.out w).mono ?_;rintro e w1 ⟨a,c,rfl,ha,hk1⟩;have HA:=Hd ha;have HK1:=Hd hk1;clear ha hk1;go_wp2_with fail;refine (HSC.out w1 a c HA.out HK1.out).mono ?_;rintro e w2 ⟨rfl,hb2⟩
 have hk2:=keep0_below hb2;replace HA:=Hd (HA.out.keep0 hk2);have HK2:=Hd (HK1.out.trans hk2 (fun _ _ h=>h));clear hb2 hk2;go_wp2_with fail;refine (HQ.out w2).mono ?_;rintro e w3 ⟨b,c',rfl,hb,hk3⟩;have HB:=Hd hb;replace HA:=Hd (HA.out.keep0 hk3);have HK3:=Hd (HK2.out.trans hk3 (fun _ _ h=>h));clear hb hk3;go_wp2_with fail;refine (same_ask HA.out HB.out).mono ?_;rintro e w4 ⟨r,rfl,hr,hk4⟩;obtain rfl:r=true:=hr.2 rfl
 replace HA:=Hd (HA.out.keep0 hk4);replace HB:=Hd (HB.out.keep0 hk4);have HK4:=Hd (HK3.out.trans hk4 (fun _ _ h=>h));clear hr hk4;go_wp2_with fail;refine (show_ask HA.out HB.out).mono ?_;rintro e w5 ⟨r,rfl,hr,hk5⟩;obtain rfl:r=true:=hr.2 rfl;replace HA:=Hd (HA.out.keep0 hk5);have HK5:=Hd (HK4.out.trans hk5 (fun _ _ h=>h));clear hr hk5;go_wp2_with fail;refine (show_ask HA.out (show NdAt w5 0 [] none 0 0 from⟨rfl,.nil _ _ _ (Nat.zero_le _)⟩)).mono ?_
 rintro e w6 ⟨r,rfl,hr,hk6⟩;obtain rfl:r=false:=by
  cases r with
  | false=>rfl
  | true=>exact absurd (hr.1 rfl) HNE.out
 have HK6:=Hd (HK5.out.trans hk6 (fun _ _ h=>h));clear hr hk6;go_wp2_with fail;go_ret;exact⟨rfl,HK6.out⟩
def RWhole (w:World) (res:Except Nat (List Pt)) (e:Ending) (w':World):Prop:=
 ∃(a:Option Addr) (m c x:Nat),e=.returned (.tuple #[.slice a m c,.int .i64 (x:Nat)])∧Keeps (fun _=>False) w w'∧match res with
  | .ok l=>x=0∧Rd w' (fun _=>True) (.sl 6 (partsR l)) (.slice a m c)
  | .error _=>x≠0
theorem rwhole_may (s:ByteArray) (w:World) (hs:s.size≤140737488351232) (hm:mayF s.data.toList≠0) :
 Calls Tryz.prog 12 #[.string s] w (RWhole w (wholeF s.data.toList)):=by
 have hR:wholeF s.data.toList=.error (mayF s.data.toList):=by unfold wholeF;rw [if_neg hm]
 rw [hR];obtain⟨y,hy⟩:∃y,y=mayF s.data.toList:=⟨_,rfl⟩;have HM:=Hd hy.symm;rw [←hy] at hm ⊢;have hm2:((y:Int) != 0)=true:=by rw [bne_iff_ne];omega
 have HN:=Hd hm;clear hR hy hm;go_enter Tryz.func12,Tryz.ntmps12;go_wp2_with fail;refine (rmay_any s _ hs).mono ?_;rintro e w1 ⟨rfl,rfl⟩;rw [HM.out];go_wp2_with fail;refine (rmay_any s _ hs).mono ?_;rintro e w1 ⟨rfl,rfl⟩;rw [HM.out];go_wp2_with fail;go_ret2;exact⟨none,0,0,y,rfl,Keeps.refl _ _,HN.out⟩
theorem rwhole_rest (s:ByteArray) (w:World) (hs:s.size≤20000) (hm:mayF s.data.toList=0) :
 Calls Tryz.prog 12 #[.string s] w (RWhole w (wholeF s.data.toList)):=by
 obtain⟨res,hres⟩:∃res,res=wholeF s.data.toList:=⟨_,rfl⟩;rw [←hres];rw [wholeF_C _ hm] at hres;have HRES:=Hd hres;have HM:=Hd hm;obtain⟨W,hW⟩:∃W,W=w.alloc (.cells #[.string s,.int .i64 0,.int .i64 0] 57):=⟨_,rfl⟩;obtain⟨cs,hcs⟩:∃cs,cs=w.heap.size:=⟨_,rfl⟩;have HSC:=Hd (show ScanAt W cs s ((0:Nat):Int) ((0:Nat):Int) by rw [hW,hcs];exact ScanAt.new w s 0 0 _);have HKW:=Hd (show Keeps (fun _=>False) w W by rw [hW];exact (Keeps.refl _ _).alloc _)
 have HLT:=Hd (show cs<W.heap.size by rw [hW,hcs];simp);have HCS:=Hd hcs;have HWE:=Hd hW;clear hres hm hW hcs;go_enter Tryz.func12,Tryz.ntmps12;go_wp2_with fail;refine (rmay_any s _ (by omega)).mono ?_;rintro e w1 ⟨rfl,hw1⟩;rw [HM.out,hw1];clear hw1;go_wp2_with fail;rw [←HWE.out,←HCS.out];refine (rword_any cs s 0 true W HSC.out (Nat.zero_le _) hs HLT.out).mono ?_;intro e w2 hp;have e0:rest s 0=s.data.toList:=rest0 s
 rw [e0] at hp;clear e0;cases hr:wordC true s.data.toList with
 | ok z=>
  obtain⟨l,r⟩:=z;rw [hr] at hp;obtain⟨v,n,i,rfl,hi,_,hsc,hpt,hk⟩:=hp;have HRX:=Hd (show res=.ok (tidyF l) by rw [HRES.out,hr]);obtain⟨a,c,rfl,_,_⟩:=hpt.shape;have HPT:=Hd (rd_pts hpt);have HK:=Hd (HKW.out.trans hk (fun b hb e=>by rw [e,HCS.out] at hb;omega));obtain⟨_,_,d2,_,_⟩:=hsc.cells;have lx:=hsc.lt;clear hr hpt hk hsc;go_wp2_with fail;go_ret2;refine⟨_,_,_,0,rfl,HK.out,?_⟩;rw [HRX.out];exact⟨rfl,HPT.out.mono fun _ _ _=>trivial⟩
 | error y=>
  rw [hr] at hp;obtain⟨hy,v,n,i,l,rfl,hi,hsc,hpt,hk⟩:=hp;have HRX:=Hd (show res=.error y by rw [HRES.out,hr]);obtain⟨a,c,rfl,_,_⟩:=hpt.shape;have HK:=Hd (HKW.out.trans hk (fun b hb e=>by rw [e,HCS.out] at hb;omega));have HY:=Hd hy;have hy2:((y:Int) != 0)=true:=by rw [bne_iff_ne];omega
  obtain⟨_,_,d2,_,_⟩:=hsc.cells;have lx:=hsc.lt;clear hr hpt hk hsc hy;go_wp2_with fail;go_quiet (fail);go_wp2_with fail;go_ret2;refine⟨none,0,0,y,rfl,Keeps.drewN HK.out _,?_⟩;rw [HRX.out];exact HY.out
theorem rwhole_any (s:ByteArray) (w:World) (hs:s.size≤140737488351232):Calls Tryz.prog 12 #[.string s] w (RWhole w (wholeF s.data.toList)):=by
 by_cases h:mayF s.data.toList=0
 ·have hl:s.size≤16384:=by
   unfold mayF at h;rw [←Lib.size_eq] at h;split at h
   ·cases h
   ·omega
  exact rwhole_rest s w (by omega) h
 ·exact rwhole_may s w hs h
theorem showWords_walk (a0:ByteArray) (w:World) (h0:a0.size≤140737488351232) (hsh:w.ShapedOpen Tryz.prog) :
 Calls Tryz.prog 4 #[.string a0] w fun e w'=>e=.returned (.bool true)∧Below w.heap.size w w':=by
 obtain⟨m,hm⟩:=maxLen10 w hsh;have HAL:=Hd (alive10 m w hm);have HMX:=Hd hm;have HLX:=Hd (cellLt hm);clear hm hsh;obtain⟨res,hres⟩:∃res,res=wholeF a0.data.toList:=⟨_,rfl⟩;have HRES:=Hd hres;have HW1:=Hd (fun W=>rwhole_any a0 W h0);rw [←hres] at HW1;clear hres;rcases Nat.lt_or_ge 600 a0.size with hl0 | hl0
 ·have p0:(600:Int)<(a0.size:Int):=by omega
  clear hl0;go_enter Tryz.func4,Tryz.ntmps4;go_wp2_with fail;refine HAL.out.mono ?_;rintro e w1 ⟨rfl,hk1⟩;have HK1:=Hd hk1;clear hk1;go_wp2_with fail;refine (HW1.out w1).mono ?_;rintro e w2 ⟨a,n,c,x,rfl,hk2,_⟩;have HK2:=Hd (HK1.out.trans hk2 (fun _ _ h=>h));clear hk2;go_wp2_with fail;go_ret;exact⟨rfl,keeps_below0 HK2.out⟩
 have p0:¬(600:Int)<(a0.size:Int):=by omega
 cases res with
 | error y=>
  go_enter Tryz.func4,Tryz.ntmps4;go_wp2_with fail;refine HAL.out.mono ?_;rintro e w1 ⟨rfl,hk1⟩;have HK1:=Hd hk1;clear hk1;go_wp2_with fail;refine (HW1.out w1).mono ?_;rintro e w2 ⟨a,n,c,x,rfl,hk2,hx⟩;have HK2:=Hd (HK1.out.trans hk2 (fun _ _ h=>h));have hx2:((x:Int) != 0)=true:=by rw [bne_iff_ne];have:x≠0:=hx;omega
  clear hk2 hx;go_wp2_with fail;go_ret;exact⟨rfl,keeps_below0 HK2.out⟩
 | ok l=>
  have hw:wholeF a0.data.toList=.ok l:=HRES.out.symm;obtain⟨hmay,hlen⟩:=whole_may hw (by rw [←Lib.size_eq];omega);have hback:=whole_back hw hmay;have hok:WordOK2 l:=by
   refine⟨?_,by omega⟩;unfold wholeF at hw;split at hw
   ·next hm0=>
    split at hw
    ·cases hw
    ·next l0 r1 hw0=>
     obtain rfl:=Except.ok.inj hw;exact⟨_,_,(wordG_of (nz_may hm0) hw0).ok⟩
   ·cases hw
  obtain⟨S,hS⟩:∃S:ByteArray,S=⟨(wordS l).toArray⟩:=⟨_,rfl⟩;have hSl:S.data.toList=wordS l:=by rw [hS,arr_id]
  have hSs:S.size≤13000:=by rw [Lib.size_eq,hSl];exact hlen
  have p1:¬(16384:Int)<(S.size:Int):=by omega
  have HW2:=Hd (show ∀W,Calls Tryz.prog 12 #[.string S] W (RWhole W (.ok l)) from fun W=>by
   have h9:=rwhole_any S W (by omega);rw [hSl,hback] at h9;exact h9)
  have HSH:=Hd (show ∀(W:World) (a:Option Addr) (n c:Nat),Keeps (fun _=>False) w W→Rd W (fun _=>True) (.sl 6 (partsR l)) (.slice a n c)→Calls Tryz.prog 13 #[.slice a n c] W fun e w'=>e=.returned (.string S)∧Keeps (fun _=>False) W w' from fun W a n c hk hr=>by
   have h9:=sword_any m W _ l a n c hr hok (cellKeep HMX.out hk HLX.out);rw [←hS] at h9;exact h9.mono fun e w' h=>⟨h.1,keep0_below h.2⟩)
  have HSP:=Hd (show ∀(W:World) (va vb:Value),Rd W (fun _=>True) (.sl 6 (partsR l)) va→Rd W (fun _=>True) (.sl 6 (partsR l)) vb→Calls Tryz.prog 14 #[va,vb] W (SamePost W (partsR l=partsR l)) from fun W va vb ha hb=>samePx _ _ _ _ _ _ va vb W (partsOf _ l (Nat.le_refl _)) (partsOf _ l (Nat.le_refl _)) ha hb);clear hw hmay hlen hback hok hS hSl hl0 HRES HMX HLX;go_enter Tryz.func4,Tryz.ntmps4;go_wp2_with fail
  refine HAL.out.mono ?_;rintro e w1 ⟨rfl,hk1⟩;have HK1:=Hd hk1;clear hk1 HAL;go_wp2_with fail;refine (HW1.out w1).mono ?_;rintro e w2 ⟨a,n,c,x,rfl,hk2,hx0,hr⟩;obtain rfl:x=0:=hx0;have HK2:=Hd (HK1.out.trans hk2 (fun _ _ h=>h));have HA:=Hd hr;clear hk2 hr;go_wp2_with fail;refine (HSH.out w2 a n c HK2.out HA.out).mono ?_;rintro e w3 ⟨rfl,hk3⟩;have HK3:=Hd (HK2.out.trans hk3 (fun _ _ h=>h));replace HA:=Hd (rdKeep0 HA.out hk3)
  clear hk3;go_wp2_with fail;refine (HW2.out w3).mono ?_;rintro e w4 ⟨b,n2,c2,x,rfl,hk4,hx0,hr⟩;obtain rfl:x=0:=hx0;have HK4:=Hd (HK3.out.trans hk4 (fun _ _ h=>h));replace HA:=Hd (rdKeep0 HA.out hk4);have HB:=Hd hr;clear hk4 hr;go_wp2_with fail;refine (HSP.out w4 _ _ HA.out HB.out).mono ?_;rintro e w5 ⟨r,rfl,hr,hk5⟩;obtain rfl:r=true:=hr.2 trivial;have HK5:=Hd (HK4.out.trans hk5 (fun _ _ h=>h));replace HB:=Hd (rdKeep0 HB.out hk5)
  clear hk5 hr;go_wp2_with fail;refine (HSH.out w5 b n2 c2 HK5.out HB.out).mono ?_;rintro e w6 ⟨rfl,hk6⟩;have HK6:=Hd (HK5.out.trans hk6 (fun _ _ h=>h));clear hk6;go_wp2_with fail;go_ret;refine⟨?_,keeps_below0 HK6.out⟩;simp
end Go.Proofs.YtiihpbccabeoeaaGreatDoor
