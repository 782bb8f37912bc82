/- The walk: a part. -/
import Derived.Test.YtiihpbccabeoeaaGreatDoorVM
import Derived.Test.YtiihpbccabeoeaaGreatDoorVPxAC
namespace Go.Proofs.YtiihpbccabeoeaaGreatDoor
open Go.RowKit
set_option linter.unusedVariables false
set_option maxRecDepth 100000
set_option maxHeartbeats 16000000
def dZ (K:Nat) (ts:List Tk):PR (List Dt):=
 if aj [40] ts then fu (ab K) 13 (en [41]) ts.tail
 else if aF [123] ts then fu (ab K) 12 (cO [125]) ts.tail
 else if aF [105,102] ts then dx (ab K) ts.tail
 else if aF [119,104,105,108,101] ts then dE (ab K) 7 ts.tail
 else if aF [117,110,116,105,108] ts then dE (ab K) 8 ts.tail
 else if aF [102,111,114] ts then fh (ab K) (av (ab K)) ts.tail
 else eA (ab K) (av (ab K)) ts.tail
theorem vI {ts:List Tk} (h:gj ts=true):aj [40] ts=true∨aF [105,102] ts=true∨aF [119,104,105,108,101] ts=true∨aF [117,110,116,105,108] ts=true∨aF [102,111,114] ts=true∨aF [99,97,115,101] ts=true∨aF [123] ts=true:=by
 unfold gj at h;unfold aF;rw [Bool.or_eq_true] at h;rcases h with h | h
 ·rw [List.contains_iff_mem] at h;simp only [fe,List.mem_cons,List.not_mem_nil,or_false] at h;rcases h with h | h | h | h | h | h<;>rw [h]<;>simp
 ·exact .inl h
theorem tH {K:Nat} {ts:List Tk} (h:aF [123] ts=true):dZ K ts=fu (ab K) 12 (cO [125]) ts.tail∧cw (ab K) (av (ab K)) ts=some (aM (av (ab K)) (dZ K ts)):=by
 have hp:aJ (ch ts)=[123]:=nH.1 h;have ho:=ip h dC;have e:dZ K ts=fu (ab K) 12 (cO [125]) ts.tail:=by
  exact yK
 exact GL
theorem BX {K:Nat} {ts:List Tk} (h:aF [105,102] ts=true):dZ K ts=dx (ab K) ts.tail∧cw (ab K) (av (ab K)) ts=some (aM (av (ab K)) (dZ K ts)):=by
 have hp:aJ (ch ts)=[105,102]:=nH.1 h;have ho:=ip h dC;have e:dZ K ts=dx (ab K) ts.tail:=by
  exact yK
 exact GL
theorem tJ {K:Nat} {ts:List Tk} (h:aF [119,104,105,108,101] ts=true):dZ K ts=dE (ab K) 7 ts.tail∧cw (ab K) (av (ab K)) ts=some (aM (av (ab K)) (dZ K ts)):=by
 have hp:aJ (ch ts)=[119,104,105,108,101]:=nH.1 h;have ho:=ip h dC;have e:dZ K ts=dE (ab K) 7 ts.tail:=by
  exact yK
 exact GL
theorem tI {K:Nat} {ts:List Tk} (h:aF [117,110,116,105,108] ts=true):dZ K ts=dE (ab K) 8 ts.tail∧cw (ab K) (av (ab K)) ts=some (aM (av (ab K)) (dZ K ts)):=by
 have hp:aJ (ch ts)=[117,110,116,105,108]:=nH.1 h;have ho:=ip h dC;have e:dZ K ts=dE (ab K) 8 ts.tail:=by
  exact yK
 exact GL
theorem yS {K:Nat} {ts:List Tk} (h:aF [102,111,114] ts=true):dZ K ts=fh (ab K) (av (ab K)) ts.tail∧cw (ab K) (av (ab K)) ts=some (aM (av (ab K)) (dZ K ts)):=by
 have hp:aJ (ch ts)=[102,111,114]:=nH.1 h;have ho:=ip h dC;have e:dZ K ts=fh (ab K) (av (ab K)) ts.tail:=by
  exact yK
 exact GL
theorem vM {K:Nat} {ts:List Tk} (h:aF [99,97,115,101] ts=true):dZ K ts=eA (ab K) (av (ab K)) ts.tail∧cw (ab K) (av (ab K)) ts=some (aM (av (ab K)) (dZ K ts)):=by
 have hp:aJ (ch ts)=[99,97,115,101]:=nH.1 h;have ho:=ip h dC;have e:dZ K ts=eA (ab K) (av (ab K)) ts.tail:=by
  exact yK
 exact GL
theorem DU {K:Nat} {ts:List Tk} (h:gj ts=true):cw (ab K) (av (ab K)) ts=some (aM (av (ab K)) (dZ K ts)):=by
 rcases vI h with h | h | h | h | h | h | h
 ·unfold cw dZ;rw [nE h,nE h]
 ·exact (BX h).2
 ·exact (tJ h).2
 ·exact (tI h).2
 ·exact (yS h).2
 ·exact (vM h).2
 ·exact (tH h).2
theorem O0 (K:Nat) (bw:ez K) (w:World) (Lo B ps n i aN:Nat) (tv:Value) (T:List Tk) (h:QS w Lo B ps tv n T i 0) (hi:i≤T.length) (hd:aN+1+K=41) (ho:aF [105,102] (T.drop i)=true) (cR:iK K) :
 Calls Tryz.prog 163 #[.pointer (some ⟨ps,0,none⟩),.int .i64 (aN:Nat)] w (iw w Lo B ps tv n T i (2*K+2) false (dx (ab K) (T.drop i).tail)):=by
 obtain⟨res,ag⟩:∃res,res=dx (ab K) (T.drop i).tail:=⟨_,rfl⟩;rw [←ag];rw [ aG] at ag;have bA:=Hd h.lt;have HS:=Lib.hid h;have HC:=Hd bw;have HD:=Hd hd;have ay:=Hd ag;have AK:T.length≤20000:=h.sm.1;have Je:IntKind.i64.wrap ((aN:Int)+1)=(aN:Int)+1:=nL _ oM;have pW:IntKind.i64.wrap ((i:Int)+1)=(i:Int)+1:=nL _ oM;have ov:=aT
 have HO:=Hd (nH.1 ho);have kt:=Hd (ip ho dC);have fa:=bL (cY dC ho);have cK:=Hd cR;clear h bw hd ag ho cR;go_enter Tryz.func163,Tryz.ntmps163;go_wp2_with fail;obtain⟨W,hW⟩:∃W,W=w.alloc (.cells #[.int .i64 0,false,eS,(),(),(),(),()] 44):=⟨_,rfl⟩;have dt:K0 w W:=by rw [hW];exact (ae.refl _ _).alloc _
 have HZ:=Hd (show af W w.heap.size [.int .i64 0,false,eS,(),(),(),(),()] by rw [hW];exact aD w _ _ _ _ _ _ _ _ _);rw [←hW];have HK:=Hd (dt.mono (T:=λ b=>b=ps) (λ_ _ h=>h.elim));replace HS:=Hd (HS.o.keep0 dt);clear dt hW;have HQ:=Hd (aY HS.o [40] false kt.o 0);refine HQ.o.mono ?_;rintro e wq ⟨rfl,dq,rfl⟩
 obtain⟨Wa,aQ⟩:∃Wa,Wa=W.drewN dq:=⟨_,rfl⟩;rw [←aQ];have aZ:K0 W Wa:=by rw [aQ];exact (ae.refl _ _).drewN _
 replace HS:=Hd (HS.o.keep0 aZ);replace HZ:=Hd (HZ.o.keep aZ (λ h=>h));replace HK:=Hd (HK.o.trans aZ (λ_ _ h=>h.elim));clear aQ aZ;have je:=Hd (di HS.o [105,102] HO.o 0);go_wp2_with fail;refine je.o.mono ?_;rintro e wq ⟨rfl,dq,rfl⟩;obtain⟨W1,aQ⟩:∃W1,W1=Wa.drewN dq:=⟨_,rfl⟩;rw [←aQ];have aZ:K0 Wa W1:=by rw [aQ];exact (ae.refl _ _).drewN _
 replace HS:=Hd (HS.o.keep0 aZ);replace HZ:=Hd (HZ.o.keep aZ (λ h=>h));replace HK:=Hd (HK.o.trans aZ (λ_ _ h=>h.elim));clear aQ aZ;obtain⟨c0,c1,c2,f1,f2⟩:=HS.o.cells;have aW:=HS.o.lt;go_wp2_with fail;obtain⟨W2,aQ⟩:∃W2,W2=W1.setCell ⟨ps,1,none⟩ (.int .i64 ((i:Int)+1)):=⟨_,rfl⟩;rw [←aQ];obtain⟨iP,fm⟩:=eE HS.o oM;rw [←aQ] at iP fm;replace HS:=Hd iP;replace HZ:=Hd (HZ.o.keep fm (λ e=>by have:=bA.o;omega))
 replace HK:=Hd (HK.o.trans fm k3);clear aQ iP fm;clear c0 c1 c2 f1 f2 aW HO kt;refine (Cr K HC.o W2 Lo B ps n (i+1) aN tv T HS.o oM HD.o).mono ?_;exact SX
theorem Mt (K:Nat) (bw:ez K) (w:World) (Lo B ps n i aN:Nat) (tv:Value) (T:List Tk) (h:QS w Lo B ps tv n T i 0) (hi:i≤T.length) (hd:aN+1+K=41) (ho:aF [102,111,114] (T.drop i)=true) (cR:iK K) :
 Calls Tryz.prog 163 #[.pointer (some ⟨ps,0,none⟩),.int .i64 (aN:Nat)] w (iw w Lo B ps tv n T i (2*K+2) false (fh (ab K) (av (ab K)) (T.drop i).tail)):=by
 obtain⟨res,ag⟩:∃res,res=fh (ab K) (av (ab K)) (T.drop i).tail:=⟨_,rfl⟩;rw [←ag];rw [ aG] at ag;have bA:=Hd h.lt;have HS:=Lib.hid h;have HC:=Hd bw;have HD:=Hd hd;have ay:=Hd ag;have AK:T.length≤20000:=h.sm.1;have Je:IntKind.i64.wrap ((aN:Int)+1)=(aN:Int)+1:=nL _ oM;have pW:IntKind.i64.wrap ((i:Int)+1)=(i:Int)+1:=nL _ oM
 have ov:=aT;have HO:=Hd (nH.1 ho);have kt:=Hd (ip ho dC);have fa:=bL (cY dC ho);have cK:=Hd cR;clear h bw hd ag ho cR;go_enter Tryz.func163,Tryz.ntmps163;go_wp2_with fail;obtain⟨W,hW⟩:∃W,W=w.alloc (.cells #[.int .i64 0,false,eS,(),(),(),(),()] 44):=⟨_,rfl⟩
 have dt:K0 w W:=by rw [hW];exact (ae.refl _ _).alloc _
 have HZ:=Hd (show af W w.heap.size [.int .i64 0,false,eS,(),(),(),(),()] by rw [hW];exact aD w _ _ _ _ _ _ _ _ _);rw [←hW];have HK:=Hd (dt.mono (T:=λ b=>b=ps) (λ_ _ h=>h.elim));replace HS:=Hd (HS.o.keep0 dt);clear dt hW;have HQ:=Hd (aY HS.o [40] false kt.o 0);refine HQ.o.mono ?_;rintro e wq ⟨rfl,dq,rfl⟩
 obtain⟨Wa,aQ⟩:∃Wa,Wa=W.drewN dq:=⟨_,rfl⟩;rw [←aQ];have aZ:K0 W Wa:=by rw [aQ];exact (ae.refl _ _).drewN _
 replace HS:=Hd (HS.o.keep0 aZ);replace HZ:=Hd (HZ.o.keep aZ (λ h=>h));replace HK:=Hd (HK.o.trans aZ (λ_ _ h=>h.elim));clear aQ aZ;have je:=Hd (di HS.o [102,111,114] HO.o 0);go_wp2_with fail;refine je.o.mono ?_;rintro e wq ⟨rfl,dq,rfl⟩;obtain⟨W1,aQ⟩:∃W1,W1=Wa.drewN dq:=⟨_,rfl⟩;rw [←aQ];have aZ:K0 Wa W1:=by rw [aQ];exact (ae.refl _ _).drewN _
 replace HS:=Hd (HS.o.keep0 aZ);replace HZ:=Hd (HZ.o.keep aZ (λ h=>h));replace HK:=Hd (HK.o.trans aZ (λ_ _ h=>h.elim));clear aQ aZ;obtain⟨c0,c1,c2,f1,f2⟩:=HS.o.cells;have aW:=HS.o.lt;go_wp2_with fail;obtain⟨W2,aQ⟩:∃W2,W2=W1.setCell ⟨ps,1,none⟩ (.int .i64 ((i:Int)+1)):=⟨_,rfl⟩;rw [←aQ];obtain⟨iP,fm⟩:=eE HS.o oM;rw [←aQ] at iP fm;replace HS:=Hd iP;replace HZ:=Hd (HZ.o.keep fm (λ e=>by have:=bA.o;omega))
 replace HK:=Hd (HK.o.trans fm k3);clear aQ iP fm;clear c0 c1 c2 f1 f2 aW HO kt;refine (Ip K HC.o cK.o W2 Lo B ps n (i+1) aN tv T HS.o oM HD.o).mono ?_;exact SX
theorem In (K:Nat) (bw:ez K) (w:World) (Lo B ps n i aN:Nat) (tv:Value) (T:List Tk) (h:QS w Lo B ps tv n T i 0) (hi:i≤T.length) (hd:aN+1+K=41) (ho:aF [99,97,115,101] (T.drop i)=true) (cR:iK K) :
 Calls Tryz.prog 163 #[.pointer (some ⟨ps,0,none⟩),.int .i64 (aN:Nat)] w (iw w Lo B ps tv n T i (2*K+2) false (eA (ab K) (av (ab K)) (T.drop i).tail)):=by
 obtain⟨res,ag⟩:∃res,res=eA (ab K) (av (ab K)) (T.drop i).tail:=⟨_,rfl⟩;rw [←ag];rw [ aG] at ag;have bA:=Hd h.lt;have HS:=Lib.hid h;have HC:=Hd bw;have HD:=Hd hd;have ay:=Hd ag;have AK:T.length≤20000:=h.sm.1;have Je:IntKind.i64.wrap ((aN:Int)+1)=(aN:Int)+1:=nL _ oM;have pW:IntKind.i64.wrap ((i:Int)+1)=(i:Int)+1:=nL _ oM
 have ov:=aT;have HO:=Hd (nH.1 ho);have kt:=Hd (ip ho dC);have fa:=bL (cY dC ho);have cK:=Hd cR;clear h bw hd ag ho cR;go_enter Tryz.func163,Tryz.ntmps163;go_wp2_with fail;obtain⟨W,hW⟩:∃W,W=w.alloc (.cells #[.int .i64 0,false,eS,(),(),(),(),()] 44):=⟨_,rfl⟩
 have dt:K0 w W:=by rw [hW];exact (ae.refl _ _).alloc _
 have HZ:=Hd (show af W w.heap.size [.int .i64 0,false,eS,(),(),(),(),()] by rw [hW];exact aD w _ _ _ _ _ _ _ _ _);rw [←hW];have HK:=Hd (dt.mono (T:=λ b=>b=ps) (λ_ _ h=>h.elim));replace HS:=Hd (HS.o.keep0 dt);clear dt hW;have HQ:=Hd (aY HS.o [40] false kt.o 0);refine HQ.o.mono ?_;rintro e wq ⟨rfl,dq,rfl⟩
 obtain⟨Wa,aQ⟩:∃Wa,Wa=W.drewN dq:=⟨_,rfl⟩;rw [←aQ];have aZ:K0 W Wa:=by rw [aQ];exact (ae.refl _ _).drewN _
 replace HS:=Hd (HS.o.keep0 aZ);replace HZ:=Hd (HZ.o.keep aZ (λ h=>h));replace HK:=Hd (HK.o.trans aZ (λ_ _ h=>h.elim));clear aQ aZ;have je:=Hd (di HS.o [99,97,115,101] HO.o 0);go_wp2_with fail;refine je.o.mono ?_;rintro e wq ⟨rfl,dq,rfl⟩;obtain⟨W1,aQ⟩:∃W1,W1=Wa.drewN dq:=⟨_,rfl⟩;rw [←aQ];have aZ:K0 Wa W1:=by rw [aQ];exact (ae.refl _ _).drewN _
 replace HS:=Hd (HS.o.keep0 aZ);replace HZ:=Hd (HZ.o.keep aZ (λ h=>h));replace HK:=Hd (HK.o.trans aZ (λ_ _ h=>h.elim));clear aQ aZ;obtain⟨c0,c1,c2,f1,f2⟩:=HS.o.cells;have aW:=HS.o.lt;go_wp2_with fail;obtain⟨W2,aQ⟩:∃W2,W2=W1.setCell ⟨ps,1,none⟩ (.int .i64 ((i:Int)+1)):=⟨_,rfl⟩;rw [←aQ];obtain⟨iP,fm⟩:=eE HS.o oM;rw [←aQ] at iP fm;replace HS:=Hd iP;replace HZ:=Hd (HZ.o.keep fm (λ e=>by have:=bA.o;omega))
 replace HK:=Hd (HK.o.trans fm k3);clear aQ iP fm;clear c0 c1 c2 f1 f2 aW HO kt;refine (Cs K HC.o cK.o W2 Lo B ps n (i+1) aN tv T HS.o oM HD.o).mono ?_;exact SX
theorem iw.wide {w:World} {Lo B ps:Nat} {tv:Value} {n:Nat} {T:List Tk} {i b b2:Nat} {cl:Bool} {res:PR (List Dt)} {e:Ending} {w':World} (h:iw w Lo B ps tv n T i b cl res e w') (hb:b≤b2):iw w Lo B ps tv n T i b2 cl res e w':=by
 obtain⟨v,j,x,h1,h2,h3,h4⟩:=h;exact⟨v,j,x,h1,h2,oM,h4⟩
theorem EA (K:Nat) (bw:ez K) (cR:iK K) (w:World) (Lo B ps n i aN:Nat) (tv:Value) (T:List Tk) (h:QS w Lo B ps tv n T i 0) (hi:i≤T.length) (hd:aN+1+K=41) (hc:gj (T.drop i)=true) :
 Calls Tryz.prog 163 #[.pointer (some ⟨ps,0,none⟩),.int .i64 (aN:Nat)] w (iw w Lo B ps tv n T i (2*K+2) false (dZ K (T.drop i))):=by
 rcases vI hc with h1 | h1 | h1 | h1 | h1 | h1 | h1
 ·rw [show dZ K (T.drop i)=fu (ab K) 13 (en [41]) (T.drop i).tail by unfold dZ;rw [nE h1]];exact (EB K bw w Lo B ps n i aN tv T h hi hd h1).mono λ e w' hq=>hq.wide oM
 ·rw [(BX h1).1];exact O0 K bw w Lo B ps n i aN tv T h hi hd h1 cR
 ·rw [(tJ h1).1];exact (EI K bw w Lo B ps n i aN tv T h hi hd h1).mono λ e w' hq=>hq.wide oM
 ·rw [(tI h1).1];exact (EH K bw w Lo B ps n i aN tv T h hi hd h1).mono λ e w' hq=>hq.wide oM
 ·rw [(yS h1).1];exact Mt K bw w Lo B ps n i aN tv T h hi hd h1 cR
 ·rw [(vM h1).1];exact In K bw w Lo B ps n i aN tv T h hi hd h1 cR
 ·rw [(tH h1).1];exact (Ey K bw w Lo B ps n i aN tv T h hi hd h1).mono λ e w' hq=>hq.wide oM
def tf (name:Bs) (p:PR (List Dt)):PR (List Dt):=match p with
 | .error e=>.error e
 | .ok (d,r2)=>.ok (cE 11 false name [] [] [] d [],r2)
theorem BP (x:List Tk):(bB x && (aj [40] x || bJ.contains (aJ (ch x))))=gj x:=by
 unfold bB gj;cases hk:((ch x).kind==1) with
 | true=>
  have ho:aj [40] x=false:=by unfold aj;rw [nH.1 hk];rfl
  rw [ho,nE rfl];generalize aJ (ch x)=s;cases hr:bJ.contains s with
  | true=>simp
  | false=>
   have hs:fe.contains s=false:=by
    rw [←Bool.not_eq_true];intro hh;have:bJ.contains s=true:=by
     exact PT
    rw [this] at hr;cases hr
   rw [hs];simp
 | false=>
  rw [nF sI,lj hk,show fe.contains ([]:Bs)=false from dC,show bJ.contains ([]:Bs)=false from dC];cases aj [40] x<;>simp
theorem FG {cmd:List Tk→PR (List Dt)} {scr:Bs→Except Nat Unit} {ts:List Tk} (h:gj ts=false):cw cmd scr ts=if bK (aJ (ch ts)) && fF ts then some (cy cmd (aJ (ch ts)) ts) else none:=by
 unfold gj at h;rw [Bool.or_eq_false_iff] at h;have hw:∀s,s∈fe→aF s ts=false:=λ s hs=>by
  cases hh:aF s ts with
  | false=>rfl
  | true=>
   have h1:=h.1;rw [nH.1 hh,List.contains_iff_mem.2 hs] at h1;cases h1
 unfold cw;rw [h.2,hw [123] dC,hw [105,102] dC,hw [119,104,105,108,101] dC,hw [117,110,116,105,108] dC,hw [102,111,114] dC,hw [99,97,115,101] dC];rfl
theorem Aq {K:Nat} {ts:List Tk} (h:bB ts=false):ab (K+1) ts=.error 2:=by
 show (if bB ts=true then _ else _)=_;rw [h];rfl
theorem Ao {K:Nat} {ts:List Tk} (hb:bB ts=true) (h:gj ts=true):ab (K+1) ts=aM (av (ab K)) (dZ K ts):=by
 show (if bB ts=true then gV (ab K) (av (ab K)) ts else _)=_;rw [hb,nE rfl];unfold gV;rw [DU h]
theorem se {K:Nat} {name:Bs} {ts:List Tk}:cy (ab K) name ts=if aj [41] ts.tail.tail then (if gj (ai ts.tail.tail.tail) then tf name (ab K (ai ts.tail.tail.tail)) else .error 2) else .error 2:=by
 unfold cy;cases ho:aj [41] ts.tail.tail with
 | false=>rw [sY ho];rfl
 | true=>
  rw [qL ho,nE rfl];dsimp only;rw [BP];cases gj (ai ts.tail.tail.tail) with
  | false=>rfl
  | true=>
   rw [nE rfl,nE rfl];unfold tf;cases ab K (ai ts.tail.tail.tail)<;>rfl
theorem rK {K:Nat} {ts:List Tk} (hb:bB ts=true) (h:gj ts=false) (hn:bK (aJ (ch ts))=true) (ho:aj [40] ts.tail=true):ab (K+1) ts=cy (ab K) (aJ (ch ts)) ts:=by
 show (if bB ts=true then gV (ab K) (av (ab K)) ts else _)=_;rw [hb,nE rfl];unfold gV;rw [FG h,hn];unfold fF;rw [ho];rfl
theorem vH {K:Nat} {ts:List Tk} (hb:bB ts=true) (h:gj ts=false) (hn:(bK (aJ (ch ts)) && aj [40] ts.tail)=false):ab (K+1) ts=bj (av (ab K)) (ts.length+1) [] [] [] ts:=by
 show (if bB ts=true then gV (ab K) (av (ab K)) ts else _)=_;rw [hb,nE rfl];unfold gV;rw [FG h];unfold fF;rw [hn];rfl
theorem Hz {T:List Tk} {i:Nat} (hs:NM T) (hn:bK (aJ (ch (T.drop i)))=true) (scr:Bs→Except Nat Unit):uw (T.drop i)=true∧ec scr (ch (T.drop i)).word=.ok ()∧dw (ch (T.drop i)).word=none:=by
 have hi:i<T.length:=by
  rcases nP i T.length with h | h
  ·exact h
  ·rw [iM h] at hn;cases hn
 rw [fY hi] at hn;unfold uw;rw [fY hi];have h1:=(hs.2 _ (uD hi)).2;generalize T[i]=t at h1 hn;have cM:=zo hn;unfold aJ at cM hn;by_cases hk:(t.kind==1)=true
 ·rw [nE hk] at cM hn
  match hw:t.word,cM,hn with
  | [],cM,_=>exact nQ rfl cM
  | a::b::l,cM,_=>exact nQ rfl cM
  | [p],cM,hn=>
   dsimp only at cM hn;by_cases hp:(p.kind==1)=true
   ·rw [nE hp] at cM hn;have FP:=nH.1 hp;have hpw:=MH h1.2 (p:=p) (by rw [hw];exact List.mem_cons_self ..) FP;refine⟨by rw [hk];rfl,?_,?_⟩
    ·rw [wY,FP,hpw,zp];rfl
    ·refine vt (λ h=>?_);unfold bK at hn;simp only [nW,nH] at hn;have h3:=h.2.2;rw [hn.2,List.getElem?_eq_none (nC _)] at h3;cases h3
   ·rw [nF hp] at cM;exact nQ rfl cM
 ·rw [nF hk] at cM;exact nQ rfl cM
theorem Iw {K:Nat} {w6 w8 w9:World} {D6 D8 D:Nat→Prop} {T:List Tk} {res gr:PR (List Dt)} {v:NV} {j bd j2 y m c:Nat} {a:OA} (hq:QF false w6 D6 T gr v.vals j bd) (ag:res=aM (av (ab K)) gr) (hm:∀ds,bV w6 D6 ds v.vals→bV w9 D ds v.vals) (hmr:∀ds,Rd w8 D8 (.sl 2 ds) (.slice a m c)→Rd w9 D (.sl 2 ds) (.slice a m c))
 (hr:(bd=0∧∃(gd:Prop) (ds:List Dt),(gd→Rd w8 D8 (.sl 2 ds) (.slice a m c))∧((gd∧y=0∧j2≤T.length∧bm (av (ab K)) ((T.drop j).length+1) [] (T.drop j)=.ok (ds,T.drop j2))∨(y≠0∧bm (av (ab K)) ((T.drop j).length+1) [] (T.drop j)=.error y)))∨(bd≠0∧y=bd)) :
 QF false w9 D T res [v.k,v.nt,v.nm,.slice v.a0 v.n0 v.c0,.slice v.a1 v.n1 v.c1,.slice a m c,.slice v.a3 v.n3 v.c3,.slice v.a4 v.n4 v.c4] j2 y:=by
 rcases hr with ⟨hb,gd,ds,hd,hr⟩ | ⟨hb,rfl⟩
 ·rcases hq.split (aM (av (ab K))) (λ e=>rfl) (λ h=>by cases h) with ⟨d,r,hg,_,hn,eo,hj,_⟩ | ⟨h9,_⟩ | ⟨_,ho,hg⟩
  ·have hw:res=match bm (av (ab K)) ((T.drop j).length+1) [] (T.drop j) with
    | .error e=>.error e
    | .ok (rs,r2)=>.ok (d.set 5 (.sl 2 rs),r2):=by rw [ag,hg,hj];rfl
   rcases hr with ⟨g,hy,hj2,hr⟩ | ⟨hy,hr⟩
   ·rw [hr] at hw;obtain⟨kind,nt,nm,ws,gs,rs,ks,ar,rfl⟩:=hn;obtain⟨h0,h1,h2,h3,h4,h5,h6,h7,_⟩:=hm _ eo;exact QF.good hw hy ⟨kind,nt,nm,ws,gs,ds,ks,ar,rfl⟩ ⟨h0,h1,h2,h3,h4,hmr ds (hd g),h6,h7,trivial⟩ rfl hj2
   ·rw [hr] at hw;exact QF.err hy hw
  ·exact nQ hb h9
  ·have ol:bP (T.drop j)=false:=by
    unfold aj at ho;rw [nW] at ho;unfold bP;rw [ho.1,nH.1 ho.2];decide
   have h9:bm (av (ab K)) ((T.drop j).length+1) [] (T.drop j)=.ok ([],T.drop j):=by rw [kH,ol];rfl
   rcases hr with ⟨g,hy,hj2,hr⟩ | ⟨hy,hr⟩
   ·rw [h9] at hr;injection hr with hr;injection hr with _ hr;exact QF.stk (by rw [←hr];exact ho) hy (by rw [ag,hg])
   ·rw [h9] at hr;cases hr
 ·rcases hq.split (aM (av (ab K))) (λ e=>rfl) (λ h=>by cases h) with ⟨d,r,hg,h0,_⟩ | ⟨_,hg⟩ | ⟨h0,_⟩
  ·exact nQ h0 hb
  ·exact QF.err hb (by rw [ag,hg])
  ·exact nQ h0 hb
theorem Cv (K:Nat) (cR:iK K) (w:World) (Lo B ps n i x aN:Nat) (tv:Value) (T:List Tk) (hd:aN+1+K=41) (h:QS w Lo B ps tv n T i x) (hi:x=0→i≤T.length) :
 Calls Tryz.prog 164 #[.pointer (some ⟨ps,0,none⟩),.int .i64 (aN:Nat)] w λ e w'=>∃(a:OA) (m c j y:Nat),e=.returned (.slice a m c)∧i≤j∧(j≤T.length∨j=i)∧QS w' Lo B ps tv n T j y∧ae (λ b=>b=ps) w w'∧
  ((x=0∧∃(gd:Prop) (ds:List Dt),(gd→Rd w' (Qd Lo B w.heap.size) (.sl 2 ds) (.slice a m c))∧((gd∧y=0∧j≤T.length∧bm (av (ab K)) ((T.drop i).length+1) [] (T.drop i)=.ok (ds,T.drop j))∨(y≠0∧bm (av (ab K)) ((T.drop i).length+1) [] (T.drop i)=.error y)))∨(x≠0∧y=x)):=by
 by_cases hx:x=0
 ·subst hx;refine (t8 K cR w Lo B ps n i aN tv T hd h (hi rfl)).mono ?_;rintro e w' ⟨gd,a,m,c,j,y,ds,he,h1,h2,_,_,hQ,_,fB⟩;refine⟨a,m,c,j,y,he,h1,.inl h2,hQ.rs,hQ.kp,.inl ⟨rfl,gd,ds,λ g=>hQ.reads g,?_⟩⟩;rcases fB with ⟨g,h0,hr⟩ | h
  ·exact .inl ⟨g,h0,h2,hr⟩
  ·exact .inr h
 ·refine (Cu w Lo B ps n i x aN tv T h hx).mono ?_;rintro e w' ⟨he,rfl⟩;exact⟨none,0,0,i,x,he,nC _,.inr rfl,h,ae.refl _ _,.inr ⟨hx,rfl⟩⟩
end Go.Proofs.YtiihpbccabeoeaaGreatDoor
