/- The walk: a part. -/
import Derived.Test.YtiihpbccabeoeaaGreatDoorWPsA
import Derived.ProofKit
import Derived.OpenShut
import Derived.ChangeArms
import Derived.Deep.Slices
import Derived.Test.YtiihpbccabeoeaaGreatDoorWPsY
import Derived.Test.YtiihpbccabeoeaaGreatDoorWPsN
import Derived.Test.YtiihpbccabeoeaaGreatDoorWPsD
import Derived.Test.YtiihpbccabeoeaaGreatDoorWPxAG
import Derived.Test.YtiihpbccabeoeaaGreatDoorWPnF
import Derived.Test.YtiihpbccabeoeaaGreatDoorWPrK
namespace Go.Proofs.YtiihpbccabeoeaaGreatDoor
open Go.RowKit
set_option linter.unusedVariables false
set_option maxRecDepth 100000
set_option maxHeartbeats 16000000
section
variable {H:Type} {enc:TypeId×Value→H} {w:World} {base:Nat} {spare:Nat→Bool} {held:Bool}
end
theorem Kx (w:World) (h:w.ShapedOpen Tryz.prog):∃m,w.cell? ⟨0,0,none⟩=some (.int .i64 m):=Go.Proofs.cell_of_shapedOpen_int (zero:=#[.int .i64 0]) (t:=3) h (of_decide_eq_true (by kernel_rfl)) (by kernel_rfl) rfl (by kernel_rfl) (by kernel_rfl) Tryz.underlying3
theorem kD {a b:World} (h:K0 a b):Below a.heap.size a b:=(h.mono (T:=fun x=>a.heap.size≤x) fun x _ s=>s.elim).below (Nat.le_refl _)
def NdAt (w:World) (n:Nat) (ds:List Dt) (a:OA) (m c:Nat):Prop:=eQ n ds∧Rd w (fun _=>True) (.sl 8 ds) (.slice a m c)
theorem NdAt.keep0 {w w':World} {n:Nat} {ds:List Dt} {a:OA} {m c:Nat} (h:NdAt w n ds a m c) (hk:K0 w w'):NdAt w' n ds a m c:=⟨h.1,aE h.2 hk⟩
theorem Cs {w:World} {n k:Nat} {ds es:List Dt} {a b:OA} {m c m' c':Nat} (h:NdAt w n ds a m c) (g:NdAt w k es b m' c'):Calls Tryz.prog 11 #[.slice a m c,.slice b m' c'] w (bY w (ds=es)):=Ji (n+1) n k (Nat.lt_succ_self _) w _ _ ds es a b m c m' c' h.1 g.1 h.2 g.2
theorem Bb {w:World} {n k:Nat} {ds es:List Dt} {a b:OA} {m c m' c':Nat} (h:NdAt w n ds a m c) (g:NdAt w k es b m' c'):Calls Tryz.prog 15 #[.slice a m c,.slice b m' c'] w (bY w (ds=es)):=Kv (n+1) n k (Nat.lt_succ_self _) w _ _ ds es a b m c m' c' h.1 g.1 h.2 g.2
theorem lT {f:Nat} {vs:Array Value} {w:World} {R R':ByteArray} (h:R=R') (hc:Calls Tryz.prog f vs w (aO w R)):Calls Tryz.prog f vs w (aO w R'):=h ▸ hc
theorem fE (m:Int) (x:Ny) (hk:x.kind≠1) {kx:Int} (hkx:x.kind=kx) (b:Bs) (rs:List (Bs×List Pt)) (hrs:x.rs=rs.map prQ) (hr:∀g∈rs,iZ g.2) (hlen:b.length+(eH rs).length≤60000)
 (hb:∀(w:World) (D:Nat→Prop) (wa:OA) (wl wc:Nat) (ga:OA) (gl gc:Nat) (ra:OA) (rl rcp:Nat) (ka:OA) (kl kc:Nat) (aa:OA) (al ac:Nat),w.cell? ⟨0,0,none⟩=some (.int .i64 m)→NyR w D x wa wl wc ga gl gc ra rl rcp ka kl kc aa al ac→Calls Tryz.prog 66 #[.agg #[.int .i64 x.kind,.bool x.nt,.string ⟨x.nm.toArray⟩,.slice wa wl wc,.slice ga gl gc,.slice ra rl rcp,.slice ka kl kc,.slice aa al ac]] w (aO w ⟨b.toArray⟩)):mM m x ⟨(qY b rs).toArray⟩:=by
 intro w D wa wl wc ga gl gc ra rl rcp ka kl kc aa al ac hm hv;have hrd:=hv.rs;rw [hrs] at hrd;exact Is w x.kind hk x.nt ⟨x.nm.toArray⟩ b rs wa wl wc ga gl gc ra rl rcp ka kl kc aa al ac hlen (fun W hW=>hb W D wa wl wc ga gl gc ra rl rcp ka kl kc aa al ac (bN hm hW (dI hm)) (hv.keep0 hW)) (fun W hW=>tG m W D rs ra rl rcp (aE hrd hW) hr (bN hm hW (dI hm)) (by omega))
theorem zS (m:Int) (ws:List (List Pt)) (gs rs:List (Bs×List Pt)) (hw:∀w∈ws,iZ w) (hg:∀g∈gs,Mx g.2) (hr:∀g∈rs,iZ g.2) (hlen:(eH rs).length+(jY gs).length+(fC ws).length≤60000):mM m ⟨1,false,[],ws.map aY,gs.map prQ,rs.map prQ,[],[]⟩ ⟨(Ax ws gs rs).toArray⟩:=by
 intro w D wa wl wc ga gl gc ra rl rcp ka kl kc aa al ac hm hv;exact E4 w false _ _ wa wl wc ga gl gc ra rl rcp ka kl kc aa al ac fun W hW=>De m W D ws gs rs 1 false _ wa wl wc ga gl gc ra rl rcp ka kl kc aa al ac (aE hv.ws hW) (aE hv.gs hW) (aE hv.rs hW) hw hg hr (bN hm hW (dI hm)) hlen
theorem Hg (m:Int) {kind:Nat} {nt:Bool} {nm:Bs} {ws:List (List Pt)} {ks:List Ny} {outs:List Bs} {b:Bs} (rs:List (Bs×List Pt)) (hB:f7 kind nt nm ws outs b) (hw:∀w∈ws,iZ w) (hr:∀g∈rs,iZ g.2) (hall:iY (fun x S=>mM m x ⟨S.toArray⟩) ks outs) (hlen:b.length+(eH rs).length≤60000):mM m ⟨(kind:Nat),nt,nm,ws.map aY,[],rs.map prQ,eV ks,[]⟩ ⟨(qY b rs).toArray⟩:=by
 cases hB with
 | pipe nt a l=>
  refine fE m _ (show ((2:Nat):Int)≠1 by decide) rfl _ rs rfl hr hlen fun w D wa wl wc ga gl gc ra rl rcp ka kl kc aa al ac hm hv=>?_;have hj:=iG 32 [124,32] (a::l);rw [lA] at hlen;have hC:∀W,K0 w W→Calls Tryz.prog 21 #[.slice ka kl kc,.string ⟨#[32,124,32]⟩] W (aO W ⟨(Lib.join (a::l) [32,124,32]).toArray⟩):=fun W hW=>l5 m W D ks _ hall ⟨#[32,124,32]⟩ ka kl kc (aE hv.ks hW) (bN hm hW (dI hm)) (by omega) (by show (Lib.join _ [32,124,32]).length≤_;omega)
  cases nt with
  | false=>exact Po w _ _ wa wl wc ga gl gc ra rl rcp ka kl kc aa al ac hC
  | true=>exact lT (pS (by simp)) (Nk w _ _ wa wl wc ga gl gc ra rl rcp ka kl kc aa al ac (by rw [gN];omega) hC)
 | and a b=>
  refine fE m _ (show ((3:Nat):Int)≠1 by decide) rfl _ rs rfl hr hlen fun w D wa wl wc ga gl gc ra rl rcp ka kl kc aa al ac hm hv=>?_;have hj:=iG 32 [38,38,32] [a,b];exact Qu w _ _ _ wa wl wc ga gl gc ra rl rcp ka kl kc aa al ac fun W hW=>l5 m W D ks _ hall ⟨#[32,38,38,32]⟩ ka kl kc (aE hv.ks hW) (bN hm hW (dI hm)) (by omega) (by show (Lib.join _ [32,38,38,32]).length≤_;omega)
 | or a b=>
  refine fE m _ (show ((4:Nat):Int)≠1 by decide) rfl _ rs rfl hr hlen fun w D wa wl wc ga gl gc ra rl rcp ka kl kc aa al ac hm hv=>?_;have hj:=iG 32 [124,124,32] [a,b];exact sbOr w _ _ _ wa wl wc ga gl gc ra rl rcp ka kl kc aa al ac fun W hW=>l5 m W D ks _ hall ⟨#[32,124,124,32]⟩ ka kl kc (aE hv.ks hW) (bN hm hW (dI hm)) (by omega) (by show (Lib.join _ [32,124,124,32]).length≤_;omega)
 | seq a l=>
  refine fE m _ (show ((5:Nat):Int)≠1 by decide) rfl _ rs rfl hr hlen fun w D wa wl wc ga gl gc ra rl rcp ka kl kc aa al ac hm hv=>?_;have hj:=iG 59 [32] (a::l);exact Q2 w _ _ _ wa wl wc ga gl gc ra rl rcp ka kl kc aa al ac fun W hW=>l5 m W D ks _ hall ⟨#[59,32]⟩ ka kl kc (aE hv.ks hW) (bN hm hW (dI hm)) (by omega) (by show (Lib.join _ [59,32]).length≤_;omega)
 | choice a b l=>
  refine fE m _ (show ((6:Nat):Int)≠1 by decide) rfl _ rs rfl hr hlen fun w D wa wl wc ga gl gc ra rl rcp ka kl kc aa al ac hm hv=>?_;have e:=C7 _ [105,102,32] a b l (Nat.le_refl _);simp only [lA] at hlen;refine lT (R:=⟨(chR [105,102,32] (a::b::l)++[102,105]).toArray⟩) (by rw [e]) (Kr w _ _ _ wa wl wc ga gl gc ra rl rcp ka kl kc aa al ac fun W hW=>Br m W D ks _ hall _ _ _ wa wl wc ga gl gc ra rl rcp ka kl kc aa al ac (aE hv.ks hW) (bN hm hW (dI hm)) (by rw [e,lA];omega) (by simp))
 | lpA a b=>
  refine fE m _ (show ((7:Nat):Int)≠1 by decide) rfl _ rs rfl hr hlen fun w D wa wl wc ga gl gc ra rl rcp ka kl kc aa al ac hm hv=>?_;simp only [lA,lC,lN] at hlen;refine lT ?_ (Ok w _ _ ⟨a.toArray⟩ ⟨b.toArray⟩ wa wl wc ga gl gc ra rl rcp ka kl kc aa al ac (by rw [gN];omega) (by rw [gN];omega) (fun W hW=>jQ m W D ks _ hall 0 (by simp) _ _ _ wa wl wc ga gl gc ra rl rcp ka kl kc aa al ac (aE hv.ks hW) (bN hm hW (dI hm))) (fun W hW=>jQ m W D ks _ hall 1 (by simp) _ _ _ wa wl wc ga gl gc ra rl rcp ka kl kc aa al ac (aE hv.ks hW) (bN hm hW (dI hm))))
  exact pS (by simp)
 | lpB a b=>
  refine fE m _ (show ((8:Nat):Int)≠1 by decide) rfl _ rs rfl hr hlen fun w D wa wl wc ga gl gc ra rl rcp ka kl kc aa al ac hm hv=>?_;simp only [lA,lC,lN] at hlen;refine lT ?_ (Oc w _ _ ⟨a.toArray⟩ ⟨b.toArray⟩ wa wl wc ga gl gc ra rl rcp ka kl kc aa al ac (by rw [gN];omega) (by rw [gN];omega) (fun W hW=>jQ m W D ks _ hall 0 (by simp) _ _ _ wa wl wc ga gl gc ra rl rcp ka kl kc aa al ac (aE hv.ks hW) (bN hm hW (dI hm))) (fun W hW=>jQ m W D ks _ hall 1 (by simp) _ _ _ wa wl wc ga gl gc ra rl rcp ka kl kc aa al ac (aE hv.ks hW) (bN hm hW (dI hm))))
  exact pS (by simp)
 | each nm ws a=>
  refine fE m _ (show ((9:Nat):Int)≠1 by decide) rfl _ rs rfl hr hlen fun w D wa wl wc ga gl gc ra rl rcp ka kl kc aa al ac hm hv=>?_;simp only [lA,lC,lN] at hlen;refine lT ?_ (Qz w _ ⟨nm.toArray⟩ ⟨(fC ws).toArray⟩ ⟨a.toArray⟩ wa wl wc ga gl gc ra rl rcp ka kl kc aa al ac (by rw [gN];omega) (by rw [gN];omega) (by rw [gN];omega) (fun W hW=>pX m W D _ wa wl wc (aE hv.ws hW) hw (bN hm hW (dI hm)) (by omega)) (fun W hW=>jQ m W D ks _ hall 0 (by simp) _ _ _ wa wl wc ga gl gc ra rl rcp ka kl kc aa al ac (aE hv.ks hW) (bN hm hW (dI hm))))
  exact pS (by simp)
 | func nm a=>
  refine fE m _ (show ((11:Nat):Int)≠1 by decide) rfl _ rs rfl hr hlen fun w D wa wl wc ga gl gc ra rl rcp ka kl kc aa al ac hm hv=>?_;simp only [lA,lC,lN] at hlen;refine lT ?_ (P3 w _ ⟨nm.toArray⟩ ⟨a.toArray⟩ wa wl wc ga gl gc ra rl rcp ka kl kc aa al ac (by rw [gN];omega) (by rw [gN];omega) (fun W hW=>jQ m W D ks _ hall 0 (by simp) _ _ _ wa wl wc ga gl gc ra rl rcp ka kl kc aa al ac (aE hv.ks hW) (bN hm hW (dI hm))))
  exact pS (by simp)
 | group a=>
  refine fE m _ (show ((12:Nat):Int)≠1 by decide) rfl _ rs rfl hr hlen fun w D wa wl wc ga gl gc ra rl rcp ka kl kc aa al ac hm hv=>?_;simp only [lA,lC,lN] at hlen;refine lT ?_ (N5 w _ _ ⟨a.toArray⟩ wa wl wc ga gl gc ra rl rcp ka kl kc aa al ac (by rw [gN];omega) (fun W hW=>jQ m W D ks _ hall 0 (by simp) _ _ _ wa wl wc ga gl gc ra rl rcp ka kl kc aa al ac (aE hv.ks hW) (bN hm hW (dI hm))))
  exact pS (by simp)
 | shell a=>
  refine fE m _ (show ((13:Nat):Int)≠1 by decide) rfl _ rs rfl hr hlen fun w D wa wl wc ga gl gc ra rl rcp ka kl kc aa al ac hm hv=>?_;simp only [lA,lC,lN] at hlen;refine lT ?_ (Nt w _ _ ⟨a.toArray⟩ wa wl wc ga gl gc ra rl rcp ka kl kc aa al ac (by rw [gN];omega) (fun W hW=>jQ m W D ks _ hall 0 (by simp) _ _ _ wa wl wc ga gl gc ra rl rcp ka kl kc aa al ac (aE hv.ks hW) (bN hm hW (dI hm))))
  exact pS (by simp)
theorem It (m:Int) (v:List Pt) (ar:List zW) (rs:List (Bs×List Pt)) (hv0:iZ v) (hr:∀g∈rs,iZ g.2) (hall:∀a∈ar,iY (fun x S=>mM m x ⟨S.toArray⟩) a.ks a.os∧∀p∈a.ps,iZ p) (hlen:(oG v ar).length+(eH rs).length≤60000):mM m ⟨10,false,[],[aY v],[],rs.map prQ,[],ar.map arQ⟩ ⟨(qY (oG v ar) rs).toArray⟩:=by
 refine fE m _ (show (10:Int)≠1 by decide) rfl _ rs rfl hr hlen fun w D wa wl wc ga gl gc ra rl rcp ka kl kc aa al ac hm hv=>?_;exact Pu w _ _ _ wa wl wc ga gl gc ra rl rcp ka kl kc aa al ac fun W hW=>Ep m W D v ar _ _ _ wa wl wc ga gl gc ra rl rcp ka kl kc aa al ac (aE hv.ws hW) (aE hv.ar hW) hv0 hall (bN hm hW (dI hm)) (by omega)
theorem Dk (m:Int):lU (fun x S=>mM m x ⟨S.toArray⟩):=⟨zS m,fun rs hB hw hr hall hlen=>Hg m rs hB hw hr hall hlen,fun v ar rs hv hr hall hlen=>It m v ar rs hv hr hall hlen⟩
theorem Cz (m:Int) (w:World) (D:Nat→Prop) (xs:List Ny) (outs:List Bs) (hall:iY (fun x S=>mM m x ⟨S.toArray⟩) xs outs) (A:OA) (L C:Nat) (ha:Rd w D (.sl 8 (eV xs)) (.slice A L C)) (hm:w.cell? ⟨0,0,none⟩=some (.int .i64 m)) (hlen:(Lib.join outs [59,32]).length≤60000) :
 Calls Tryz.prog 10 #[.slice A L C] w (aO w ⟨(Lib.join outs [59,32]).toArray⟩):=by
 have hj:=iG 59 [32] outs;have HC:=Hd (l5 m w D xs outs hall ⟨#[59,32]⟩ A L C ha hm (by omega) (by show (Lib.join _ [59,32]).length≤_;omega));obtain⟨R,hR⟩:∃R:ByteArray,R=⟨(Lib.join outs [59,32]).toArray⟩:=⟨_,rfl⟩;rw [show (⟨#[59,32]⟩:ByteArray).data.toList=[59,32] from rfl,←hR] at HC;rw [←hR];clear hall ha hm hlen hj hR;go_enter Tryz.func10,Tryz.ntmps10;go_wp2_with fail;refine HC.o.mono ?_
 rintro e w2 ⟨rfl,hb2⟩;have HB2:=Hd hb2;clear hb2;go_wp2_with fail;go_ret;exact⟨rfl,HB2.o⟩
structure ScT (m:Int) (ds:List Dt) (t:Bs):Prop where
 ex:∃xs outs,ds=eV xs∧iY (fun x S=>mM m x ⟨S.toArray⟩) xs outs∧t=Lib.join outs [59,32]
 len:t.length≤40000
 back:t.length≤16384→iR t=.ok ds
 good:∃n,eQ n ds
theorem Lm (m:Int) {s:Bs} {ds:List Dt} (h:iR s=.ok ds∨ds=[]) (hl:s.length≤600):∃t,ScT m ds t∧t.length≤40*s.length:=by
 rcases h with h | rfl
 ·obtain⟨xs,outs,e,hall,hlen,hback⟩:=Fd (Dk m) h hl;exact⟨_,⟨⟨xs,outs,e,hall,rfl⟩,by omega,hback,uQ h⟩,hlen⟩
 ·exact⟨[],⟨⟨[],[],rfl,trivial,rfl⟩,Nat.zero_le _,fun _=>rfl,0,rfl⟩,Nat.zero_le _⟩
theorem Cn {m:Int} {ds:List Dt} {t:Bs} (h:ScT m ds t) {w:World} {n:Nat} {A:OA} {L C:Nat} (ha:NdAt w n ds A L C) (hm:w.cell? ⟨0,0,none⟩=some (.int .i64 m)):Calls Tryz.prog 10 #[.slice A L C] w (aO w ⟨t.toArray⟩):=by
 obtain⟨xs,outs,rfl,hall,rfl⟩:=h.ex;exact Cz m w _ xs outs hall A L C ha.2 hm (by have:=h.len;omega)
theorem Au {t:Bs} {ds:List Dt} (h:iR t=.ok ds) (hn:∃n,eQ n ds) (hl:t.length≤140737488351232) (w:World):Calls Tryz.prog 9 #[.string ⟨t.toArray⟩] w fun e w'=>∃(a:OA) (k c n:Nat),e=.returned (.tuple #[.slice a k c,.int .i64 0])∧NdAt w' n ds a k c∧K0 w w':=by
 have h1:=v8 w t hl;rw [h] at h1;refine h1.mono fun e w' hp=>?_;obtain⟨a,k,c,he,hrd,hk⟩:=hp;obtain⟨n,hn⟩:=hn;exact⟨a,k,c,n,he,⟨hn,hrd.mono fun _ _ _=>trivial⟩,hk⟩
theorem Ol (w:World) (S:ByteArray) (hs:S.size≤140737488351232):Calls Tryz.prog 9 #[.string S] w fun e w'=>∃(a:OA) (k c x n:Nat) (ds:List Dt),e=.returned (.tuple #[.slice a k c,.int .i64 (x:Nat)])∧NdAt w' n ds a k c∧K0 w w'∧(x=0→iR S.data.toList=.ok ds∨ds=[]):=by
 have h:=v8 w S.data.toList (by rw [←Lib.size_eq];exact hs);rw [show (⟨S.data.toList.toArray⟩:ByteArray)=S from rfl] at h;refine h.mono fun e w' hp=>?_;cases hr:iR S.data.toList with
 | error x=>
  rw [hr] at hp;exact⟨none,0,0,x,0,[],hp.1,⟨rfl,.nil _ _ _ (Nat.zero_le _)⟩,hp.2,fun _=>.inr rfl⟩
 | ok ds=>
  rw [hr] at hp;obtain⟨a,m,c,he,hrd,hk⟩:=hp;obtain⟨n,hn⟩:=uQ hr;exact⟨a,m,c,0,n,ds,he,⟨hn,hrd.mono fun _ _ _=>trivial⟩,hk,fun _=>.inl rfl⟩
theorem Ph (m:Int) (w:World) (hm:w.cell? ⟨0,0,none⟩=some (.int .i64 m)) :
 Calls Tryz.prog 8 #[] w fun e w'=>e=.returned (.bool true)∧K0 w w':=by
 obtain⟨t,ht,hlt⟩:=Lm m (s:=exS) (.inl Co) (by decide);have hback:=ht.back (by have:exS.length=16:=rfl;omega);have h1:∀{W:World} {n:Nat} {a:OA} {k c:Nat},NdAt W n exT a k c→k=1:=fun h=>(cK (k:=8) (f:=Ny.row) (xs:=[O4]) (fun _=>rfl) (by decide) h.2).1;obtain⟨S,hS⟩:∃S:ByteArray,S=⟨t.toArray⟩:=⟨_,rfl⟩;have HQ:=Hd (show ∀W,Calls Tryz.prog 9 #[.string S] W fun e w'=>∃(a:OA) (c n:Nat),e=.returned (.tuple #[.slice a 1 c,.int .i64 0])∧NdAt w' n exT a 1 c∧K0 W w' from fun W=>by
  rw [hS];refine (Au hback ht.good (by have:exS.length=16:=rfl;omega) W).mono ?_;rintro e w' ⟨a,k,c,n,he,hn,hk⟩;obtain rfl:=h1 hn;exact⟨a,c,n,he,hn,hk⟩)
 have HQ0:=Hd (show ∀W,Calls Tryz.prog 9 #[.string ⟨#[97,32,39,98,32,99,39,32,124,32,100,32,38,38,32,101]⟩] W fun e w'=>∃(a:OA) (c n:Nat),e=.returned (.tuple #[.slice a 1 c,.int .i64 0])∧NdAt w' n exT a 1 c∧K0 W w' from fun W=>by
  refine (Au Co ht.good (by decide) W).mono ?_;rintro e w' ⟨a,k,c,n,he,hn,hk⟩;obtain rfl:=h1 hn;exact⟨a,c,n,he,hn,hk⟩)
 have HSC:=Hd (show ∀(W:World) (a:OA) (c n:Nat),NdAt W n exT a 1 c→K0 w W→Calls Tryz.prog 10 #[.slice a 1 c] W (aO W S) from fun W a c n h hk=>by
  rw [hS];exact Cn ht h (bN hm hk (dI hm)))
 have HNE:=Hd (show exT≠[] from fun h=>by have:=congrArg List.length h;cases this);clear hS hm hback h1;obtain⟨ds,hds⟩:∃ds,ds=exT:=⟨_,rfl⟩;rw [←hds] at HQ HQ0 HSC HNE;clear hds ht;go_enter Tryz.func8,Tryz.ntmps8;go_wp2_with fail;refine (HQ0.o w).mono ?_;rintro e w1 ⟨a,c,n,rfl,ha,hk1⟩;have HA:=Hd ha;have HK1:=Hd hk1;clear ha hk1;go_wp2_with fail;refine (HSC.o w1 a c n HA.o HK1.o).mono ?_;rintro e w2 ⟨rfl,hb2⟩
 have hk2:=aQ hb2;replace HA:=Hd (HA.o.keep0 hk2);have HK2:=Hd (HK1.o.trans hk2 k3);clear hb2 hk2;go_wp2_with fail;refine (HQ.o w2).mono ?_;rintro e w3 ⟨b,c',n2,rfl,hb,hk3⟩;have HB:=Hd hb;replace HA:=Hd (HA.o.keep0 hk3);have HK3:=Hd (HK2.o.trans hk3 k3);clear hb hk3;go_wp2_with fail;refine (Cs HA.o HB.o).mono ?_;rintro e w4 ⟨r,rfl,hr,hk4⟩;obtain rfl:r=true:=hr.2 rfl
 replace HA:=Hd (HA.o.keep0 hk4);replace HB:=Hd (HB.o.keep0 hk4);have HK4:=Hd (HK3.o.trans hk4 k3);clear hr hk4;go_wp2_with fail;refine (Bb HA.o HB.o).mono ?_;rintro e w5 ⟨r,rfl,hr,hk5⟩;obtain rfl:r=true:=hr.2 rfl;replace HA:=Hd (HA.o.keep0 hk5);have HK5:=Hd (HK4.o.trans hk5 k3);clear hr hk5;go_wp2_with fail;refine (Bb HA.o (show NdAt w5 0 [] none 0 0 from⟨rfl,.nil _ _ _ (Nat.zero_le _)⟩)).mono ?_
 rintro e w6 ⟨r,rfl,hr,hk6⟩;obtain rfl:r=false:=by
  cases r with
  | false=>rfl
  | true=>exact absurd (hr.1 rfl) HNE.o
 have HK6:=Hd (HK5.o.trans hk6 k3);clear hr hk6;go_wp2_with fail;go_ret;exact⟨rfl,HK6.o⟩
theorem showScripts_walk (a0:ByteArray) (w:World) (h0:a0.size≤140737488351232) (hsh:w.ShapedOpen Tryz.prog) :
 Calls Tryz.prog 3 #[.string a0] w fun e w'=>e=.returned (.bool true)∧Below w.heap.size w w':=by
 obtain⟨m,hm⟩:=Kx w hsh;have HAL:=Hd (Ph m w hm);have HMX:=Hd hm;have HLX:=Hd (dI hm);have HSCR:=Hd (fun W=>Ol W a0 h0);clear hm hsh;by_cases hl0:600<a0.size
 ·have p0:(600:Int)<(a0.size:Int):=by omega
  clear hl0;go_enter Tryz.func3,Tryz.ntmps3;go_wp2_with fail;refine HAL.o.mono ?_;rintro e w1 ⟨rfl,hk1⟩;have HK1:=Hd hk1;clear hk1;go_wp2_with fail;refine (HSCR.o w1).mono ?_;rintro e w2 ⟨a,k,c,x,n,ds,rfl,hn,hk2,_⟩;have HK2:=Hd (HK1.o.trans hk2 k3);clear hk2 hn;go_wp2_with fail;go_ret;exact⟨rfl,kD HK2.o⟩
 have p0:¬(600:Int)<(a0.size:Int):=by omega
 have HL:=Hd (show a0.data.toList.length≤600 by rw [←Lib.size_eq];omega);clear hl0;go_enter Tryz.func3,Tryz.ntmps3;go_wp2_with fail;refine HAL.o.mono ?_;rintro e w1 ⟨rfl,hk1⟩;have HK1:=Hd hk1;clear hk1 HAL;go_wp2_with fail;refine (HSCR.o w1).mono ?_;rintro e w2 ⟨a,k,c,x,n,ds,rfl,hn,hk2,hx⟩;have HK2:=Hd (HK1.o.trans hk2 k3);by_cases hx0:x=0
 ·have HX:=Hd (hx hx0);subst hx0;obtain⟨t,ht,_⟩:=Lm m HX.o HL.o;obtain⟨S,hS⟩:∃S:ByteArray,S=⟨t.toArray⟩:=⟨_,rfl⟩;have hSs:S.size=t.length:=by rw [hS,gN]
  have hlen:=ht.len;have HA:=Hd hn;have HSC:=Hd (show ∀(W:World) (a:OA) (k c n:Nat),NdAt W n ds a k c→K0 w W→Calls Tryz.prog 10 #[.slice a k c] W (aO W S) from fun W a k c n h hk=>by
   rw [hS];exact Cn ht h (bN HMX.o hk HLX.o))
  by_cases h16:16384<S.size
  ·have p1:(16384:Int)<(S.size:Int):=by omega
   clear h16 hn hk2 hx hSs hlen hS ht;go_wp2_with fail;refine (HSC.o w2 a k c n HA.o HK2.o).mono ?_;rintro e w3 ⟨rfl,hb3⟩;have HK3:=Hd (HK2.o.trans (aQ hb3) k3);clear hb3;go_wp2_with fail;go_ret;exact⟨rfl,kD HK3.o⟩
  have p1:¬(16384:Int)<(S.size:Int):=by omega
  have HQ:=Hd (show ∀W,Calls Tryz.prog 9 #[.string S] W fun e w'=>∃(a:OA) (k c n:Nat),e=.returned (.tuple #[.slice a k c,.int .i64 0])∧NdAt w' n ds a k c∧K0 W w' from fun W=>by
   rw [hS];exact Au (ht.back (by omega)) ht.good (by omega) W)
  clear h16 hn hk2 hx hSs hlen hS ht;go_wp2_with fail;refine (HSC.o w2 a k c n HA.o HK2.o).mono ?_;rintro e w3 ⟨rfl,hb3⟩;have hk3:=aQ hb3;replace HA:=Hd (HA.o.keep0 hk3);have HK3:=Hd (HK2.o.trans hk3 k3);clear hb3 hk3;go_wp2_with fail;refine (HQ.o w3).mono ?_;rintro e w4 ⟨b,kb,cb,nb,rfl,hb,hk4⟩;have HB:=Hd hb;replace HA:=Hd (HA.o.keep0 hk4);have HK4:=Hd (HK3.o.trans hk4 k3)
  clear hb hk4;go_wp2_with fail;refine (Cs HA.o HB.o).mono ?_;rintro e w5 ⟨r,rfl,hr,hk5⟩;obtain rfl:r=true:=hr.2 rfl;replace HB:=Hd (HB.o.keep0 hk5);have HK5:=Hd (HK4.o.trans hk5 k3);clear hr hk5;go_wp2_with fail;refine (HSC.o w5 b kb cb nb HB.o HK5.o).mono ?_;rintro e w6 ⟨rfl,hb6⟩;have HK6:=Hd (HK5.o.trans (aQ hb6) k3);clear hb6;go_wp2_with fail
  go_ret;refine⟨?_,kD HK6.o⟩;simp
 ·have hx2:((x:Int) != 0)=true:=by rw [bne_iff_ne];omega
  clear hx hn hk2 hx0;go_wp2_with fail;go_ret;exact⟨rfl,kD HK2.o⟩
end Go.Proofs.YtiihpbccabeoeaaGreatDoor
