/- The walk: a part. -/
import Derived.Test.YtiihpbccabeoeaaGreatDoorWPrI
namespace Go.Proofs.YtiihpbccabeoeaaGreatDoor
set_option linter.unusedVariables false
set_option maxRecDepth 100000
set_option maxHeartbeats 16000000
theorem Ip (x y:Ny):eV [x,y]=x.row++y.row:=by rw [cB,eF]
theorem Ka (s:Bs) (R:List Tk):aR (atF (kwT s::R))=s:=rfl
theorem zO (s:Bs) (R:List Tk):aT s (kwT s::R)=true:=by show (s==s)=true;simp
theorem fV (s:Bs) (R:List Tk):fA s (kwT s::R)=.ok ((),R):=by unfold fA;rw [if_pos (zO s R)];rfl
theorem nK (s:Bs) (R:List Tk):fK s (rOp s::R)=.ok ((),R):=by
 unfold fK;rw [if_pos (show aG s (rOp s::R)=true from by show ((2:Nat)==2 && s==s)=true;simp)];rfl
theorem nF {s:Bs} (hs:s≠[]) {ts r:List Tk} {u:Unit} (ht:TG ts) (h:fA s ts=.ok (u,r)):TG r∧WT r+20≤WT ts:=by
 unfold fA at h;split at h
 ·next hq=>injection h with h;injection h with h1 h2;subst h2;exact⟨ht.tail,cP (cJ hs hq)⟩
 ·cases h
theorem xL {s:Bs} {ts r:List Tk} {u:Unit} (ht:TG ts) (h:fK s ts=.ok (u,r)):TG r∧WT r+20≤WT ts:=by
 unfold fK at h;split at h
 ·next hq=>injection h with h;injection h with h1 h2;subst h2;exact⟨ht.tail,cP (dO hq)⟩
 ·cases h
variable {P:Ny→Bs→Prop}
def BG (P:Ny→Bs→Prop) (key:Tk) (f:List Tk→PR (List Dt)) (ts:List Tk) (d:List Dt) (r:List Tk):Prop:=
 TG r∧∃(b:Bs) (t:List Tk) (mk:List (Bs×List Pt)→Ny),(∀rs:List (Bs×List Pt),(∀g∈rs,iZ g.2)→b.length+(eH rs).length≤60000→P (mk rs) (qY b rs))∧(∀rs:List (Bs×List Pt),Ny.row (mk rs)=d.set 5 (.sl 2 ((rs.map prQ).flatMap prD)))∧Tok b (key::t)∧b.length+WT r≤WT ts+20∧∀R,f (t++R)=.ok (d,R)
section
variable {cmd:List Tk→PR (List Dt)} {scr:Bs→Except Nat Unit} (hc:Ix P cmd) (hP:lU P)
include hc hP
theorem M8 {ts:List Tk} {d:List Dt} {r:List Tk} (ht:TG ts) (hw:WT ts≤60000) (h:dQ cmd ts=.ok (d,r)) :
 TG r∧∃x S t,d=Ny.row x∧P x S∧Tok S t∧S.length+40+WT r≤WT ts∧∀R,dQ cmd (kwT [100,111]::(t++rOp [59]::kwT [100,111,110,101]::R))=.ok (d,R):=by
 unfold dQ at h;split at h
 ·cases h
 ·next u r0 h0=>
  obtain⟨a1,a2⟩:=nF (by decide) ht h0;split at h
  ·cases h
  ·next d1 r1 h1=>
   obtain⟨g1,x,S,t,rfl,hx,hS,hl,hm,hrun⟩:=oK hc hP a1 (by omega) h1;split at h
   ·cases h
   ·next u2 r3 h3=>
    injection h with h;injection h with e1 e2;subst e1 e2;obtain⟨a3,a4⟩:=nF (by decide) g1 h3;refine⟨a3,x,S,t,rfl,hx,hS,by omega,fun R=>?_⟩;obtain⟨b1,b2⟩:=jN (s:=[100,111,110,101]) (by decide) R;unfold dQ;rw [fV];dsimp only;rw [hrun _ b1,b2];dsimp only;rw [fV]
theorem Nv {ts:List Tk} {d:List Dt} {r:List Tk} (ht:TG ts) (hw:WT ts≤60000) (h:f8 cmd 12 (fA [125]) ts=.ok (d,r)):BG P (kwT [123]) (f8 cmd 12 (fA [125])) ts d r:=by
 unfold f8 at h;split at h
 ·cases h
 ·next d1 r1 h1=>
  obtain⟨g1,x,S,t,rfl,hx,hS,hl,hm,hrun⟩:=oK hc hP ht hw h1;split at h
  ·cases h
  ·next u r2 h2=>
   injection h with h;injection h with e1 e2;subst e1 e2;obtain⟨a1,a2⟩:=nF (by decide) g1 h2;have hk:=fun rs hr hl=>hP.kids rs (f7.group S) (fun w hw=>by cases hw) hr (show iY P [x] [S] from⟨hx,trivial⟩) hl;simp only [eF] at hk;refine⟨a1,_,t++[rOp [59],kwT [125]],_,hk,fun rs=>rfl,?_,?_,fun R=>?_⟩
   ·have h9:=((gS (s:=[123]) (by decide)).blank hS).semi (gS (s:=[125]) (by decide));simpa using h9
   ·simp only [lA,lC,lN];omega
   ·obtain⟨b1,b2⟩:=jN (s:=[125]) (by decide) R;rw [show t++[rOp [59],kwT [125]]++R=t++rOp [59]::kwT [125]::R by simp];unfold f8;rw [hrun _ b1,b2];dsimp only;rw [fV]
theorem N9 {ts:List Tk} {d:List Dt} {r:List Tk} (ht:TG ts) (hw:WT ts≤60000) (h:f8 cmd 13 (fK [41]) ts=.ok (d,r)):BG P (rOp [40]) (f8 cmd 13 (fK [41])) ts d r:=by
 unfold f8 at h;split at h
 ·cases h
 ·next d1 r1 h1=>
  obtain⟨g1,x,S,t,rfl,hx,hS,hl,hm,hrun⟩:=oK hc hP ht hw h1;split at h
  ·cases h
  ·next u r2 h2=>
   injection h with h;injection h with e1 e2;subst e1 e2;obtain⟨a1,a2⟩:=xL g1 h2;have hk:=fun rs hr hl=>hP.kids rs (f7.shell S) (fun w hw=>by cases hw) hr (show iY P [x] [S] from⟨hx,trivial⟩) hl;simp only [eF] at hk;refine⟨a1,_,t++[rOp [41]],_,hk,fun rs=>rfl,?_,?_,fun R=>?_⟩
   ·have h9:=((jF (o:=[40]) (by decide)).blank hS).blank (jF (o:=[41]) (by decide));simpa using h9
   ·simp only [lA,lC,lN];omega
   ·obtain⟨b1,b2⟩:=F3 (s:=[41]) (by decide) R;rw [show t++[rOp [41]]++R=t++rOp [41]::R by simp];unfold f8;rw [hrun _ b1,b2];dsimp only;rw [nK]
theorem Gv {kind:Nat} {kw:Bs} (hkw:Qe kw=true) (hb:∀a b,f7 kind false [] [] [a,b] (kw++[32]++a++[59,32,100,111,32]++b++[59,32,100,111,110,101])) (hl8:kw.length≤8) {ts:List Tk} {d:List Dt} {r:List Tk} (ht:TG ts) (hw:WT ts≤60000) (h:fB cmd kind ts=.ok (d,r)):BG P (kwT kw) (fB cmd kind) ts d r:=by
 unfold fB at h;split at h
 ·cases h
 ·next d1 r1 h1=>
  obtain⟨g1,x,S,t,rfl,hx,hS,hl,hm,hrun⟩:=oK hc hP ht hw h1;split at h
  ·cases h
  ·next d2 r2 h2=>
   injection h with h;injection h with e1 e2;subst e1 e2;obtain⟨g2,y,S2,t2,rfl,hy,hS2,hl2,hrun2⟩:=M8 hc hP g1 (by omega) h2;have hk:=fun rs hr hl=>hP.kids rs (hb S S2) (fun w hw=>by cases hw) hr (show iY P [x,y] [S,S2] from⟨hx,hy,trivial⟩) hl;simp only [Ip] at hk;refine⟨g2,_,t++rOp [59]::kwT [100,111]::(t2++[rOp [59],kwT [100,111,110,101]]),_,hk,fun rs=>rfl,?_,?_,fun R=>?_⟩
   ·have h9:=((gS hkw).blank hS).semi (((gS (s:=[100,111]) (by decide)).blank hS2).semi (gS (s:=[100,111,110,101]) (by decide)));simpa using h9
   ·simp only [lA,lC,lN];omega
   ·obtain⟨b1,b2⟩:=jN (s:=[100,111]) (by decide) (t2++rOp [59]::kwT [100,111,110,101]::R);rw [show (t++rOp [59]::kwT [100,111]::(t2++[rOp [59],kwT [100,111,110,101]]))++R=t++rOp [59]::kwT [100,111]::(t2++rOp [59]::kwT [100,111,110,101]::R) by simp];unfold fB;rw [hrun _ b1,b2];dsimp only;rw [hrun2 R]
omit hc hP in
theorem Ln (c b:Bs):oM [c,b]=c++[59,32,116,104,101,110,32]++b++[59,32]:=by simp [oM]
omit hc hP in
theorem Lw (c b x:Bs):oM [c,b,x]=c++[59,32,116,104,101,110,32]++b++[59,32]++([101,108,115,101,32]++x++[59,32]):=by simp [oM]
omit hc hP in
theorem Kz (c b x y:Bs) (l:List Bs):oM (c::b::x::y::l)=c++[59,32,116,104,101,110,32]++b++[59,32]++([101,108,105,102,32]++oM (x::y::l)):=by rw [oM]<;>simp
theorem Fw:∀(n:Nat) (acc:List Dt) (ts:List Tk) (l:List Dt) (r:List Tk),TG ts→WT ts≤60000→cA cmd n acc ts=.ok (l,r)→
 TG r∧∃x1 x2 xs o1 o2 outs t,l=acc++eV (x1::x2::xs)∧iY P (x1::x2::xs) (o1::o2::outs)∧Tok (oM (o1::o2::outs)++[102,105]) (t++[kwT [102,105]])∧(oM (o1::o2::outs)).length+WT r≤WT ts∧∀m acc' R,(t++kwT [102,105]::R).length<m→cA cmd m acc' (t++kwT [102,105]::R)=.ok (acc'++eV (x1::x2::xs),kwT [102,105]::R)
 | 0,acc,ts,l,r,ht,hw,h=>by cases h
 | n+1,acc,ts,l,r,ht,hw,h=>by
  unfold cA at h;split at h
  ·cases h
  ·next d1 r1 h1=>
   obtain⟨g1,x,S,t,rfl,hx,hS,hl,hm,hrun⟩:=oK hc hP ht hw h1;split at h
   ·cases h
   ·next u r2 h2=>
    obtain⟨a1,a2⟩:=nF (by decide) g1 h2;split at h
    ·cases h
    ·next d3 r3 h3=>
     obtain⟨g3,y,S3,t3,rfl,hy,hS3,hl3,hm3,hrun3⟩:=oK hc hP a1 (by omega) h3;split at h
     ·next hq=>
      have w1:=cP (cJ (by decide) hq);obtain⟨g4,z1,z2,zs,o1,o2,outs,t4,e,ha,htk,hl4,hrun4⟩:=Fw n _ _ _ _ g3.tail (by omega) h;refine⟨g4,x,y,z1::z2::zs,S,S3,o1::o2::outs,t++rOp [59]::kwT [116,104,101,110]::(t3++rOp [59]::kwT [101,108,105,102]::t4),?_,⟨hx,hy,ha⟩,?_,?_,fun m acc' R hmm=>?_⟩
      ·rw [e,cB x,cB y];simp only [aA]
      ·have h9:=hS.semi ((gS (s:=[116,104,101,110]) (by decide)).blank (hS3.semi ((gS (s:=[101,108,105,102]) (by decide)).blank htk)));rw [Kz];simpa using h9
      ·rw [Kz];simp only [lA,lC,lN];omega
      ·cases m with
       | zero=>exact absurd hmm (Nat.not_lt_zero _)
       | succ m=>
        obtain⟨b1,b2⟩:=jN (s:=[116,104,101,110]) (by decide) (t3++rOp [59]::kwT [101,108,105,102]::(t4++kwT [102,105]::R));obtain⟨b3,b4⟩:=jN (s:=[101,108,105,102]) (by decide) (t4++kwT [102,105]::R);have e1:(t++rOp [59]::kwT [116,104,101,110]::(t3++rOp [59]::kwT [101,108,105,102]::t4))++kwT [102,105]::R=t++rOp [59]::kwT [116,104,101,110]::(t3++rOp [59]::kwT [101,108,105,102]::(t4++kwT [102,105]::R)):=by simp
        rw [e1] at hmm ⊢;unfold cA;rw [hrun _ b1,b2];dsimp only;rw [fV];dsimp only;rw [hrun3 _ b3,b4];dsimp only;rw [if_pos (zO _ _)];show cA cmd m _ (t4++kwT [102,105]::R)=_;rw [hrun4 m _ R (by simp only [lA,lC] at hmm ⊢;omega),cB x,cB y];simp only [aA]
     ·next hq0=>
      split at h
      ·next hq=>
       have w1:=cP (cJ (by decide) hq);split at h
       ·cases h
       ·next d4 r4 h4=>
        injection h with h;injection h with e1 e2;subst e1 e2;obtain⟨g5,z,S5,t5,rfl,hz,hS5,hl5,hm5,hrun5⟩:=oK hc hP g3.tail (by omega) h4;refine⟨g5,x,y,[z],S,S3,[S5],t++rOp [59]::kwT [116,104,101,110]::(t3++rOp [59]::kwT [101,108,115,101]::(t5++[rOp [59]])),?_,⟨hx,hy,hz,trivial⟩,?_,?_,fun m acc' R hmm=>?_⟩
        ·rw [cB x,cB y,eF];simp only [aA]
        ·have h9:=hS.semi ((gS (s:=[116,104,101,110]) (by decide)).blank (hS3.semi ((gS (s:=[101,108,115,101]) (by decide)).blank (hS5.semi (gS (s:=[102,105]) (by decide))))));rw [Lw];simpa using h9
        ·rw [Lw];simp only [lA,lC,lN];omega
        ·cases m with
         | zero=>exact absurd hmm (Nat.not_lt_zero _)
         | succ m=>
          obtain⟨b1,b2⟩:=jN (s:=[116,104,101,110]) (by decide) (t3++rOp [59]::kwT [101,108,115,101]::(t5++rOp [59]::kwT [102,105]::R));obtain⟨b3,b4⟩:=jN (s:=[101,108,115,101]) (by decide) (t5++rOp [59]::kwT [102,105]::R);obtain⟨b5,b6⟩:=jN (s:=[102,105]) (by decide) R;have e1:(t++rOp [59]::kwT [116,104,101,110]::(t3++rOp [59]::kwT [101,108,115,101]::(t5++[rOp [59]])))++kwT [102,105]::R=t++rOp [59]::kwT [116,104,101,110]::(t3++rOp [59]::kwT [101,108,115,101]::(t5++rOp [59]::kwT [102,105]::R)):=by simp
          rw [e1];unfold cA;rw [hrun _ b1,b2];dsimp only;rw [fV];dsimp only;rw [hrun3 _ b3,b4];dsimp only;rw [if_neg (show ¬aT [101,108,105,102] (kwT [101,108,115,101]::(t5++rOp [59]::kwT [102,105]::R))=true from by show ¬(([101,108,115,101]:Bs)==[101,108,105,102])=true;decide),if_pos (zO _ _)];rw [show (kwT [101,108,115,101]::(t5++rOp [59]::kwT [102,105]::R)).tail=t5++rOp [59]::kwT [102,105]::R from rfl,hrun5 _ b5,b6,cB x,cB y,eF]
          simp only [aA]
      ·next hq=>
       injection h with h;injection h with e1 e2;subst e1 e2;refine⟨g3,x,y,[],S,S3,[],t++rOp [59]::kwT [116,104,101,110]::(t3++[rOp [59]]),?_,⟨hx,hy,trivial⟩,?_,?_,fun m acc' R hmm=>?_⟩
       ·rw [cB x,eF];simp only [aA]
       ·have h9:=hS.semi ((gS (s:=[116,104,101,110]) (by decide)).blank (hS3.semi (gS (s:=[102,105]) (by decide))));rw [Ln];simpa using h9
       ·rw [Ln];simp only [lA,lC,lN];omega
       ·cases m with
        | zero=>exact absurd hmm (Nat.not_lt_zero _)
        | succ m=>
         obtain⟨b1,b2⟩:=jN (s:=[116,104,101,110]) (by decide) (t3++rOp [59]::kwT [102,105]::R);obtain⟨b3,b4⟩:=jN (s:=[102,105]) (by decide) R;have e1:(t++rOp [59]::kwT [116,104,101,110]::(t3++[rOp [59]]))++kwT [102,105]::R=t++rOp [59]::kwT [116,104,101,110]::(t3++rOp [59]::kwT [102,105]::R):=by simp
         rw [e1];unfold cA;rw [hrun _ b1,b2];dsimp only;rw [fV];dsimp only;rw [hrun3 _ b3,b4];dsimp only;rw [if_neg (show ¬aT [101,108,105,102] (kwT [102,105]::R)=true from by show ¬(([102,105]:Bs)==[101,108,105,102])=true;decide),if_neg (show ¬aT [101,108,115,101] (kwT [102,105]::R)=true from by show ¬(([102,105]:Bs)==[101,108,115,101])=true;decide),cB x,eF];simp only [aA]
theorem Mg {ts:List Tk} {d:List Dt} {r:List Tk} (ht:TG ts) (hw:WT ts≤60000) (h:eZ cmd ts=.ok (d,r)):BG P (kwT [105,102]) (eZ cmd) ts d r:=by
 unfold eZ at h;split at h
 ·cases h
 ·next l r1 h1=>
  obtain⟨g1,x1,x2,xs,o1,o2,outs,t,rfl,ha,htk,hl,hrun⟩:=Fw hc hP _ _ _ _ _ ht hw h1;split at h
  ·cases h
  ·next u r2 h2=>
   injection h with h;injection h with e1 e2;subst e1 e2;obtain⟨a1,a2⟩:=nF (by decide) g1 h2;have hk:=fun rs hr hl=>hP.kids rs (f7.choice o1 o2 outs) (fun w hw=>by cases hw) hr ha hl;refine⟨a1,_,t++[kwT [102,105]],_,hk,fun rs=>rfl,?_,?_,fun R=>?_⟩
   ·have h9:=(gS (s:=[105,102]) (by decide)).blank htk;simpa using h9
   ·simp only [lA,lC,lN];omega
   ·rw [show t++[kwT [102,105]]++R=t++kwT [102,105]::R by simp];unfold eZ;rw [hrun _ _ R (Nat.lt_succ_self _)];dsimp only;rw [fV]
/-! Words in a row. -/
omit hc hP in
theorem Gb:∀(n:Nat) (acc:List Dt) (ts:List Tk) (l:List Dt) (r:List Tk),TG ts→cW scr n acc ts=.ok (l,r)→TG r∧∃ws:List (List Pt),l=acc++(ws.map aY).flatMap wdD∧(∀w∈ws,iC scr w)∧(fC ws).length+WT r≤WT ts
 | 0,acc,ts,l,r,ht,h=>by cases h
 | n+1,acc,ts,l,r,ht,h=>by
  unfold cW at h;split at h
  ·split at h
   ·cases h
   ·next w r1 hw=>
    obtain⟨g1,g2,g3,_,_⟩:=p6 ht hw;obtain⟨g4,ws,e,hg,hl⟩:=Gb n _ _ _ _ g2 h;refine⟨g4,w::ws,by rw [e,aA];rfl,fun x hx=>?_,?_⟩
    ·rcases List.mem_cons.1 hx with rfl | hx
     ·exact g1
     ·exact hg x hx
    ·rw [kK];simp only [lC,lA];omega
  ·injection h with h;injection h with h1 h2;subst h1 h2;exact⟨ht,[],by simp,(fun w hw=>by cases hw),by show 0+_≤_;omega⟩
omit hc hP in
theorem tU:∀(ws:List (List Pt)) (n:Nat) (acc:List Dt) (R:List Tk),(∀w∈ws,iC scr w)→((atF R).kind==1)=false→(ws.map rWd++R).length<n→cW scr n acc (ws.map rWd++R)=.ok (acc++(ws.map aY).flatMap wdD,R)
 | _,0,_,_,_,_,h=>absurd h (Nat.not_lt_zero _)
 | [],n+1,acc,R,_,hR,_=>by
  show cW scr (n+1) acc R=_;unfold cW;rw [hR,if_neg (by simp)];simp
 | w::l,n+1,acc,R,hw,hR,h=>by
  rw [List.map_cons,List.cons_append];unfold cW;rw [if_pos (show ((atF (rWd w::(l.map rWd++R))).kind==1)=true from rfl),gK (hw w (List.mem_cons_self ..))];dsimp only;rw [tU l n _ R (fun x hx=>hw x (List.mem_cons_of_mem _ hx)) hR (by rw [List.map_cons,List.cons_append,lC] at h;omega),aA];rfl
omit hc hP in
theorem Ar:∀{ws:List (List Pt)},(∀w∈ws,iC scr w)→∀{S:Bs} {t:List Tk},Tok S t→Tok (S++fC ws) (t++ws.map rWd)
 | [],_,S,t,h=>by simpa [fC] using h
 | w::l,hw,S,t,h=>by
  have h1:=hw w (List.mem_cons_self ..);have h2:=Ar (ws:=l) (fun x hx=>hw x (List.mem_cons_of_mem _ hx)) (h.blank (l9 h1.g h1.ne));rw [kK,List.map_cons];simpa using h2
omit hc hP in
theorem yK (c:UInt8) (h:(aZ c || bD c)=true):txB c=true∧bJ c=false∧c≠0∧(c==36)=false∧(c==35)=false:=by
 have:=E2 (P:=fun c=>!(aZ c || bD c) || (txB c && !bJ c && c != 0 && !(c==36) && !(c==35))) (by decide +kernel) c;rw [h] at this;simp only [Bool.not_true,Bool.false_or,Bool.and_eq_true,Bool.not_eq_true',bne_iff_ne] at this;exact⟨this.1.1.1.1,this.1.1.1.2,this.1.1.2,this.1.2,this.2⟩
omit hc hP in
theorem B7 {nm:Bs} (h:bO nm=true):Tok nm [kwT nm]:=by
 obtain⟨h0,hb⟩:=kT h;refine Mu h0 (fun c hc=>?_) ?_
 ·obtain⟨a,b,c1,d,_⟩:=yK c (hb c hc);exact⟨a,b,c1,d⟩
 ·cases nm with
  | nil=>exact absurd rfl h0
  | cons a b=>
   have h9:=(yK a (hb a (List.mem_cons_self ..))).2.2.2.2;have:aI [35] (a::b)=((35:UInt8)==a && true):=by cases b<;>rfl
   rw [this,Bool.and_true,Bool.beq_comm];exact h9
omit hc hP in
theorem zJ {ts:List Tk} {nm:Bs} (ht:TG ts) (h:aR (atF ts)=nm) (hn:nm≠[]):atF ts=kwT nm∧1≤ts.length:=by
 have hk:((atF ts).kind==1)=true:=by
  by_cases hk:((atF ts).kind==1)=true
  ·exact hk
  ·rw [fZ (by simpa using hk)] at h;exact absurd h.symm hn
 obtain⟨h1,h2,_⟩:=ht.at hk;refine⟨?_,nR hk⟩;rw [h1] at h ⊢;generalize (atF ts).word=w at h h2;rcases w with _ | ⟨p,_ | ⟨p2,l⟩⟩
 ·exact absurd (show nm=[] from h.symm) hn
 ·have h':(if p.kind==1 then p.text else [])=nm:=h;split at h'
  ·next hp=>
   obtain⟨k,t,n,o,v,pq⟩:=p;have hk1:k=1:=beq_iff_eq.1 hp;subst hk1;have hok:=h2.ok;unfold gD OkP at hok;rcases hok.1.2.2 with ⟨_,_,_,_,rfl,rfl,rfl,rfl⟩ | ⟨h6,_⟩ | ⟨h6,_⟩ | ⟨h6,_⟩ | ⟨h6,_⟩
   ·have ht:t=nm:=h';subst ht;rfl
   all_goals cases h6
  ·exact absurd h'.symm hn
 ·exact absurd (show nm=[] from h.symm) hn
omit hc hP in
theorem Oz {ts:List Tk} (h:1≤ts.length):WT ts=tkW (atF ts)+WT ts.tail:=by
 cases ts with
 | nil=>simp at h
 | cons t r=>rfl
omit hc hP in
theorem Me (s:Bs):tkW (kwT s)=30+10*s.length:=by
 show 20+10*wdL [eG s]=_;rw [eA,Em];omega
def Ca:List Pt:=[.mk 3 [] [64] [] [] true]
omit hc hP in
theorem Fl:iC scr Ca:=by
 refine⟨⟨?_,.inr ⟨trivial,fun p hp=>by rw [List.mem_singleton.1 hp];rfl⟩⟩,by simp [Ca],rfl,by decide⟩;have hn:yP [64]:=vD true [64,125] (by decide);unfold Ca gD OkP;refine⟨⟨NZ.nil,mQ (by decide),.inr (.inr (.inr (.inr ⟨rfl,(fun h=>by cases h),rfl,hn,.inl ⟨rfl,rfl⟩⟩)))⟩,?_⟩;unfold gD;trivial
theorem yC {nm:Bs} (hn:bO nm=true) {ws:List (List Pt)} (hws:∀w∈ws,iC scr w) {ts0 ts:List Tk} {d:List Dt} {r:List Tk} (ht:TG ts) (hw:WT ts≤60000) (hl:nm.length+(fC ws).length+WT ts≤WT ts0) (h:dQ cmd ts=.ok (d,r)):BG P (kwT [102,111,114]) (gM cmd scr) ts0 (ndR 9 false nm ((ws.map aY).flatMap wdD) [] [] d []) r:=by
 obtain⟨g2,y,S2,t2,rfl,hy,hS2,hl2,hrun2⟩:=M8 hc hP ht hw h;have hk:=fun rs hr hl=>hP.kids rs (f7.each nm ws S2) (fun w hw=>(hws w hw).wrd) hr (show iY P [y] [S2] from⟨hy,trivial⟩) hl;simp only [eF] at hk;refine⟨g2,_,kwT nm::kwT [105,110]::(ws.map rWd++rOp [59]::kwT [100,111]::(t2++[rOp [59],kwT [100,111,110,101]])),_,hk,fun rs=>rfl,?_,?_,fun R=>?_⟩
 ·have h9:=(Ar hws (((gS (s:=[102,111,114]) (by decide)).blank (B7 hn)).blank (gS (s:=[105,110]) (by decide)))).semi (((gS (s:=[100,111]) (by decide)).blank hS2).semi (gS (s:=[100,111,110,101]) (by decide)));simpa using h9
 ·simp only [lA,lC,lN];omega
 ·rw [show (kwT nm::kwT [105,110]::(ws.map rWd++rOp [59]::kwT [100,111]::(t2++[rOp [59],kwT [100,111,110,101]])))++R=kwT nm::kwT [105,110]::(ws.map rWd++rOp [59]::kwT [100,111]::(t2++rOp [59]::kwT [100,111,110,101]::R)) by simp];unfold gM;rw [Ka,if_pos hn];generalize hY:ws.map rWd++rOp [59]::kwT [100,111]::(t2++rOp [59]::kwT [100,111,110,101]::R)=Y;rw [show aF (kwT nm::kwT [105,110]::Y).tail=kwT [105,110]::Y from rfl,if_pos (zO _ _)]
  rw [show (kwT [105,110]::Y).tail=Y from rfl,←hY,tU ws _ [] _ hws rfl (Nat.lt_succ_self _)];dsimp only;rw [if_pos (by rfl)];rw [show aF (rOp [59]::kwT [100,111]::(t2++rOp [59]::kwT [100,111,110,101]::R)).tail=kwT [100,111]::(t2++rOp [59]::kwT [100,111,110,101]::R) from rfl,hrun2 R];rfl
theorem Pl {ts:List Tk} {d:List Dt} {r:List Tk} (ht:TG ts) (hw:WT ts≤60000) (h:gM cmd scr ts=.ok (d,r)):BG P (kwT [102,111,114]) (gM cmd scr) ts d r:=by
 unfold gM at h;split at h
 ·next hn=>
  obtain⟨e0,hl1⟩:=zJ ht rfl (kT hn).1;have w0:=Oz hl1;rw [e0,Me] at w0;have w1:=eR ts.tail;split at h
  ·next hq=>
   have w2:=cP (cJ (by decide) hq);split at h
   ·cases h
   ·next l r1 h1=>
    obtain⟨g1,ws,rfl,hws,hl⟩:=Gb _ _ _ _ _ ht.tail.lines.tail h1;split at h
    ·next hq2=>
     have w3:WT r1.tail+20≤WT r1:=by
      rw [Bool.or_eq_true] at hq2;rcases hq2 with hq2 | hq2<;>exact cP (dO hq2)
     have w4:=eR r1.tail;split at h
     ·cases h
     ·next b r2 h2=>
      injection h with h;injection h with e1 e2;subst e1 e2;exact yC hc hP hn hws g1.tail.lines (by omega) (by omega) h2
    ·cases h
  ·split at h
   ·cases h
   ·next b r2 h2=>
    injection h with h;injection h with e1 e2;subst e1 e2;have w5:WT (aF (if aG [59] (aF ts.tail) then (aF ts.tail).tail else aF ts.tail))≤WT ts.tail:=by
     have w6:=eR (if aG [59] (aF ts.tail) then (aF ts.tail).tail else aF ts.tail);have w7:WT (if aG [59] (aF ts.tail) then (aF ts.tail).tail else aF ts.tail)≤WT (aF ts.tail):=by
      split
      ·exact zQ _
      ·exact Nat.le_refl _
     omega
    have g5:TG (aF (if aG [59] (aF ts.tail) then (aF ts.tail).tail else aF ts.tail)):=by
     refine TG.lines ?_;split
     ·exact ht.tail.lines.tail
     ·exact ht.tail.lines
    exact yC hc hP hn (ws:=[Ca]) (fun w hw=>by rw [List.mem_singleton.1 hw];exact Fl) g5 (by omega) (by
     have:(fC [Ca]).length=7:=by decide
     omega) h2
 ·cases h
/-! A case. -/
def lX (ws:List (List Pt)):List Tk:=ws.flatMap fun w=>[rOp [124],rWd w]
omit hc hP in
theorem zD (w:List Pt) (l:List (List Pt)):lX (w::l)=rOp [124]::rWd w::lX l:=by unfold lX;rw [List.flatMap_cons];rfl
omit hc hP in
theorem J5:∀(n:Nat) (acc:List Dt) (ts:List Tk) (l:List Dt) (r:List Tk),TG ts→dF scr n acc ts=.ok (l,r)→TG r∧∃ws:List (List Pt),l=acc++(ws.map aY).flatMap wdD∧(∀w∈ws,iC scr w)∧(pI [32,124,32] (ws.map bF)).length+WT r≤WT ts
 | 0,acc,ts,l,r,ht,h=>by cases h
 | n+1,acc,ts,l,r,ht,h=>by
  unfold dF at h;split at h
  ·next hq=>
   split at h
   ·cases h
   ·next w r1 hw=>
    have w1:=cP (dO hq);obtain⟨g1,g2,g3,_,_⟩:=p6 ht.tail hw;obtain⟨g4,ws,e,hg,hl⟩:=J5 n _ _ _ _ g2 h;refine⟨g4,w::ws,by rw [e,aA];rfl,fun x hx=>?_,?_⟩
    ·rcases List.mem_cons.1 hx with rfl | hx
     ·exact g1
     ·exact hg x hx
    ·rw [List.map_cons,fS];simp only [lC,lA,lN];omega
  ·injection h with h;injection h with h1 h2;subst h1 h2;exact⟨ht,[],by simp,(fun w hw=>by cases hw),by show 0+_≤_;omega⟩
omit hc hP in
theorem uZ:∀(ws:List (List Pt)) (n:Nat) (acc:List Dt) (R:List Tk),(∀w∈ws,iC scr w)→aG [124] R=false→(lX ws++R).length<n→dF scr n acc (lX ws++R)=.ok (acc++(ws.map aY).flatMap wdD,R)
 | _,0,_,_,_,_,h=>absurd h (Nat.not_lt_zero _)
 | [],n+1,acc,R,_,hR,_=>by
  show dF scr (n+1) acc R=_;unfold dF;rw [hR,if_neg (by simp)];simp
 | w::l,n+1,acc,R,hw,hR,h=>by
  rw [zD] at h ⊢;simp only [List.cons_append] at h ⊢;unfold dF;rw [if_pos (show aG [124] (rOp [124]::rWd w::(lX l++R))=true from rfl),show (rOp [124]::rWd w::(lX l++R)).tail=rWd w::(lX l++R) from rfl,gK (hw w (List.mem_cons_self ..))];dsimp only;rw [uZ l n _ R (fun x hx=>hw x (List.mem_cons_of_mem _ hx)) hR (by simp only [lC] at h;omega),aA]
  rfl
omit hc hP in
theorem Cm:∀{ws:List (List Pt)},(∀w∈ws,iC scr w)→∀{S:Bs} {t:List Tk},Tok S t→Tok (S++pI [32,124,32] (ws.map bF)) (t++lX ws)
 | [],_,S,t,h=>by simpa [pI,lX] using h
 | w::l,hw,S,t,h=>by
  have h1:=hw w (List.mem_cons_self ..);have h2:=Cm (ws:=l) (fun x hx=>hw x (List.mem_cons_of_mem _ hx)) ((h.blank (jF (o:=[124]) (by decide))).blank (l9 h1.g h1.ne));rw [zD,List.map_cons,fS];simpa using h2
theorem Rb {ts:List Tk} {a:List Dt} {r:List Tk} (ht:TG ts) (hw:WT ts≤60000) (h:pJ cmd scr ts=.ok (a,r)) :
 TG r∧∃(A:zW) (t:List Tk),a=arD (arQ A)∧(iY P A.ks A.os∧∀v∈A.ps,iZ v)∧(∀Z tz,Tok Z tz→Tok (sE A++Z) (rOp [40]::t++rOp [59,59]::tz))∧(sE A).length+WT r≤WT ts∧∀Z,pJ cmd scr (rOp [40]::t++rOp [59,59]::Z)=.ok (a,rOp [59,59]::Z):=by
 unfold pJ at h;split at h
 ·cases h
 ·next w r1 hw1=>
  have ht0:TG (if aG [40] ts then ts.tail else ts):=by split;exact ht.tail;exact ht
  have hw0:WT (if aG [40] ts then ts.tail else ts)≤WT ts:=by
   split
   ·exact zQ _
   ·exact Nat.le_refl _
  obtain⟨g1,g2,g3,_,_⟩:=p6 ht0 hw1;split at h
  ·cases h
  ·next l r2 h2=>
   obtain⟨g4,ws,rfl,hws,hl⟩:=J5 _ _ _ _ _ g2 h2;split at h
   ·cases h
   ·next u r3 h3=>
    obtain⟨a1,a2⟩:=xL g4 h3;have w3:=eR r3;have hps:∀v∈w::ws,iZ v:=fun v hv=>by
     rcases List.mem_cons.1 hv with rfl | hv
     ·exact g1.wrd
     ·exact (hws v hv).wrd
    have hpre:∀Z tz,Tok Z tz→Tok ([40,32]++Lib.join ((w::ws).map bF) [32,124,32]++[32,41,32]++Z) (rOp [40]::rWd w::(lX ws++rOp [41]::tz)):=fun Z tz hZ=>by
     have h9:=((Cm hws ((jF (o:=[40]) (by decide)).blank (l9 g1.g g1.ne))).blank (jF (o:=[41]) (by decide))).blank hZ;rw [List.map_cons,eW];simpa using h9
    have hrun0:∀(Y:List Tk),pJ cmd scr (rOp [40]::rWd w::(lX ws++rOp [41]::Y))=if d9 (aF Y) then (match cU cmd (aF Y) with
     | .error e=>.error e
     | .ok (b,r3)=>.ok ([.sl 1 (((w::ws).map aY).flatMap wdD),.sl 8 b],r3)) else .ok ([.sl 1 (((w::ws).map aY).flatMap wdD),.sl 8 []],aF Y):=fun Y=>by
     unfold pJ;rw [if_pos (show aG [40] (rOp [40]::rWd w::(lX ws++rOp [41]::Y))=true from rfl),show (rOp [40]::rWd w::(lX ws++rOp [41]::Y)).tail=rWd w::(lX ws++rOp [41]::Y) from rfl,gK g1];dsimp only;rw [uZ ws _ _ _ hws rfl (Nat.lt_succ_self _)];dsimp only;rw [nK];rfl
    have hjl:(Lib.join ((w::ws).map bF) [32,124,32]).length=(bF w).length+(pI [32,124,32] (ws.map bF)).length:=by rw [List.map_cons,eW,lA]
    split at h
    ·split at h
     ·cases h
     ·next d4 r4 h4=>
      injection h with h;injection h with e1 e2;subst e1 e2;obtain⟨g5,x,S,t,rfl,hx,hS,hl5,hm,hrun⟩:=oK hc hP a1.lines (by omega) h4;refine⟨g5,⟨w::ws,[x],[S]⟩,rWd w::(lX ws++rOp [41]::t),?_,⟨⟨hx,trivial⟩,hps⟩,fun Z tz hZ=>?_,?_,fun Z=>?_⟩
      ·show _=[Dt.sl 1 (((w::ws).map aY).flatMap wdD),Dt.sl 8 (eV [x])];rw [eF];rfl
      ·have h9:=hpre _ _ ((hS.blank (jF (o:=[59,59]) (by decide))).blank hZ);show Tok ([40,32]++Lib.join ((w::ws).map bF) [32,124,32]++[32,41,32]++Lib.join [S] [59,32]++[32,59,59,32]++Z) _;rw [eW (sep:=[59,32]),jW];simpa using h9
      ·show ([40,32]++Lib.join ((w::ws).map bF) [32,124,32]++[32,41,32]++Lib.join [S] [59,32]++[32,59,59,32]).length+_≤_;rw [eW (sep:=[59,32]),jW];simp only [lA,lC,lN,hjl];omega
      ·obtain⟨b1,b2⟩:=F3 (s:=[59,59]) (by decide) Z;rw [show rOp [40]::(rWd w::(lX ws++rOp [41]::t))++rOp [59,59]::Z=rOp [40]::rWd w::(lX ws++rOp [41]::(t++rOp [59,59]::Z)) by simp,hrun0,i6 hm,mL hm,if_pos rfl,hrun _ b1,b2];rfl
    ·injection h with h;injection h with e1 e2;subst e1 e2;refine⟨a1.lines,⟨w::ws,[],[]⟩,rWd w::(lX ws++[rOp [41]]),rfl,⟨trivial,hps⟩,fun Z tz hZ=>?_,?_,fun Z=>?_⟩
     ·have h9:=hpre _ _ (((jF (o:=[59,59]) (by decide)).blank hZ).pad);show Tok ([40,32]++Lib.join ((w::ws).map bF) [32,124,32]++[32,41,32]++Lib.join [] [59,32]++[32,59,59,32]++Z) _;rw [show Lib.join [] [59,32]=[] from rfl];simpa using h9
     ·show ([40,32]++Lib.join ((w::ws).map bF) [32,124,32]++[32,41,32]++Lib.join [] [59,32]++[32,59,59,32]).length+_≤_;rw [show Lib.join [] [59,32]=[] from rfl];simp only [lA,lC,lN,hjl];omega
     ·rw [show rOp [40]::(rWd w::(lX ws++[rOp [41]]))++rOp [59,59]::Z=rOp [40]::rWd w::(lX ws++rOp [41]::(rOp [59,59]::Z)) by simp,hrun0];rfl
def gA:Bs:=[101,115,97,99]
theorem L4:∀(n:Nat) (acc:List Dt) (ts:List Tk) (l:List Dt) (r:List Tk),TG ts→WT ts≤60000→cQ cmd scr n acc ts=.ok (l,r)→
 TG r∧∃(ar:List zW) (t:List Tk),l=acc++(ar.map arQ).flatMap arD∧(∀a∈ar,iY P a.ks a.os∧∀v∈a.ps,iZ v)∧Tok (ar.flatMap sE++gA) (t++[kwT gA])∧(ar.flatMap sE).length+20+WT r≤WT ts∧(t=[]∨∃u,t=rOp [40]::u)∧∀m acc' R,(t++kwT gA::R).length<m→cQ cmd scr m acc' (t++kwT gA::R)=.ok (acc'++(ar.map arQ).flatMap arD,R)
 | 0,acc,ts,l,r,ht,hw,h=>by cases h
 | n+1,acc,ts,l,r,ht,hw,h=>by
  have hend:∀m acc' R,(kwT gA::R).length<m→cQ cmd scr m acc' (kwT gA::R)=.ok (acc',R):=fun m acc' R hm=>by
   cases m with
   | zero=>exact absurd hm (Nat.not_lt_zero _)
   | succ m=>
    unfold cQ;rw [if_pos (show aT [101,115,97,99] (kwT gA::R)=true from rfl)];rfl
  have hstep:∀m acc' (A:zW) (t tl R:List Tk),(∀Z,pJ cmd scr (rOp [40]::t++rOp [59,59]::Z)=.ok (arD (arQ A),rOp [59,59]::Z))→(tl=[]∨∃u,tl=rOp [40]::u)→cQ cmd scr (m+1) acc' (rOp [40]::t++rOp [59,59]::(tl++kwT gA::R))=cQ cmd scr m (acc'++arD (arQ A)) (tl++kwT gA::R):=fun m acc' A t tl R hA htl=>by
   have hlin:aF (tl++kwT gA::R)=tl++kwT gA::R:=by
    rcases htl with rfl | ⟨u,rfl⟩<;>rfl
   rw [cQ];rw [if_neg (show ¬aT [101,115,97,99] (rOp [40]::t++rOp [59,59]::(tl++kwT gA::R))=true from by show ¬(([]:Bs)==[101,115,97,99])=true;decide),hA];dsimp only;rw [if_pos (by rfl)];show cQ cmd scr m _ (aF (tl++kwT gA::R))=_;rw [hlin]
  unfold cQ at h;split at h
  ·next hq=>
   injection h with h;injection h with e1 e2;subst e1 e2;have w1:=cP (cJ (by decide) hq);refine⟨ht.tail,[],[],by simp,(fun a ha=>by cases ha),gS (s:=gA) (by decide),by show 0+20+_≤_;omega,.inl rfl,fun m acc' R hm=>?_⟩;rw [List.nil_append] at hm ⊢;rw [hend m acc' R hm];simp
  ·split at h
   ·cases h
   ·next a r1 h1=>
    obtain⟨g1,A,t,rfl,hA,htk,hl,hrun⟩:=Rb hc hP ht hw h1;split at h
    ·next hq=>
     have w1:=cP (dO hq);have w2:=eR r1.tail;obtain⟨g2,ar,tl,e,har,htk2,hl2,htl,hrun2⟩:=L4 n _ _ _ _ g1.tail.lines (by omega) h;refine⟨g2,A::ar,rOp [40]::t++rOp [59,59]::tl,?_,fun a ha=>?_,?_,?_,.inr ⟨_,rfl⟩,fun m acc' R hm=>?_⟩
     ·rw [e,List.map_cons,List.flatMap_cons,aA]
     ·rcases List.mem_cons.1 ha with rfl | ha
      ·exact hA
      ·exact har a ha
     ·have h9:=htk _ _ htk2;rw [List.flatMap_cons,aA];simpa using h9
     ·rw [List.flatMap_cons,lA];omega
     ·cases m with
      | zero=>exact absurd hm (Nat.not_lt_zero _)
      | succ m=>
       rw [aA,List.cons_append (bs:=kwT gA::R),hstep m acc' A t tl R hrun htl,hrun2 m _ R (by simp only [lA,lC,List.cons_append] at hm ⊢;omega),List.map_cons,List.flatMap_cons,aA]
    ·split at h
     ·cases h
     ·next u r2 h2=>
      injection h with h;injection h with e1 e2;subst e1 e2;obtain⟨a1,a2⟩:=nF (by decide) g1 h2;refine⟨a1,[A],rOp [40]::t++[rOp [59,59]],by simp,fun a ha=>?_,?_,?_,.inr ⟨_,rfl⟩,fun m acc' R hm=>?_⟩
      ·rw [List.mem_singleton.1 ha];exact hA
      ·have h9:=htk _ _ (gS (s:=gA) (by decide));simpa using h9
      ·simp only [List.flatMap_cons,List.flatMap_nil,List.append_nil];omega
      ·cases m with
       | zero=>exact absurd hm (Nat.not_lt_zero _)
       | succ m=>
        have e9:=hstep m acc' A t [] R hrun (.inl rfl);rw [List.nil_append] at e9;rw [aA];show cQ cmd scr (m+1) acc' (rOp [40]::t++rOp [59,59]::(kwT gA::R))=_;rw [e9,hend m _ R (by simp only [lA,lC,List.cons_append] at hm ⊢;omega)];simp
theorem Ng {ts:List Tk} {d:List Dt} {r:List Tk} (ht:TG ts) (hw:WT ts≤60000) (h:gC cmd scr ts=.ok (d,r)):BG P (kwT [99,97,115,101]) (gC cmd scr) ts d r:=by
 unfold gC at h;split at h
 ·cases h
 ·next w r1 hw1=>
  obtain⟨g1,g2,g3,_,_⟩:=p6 ht hw1;have w1:=eR r1;split at h
  ·cases h
  ·next u r2 h2=>
   obtain⟨a1,a2⟩:=nF (by decide) g2.lines h2;have w2:=eR r2;split at h
   ·cases h
   ·next l r3 h3=>
    injection h with h;injection h with e1 e2;subst e1 e2;obtain⟨g5,ar,t,rfl,har,htk,hl,htl,hrun⟩:=L4 hc hP _ _ _ _ _ a1.lines (by omega) h3;have hk:=fun rs hr hl=>hP.case w ar rs g1.wrd hr har hl;refine⟨g5,_,rWd w::kwT [105,110]::(t++[kwT gA]),_,hk,fun rs=>rfl,?_,?_,fun R=>?_⟩
    ·have h9:=((Ar (ws:=[w]) (fun x hx=>by rw [List.mem_singleton.1 hx];exact g1) (gS (s:=[99,97,115,101]) (by decide))).blank (gS (s:=[105,110]) (by decide))).blank htk;unfold oG;simpa [gA] using h9
    ·unfold oG;rw [kK];simp only [lA,lC,lN,fC,List.flatMap_nil];omega
    ·rw [show (rWd w::kwT [105,110]::(t++[kwT gA]))++R=rWd w::kwT [105,110]::(t++kwT gA::R) by simp];unfold gC;rw [gK g1];dsimp only;rw [show aF (kwT [105,110]::(t++kwT gA::R))=kwT [105,110]::(t++kwT gA::R) from rfl,fV];dsimp only;rw [show aF (t++kwT gA::R)=t++kwT gA::R by rcases htl with rfl | ⟨u,rfl⟩<;>rfl,hrun _ _ R (Nat.lt_succ_self _)]
end
variable {P:Ny→Bs→Prop}
theorem pZ {cmd':List Tk→PR (List Dt)} {scr:Bs→Except Nat Unit} {key:Tk} {f:List Tk→PR (List Dt)} {ts0 ts:List Tk} {d:List Dt} {r:List Tk} (hkey:∀Y,cmd' (key::Y)=bI scr (f Y)) (hb:bA [key]=true) (hcomp:dA [key]=true) (hw:WT ts+20≤WT ts0) (hw0:WT ts0≤60000)
 (hf:∀d0 r0,f ts=.ok (d0,r0)→BG P key f ts d0 r0) (h:bI scr (f ts)=.ok (d,r)):CG P cmd' ts0 d r:=by
 unfold bI at h;split at h
 ·cases h
 ·next d0 r0 h0=>
  split at h
  ·cases h
  ·next rs' r2 h2=>
   injection h with h;injection h with e1 e2;subst e1 e2;obtain⟨g1,b,t,mk,hk,hrow,htk,hl,hrun⟩:=hf _ _ h0;obtain⟨rs,rfl,hrs,g2,hl2,hnr⟩:=Bh _ _ _ _ _ g1 h2;have hnl:=Li b rs;refine⟨g2,mk rs,qY b rs,key::t++gU rs,(hrow rs).symm,hk rs (fun g hg=>(hrs g hg).w.wrd) (by omega),K6 htk hrs,by omega,?_,fun _=>?_,fun R hR=>?_⟩
   ·rw [(fP (show atF (key::t++gU rs)=atF [key] from rfl)).1];exact hb
   ·rw [(fP (show atF (key::t++gU rs)=atF [key] from rfl)).2.2.1];exact hcomp
   ·rw [aA,List.cons_append,hkey,hrun];unfold bI;dsimp only;rw [qZ rs _ [] R hrs (B9 hR).1 (Nat.lt_succ_self _)]
section
variable {cmd:List Tk→PR (List Dt)} {scr:Bs→Except Nat Unit}
theorem Pi (hc:Ix P cmd) (hP:lU P) {ts:List Tk} {nm:Bs} (hnm:aR (atF ts)=nm) (hn:bO nm=true) (ho:iQ ts=true) {d:List Dt} {r:List Tk} (ht:TG ts) (hw:WT ts≤60000) (h:eP cmd nm ts=.ok (d,r)) :
 TG r∧∃x S t,d=Ny.row x∧P x S∧Tok S t∧S.length+WT r≤WT ts∧t≠[]∧atF t=atF ts∧∀R,Fol Bv R→iQ (t++R)=true∧eP cmd nm (t++R)=.ok (d,R):=by
 obtain⟨e0,hl1⟩:=zJ ht hnm (kT hn).1;have w0:=Oz hl1;rw [e0,Me] at w0;have w1:=cP (dO ho);unfold eP at h;split at h
 ·cases h
 ·next u r1 h1=>
  obtain⟨a1,a2⟩:=xL ht.tail.tail h1;have w2:=eR r1;split at h
  ·next hq=>
   rw [Bool.and_eq_true] at hq;split at h
   ·cases h
   ·next d1 r2 h2=>
    injection h with h;injection h with e1 e2;subst e1 e2;obtain⟨g1,x,S,t,rfl,hx,hS,hl,hb,hcb,hrun⟩:=hc _ _ _ a1.lines (by omega) h2;have hcomp:dA (aF r1)=true:=by
     have h8:=hq.2;have h9:=hq.1;unfold dA;rw [Bool.or_eq_true] at h8 ⊢;rcases h8 with h8 | h8
     ·exact .inr h8
     ·refine .inl ?_;unfold bA at h9;split at h9
      ·exact h9
      ·next hk=>
       rw [fZ (by simpa using hk)] at h8;exact absurd h8 (by decide)
    have hct:=hcb hcomp;have hcond:∀R,(bA (t++R) && (aG [40] (t++R) || cC.contains (aR (atF (t++R)))))=true:=fun R=>by
     rw [mW hb R,Bool.true_and,(fP (wO (pV hb) R)).2.2.2.2.1,wO (pV hb) R];unfold dA at hct;rw [Bool.or_eq_true] at hct ⊢;rcases hct with hct | hct
     ·refine .inr ?_;have key:∀s∈dS,cC.contains s=true:=by decide
      exact key _ (List.contains_iff_mem.1 hct)
     ·exact .inl hct
    have hk:=hP.kids [] (f7.func nm S) (fun w hw=>by cases hw) (fun w hw=>by cases hw) (show iY P [x] [S] from⟨hx,trivial⟩) (by
     simp only [lA,lC,eH,List.flatMap_nil,lN];omega)
    rw [k9,eF] at hk;refine⟨g1,_,_,kwT nm::rOp [40]::rOp [41]::t,rfl,hk,?_,?_,by simp,e0.symm,fun R hR=>⟨rfl,?_⟩⟩
    ·have h9:=((((B7 hn)).blank (jF (o:=[40]) (by decide))).blank (jF (o:=[41]) (by decide))).blank hS;simpa using h9
    ·simp only [lA,lC,lN];omega
    ·unfold eP;rw [show (kwT nm::rOp [40]::rOp [41]::t++R).tail.tail=rOp [41]::(t++R) from rfl,nK];dsimp only;rw [i6 (lP hb),hcond R,if_pos rfl,hrun R hR]
  ·cases h
theorem Jl {ts:List Tk} (h:bR cmd scr ts=none):dA ts=false∧(bO (aR (atF ts)) && iQ ts)=false:=by
 unfold bR at h;split at h
 ·cases h
 next h1=>
 split at h
 ·cases h
 next h2=>
 split at h
 ·cases h
 next h3=>
 split at h
 ·cases h
 next h4=>
 split at h
 ·cases h
 next h5=>
 split at h
 ·cases h
 next h6=>
 split at h
 ·cases h
 next h7=>
 split at h
 ·cases h
 next h8=>
 refine⟨?_,by simpa using h8⟩;unfold aT at h2 h3 h4 h5 h6 h7;unfold dA dS;simp only [Bool.not_eq_true] at h1 h2 h3 h4 h5 h6 h7;simp only [List.contains_cons,List.contains_nil,h1,h2,h3,h4,h5,h6,h7,Bool.or_self]
theorem B5 {ts:List Tk} (h:dA ts=false) (h8:(bO (aR (atF ts)) && iQ ts)=false):bR cmd scr ts=none:=by
 unfold dA dS at h;simp only [List.contains_cons,List.contains_nil,Bool.or_eq_false_iff] at h;obtain⟨⟨h3,h4,h5,h6,h7,h2,_⟩,h1⟩:=h;unfold bR aT;rw [h1,h2,h3,h4,h5,h6,h7,h8];rfl
theorem Mc {s:Bs} (h:bO s=true):j8 s=none:=by
 cases hc:j8 s with
 | none=>rfl
 | some p=>
  obtain⟨nm,rest⟩:=p;have e:=pF hc;have h61:=(kT h).2 61 (by rw [e];simp);exact absurd h61 (by decide)
theorem Oa:∀s∈cC,j8 s=none:=by decide
theorem Lk {w:List Pt} {g:Bs×List Pt} (h:uP scr w g) (Y:List Tk):bA (rWd w::Y)=true∧dA (rWd w::Y)=false∧bO (aR (atF (rWd w::Y)))=false:=by
 obtain⟨_,_,⟨p,l,rfl,hk,hcut⟩,_⟩:=rP h;have hp:aR (rWd (p::l))=[]∨aR (rWd (p::l))=p.text:=by
  cases l with
  | nil=>
   refine .inr ?_;show (if p.kind==1 then p.text else [])=p.text;rw [hk];rfl
  | cons a b=>exact .inl rfl
 have hres:cC.contains (aR (rWd (p::l)))=false:=by
  rcases hp with e | e
  ·rw [e];decide
  ·rw [e];cases hc:cC.contains p.text with
   | false=>rfl
   | true=>exact absurd (Oa _ (List.contains_iff_mem.1 hc)) hcut
 have hst:dS.contains (aR (rWd (p::l)))=false:=by
  cases hc:dS.contains (aR (rWd (p::l))) with
  | false=>rfl
  | true=>
   have key:∀s∈dS,cC.contains s=true:=by decide
   rw [key _ (List.contains_iff_mem.1 hc)] at hres;cases hres
 refine⟨?_,?_,?_⟩
 ·unfold bA;show (if (1:Nat)==1 then (if cC.contains (aR (rWd (p::l))) then _ else true) else _)=true;rw [hres];rfl
 ·unfold dA;show (dS.contains (aR (rWd (p::l))) || aG [40] (rWd (p::l)::Y))=false;rw [hst];rfl
 ·show bO (aR (rWd (p::l)))=false;rcases hp with e | e
  ·rw [e];rfl
  ·rw [e];cases hn:bO p.text with
   | false=>rfl
   | true=>exact absurd (Mc hn) hcut
theorem Ky {R:List Tk} (h:Fol Bv R):aG [40] R=false:=pA h (by decide)
theorem Ff (hP:lU P) {cmd':List Tk→PR (List Dt)} {ts:List Tk} {d:List Dt} {r:List Tk} (hcmd:∀Y,bA Y=true→dA Y=false→(bO (aR (atF Y)) && iQ Y)=false→cmd' Y=bL scr (Y.length+1) [] [] [] Y)
 (ht:TG ts) (hw:WT ts≤60000) (hb:bA ts=true) (hcm:dA ts=false) (hno:(bO (aR (atF ts)) && iQ ts)=false) (h:bL scr (ts.length+1) [] [] [] ts=.ok (d,r)):CG P cmd' ts d r:=by
 obtain⟨ws,aw,rs,e,hs,hr,hl⟩:=rH _ _ _ _ _ _ _ ht h;have hne:rs≠[]∨aw≠[]∨ws≠[]:=by
  by_cases h1:rs=[]
  ·by_cases h2:aw=[]
   ·rcases hs.head h1 h2 with ⟨h3,h4,h5⟩ | ⟨w,l,h3,_⟩
    ·rw [mT,hcm,h4,h5] at hb;cases hb
    ·exact .inr (.inr (by rw [h3];simp))
   ·exact .inr (.inl h2)
  ·exact .inl h1
 have hsl:=L6 ws (rJ aw) rs;have hheads:∀R,Fol Bv R→bA (gU rs++(j6 aw++(ws.map rWd++R)))=true∧dA (gU rs++(j6 aw++(ws.map rWd++R)))=false∧(bO (aR (atF (gU rs++(j6 aw++(ws.map rWd++R))))) && iQ (gU rs++(j6 aw++(ws.map rWd++R))))=false:=fun R hR=>by
  cases rs with
  | cons g l=>
   have hg:=(hs.r g (List.mem_cons_self ..)).op;rw [pE];generalize gU l++(j6 aw++(ws.map rWd++R))=Y;have key:∀o∈jH,bA [rOp o]=true∧dA [rOp o]=false:=by decide
   obtain⟨k1,k2⟩:=key _ hg;have hsame:=fP (show atF (rOp g.1::rWd g.2::gU l++(j6 aw++(ws.map rWd++R)))=atF [rOp g.1] from rfl);exact⟨by rw [hsame.1];exact k1,by rw [hsame.2.2.1];exact k2,rfl⟩
  | nil=>
   rw [show gU []=[] from rfl,List.nil_append];cases aw with
   | cons g l=>
    obtain⟨k1,k2,k3⟩:=Lk (hs.a g (List.mem_cons_self ..)) (j6 l++(ws.map rWd++R));refine⟨k1,k2,?_⟩;show (bO (aR (atF (rWd g.1::(j6 l++(ws.map rWd++R))))) && _)=false;rw [k3];rfl
   | nil=>
    rw [show j6 []=[] from rfl,List.nil_append];rcases hs.head rfl rfl with ⟨h3,_,_⟩ | ⟨w,l,rfl,h4⟩
    ·rcases hne with h | h | h
     ·exact absurd rfl h
     ·exact absurd rfl h
     ·exact absurd h3 h
    ·have hat:atF ((w::l).map rWd++R)=atF ts:=h4.symm;have hsame:=fP hat;refine⟨by rw [hsame.1];exact hb,by rw [hsame.2.2.1];exact hcm,?_⟩;have ho:iQ ((w::l).map rWd++R)=false:=by
      cases l with
      | nil=>exact Ky hR
      | cons a b=>rfl
     rw [ho,Bool.and_false]
 have hx:=hP.simple ws (rJ aw) rs (fun w hw=>(hs.w w hw).wrd) (fun g hg=>by
  obtain⟨y,hy,rfl⟩:=List.mem_map.1 hg;exact (hs.a y hy).wrd) (fun g hg=>(hs.r g hg).w.wrd) (by omega)
 refine⟨hr,_,_,gU rs++(j6 aw++ws.map rWd),?_,hx,Lc hs.r hs.a hs.w hne,by omega,?_,(fun h9=>by rw [hcm] at h9;cases h9),fun R hR=>?_⟩
 ·rw [e];rfl
 ·have h9:=(hheads [] (.inl rfl)).1
  rwa [List.append_nil] at h9
 ·obtain⟨k1,k2,k3⟩:=hheads R hR;have e1:gU rs++(j6 aw++ws.map rWd)++R=gU rs++(j6 aw++(ws.map rWd++R)):=by simp only [aA]
  rw [e1,hcmd _ k1 k2 k3,qH rs aw ws _ [] R hs.r hs.a hs.w (fun w l=>hs.first rfl w l) (B9 hR) (Nat.lt_succ_self _),e];simp
end
theorem Jf (hP:lU P) (K:Nat) (ih:Ix P (aC K)):Ix P (aC (K+1)):=by
 intro ts d r ht hw h;have h0:=h;rw [show aC (K+1) ts=if bA ts then gW (aC K) (bC (aC K)) ts else .error 2 from rfl] at h;split at h
 ·next hb=>
  unfold gW at h;cases hcq:bR (aC K) (bC (aC K)) ts with
  | none=>
   rw [hcq] at h;obtain⟨h1,h2⟩:=Jl hcq;refine Ff (scr:=bC (aC K)) hP (fun Y k1 k2 k3=>?_) ht hw hb h1 h2 h;rw [show aC (K+1) Y=if bA Y then gW (aC K) (bC (aC K)) Y else .error 2 from rfl,if_pos k1];unfold gW;rw [B5 k2 k3]
  | some q=>
   rw [hcq] at h;dsimp only at h;unfold bR at hcq;split at hcq
   ·next hq=>
    obtain rfl:=Option.some.inj hcq;have w1:=cP (dO hq);exact pZ (key:=rOp [40]) (fun Y=>rfl) (by decide) (by decide) w1 hw (fun d0 r0 h9=>N9 ih hP ht.tail (by omega) h9) h
   split at hcq
   ·next hq=>
    obtain rfl:=Option.some.inj hcq;have w1:=cP (cJ (by decide) hq);exact pZ (key:=kwT [123]) (fun Y=>rfl) (by decide) (by decide) w1 hw (fun d0 r0 h9=>Nv ih hP ht.tail (by omega) h9) h
   split at hcq
   ·next hq=>
    obtain rfl:=Option.some.inj hcq;have w1:=cP (cJ (by decide) hq);exact pZ (key:=kwT [105,102]) (fun Y=>rfl) (by decide) (by decide) w1 hw (fun d0 r0 h9=>Mg ih hP ht.tail (by omega) h9) h
   split at hcq
   ·next hq=>
    obtain rfl:=Option.some.inj hcq;have w1:=cP (cJ (by decide) hq);exact pZ (key:=kwT [119,104,105,108,101]) (fun Y=>rfl) (by decide) (by decide) w1 hw (fun d0 r0 h9=>Gv ih hP (by decide) (fun a b=>f7.lpA a b) (by decide) ht.tail (by omega) h9) h
   split at hcq
   ·next hq=>
    obtain rfl:=Option.some.inj hcq;have w1:=cP (cJ (by decide) hq);exact pZ (key:=kwT [117,110,116,105,108]) (fun Y=>rfl) (by decide) (by decide) w1 hw (fun d0 r0 h9=>Gv ih hP (by decide) (fun a b=>f7.lpB a b) (by decide) ht.tail (by omega) h9) h
   split at hcq
   ·next hq=>
    obtain rfl:=Option.some.inj hcq;have w1:=cP (cJ (by decide) hq);exact pZ (key:=kwT [102,111,114]) (fun Y=>rfl) (by decide) (by decide) w1 hw (fun d0 r0 h9=>Pl ih hP ht.tail (by omega) h9) h
   split at hcq
   ·next hq=>
    obtain rfl:=Option.some.inj hcq;have w1:=cP (cJ (by decide) hq);exact pZ (key:=kwT [99,97,115,101]) (fun Y=>rfl) (by decide) (by decide) w1 hw (fun d0 r0 h9=>Ng ih hP ht.tail (by omega) h9) h
   next h1 h2 h3 h4 h5 h6 h7=>
   split at hcq
   ·next hq=>
    obtain rfl:=Option.some.inj hcq;rw [Bool.and_eq_true] at hq;obtain⟨g1,x,S,t,e,hx,hS,hl,hne,hat,hrun⟩:=Pi ih hP rfl hq.1 hq.2 ht hw h;refine⟨g1,x,S,t,e,hx,hS,hl,by rw [(fP hat).1];exact hb,fun h9=>by rw [(fP hat).2.2.1];exact h9,fun R hR=>?_⟩;obtain⟨r1,r2⟩:=hrun R hR;have hat2:atF (t++R)=atF ts:=by rw [wO hne];exact hat
    obtain⟨s1,_,_,_,s5,s6⟩:=fP hat2;rw [show aC (K+1) (t++R)=if bA (t++R) then gW (aC K) (bC (aC K)) (t++R) else .error 2 from rfl,s1,if_pos hb];unfold gW bR;rw [s5,s6,s6,s6,s6,s6,s6,if_neg h1,if_neg h2,if_neg h3,if_neg h4,if_neg h5,if_neg h6,if_neg h7,hat2,hq.1,r1,if_pos (by rfl)];exact r2
   ·cases hcq
 ·cases h
theorem wM (hP:lU P):∀K,Ix P (aC K)
 | 0=>fun ts d r _ _ h=>by
  rw [show aC 0 ts=if bA ts then .error 3 else .error 2 from rfl] at h;split at h<;>cases h
 | K+1=>Jf hP K (wM hP K)
/-! Scripts. -/
theorem qP:∀(n:Nat) (b:Bool) (r:Bs),r.length≤n→∀c∈dM b r,c∈r
 | _,b,[],_,c,hc=>by cases b<;>cases hc
 | 0,b,x::r,hn,c,hc=>by simp at hn
 | n+1,true,x::r,hn,c,hc=>by
  rw [show dM true (x::r)=if x==10 then x::r else dM true r from rfl] at hc;split at hc
  ·exact hc
  ·exact List.mem_cons_of_mem _ (qP n true r (by simpa using hn) c hc)
 | n+1,false,x::r,hn,c,hc=>by
  have hn':r.length≤n:=by simpa using hn
  rw [fN] at hc;split at hc
  ·exact List.mem_cons_of_mem _ (qP n false r hn' c hc)
  split at hc
  ·exact List.mem_cons_of_mem _ (qP n true r hn' c hc)
  split at hc
  ·cases r with
   | nil=>exact hc
   | cons y u=>
    dsimp only at hc;split at hc
    ·exact List.mem_cons_of_mem _ (List.mem_cons_of_mem _ (qP n false u (by rw [lC] at hn';omega) c hc))
    ·exact hc
  ·exact hc
theorem Mn (b:Bool) (r:Bs):∀c∈dM b r,c∈r:=qP _ b r (Nat.le_refl _)
theorem Dj:∀(n:Nat) (r:Bs) (T:List Tk),NZ r→r.length≤900→qA n r=.ok T→TG T∧WT T≤40*r.length
 | 0,r,T,hz,_,h=>by cases h
 | n+1,r,T,hz,h9,h=>by
  rw [mC] at h;have hsz:NZ (dM false r):=fun c hc=>hz c (Mn _ _ c hc);have hsl:=qG false r;split at h
  ·obtain rfl:=Except.ok.inj h;exact⟨(fun t ht=>by cases ht),Nat.zero_le _⟩
  ·next c t hs=>
   rw [hs] at hsz hsl;split at h
   ·cases h
   ·next x r1 h1=>
    have w3:=mY (o8 hs) h1;cases hr:qA n r1 with
    | error e=>rw [hr] at h;cases h
    | ok T1=>
     rw [hr] at h;obtain rfl:=Except.ok.inj h;unfold gF at h1;split at h1
     ·split at h1
      ·cases h1
      ·split at h1
       ·cases h1
       ·next l r2 hw=>
        obtain⟨rfl,rfl⟩:=Prod.mk.inj (Except.ok.inj h1);have hz1:=(u9 false _ _ _ _ hsz hw).1;obtain⟨i1,i2⟩:=Dj n r2 T1 hz1 (by rw [lC] at hsl;omega) hr;have w1:=Gf false _ _ _ _ hw;have w2:=Gc l;rw [lC] at w1 hsl;refine⟨fun y hy hk=>?_,?_⟩
        ·rcases List.mem_cons.1 hy with rfl | hy
         ·exact⟨rfl,Ml hsz hw,by show wdL (cT l)≤1900;omega⟩
         ·exact i1 y hy hk
        ·show tkW ⟨1,[],cT l⟩+WT T1≤_;unfold tkW;dsimp only;omega
     ·next hop=>
      obtain⟨rfl,rfl⟩:=Prod.mk.inj (Except.ok.inj h1);obtain⟨i1,i2⟩:=Dj n _ T1 (hsz.drop _) (by rw [List.length_drop];omega) hr;refine⟨fun y hy hk=>?_,?_⟩
      ·rcases List.mem_cons.1 hy with rfl | hy
       ·cases hk
       ·exact i1 y hy hk
      ·show tkW ⟨2,eK (c::t),[]⟩+WT T1≤_;unfold tkW;dsimp only;rw [fH];have hpos:1≤(eK (c::t)).length:=by
        cases ho:eK (c::t) with
        | nil=>rw [ho] at hop;exact absurd rfl hop
        | cons a b=>simp
       rw [List.length_drop] at i2;rw [lC] at hsl i2;omega
theorem Fd (hP:lU P) {s:Bs} {ds:List Dt} (h:iR s=.ok ds) (hl:s.length≤600) :
 ∃xs outs,ds=eV xs∧iY P xs outs∧(Lib.join outs [59,32]).length≤40*s.length∧((Lib.join outs [59,32]).length≤16384→iR (Lib.join outs [59,32])=.ok ds):=by
 unfold iR gQ at h;split at h
 ·cases h
 ·next T hT=>
  unfold kC at hT;split at hT
  ·next hm=>
   obtain⟨g,hw⟩:=Dj _ _ _ (Pc hm) (by omega) hT;have w2:=eR T;unfold oI at h;split at h
   ·obtain rfl:=Except.ok.inj h;exact⟨[],[],rfl,trivial,Nat.zero_le _,fun _=>rfl⟩
   ·split at h
    ·cases h
    ·next l r ha=>
     split at h
     ·obtain rfl:=Except.ok.inj h;obtain⟨g1,x1,xs,o1,outs,t,rfl,hall,htk,hlen,hmo,hrun⟩:=O3 (wM hP 40) hP g.lines (by omega) ha;obtain⟨x,e,hx⟩:=A5 hP hall (by omega);have ej:Lib.join [Lib.join (o1::outs) [59,32]] [59,32]=Lib.join (o1::outs) [59,32]:=by rw [eW (x:=Lib.join (o1::outs) [59,32]),jW,List.append_nil]
      refine⟨[x],[Lib.join (o1::outs) [59,32]],by rw [e,eF],⟨hx,trivial⟩,by rw [ej];omega,fun h16=>?_⟩;rw [ej] at h16 ⊢;have hmay:=Qo h16 htk.nz;have htok:=htk.lex [] (.inl rfl);rw [List.append_nil] at htok;have hr:=hrun [] La;rw [List.append_nil] at hr;unfold iR gQ;rw [yR _ hmay,htok,show gJ []=.ok [] from rfl];show oI (aC 40) (t++[])=_;rw [List.append_nil]
      unfold oI;rw [wY hmo,if_neg (by
       cases t with
       | nil=>exact absurd hmo (by decide)
       | cons a b=>simp),hr]
      rfl
     ·cases h
  ·cases hT
end Go.Proofs.YtiihpbccabeoeaaGreatDoor
