/- The walk: a part. -/
import Derived.Test.YtiihpbccabeoeaaGreatDoorVM
import Derived.Test.YtiihpbccabeoeaaGreatDoorVPkB
import Derived.Deep.CutBlock
import Derived.Defers
import Derived.Recover
import Derived.Laws.Pointers
import Derived.Lib.SliceRun
import Derived.Deep.RegionHeld3
namespace Go.Proofs.YtiihpbccabeoeaaGreatDoor
open Go.RowKit
set_option linter.unusedVariables false
set_option maxRecDepth 100000
set_option maxHeartbeats 16000000
def af (w:World) (b:Nat) (l:List Value):Prop:=∃T,w.heap[b]? = some (.cells l.toArray T (0,0))
theorem af.lt {w:World} {b:Nat} {l:List Value} (h:af w b l):b<w.heap.size:=by
 exact Kz
theorem af.six {w:World} {b:Nat} {a0 a1 a2 a3 a4 a5:Value} (h:af w b [a0,a1,a2,a3,a4,a5]) :
 (w.cell? ⟨b,0,none⟩=some a0∧w.cell? ⟨b,1,none⟩=some a1∧w.cell? ⟨b,2,none⟩=some a2∧w.cell? ⟨b,3,none⟩=some a3∧w.cell? ⟨b,4,none⟩=some a4∧w.cell? ⟨b,5,none⟩=some a5)∧
 (w.frozen? ⟨b,0,none⟩=false∧w.frozen? ⟨b,1,none⟩=false∧w.frozen? ⟨b,2,none⟩=false∧w.frozen? ⟨b,3,none⟩=false∧w.frozen? ⟨b,4,none⟩=false):=by
 obtain⟨T,h⟩:=h;refine⟨⟨?_,?_,?_,?_,?_,?_⟩,?_,?_,?_,?_,?_⟩<;>simp [World.cell?,World.frozen?,h]
theorem af.set {w:World} {b:Nat} {l:List Value} (h:af w b l) (k:Nat) (v:Value):af (w.setCell ⟨b,k,none⟩ v) b (l.set k v):=by
 exact N6
theorem af.keep {w w':World} {b:Nat} {l:List Value} {S:Nat→Prop} (h:af w b l) (hk:ae S w w') (hb:¬S b):af w' b l:=by
 exact Ku
theorem dh {w:World} {cs pb:Nat} {s:ByteArray} {i d:Int} {l:List Value} (hs:ah w cs s i d) (hr:af w pb l) (cM:cs≠pb) (k:Nat) (v:Value) :
 ∃w1,w1=w.setCell ⟨pb,k,none⟩ v∧ah w1 cs s i d∧af w1 pb (l.set k v)∧ae (λ b=>b=pb) w w1:=by
 have hk:ae (λ b=>b=pb) w (w.setCell ⟨pb,k,none⟩ v):=(ae.refl _ _).setCell _ _ λ_=>rfl;exact⟨_,rfl,hs.keep hk cM,hr.set k v,hk⟩
abbrev SK (cs pb:Nat) (b:Nat):Prop:=b=cs∨b=pb
theorem oh {w w1 w2:World} {cs pb:Nat} (h:ae (SK cs pb) w w1) (k:ae (λ b=>b=cs) w1 w2):ae (SK cs pb) w w2:=h.trans k λ_ _ e=>.inl e
theorem pi {w w1 w2:World} {cs pb:Nat} (h:ae (SK cs pb) w w1) (k:ae (λ b=>b=pb) w1 w2):ae (SK cs pb) w w2:=h.trans k λ_ _ e=>.inr e
theorem OT {l:List UInt8} (h:lF l=[]):aP 35 l=false∧aP 63 l=false:=by
 cases l with
 | nil=>exact⟨rfl,rfl⟩
 | cons c t=>
  constructor
  ·rw [Bool.eq_false_iff];intro e;obtain rfl:c=35:=nH.1 e;revert h;unfold lF eO it;simp [List.find?,aI];split<;>simp
  ·rw [Bool.eq_false_iff];intro e;obtain rfl:c=63:=nH.1 e;revert h;unfold lF eO it;simp [List.find?,aI]
theorem Hy {r:List UInt8} {k:Nat} (h:bu r=true) (hk:k≠0):r.tail.take k≠[35]∧r.tail.take k≠[63]:=by
 unfold bu at h;simp only [nW] at h;obtain⟨⟨_,_⟩,h⟩:=h;have h2:=OT (List.isEmpty_iff.1 h);revert h2;generalize r.tail=t;intro h2;cases t with
 | nil=>simp
 | cons c t=>
  obtain⟨k,rfl⟩:∃k',k=k'+1:=⟨k - 1,oM⟩;rw [List.take_succ_cons];refine⟨λ e=>?_,λ e=>?_⟩
  ·have:c=35:=(List.cons.inj e).1;rw [this] at h2;exact nQ h2.1 (by simp [aP])
  ·have:c=63:=(List.cons.inj e).1;rw [this] at h2;exact nQ h2.2 (by simp [aP])
theorem Ko {s:ByteArray} {l:List UInt8} (h:s.data.toList≠l):(s.toList==l)=false:=by
 rw [Lib.toList_data];exact nA.2 h
theorem jH {s:ByteArray} {l:List UInt8} (h:s.data.toList=l):dj l=.string s:=by
 unfold dj;rw [←h]
theorem y9 (s:ByteArray) (i:Nat):(if bu (rest s i) then (rest s i).tail else rest s i)=rest s (i+(bu (rest s i)).toNat):=by
 cases bu (rest s i)
 ·rfl
 ·show (rest s i).tail=_;exact nj s i
theorem FV {s:ByteArray} {i:Nat} (hi:i≤s.size):i+(bu (rest s i)).toNat≤s.size:=by
 rcases nP i s.size with h | h
 ·have:=Bool.toNat_le (bu (rest s i));omega
 ·have:bu (rest s i)=false:=by rw [aX h];rfl
  rw [this];exact hi
theorem fW (s:ByteArray) (i:Nat):(rest s i).tail=rest s (i+1):=nj s i
theorem nu:∀{o l:List UInt8},aI o l=true→o.length≤l.length
 | [],_,_=>nB _
 | a::p,[],h=>by cases h
 | a::p,b::r,h=>by
  have h2:aI p r=true:=by
   unfold aI at h;simp only [nW] at h;exact h.2
  have:=nu h2;simp only [lC];omega
theorem BT (L:List (List UInt8)) (l:List UInt8):(eO L l).length≤l.length:=by
 unfold eO;cases h:L.find? λ o=>aI o l with
 | none=>exact nB _
 | some o=>
  have h2:(λ o=>aI o l) o=true:=List.find?_some (p:=λ o=>aI o l) h;exact nu h2
theorem Er (l:List UInt8):(lF l).length≤l.length:=BT _ l
theorem sP {w w1:World} {cs pb I n:Nat} {s:ByteArray} {d:Nat} {q:Bool} {v:Value} {R O:ByteArray} {name op:List UInt8} {wd:List Pt} (hs:ah w1 cs s I d) (hI:I≤s.size) (hr:af w1 pb [.int .i64 3,.string ⟨#[]⟩,.string R,.string O,v,.bool q])
 (hR:R.data.toList=name) (hO:O.data.toList=op) (hw:az w1 (λ b=>w.heap.size≤b) n wd v) (hk:ae (SK cs pb) w w1) :
 sH w cs pb s d (.ok ([.mk 3 [] name op wd q],rest s I)) (.returned (.tuple #[])) w1:=by
 refine⟨rfl,I,n,_,v,hI,rfl,rfl,rfl,rfl,hs,?_,hw,hk⟩;show af w1 pb (cH _ v);unfold cH;show af w1 pb [.int .i64 ((3:Nat):Int),dj [],dj name,dj op,v,.bool q];rw [jH hR,jH hO];exact hr
theorem DC (n:Nat) (IH:∀m,m<n→Dd m) (q:Bool) (cs pb:Nat) (s:ByteArray) (i d:Nat) (w:World) (eY:ah w cs s i d) (hi:i≤s.size) (hd:d≤40) (hs:s.size≤20000) (cM:cs≠pb) (hp:Ds w pb (.mk 0 [] [] [] [] q) (.slice none 0 0)) (hn:2*(s.size - i)+1≤n) :
 Calls Tryz.prog 149 #[.pointer (some ⟨cs,0,none⟩),.pointer (some ⟨pb,0,none⟩)] w (sH w cs pb s d (bN n (.brace q) d (rest s i))):=by
 obtain⟨m,rfl⟩:∃m,n=m+1:=⟨n - 1,oM⟩;have HD:=Hd (IH m oM);have cQ:af w pb [.int .i64 0,eS,eS,eS,(),q]:=hp;obtain⟨res,ag⟩:∃res,res=bN (m+1) (.brace q) d (rest s i):=⟨_,rfl⟩;rw [←ag];rw [jn,y9] at ag;have uy:=FV hi;obtain⟨L,hL⟩:∃L,L=bu (rest s i):=⟨_,rfl⟩;rw [←hL] at ag uy;obtain⟨j,hj⟩:∃j,j=i+L.toNat:=⟨_,rfl⟩
 rw [←hj] at ag uy;obtain⟨k,hk⟩:∃k,k=bQ true (rest s j):=⟨_,rfl⟩;rw [←hk,b8] at ag;have oU:k≤s.size - j:=by rw [hk,←aO];exact iU _ _
 have vR:i≤j:=oM
 have cK:=Hd eY;have HL:=Hd hL;have HJ:=Hd hj;have HK:=Hd hk;have ay:=Hd ag;have Dn:=Hd cQ;obtain⟨⟨_,_,_,_,_,_⟩,f0,_,_,_,_⟩:=cQ.six;have Tv:=cQ.lt;clear eY IH ag hp hL hj hk cQ;go_enter Tryz.func149,Tryz.ntmps149;go_wp2_with fail;obtain⟨w1,dM,dL,pC,bt⟩:=dh cK.o Dn.o cM 0 (.int .i64 3);rw [←dM];have dp:=Hd (pi (ae.refl (SK cs pb) w) bt);have dF:=Hd dL
 have ot:=Hd (show af w1 pb [.int .i64 3,eS,eS,eS,(),q] from pC);clear dM dL pC bt f0;refine (L6 cs s i d _ dF.o oM hi).mono ?_;rw [←HL.o,←HJ.o];rintro e w2 ⟨rfl,cj,aS⟩;have gS:=Hd cj;have gF:=Hd (ot.o.keep aS (λ h=>cM h.symm));have cA:=Hd (oh dp.o aS);clear cj aS;go_wp2_with fail;refine (Ci cs s j d _ true gS.o oM uy k HK.o.symm).mono ?_
 rintro e w3 ⟨R,rfl,hR,d6,aV⟩;have hr3:=gF.o.keep aV (λ h=>cM h.symm);have HR:=Hd hR;have eF:=Hd d6;have eV:=Hd hr3;have bZ:=Hd (oh cA.o aV);obtain⟨⟨_,_,_,_,_,_⟩,_,_,f2,_,_⟩:=hr3.six;clear hR d6 aV hr3;by_cases dt:k=0
 ·have lD:=ay.o;rw [nE dt] at lD;have Bh:=Hd lD;obtain⟨t1,t2⟩:=eN (s:=R) (by rw [HR.o,dt,List.take_zero]);clear lD dt;go_wp2_with fail;obtain⟨w4,fU,dR,qb,be⟩:=dh eF.o eV.o cM 2 (.string R);rw [←fU];have eU:=Hd (pi bZ.o be);have iG:=Hd dR;have na:af w4 pb [.int .i64 3,eS,R,eS,(),q]:=qb;have tq:=Hd na
  obtain⟨⟨_,_,c2,_,_,_⟩,_,_,_,f3,_⟩:=na.six;clear fU dR qb be f2 na;refine (fQ 2 _).mono ?_;rintro e w9 ⟨rfl,rfl⟩;go_wp2_with fail;refine⟨rfl,?_⟩;rw [Bh.o];exact⟨rfl,eU.o⟩
 ·have LC:R.data.toList≠[]:=by
   intro h;have h2:=congrArg List.length (HR.o.symm.trans h);exact QK
  obtain⟨t1,t2⟩:=fd (s:=R) LC;clear LC;cases L with
  | true=>
   have yW:=Hy (r:=rest s i) HL.o.symm dt;rw [fW] at yW;have ku:j=i+1:=HJ.o;rw [←ku,←HR.o] at yW;have t3:(R.toList==[35])=false:=Ko yW.1;have t4:(R.toList==[63])=false:=Ko yW.2;clear yW ku;cases hh:aP 125 (rest s (j+k)) with
   | true=>
    have lD:=ay.o;rw [nF dt,nE hh] at lD;rw [HR.o.symm] at lD;have Bh:=Hd lD;have HH:=Hd hh;clear lD dt hh;go_wp2_with fail;obtain⟨w4,fU,dR,qb,be⟩:=dh eF.o eV.o cM 2 (.string R);rw [←fU];have eU:=Hd (pi bZ.o be);have iG:=Hd dR;have na:af w4 pb [.int .i64 3,eS,R,eS,(),q]:=qb;have tq:=Hd na;obtain⟨⟨_,_,c2,_,_,_⟩,_,_,_,f3,_⟩:=na.six
    clear fU dR qb be f2 na;refine (kq cs s ⟨#[125]⟩ (j+k) d _ iG.o oM oM dC (by rw [aq,bI];exact HH.o)).mono ?_;rintro e w5 ⟨rfl,dV,bi⟩;have l6:=Hd dV;have pU:=tq.o.keep bi (λ h=>cM h.symm);have I6:=Hd pU;have fL:=Hd (oh eU.o bi);obtain⟨⟨_,_,_,_,_,_⟩,_,_,_,g3,_⟩:=pU.six;have aW:j+k<s.size:=by
     exact Qn
    clear dV bi pU;go_wp2_with fail;obtain⟨w6,im,lM,pU,cu⟩:=dh l6.o I6.o cM 3 (.string ⟨#[76]⟩);rw [←im];go_end0;rw [Bh.o,nE trivial,fW];exact sP lM aW pU rfl rfl (az.nil _ _ 0) (pi fL.o cu)
   | false=>
    have lD:=ay.o;rw [nF dt,hh,nF sI] at lD;have Gs:=Hd lD;have HH:=Hd hh;clear lD dt hh;go_wp2_with fail;obtain⟨w4,fU,dR,qb,be⟩:=dh eF.o eV.o cM 2 (.string R);rw [←fU];have eU:=Hd (pi bZ.o be);have iG:=Hd dR;have na:af w4 pb [.int .i64 3,eS,R,eS,(),q]:=qb;have tq:=Hd na;obtain⟨⟨_,_,c2,_,_,_⟩,_,_,_,f3,_⟩:=na.six
    clear fU dR qb be f2 na;refine (gkz cs s ⟨#[125]⟩ (j+k) d _ iG.o oM (by rw [aq,bI];exact HH.o)).mono ?_;rintro e w5 ⟨rfl,q5,rfl⟩;go_wp2_with fail;refine (Es cs s (j+k) d _ (iG.o.drewN q5) oM oM).mono ?_;rintro e w5 ⟨O,rfl,hO,dV,bi⟩;have Nl:ae (λ b=>b=cs) w4 (w4.drewN q5):=(ae.refl _ _).drewN _;have pU:=(tq.o.keep Nl (λ h=>cM h.symm)).keep bi (λ h=>cM h.symm)
    have l6:=Hd dV;have I6:=Hd pU;have fL:=Hd (oh (oh eU.o Nl) bi);have HO:=Hd hO;obtain⟨⟨_,_,_,_,_,_⟩,_,_,_,g3,_⟩:=pU.six;obtain⟨_,_,m2,_,mf2⟩:=dV.cells;clear hO dV bi pU Nl;clear t1 t2 t3 t4;by_cases ho:lF (rest s (j+k))=[]
    ·exact Q6
    ·obtain⟨t1,t2⟩:=fd (s:=O) (by rw [HO.o];exact ho);have lD:=Gs.o;rw [nE sI] at lD;exact V6
  | false=>
   cases hh:aP 125 (rest s (j+k)) with
   | true=>
    have lD:=ay.o;rw [nF dt,nE hh] at lD;rw [HR.o.symm] at lD;have Bh:=Hd lD;have HH:=Hd hh;clear lD dt hh;go_wp2_with fail;obtain⟨w4,fU,dR,qb,be⟩:=dh eF.o eV.o cM 2 (.string R);rw [←fU];have eU:=Hd (pi bZ.o be);have iG:=Hd dR;have na:af w4 pb [.int .i64 3,eS,R,eS,(),q]:=qb;have tq:=Hd na;obtain⟨⟨_,_,c2,_,_,_⟩,_,_,_,f3,_⟩:=na.six
    clear fU dR qb be f2 na;refine (kq cs s ⟨#[125]⟩ (j+k) d _ iG.o oM oM dC (by rw [aq,bI];exact HH.o)).mono ?_;rintro e w5 ⟨rfl,dV,bi⟩;have l6:=Hd dV;have pU:=tq.o.keep bi (λ h=>cM h.symm);have I6:=Hd pU;have fL:=Hd (oh eU.o bi);obtain⟨⟨_,_,_,_,_,_⟩,_,_,_,g3,_⟩:=pU.six;have aW:j+k<s.size:=by
     exact Qn
    clear dV bi pU;go_wp2_with fail;go_end0;rw [Bh.o,nF sI,fW];exact sP l6.o aW I6.o rfl rfl (az.nil _ _ 0) fL.o
   | false=>
    have lD:=ay.o;rw [nF dt,hh,nF sI] at lD;have Gs:=Hd lD;have HH:=Hd hh;clear lD dt hh;go_wp2_with fail;obtain⟨w4,fU,dR,qb,be⟩:=dh eF.o eV.o cM 2 (.string R);rw [←fU];have eU:=Hd (pi bZ.o be);have iG:=Hd dR;have na:af w4 pb [.int .i64 3,eS,R,eS,(),q]:=qb;have tq:=Hd na;obtain⟨⟨_,_,c2,_,_,_⟩,_,_,_,f3,_⟩:=na.six
    clear fU dR qb be f2 na;refine (gkz cs s ⟨#[125]⟩ (j+k) d _ iG.o oM (by rw [aq,bI];exact HH.o)).mono ?_;rintro e w5 ⟨rfl,q5,rfl⟩;go_wp2_with fail;refine (Es cs s (j+k) d _ (iG.o.drewN q5) oM oM).mono ?_;rintro e w5 ⟨O,rfl,hO,dV,bi⟩;have Nl:ae (λ b=>b=cs) w4 (w4.drewN q5):=(ae.refl _ _).drewN _;have pU:=(tq.o.keep Nl (λ h=>cM h.symm)).keep bi (λ h=>cM h.symm)
    have l6:=Hd dV;have I6:=Hd pU;have fL:=Hd (oh (oh eU.o Nl) bi);have HO:=Hd hO;obtain⟨⟨_,_,_,_,_,_⟩,_,_,_,g3,_⟩:=pU.six;obtain⟨_,_,m2,_,mf2⟩:=dV.cells;clear hO dV bi pU Nl;clear t1 t2;by_cases ho:lF (rest s (j+k))=[]
    ·exact Q6
    ·obtain⟨t1,t2⟩:=fd (s:=O) (by rw [HO.o];exact ho);have lD:=Gs.o;have tS:(lF (rest s (j+k))).isEmpty=false:=by cases hx:lF (rest s (j+k)) with | nil=>exact nQ hx ho | cons a b=>rfl
     rw [tS,nF sI] at lD;by_cases tK:d=40
     ·rw [nE tK] at lD;have Bh:=Hd lD;have e40:((d:Int)==40)=true:=by rw [nH];omega
      clear lD ho tS tK;go_wp2_with fail;obtain⟨w6,im,lM,pU,cu⟩:=dh l6.o I6.o cM 3 (.string O);rw [←im];have st:=Hd (pi fL.o cu);have xW:=Hd lM;have vT:af w6 pb [.int .i64 3,eS,R,O,(),q]:=pU;have Pp:=Hd vT;obtain⟨⟨_,_,_,d3,_,d5⟩,_,_,_,_,f4⟩:=vT.six;obtain⟨_,_,e2,_,g2⟩:=lM.cells;clear im lM pU cu g3 vT;refine (fQ 3 _).mono ?_
      exact Ra
     ·rw [nF tK,b8] at lD;have Gs:=Hd lD;have e40:((d:Int)==40)=false:=by rw [nA];omega
      have U6:IntKind.i64.wrap ((d:Int)+1)=(d:Int)+1:=nL _ oM;have XU:=Er (rest s (j+k));rw [aO] at XU;have kZ:1≤(lF (rest s (j+k))).length:=by
       rcases Nat.eq_zero_or_pos (lF (rest s (j+k))).length with x | x
       ·exact nQ (nO x) ho
       ·exact x
      obtain⟨p,Ox⟩:∃p,p=j+k+(lF (rest s (j+k))).length:=⟨_,rfl⟩;rw [←Ox] at lD;have Vw:=Hd lD;have HPE:=Hd Ox;have FP:p≤s.size:=oM
      have uL:i+1≤p:=oM
      clear lD ho tS Gs Ox XU kZ;go_wp2_with fail;obtain⟨w6,im,lM,pU,cu⟩:=dh l6.o I6.o cM 3 (.string O);rw [←im];have st:=Hd (pi fL.o cu);have xW:=Hd lM;have vT:af w6 pb [.int .i64 3,eS,R,O,(),q]:=pU;have Pp:=Hd vT;obtain⟨⟨_,_,_,d3,_,d5⟩,_,_,_,_,f4⟩:=vT.six;obtain⟨_,_,e2,_,g2⟩:=lM.cells;clear im lM pU cu g3 vT
      have TE:=xW.o;rw [←HPE.o] at TE;have YE:=Hd TE;clear TE;obtain⟨w7,Ca⟩:∃w7,w7=w6.setCell ⟨cs,2,none⟩ (.int .i64 ((d:Int)+1)):=⟨_,rfl⟩;rw [←Ca];have LJ:ah w7 cs s p ((d+1:Nat):Int):=by rw [Ca];exact YE.o.set2 _
      have i5:ae (λ b=>b=cs) w6 w7:=by rw [Ca];exact mt _ _ _ _
      have UV:=Pp.o.keep i5 (λ h=>cM h.symm);have Bi:=Hd LJ;have C4:=Hd UV;have C1:=Hd (oh st.o i5);obtain⟨⟨_,_,_,_,_,k5⟩,_,_,_,_,_⟩:=UV.six;clear Ca LJ UV i5 f4 e2 g2 d3 d5;go_wp2_with fail;refine (HD.o.br q cs s p (d+1) _ Bi.o FP oM hs oM).mono ?_;intro e w8 mY;cases bM:bN m (.br q) (d+1) (rest s p) with
      | error x=>
       rw [bM] at mY;have dU:=Vw.o;rw [bM] at dU;have Bh:=Hd dU;obtain⟨he,lz⟩:=mY;subst he;have Up:=Hd (oh C1.o lz);clear bM dU lz;go_wp2_with fail;refine⟨rfl,?_⟩;rw [Bh.o];exact⟨rfl,Up.o⟩
      | ok lr=>
       obtain⟨l2,r2⟩:=lr;rw [bM] at mY;have dU:=Vw.o;rw [bM] at dU;dsimp only at dU;obtain⟨I2,N2,v,he,a1,a2,a3,a4,a5⟩:=mY;subst he;obtain⟨ax,cx,rfl,_,_⟩:=a4.shape;have Eh:=C4.o.keep a5 (λ h=>cM h.symm);have Bh:=Hd dU;have HS8:=Hd a3;have HP8:=Hd a4;have HR8:=Hd Eh;have Up:=Hd (oh C1.o a5);have R1:=Hd a2;obtain⟨⟨_,_,_,_,_,_⟩,_,_,_,_,f4⟩:=Eh.six;have bA:=Hd (dh HS8.o HR8.o cM 4 (.slice ax (eh l2).length cx))
       obtain⟨_,_,e2,_,g2⟩:=(show ah w8 cs s I2 ((d:Int)+1) from a3).cells;have w2e:IntKind.i64.wrap ((d:Int)+1 - 1)=(d:Int):=by rw [show ((d:Int)+1 - 1)=(d:Int) by omega];exact nL _ oM
       have w3e:IntKind.i64.wrap (d:Int)=(d:Int):=nL _ oM;clear bM dU a2 a3 a4 a5 Eh k5;go_wp2_with fail;obtain⟨w9,xN,B7,Rz,iQ⟩:=bA.o;rw [←xN];have JO:=Hd (pi Up.o iQ);have Gt:=Hd B7;have Vs:=Hd Rz;have Vq:=Hd (HP8.o.keep iQ (λ b hb hx e=>by have:=C4.o.lt;omega));clear xN B7 Rz iQ f4;go_end0;rw [Bh.o,←R1.o,←HR.o,←HO.o];have sU:=mt w9 cs 2 (.int .i64 (d:Int))
       exact sP (Gt.o.set2 _) a1 (Vs.o.keep sU (λ h=>cM h.symm)) rfl rfl ((Vq.o.keep sU (λ b hb hx e=>by have:=cK.o.lt;have:=C1.o.size;omega)).mono (λ b _ h=>by have:=C1.o.size;omega)) (oh JO.o sU)
theorem G1 {w w':World} {v v':Value} {B wb:Nat} {raw:List Pt} {x:Pt} {vs:List Value} {n:Nat} {wv:Value} (hx:az w (λ b=>(B≤b∧b≠wb)∧v.ownBlock≠some b) n x.word wv) (hl:vs.length=raw.length)
 (eD:∀i (h:i<raw.length) (h':i<vs.length),az w (λ b=>(B≤b∧b≠wb)∧v.ownBlock≠some b) n raw[i].word vs[i])
 (aU:w'.ownsRow 0 67 6 v' (raw.length+1) (bg raw vs++cH x wv)) (hk:ae (λ b=>b=wb∨v.ownBlock=some b) w w')
 (hg:∀y,v'.ownBlock=some y→v.ownBlock=some y∨w.heap.size≤y) :
 ey w' (λ b=>B≤b∧b≠wb) v' (raw++[x]):=by
 have gC:∀(l:List Pt) (u:Value),az w (λ b=>(B≤b∧b≠wb)∧v.ownBlock≠some b) n l u→az w' (λ b=>(B≤b∧b≠wb)∧v'.ownBlock≠some b) n l u:=λ l u h=>by
  have h2:az w (λ b=>((B≤b∧b≠wb)∧v.ownBlock≠some b)∧b<w.heap.size) n l u:=h.mono λ b hb hd=>⟨hd,hb⟩;exact PJ
 refine⟨vs++[wv],n,by simp [hl],?_,λ i h h'=>?_⟩
 ·exact KD
 ·by_cases hi:i<raw.length
  ·rw [uA hi,uA oM];exact gC _ _ (eD i hi oM)
  ·have fm:i=raw.length:=by simp at h;omega
   subst fm;rw [uB (nC _),uB oM];simp only [hl,Nat.sub_self,nN];exact gC _ _ hx
theorem GJ {w:World} {B cs wb:Nat} {v:Value} {raw:List Pt} {vs:List Value} {n m:Nat} {x:Pt} {wv:Value} {N:List Pt×Bool} {e:Ending} {w':World} (ho:v.ownBlock≠some cs) (qA:cs<B∧B≤wb) (hl:vs.length=raw.length)
 (L4:cs<w.heap.size) (sF:az w (λ b=>(B≤b∧b≠wb)∧v.ownBlock≠some b) n x.word wv)
 (eD:∀i (h:i<raw.length) (h':i<vs.length),az w (λ b=>(B≤b∧b≠wb)∧v.ownBlock≠some b) n raw[i].word vs[i])
 (pT:vk raw) (hN:cZ raw=N) (hm:er raw≤m) (bt:x.kind≠1) (aS:x.kind≠2) (hp:f5 w wb raw.length v (bg raw vs++cH x wv) e w') :
 jB w B cs wb v.ownBlock (cd N x) (m+x.text.length+1) e w':=by
 obtain⟨he,g,aC,h1,h2,h3,h4,h5⟩:=hp;refine⟨he,some g,⟨_,raw++[x],h1,G1 (v:=v) sF hl eD h2 h5 (λ y hy=>?_),rfl,λ e=>h4 (nD e),?_,qA,?_,pT.append (λ p hp hk=>?_),?_⟩,?_,h5⟩
 ·obtain rfl:g=y:=nD hy;exact h3
 ·exact QA
 ·rw [fE,hN];rfl
 ·obtain rfl:=List.mem_singleton.1 hp;rcases hk with hk | hk
  ·exact nQ hk bt
  ·exact nQ hk aS
 ·rw [bv];simp only [er];omega
 ·rcases h3 with h3 | h3
  ·exact .inl h3.symm
  ·exact .inr ⟨g,rfl,h3⟩
def SJ (w:World) (B cs wb pb:Nat) (s:ByteArray) (d:Nat) (g:Option Nat) (N:List Pt×Bool) (m:Nat) (res:mH):Prop:=
 ∃(i' k:Nat) (x:Pt) (v:Value),res=.ok ([x],rest s i')∧i'≤s.size∧m+x.text.length+1≤2*i'∧x.kind≠1∧x.kind≠2∧ah w cs s i' d∧ml w B cs wb g N m∧
  af w pb (cH x v)∧az w (λ b=>(B≤b∧b≠wb)∧g≠some b) k x.word v
theorem zZ {W1 w1:World} {o:Obj} {wb pb:Nat} {u v:Value} {l:List Value} (hg:(W1.alloc o).grownBy w1 v.ownBlock) (hw:dQ W1 wb u) (hr:af W1 pb l) (hv:v.ownBlock≠some wb) (hvp:v.ownBlock≠some pb):dQ w1 wb u∧af w1 pb l∧ae (λ b=>v.ownBlock=some b) W1 w1:=by
 have k:ae (λ b=>v.ownBlock=some b) W1 w1:=((ae.refl _ W1).alloc o).grown hg λ k hk _=>hk;exact⟨hw.keep k hv,hr.keep k hvp,k⟩
theorem vo {W1 w1:World} {o:Obj} {wb pb:Nat} {u v:Value} {l:List Value} (hg:(W1.alloc o).drew.grownBy w1 v.ownBlock) (hw:dQ W1 wb u) (hr:af W1 pb l) (hv:v.ownBlock≠some wb) (hvp:v.ownBlock≠some pb):dQ w1 wb u∧af w1 pb l∧ae (λ b=>v.ownBlock=some b) W1 w1:=by
 have k:ae (λ b=>v.ownBlock=some b) W1 w1:=((ae.refl _ W1).alloc o).drew.grown hg λ k hk _=>hk;exact⟨hw.keep k hv,hr.keep k hvp,k⟩
theorem S9 {W1 w1:World} {wb g aC L:Nat} {u v:Value} {xs:List Value} {z0 z1 z2 z3 z4 z5 u0 u1 u2 u3 u4 u5:Value} (hk:ae (λ b=>v.ownBlock=some b) W1 w1) (hw:dQ w1 wb u)
 (aU:w1.ownsRow 0 67 6 (.slice (some ⟨g,0,none⟩) (L+1) aC) (L+1) (xs++[z0,z1,z2,z3,z4,z5])) (bf:v.ownBlock=some g∨g=W1.heap.size+1) (oS:g≠wb) :
 f5 W1 wb L v (xs++[u0,u1,u2,u3,u4,u5]) (.returned (.tuple #[])) (IF (w1.setCell ⟨wb,0,none⟩ (.slice (some ⟨g,0,none⟩) (L+1) aC)) g (L*6) u0 u1 u2 u3 u4 u5):=by
 have hx:xs.length=L*6:=by have:=aU.1;simp at this;omega
 have k1:ae (λ b=>b=wb∨v.ownBlock=some b) W1 w1:=hk.mono λ_ _ h=>.inr h;have k2:∀k,k<W1.heap.size→k=g→(k=wb∨v.ownBlock=some k):=λ k hk e=>by
  rcases bf with bf | bf
  ·exact .inr (by rw [bf,e])
  ·omega
 refine⟨rfl,g,aC,?_,?_,?_,oS,?_⟩
 ·exact (hw.set _).keep (ln _ _ _ _ _ _ _ _ _) (Ne.symm oS)
 ·exact Ql
 ·exact Fy
 ·exact Qr
theorem Ta {W1 w1:World} {wb g aC L:Nat} {u v:Value} {ys:List Value} (hk:ae (λ b=>v.ownBlock=some b) W1 w1) (hw:dQ w1 wb u)
 (aU:w1.ownsRow 0 67 6 (.slice (some ⟨g,0,none⟩) (L+1) aC) (L+1) ys) (bf:v.ownBlock=some g∨g=W1.heap.size+1) (oS:g≠wb) :
 f5 W1 wb L v ys (.returned (.tuple #[])) (w1.setCell ⟨wb,0,none⟩ (.slice (some ⟨g,0,none⟩) (L+1) aC)):=by
 refine⟨rfl,g,aC,hw.set _,Go.ownsRow_setCell_other aU (by simpa [Value.ownBlock] using oS) _,?_,oS,?_⟩
 ·exact Fy
 ·exact (hk.mono λ_ _ h=>.inr h).setCell _ _ λ_=>.inl rfl
theorem Gi {w w1 w2:World} {cs pb:Nat} (h:ae (λ b=>b=cs) w w1) (qD:pb=w.heap.size) (k:ae (SK cs pb) w1 w2):ae (λ b=>b=cs) w w2:=h.trans k λ x hx e=>by
 rcases e with e | e
 ·exact e
 ·omega
theorem pE {w w1 w2:World} {cs pb:Nat} (h:ae (λ b=>b=cs) w w1) (qD:pb=w.heap.size) (k:ae (λ b=>b=pb) w1 w2):ae (λ b=>b=cs) w w2:=h.trans k λ x hx e=>oM
theorem Li {w:World} {B cs wb:Nat} {g:Option Nat} {N:List Pt×Bool} {m b:Nat} (h:ml w B cs wb g N m) (hb:w.heap.size≤b):(B≤b∧b≠wb)∧g≠some b:=by
 have hl:=h.le;refine⟨⟨oM,oM⟩,λ e=>?_⟩;obtain⟨v0,ab5,_,pB,e0,_⟩:=h;have:=pB.lt (e0.trans e);omega
theorem FW {w w3:World} {B cs wb pb I d m k:Nat} {s:ByteArray} {g:Option Nat} {N:List Pt×Bool} {x:Pt} {v:Value} {res:mH} (hb:ml w B cs wb g N m) (hk:ae (λ b=>b=cs) w w3) (hs:ah w3 cs s I d)
 (hr:af w3 pb (cH x v)) (hx:az w3 (λ b=>w.heap.size≤b) k x.word v) (h1:x.kind≠1) (h2:x.kind≠2) (hI:I≤s.size) (hm:m+x.text.length+1≤2*I) (ag:res=.ok ([x],rest s I)) :
 SJ w3 B cs wb pb s d g N m res∧ae (λ b=>b=cs) w w3:=
 ⟨⟨I,k,x,v,ag,hI,hm,h1,h2,hs,hb.keep hk (λ_ _ e=>e),hr,hx.mono λ b _ h=>Li hb h⟩,hk⟩
theorem wH {w w2:World} {B cs wb pb I d m:Nat} {s:ByteArray} {g:Option Nat} {N:List Pt×Bool} {kd:Nat} {name text:List UInt8} {q:Bool} {res:mH} {j:Nat} {u:Value} (hb:ml w B cs wb g N m) (qD:pb=w.heap.size) (cM:cs≠pb) (hk:ae (λ b=>b=cs) w w2) (hs:ah w2 cs s I d)
 (hr:af w2 pb [.int .i64 0,eS,eS,eS,(),q]) (hl:([.int .i64 (kd:Nat),eS,eS,eS,(),q]:List Value).set j u=cH (.mk kd text name [] [] q) (.slice none 0 0))
 (h1:kd≠1) (h2:kd≠2) (hI:I≤s.size) (hm:m+text.length+1≤2*I) (ag:res=.ok ([.mk kd text name [] [] q],rest s I)) :
 SJ ((w2.setCell ⟨pb,0,none⟩ (.int .i64 (kd:Nat))).setCell ⟨pb,j,none⟩ u) B cs wb pb s d g N m res∧ae (λ b=>b=cs) w ((w2.setCell ⟨pb,0,none⟩ (.int .i64 (kd:Nat))).setCell ⟨pb,j,none⟩ u):=by
 obtain⟨w3,kh,d6,hr3,aV⟩:=dh hs hr cM 0 (.int .i64 (kd:Nat));obtain⟨w4,fU,dR,qb,be⟩:=dh d6 hr3 cM j u;subst kh;subst fU;refine FW (x:=.mk kd text name [] [] q) hb (pE (pE hk qD aV) qD be) dR ?_ (az.nil _ _ 0) h1 h2 hI hm ag;rw [←hl];exact qb
theorem ET (a b:UInt8) {r:List UInt8} (h:aI [a,b] r=true):2≤r.length:=nu h
theorem yO:∀{l:List UInt8} {o k:Nat},ci o l=some k→k+2≤l.length
 | [],o,k,h=>by cases h
 | c::t,o,k,h=>by
  have hm:∀o',(ci o' t).map (· + 1)=some k→k+2≤t.length+1:=λ o' h=>by
   cases h2:ci o' t with
   | none=>rw [h2] at h;cases h
   | some j=>
    rw [h2] at h;have:=yO h2;have:j+1=k:=nD h;omega
  unfold ci at h;rw [lC];split at h
  ·exact hm _ h
  split at h
  ·split at h
   ·split at h
    ·next hh=>
     have:0=k:=nD h;cases t with
     | nil=>cases hh
     | cons a b=>rw [lC];omega
    ·cases h
   ·exact hm _ h
  ·exact hm _ h
theorem CP:∀{l:List UInt8} {md:SM} {o k:Nat},ce md o l=some k→k+1≤l.length
 | [],md,o,k,h=>by cases md<;>cases h
 | c::t,md,o,k,h=>by
  have hm:∀md' o',(ce md' o' t).map (· + 1)=some k→k+1≤t.length+1:=λ md' o' h=>by
   cases h2:ce md' o' t with
   | none=>rw [h2] at h;cases h
   | some j=>
    rw [h2] at h;have:=CP h2;have:j+1=k:=nD h;omega
  rw [lC];cases md with
  | n=>
   unfold ce at h;split at h
   ·exact hm _ _ h
   split at h
   ·exact hm _ _ h
   split at h
   ·exact hm _ _ h
   split at h
   ·exact hm _ _ h
   split at h
   ·split at h
    ·have:0=k:=nD h;omega
    ·exact hm _ _ h
   ·exact hm _ _ h
  | q1=>exact hm _ _ h
  | q2=>exact hm _ _ h
  | bn=>exact hm _ _ h
  | bq=>exact hm _ _ h
theorem N7 {s:ByteArray} {i k:Nat} (h:ci 0 (rest s i)=some k) (hi:i≤s.size):i+(k+2)≤s.size:=by
 have:=yO h;rw [aO] at this;omega
theorem Ub {s:ByteArray} {i k:Nat} (h:ce .n 0 (rest s i)=some k) (hi:i≤s.size):i+(k+1)≤s.size:=by
 have:=CP h;rw [aO] at this;omega
theorem K6 (n:Nat) (IH:∀m,m<n→Dd m) (q:Bool) (B cs wb:Nat) (s:ByteArray) (i d m:Nat) (g:Option Nat) (N:List Pt×Bool) (w:World) (eY:ah w cs s i d) (hi:i≤s.size) (hd:d≤40) (hs:s.size≤20000) (hb:ml w B cs wb g N m) (hm:m+2≤2*i) (hn:2*(s.size - i)+1≤n) :
 Calls Tryz.prog 136 #[.pointer (some ⟨cs,0,none⟩),.pointer (some ⟨wb,0,none⟩),q] w (dG w B cs wb s d g N (bN n (.dol q) d (rest s i))):=by
 have HD:=Hd IH;have cK:=Hd eY;have HB:=Hd hb;obtain⟨res,ag⟩:∃res,res=bN n (.dol q) d (rest s i):=⟨_,rfl⟩;rw [←ag];have ay:=Hd ag;have UN:=hb.le;clear IH eY hb ag;go_enter Tryz.func136,Tryz.ntmps136;go_upto_block 0 with fail;go_cut [] from 9 to 44 (λ wx=>SJ wx B cs wb w.heap.size s d g N m res∧ae (λ b=>b=cs) w wx)
 case first=>
  obtain⟨pb,qD⟩:∃pb,pb=w.heap.size:=⟨_,rfl⟩;obtain⟨w0,Hk⟩:∃w0,w0=w.alloc (.cells #[.int .i64 0,eS,eS,eS,(),q] 67):=⟨_,rfl⟩;have sV:af w0 pb [.int .i64 0,eS,eS,eS,(),q]:=by rw [Hk,qD];exact⟨_,nG w _⟩
  have dt:ae (λ b=>b=cs) w w0:=by rw [Hk];exact (ae.refl _ _).alloc _
  rw [←Hk,←qD];have C5:=Hd (cK.o.keep (show K0 w w0 by rw [Hk];exact (ae.refl _ _).alloc _) (λ h=>h));have cM:cs≠pb:=oM
  have xV:=Hd qD;have re:=Hd sV;have mF:=Hd dt;clear Hk sV dt qD;obtain⟨M,rfl⟩:∃M,n=M+1:=⟨n - 1,oM⟩;have hr:=ay.o;rw [mu] at hr;by_cases hh:aP 123 (rest s i)=true
  ·rw [nE hh,fW] at hr;have aW:i<s.size:=by
    rcases nP i s.size with x | x
    ·exact x
    ·rw [aX x] at hh;cases hh
   have HH:=Hd hh;have HR:=Hd hr;clear hr hh;go_wp2_with fail;refine (kq cs s ⟨#[123]⟩ i d _ C5.o oM hi dC (by rw [aq,bI];exact HH.o)).mono ?_;rintro e w1 ⟨rfl,dL,bt⟩;have dF:=Hd dL;have ot:=Hd (re.o.keep bt (λ h=>cM h.symm));have dp:=Hd (mF.o.trans bt (λ_ _ e=>e));clear dL bt;go_wp2_with fail;refine ((HD.o M oM).brace q cs pb s (i+1) d _ dF.o aW hd hs cM ot.o oM).mono ?_
   intro e w2 hp;cases bM:bN M (.brace q) d (rest s (i+1)) with
   | error x=>
    rw [bM] at hp;have dU:=HR.o;rw [bM] at dU;obtain⟨he,aS⟩:=hp;subst he;have gF:=Hd dU;have cA:=Hd (Gi dp.o xV.o aS);exact Q5
   | ok lr=>
    obtain⟨l,r⟩:=lr;rw [bM] at hp;have dU:=HR.o;rw [bM] at dU;have bS:=cS _ _ _ _ _ _ bM;obtain⟨he,I,k,x,v,a1,a2,a3,a4,a5,a6,a7,a8,a9⟩:=hp;subst he;rw [←a2,aO,aO] at bS;rw [a3,←a2] at dU;have LB:i+1≤I:=by simp only [Md.least] at bS;omega
    have aZ:=Gi dp.o xV.o a9;have HF:=Hd (FW (m:=m) HB.o aZ a6 a7 (a8.mono λ b _ h=>by have:=dp.o.size;omega) (by rw [a4];decide) (by rw [a4];decide) a1 (by rw [a5];show m+0+1≤_;omega) dU);clear dU bM a2 a3 a4 a5 a6 a7 a8 a9 aZ bS;exact Fv
  ·rw [nF hh] at hr;have hh':aP 123 (rest s i)=false:=by simpa using hh
   have HH:=Hd hh';clear hh hh';by_cases h2:aI [40,40] (rest s i)=true
   ·rw [nE h2,b8] at hr;have aW:i+2≤s.size:=by
     have:=ET 40 40 h2;rw [aO] at this;omega
    have H2:=Hd h2;have HR:=Hd hr;clear hr h2;go_wp2_with fail;refine (gkz cs s ⟨#[123]⟩ i d _ C5.o hi (by rw [aq,bI];exact HH.o)).mono ?_;rintro e w1 ⟨rfl,q1,rfl⟩;go_wp2_with fail;refine (kq cs s ⟨#[40,40]⟩ i d _ (C5.o.drewN q1) oM hi dC (by rw [aq];exact H2.o)).mono ?_;rintro e w1 ⟨rfl,dL,bt⟩;have kn:ae (λ b=>b=cs) w0 (w0.drewN q1):=(ae.refl _ _).drewN _
    have dF:=Hd dL;have ot:=Hd ((re.o.keep kn (λ h=>cM h.symm)).keep bt (λ h=>cM h.symm));have dp:=Hd ((mF.o.trans kn (λ_ _ e=>e)).trans bt (λ_ _ e=>e));clear dL bt kn;go_wp2_with fail;refine (KY cs s (i+2) d _ dF.o oM aW (ci 0 (rest s (i+2))) rfl).mono ?_;intro e w2 hp;cases bM:ci 0 (rest s (i+2)) with
    | none=>
     exact WE
    | some k=>
     rw [bM] at hp;have dU:=HR.o;rw [bM] at dU;dsimp only at dU;obtain⟨R,he,hR,cj,aS⟩:=hp;subst he;have yX:=ot.o.keep aS (λ h=>cM h.symm);have aZ:=dp.o.trans aS (λ_ _ e=>e);obtain⟨⟨_,_,_,_,_,_⟩,f0,f1,_,_,_⟩:=yX.six;have eC:i+2+(k+2)≤s.size:=N7 bM aW;have lE:R.data.toList.length≤k:=by rw [hR,List.length_take];omega
     have HF:=Hd (wH (m:=m) (res:=res) (kd:=4) (j:=1) (u:=.string R) (text:=R.data.toList) (name:=[]) HB.o xV.o cM aZ cj yX rfl dC dC eC oM (by rw [dU,hR,b8]));clear dU bM hR cj aS yX aZ;exact Fv
   ·rw [nF h2] at hr;have WZ:aI [40,40] (rest s i)=false:=by simpa using h2
    have H2:=Hd WZ;clear h2 WZ;by_cases h3:aP 40 (rest s i)=true
    ·rw [nE h3,fW] at hr;have aW:i+1≤s.size:=by
      rcases nP i s.size with x | x
      ·exact x
      ·rw [aX x] at h3;cases h3
     have H3:=Hd h3;have HR:=Hd hr;clear hr h3;go_wp2_with fail;refine (gkz cs s ⟨#[123]⟩ i d _ C5.o hi (by rw [aq,bI];exact HH.o)).mono ?_;rintro e w1 ⟨rfl,q1,rfl⟩;go_wp2_with fail;refine (gkz cs s ⟨#[40,40]⟩ i d _ (C5.o.drewN q1) hi (by rw [aq];exact H2.o)).mono ?_;rintro e w1 ⟨rfl,q2,rfl⟩;go_wp2_with fail;refine (kq cs s ⟨#[40]⟩ i d _ (C5.o.drewN (q1+q2)) oM hi dC (by rw [aq,bI];exact H3.o)).mono ?_
     rintro e w1 ⟨rfl,dL,bt⟩;have kn:ae (λ b=>b=cs) w0 (w0.drewN (q1+q2)):=(ae.refl _ _).drewN _;have dF:=Hd dL;have ot:=Hd ((re.o.keep kn (λ h=>cM h.symm)).keep bt (λ h=>cM h.symm));have dp:=Hd ((mF.o.trans kn (λ_ _ e=>e)).trans bt (λ_ _ e=>e));clear dL bt kn;go_wp2_with fail;refine (O9 cs s (i+1) d _ dF.o oM aW (ce .n 0 (rest s (i+1))) rfl).mono ?_
     intro e w2 hp;cases bM:ce .n 0 (rest s (i+1)) with
     | none=>
      exact WE
     | some k=>
      rw [bM] at hp;have dU:=HR.o;rw [bM] at dU;dsimp only at dU;obtain⟨R,he,hR,cj,aS⟩:=hp;subst he;have yX:=ot.o.keep aS (λ h=>cM h.symm);have aZ:=dp.o.trans aS (λ_ _ e=>e);obtain⟨⟨_,_,_,_,_,_⟩,f0,f1,_,_,_⟩:=yX.six;have eC:i+1+(k+1)≤s.size:=Ub bM aW;have lE:R.data.toList.length≤k:=by rw [hR,List.length_take];omega
      have HF:=Hd (wH (m:=m) (res:=res) (kd:=5) (j:=1) (u:=.string R) (text:=R.data.toList) (name:=[]) HB.o xV.o cM aZ cj yX rfl dC dC eC oM (by rw [dU,hR,b8]));clear dU bM hR cj aS yX aZ;exact Fv
    ·rw [nF h3] at hr;have h3':aP 40 (rest s i)=false:=by simpa using h3
     have H3:=Hd h3';clear h3 h3';obtain⟨k,hk⟩:∃k,k=bQ false (rest s i):=⟨_,rfl⟩;rw [←hk] at hr;have oU:k≤s.size - i:=by rw [hk,←aO];exact iU _ _
     have HR:=Hd hr;have HKN:=Hd hk;clear hr hk;go_wp2_with fail;refine (gkz cs s ⟨#[123]⟩ i d _ C5.o hi (by rw [aq,bI];exact HH.o)).mono ?_;rintro e w1 ⟨rfl,q1,rfl⟩;go_wp2_with fail;refine (gkz cs s ⟨#[40,40]⟩ i d _ (C5.o.drewN q1) hi (by rw [aq];exact H2.o)).mono ?_;rintro e w1 ⟨rfl,q2,rfl⟩;go_wp2_with fail;refine (gkz cs s ⟨#[40]⟩ i d _ (C5.o.drewN (q1+q2)) hi (by rw [aq,bI];exact H3.o)).mono ?_
     rintro e w1 ⟨rfl,q3,rfl⟩;go_wp2_with fail;refine (Ci cs s i d _ false (C5.o.drewN (q1+q2+q3)) oM hi k HKN.o.symm).mono ?_;rintro e w2 ⟨R,rfl,hR,cj,aS⟩;have kn:ae (λ b=>b=cs) w0 (w0.drewN (q1+q2+q3)):=(ae.refl _ _).drewN _;have yX:=(re.o.keep kn (λ h=>cM h.symm)).keep aS (λ h=>cM h.symm);have gF:=Hd yX;have gS:=Hd cj;have cA:=Hd ((mF.o.trans kn (λ_ _ e=>e)).trans aS (λ_ _ e=>e))
     have HT:=Hd hR;obtain⟨⟨_,_,_,_,_,_⟩,f0,_,f2,_,_⟩:=yX.six;clear hR cj aS kn yX;by_cases dt:k=0
     ·obtain⟨t1,t2⟩:=eN (s:=R) (by rw [HT.o,dt,List.take_zero]);have hr:=HR.o;rw [nE dt] at hr;have d6:=gS.o;rw [dt] at d6;obtain⟨w3,kh,dR,qb,be⟩:=dh d6 gF.o cM 0 (.int .i64 3);obtain⟨w4,fU,dV,lD,bi⟩:=dh dR qb cM 2 (.string R);have fL:=Hd (pE (pE cA.o xV.o be) xV.o bi);have l6:=Hd dV;have Ys:=Hd (HB.o.keep fL.o (λ_ _ e=>e))
      have HW:=Hd (show w4=(w2.setCell ⟨pb,0,none⟩ (.int .i64 3)).setCell ⟨pb,2,none⟩ (.string R) by rw [fU,kh]);clear dt d6 kh dR qb be fU dV lD bi;cases q with
      | true=>
       have pZ:=Hd hr;clear hr;go_wp2_with fail;rw [←HW.o];refine (mx B cs wb g N m ⟨#[36]⟩ _ Ys.o oM (l6.o.lt)).mono ?_;intro e w5 hp;have cm:=ju (d:=d) (i:=i) (r:=rest s i) (l:=[cq [36]]) hp l6.o Ys.o fL.o hi rfl rfl (by show m+1+1≤_;omega);exact Qi
      | false=>
       have pZ:=Hd hr;clear hr;go_wp2_with fail;rw [←HW.o];refine (Co B cs wb g N m ⟨#[36]⟩ _ Ys.o sI oM (l6.o.lt)).mono ?_;intro e w5 hp;have cm:=ju (d:=d) (i:=i) (r:=rest s i) (l:=[dD [36]]) hp l6.o Ys.o fL.o hi rfl rfl (by show m+1+1≤_;omega);exact Qi
     ·have LC:R.data.toList≠[]:=by
       intro h;have h2:=congrArg List.length (HT.o.symm.trans h);exact QK
      obtain⟨t1,t2⟩:=fd (s:=R) LC;have hr:=HR.o;rw [nF dt,b8] at hr;have HF:=Hd (wH (m:=m) (res:=res) (kd:=3) (j:=2) (u:=.string R) (text:=[]) (name:=R.data.toList) HB.o xV.o cM cA.o gS.o gF.o rfl dC dC oM (by show m+0+1≤_;omega) (by rw [hr,HT.o]));clear LC dt hr;exact Fv
 case rest=>
  obtain⟨Ru,sU⟩:=hcut;obtain⟨pb,qD⟩:∃pb,pb=w.heap.size:=⟨_,rfl⟩;rw [←qD] at Ru ⊢;have xV:=Hd qD;have Jn:wb≠pb:=oM
  clear qD;obtain⟨I,k,x,xv,hr,hI,yj,xP,pX,dL,jD,pC,FP⟩:=Ru;obtain⟨ax,cx,rfl,_,_⟩:=FP.shape;obtain⟨xl,sE⟩:∃xl,xl=x.word.length:=⟨_,rfl⟩;rw [←sE] at pC FP;have mX:af wc pb [.int .i64 (x.kind:Nat),.string ⟨x.text.toArray⟩,.string ⟨x.name.toArray⟩,.string ⟨x.op.toArray⟩,.slice ax xl cx,x.quoted]:=pC;have hbx:=jD;obtain⟨vb,raw,hw,ho,RJ,h1,h2,h3,h4,h5,h6⟩:=jD;obtain⟨a,c,rfl,h7,h8⟩:=ho.shape
  obtain⟨vs,nn,hl,aU,eD⟩:=ho;have iZ:=iq raw;have oS:(Value.slice a raw.length c).ownBlock≠some wb:=by rw [RJ];exact h1
  have Rq:(Value.slice a raw.length c).ownBlock≠some cs:=by rw [RJ];exact h2
  have hgp:(Value.slice a raw.length c).ownBlock≠some pb:=by
   rw [RJ];intro e;obtain⟨v0,ab5,_,pB,e0,_⟩:=HB.o;have:=pB.lt (e0.trans e);have:=xV.o;omega
  have cm:∀W1,K0 wc W1→∀e w2,f5 W1 wb raw.length (.slice a raw.length c) (bg raw vs++cH x (.slice ax xl cx)) e w2→dG w B cs wb s d g N res e w2:=λ W1 bt e w2 hp=>by
   have uL:az wc (λ b=>(B≤b∧b≠wb)∧(Value.slice a raw.length c).ownBlock≠some b) k x.word (.slice ax xl cx):=FP.mono λ b _ h=>by rw [RJ];exact h
   have ji:=GJ (n:=k+nn) (m:=m) (N:=N) (B:=B) (cs:=cs) Rq h3 hl (by have:=dL.lt;have:=bt.size;omega) ((uL.keep bt (λ_ _ _ h=>h)).le oM) (λ i h h'=>((eD i h h').keep bt (λ_ _ _ h=>h)).le oM) h5 h4 h6 xP pX hp;rw [RJ] at ji;rw [hr];exact ju ji (dL.keep bt (λ h=>h)) (hbx.keep bt (λ_ _ h=>h.elim)) (sU.trans bt λ_ _ h=>h.elim) hI rfl rfl oM
  obtain⟨L,hL⟩:∃L,L=raw.length:=⟨_,rfl⟩;obtain⟨xs,oZ⟩:∃xs,xs=bg raw vs:=⟨_,rfl⟩;have acC:L≤1000000:=oM
  rw [←oZ] at aU cm;rw [←hL] at aU cm hw oS Rq hgp;have gR:=Hd cm;have HC:=Hd mX;have HW:=Hd hw;have ql:=Hd aU;have lwc:=hw.lt;obtain⟨i0,fo,fC,fp,fq⟩:=info_parts ef;have yT:=bW;clear sU hr dL FP pC mX hbx hw RJ h1 h2 h4 h5 h6 h7 h8 aU eD hl cm iZ sE hL oZ;go_wp2_with fail;go_region
  ·obtain⟨W1,tM⟩:∃W1,W1=(wc.alloc (.cells #[false] 4)).drew:=⟨_,rfl⟩;have bt:K0 wc W1:=by rw [tM];exact ((ae.refl _ _).alloc _).drew
   have fS:W1.ownsRow 0 67 6 (.slice a L c) L xs:=by rw [tM];exact (ql.o.alloc _).drew
   rw [←tM];have mX:=HC.o.keep bt (λ h=>h);have rU:=HW.o.keep bt (λ h=>h);obtain⟨⟨c0,c1,c2,c3,c4,c5⟩,_⟩:=mX.six;obtain⟨wc0,wf0⟩:=rU.cell;have lw:=rU.lt;have I1:=Hd (gR.o W1 bt);have ZA:=Hd mX;have I8:=Hd rU;clear tM bt mX rU gR;go_wp2_with fail;go_region_law
    ((
     refine step_append_lies _ rF _ _ _ rF 0 67 i0 _ 6 88 Tryz.underlying29 fo fC fp fq rfl oM (.slice a L c) L xs rF ((fS.alloc _).drew)
      ⟨W1.heap.size,0,none⟩ 1 1 [.int .i64 (x.kind:Nat),.string ⟨x.text.toArray⟩,.string ⟨x.name.toArray⟩,.string ⟨x.op.toArray⟩,.slice ax xl cx,x.quoted] rF rF (nK (cs:=#[.int .i64 (x.kind:Nat),.string ⟨x.text.toArray⟩,.string ⟨x.name.toArray⟩,.string ⟨x.op.toArray⟩,.slice ax xl cx,.bool x.quoted]) (t:=67) (fr:=(0,0)) (nG W1 _)) oC
      oM uM oM sI (W1.heap.size+1) sI ?_;intro gg aC w1 aK ao bf aW
     obtain⟨rp,hra,uz⟩:=vo ao I8.o ZA.o oS hgp;have G7:=pL oS bf lw;obtain⟨y0,y1⟩:=rp.cell))
   all_goals (go_end0;exact I1.o _ _ (Ta uz rp aK bf G7))
  ·obtain⟨W1,tM⟩:∃W1,W1=(wc.alloc (.cells #[true] 4)).drew:=⟨_,rfl⟩;have bt:K0 wc W1:=by rw [tM];exact ((ae.refl _ _).alloc _).drew
   have fS:W1.ownsRow 0 67 6 (.slice a L c) L xs:=by rw [tM];exact (ql.o.alloc _).drew
   rw [←tM];have mX:=HC.o.keep bt (λ h=>h);have rU:=HW.o.keep bt (λ h=>h);obtain⟨wc0,wf0⟩:=rU.cell;have lw:=rU.lt;have I1:=Hd (gR.o W1 bt);have ZA:=Hd mX;have I8:=Hd rU;clear tM bt mX rU gR;go_wp2_with (at_builtin;refine nR _ rfl (.tmp 50) (.tmp 52) _ rfl 0 67 i0 _ 6 88 Tryz.underlying29 fo fC fp fq rfl oM (.slice a L c) L xs rfl (fS.alloc _) ⟨W1.heap.size,0,none⟩ 1 1 [.int .i64 0,eS,eS,eS,(),false] rfl rfl (nK (cs:=#[.int .i64 0,.string ⟨#[]⟩,.string ⟨#[]⟩,.string ⟨#[]⟩,.slice none 0 0,.bool false]) (t:=67) (fr:=(0,0)) (nG W1 _)) oC oM uM oM sI (W1.heap.size+1) sI ?_;intro gg aC w1 aK ao bf aW;obtain⟨rp,hra,uz⟩:=zZ ao I8.o ZA.o oS hgp;have G7:=pL oS bf lw;obtain⟨y0,y1⟩:=rp.cell;obtain⟨⟨c0,c1,c2,c3,c4,c5⟩,_⟩:=hra.six;obtain⟨t0,t1,t2,t3,t4,t5,z0,z1,z2,z3,z4,z5⟩:=qY aK)
   go_end0;exact I1.o _ _ (S9 uz rp aK bf G7)
theorem aaP (n:Nat):Dd n:=by
 induction n using Nat.strongRecOn with
 | _ n IH=>exact {
  out:=λ B cs wb s i d g N w h1 h2 h3 h4 h5 h6=>Mi n IH B cs wb s i d g N w h1 h2 h3 h4 h5 h6
  inn:=λ B cs wb s i d g N w h1 h2 h3 h4 h5 h6 h7=>LY n IH B cs wb s i d g N w h1 h2 h3 h4 h5 h6 h7
  dq:=λ B cs wb s i d m g N w h1 h2 h3 h4 h5 h6 h7=>Oa n IH B cs wb s i d m g N w h1 h2 h3 h4 h5 h6 h7
  dol:=λ q B cs wb s i d m g N w h1 h2 h3 h4 h5 h6 h7=>K6 n IH q B cs wb s i d m g N w h1 h2 h3 h4 h5 h6 h7
  brace:=λ q cs pb s i d w h1 h2 h3 h4 h5 h6 h7=>DC n IH q cs pb s i d w h1 h2 h3 h4 h5 h6 h7
  br:=λ q cs s i d w h1 h2 h3 h4 h5=>NT n IH q cs s i d w h1 h2 h3 h4 h5 }
theorem oN (c:UInt8):∀l:List UInt8,l.contains c=(bX c l).isSome
 | []=>rfl
 | x::t=>by
  show (c==x || t.contains c)=_;unfold bX;rw [oN c t];by_cases h:x=c
  ·rw [nE (nH.2 h),h];simp
  ·rw [nF (λ e=>h (nH.1 e)),show (c==x)=false from nA.2 (Ne.symm h),Bool.false_or];cases bX c t<;>rfl
theorem FX (s:ByteArray) (w:World) (hs:s.size≤140737488351232) :
 Calls Tryz.prog 82 #[s] w λ e w'=>e=.returned (.int .i64 (jp s.data.toList:Nat))∧w'=w:=by
 obtain⟨r,hr⟩:∃r,r=jp s.data.toList:=⟨_,rfl⟩;rw [←hr];unfold jp at hr;rw [←nT,oN] at hr;by_cases h1:16384<s.size
 ·rw [nE h1] at hr;have YS:(16384:Int)<(s.size:Int):=oM
  clear h1;subst hr;go_enter Tryz.func82,Tryz.ntmps82;exact xY
 ·rw [nF h1] at hr;have YS:¬(16384:Int)<(s.size:Int):=oM
  clear h1;cases hu:bX 0 s.data.toList with
  | none=>
   rw [hu] at hr;have hn:=pj hu;clear hu;have dU:r=0:=hr;exact PK
  | some k=>
   rw [hu] at hr;have hn:=(lU hu).1;clear hu;have dU:r=2:=hr;exact PK
theorem jN (c:UInt8):xX ⟨#[32,9]⟩ c=(c==32 || c==9):=by
 have h:∀n:Fin 256,xX ⟨#[32,9]⟩ (UInt8.ofNat n.val)=(UInt8.ofNat n.val==32 || UInt8.ofNat n.val==9):=by decide +kernel
 exact BH
theorem xj:∀l:List UInt8,bU true l=match bX 10 l with | none=>[] | some k=>l.drop k
 | []=>rfl
 | c::t=>by
  unfold bU bX;by_cases h:c=10
  ·rw [nE (nH.2 h),nE (nH.2 h)];rfl
  ·rw [nF (λ e=>h (nH.1 e)),nF (λ e=>h (nH.1 e)),xj t];cases bX 10 t<;>rfl
theorem dB (c:UInt8) (t:List UInt8):bU false (c::t)=if c==32 || c==9 then bU false t
 else if c==35 then bU true t
 else if c==92 then (match t with
  | []=>c::t
  | x::t'=>if x==10 then bU false t' else c::t)
 else c::t:=by rw [bU.eq_def];rfl
theorem uh {c:UInt8}:∀{l:List UInt8} {k:Nat},bX c l=some k→l[k]? = some c
 | [],k,h=>by cases h
 | x::t,k,h=>by
  unfold bX at h;by_cases e:x=c
  ·rw [nE (nH.2 e)] at h;obtain rfl:0=k:=nD h;rw [e];rfl
  ·rw [nF (λ h=>e (nH.1 h))] at h;cases h2:bX c t with
   | none=>rw [h2] at h;cases h
   | some j=>
    rw [h2] at h;obtain rfl:j+1=k:=nD h;have:=uh h2;simpa using this
theorem Iz (s:ByteArray) (i k:Nat):(rest s i)[k]? = s.data.toList[i+k]?:=by
 unfold rest;rw [List.getElem?_drop]
theorem IJ {s:ByteArray} {j:Nat} (h:s.data.toList[j]? = some 10):rest s j=bU false (rest s j):=by
 have hj:j<s.size:=by rw [nT];exact (List.getElem?_eq_some_iff.1 h).1
 have hb:au s j=10:=by unfold au;rw [List.getD_eq_getElem?_getD,h];rfl
 rw [ak hj,hb,dB,nF dC,nF dC,nF dC]
def J9 (w:World) (b:Nat) (s:ByteArray) (i:Nat) (d:Int) (e:Ending) (w':World):Prop:=
 e=.returned (.tuple #[])∧∃j:Nat,i≤j∧j≤s.size∧rest s j=bU false (rest s i)∧ah w' b s j d∧ae (λ k=>k=b) w w'
theorem CL (b:Nat) (s:ByteArray) (i:Nat) (d:Int) (w:World) (h:ah w b s i d) (hs:s.size≤140737488351000) (hi:i≤s.size) :
 Calls Tryz.prog 85 #[.pointer (some ⟨b,0,none⟩)] w (J9 w b s i d):=by
 go_enter Tryz.func85,Tryz.ntmps85;go_wp2_with fail;go_loopg [] (s.size+2 - i) (λ k wr=>∃I:Nat,k=s.size+2 - I∧i≤I∧I≤s.size∧ah wr b s I d∧ae (λ k=>k=b) w wr∧bU false (rest s I)=bU false (rest s i))
 case atStart=>exact⟨i,rfl,nC _,hi,h,ae.refl _ _,rfl⟩
 case round=>
  obtain⟨I,eH,mI,hI,eY,pS,TF⟩:=hrel;have fK:=Hd eH;have cK:=Hd eY;have rt:=Hd pS;have J3:=Hd TF;clear eH eY pS TF h;rcases nP I s.size with aW | lv
  ·obtain⟨c,hc⟩:∃c,c=au s I:=⟨_,rfl⟩;have i7:=dB c (rest s (I+1));rw [hc,←ak aW,←hc] at i7;have HC:=Hd hc;clear hc;cases t1:(c==32 || c==9) with
   | true=>
    rw [t1,nE rfl] at i7;have HN:=Hd (i7.symm.trans J3.o);have HT:=Hd t1;obtain⟨c0,c1,c2,f1,f2⟩:=cK.o.cells;have U6:IntKind.i64.wrap ((I:Int)+1)=(I:Int)+1:=nL _ oM;clear i7 t1;go_wp2_with fail;refine (gi b s _ I d _ cK.o oM aW true (by rw [jN,←HC.o];exact HT.o)).mono ?_;rintro e w1 ⟨rfl,q1,rfl⟩;go_wp2_with fail;obtain⟨w2,aQ,cj,aS⟩:=cD (n:=q1) cK.o ((I:Int)+1)
    rw [←aQ];go_roundg (s.size+2 - (I+1))
    case measure=>have:=fK.o;omega
    case rel=>exact⟨I+1,rfl,oM,oM,cj,rt.o.trans aS (λ x _ hx=>hx),HN.o⟩
   | false=>
    rw [t1,nF sI] at i7;have HT:=Hd t1;clear t1;cases t2:aI [92,10] (rest s I) with
    | true=>
     have hl2:=nu t2;rw [aO] at hl2;have qB:I+2≤s.size:=by simp only [lC,lN] at hl2;omega
     have hn:bU false (rest s (I+2))=bU false (rest s I):=by
      rw [i7];rw [ak aW,←HC.o,ak (show I+1<s.size by omega)] at t2;have t3:(92==c && (10==au s (I+1) && true))=true:=t2;simp only [nW,nH,Bool.and_true] at t3;obtain⟨rfl,Tg⟩:=t3;rw [nF dC,nE dC,ak (show I+1<s.size by omega),←Tg];rfl
     have HN:=Hd (hn.trans J3.o);have H2:=Hd t2;clear i7 t2 hn hl2;go_wp2_with fail;refine (gi b s _ I d _ cK.o oM aW false (by rw [jN,←HC.o];exact HT.o)).mono ?_;rintro e w1 ⟨rfl,q1,rfl⟩;go_wp2_with fail;refine (kq b s ⟨#[92,10]⟩ I d _ (cK.o.drewN q1) oM hI dC (by rw [aq];exact H2.o)).mono ?_;rintro e w1 ⟨rfl,dL,bt⟩;have kn:=(rt.o.drewN q1).trans bt (λ x _ hx=>hx)
     go_wp2_with fail;go_roundg (s.size+2 - (I+2))
     case measure=>have:=fK.o;omega
     case rel=>exact⟨I+2,rfl,oM,qB,dL,kn,HN.o⟩
    | false=>
     have H2:=Hd t2;by_cases t3:c=35
     ·rw [nE (nH.2 t3)] at i7;rw [xj] at i7;have e3:((c.toNat:Int)==35)=true:=aE (c:=c) (k:=35) t3;have hu:bX 10 (rest s I)=(bX 10 (rest s (I+1))).map (· + 1):=by
       rw [ak aW,←HC.o,t3];rfl
      clear t2;cases Tg:bX 10 (rest s (I+1)) with
      | none=>
       rw [Tg] at hu i7;have hn2:=pj hu;rw [←kN] at hn2;have HN:=Hd (show bU false (rest s s.size)=bU false (rest s i) by rw [aX (nC _),←J3.o,i7];rfl);have U6:IntKind.i64.wrap ((s.size:Int) - (I:Int))=(s.size:Int) - (I:Int):=nL _ oM;have a1:(I:Int)+((s.size:Int) - (I:Int))=(s.size:Int):=oM
       have w3e:IntKind.i64.wrap (s.size:Int)=(s.size:Int):=nL _ oM;clear hu i7 Tg t3;go_wp2_with fail;refine (gi b s _ I d _ cK.o oM aW false (by rw [jN,←HC.o];exact HT.o)).mono ?_;rintro e w1 ⟨rfl,q1,rfl⟩;go_wp2_with fail;refine (gkz b s ⟨#[92,10]⟩ I d _ (cK.o.drewN q1) hI (by rw [aq];exact H2.o)).mono ?_;rintro e w1 ⟨rfl,q2,rfl⟩
       go_wp2_with fail;refine (cB b s I d _ (cK.o.drewN _) oM oM).mono ?_;rintro e w1 ⟨rfl,q3,rfl⟩;rw [←HC.o];go_wp2_with fail;obtain⟨W,hW⟩:∃W,W=wr.drewN (q1+q2+q3):=⟨_,rfl⟩;rw [←hW];have oo:ah W b s I d:=by rw [hW];exact cK.o.drewN _
       have dO:=Hd (show ae (λ k=>k=b) w W by rw [hW];exact rt.o.drewN _);have Na:=Hd oo;obtain⟨c0,c1,c2,f1,f2⟩:=oo.cells;clear hW oo;go_quiet ((go_at_call 78;exact nX (Tryz.strings_IndexByte _ _ _)));go_wp2_with fail;go_quiet (fail);go_wp2_with fail;go_roundg (s.size+2 - s.size)
       case measure=>have:=fK.o;omega
       case rel=>exact⟨s.size,rfl,hi,nC _,gx Na.o _ rfl,dO.o.trans (jU _ _ _ _ _) (λ x _ hx=>hx),HN.o⟩
      | some k=>
       rw [Tg] at hu i7;obtain⟨hn2,hk⟩:=lU hu;rw [aO] at hk;have Ly:k+1<s.size - I:=hk;clear hk;have hk:=Ly;rw [←kN] at hn2;have HN:=Hd (show bU false (rest s (I+(k+1)))=bU false (rest s i) by
        rw [←J3.o,i7];dsimp only;rw [b8,show I+1+k=I+(k+1) by omega];have h2:=uh Tg;rw [Iz,show I+1+k=I+(k+1) by omega] at h2;exact (IJ h2).symm)
       have U6:IntKind.i64.wrap ((I:Int)+((k:Int)+1))=(I:Int)+((k:Int)+1):=nL _ oM;clear hu i7 Tg t3;go_wp2_with fail;refine (gi b s _ I d _ cK.o oM aW false (by rw [jN,←HC.o];exact HT.o)).mono ?_;rintro e w1 ⟨rfl,q1,rfl⟩;go_wp2_with fail;refine (gkz b s ⟨#[92,10]⟩ I d _ (cK.o.drewN q1) hI (by rw [aq];exact H2.o)).mono ?_
       rintro e w1 ⟨rfl,q2,rfl⟩;go_wp2_with fail;refine (cB b s I d _ (cK.o.drewN _) oM oM).mono ?_;rintro e w1 ⟨rfl,q3,rfl⟩;rw [←HC.o];go_wp2_with fail;obtain⟨W,hW⟩:∃W,W=wr.drewN (q1+q2+q3):=⟨_,rfl⟩;rw [←hW];have oo:ah W b s I d:=by rw [hW];exact cK.o.drewN _
       have dO:=Hd (show ae (λ k=>k=b) w W by rw [hW];exact rt.o.drewN _);have Na:=Hd oo;obtain⟨c0,c1,c2,f1,f2⟩:=oo.cells;clear hW oo;go_quiet ((go_at_call 78;exact nX (Tryz.strings_IndexByte _ _ _)));go_wp2_with fail;go_roundg (s.size+2 - (I+(k+1)))
       case measure=>have:=fK.o;omega
       case rel=>exact⟨I+(k+1),rfl,oM,oM,gx Na.o _ oM,dO.o.trans (jU _ _ _ _ _) (λ x _ hx=>hx),HN.o⟩
     ·rw [nF (λ h=>t3 (nH.1 h))] at i7;have e3:((c.toNat:Int)==35)=false:=aw (c:=c) (k:=35) t3;have cm:rest s I=bU false (rest s i):=by
       rw [←J3.o,i7,ak aW,←HC.o];rw [ak aW,←HC.o] at t2;split
       ·next G3=>
        have aaW:=nH.1 G3;subst aaW;cases hr:rest s (I+1) with
        | nil=>rfl
        | cons x t'=>
         rw [hr] at t2;have t4:(92==(92:UInt8) && (10==x && true))=false:=t2;simp only [beq_self_eq_true,Bool.true_and,Bool.and_true] at t4;dsimp only;rw [nF (by rw [nH];rw [nA] at t4;exact λ h=>t4 h.symm)]
       ·rfl
      have HF:=Hd cm;clear t2 t3 i7 cm;go_wp2_with fail;refine (gi b s _ I d _ cK.o oM aW false (by rw [jN,←HC.o];exact HT.o)).mono ?_;rintro e w1 ⟨rfl,q1,rfl⟩;go_wp2_with fail;refine (gkz b s ⟨#[92,10]⟩ I d _ (cK.o.drewN q1) hI (by rw [aq];exact H2.o)).mono ?_;rintro e w1 ⟨rfl,q2,rfl⟩;go_wp2_with fail;refine (cB b s I d _ (cK.o.drewN _) oM oM).mono ?_
      rintro e w1 ⟨rfl,q3,rfl⟩;rw [←HC.o];exact Qz
  ·have cm:rest s I=bU false (rest s i):=by rw [←J3.o,aX lv];rfl
   have HF:=Hd cm;have XW:aI [92,10] (rest s I)=false:=by rw [aX lv];rfl
   have H2:=Hd XW;have hz:au s I=0:=by rw [lI,aX lv];rfl
   have HZ:=Hd hz;clear cm XW hz;go_wp2_with fail;refine (yC b s _ I d _ cK.o lv).mono ?_;rintro e w1 ⟨rfl,q1,rfl⟩;go_wp2_with fail;refine (gkz b s ⟨#[92,10]⟩ I d _ (cK.o.drewN q1) hI (by rw [aq];exact H2.o)).mono ?_;rintro e w1 ⟨rfl,q2,rfl⟩;go_wp2_with fail;refine (cB b s I d _ (cK.o.drewN _) oM oM).mono ?_;rintro e w1 ⟨rfl,q3,rfl⟩;rw [HZ.o]
   exact Qz
def ed (r:List UInt8):Except Nat (Tk×List UInt8):=
 if (dg r).isEmpty then
  if aP 38 r then .error 2 else match i9 false (r.length+1) r with
  | .error e=>.error e
  | .ok (l,r1)=>.ok (⟨1,[],eh l⟩,r1)
 else .ok (⟨2,dg r,[]⟩,r.drop (dg r).length)
theorem Pa (n:Nat) (r:List UInt8):nz (n+1) r=match bU false r with
 | []=>.ok []
 | c::t=>
  if (dg (c::t)).isEmpty then
   if c==38 then .error 2 else match i9 false ((c::t).length+1) (c::t) with
   | .error e=>.error e
   | .ok (l,r1)=>oL ⟨1,[],eh l⟩ (nz n r1)
  else oL ⟨2,dg (c::t),[]⟩ (nz n ((c::t).drop (dg (c::t)).length)):=rfl
theorem mC (n:Nat) (r:List UInt8):nz (n+1) r=match bU false r with
 | []=>.ok []
 | c::t=>match ed (c::t) with
  | .error e=>.error e
  | .ok (x,r1)=>oL x (nz n r1):=by
 rw [Pa];cases bU false r with
 | nil=>rfl
 | cons c t=>
  dsimp only;unfold ed;by_cases h:(dg (c::t)).isEmpty=true
  ·rw [nE h,nE h];by_cases h2:(c==38)=true
   ·rw [nE h2,nE (show aP 38 (c::t)=true from h2)]
   ·rw [nF h2,nF (show ¬aP 38 (c::t)=true from h2)];cases i9 false ((c::t).length+1) (c::t) with
    | error e=>rfl
    | ok lr=>obtain⟨l,r1⟩:=lr;rfl
  ·rw [nF h,nF h]
theorem tA (c:UInt8):xX ⟨#[32,9,10,59,38,124,40,41,60,62]⟩ c=bY c:=by
 have h:∀n:Fin 256,xX ⟨#[32,9,10,59,38,124,40,41,60,62]⟩ (UInt8.ofNat n.val)=bY (UInt8.ofNat n.val):=by decide +kernel
 exact BH
theorem wM (l:List UInt8):(dg l).length≤l.length:=BT _ l
theorem af.three {w:World} {b:Nat} {a0 a1 a2:Value} (h:af w b [a0,a1,a2]) :
 (w.cell? ⟨b,0,none⟩=some a0∧w.cell? ⟨b,1,none⟩=some a1∧w.cell? ⟨b,2,none⟩=some a2)∧
 (w.frozen? ⟨b,0,none⟩=false∧w.frozen? ⟨b,1,none⟩=false∧w.frozen? ⟨b,2,none⟩=false):=by
 obtain⟨T,h⟩:=h;refine⟨⟨?_,?_,?_⟩,?_,?_,?_⟩<;>simp [World.cell?,World.frozen?,h]
theorem nr (w:World) (b:Nat) (u0 u1 u2:Value):ae (λ x=>x=b) w (((w.setCell ⟨b,0,none⟩ u0).setCell ⟨b,1,none⟩ u1).setCell ⟨b,2,none⟩ u2):=by
 have h0:=(ae.refl (λ x=>x=b) w).set1 0 u0 rfl;have h1:=h0.set1 1 u1 rfl;exact h1.set1 2 u2 rfl
def uR (w:World) (cs:Nat) (s:ByteArray) (res:Except Nat (Tk×List UInt8)) (e:Ending) (w':World):Prop:=
 match res with
 | .ok (tk,r)=>∃(i' n:Nat) (T:ByteArray) (v:Value),e=.returned (.agg #[.int .i64 (tk.kind:Nat),.string T,v])∧T.data.toList=tk.text∧i'≤s.size∧rest s i'=r∧ah w' cs s i' ((0:Nat):Int)∧az w' (λ b=>w.heap.size≤b) n tk.word v∧ae (λ b=>b=cs) w w'
 | .error x=>e=sQ x∧ae (λ b=>b=cs) w w'
theorem fI (wh:Bool) (n:Nat) (r:List UInt8):i9 wh (n+1) r=match r with
 | []=>.ok ([],[])
 | c::_=>if !wh && bY c then .ok ([],r) else match bN (2*r.length+2) (.one false) 0 r with
  | .error e=>.error e
  | .ok (l,r1)=>(i9 wh n r1).ahead l:=by cases r<;>rfl
def aaL (wh:Bool) (n:Nat) (r0:List UInt8) (m:Nat) (l:List Pt) (r:List UInt8):Prop:=i9 wh n r0=(i9 wh m r).ahead l
theorem zF (cs:Nat) (s:ByteArray) (i:Nat) (w:World) (eY:ah w cs s i ((0:Nat):Int)) (hi:i<s.size) (hs:s.size≤20000) :
 Calls Tryz.prog 87 #[.pointer (some ⟨cs,0,none⟩)] w (uR w cs s (ed (rest s i))):=by
 obtain⟨res,ag⟩:∃res,res=ed (rest s i):=⟨_,rfl⟩;rw [←ag];unfold ed at ag;have cK:=Hd eY;have Tv:=eY.lt;have ay:=Hd ag;clear eY ag;go_enter Tryz.func87,Tryz.ntmps87;go_wp2_with fail;obtain⟨w0,Hk⟩:∃w0,w0=w.alloc (.cells #[.int .i64 0,eS,()] 109):=⟨_,rfl⟩;rw [←Hk];have dt:ae (λ b=>b=cs) w w0:=by rw [Hk];exact (ae.refl _ _).alloc _
 have hs0:ah w0 cs s i ((0:Nat):Int):=by rw [Hk];exact cK.o.alloc _
 have ht0:af w0 w.heap.size [.int .i64 0,eS,()]:=by rw [Hk];exact⟨_,nG w _⟩
 refine (AW cs s i ((0:Nat):Int) _ hs0 oM oM).mono ?_;rintro e w1 ⟨O,rfl,hO,dL,bt⟩;have Bj:=Hd (ht0.keep bt (λ h=>oM));have dp:=Hd (dt.trans bt (λ_ _ e=>e));have dF:=Hd dL;have HO:=Hd hO;clear Hk dt hs0 ht0 hO dL bt;by_cases ho:dg (rest s i)=[]
 ·obtain⟨t1,t2⟩:=eN (s:=O) (HO.o.trans ho);have hr:=ay.o;rw [ho,nE rF] at hr;have dL:=dF.o;rw [ho] at dL;have M9:=Hd (show ah w1 cs s i ((0:Nat):Int) from dL);have ZJ:=Hd Bj.o.lt;clear ho dL;rw [ak hi] at hr;obtain⟨c,hc⟩:∃c,c=au s i:=⟨_,rfl⟩;rw [←hc] at hr;by_cases t:c=38
  ·rw [nE (show aP 38 (c::rest s (i+1))=true by rw [t];rfl)] at hr;have e1:((c.toNat:Int)==38)=true:=aE (c:=c) (k:=38) t;have HR:=Hd hr;have HC:=Hd hc;clear hr hc t;go_wp2_with fail;refine (cB cs s i _ _ M9.o oM oM).mono ?_;rintro e w2 ⟨rfl,q1,rfl⟩;rw [←HC.o];go_wp2_with fail;refine (fQ 2 _).mono ?_;rintro e w2 ⟨rfl,rfl⟩;go_wp2_with fail;refine⟨rfl,?_⟩
   rw [HR.o];exact⟨rfl,dp.o.drewN _⟩
  ·rw [nF (show ¬aP 38 (c::rest s (i+1))=true from λ h=>t (nH.1 h)),hc,←ak hi,aO] at hr;have e1:((c.toNat:Int)==38)=false:=aw (c:=c) (k:=38) t;have HR:=Hd hr;have HC:=Hd hc;clear hr hc t;go_wp2_with fail;refine (cB cs s i _ _ M9.o oM oM).mono ?_;rintro e w2 ⟨rfl,q1,rfl⟩;rw [←HC.o];obtain⟨W,hW⟩:∃W,W=w1.drewN q1:=⟨_,rfl⟩;rw [←hW];have eG:K0 w1 W:=by rw [hW];exact (ae.refl _ _).drewN _
   have Na:=Hd (M9.o.keep eG (λ h=>h));have HTW:=Hd (Bj.o.keep eG (λ h=>h));have dO:=Hd (dp.o.trans eG (λ_ _ h=>h.elim));clear hW eG Bj dp M9 dF ZJ;go_wp2_with fail;have abJ:=Na.o.lt;go_loopg [] (s.size+2 - i) (λ k wr=>∃(I M:Nat) (l:List Pt) (g':Option Nat),k=s.size+2 - I∧I≤s.size∧ah wr cs s I ((0:Nat):Int)∧ml wr W.heap.size cs W.heap.size g' (l.foldl cd ([],false)) (2*I)∧jL (W.alloc (.cells #[()] 148)) none g'∧ae (Fp cs W.heap.size none) (W.alloc (.cells #[()] 148)) wr∧s.size - I+1≤M∧aaL false (s.size - i+1) (rest s i) M l (rest s I))
   case atStart=>exact⟨i,s.size - i+1,[],none,rfl,oM,Na.o.alloc _,(ml.new _ abJ).mono (nB _),jL.refl _ _,ae.refl _ _,nC _,(sM _).symm⟩
   case round=>
    obtain⟨I,M,l,g',eH,hI,eY,Lu,Rv,pS,hMn,bf⟩:=hrel;have fK:=Hd eH;have jZ:=Hd eY;have M5:=Hd Lu;have I5:=Hd Rv;have zT:=Hd pS;obtain⟨M,rfl⟩:∃M',M=M'+1:=⟨M - 1,oM⟩;have D4:i9 false (s.size - i+1) (rest s i)=(i9 false (M+1) (rest s I)).ahead l:=bf;have hr:res=match (i9 false (M+1) (rest s I)).ahead l with
     | .error e=>.error e
     | .ok (l,r1)=>.ok (⟨1,[],eh l⟩,r1):=by rw [HR.o,D4]
    have kP:=Hd D4;clear eH eY Lu Rv pS bf D4;rcases nP I s.size with aW | lv
    ·obtain⟨c2,tN⟩:∃c,c=au s I:=⟨_,rfl⟩;have he:decide (s.size≤I)=false:=nV oM;have HE:=Hd he;rw [fI,ak aW,←tN] at hr;dsimp only at hr;have Um:=Hd tN;clear he;cases hb:bY c2 with
     | true=>
      rw [hb,nE rF,tN,←ak aW] at hr;have R3:=Hd hb;have bO:=Hd (show res=.ok (⟨1,[],lq (l.foldl cd ([],false))⟩,rest s I) by rw [hr];show (Except.ok ((⟨1,[],eh (l++[])⟩:Tk),_):Except Nat (Tk×List UInt8))=_;rw [List.append_nil];rfl);clear hr hb tN;go_wp2_with fail;refine (dT cs s I _ _ jZ.o).mono ?_;rintro e w2 ⟨rfl,q2,rfl⟩;rw [HE.o];go_wp2_with fail;refine (gi cs s _ I _ _ (jZ.o.drewN _) oM aW true (by rw [tA,←Um.o];exact R3.o)).mono ?_
      rintro e w2 ⟨rfl,q3,rfl⟩;go_wp2_with fail;have kn:ae (λ b=>b=cs) wr (wr.drewN (q2+q3)):=(ae.refl _ _).drewN _;have kQ:=Hd (M5.o.keep kn (λ_ _ e=>e));have gS:=Hd (jZ.o.drewN (q2+q3));exact V5
     | false=>
      rw [hb,nF sI,tN,←ak aW,aO] at hr;have R3:=Hd hb;have ot:=Hd hr;clear hr hb tN;go_wp2_with fail;refine (dT cs s I _ _ jZ.o).mono ?_;rintro e w2 ⟨rfl,q2,rfl⟩;rw [HE.o];go_wp2_with fail;refine (gi cs s _ I _ _ (jZ.o.drewN _) oM aW false (by rw [tA,←Um.o];exact R3.o)).mono ?_;rintro e w2 ⟨rfl,q3,rfl⟩;go_wp2_with fail;have kn:ae (λ b=>b=cs) wr (wr.drewN (q2+q3)):=(ae.refl _ _).drewN _
      refine ((aaP (2*(s.size - I)+2)).out W.heap.size cs W.heap.size s I 0 g' _ _ (jZ.o.drewN (q2+q3)) aW oM hs (M5.o.keep kn (λ_ _ e=>e)) oM).mono ?_;intro e w3 hp;have cm:=iv hp kn;clear kn hp;cases bM:bN (2*(s.size - I)+2) (.one false) 0 (rest s I) with
      | error x=>
       rw [bM] at cm;have dU:=ot.o;rw [bM] at dU;have bO:=Hd (show res=.error x from dU);obtain⟨he,bi⟩:=cm;subst he;have fL:=Hd (dO.o.trans (sR (zT.o.next I5.o bi)) (λ_ _ e=>e));clear bM dU bi;go_wp2_with fail;refine⟨rfl,?_⟩;rw [bO.o];exact⟨rfl,fL.o⟩
      | ok lr=>
       obtain⟨l2,r2⟩:=lr;rw [bM] at cm;have bS:=cS _ _ _ _ _ _ bM;have jQ:=kP.o;rw [fI false M,ak aW,←Um.o] at jQ
       try dsimp only at jQ
       rw [R3.o,nF sI,Um.o,←ak aW,aO,bM] at jQ
       try dsimp only at jQ
       rw [jM] at jQ;obtain⟨he,I2,g2,a1,a2,a3,a4,a5,a6⟩:=cm;subst he;rw [←a2,aO,aO] at bS;rw [←a2] at jQ;have JI:=Hd jQ;have eF:=Hd a3;have Pg:=Hd a4;have Pm:=Hd a5;have bZ:=Hd a6;have LB:I+1≤I2:=by simp only [Md.least] at bS;omega
       clear bM jQ a2 a3 a4 a5 a6 bS;go_wp2_with fail;go_roundg (s.size+2 - I2)
       case measure=>have:=fK.o;omega
       case rel=>exact⟨I2,M,l++l2,g2,rfl,a1,eF.o,by rw [List.foldl_append];exact Pg.o,I5.o.trans zT.o.size Pm.o,zT.o.next I5.o bZ.o,oM,JI.o⟩
    ·have he:decide (s.size≤I)=true:=nU lv;have HE:=Hd he;rw [fI,aX lv] at hr;have bO:=Hd (show res=.ok (⟨1,[],lq (l.foldl cd ([],false))⟩,rest s I) by rw [hr,aX lv];show (Except.ok ((⟨1,[],eh (l++[])⟩:Tk),_):Except Nat (Tk×List UInt8))=_;rw [List.append_nil];rfl);clear hr he;go_wp2_with fail;refine (dT cs s I _ _ jZ.o).mono ?_;rintro e w2 ⟨rfl,q2,rfl⟩
     rw [HE.o];go_wp2_with fail;have kn:ae (λ b=>b=cs) wr (wr.drewN q2):=(ae.refl _ _).drewN _;have kQ:=Hd (M5.o.keep kn (λ_ _ e=>e));have gS:=Hd (jZ.o.drewN q2);exact V5
 ·obtain⟨t1,t2⟩:=fd (s:=O) (by rw [HO.o];exact ho);obtain⟨⟨c0,c1,c2⟩,f0,f1,f2⟩:=Bj.o.three;have tS:(dg (rest s i)).isEmpty=false:=by cases hx:dg (rest s i) with | nil=>exact nQ hx ho | cons a b=>rfl
  have hr:=ay.o;rw [tS,nF sI,b8] at hr;have HR:=Hd hr;have XU:=wM (rest s i);rw [aO] at XU;have UN:i+(dg (rest s i)).length≤s.size:=oM
  clear ho tS hr XU;go_wp2_with fail;refine nJ (v:=.agg #[.int .i64 2,O,()]) (by simp [results,Tryz.results87,go_sem,c0,c1,c2]) rfl ?_;show uR w cs s res _ _;rw [HR.o];have aV:=nr w1 w.heap.size (.int .i64 2) (.string O) (.slice none 0 0);exact⟨i+(dg (rest s i)).length,0,O,.slice none 0 0,rfl,HO.o,UN,rfl,dF.o.keep aV (λ h=>oM),az.nil _ _ 0,pE dp.o rfl aV⟩
theorem DI (x:Nat) (w:World) :
 Calls Tryz.prog 84 #[.iface 143 (.agg #[x])] w λ e w'=>e=.returned (.int .i64 x)∧w'=w.alloc (.cells #[x] 143):=by
 have ha:∀(v:Value) (W:World),(Instr.typeAssert (.iface 143 v) 20 143 true).run Tryz.prog W=.ok (.tuple #[v,.bool true]) W:=λ v W=>kR
 go_enter Tryz.func84,Tryz.ntmps84;exact xY
theorem xx (p q:Addr) (w:World) :
 CallsD Tryz.prog 83 #[.pointer (some p),.pointer (some q)] .returning w λ e u' w'=>e=.returned (.tuple #[])∧u'=.returning∧w'=w:=by
 refine callsD_of_wpS Tryz.func83 rfl λ c₀ cs hu=>?_;apply wpS_seq;apply wpS_region;simp [wpOpsS,go_sem,recoverD,hu,Tryz.ntmps83,Exit.thenS];apply wpS_seq;apply wpS_region;simp [wpOpsS,go_sem,Exit.thenS];refine wpS_cond (t:=false) (by simp [Act.eval,Array.replicate]) ?_;simp only [Bool.false_eq_true,if_false];refine wpS_of_wp (wp_skip ?_);cases c₀
 simp_all [bodyPostS,results,Tryz.results83]
theorem IS (a b:Nat) (x:Nat) (u0 u1:Value) (Ck:List PanicEntry) (w:World) (hp:w.cell? ⟨a,0,none⟩=some u0) (hq:w.cell? ⟨b,0,none⟩=some u1) (hpf:w.frozen? ⟨a,0,none⟩=false) (hqf:w.frozen? ⟨b,0,none⟩=false) (hpq:a≠b) (la:a<w.heap.size) (lb:b<w.heap.size) :
 CallsD Tryz.prog 83 #[.pointer (some ⟨a,0,none⟩),.pointer (some ⟨b,0,none⟩)] (.panicking ({ v:=.iface 143 (.agg #[x]),recovered:=false }::Ck)) w λ e u' w'=>
  e=.returned (.tuple #[])∧u'=.panicking ({ v:=.iface 143 (.agg #[x]),recovered:=true }::Ck)∧w'=((w.setCell ⟨a,0,none⟩ (.slice none 0 0)).setCell ⟨b,0,none⟩ (.int .i64 x)).alloc (.cells #[x] 143):=by
 refine callsD_of_wpS Tryz.func83 rfl λ c₀ cs hu=>?_;apply wpS_seq;apply wpS_region;simp [wpOpsS,go_sem,recoverD,hu,Tryz.ntmps83,Exit.thenS];apply wpS_seq;apply wpS_region;simp [wpOpsS,go_sem,Exit.thenS];refine wpS_cond (t:=true) (by simp [Act.eval,Array.replicate]) ?_;simp only [if_true];refine wpS_of_wp ?_;go_wp2_with fail;refine (DI x _).mono ?_;rintro e w1 ⟨rfl,dM⟩;subst dM;go_wp2_with fail
 cases c₀
 simp_all [bodyPostS,results,Tryz.results83]
theorem kV {l:List Pt} {vs:List Value} (hl:vs.length=l.length) {j:Nat} {u:Value} (h:(bg l vs)[j]? = some u):∃(i r:Nat) (hi:i<l.length),j=i*6+r∧(cH l[i] (vs[i]'oM))[r]? = some u:=by
 have hj:j<l.length*6:=by
  have:=(List.getElem?_eq_some_iff.1 h).1;rw [fw hl] at this;exact this
 have hi:j / 6<l.length:=oM
 have hr:j%6<(cH l[j / 6] (vs[j / 6]'oM)).length:=by rw [jh];exact Nat.mod_lt _ dC
 obtain⟨u',hu'⟩:∃u',(cH l[j / 6] (vs[j / 6]'oM))[j%6]? = some u':=⟨_,List.getElem?_eq_getElem hr⟩;have h2:=jg hl hi (j%6) u' hu';rw [show j / 6*6+j%6=j by omega,h] at h2;refine⟨j / 6,j%6,hi,oM,?_⟩;rw [hu',nD h2]
theorem GS (n c:Nat) (w:World) :
 Calls Tryz.prog 209 #[.slice none n c] w λ e w'=>e=.returned (.slice none 0 0)∧w'=w:=by
 have q32:∀(w:World) (a:OA) (n c n' c':Nat),(binOp .eql 29 (.slice a n c) (.slice none n' c')).run Tryz.prog w=.ok (.bool a.isNone) w:=λ w a n c n' c'=>Lib.run_eql_slice_nil w _ _ a n c n' c' Tryz.underlying29;go_enter Tryz.func209,Tryz.ntmps209;exact xY
theorem vG (D:Nat→Prop) (k:Nat) (l:List Pt) (vs:List Value) (ad:Addr) (c:Nat) (w:World) (hl:vs.length=l.length) (bS:l.length≤1000000)
 (hc:∀j u,(bg l vs)[j]? = some u→w.cell? (ad.add j)=some u) (Ov:∀u∈bg l vs,u.oneCell'=true) :
 Calls Tryz.prog 209 #[.slice (some ad) l.length c] w λ e w'=>∃v',e=.returned v'∧w'.ownsRow w.heap.size 67 6 v' l.length (bg l vs)∧K0 w w':=by
 have q32:∀(w:World) (a:OA) (n c n' c':Nat),(binOp .eql 29 (.slice a n c) (.slice none n' c')).run Tryz.prog w=.ok (.bool a.isNone) w:=λ w a n c n' c'=>Lib.run_eql_slice_nil w _ _ a n c n' c' Tryz.underlying29;obtain⟨i0,fo,fC,fp,fq⟩:=info_parts ef;have yT:=bW;have HC:=Hd hc;have HO:=Hd Ov;obtain⟨L,hL⟩:∃L,L=l.length:=⟨_,rfl⟩;have mj:(bg l vs).length=L*6:=by rw [fw hl,hL]
 obtain⟨xs,oZ⟩:∃xs,xs=bg l vs:=⟨_,rfl⟩;rw [←oZ] at hc Ov mj;have HC:=Hd hc;have HO:=Hd Ov;have C0:=Hd mj;rw [←hL] at bS;rw [←oZ,←hL];clear hc Ov mj hL oZ hl;go_enter Tryz.func209,Tryz.ntmps209;go_wp2_with (at_builtin;refine wpList_append_own _ rfl _ _ 29 rfl w.heap.size 67 i0 _ 6 88 Tryz.underlying29 fo fC fp fq rfl dC _ _ _ rfl (World.ownsRow_made w #[] 0 (nC _) (nB _) rfl) ad L c xs rfl ?qc1 ?qc2 ?qc3 ?qc4 ?qc5 ?qc6 ?_)
 case qc1=>exact C0.o
 case qc2=>intro j u hj;exact Lib.cell?_alloc_some _ (HC.o j u hj)
 case qc3=>exact HO.o
 case qc4=>unfold maxLen;omega
 case qc5=>omega
 case qc6=>simp
 intro v' w1 aU ao Hf;go_wp2_with fail;go_ret;refine⟨v',rfl,by simpa using aU,?_⟩;exact ((ae.refl _ w).alloc _).grown ao (λ k hk oU=>by simp [Value.ownBlock] at hk;omega)
theorem wO {w:World} {B:Nat} {e:TypeId} {z n:Nat} {v:Value} {xs:List Value} (h:w.ownsRow B e z v n xs):w.ownsRow 0 e z v n xs∧∀g,v.ownBlock=some g→B≤g:=by
 obtain⟨h1,h2⟩:=h;rcases h2 with h2 | ⟨g,aC,x8,rfl,hb,hr⟩
 ·refine⟨⟨h1,.inl h2⟩,λ g hg=>?_⟩;rw [h2.1] at hg;cases hg
 ·exact⟨⟨h1,.inr ⟨g,aC,x8,rfl,nB _,hr⟩⟩,λ y hy=>by have h9:g=y:=nD hy;omega⟩
theorem GR (D:Nat→Prop) (n:Nat) (l:List Pt) (v:Value) (w:World) (h:az w D n l v) (bS:l.length≤1000000) :
 Calls Tryz.prog 209 #[v] w λ e w'=>∃v' n',e=.returned v'∧az w' (λ b=>D b∨w.heap.size≤b) n' l v'∧K0 w w':=by
 obtain⟨a,c,rfl,D7,tN,H⟩:=h.succ;cases a with
 | none=>
  have hl:l=[]:=by
   cases l with
   | nil=>rfl
   | cons x y=>
    obtain⟨g,o,wv,e,_⟩:=H 0 (Nat.succ_pos _);cases e
  subst hl;refine (GS _ c w).mono ?_;rintro e w' ⟨rfl,rfl⟩;exact⟨_,0,rfl,az.nil _ _ 0,ae.refl _ _⟩
 | some ad=>
  have Hw:∀i (hi:i<l.length),∃wv g o,some ad=some (⟨g,o,none⟩:Addr)∧g<w.heap.size∧D g∧ik w g (o+i*6) l[i] wv∧az w D n l[i].word wv:=λ i hi=>by
   obtain⟨g,o,wv,e⟩:=H i hi;exact⟨wv,g,o,e⟩
  obtain⟨vs,hl,yZ⟩:∃vs:List Value,vs.length=l.length∧∀i (hi:i<l.length) (ri:i<vs.length),∃g o,some ad=some (⟨g,o,none⟩:Addr)∧g<w.heap.size∧D g∧ik w g (o+i*6) l[i] vs[i]∧az w D n l[i].word vs[i]:=
   ⟨List.ofFn (λ i:Fin l.length=>Classical.choose (Hw i.1 i.2)),sI,λ i hi ri=>by
    have:=Classical.choose_spec (Hw i hi);simpa using this⟩
  refine (vG D n l vs ad c w hl bS (λ j u hj=>?_) (λ u hu=>?_)).mono ?_
  ·obtain⟨i,r,hi,rfl,hu⟩:=kV hl hj;obtain⟨g,o,e,_,_,hp,_⟩:=yZ i hi oM;obtain rfl:=nD e;have:=hp r u hu;rw [show o+i*6+r=o+(i*6+r) by omega] at this;rw [Addr.add_lit];exact this
  ·obtain⟨j,hj⟩:=List.mem_iff_getElem?.1 hu;obtain⟨i,r,hi,rfl,hu⟩:=kV hl hj;obtain⟨g,o,e,_,_,hp,hq⟩:=yZ i hi oM;obtain⟨a2,c2,e2,_,_⟩:=hq.shape;exact PN
  ·rintro e w' ⟨v',rfl,aU,hk⟩;obtain⟨oX,FM⟩:=wO aU;have hO:ey w' (λ b=>D b∨w.heap.size≤b) v' l:=⟨vs,n,hl,oX,λ i hi ri=>by
    obtain⟨g,o,e,_,_,hp,hq⟩:=yZ i hi ri;have h2:az w (λ b=>D b∧b<w.heap.size) n l[i].word vs[i]:=hq.mono λ b hb hd=>⟨hd,hb⟩;exact (h2.keep hk (λ_ _ _ h=>h)).mono λ b _ hd=>⟨.inl hd.1,λ e=>by have:=FM b e;omega⟩⟩
   obtain⟨m,hm⟩:=hO.reads (λ g hg=>.inr (FM g hg));exact⟨v',m,rfl,hm,hk⟩
def ve (w wr:World) (R:Nat):Prop:=∃T T',wr.heap[R]? = some (.cells #[()] T (0,0))∧wr.heap[R+1]? = some (.cells #[.int .i64 0] T' (0,0))
theorem ve.keep {w wr wr':World} {R:Nat} {S:Nat→Prop} (h:ve w wr R) (hk:ae S wr wr') (h0:¬S R) (h1:¬S (R+1)):ve w wr' R:=by
 obtain⟨T,T',a,b⟩:=h;exact⟨T,T',(hk.block R (Array.getElem?_eq_some_iff.1 a).1 h0).trans a,(hk.block (R+1) (Array.getElem?_eq_some_iff.1 b).1 h1).trans b⟩
theorem ve.cells {w wr:World} {R:Nat} (h:ve w wr R):wr.cell? ⟨R,0,none⟩=some (.slice none 0 0)∧wr.cell? ⟨R+1,0,none⟩=some (.int .i64 0)∧wr.frozen? ⟨R,0,none⟩=false∧wr.frozen? ⟨R+1,0,none⟩=false∧R+1<wr.heap.size:=by
 obtain⟨T,T',a,b⟩:=h;refine⟨?_,?_,?_,?_,(Array.getElem?_eq_some_iff.1 b).1⟩<;>simp [World.cell?,World.frozen?,a,b]
theorem af.one {w:World} {b:Nat} {a0:Value} (h:af w b [a0]):w.cell? ⟨b,0,none⟩=some a0∧w.frozen? ⟨b,0,none⟩=false:=by
 exact QN
theorem Mz (s:ByteArray):rest s 0=s.data.toList:=List.drop_zero
def kj (t:Tk) (v:Value):List Value:=[.int .i64 t.kind,dj t.text,v]
theorem vD (t:Tk) (v:Value):(kj t v).length=3:=rfl
def Fi (w:World) (b o:Nat) (t:Tk) (v:Value):Prop:=∀j u,(kj t v)[j]? = some u→w.cell? ⟨b,o+j,none⟩=some u
def fO (w:World) (D:Nat→Prop) (n:Nat) (l:List Tk) (v:Value):Prop:=
 ∃a c,v=.slice a l.length c∧l.length≤c∧c≤maxLen∧
  ∀i (h:i<l.length),∃b gQ wv,a=some ⟨b,gQ,none⟩∧b<w.heap.size∧D b∧Fi w b (gQ+i*3) l[i] wv∧az w D n l[i].word wv
theorem fO.keep {w w':World} {D S:Nat→Prop} (hk:ae S w w') (hD:∀b,b<w.heap.size→D b→¬S b) {n:Nat} {l:List Tk} {v:Value}:fO w D n l v→fO w' D n l v
 | ⟨a,c,h1,h2,h3,h⟩=>⟨a,c,h1,h2,h3,λ i hi=>by
  obtain⟨b,gQ,wv,e,hb,hd,hc,hw⟩:=h i hi;refine⟨b,gQ,wv,e,uG hb hk.size,hd,λ j u hu=>?_,az.keep hk hD hw⟩;rw [uH (hk.block b hb (hD b hb hd))];exact hc j u hu⟩
theorem fO.mono {w:World} {D D':Nat→Prop} (hD:∀b,b<w.heap.size→D b→D' b) {n:Nat} {l:List Tk} {v:Value}:fO w D n l v→fO w D' n l v
 | ⟨a,c,h1,h2,h3,h⟩=>⟨a,c,h1,h2,h3,λ i hi=>by
  obtain⟨b,gQ,wv,e,hb,hd,hc,hw⟩:=h i hi;exact⟨b,gQ,wv,e,hb,hD b hb hd,hc,az.mono hD hw⟩⟩
theorem fO.nil (w:World) (D:Nat→Prop) (n:Nat):fO w D n [] (.slice none 0 0):=⟨none,0,rfl,nC _,nB _,λ i hi=>nQ hi (uC _)⟩
theorem fO.le {w:World} {D:Nat→Prop} {n m:Nat} {l:List Tk} {v:Value} (hm:n≤m):fO w D n l v→fO w D m l v
 | ⟨a,c,h1,h2,h3,h⟩=>⟨a,c,h1,h2,h3,λ i hi=>by
  obtain⟨b,gQ,wv,e,hb,hd,hc,hw⟩:=h i hi;exact⟨b,gQ,wv,e,hb,hd,hc,hw.le hm⟩⟩
def fg:List Tk→List Value→List Value
 | p::l,v::vs=>kj p v++fg l vs
 | _,_=>[]
theorem mb:∀{l m:List Tk} {vs us:List Value},vs.length=l.length→fg (l++m) (vs++us)=fg l vs++fg m us
 | [],m,[],us,_=>rfl
 | p::l,m,v::vs,us,h=>by
  simp only [nZ,fg,mb (l:=l) (vs:=vs) (by simpa using h),aA]
theorem yP:∀{l:List Tk} {vs:List Value} {i:Nat} (h:vs.length=l.length) (hi:i<l.length) (j:Nat) (u:Value),(kj l[i] (vs[i]'oM))[j]? = some u→(fg l vs)[i*3+j]? = some u
 | p::l,v::vs,0,h,hi,j,u,hu=>by
  simp only [nN] at hu;rw [Nat.zero_mul,Nat.zero_add];simp only [fg];exact QD
 | p::l,v::vs,i+1,h,hi,j,u,hu=>by
  simp only [List.getElem_cons_succ] at hu;simp only [fg];rw [List.getElem?_append_right (by rw [vD];omega),vD,show (i+1)*3+j - 3=i*3+j by omega];exact yP (by simpa using h) (by simpa using hi) j u hu
def dW (w:World) (D:Nat→Prop) (v:Value) (raw:List Tk):Prop:=
 ∃vs n,vs.length=raw.length∧w.ownsRow 0 109 3 v raw.length (fg raw vs)∧
  ∀i (h:i<raw.length) (h':i<vs.length),az w (λ b=>D b∧v.ownBlock≠some b) n raw[i].word vs[i]
theorem dW.nil (w:World) (D:Nat→Prop):dW w D (.slice none 0 0) []:=
 ⟨[],0,rfl,World.ownsRow_nil _ _ _ _,λ i h=>nQ h (uC _)⟩
theorem dW.shape {w:World} {D:Nat→Prop} {v:Value} {raw:List Tk} (h:dW w D v raw):∃a c,v=.slice a raw.length c∧raw.length≤c∧c≤maxLen:=by
 obtain⟨vs,n,hl,ho,_⟩:=h;exact S6
theorem dW.lt {w:World} {D:Nat→Prop} {v:Value} {raw:List Tk} (h:dW w D v raw) {g:Nat} (hg:v.ownBlock=some g):g<w.heap.size:=by
 obtain⟨vs,n,hl,ho,_⟩:=h;exact (ho.lt g hg).2
theorem dW.keep {w w':World} {D S:Nat→Prop} {v:Value} {raw:List Tk} (h:dW w D v raw) (hk:ae S w w') (hD:∀b,b<w.heap.size→D b→¬S b) (hv:∀g,v.ownBlock=some g→¬S g):dW w' D v raw:=by
 exact Q3
theorem dW.reads {w:World} {D:Nat→Prop} {v:Value} {raw:List Tk} (h:dW w D v raw) (hD:∀g,v.ownBlock=some g→D g):∃n,fO w D n raw v:=by
 have hs:=h.shape;obtain⟨vs,n,hl,ho,hn⟩:=h;obtain⟨a,c,e,h1,h2⟩:=hs;subst e;refine⟨n,a,c,rfl,h1,h2,λ i hi=>?_⟩;rcases ho.2 with ⟨_,h0⟩ | ⟨g,aC,x8,e,_,hg,_⟩
 ·omega
 simp only [Value.slice.injEq] at e;obtain⟨rfl,_,rfl⟩:=e;refine⟨g,0,vs[i]'oM,rfl,(Array.getElem?_eq_some_iff.1 hg).1,hD g rfl,λ j u hu=>?_,(hn i hi oM).mono λ b _ hb=>hb.1⟩;have hj:j<3:=(List.getElem?_eq_some_iff.1 hu).1;rw [ho.cellAt _ oM,Nat.zero_add];exact yP hl hi j u hu
theorem BY {w w':World} {v v':Value} {B:Nat} {raw:List Tk} {x:Tk} {vs:List Value} {n m:Nat} {wv:Value} (hx:az w (λ b=>B≤b∧v.ownBlock≠some b) m x.word wv) (hl:vs.length=raw.length)
 (eD:∀i (h:i<raw.length) (h':i<vs.length),az w (λ b=>B≤b∧v.ownBlock≠some b) n raw[i].word vs[i])
 (aU:w'.ownsRow 0 109 3 v' (raw.length+1) (fg raw vs++kj x wv)) (hk:ae (λ b=>v.ownBlock=some b) w w')
 (hg:∀y,v'.ownBlock=some y→v.ownBlock=some y∨w.heap.size≤y) :
 dW w' (λ b=>B≤b) v' (raw++[x]):=by
 have gC:∀(k:Nat) (l:List Pt) (u:Value),az w (λ b=>B≤b∧v.ownBlock≠some b) k l u→az w' (λ b=>B≤b∧v'.ownBlock≠some b) k l u:=λ k l u h=>by
  have h2:az w (λ b=>(B≤b∧v.ownBlock≠some b)∧b<w.heap.size) k l u:=h.mono λ b hb hd=>⟨hd,hb⟩;refine (h2.keep hk (λ b _ hd s=>hd.1.2 s)).mono λ b _ hd=>⟨hd.1.1,λ e=>?_⟩;exact KO
 refine⟨vs++[wv],max n m,by simp [hl],?_,λ i h h'=>?_⟩
 ·rw [mb hl];simpa [fg] using aU
 ·by_cases hi:i<raw.length
  ·exact P6
  ·have fm:i=raw.length:=by simp at h;omega
   subst fm;exact PO
theorem vZ:(Tryz.prog.info? 109).map (λ i=>(i.zero,i.size,i.bytes))=some (some (.agg #[.int .i64 0,eS,()]),3,48):=kR
theorem dY:Tryz.prog.cellsOf 109=3:=kR
def i6 (l:List Tk):Except Nat (List Tk)→Except Nat (List Tk)
 | .error e=>.error e
 | .ok m=>.ok (l++m)
theorem px (r:Except Nat (List Tk)):i6 [] r=r:=by cases r<;>rfl
theorem qs (l:List Tk) (x:Tk) (r:Except Nat (List Tk)):i6 l (oL x r)=i6 (l++[x]) r:=by
 cases r with
 | error e=>rfl
 | ok m=>show Except.ok (l++(x::m))=Except.ok ((l++[x])++m);rw [aA];rfl
def MN (m:Nat) (r:List UInt8):Except Nat (List Tk):=match r with
 | []=>.ok []
 | c::t=>match ed (c::t) with
  | .error e=>.error e
  | .ok (x,r1)=>oL x (nz m r1)
theorem zE (n:Nat) (r:List UInt8):nz (n+1) r=MN n (bU false r):=by
 rw [mC];unfold MN;rfl
theorem tp (wh:Bool):∀(n:Nat) (r:List UInt8) (l:List Pt) (r1:List UInt8),i9 wh n r=.ok (l,r1)→r1.length≤r.length
 | 0,r,l,r1,h=>by cases h
 | n+1,[],l,r1,h=>by
  exact Fw
 | n+1,c::t,l,r1,h=>by
  rw [fI] at h;dsimp only at h;split at h
  ·exact Fw
  ·cases h2:bN (2*(c::t).length+2) (.one false) 0 (c::t) with
   | error e=>rw [h2] at h;cases h
   | ok x=>
    obtain⟨l2,r2⟩:=x;rw [h2] at h;obtain⟨m',h3,_⟩:=gY h;have h4:=cS _ _ _ _ _ _ h2;have h5:=tp wh n _ _ _ h3;omega
theorem yI (c:UInt8) (t:List UInt8) (ho:dg (c::t)=[]) (G2:c≠38) (Og:(c==32 || c==9)=false):bY c=false:=by
 cases hb:bY c with
 | false=>rfl
 | true=>
  exfalso;have h1:c=10∨c=59∨c=124∨c=40∨c=41∨c=60∨c=62:=by
   simp only [bY,Bool.or_eq_true,nH,Bool.or_eq_false_iff,nA] at hb Og;simp only [or_assoc] at hb;rcases hb with h | h | h | h | h | h | h | h | h | h<;>simp_all
  have h2:∀o∈f6,aI o (c::t)=true→o≠[]→dg (c::t)≠[]:=by
   intro o hm hs cM he;unfold dg eO at he;cases hf:f6.find? (λ o=>aI o (c::t)) with
   | none=>exact nQ hs (by simpa using List.find?_eq_none.1 hf o hm)
   | some p=>
    rw [hf] at he;have hp:p∈f6:=List.mem_of_find?_eq_some hf;have:p=[]:=he;subst this;exact nQ hp dC
  rcases h1 with rfl | rfl | rfl | rfl | rfl | rfl | rfl
  ·exact h2 [10] dC rfl dC ho
  ·exact h2 [59] dC rfl dC ho
  ·exact h2 [124] dC rfl dC ho
  ·exact h2 [40] dC rfl dC ho
  ·exact h2 [41] dC rfl dC ho
  ·exact h2 [60] dC rfl dC ho
  ·exact h2 [62] dC rfl dC ho
theorem jX:∀(k:Nat) (m:Bool) (r:List UInt8) (c:UInt8) (t:List UInt8),r.length≤k→bU m r=c::t→(c==32 || c==9)=false
 | _,m,[],c,t,_,h=>by cases m<;>cases h
 | 0,m,x::r,c,t,hk,h=>by simp at hk
 | k+1,true,x::r,c,t,hk,h=>by
  unfold bU at h;split at h
  ·next hx=>
   obtain⟨rfl,rfl⟩:=List.cons.inj h;rw [nH.1 hx];rfl
  ·exact jX k true r c t (by simpa using hk) h
 | k+1,false,x::r,c,t,hk,h=>by
  rw [dB] at h;cases hx:(x==32 || x==9) with
  | true=>rw [hx,nE rfl] at h;exact jX k false r c t (by simpa using hk) h
  | false=>
   rw [hx,nF sI] at h;split at h
   ·exact jX k true r c t (by simpa using hk) h
   ·split at h
    ·cases r with
     | nil=>obtain⟨rfl,rfl⟩:=List.cons.inj h;exact hx
     | cons y r'=>
      dsimp only at h;split at h
      ·exact jX k false r' c t (by simp at hk;omega) h
      ·obtain⟨rfl,rfl⟩:=List.cons.inj h;exact hx
    ·obtain⟨rfl,rfl⟩:=List.cons.inj h;exact hx
theorem jt {r:List UInt8} {c:UInt8} {t:List UInt8} (h:bU false r=c::t):(c==32 || c==9)=false:=jX _ _ _ _ _ (nC _) h
theorem lp:∀(k:Nat) (m:Bool) (r:List UInt8),r.length≤k→(bU m r).length≤r.length
 | _,m,[],_=>by cases m<;>exact nC _
 | 0,m,x::r,hk=>by simp at hk
 | k+1,true,x::r,hk=>by
  unfold bU;split
  ·exact nC _
  ·have:=lp k true r (by simpa using hk);simp;omega
 | k+1,false,x::r,hk=>by
  rw [dB];have h1:=lp k false r (by simpa using hk);have h2:=lp k true r (by simpa using hk);split
  ·simp;omega
  ·split
   ·simp;omega
   ·split
    ·cases r with
     | nil=>exact nC _
     | cons y r'=>
      dsimp only;split
      ·have h3:=lp k false r' (by simp at hk;omega);simp;omega
      ·exact nC _
    ·exact nC _
theorem sj (m:Bool) (r:List UInt8):(bU m r).length≤r.length:=lp _ m r (nC _)
theorem jv {c:UInt8} {t:List UInt8} {x:Tk} {r1:List UInt8} (Og:(c==32 || c==9)=false) (h:ed (c::t)=.ok (x,r1)):r1.length≤t.length:=by
 unfold ed at h;by_cases ho:dg (c::t)=[]
 ·rw [ho,nE rF] at h;by_cases G2:c=38
  ·rw [nE (show aP 38 (c::t)=true by rw [G2];rfl)] at h;cases h
  ·rw [nF (show ¬aP 38 (c::t)=true from λ h=>G2 (nH.1 h))] at h;have hb:=yI c t ho G2 Og;rw [fI] at h;dsimp only at h;rw [hb,nF sI] at h;cases h2:bN (2*(c::t).length+2) (.one false) 0 (c::t) with
   | error e=>rw [h2] at h;cases h
   | ok y=>
    obtain⟨l2,r2⟩:=y;rw [h2] at h;dsimp only at h;have h4:=cS _ _ _ _ _ _ h2;cases h5:i9 false (c::t).length r2 with
    | error e=>rw [h5] at h;cases h
    | ok z=>
     obtain⟨l3,r3⟩:=z;rw [h5] at h;obtain⟨_,rfl⟩:=uJ (uI h);have h6:=tp _ _ _ _ _ h5;simp only [Md.least,lC] at h4;omega
 ·rw [nF (by simpa using ho)] at h;obtain⟨_,rfl⟩:=uJ (uI h);rw [nI,lC];have:=List.length_pos_iff.2 ho;omega
def qo (w:World) (res:Except Nat (List Tk)) (e:Ending) (w':World):Prop:=
 match res with
 | .ok l=>∃(v:Value) (n:Nat),e=.returned (.tuple #[v,.int .i64 0])∧fO w' (λ b=>w.heap.size≤b) n l v∧K0 w w'
 | .error x=>e=.returned (.tuple #[(),x])∧K0 w w'
theorem CU (s:ByteArray) (w:World) (hs:s.size≤140737488351232) (x:Nat) (hx:jp s.data.toList=x) (h0:x≠0) :
 Calls Tryz.prog 59 #[s] w (qo w (.error x)):=by
 have HX:=Hd hx;have e1:((x:Int) != 0)=true:=by rw [bne_iff_ne];omega
 clear hx h0;go_enter_defers Tryz.func59,Tryz.ntmps59;go_wp2_with fail;refine (FX s _ hs).mono ?_;rintro e w1 ⟨rfl,dM⟩;rw [HX.o];subst dM;go_wp2_with fail;simp [bodyPostD,Leaves,results,Tryz.results59,go_sem];exact⟨rfl,((ae.refl _ _).alloc _).alloc _⟩
theorem ma {w3:World} {R x:Nat} {o:Obj} {u v:Value} (hA:af w3 R [u]) (hB:af w3 (R+1) [v]):∃W4,W4=((w3.setCell ⟨R,0,none⟩ (.slice none 0 0)).setCell ⟨R+1,0,none⟩ (.int .i64 x)).alloc o∧W4.cell? ⟨R,0,none⟩=some (.slice none 0 0)∧W4.cell? ⟨R+1,0,none⟩=some (.int .i64 x)∧ae (λ b=>b=R∨b=R+1) w3 W4:=by
 have k1:ae (λ b=>b=R) w3 (w3.setCell ⟨R,0,none⟩ (.slice none 0 0)):=(ae.refl _ _).setCell _ _ λ_=>rfl;have k2:ae (λ b=>b=R+1) (w3.setCell ⟨R,0,none⟩ (.slice none 0 0)) ((w3.setCell ⟨R,0,none⟩ (.slice none 0 0)).setCell ⟨R+1,0,none⟩ (.int .i64 x)):=(ae.refl _ _).setCell _ _ λ_=>rfl;have k3:K0 ((w3.setCell ⟨R,0,none⟩ (.slice none 0 0)).setCell ⟨R+1,0,none⟩ (.int .i64 x)) (((w3.setCell ⟨R,0,none⟩ (.slice none 0 0)).setCell ⟨R+1,0,none⟩ (.int .i64 x)).alloc o):=(ae.refl _ _).alloc _
 have hA2:=((hA.set 0 (.slice none 0 0)).keep k2 oM).keep k3 (λ h=>h);have hB2:=((hB.keep k1 oM).set 0 (.int .i64 x)).keep k3 (λ h=>h);exact⟨_,rfl,hA2.one.1,hB2.one.1,((k1.mono λ_ _ e=>.inl e).trans k2 λ_ _ e=>.inr e).trans k3 λ_ _ e=>e.elim⟩
theorem oP {w3:World} {R:Nat} {u u0 v:Value} (hA:af w3 R [u0]) (hB:af w3 (R+1) [v]):∃W4,W4=(w3.setCell ⟨R,0,none⟩ u).setCell ⟨R+1,0,none⟩ (.int .i64 0)∧W4.cell? ⟨R,0,none⟩=some u∧W4.cell? ⟨R+1,0,none⟩=some (.int .i64 0)∧ae (λ b=>b=R∨b=R+1) w3 W4:=by
 have k1:ae (λ b=>b=R) w3 (w3.setCell ⟨R,0,none⟩ u):=(ae.refl _ _).setCell _ _ λ_=>rfl;have k2:ae (λ b=>b=R+1) (w3.setCell ⟨R,0,none⟩ u) ((w3.setCell ⟨R,0,none⟩ u).setCell ⟨R+1,0,none⟩ (.int .i64 0)):=(ae.refl _ _).setCell _ _ λ_=>rfl;have hA2:=(hA.set 0 u).keep k2 oM;have hB2:=(hB.keep k1 oM).set 0 (.int .i64 0);exact⟨_,rfl,hA2.one.1,hB2.one.1,(k1.mono λ_ _ e=>.inl e).trans k2 λ_ _ e=>.inr e⟩
structure kU (W wr:World) (R cs:Nat) (s:ByteArray) (I:Nat) (l:List Tk) (v:Value):Prop where
 sc:ah wr cs s I ((0:Nat):Int)
 r0:af wr R [v]
 r1:af wr (R+1) [.int .i64 0]
 own:dW wr (λ b=>W.heap.size≤b) v l
 low:∀g,v.ownBlock=some g→W.heap.size≤g
 kp:ae (λ b=>b=cs∨b=R) W wr
 len:l.length≤I
theorem kU.move {W wr w':World} {R cs:Nat} {s:ByteArray} {I J:Nat} {l:List Tk} {v:Value} (h:kU W wr R cs s I l v) (hk:ae (λ b=>b=cs) wr w') (hs:ah w' cs s J ((0:Nat):Int)) (hI:I≤J) (h1:cs≠R) (h2:cs≠R+1) (h3:cs<W.heap.size):kU W w' R cs s J l v:=
 ⟨hs,h.r0.keep hk (λ e=>h1 e.symm),h.r1.keep hk (λ e=>h2 e.symm),h.own.keep hk (λ b _ hb e=>oM) (λ g hg e=>by have:=h.low g hg;omega),h.low,h.kp.trans hk (λ_ _ e=>.inl e),nY h.len hI⟩
theorem kU.more {W wr w1:World} {R cs:Nat} {s:ByteArray} {I J:Nat} {l:List Tk} {v:Value} (h:kU W wr R cs s I l v) (hk:ae (λ b=>b=cs) wr w1) (hs:ah w1 cs s J ((0:Nat):Int)) (hI:I<J) (h1:cs≠R) (h2:cs≠R+1) (h3:cs<W.heap.size) (hR:R+1<W.heap.size)
 {x:Tk} {wv:Value} {n:Nat} (hx:az w1 (λ b=>wr.heap.size≤b) n x.word wv) :
 ∃xs,w1.ownsRow 0 109 3 v l.length xs∧v.ownBlock≠some R∧∀(g aC:Nat) (w2:World) (o:Obj),w2.ownsRow 0 109 3 (.slice (some ⟨g,0,none⟩) (l.length+1) aC) (l.length+1) (xs++kj x wv)→(w1.alloc o).grownBy w2 v.ownBlock→(v.ownBlock=some g∨g=w1.heap.size+1)→
  w2.cell? ⟨R,0,none⟩=some v∧w2.frozen? ⟨R,0,none⟩=false∧kU W (w2.setCell ⟨R,0,none⟩ (.slice (some ⟨g,0,none⟩) (l.length+1) aC)) R cs s J (l++[x]) (.slice (some ⟨g,0,none⟩) (l.length+1) aC):=by
 have hm:=h.move hk hs oM h1 h2 h3;have Rt:=hm.own;obtain⟨vs,m,hl,ho,hn⟩:=hm.own;have hWw:=hm.kp.size;refine⟨_,ho,λ e=>by have:=h.low _ e;omega,λ g aC w2 o aU hg bf=>?_⟩;have Yb:∀b,v.ownBlock=some b→W.heap.size≤b:=h.low;have k:ae (λ b=>v.ownBlock=some b) w1 w2:=((ae.refl _ w1).alloc o).grown hg λ k hk _=>hk;have sV:=hm.r0.keep k (λ e=>by have:=Yb _ e;omega);have hgW:W.heap.size≤g:=by
  rcases bf with e | e
  ·exact Yb _ e
  ·omega
 have aS:ae (λ b=>b=R) w2 (w2.setCell ⟨R,0,none⟩ (.slice (some ⟨g,0,none⟩) (l.length+1) aC)):=(ae.refl _ _).setCell _ _ λ_=>rfl;have ao:=BY (B:=W.heap.size) (v:=v) (w:=w1) (x:=x) (m:=n) (hx.mono λ b hb hd=>⟨by have:=h.kp.size;omega,λ e=>by have:=h.own.lt e;omega⟩) hl hn aU k (λ y hy=>by
  obtain rfl:g=y:=nD hy;rcases bf with e | e
  ·exact .inl e
  ·exact .inr oM)
 refine⟨sV.one.1,sV.one.2,(hm.sc.keep k (λ e=>by have:=Yb _ e;omega)).keep aS h1,?_,(hm.r1.keep k (λ e=>by have:=Yb _ e;omega)).keep aS oM,ao.keep aS (λ b _ hb e=>oM) (λ y hy e=>by obtain rfl:g=y:=nD hy;omega),λ y hy=>by obtain rfl:g=y:=nD hy;exact hgW,?_,?_⟩
 ·exact sV.set 0 _
 ·exact (hm.kp.trans k (λ b hb e=>by have:=Yb _ e;omega)).trans aS (λ_ _ e=>.inr e)
 ·rw [lA];have:=h.len;show l.length+1≤J;omega
theorem CV (s:ByteArray) (w:World) (hs:s.size≤20000) (hx:jp s.data.toList=0) :
 Calls Tryz.prog 59 #[s] w (qo w (nz (s.size+1) (rest s 0))):=by
 have HX:=Hd hx;obtain⟨res,ag⟩:∃res,res=nz (s.size+1) (rest s 0):=⟨_,rfl⟩;rw [←ag];rw [zE] at ag;have HR:=Hd ag;clear hx ag;have hmf:∀(fn:Fn) (first aC:Array Value) (w:World),(Instr.makeFunc fn first aC).run Tryz.prog w=.ok (.func fn first aC) w:=λ_ _ _ _=>rfl;have Jd:=dY;obtain⟨i0,fo,fC,fp,fq⟩:=info_parts vZ;go_enter_defers Tryz.func59,Tryz.ntmps59;go_wp2_with fail
 refine (FX s _ oM).mono ?_;rintro e w1 ⟨rfl,dM⟩;rw [HX.o];subst dM;go_wp2_with fail;obtain⟨W,hW⟩:∃W,W=((w.alloc (.cells #[()] 76)).alloc (.cells #[.int .i64 0] 35)).alloc (.cells #[s,.int .i64 0,.int .i64 0] 128):=⟨_,rfl⟩;rw [←hW];have ek:W.heap.size=w.heap.size+1+1+1:=by rw [hW];simp
 have oo:ah W (w.heap.size+1+1) s ((0:Nat):Int) ((0:Nat):Int):=by
  rw [hW];refine⟨128,?_⟩;have:=nG ((w.alloc (.cells #[()] 76)).alloc (.cells #[.int .i64 0] 35)) (.cells #[s,.int .i64 0,.int .i64 0] 128);have e:((w.alloc (.cells #[()] 76)).alloc (.cells #[.int .i64 0] 35)).heap.size=w.heap.size+1+1:=sI
  rw [e] at this;exact this
 obtain⟨cs,iy⟩:∃cs,cs=w.heap.size+1+1:=⟨_,rfl⟩;rw [←iy] at oo;rw [←iy] at ek;rw [←iy];have xK:=Hd ek;have cF:=Hd iy;have hR:af W w.heap.size [()]∧af W (w.heap.size+1) [.int .i64 0]:=by
  have k1:K0 (w.alloc (.cells #[()] 76)) W:=by rw [hW];exact ((ae.refl _ _).alloc _).alloc _
  have k2:K0 ((w.alloc (.cells #[()] 76)).alloc (.cells #[.int .i64 0] 35)) W:=by rw [hW];exact (ae.refl _ _).alloc _
  have a1:=nG w (.cells #[()] 76);have a2:=nG (w.alloc (.cells #[()] 76)) (.cells #[.int .i64 0] 35);rw [show (w.alloc (.cells #[()] 76)).heap.size=w.heap.size+1 by simp] at a2;exact⟨⟨_,(k1.block _ sI (λ h=>h)).trans a1⟩,⟨_,(k2.block _ sI (λ h=>h)).trans a2⟩⟩
 have h12:cs≠w.heap.size∧cs≠w.heap.size+1∧cs<W.heap.size∧w.heap.size+1<W.heap.size:=⟨oM,oM,oM,oM⟩;have hL0:kU W W w.heap.size cs s 0 [] (.slice none 0 0):=⟨oo,hR.1,hR.2,dW.nil _ _,λ g hg=>(by cases hg),ae.refl _ _,nB _⟩;have HL0:=Hd hL0;have yv:=Hd h12;have dO:=Hd (show K0 w W by rw [hW];exact (((ae.refl _ _).alloc _).alloc _).alloc _)
 clear hW iy ek hR hL0 h12;refine (CL cs s 0 _ _ oo oM oM).mono ?_;rintro e w2 ⟨rfl,J,_,Xf,hJr,hJc,hJk⟩;rw [←hJr] at HR;have hh:∀c t,rest s J=c::t→(c==32 || c==9)=false:=λ c t e=>jt (hJr.symm.trans e);have xI:=Hd (HL0.o.move hJk hJc (nB _) yv.o.1 yv.o.2.1 yv.o.2.2.1);have HH:=Hd hh;clear hJr hJc hJk hh oo HL0;go_wp2_with fail;go_loopg [] (s.size+2 - J) (λ k wr=>∃(I M:Nat) (l:List Tk) (v:Value),k=s.size+2 - I∧I≤s.size∧kU W wr w.heap.size cs s I l v∧s.size - I≤M∧res=i6 l (MN M (rest s I))∧(∀c t,rest s I=c::t→(c==32 || c==9)=false))
 case atStart=>exact⟨J,s.size,[],_,rfl,Xf,xI.o,oM,by rw [px];exact HR.o,HH.o⟩
 case round=>
  obtain⟨I,M,l,v,eH,hI,C7,hMn,hr,Jg⟩:=hrel;have fK:=Hd eH;have Us:=Hd C7;have zR:=Hd Jg;clear eH C7 Jg xI HH;rcases nP I s.size with aW | lv
  ·have he:decide (s.size≤I)=false:=nV oM;have HE:=Hd he;obtain⟨M,rfl⟩:∃M',M=M'+1:=⟨M - 1,oM⟩;have hb:=zR.o _ _ (ak aW);have dU:res=i6 l (match ed (rest s I) with
    | .error e=>.error e
    | .ok (x,r1)=>oL x (nz (M+1) r1)):=by rw [hr,ak aW];rfl
   have gF:=Hd dU;have HB:=Hd hb;clear hr dU he hb;go_wp2_with fail;refine (dT cs s I _ _ Us.o.sc).mono ?_;rintro e w3 ⟨rfl,q2,rfl⟩;rw [HE.o];obtain⟨w3,kh⟩:∃w3,w3=wr.drewN q2:=⟨_,rfl⟩;rw [←kh];have ki:=Hd (show kU W w3 w.heap.size cs s I l v from Us.o.move (by rw [kh];exact (ae.refl _ _).drewN _) (by rw [kh];exact Us.o.sc.drewN _) (nC _) yv.o.1 yv.o.2.1 yv.o.2.2.1)
   clear kh;cases gB:ed (rest s I) with
   | error x=>
    have RD:res=.error x:=by rw [gF.o,gB];rfl
    have bO:=Hd RD;have yz:=Hd gB;obtain⟨c0,f0⟩:=ki.o.r0.one;obtain⟨va,vn,vc,rfl⟩:∃a n c,v=.slice a n c:=by obtain⟨a,c,e,_⟩:=ki.o.own.shape;exact⟨a,_,c,e⟩
    have Su:=Hd (show ah w3.drew cs s I ((0:Nat):Int) from ki.o.sc.keep (S:=λ_=>False) (ae.refl _ _).drew (λ h=>h));clear RD gB;have hL4:∀w4,ae (λ b=>b=cs) w3.drew w4→af w4 w.heap.size [.slice va vn vc]∧af w4 (w.heap.size+1) [.int .i64 0]∧ae (λ b=>b=cs) w3 w4:=λ w4 hk=>by
     have Ly:=(ae.refl (λ b=>b=cs) w3).drew.trans hk k3;exact⟨ki.o.r0.keep Ly (λ e=>yv.o.1 e.symm),ki.o.r1.keep Ly (λ e=>yv.o.2.1 e.symm),Ly⟩
    have gR:=Hd (show ∀w4 w5,ae (λ b=>b=cs) w3 w4→ae (λ b=>b=w.heap.size∨b=w.heap.size+1) w4 w5→K0 w w5 from λ w4 w5 h1 h2=>
     (((dO.o.trans ki.o.kp (λ b hb e=>by have:=cF.o;omega)).trans h1 (λ b hb e=>by have:=cF.o;omega)).trans h2 (λ b hb e=>oM)))
    go_wp2_with fail;refine wp_region_any kR ?_;change wpAny _ _ _ _ _ _ _ (World.drew _);refine wpAny_ready (rs:=[0,1]) kR sI ?_;refine AllReady.cons rfl (λ K hK=>?_) (AllReady.cons rfl (λ K hK=>?_) AllReady.nil)
    ·go_simp;refine hK _ _ ?_;clear hK K;refine wpAny_ready (rs:=[1]) kR sI ?_;refine AllReady.cons rfl (λ K hK=>?_) AllReady.nil;exact Q1
    ·go_simp;refine hK _ _ ?_;clear hK K;refine wpAny_ready (rs:=[0,2]) kR sI ?_;refine AllReady.cons rfl (λ K hK=>?_) (AllReady.cons rfl (λ K hK=>?_) AllReady.nil)
     ·exact Q1
     ·exact V4
   | ok xr=>
    obtain⟨x,r1⟩:=xr;have RD:res=i6 (l++[x]) (MN M (bU false r1)):=by
     rw [gF.o,gB];show i6 l (oL x (nz (M+1) r1))=_;rw [qs,zE]
    have bS:r1.length≤(rest s (I+1)).length:=by
     have h:=gB;rw [ak aW] at h;exact jv HB.o h
    have bO:=Hd RD;have yz:=Hd gB;obtain⟨c0,f0⟩:=ki.o.r0.one;obtain⟨L,hL⟩:∃L,L=l.length:=⟨_,rfl⟩;obtain⟨va,vc,rfl⟩:∃a c,v=.slice a L c:=by obtain⟨a,c,e,_⟩:=ki.o.own.shape;exact⟨a,c,by rw [hL];exact e⟩
    have hLI:L≤I:=by rw [hL];exact ki.o.len
    have Su:=Hd (show ah w3.drew cs s I ((0:Nat):Int) from ki.o.sc.keep (S:=λ_=>False) (ae.refl _ _).drew (λ h=>h));have dv:=Hd (show ∀e w4,uR w3.drew cs s (.ok (x,r1)) e w4→∃(I2:Nat) (T:ByteArray) (ax:OA) (xl cx:Nat) (xs:List Value),e=.returned (.agg #[.int .i64 (x.kind:Nat),T,.slice ax xl cx])∧(I<I2∧I2≤s.size∧rest s I2=r1)∧w4.ownsRow 0 109 3 (.slice va L vc) L xs∧w4.cell? ⟨w.heap.size,0,none⟩=some (.slice va L vc)∧w.heap.size<w4.heap.size∧
     (∀(g aC:Nat) (w5:World) (o:Obj),w5.ownsRow 0 109 3 (.slice (some ⟨g,0,none⟩) (L+1) aC) (L+1) (xs++[.int .i64 (x.kind:Nat),.string T,.slice ax xl cx])→(w4.alloc o).grownBy w5 (Value.slice va L vc).ownBlock→((Value.slice va L vc).ownBlock=some g∨g=w4.heap.size+1)→
      w5.cell? ⟨w.heap.size,0,none⟩=some (.slice va L vc)∧w5.frozen? ⟨w.heap.size,0,none⟩=false∧kU W (w5.setCell ⟨w.heap.size,0,none⟩ (.slice (some ⟨g,0,none⟩) (L+1) aC)) w.heap.size cs s I2 (l++[x]) (.slice (some ⟨g,0,none⟩) (L+1) aC)) from λ e w4 hp=>by
     subst hL;obtain⟨I2,n,T,tv,he,hT,Jb,dU,cj,uL,aS⟩:=hp;obtain⟨ax,cx,rfl,_,_⟩:=uL.shape;have Ly:=(ae.refl (λ b=>b=cs) w3).drew.trans aS k3;rw [←dU,aO,aO] at bS;obtain⟨xs,ho,cM,hF⟩:=ki.o.more Ly cj (show I<I2 by omega) yv.o.1 yv.o.2.1 yv.o.2.2.1 yv.o.2.2.2 uL;obtain⟨T⟩:=T;have vO:T=x.text.toArray:=by rw [←hT]
     refine⟨I2,⟨T⟩,ax,_,cx,xs,he,⟨oM,Jb,dU⟩,ho,(ki.o.r0.keep Ly (λ e=>yv.o.1 e.symm)).one.1,(ki.o.r0.keep Ly (λ e=>yv.o.1 e.symm)).lt,λ g aC w5 o h1 h2 h3=>?_⟩;rw [vO] at h1;exact hF g aC w5 o h1 h2 h3)
    clear RD gB bS hL;go_wp2_with fail
    first
     | go_region_law (first
      | (
       refine step_append_lies _ rF _ _ _ rF 0 109 i0 _ 3 48 Tryz.underlying76 fo fC fp fq rfl oM (.slice va L vc) L xs rF (hown4.alloc _)
        ⟨w4.heap.size,0,none⟩ 1 1 [.int .i64 (x.kind:Nat),T,.slice ax xl cx] rF rF (nK (cs:=#[.int .i64 (x.kind:Nat),.string T,.slice ax xl cx]) (t:=109) (fr:=(0,0)) (nG w4 _)) oC
        oM uM oM sI (w4.heap.size+1) sI ?_;intro gg aC w5 aK ao bf gT
       obtain⟨y0,y1,hTL⟩:=HF.o gg aC w5 _ aK ao bf;have sy:=Hd hTL;clear hTL aK ao bf)
      | (go_simp;go_at_call 87;refine (zF cs s I _ Su.o aW hs).mono ?_;rw [yz.o];intro e w4 hp;obtain⟨I2,T,ax,xl,cx,xs,he,Jb,hown4,c4,lw4,hF⟩:=dv.o e w4 hp;subst he;have HF:=Hd hF;have Yv:=Hd Jb;clear hp hF Jb))
     | fail
    all_goals
     go_wp2_with fail;refine (CL cs s I2 _ _ sy.o.sc oM Yv.o.2.1).mono ?_;rintro e w6 ⟨rfl,J2,Lr,FJ,YX,mc,hJ5⟩;have HL6:=Hd (sy.o.move hJ5 mc Lr yv.o.1 yv.o.2.1 yv.o.2.2.1);have hjh:∀c t,rest s J2=c::t→(c==32 || c==9)=false:=λ c t e=>jt (YX.symm.trans e);have hjr:res=i6 (l++[x]) (MN M (rest s J2)):=by rw [bO.o,YX,Yv.o.2.2]
     have HJR:=Hd hjr;have HJH:=Hd hjh;clear YX mc hJ5 hjh hjr sy;go_wp2_with fail;go_roundg (s.size+2 - J2)
     case measure=>have:=fK.o;have:=Yv.o.1;omega
     case rel=>exact⟨J2,M,l++[x],_,rfl,FJ,HL6.o,by have:=Yv.o.1;omega,HJR.o,HJH.o⟩
  ·have he:decide (s.size≤I)=true:=nU lv;have HE:=Hd he;have RD:res=.ok l:=by rw [hr,aX lv];show Except.ok (l++[])=_;rw [List.append_nil]
   have bO:=Hd RD;clear hr RD he;go_wp2_with fail;refine (dT cs s I _ _ Us.o.sc).mono ?_;rintro e w3 ⟨rfl,q2,rfl⟩;rw [HE.o];obtain⟨w3,kh⟩:∃w3,w3=wr.drewN q2:=⟨_,rfl⟩;rw [←kh];have ki:=Hd (show kU W w3 w.heap.size cs s I l v from Us.o.move (by rw [kh];exact (ae.refl _ _).drewN _) (by rw [kh];exact Us.o.sc.drewN _) (nC _) yv.o.1 yv.o.2.1 yv.o.2.2.1);clear kh
   obtain⟨va,vn,vc,rfl⟩:∃a n c,v=.slice a n c:=by obtain⟨a,c,e,_⟩:=ki.o.own.shape;exact⟨a,_,c,e⟩
   obtain⟨c0,f0⟩:=ki.o.r0.one;obtain⟨c1,f1⟩:=ki.o.r1.one;have WX:=ki.o.r1.lt;go_wp2_with fail;refine leaves_cons (f:=83) (args:=#[.pointer (some ⟨w.heap.size,0,none⟩),.pointer (some ⟨w.heap.size+1,0,none⟩)]) sI (by simp [go_sem]) ?_;refine (xx _ _ _).mono ?_;rintro e u' Yn ⟨rfl,rfl,rfl⟩;obtain⟨W5,ou,k0,k1,bi⟩:=oP (u:=.slice va vn vc) ki.o.r0 ki.o.r1;rw [←ou]
   refine⟨.tuple #[.slice va vn vc,.int .i64 0],by simp [results,Tryz.results59,go_sem,k0,k1],?_⟩;rw [bO.o];have Jp:=xK.o;have FR:=cF.o;have ho:=ki.o.own.keep bi (λ b hb hB e=>oM) (λ g hg e=>by have:=ki.o.low g hg;omega);obtain⟨n,hn⟩:=ho.reads (λ g hg=>ki.o.low g hg);exact⟨_,n,rfl,hn.mono (λ b hb h=>oM),(dO.o.trans ki.o.kp (λ b hb e=>oM)).trans bi (λ b hb e=>oM)⟩
theorem E0 (s:ByteArray) (w:World) (hs:s.size≤140737488351232):Calls Tryz.prog 59 #[s] w (qo w (ff s.data.toList)):=by
 unfold ff;by_cases h:jp s.data.toList=0
 ·rw [nE h];have hl:s.size≤16384:=by
   unfold jp at h;rw [←nT] at h;split at h
   ·cases h
   ·omega
  have:=CV s w oM h;rw [Mz,nT] at this;exact this
 ·rw [nF h];exact CU s w hs _ rfl h
end Go.Proofs.YtiihpbccabeoeaaGreatDoor
