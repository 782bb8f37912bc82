/- The walk: a part. -/
import Derived.Test.YtiihpbccabeoeaaGreatDoorVM
import Derived.Test.YtiihpbccabeoeaaGreatDoorVPkA
import Derived.Lib.IndexBytes
import Derived.Lib.ConvBytes
import Derived.Deep.LoopGhost
import Derived.StillTailTactics
import Derived.Laws.IdiomStrings
namespace Go.Proofs.YtiihpbccabeoeaaGreatDoor
open Go.RowKit
set_option linter.unusedVariables false
set_option maxRecDepth 100000
set_option maxHeartbeats 16000000
def lq (N:List Pt×Bool):List Pt:=if N.1.isEmpty && N.2 then [cq []] else N.1
theorem Kf (out:List Pt) (x:Pt):(qq out x).length≤out.length+1:=by
 unfold qq;cases h:out.getLast? with
 | none=>simp
 | some y=>
  dsimp only;split
  ·simp only [lA,List.length_dropLast,List.length_singleton];omega
  ·simp
theorem GZ (l:List Pt):∀N:List Pt×Bool,(l.foldl cd N).1.length≤N.1.length+l.length:=by
 induction l with
 | nil=>intro N;exact nC _
 | cons x l ih=>
  intro N;have h1:=ih (cd N x);have h2:(cd N x).1.length≤N.1.length+1:=by
   unfold cd;split
   ·exact Nat.le_succ _
   ·exact Kf _ _
  simp only [List.foldl_cons,lC];omega
theorem H5 (l:List Pt):(cZ l).1.length≤l.length:=by
 have:=GZ l ([],false);simpa [cZ] using this
theorem rx {l:List Pt} {y p:Pt} (h:y.joins p=true):qq (l++[y]) p=l++[y.join p]:=by
 unfold qq;rw [List.getLast?_append];simp [h]
theorem zY {l:List Pt} {y p:Pt} (h:y.joins p=false):qq (l++[y]) p=l++[y]++[p]:=by
 unfold qq;rw [List.getLast?_append];simp [h]
theorem Gn {l:List Pt} {x:Pt} (h:x∈l):x.text.length≤er l:=by
 induction l with
 | nil=>cases h
 | cons a l ih=>
  simp only [er];rcases List.mem_cons.1 h with rfl | h
  ·omega
  ·have:=ih h;omega
theorem Lg (l:List Pt):∀N:List Pt×Bool,er (l.foldl cd N).1≤er N.1+er l:=by
 induction l with
 | nil=>intro N;exact nC _
 | cons x l ih=>
  intro N;have h1:=ih (cd N x);have h2:er (cd N x).1≤er N.1+(x.text.length+1):=by
   unfold cd;split
   ·exact Nat.le_add_right _ _
   ·rcases nf N.1 with h | ⟨m,y,h⟩
    ·rw [h];unfold qq;simp [er]
    ·rw [h];cases hj:y.joins x
     ·rw [zY hj,bv];exact nC _
     ·rw [rx hj,bv,bv];have e:(y.join x).text=y.text++x.text:=rfl;simp only [er,e,lA];omega
  simp only [List.foldl_cons,er];omega
theorem Mg (l:List Pt):er (cZ l).1≤er l:=by
 have:=Lg l ([],false);simpa [cZ,er] using this
theorem MU (l:List Pt) (k:Nat):er (l.take k)≤er l:=by
 have h:=bv (l.take k) (l.drop k);rw [List.take_append_drop] at h;omega
theorem DZ (l:List Pt):∀N:List Pt×Bool,(l.foldl cd N).2=(N.2 || decide (0<l.length)):=by
 induction l with
 | nil=>intro N;simp
 | cons x l ih=>
  intro N;rw [List.foldl_cons,ih];have:(cd N x).2=true:=by unfold cd;split<;>rfl
  rw [this];simp
theorem wL (l:List Pt):(cZ l).2=decide (0<l.length):=by
 unfold cZ;rw [DZ];simp
theorem GH (a b:ByteArray):(a++b).data.toList=a.data.toList++b.data.toList:=by
 rw [ByteArray.data_append,Array.toList_append]
theorem pA (w:World) (o o':Obj) (n:Nat):(((w.alloc o).drewN n).alloc o').heap[w.heap.size+1]? = some o':=by
 have h:=nG ((w.alloc o).drewN n) o'
 rwa [show ((w.alloc o).drewN n).heap.size=w.heap.size+1 by simp] at h
def YL (w:World) (b o:Nat) (p:Pt) (v:Value):Prop:=
 w.cell? ⟨b,o,none⟩=some (.int .i64 (p.kind:Nat))∧w.cell? ⟨b,o+1,none⟩=some (dj p.text)∧w.cell? ⟨b,o+2,none⟩=some (dj p.name)∧
 w.cell? ⟨b,o+3,none⟩=some (dj p.op)∧w.cell? ⟨b,o+4,none⟩=some v∧w.cell? ⟨b,o+5,none⟩=some (.bool p.quoted)
theorem EQ {w:World} {b o:Nat} {p:Pt} {v:Value} (h:ik w b o p v):YL w b o p v:=
 ⟨h 0 _ rfl,h 1 _ rfl,h 2 _ rfl,h 3 _ rfl,h 4 _ rfl,h 5 _ rfl⟩
theorem uZ {w:World} {e:TypeId} {g n c:Nat} {l:List Pt} {vs:List Value} (ho:w.ownsRow 0 e 6 (.slice (some ⟨g,0,none⟩) n c) n (bg l vs)) (hn:n=l.length) (hl:vs.length=l.length) {i:Nat} (hi:i<l.length):YL w g (i*6) l[i] (vs[i]'oM):=by
 refine EQ λ j u hu=>?_;have hj:j<6:=(List.getElem?_eq_some_iff.1 hu).1;rw [ho.cellAt _ oM];exact jg hl hi j u hu
def fs (w wr:World) (D:Nat→Prop) (n:Nat) (v:Value) (out:List Pt):Prop:=
 (out=[]→v=.slice none 0 0)∧∃vs,vs.length=out.length∧wr.ownsRow 0 67 6 v out.length (bg out vs)∧(∀y,v.ownBlock=some y→w.heap.size≤y)∧
  ∀i (h:i<out.length) (h':i<vs.length),az w D n out[i].word vs[i]
theorem fs.nil (w wr:World) (D:Nat→Prop) (n:Nat):fs w wr D n (.slice none 0 0) []:=
 ⟨λ_=>rfl,[],rfl,World.ownsRow_nil _ _ _ _,λ y h=>(by cases h),λ i h=>nQ h (uC _)⟩
theorem fs.alloc {w wr:World} {D:Nat→Prop} {n:Nat} {v:Value} {out:List Pt} (h:fs w wr D n v out) (o:Obj):fs w (wr.alloc o) D n v out:=by
 obtain⟨hz,vs,hl,ho,hy,hn⟩:=h;exact⟨hz,vs,hl,ho.alloc o,hy,hn⟩
theorem fs.drewN {w wr:World} {D:Nat→Prop} {n:Nat} {v:Value} {out:List Pt} (h:fs w wr D n v out) (k:Nat):fs w (wr.drewN k) D n v out:=by
 obtain⟨hz,vs,hl,ho,hy,hn⟩:=h;refine⟨hz,vs,hl,?_,hy,hn⟩;induction k with
 | zero=>exact ho
 | succ k ih=>exact ih.drew
theorem fs.shape {w wr:World} {D:Nat→Prop} {n:Nat} {v:Value} {out:List Pt} (h:fs w wr D n v out):(v=.slice none 0 0∧out=[])∨∃l y g c,out=l++[y]∧v=.slice (some ⟨g,0,none⟩) (l.length+1) c∧w.heap.size≤g∧g<wr.heap.size∧l.length+1≤c∧c≤maxLen:=by
 obtain⟨hz,vs,hl,ho,hy,hn⟩:=h;rcases nf out with rfl | ⟨l,y,rfl⟩
 ·exact .inl ⟨hz rfl,rfl⟩
 ·have bS:(l++[y]).length=l.length+1:=sI
  rcases ho.2 with ⟨_,h0⟩ | ⟨g,aC,x8,rfl,_,hg,h1,h2,_⟩
  ·omega
  ·rw [bS] at h1;exact .inr ⟨l,y,g,aC,rfl,by rw [bS],hy g rfl,(Array.getElem?_eq_some_iff.1 hg).1,h1,h2⟩
theorem fs.more {w w1:World} {D:Nat→Prop} {n:Nat} {out:List Pt} {vs:List Value} {p:Pt} {pv:Value} {g c:Nat} (hl:vs.length=out.length) (hn:∀i (h:i<out.length) (h':i<vs.length),az w D n out[i].word vs[i]) (hp:az w D n p.word pv)
 (ho:w1.ownsRow 0 67 6 (.slice (some ⟨g,0,none⟩) (out.length+1) c) (out.length+1) (bg out vs++cH p pv)) (hg:w.heap.size≤g):fs w w1 D n (.slice (some ⟨g,0,none⟩) (out.length+1) c) (out++[p]):=by
 refine⟨λ h=>by simp at h,vs++[pv],by simp [hl],?_,λ y hy=>?_,λ i h h'=>?_⟩
 ·rw [eX hl];simpa [bg] using ho
 ·obtain rfl:g=y:=nD hy;exact hg
 ·by_cases hi:i<out.length
  ·rw [uA hi,uA oM];exact hn i hi oM
  ·have fm:i=out.length:=by simp at h;omega
   subst fm;rw [uB (nC _),uB oM];simpa [hl] using hp
theorem fs.join {w wr:World} {D:Nat→Prop} {n g c:Nat} {l:List Pt} {y p:Pt} {s:ByteArray} (h:fs w wr D n (.slice (some ⟨g,0,none⟩) (l++[y]).length c) (l++[y])) (hs:s.data.toList=y.text++p.text) :
 fs w (wr.setCell ⟨g,l.length*6+1,none⟩ (.string s)) D n (.slice (some ⟨g,0,none⟩) (l++[y.join p]).length c) (l++[y.join p]):=by
 obtain⟨_,vs,hl,ho,hy,hn⟩:=h;obtain⟨us,u,rfl⟩:∃us u,vs=us++[u]:=by
  exact P3
 have hu:us.length=l.length:=by simpa using hl
 have e9:=(ho.stored (l.length*6+1) (.string s)).1;have bS:(l++[y.join p]).length=(l++[y]).length:=sI
 refine⟨λ h=>by simp at h,us++[u],by simpa using hl,?_,hy,λ i h h'=>?_⟩
 ·rw [bS];rw [eX hu] at e9 ⊢;rw [jW (fw hu)] at e9;have e:(bg [y] [u]).set 1 (.string s)=bg [y.join p] [u]:=by
   have e2:Value.string s=dj (y.text++p.text):=by unfold dj;rw [←hs]
   rw [e2];rfl
  rw [e] at e9;exact e9
 ·by_cases hi:i<l.length
  ·rw [uA hi];have:=hn i (by simp;omega) (by simp;omega)
   rwa [uA hi] at this
  ·have fm:i=l.length:=by simp at h;omega
   subst fm;have:=hn l.length sI (by simp [hu]);rw [uB (nC _)] at this ⊢;simpa [Pt.join,Pt.word] using this
def Gz (w:World) (B wb:Nat) (g:Option Nat) (N:List Pt×Bool) (e:Ending) (w':World):Prop:=
 ∃v n,e=.returned v∧az w' (λ b=>B≤b∧b≠wb∧g≠some b) n (lq N) v∧K0 w w'
theorem fs.reads {w wr:World} {D D':Nat→Prop} {n:Nat} {v:Value} {out:List Pt} (h:fs w wr D n v out) (hk:K0 w wr) (h1:∀x,D x→D' x) (h2:∀x,w.heap.size≤x→D' x):az wr D' (n+1) out v:=by
 obtain⟨hz,vs,hl,ho,hy,hn⟩:=h;rcases ho.2 with ⟨rfl,h0⟩ | ⟨g,aC,x8,rfl,_,hg,D7,tN,_⟩
 ·rw [nO h0];exact az.nil _ _ _
 ·refine⟨_,aC,rfl,D7,tN,λ i hi=>⟨g,0,vs[i]'oM,rfl,(Array.getElem?_eq_some_iff.1 hg).1,h2 g (hy g rfl),λ j u hu=>?_,((hn i hi oM).keep hk (λ b _ _ s=>s)).mono λ b _ hb=>h1 b hb⟩⟩;exact Qa
theorem H6 {D:Nat→Prop} (w:World) (hD:D w.heap.size) :
 az (w.alloc (.cells #[.int .i64 2,eS,eS,eS,(),false] 67)) D 1 [cq []] (.slice (some ⟨w.heap.size,0,none⟩) 1 1):=by
 have hb:=nG w (.cells #[.int .i64 2,eS,eS,eS,(),false] 67);refine⟨_,1,rfl,nC _,uM,λ i hi=>?_⟩;obtain rfl:i=0:=by simp at hi;omega
 refine⟨w.heap.size,0,.slice none 0 0,rfl,sI,hD,λ j u hu=>?_,rfl,none,0,rfl,nB _⟩;rw [show 0+0*6+j=j by omega,cell_of_row _ _ j _ _ _ hb];rw [←Array.getElem?_toList];exact hu
theorem zj (B cs wb:Nat) (g:Option Nat) (N:List Pt×Bool) (m:Nat) (w:World) (h:ml w B cs wb g N m) (hm:m≤900000) (L4:cs<w.heap.size) :
 Calls Tryz.prog 117 #[.pointer (some ⟨wb,0,none⟩)] w (Gz w B wb g N):=by
 obtain⟨v,raw,hw,ho,rfl,h1,h2,h3,h4,h5,h6⟩:=h;obtain⟨a,c,rfl,h7,h8⟩:=ho.shape;obtain⟨vs,n,hl,aU,eD⟩:=ho;have lw:=hw.lt;obtain⟨c0,f0⟩:=hw.cell;obtain⟨i0,fo,fC,fp,fq⟩:=info_parts ef;have yT:=bW;have iZ:=iq raw;have JW:=Hd eD;have ql:=Hd aU;have H4:=Hd h4;clear eD aU h4 hw f0;obtain⟨D,hD⟩:∃D:Nat→Prop,D=λ b=>B≤b∧b≠wb∧(Value.slice a raw.length c).ownBlock≠some b:=⟨_,rfl⟩
 have HD:=Hd hD;go_enter Tryz.func117,Tryz.ntmps117;go_wp2_with fail;go_loopw [3,12] (λ v' k' wr=>∃k:Nat,k'=.int .i64 k∧k≤raw.length∧Hid (fs w wr (λ b=>((B≤b∧b≠wb)∧(Value.slice a raw.length c).ownBlock≠some b)) n v' (cZ (raw.take k)).1)∧Hid (K0 w wr)) (λ_ k' _=>raw.length - (intOf k').toNat)
 case atStart=>exact⟨0,rfl,nB _,Hd (fs.nil _ _ _ _),Hd (ae.refl _ _)⟩
 case round=>
  obtain⟨k,rfl,hk,HO,HK⟩:=hrel;by_cases aW:k<raw.length
  ·obtain⟨G,hG⟩:∃G,a=some ⟨G,0,none⟩:=by
    exact Qb
   subst hG;have hGl:G<w.heap.size:=(ql.o.lt G rfl).2;obtain⟨q0,q1,q2,q3,q4,q5⟩:=uZ ql.o rfl hl aW;have eB:∀o v,w.cell? ⟨G,o,none⟩=some v→wr.cell? ⟨G,o,none⟩=some v:=λ o v hv=>(uH (a:=⟨G,o,none⟩) (HK.o.block G hGl (λ x=>x))).trans hv;replace q0:=eB _ _ q0;replace q1:=eB _ _ q1;replace q2:=eB _ _ q2;replace q3:=eB _ _ q3;replace q4:=eB _ _ q4;replace q5:=eB _ _ q5
   have Bm:=JW.o k aW oM;have gB:cZ (raw.take (k+1))=cd (cZ (raw.take k)) raw[k]:=by
    rw [List.take_succ_eq_append_getElem aW,fE];rfl
   obtain⟨out,Ef⟩:∃out,out=(cZ (raw.take k)).1:=⟨_,rfl⟩;rw [←Ef] at HO;have Dk:=Hd Ef;have yz:=Hd gB;obtain⟨p,hp⟩:∃p,p=raw[k]:=⟨_,rfl⟩;obtain⟨pv,Jk⟩:∃pv,pv=vs[k]'oM:=⟨_,rfl⟩;rw [←hp,←Jk] at Bm;rw [←hp] at q0 q1 q2 q3 q5;rw [←Jk] at q4;obtain⟨pa,pc,Ox,_,_⟩:=Bm.shape;rw [Ox] at q4 Bm;obtain⟨pl,Eg⟩:∃pl,pl=p.word.length:=⟨_,rfl⟩;rw [←Eg] at q4 Bm;have HP:=Hd hp;have Pn:=Hd Bm
   clear eB Ef gB hp Jk Bm Ox Eg;have p1:(k:Int)<(raw.length:Int):=oM
   obtain⟨T,hT⟩:∃T:ByteArray,T=⟨p.text.toArray⟩:=⟨_,rfl⟩;have vO:T.data.toList=p.text:=by rw [hT]
   unfold dj at q1 q2 q3;rw [←hT] at q1;have HT:=Hd vO;clear hT;by_cases hE:p.isE=true
   ·have e1:p.kind=2∧p.text=[]:=by
     unfold Pt.isE at hE;simpa using hE
    have t1:((p.kind:Int)==2)=true:=by rw [e1.1];rfl
    obtain⟨t2,t3⟩:=eN (s:=T) (vO.trans e1.2);have e9:(cZ (raw.take (k+1))).1=out:=by
     rw [yz.o,←HP.o,cd,nE hE,Dk.o]
    have eI:=Hd e9;clear hE e1 e9 vO;go_wp2_with fail;go_roundw
    case rel=>exact⟨k+1,by go_num,oM,Hd (by rw [eI.o];exact HO.o.alloc _),Hd (HK.o.alloc _)⟩
    case measure=>simp [intOf];omega
   ·have e1:((p.kind:Int)==2)=false∨((p.kind:Int)==2)=true∧T.toList.isEmpty=false∧(T.toList==[])=false:=by
     exact WP
    have e9:(cZ (raw.take (k+1))).1=qq out p:=by
     rw [yz.o,←HP.o,cd,nF hE,Dk.o]
    have eI:=Hd e9;have HE:=Hd hE;clear hE e9;clear vO;have Xx:wr.heap.size<wr.heap.size+1:=oM
    rcases HO.o.shape with ⟨rfl,pB⟩ | ⟨l,y,go,co,pB,rfl,hgo,G6,yg,Tp⟩
    ·obtain rfl:=pB;rcases e1 with e1 | ⟨e1,e2,e3⟩
     all_goals
      go_wp2_with fail;go_quiet (fail);obtain⟨_,us,LT,aK,_,AO⟩:=((HO.o.alloc (.cells #[.int .i64 (p.kind:Nat),T,.string ⟨p.name.toArray⟩,.string ⟨p.op.toArray⟩,.slice pa pl pc,p.quoted] 67)).drewN nq);have J6:=Hd AO;have SB:=Hd LT;clear AO LT;go_wp2_with (at_builtin;refine nR _ rfl (.tmp 59) (.tmp 61) _ rfl 0 67 i0 _ 6 88 Tryz.underlying29 fo fC fp fq rfl oM (.slice none 0 0) 0 (bg [] us) rfl (aK.alloc _) ⟨wr.heap.size+1,0,none⟩ 1 1 [.int .i64 (p.kind:Nat),T,.string ⟨p.name.toArray⟩,.string ⟨p.op.toArray⟩,.slice pa pl pc,p.quoted] rfl rfl (nK (cs:=#[.int .i64 (p.kind:Nat),.string T,.string ⟨p.name.toArray⟩,.string ⟨p.op.toArray⟩,.slice pa pl pc,.bool p.quoted]) (t:=67) (fr:=(0,0)) (pA _ _ _ _)) oC oM uM oM sI (wr.heap.size+2) sI ?_;intro gg aC w1 fS ao bf eC)
      have B1:w.heap.size≤gg:=by
       exact N0
      have bt:K0 w w1:=(((HK.o.alloc _).drewN nq).alloc _).grown ao (λ y hy Hp=>by cases hy);have mr:=fs.more (w:=w) (out:=[]) (p:=p) SB.o J6.o Pn.o (by rw [cH,dj,←HT.o];exact fS) B1;have HM:=Hd mr;have dp:=Hd bt;clear mr bt fS ao bf;go_wp2_with fail;go_roundw
      case rel=>exact⟨k+1,by go_num,oM,Hd (by rw [eI.o];exact HM.o),dp⟩
      case measure=>simp [intOf];omega
    ·subst pB;have bS:(l++[y]).length=l.length+1:=sI
     have Di:=Hd bS;have hll:l.length≤900000:=by
      exact P8
     obtain⟨_,us0,LU,oX,_,_⟩:=HO.o;have LN:=uZ (l:=l++[y]) (i:=l.length) (by rw [bS] at oX;exact oX) (by rw [bS]) LU (by rw [bS];omega);have Ho:(l++[y])[l.length]'(by rw [bS];omega)=y:=sI
     rw [Ho] at LN;obtain⟨r0,r1,_,_,_,_⟩:=LN;obtain⟨TY,Tl⟩:∃TY:ByteArray,TY=⟨y.text.toArray⟩:=⟨_,rfl⟩;have Ls:TY.data.toList=y.text:=by rw [Tl]
     unfold dj at r1;rw [←Tl] at r1;have HTY:=Hd Ls;have rf:=oX;rw [bS] at rf;have rfr:=rf.frozenAt (l.length*6+1);have aaI:=Hd LU;clear Tl Ls oX Ho rf;have kW:(y.joins p=false∧((((p.kind:Int)==2)=false∧((y.kind:Int)==(p.kind:Int))=false)∨(((p.kind:Int)==2)=false∧((y.kind:Int)==(p.kind:Int))=true∧((p.kind:Int)==1)=false)∨(((p.kind:Int)==2)=true∧T.toList.isEmpty=false∧(T.toList==[])=false∧((y.kind:Int)==(p.kind:Int))=false)))∨
      (y.joins p=true∧((((p.kind:Int)==2)=false∧((y.kind:Int)==(p.kind:Int))=true∧((p.kind:Int)==1)=true)∨(((p.kind:Int)==2)=true∧T.toList.isEmpty=false∧(T.toList==[])=false∧((y.kind:Int)==(p.kind:Int))=true∧((p.kind:Int)==1)=false))):=by
      exact Wg
     have pW:¬9223372036854775807<TY.size+T.size:=by
      exact WH
     clear e1;have p3:0≤(l.length:Int)+1:=oM
     have p4:(l.length:Int)<(l.length:Int)+1:=oM
     rcases kW with ⟨hj,kW⟩ | ⟨hj,kW⟩
     ·have vW:(cZ (raw.take (k+1))).1=l++[y]++[p]:=by rw [eI.o,zY hj]
      replace eI:=Hd vW;clear vW hj;rcases kW with ⟨e1,e2⟩ | ⟨e1,e2,e3⟩ | ⟨e1,e2,e3,e4⟩
      all_goals
       go_wp2_with fail;go_quiet (fail);obtain⟨_,us,LT,aK,_,AO⟩:=((HO.o.alloc (.cells #[.int .i64 (p.kind:Nat),T,.string ⟨p.name.toArray⟩,.string ⟨p.op.toArray⟩,.slice pa pl pc,p.quoted] 67)).drewN nq);have J6:=Hd AO;have SB:=Hd LT;clear AO LT;go_wp2_with (at_builtin;refine nR _ rfl (.tmp 59) (.tmp 61) _ rfl 0 67 i0 _ 6 88 Tryz.underlying29 fo fC fp fq rfl oM (.slice (some ⟨go,0,none⟩) (l.length+1) co) (l.length+1) (bg (l++[y]) us) rfl (by have:=aK.alloc (.cells #[.int .i64 (p.kind:Nat),T,.string ⟨p.name.toArray⟩,.string ⟨p.op.toArray⟩,.slice pa pl pc,p.quoted] 67);rwa [bS] at this) ⟨wr.heap.size+1,0,none⟩ 1 1 [.int .i64 (p.kind:Nat),T,.string ⟨p.name.toArray⟩,.string ⟨p.op.toArray⟩,.slice pa pl pc,p.quoted] rfl rfl (nK (cs:=#[.int .i64 (p.kind:Nat),.string T,.string ⟨p.name.toArray⟩,.string ⟨p.op.toArray⟩,.slice pa pl pc,.bool p.quoted]) (t:=67) (fr:=(0,0)) (pA _ _ _ _)) oC oM uM oM sI (wr.heap.size+2) sI ?_;intro gg aC w1 fS ao bf eC)
       have B1:w.heap.size≤gg:=by
        exact N0
       have bt:K0 w w1:=(((HK.o.alloc _).drewN nq).alloc _).grown ao (λ yy hy Hp=>by have h9:go=yy:=nD hy;omega);have mr:=fs.more (w:=w) (out:=l++[y]) (p:=p) SB.o J6.o Pn.o (by rw [cH,dj,←HT.o,bS];exact fS) B1;have HM:=Hd mr;have dp:=Hd bt;clear mr bt fS ao bf;go_wp2_with fail;go_roundw
       case rel=>exact⟨k+1,by go_num,oM,Hd (by rw [eI.o];have:=HM.o;rwa [Di.o] at this),dp⟩
       case measure=>simp [intOf];omega
     ·have vW:(cZ (raw.take (k+1))).1=l++[y.join p]:=by rw [eI.o,rx hj]
      replace eI:=Hd vW;clear vW hj;rcases kW with ⟨e1,e2,e3⟩ | ⟨e1,e2,e3,e4,e5⟩
      all_goals
       go_wp2_with fail;go_quiet (fail);go_wp2_with fail;go_region;go_wp2_with fail;go_roundw
       case rel=>
        refine⟨k+1,by go_num,oM,Hd ?_,Hd ?_⟩
        ·exact WA
        ·exact QE
       case measure=>simp [intOf];omega
  ·obtain rfl:k=raw.length:=oM
   have cm:cZ (raw.take raw.length)=N:=by rw [List.take_length];exact H4.o
   rw [cm] at HO;have oR:N.2=decide (0<raw.length):=by rw [←H4.o];exact wL _
   have qA:wr.cell? ⟨wb,0,none⟩=some (Value.slice a raw.length c):=(uH (a:=⟨wb,0,none⟩) (HK.o.block wb lw (λ x=>x))).trans c0;rcases HO.o.shape with ⟨rfl,pB⟩ | ⟨l,y,go,co,pB,rfl,hgo,G6,yg,Tp⟩
   ·rcases Nat.eq_zero_or_pos raw.length with sV | sV
    ·have ht:lq N=[]:=by unfold lq;rw [pB,oR,sV];rfl
     have HT:=Hd ht;have e1:¬(0:Int)<(raw.length:Int):=oM
     have re:=Hd sV;clear ht pB oR cm sV;exact QB
    ·have ht:lq N=[cq []]:=by unfold lq;rw [pB,oR,nU sV];rfl
     have HT:=Hd ht;have e1:(0:Int)<(raw.length:Int):=oM
     clear ht pB oR cm;go_wp2_with fail;go_ret;refine⟨_,1,rfl,?_,HK.o.alloc _⟩;rw [HT.o];have Nm:=HK.o.size;refine H6 wr ⟨oM,oM,λ e=>?_⟩;have:=ql.o.lt _ e;omega
   ·have ht:lq N=l++[y]:=by
     unfold lq;rw [pB,show (l++[y]).isEmpty=false by cases l<;>rfl];rfl
    have HT:=Hd ht;have e1:((l.length:Int)+1==0)=false:=by rw [nA];omega
    have Tj:=HO.o;rw [pB] at Tj;have Sl:=Hd Tj;clear ht oR cm pB Tj;go_wp2_with fail;go_ret;refine⟨_,n+1,rfl,?_,HK.o⟩;rw [HT.o];refine Sl.o.reads HK.o (λ x hx=>⟨hx.1.1,hx.1.2,hx.2⟩) (λ x hx=>⟨oM,oM,λ e=>?_⟩);have:=ql.o.lt _ e;omega
theorem EY (l:List UInt8):bE l≤l.length:=by
 induction l with
 | nil=>exact nC _
 | cons c t ih=>simp only [bE,lC];split<;>omega
theorem GW (l:List UInt8):fz l≤l.length:=by
 induction l with
 | nil=>exact nC _
 | cons c t ih=>simp only [fz,lC];split<;>omega
theorem Gb (l:List UInt8):cU l≤l.length:=by
 cases l with
 | nil=>exact nC _
 | cons c t=>
  have:=EY t;simp only [cU,lC];split<;>omega
theorem iU (b:Bool) (l:List UInt8):bQ b l≤l.length:=by
 unfold bQ;have:=Gb l;split
 ·exact this
 ·cases l with
  | nil=>exact nC _
  | cons c t=>
   have:=GW t;simp only [lC];split
   ·split<;>omega
   ·split<;>omega
def pY (l:List UInt8) (k:Nat):Prop:=1≤k∧k≤l.length∧fz (l.drop 1)+1=k+fz (l.drop k)
theorem pY.next {l:List UInt8} {k:Nat} {c:UInt8} (h:pY l k) (hk:l[k]? = some c) (hc:bR c=true):pY l (k+1):=by
 have aW:=(List.getElem?_eq_some_iff.1 hk).1;have hd:=mV hk;refine⟨oM,aW,?_⟩;have:=h.2.2;rw [this,hd,fz,nE hc];omega
theorem pY.stop {l:List UInt8} {k:Nat} {c:UInt8} (h:pY l k) (hk:l[k]? = some c) (hc:bR c=false):fz (l.drop 1)+1=k:=by
 rw [h.2.2,mV hk,fz,hc];simp
theorem pY.over {l:List UInt8} {k:Nat} (h:pY l k) (hk:k=l.length):fz (l.drop 1)+1=k:=by
 rw [h.2.2,hk,List.drop_length];rfl
theorem sn (c:UInt8):xX ⟨#[63,35,64,42]⟩ c=cV c:=by
 have h:∀n:Fin 256,xX ⟨#[63,35,64,42]⟩ (UInt8.ofNat n.val)=cV (UInt8.ofNat n.val):=by decide +kernel
 exact BH
def jK (w:World) (b:Nat) (s:ByteArray) (i k:Nat) (d:Int) (e:Ending) (w':World):Prop:=
 ∃r:ByteArray,e=.returned (.string r)∧r.data.toList=(rest s i).take k∧ah w' b s ((i+k:Nat):Int) d∧ae (λ k=>k=b) w w'
theorem qI {w:World} {b:Nat} {s R:ByteArray} {i k n:Nat} {d j:Int} (hR:R.data.toList=rest s i) (h:ah w b s i d) (hj:j=((i+k:Nat):Int)) :
 jK w b s i k d (.returned (.string (R.extract 0 k))) ((w.drewN n).setCell ⟨b,1,none⟩ (.int .i64 j)):=by
 refine⟨_,rfl,?_,gx h n hj.symm,jU _ _ _ _ _⟩;rw [Lib.extract_data,hR,List.drop_zero,Nat.sub_zero]
theorem tU {w:World} {b:Nat} {s:ByteArray} {i k n:Nat} {d:Int} (hk:k=0) (h:ah w b s i d) :
 jK w b s i k d (.returned (.string ByteArray.empty)) ((w.drewN n).setCell ⟨b,1,none⟩ (.int .i64 (i:Int))):=by
 subst hk;exact⟨_,rfl,rfl,gx h n rfl,jU _ _ _ _ _⟩
theorem tV {w:World} {b:Nat} {s R:ByteArray} {i k n:Nat} {d:Int} (hk:k=1) (hR:R.data.toList=rest s i) (h:ah w b s i d) :
 jK w b s i k d (.returned (.string (R.extract 0 1))) ((w.drewN n).setCell ⟨b,1,none⟩ (.int .i64 ((i:Int)+1))):=by
 subst hk;exact qI hR h oM
theorem tW {w:World} {b:Nat} {s R:ByteArray} {i k j n:Nat} {d:Int} (hk:k=j) (hR:R.data.toList=rest s i) (h:ah w b s i d) :
 jK w b s i k d (.returned (.string (R.extract 0 j))) ((w.drewN n).setCell ⟨b,1,none⟩ (.int .i64 ((i:Int)+(j:Int)))):=by
 subst hk;exact qI hR h oM
theorem Ci (b:Nat) (s:ByteArray) (i:Nat) (d:Int) (w:World) (br:Bool) (h:ah w b s i d) (hs:s.size≤140737488351232) (hi:i≤s.size) (k:Nat) (hk:bQ br (rest s i)=k) :
 Calls Tryz.prog 152 #[.pointer (some ⟨b,0,none⟩),br] w (jK w b s i k d):=by
 obtain⟨c0,c1,c2,f1,f2⟩:=h.cells;have oU:k≤s.size - i:=by rw [←hk,←aO];exact iU _ _
 obtain⟨R,UJ⟩:∃R,R=s.extract i s.size:=⟨_,rfl⟩;have hR:R.data.toList=rest s i:=by rw [UJ,Lib.extract_to_end];rfl
 have Xj:R.size=s.size - i:=by rw [nT,hR,aO]
 have su:=Hd UJ;have HR:=Hd hR;have UN:k≤R.size:=oM
 have G4:R.size≤140737488351232:=oM
 have tt:=Hd Xj;clear UJ hR Xj;by_cases qE:0<cU (rest s i)
 ·have bp:cU (rest s i)=k:=by rw [←hk];unfold bQ;rw [nE qE]
  have HK:=Hd bp;rw [bp] at qE;clear hk bp;go_enter Tryz.func152,Tryz.ntmps152;go_wp2_with fail;go_quiet (fail);go_wp2_with fail;rw [←su.o];refine (nl R _ G4).mono ?_;rintro e w1 ⟨rfl,rfl⟩;rw [HR.o,HK.o];go_wp2_with fail;go_ret;exact qI HR.o h oM
 ·have h0:cU (rest s i)=0:=oM
  rcases nP i s.size with fm | fm
  ·obtain⟨c,t,g8⟩:∃c t,rest s i=c::t:=by
    cases hr:rest s i with
    | nil=>
     have:=aO s i;rw [hr] at this;simp at this;omega
    | cons c t=>exact⟨c,t,rfl⟩
   have hc:au s i=c:=by rw [lI,g8];rfl
   have vN:R[0]'(by have:=tt.o;omega)=c:=by
    have:=oJ (s:=R) (k:=0) (by have:=tt.o;omega);rw [HR.o,g8] at this;simpa using this.symm
   have fa:0<R.size:=by have:=tt.o;omega
   have ab6:(0:Int)<(R.size:Int):=oM
   have he:decide (s.size≤i)=false:=nV oM;have HE:=Hd he;clear he;have H0:=Hd h0;cases pz:bR c
   ·cases oy:cV c
    ·have bp:k=0:=by
      rw [←hk];unfold bQ;rw [h0,nF oM,g8];simp [pz,oy]
     have HK:=Hd bp;have HD:=Hd pz;have HS:=Hd oy;have re:=Hd vN;have HC:=Hd hc;clear hk bp pz oy vN hc h0 qE g8;go_enter Tryz.func152,Tryz.ntmps152;go_wp2_with fail;go_quiet (fail);go_wp2_with fail;rw [←su.o];refine (nl R _ G4).mono ?_;rintro e w1 ⟨rfl,rfl⟩;rw [HR.o,H0.o];go_wp2_with fail;refine (dT b s i d _ (h.drewN _)).mono ?_;rintro e w1 ⟨rfl,q,rfl⟩;rw [HE.o]
     go_wp2_with fail;rw [re.o];refine (gK c _).mono ?_;rintro e w1 ⟨rfl,rfl⟩;rw [HD.o];go_wp2_with fail;refine (gi b s _ i d _ ((h.drewN _)) hs fm false (by rw [HC.o,sn];exact HS.o)).mono ?_;rintro e w1 ⟨rfl,q2,rfl⟩;go_wp2_with fail;go_ret;exact tU HK.o h
    ·have bp:k=1:=by
      rw [←hk];unfold bQ;rw [h0,nF oM,g8];simp [pz,oy]
     have HK:=Hd bp;have HD:=Hd pz;have HS:=Hd oy;have re:=Hd vN;have HC:=Hd hc;clear hk bp pz oy vN hc h0 qE g8;go_enter Tryz.func152,Tryz.ntmps152;go_wp2_with fail;go_quiet (fail);go_wp2_with fail;rw [←su.o];refine (nl R _ G4).mono ?_;rintro e w1 ⟨rfl,rfl⟩;rw [HR.o,H0.o];go_wp2_with fail;refine (dT b s i d _ (h.drewN _)).mono ?_;rintro e w1 ⟨rfl,q,rfl⟩;rw [HE.o]
     go_wp2_with fail;rw [re.o];refine (gK c _).mono ?_;rintro e w1 ⟨rfl,rfl⟩;rw [HD.o];go_wp2_with fail;refine (gi b s _ i d _ ((h.drewN _)) hs fm true (by rw [HC.o,sn];exact HS.o)).mono ?_;rintro e w1 ⟨rfl,q2,rfl⟩;go_wp2_with fail;go_ret;exact tV HK.o HR.o h
   ·cases br
    ·have bp:k=1:=by
      rw [←hk];unfold bQ;rw [h0,nF oM,g8];simp [pz]
     have HK:=Hd bp;have HD:=Hd pz;have re:=Hd vN;have HC:=Hd hc;clear hk bp pz vN hc h0 qE g8;go_enter Tryz.func152,Tryz.ntmps152;go_wp2_with fail;go_quiet (fail);go_wp2_with fail;rw [←su.o];refine (nl R _ G4).mono ?_;rintro e w1 ⟨rfl,rfl⟩;rw [HR.o,H0.o];go_wp2_with fail;refine (dT b s i d _ (h.drewN _)).mono ?_;rintro e w1 ⟨rfl,q,rfl⟩;rw [HE.o];go_wp2_with fail;rw [re.o]
     refine (gK c _).mono ?_;rintro e w1 ⟨rfl,rfl⟩;rw [HD.o];go_wp2_with fail;go_loop [6] (λ n=>n=.int .i64 1) (λ_=>0)
     case atStart=>rfl
     case round=>
      subst hrel;go_wp2_with fail;go_ret;exact tV HK.o HR.o h
    ·have bp:k=fz t+1:=by
      rw [←hk];unfold bQ;rw [h0,nF oM,g8];simp [pz]
     have HK:=Hd bp;have HD:=Hd pz;have re:=Hd vN;have HC:=Hd hc;have HT:=Hd g8;clear hk bp pz vN hc h0 qE g8;go_enter Tryz.func152,Tryz.ntmps152;go_wp2_with fail;go_quiet (fail);go_wp2_with fail;rw [←su.o];refine (nl R _ G4).mono ?_;rintro e w1 ⟨rfl,rfl⟩;rw [HR.o,H0.o];go_wp2_with fail;refine (dT b s i d _ (h.drewN _)).mono ?_;rintro e w1 ⟨rfl,q,rfl⟩;rw [HE.o];go_wp2_with fail
     rw [re.o];refine (gK c _).mono ?_;rintro e w1 ⟨rfl,rfl⟩;rw [HD.o];go_wp2_with fail;have hd1:t.length+1=s.size - i:=by have:=aO s i;rw [HT.o] at this;simpa using this
     go_loop [6] (λ n=>∃j:Nat,n=.int .i64 j∧Hid (pY (rest s i) j)) (λ n=>R.size - (intOf n).toNat)
     case atStart=>exact⟨1,rfl,Hd ⟨nC _,by rw [HT.o];simp,by rw [HT.o];simp;omega⟩⟩
     case round=>
      obtain⟨j,rfl,HJ⟩:=hrel;have ku:=HJ.o.1;have hj2:=HJ.o.2.1;rw [aO] at hj2;by_cases aW:j<R.size
      ·have hg:=oJ (s:=R) aW;rw [HR.o] at hg;have HG:=Hd hg;clear hg;have p1:(j:Int)<(R.size:Int):=oM
       cases UK:bR R[j]
       ·have XG:k=j:=by
         have:=HJ.o.stop HG.o UK;rw [HT.o] at this;rw [HK.o];simpa using this
        have ZD:=Hd UK;have ZR:=Hd XG;clear UK XG;go_wp2_with fail;refine (gK R[j] _).mono ?_;rintro e w1 ⟨rfl,rfl⟩;rw [ZD.o];go_wp2_with fail;go_ret;exact tW ZR.o HR.o h
       ·have hn:=HJ.o.next HG.o UK;have HN:=Hd hn;have ZD:=Hd UK;clear UK hn;go_wp2_with fail;refine (gK R[j] _).mono ?_;rintro e w1 ⟨rfl,rfl⟩;rw [ZD.o];go_wp2_with fail;go_round
        case rel=>exact⟨j+1,by go_num,HN⟩
        case measure=>simp [intOf];omega
      ·have XG:k=j:=by
        have:=HJ.o.over (by rw [aO];have:=tt.o;omega);rw [HT.o] at this;rw [HK.o];simpa using this
       have ZR:=Hd XG;have ow:j≤R.size:=by have:=tt.o;omega
       clear XG;go_wp2_with fail;go_ret;exact tW ZR.o HR.o h
  ·have g8:rest s i=[]:=nO (by rw [aO];omega);have bp:k=0:=by
    rw [←hk];unfold bQ;rw [h0,nF oM,g8]
   have he:decide (s.size≤i)=true:=nU oM;have HE:=Hd he;have HK:=Hd bp;have H0:=Hd h0;clear hk bp h0 qE g8 he;go_enter Tryz.func152,Tryz.ntmps152;go_wp2_with fail;go_quiet (fail);go_wp2_with fail;rw [←su.o];refine (nl R _ G4).mono ?_;rintro e w1 ⟨rfl,rfl⟩;rw [HR.o,H0.o];go_wp2_with fail;refine (dT b s i d _ (h.drewN _)).mono ?_;rintro e w1 ⟨rfl,q,rfl⟩;rw [HE.o]
   go_wp2_with fail;go_ret;exact tU HK.o h
def ru (w:World) (b:Nat) (s:ByteArray) (i skip:Nat) (d:Int) (res:Option Nat) (e:Ending) (w':World):Prop:=
 match res with
 | some k=>∃r:ByteArray,e=.returned (.string r)∧r.data.toList=(rest s i).take k∧ah w' b s ((i+(k+skip):Nat):Int) d∧ae (λ k=>k=b) w w'
 | none=>vf w b 2 e w'
theorem bI (c:UInt8) (r:List UInt8):aI [c] r=aP c r:=by
 cases r with
 | nil=>rfl
 | cons x t=>
  show (c==x && true)=(x==c);rw [Bool.and_true,Bool.eq_iff_iff,nH,nH];exact eq_comm
theorem tT (S:Nat→Prop) (w:World) (T:TypeId) (R:ByteArray):ae S w (Lib.bytesWorld w.drew T R):=
 ⟨rfl,rfl,rfl,by rw [Lib.bytesWorld_size];exact Nat.le_succ _,λ k hk _=>Lib.bytesWorld_at_old _ _ _ _ hk⟩
def qi (l:List UInt8) (o k:Nat):Prop:=k≤l.length∧ci 0 l=(ci o (l.drop k)).map (· + k)
theorem qi.start (l:List UInt8):qi l 0 0:=⟨nB _,by rw [List.drop_zero];cases ci 0 l<;>rfl⟩
theorem qi.step {l:List UInt8} {o o' k:Nat} {c:UInt8} (h:qi l o k) (hk:l[k]? = some c) (hc:ci o (c::l.drop (k+1))=(ci o' (l.drop (k+1))).map (· + 1)):qi l o' (k+1):=by
 have aW:=(List.getElem?_eq_some_iff.1 hk).1;refine⟨aW,?_⟩;rw [h.2,mV hk,hc];cases ci o' (l.drop (k+1)) with
 | none=>rfl
 | some n=>simp;omega
theorem vB (o:Nat) (t:List UInt8):ci o (40::t)=(ci (o+1) t).map (· + 1):=rfl
theorem vC (o:Nat) (t:List UInt8) (h:0<o):ci o (41::t)=(ci (o - 1) t).map (· + 1):=by
 rw [ci];rw [nF dC,nE dC,nF oM]
theorem yM (t:List UInt8):ci 0 (41::t)=if aP 41 t then some 0 else none:=rfl
theorem vA (o:Nat) (c:UInt8) (t:List UInt8) (h1:(c==40)=false) (h2:(c==41)=false):ci o (c::t)=(ci o t).map (· + 1):=by
 simp only [ci,h1,h2];rfl
theorem KY (b:Nat) (s:ByteArray) (i:Nat) (d:Int) (w:World) (h:ah w b s i d) (hs:s.size≤140737488351232) (hi:i≤s.size) (res:Option Nat) (ag:ci 0 (rest s i)=res) :
 Calls Tryz.prog 150 #[.pointer (some ⟨b,0,none⟩)] w (ru w b s i 2 d res):=by
 obtain⟨c0,c1,c2,f1,f2⟩:=h.cells;have lb:=h.lt;have kc:=λ (w:World) (R:ByteArray)=>Lib.run_convert_string_bytes (P:=Tryz.prog) w 9 61 5 R Tryz.underlying9 Tryz.underlying61 Tryz.underlying5;have ay:=Hd ag;clear ag;go_enter Tryz.func150,Tryz.ntmps150;go_wp2_with fail;go_region;clear kc;have Hl:=λ j hj=>Lib.bytesWorld_cell w.drew 5 (s.extract i s.size) j hj;have OK:ah (Lib.bytesWorld w.drew 5 (s.extract i s.size)) b s i d:=h.keep (tT (λ_=>False) _ _ _) (λ x=>x)
 have TM:ae (λ k=>k=b) w (Lib.bytesWorld w.drew 5 (s.extract i s.size)):=tT _ _ _ _;have FK:(s.extract i s.size).size=s.size - i:=by rw [nT,Lib.extract_to_end,nI,←nT]
 rw [show (s.extract i s.size).data.toList=rest s i from Lib.extract_to_end _ _,FK] at Hl;simp only [show w.drew.heap.size=w.heap.size from rfl] at Hl;obtain⟨w1,dM⟩:∃w1,w1=Lib.bytesWorld w.drew 5 (s.extract i s.size):=⟨_,rfl⟩;obtain⟨B,hB⟩:∃B,B=w.heap.size:=⟨_,rfl⟩;obtain⟨cp,hcp⟩:∃cp,cp=grownCap w.drew (s.size - i) 0 5:=⟨_,rfl⟩;rw [←dM,←hB] at Hl;rw [←dM] at OK TM;rw [←dM,←hB,←hcp];clear dM hB hcp
 obtain⟨N,hN⟩:∃N,N=s.size - i:=⟨_,rfl⟩;rw [←hN] at Hl ⊢;have hN2:N+i≤s.size:=oM
 have hN3:N=(rest s i).length:=by rw [aO,hN]
 have HN:=Hd hN;clear hN;have Pm:=Hd hN3;clear hN3;have HC:=Hd Hl;clear Hl;have dp:=Hd TM;clear TM;have dF:=Hd OK;clear h c0 c1 c2 f1 f2 FK;obtain⟨c0,c1,c2,f1,f2⟩:=OK.cells;clear OK;go_wp2_with fail;go_loop [3,18] (λ o k'=>∃n k:Nat,o=.int .i64 n∧k'=.int .i64 k∧n≤k∧k≤N∧Hid (qi (rest s i) n k)) (λ_ k'=>N - (intOf k').toNat)
 case atStart=>exact⟨0,0,rfl,rfl,oM,oM,Hd (qi.start _)⟩
 case round=>
  obtain⟨n,k,rfl,rfl,Bm,hk,HA⟩:=hrel;by_cases aW:k<N
  ·have eB:=HC.o k aW;obtain⟨c,hc⟩:∃c,(rest s i)[k]? = some c:=⟨_,List.getElem?_eq_getElem (by have:=Pm.o;omega)⟩;have yV:(rest s i).getD k 0=c:=by rw [List.getD_eq_getElem?_getD,hc];rfl
   rw [yV] at eB;have Bd:=Hd hc;clear hc yV;have p1:(k:Int)<(N:Int):=oM
   by_cases tK:c=40
   ·have e1:((c.toNat:Int)==40)=true:=by rw [tK];rfl
    have hn:=HA.o.step (o':=n+1) Bd.o (by rw [tK];exact vB _ _);have ut:=Hd hn;clear tK hn;go_wp2_with fail;go_round
    case rel=>exact⟨n+1,k+1,by go_num,by go_num,oM,oM,ut⟩
    case measure=>simp [intOf];omega
   ·have e1:((c.toNat:Int)==40)=false:=by
     have:=oi (x:=c) (c:=40);rw [nA.2 tK] at this;exact this
    by_cases Ja:c=41
    ·have e2:((c.toNat:Int)==41)=true:=by rw [Ja];rfl
     by_cases Jj:0<n
     ·have hn:=HA.o.step (o':=n - 1) Bd.o (by rw [Ja];exact vC _ _ Jj);have ut:=Hd hn;clear tK Ja hn;go_wp2_with fail;go_round
      case rel=>exact⟨n - 1,k+1,by congr 1;omega,by go_num,oM,oM,ut⟩
      case measure=>simp [intOf];omega
     ·obtain rfl:n=0:=oM
      have U6:IntKind.i64.wrap ((i:Int)+(k:Int))=(i:Int)+(k:Int):=nL _ oM;have w2:((i:Int)+(k:Int)).toNat=i+k:=oM
      have w3:0≤(i:Int)+(k:Int):=oM
      have w4:(i:Int)+(k:Int)≤(s.size:Int):=oM
      have w5:(i:Int)≤(i:Int)+(k:Int):=oM
      have hd:=mV Bd.o;have cm:res=if aP 41 (rest s (i+(k+1))) then some k else none:=by
       rw [←ay.o,HA.o.2,hd,Ja,yM,b8];split<;>simp
      clear tK Ja hd;cases hh:aP 41 (rest s (i+(k+1)))
      ·have hr:res=none:=by rw [cm,hh];rfl
       have HH:=Hd hh;have HR:=Hd hr;clear hh hr cm;go_wp2_with fail;go_quiet (fail);go_wp2_with fail;have cj:=gx (j':=((i+(k+1):Nat):Int)) dF.o nq rfl;have aS:=jU w1 nq b 1 (.int .i64 ((i:Int)+((k:Int)+1)));obtain⟨w2,aQ⟩:∃w2,w2=(w1.drewN nq).setCell ⟨b,1,none⟩ (.int .i64 ((i:Int)+((k:Int)+1))):=⟨_,rfl⟩;rw [←aQ] at aS;rw [show (w1.drewN nq).setCell ⟨b,1,none⟩ (.int .i64 (((i+(k+1):Nat)):Int))=w2 from aQ.symm] at cj
       rw [←aQ];clear aQ;have cA:=Hd aS;clear aS;refine (gkz b s ⟨#[41]⟩ (i+(k+1)) d _ cj oM (by rw [aq,bI];exact HH.o)).mono ?_;rintro e w3 ⟨rfl,q3,rfl⟩;go_wp2_with fail;refine (fQ 2 _).mono ?_;rintro e w4 ⟨rfl,rfl⟩;go_wp2_with fail;refine⟨rfl,?_⟩;rw [HR.o];exact⟨rfl,(dp.o.trans cA.o (λ x _ hx=>hx)).drewN _⟩
      ·have hr:res=some k:=by rw [cm,hh];rfl
       have HH:=Hd hh;have HR:=Hd hr;clear hh hr cm;go_wp2_with fail;go_quiet (fail);go_wp2_with fail;have cj:=gx (j':=((i+(k+1):Nat):Int)) dF.o nq rfl;have aS:=jU w1 nq b 1 (.int .i64 ((i:Int)+((k:Int)+1)));obtain⟨w2,aQ⟩:∃w2,w2=(w1.drewN nq).setCell ⟨b,1,none⟩ (.int .i64 ((i:Int)+((k:Int)+1))):=⟨_,rfl⟩;rw [←aQ] at aS;rw [show (w1.drewN nq).setCell ⟨b,1,none⟩ (.int .i64 (((i+(k+1):Nat)):Int))=w2 from aQ.symm] at cj
       rw [←aQ];clear aQ;have cA:=Hd aS;clear aS;refine (kq b s ⟨#[41]⟩ (i+(k+1)) d _ cj hs oM dC (by rw [aq,bI];exact HH.o)).mono ?_;rintro e w3 ⟨rfl,d6,aV⟩;have eF:=Hd d6;have bZ:=Hd aV;clear d6 aV;go_wp2_with fail;go_ret;show ru w b s i 2 d res _ _;rw [HR.o];exact⟨_,rfl,by rw [Lib.extract_data,show i+k - i=k by omega];rfl,eF.o,(dp.o.trans cA.o (λ x _ hx=>hx)).trans bZ.o (λ x _ hx=>hx)⟩
    ·have e2:((c.toNat:Int)==41)=false:=by
      have:=oi (x:=c) (c:=41);rw [nA.2 Ja] at this;exact this
     have hn:=HA.o.step (o':=n) Bd.o (vA _ _ _ (nA.2 tK) (nA.2 Ja));have ut:=Hd hn;clear tK Ja hn;go_wp2_with fail;go_round
     case rel=>exact⟨n,k+1,rfl,by go_num,oM,oM,ut⟩
     case measure=>simp [intOf];omega
  ·obtain rfl:k=N:=oM
   have hr:res=none:=by
    rw [←ay.o,HA.o.2,Pm.o,List.drop_length];rfl
   have HR:=Hd hr;clear hr;go_wp2_with fail;refine (fQ 2 _).mono ?_;rintro e w2 ⟨rfl,rfl⟩;go_wp2_with fail;refine⟨rfl,?_⟩;rw [HR.o];exact⟨rfl,dp.o⟩
def dn (q:UInt8):Bool→List UInt8→Option Nat
 | _,[]=>none
 | true,_::t=>(dn q false t).map (· + 1)
 | false,c::t=>if c==q then some 1 else (dn q (c==92 && q==34) t).map (· + 1)
def By (w:World) (b:Nat) (s:ByteArray) (i:Nat) (d:Int) (res:Option Nat) (e:Ending) (w':World):Prop:=
 match res with
 | some k=>e=.returned (.tuple #[])∧ah w' b s ((i+k:Nat):Int) d∧ae (λ k=>k=b) w w'
 | none=>vf w b 2 e w'
def fX (q:UInt8) (s:ByteArray) (i I:Nat):Prop:=i≤I∧dn q false (rest s i)=(dn q false (rest s I)).map (· + (I - i))
theorem fX.start (q:UInt8) (s:ByteArray) (i:Nat):fX q s i i:=⟨nC _,by rw [Nat.sub_self];cases dn q false (rest s i)<;>rfl⟩
theorem ak {s:ByteArray} {I:Nat} (h:I<s.size):rest s I=au s I::rest s (I+1):=by
 have hg:=sg (s:=s) (i:=I) (k:=0) oM;have hd:=mV hg;rw [List.drop_zero] at hd;rw [hd];have:au s I=s[I+0]'oM:=by
  rw [lI,hd];rfl
 rw [this,b8]
theorem aX {s:ByteArray} {I:Nat} (h:s.size≤I):rest s I=[]:=nO (by rw [aO];omega)
theorem fX.one {q:UInt8} {s:ByteArray} {i I:Nat} (h:fX q s i I) (hI:I<s.size) (h1:(au s I==q)=false) (h2:(au s I==92 && q==34)=false):fX q s i (I+1):=by
 refine⟨by have:=h.1;omega,?_⟩;rw [h.2,ak hI,dn,h1,h2];have:=h.1;cases dn q false (rest s (I+1)) with
 | none=>rfl
 | some k=>simp;omega
theorem fX.two {q:UInt8} {s:ByteArray} {i I:Nat} (h:fX q s i I) (hI:I<s.size) (h1:(au s I==q)=false) (h2:(au s I==92 && q==34)=true):fX q s i (I+2):=by
 refine⟨by have:=h.1;omega,?_⟩;rw [h.2,ak hI,dn,h1,h2];have:=h.1;rcases nP (I+1) s.size with hl | hl
 ·rw [ak hl,dn];cases dn q false (rest s (I+2)) with
  | none=>rfl
  | some k=>simp;omega
 ·rw [aX hl,aX (by omega:s.size≤I+2)];rfl
theorem fX.stop {q:UInt8} {s:ByteArray} {i I:Nat} (h:fX q s i I) (hI:I<s.size) (h1:(au s I==q)=true):dn q false (rest s i)=some (I+1 - i):=by
 have:=h.1;rw [h.2,ak hI,dn,h1];simp;omega
theorem fX.over {q:UInt8} {s:ByteArray} {i I:Nat} (h:fX q s i I) (hI:s.size≤I):dn q false (rest s i)=none:=by
 rw [h.2,aX hI];rfl
theorem cD {w:World} {b n:Nat} {s:ByteArray} {i d:Int} (h:ah w b s i d) (j:Int):∃w',w'=(w.drewN n).setCell ⟨b,1,none⟩ (.int .i64 j)∧ah w' b s j d∧ae (λ k=>k=b) w w':=
 ⟨_,rfl,gx h n rfl,jU _ _ _ _ _⟩
theorem eb {w:World} {b:Nat} {s:ByteArray} {i d:Int} (h:ah w b s i d) (j:Int):∃w',w'=w.setCell ⟨b,1,none⟩ (.int .i64 j)∧ah w' b s j d∧ae (λ k=>k=b) w w':=
 ⟨_,rfl,gx h 0 rfl,mt _ _ _ _⟩
theorem Mk (b:Nat) (s:ByteArray) (i:Nat) (d:Int) (w:World) (q:UInt8) (h:ah w b s i d) (hs:s.size≤140737488351000) (hi:i≤s.size) (res:Option Nat) (ag:dn q false (rest s i)=res) :
 Calls Tryz.prog 173 #[.pointer (some ⟨b,0,none⟩),.int .u8 (q.toNat:Nat)] w (By w b s i d res):=by
 have ay:=Hd ag;clear ag;go_enter Tryz.func173,Tryz.ntmps173;go_wp2_with fail;go_loopg [4] (s.size+2 - i) (λ k _ wr=>∃I:Nat,k=s.size+2 - I∧I≤s.size+1∧ah wr b s I d∧ae (λ k=>k=b) w wr∧fX q s i I)
 case atStart=>exact⟨i,rfl,oM,h,ae.refl _ _,fX.start _ _ _⟩
 case round=>
  obtain⟨I,eH,hI,eY,pS,Rx⟩:=hrel;have fK:=Hd eH;have cK:=Hd eY;have rt:=Hd pS;have C3:=Hd Rx;clear eH eY pS Rx h;by_cases aW:I<s.size
  ·have he:decide (s.size≤I)=false:=nV oM;have HE:=Hd he;clear he;go_wp2_with fail;refine (dT b s I d _ cK.o).mono ?_;rintro e w1 ⟨rfl,q1,rfl⟩;rw [HE.o];go_wp2_with fail;refine (cB b s I d _ (cK.o.drewN _) oM oM).mono ?_;rintro e w1 ⟨rfl,q2,rfl⟩;obtain⟨c0,c1,c2,f1,f2⟩:=cK.o.cells;obtain⟨c,hc⟩:∃c,c=au s I:=⟨_,rfl⟩;rw [←hc];have HC:=Hd hc;clear hc
   cases t1:(c==q)
   ·have e1:((c.toNat:Int)==(q.toNat:Int))=false:=by rw [oi];exact t1
    cases t2:(c==92 && q==34)
    ·have hn:=C3.o.one aW (by rw [←HC.o];exact t1) (by rw [←HC.o];exact t2);have HN:=Hd hn;clear hn;have e2:((c.toNat:Int)==92)=false∨((c.toNat:Int)==92)=true∧((q.toNat:Int)==34)=false:=by
      have u1:=oi (x:=c) (c:=92);have u2:=oi (x:=q) (c:=34);cases v1:(c==92)
      ·rw [v1] at u1;exact .inl u1
      ·rw [v1] at u1 t2;rw [Bool.true_and] at t2;rw [t2] at u2;exact .inr ⟨u1,u2⟩
     clear t1 t2;rcases e2 with e2 | ⟨e2,e3⟩
     all_goals
      go_wp2_with fail;obtain⟨w2,aQ,cj,aS⟩:=cD (n:=q1+q2) cK.o ((I:Int)+1);rw [←aQ];go_roundg (s.size+2 - (I+1))
      case measure=>have:=fK.o;omega
      case rel=>exact⟨I+1,rfl,oM,cj,rt.o.trans aS (λ x _ hx=>hx),HN.o⟩
    ·have hn:=C3.o.two aW (by rw [←HC.o];exact t1) (by rw [←HC.o];exact t2);have HN:=Hd hn;clear hn;have e2:((c.toNat:Int)==92)=true∧((q.toNat:Int)==34)=true:=by
      have u1:=oi (x:=c) (c:=92);have u2:=oi (x:=q) (c:=34);cases v1:(c==92)
      ·rw [v1] at t2;cases t2
      ·rw [v1] at u1 t2;rw [Bool.true_and] at t2;rw [t2] at u2;exact⟨u1,u2⟩
     obtain⟨e2,e3⟩:=e2;clear t1 t2;go_wp2_with fail;obtain⟨w2,aQ,cj,aS⟩:=cD (n:=q1+q2) cK.o ((I:Int)+1);rw [←aQ];obtain⟨w3,kh,d6,aV⟩:=eb cj ((I:Int)+1+1);rw [←kh];go_roundg (s.size+2 - (I+2))
     case measure=>have:=fK.o;omega
     case rel=>exact⟨I+2,rfl,oM,d6,(rt.o.trans aS (λ x _ hx=>hx)).trans aV (λ x _ hx=>hx),HN.o⟩
   ·have hr:res=some (I+1 - i):=by rw [←ay.o];exact C3.o.stop aW (by rw [←HC.o];exact t1)
    have HR:=Hd hr;clear hr;have e1:((c.toNat:Int)==(q.toNat:Int))=true:=by rw [oi];exact t1
    clear t1;go_wp2_with fail;obtain⟨w2,aQ,cj,aS⟩:=cD (n:=q1+q2) cK.o ((I:Int)+1);rw [←aQ];refine nJ (results_none rfl _ _ _) rfl ?_;show By w b s i d res _ _;rw [HR.o];have:=C3.o.1;refine⟨rfl,?_,rt.o.trans aS (λ x _ hx=>hx)⟩;rw [show i+(I+1 - i)=I+1 by omega];exact cj
  ·exact Ww
theorem MJ:∀(o:Nat) (l:List UInt8),ce .q1 o l=(dn 39 false l).bind λ k=>(ce .n o (l.drop k)).map (· + k)
 | _,[]=>rfl
 | o,c::t=>by
  rw [ce,dn];by_cases h:(c==39)=true
  ·rw [h];simp
  ·have h':(c==39)=false:=by simpa using h
   rw [h'];have h2:(c==92 && (39:UInt8)==34)=false:=by rw [show ((39:UInt8)==34)=false by decide];simp
   rw [h2,nF sI,nF sI,MJ o t];cases dn 39 false t with
   | none=>rfl
   | some k=>
    exact NY
mutual
theorem EU:∀(o:Nat) (l:List UInt8),ce .q2 o l=(dn 34 false l).bind λ k=>(ce .n o (l.drop k)).map (· + k)
 | _,[]=>rfl
 | o,c::t=>by
  rw [ce,dn];by_cases h:(c==34)=true
  ·rw [h];simp
  ·have h':(c==34)=false:=by simpa using h
   rw [h',show ((34:UInt8)==34)=true from rfl,Bool.and_true];by_cases h2:(c==92)=true
   ·rw [h2];show (ce .bq o t).map _=((dn 34 true t).map _).bind _;rw [Ua o t];cases dn 34 true t with
    | none=>rfl
    | some k=>
     exact NY
   ·have WZ:(c==92)=false:=by simpa using h2
    rw [WZ];show (ce .q2 o t).map _=((dn 34 false t).map _).bind _;rw [EU o t];cases dn 34 false t with
    | none=>rfl
    | some k=>
     exact NY
theorem Ua:∀(o:Nat) (l:List UInt8),ce .bq o l=(dn 34 true l).bind λ k=>(ce .n o (l.drop k)).map (· + k)
 | _,[]=>rfl
 | o,c::t=>by
  rw [ce,dn,EU o t];cases dn 34 false t with
  | none=>rfl
  | some k=>
   exact NY
end
def iL (s:ByteArray) (i o I:Nat):Prop:=i≤I∧ce .n 0 (rest s i)=(ce .n o (rest s I)).map (· + (I - i))
theorem iL.start (s:ByteArray) (i:Nat):iL s i 0 i:=⟨nC _,by rw [Nat.sub_self];cases ce .n 0 (rest s i)<;>rfl⟩
theorem iL.on {s:ByteArray} {i o o' I k:Nat} (h:iL s i o I) (hs:ce .n o (rest s I)=(ce .n o' (rest s (I+k))).map (· + k)):iL s i o' (I+k):=by
 refine⟨by have:=h.1;omega,?_⟩;rw [h.2,hs];have:=h.1;cases ce .n o' (rest s (I+k)) with
 | none=>rfl
 | some m=>simp;omega
theorem iL.over {s:ByteArray} {i o I:Nat} (h:iL s i o I) (hI:s.size≤I):ce .n 0 (rest s i)=none:=by
 rw [h.2,aX hI];rfl
theorem iL.stop {s:ByteArray} {i I:Nat} (h:iL s i 0 I) (hI:I<s.size) (hc:au s I=41):ce .n 0 (rest s i)=some (I - i):=by
 rw [h.2,ak hI,hc];have e:ce .n 0 (41::rest s (I+1))=some 0:=rfl;rw [e];simp
theorem CR {o:Nat} {c:UInt8} {t:List UInt8} (h1:(c==39)=false) (h2:(c==34)=false) (h3:(c==92)=false) (h4:(c==40)=false) (h5:(c==41)=false):ce .n o (c::t)=(ce .n o t).map (· + 1):=by
 rw [ce,h1,h2,h3,h4,h5];rfl
theorem CQ {o:Nat} {s:ByteArray} {I:Nat} (hI:I<s.size) (hc:au s I=92):ce .n o (rest s I)=(ce .n o (rest s (I+2))).map (· + 2):=by
 rw [ak hI,hc];have e:ce .n o (92::rest s (I+1))=(ce .bn o (rest s (I+1))).map (· + 1):=rfl;rw [e];rcases nP (I+1) s.size with hl | hl
 ·rw [ak hl,ce];cases ce .n o (rest s (I+1+1)) with
  | none=>rfl
  | some k=>rfl
 ·rw [aX hl,aX (by omega:s.size≤I+2)];rfl
theorem qR {o:Nat} {s:ByteArray} {I:Nat} (hI:I<s.size) (hc:au s I=39):ce .n o (rest s I)=(dn 39 false (rest s (I+1))).bind λ k=>(ce .n o (rest s (I+(k+1)))).map (· + (k+1)):=by
 rw [ak hI,hc];have e:ce .n o (39::rest s (I+1))=(ce .q1 o (rest s (I+1))).map (· + 1):=rfl;rw [e,MJ];cases dn 39 false (rest s (I+1)) with
 | none=>rfl
 | some k=>
  exact PZ
theorem qS {o:Nat} {s:ByteArray} {I:Nat} (hI:I<s.size) (hc:au s I=34):ce .n o (rest s I)=(dn 34 false (rest s (I+1))).bind λ k=>(ce .n o (rest s (I+(k+1)))).map (· + (k+1)):=by
 rw [ak hI,hc];have e:ce .n o (34::rest s (I+1))=(ce .q2 o (rest s (I+1))).map (· + 1):=rfl;rw [e,EU];cases dn 34 false (rest s (I+1)) with
 | none=>rfl
 | some k=>
  exact PZ
theorem aw {c k:UInt8} (h:c≠k):((c.toNat:Int)==(k.toNat:Int))=false:=by rw [oi];exact nA.2 h
theorem aE {c k:UInt8} (h:c=k):((c.toNat:Int)==(k.toNat:Int))=true:=by rw [oi];exact nH.2 h
theorem rY {q:UInt8}:∀{l:List UInt8} {e:Bool} {k:Nat},dn q e l=some k→1≤k∧k≤l.length
 | [],e,k,h=>by cases e<;>cases h
 | c::t,true,k,h=>by
  rw [dn] at h;cases h2:dn q false t with
  | none=>rw [h2] at h;cases h
  | some m=>
   rw [h2] at h;have:=rY h2;simp at h ⊢;omega
 | c::t,false,k,h=>by
  rw [dn] at h;split at h
  ·simp at h ⊢;omega
  ·cases h2:dn q (c==92 && q==34) t with
   | none=>rw [h2] at h;cases h
   | some m=>
    rw [h2] at h;have:=rY h2;simp at h ⊢;omega
theorem O9 (b:Nat) (s:ByteArray) (i:Nat) (d:Int) (w:World) (h:ah w b s i d) (hs:s.size≤140737488351000) (hi:i≤s.size) (res:Option Nat) (ag:ce .n 0 (rest s i)=res) :
 Calls Tryz.prog 151 #[.pointer (some ⟨b,0,none⟩)] w (ru w b s i 1 d res):=by
 have ay:=Hd ag;clear ag;obtain⟨c0,c1,c2,f1,f2⟩:=h.cells;go_enter Tryz.func151,Tryz.ntmps151;go_wp2_with fail;go_loopg [4,5] (s.size+2 - i) (λ k o _ wr=>∃n I:Nat,o=.int .i64 n∧k=s.size+2 - I∧I≤s.size+1∧ah wr b s I d∧ae (λ k=>k=b) w wr∧iL s i n I∧n≤I)
 case atStart=>exact⟨0,i,rfl,rfl,oM,h,ae.refl _ _,iL.start _ _,oM⟩
 case round=>
  obtain⟨n,I,rfl,eH,hI,eY,pS,Rx,hnI⟩:=hrel;have fK:=Hd eH;have cK:=Hd eY;have rt:=Hd pS;have C3:=Hd Rx;clear eH eY pS Rx h c0 c1 c2 f1 f2;have HiI:=Hd C3.o.1;by_cases aW:I<s.size
  ·have he:decide (s.size≤I)=false:=nV oM;have HE:=Hd he;clear he;go_wp2_with fail;refine (dT b s I d _ cK.o).mono ?_;rintro e w1 ⟨rfl,q1,rfl⟩;rw [HE.o];go_wp2_with fail;refine (cB b s I d _ (cK.o.drewN _) oM oM).mono ?_;rintro e w1 ⟨rfl,q2,rfl⟩;obtain⟨c0,c1,c2,f1,f2⟩:=cK.o.cells;obtain⟨c,hc⟩:∃c,c=au s I:=⟨_,rfl⟩;rw [←hc];have HC:=Hd hc;clear hc
   have kW:(c=39∨c=34)∨c=92∨c=40∨(c=41∧n=0)∨(c=41∧0<n)∨(c≠39∧c≠34∧c≠92∧c≠40∧c≠41):=by
    by_cases t1:c=39;exact .inl (.inl t1);by_cases t2:c=34;exact .inl (.inr t2);by_cases t3:c=92;exact .inr (.inl t3);by_cases t4:c=40;exact .inr (.inr (.inl t4));by_cases t5:c=41
    ·rcases Nat.eq_zero_or_pos n with h0 | h0
     ·exact .inr (.inr (.inr (.inl ⟨t5,h0⟩)))
     ·exact .inr (.inr (.inr (.inr (.inl ⟨t5,h0⟩))))
    ·exact .inr (.inr (.inr (.inr (.inr ⟨t1,t2,t3,t4,t5⟩))))
   rcases kW with Tx | t1 | t1 | ⟨t1,h0⟩ | ⟨t1,h0⟩ | ⟨t1,t2,t3,t4,t5⟩
   ·have hq:ce .n n (rest s I)=(dn c false (rest s (I+1))).bind λ k=>(ce .n n (rest s (I+(k+1)))).map (· + (k+1)):=by
     rcases Tx with t1 | t1
     ·rw [t1];exact qR aW (by rw [←HC.o];exact t1)
     ·rw [t1];exact qS aW (by rw [←HC.o];exact t1)
    have HQ:=Hd hq;have ht:((c.toNat:Int)==39)=true∨((c.toNat:Int)==39)=false∧((c.toNat:Int)==34)=true:=by
     rcases Tx with t1 | t1
     ·exact .inl (aE (c:=c) (k:=39) t1)
     ·exact .inr ⟨aw (c:=c) (k:=39) (by rw [t1];decide),aE (c:=c) (k:=34) t1⟩
    clear hq Tx;rcases ht with e1 | ⟨e1,e2⟩
    all_goals
     go_wp2_with fail;obtain⟨w2,aQ,cj,aS⟩:=cD (n:=q1+q2) cK.o ((I:Int)+1);rw [←aQ];have cA:=Hd aS;clear aS aQ;refine (Mk b s (I+1) d _ c cj hs oM (dn c false (rest s (I+1))) rfl).mono ?_;intro e w3 hp;cases Hg:dn c false (rest s (I+1)) with
     | none=>
      rw [Hg] at hp;obtain⟨rfl,aV⟩:=hp;have hr:res=none:=by
       rw [←ay.o,C3.o.2,HQ.o,Hg];rfl
      have HR:=Hd hr;have bZ:=Hd aV;clear hr aV Hg;go_wp2_with fail;refine⟨rfl,?_⟩;rw [HR.o];exact⟨rfl,(rt.o.trans cA.o (λ x _ hx=>hx)).trans bZ.o (λ x _ hx=>hx)⟩
     | some k=>
      rw [Hg] at hp;obtain⟨rfl,d6,aV⟩:=hp;have hn:=C3.o.on (k:=k+1) (o':=n) (by rw [HQ.o,Hg];rfl);have oU:=rY Hg;rw [aO] at oU;have HN:=Hd hn;have bZ:=Hd aV;have eF:=Hd d6;clear hn aV Hg d6;go_wp2_with fail;go_roundg (s.size+2 - (I+(k+1)))
      case measure=>have:=fK.o;omega
      case rel=>exact⟨n,I+(k+1),rfl,rfl,oM,by have:=eF.o;rw [show I+1+k=I+(k+1) by omega] at this;exact this,(rt.o.trans cA.o (λ x _ hx=>hx)).trans bZ.o (λ x _ hx=>hx),HN.o,oM⟩
   ·have hn:=C3.o.on (k:=2) (o':=n) (CQ aW (by rw [←HC.o];exact t1));have HN:=Hd hn;have e1:((c.toNat:Int)==39)=false:=aw (c:=c) (k:=39) (by rw [t1];decide);have e2:((c.toNat:Int)==34)=false:=aw (c:=c) (k:=34) (by rw [t1];decide);have e3:((c.toNat:Int)==92)=true:=aE (c:=c) (k:=92) t1;clear t1 hn;go_wp2_with fail;obtain⟨w2,aQ,cj,aS⟩:=cD (n:=q1+q2) cK.o ((I:Int)+1)
    rw [←aQ];obtain⟨w3,kh,d6,aV⟩:=eb cj ((I:Int)+1+1);rw [←kh];go_roundg (s.size+2 - (I+2))
    case measure=>have:=fK.o;omega
    case rel=>exact⟨n,I+2,rfl,rfl,oM,d6,(rt.o.trans aS (λ x _ hx=>hx)).trans aV (λ x _ hx=>hx),HN.o,oM⟩
   ·have hn:=C3.o.on (k:=1) (o':=n+1) (by rw [ak aW,←HC.o,t1];rfl);have HN:=Hd hn;have e1:((c.toNat:Int)==39)=false:=aw (c:=c) (k:=39) (by rw [t1];decide);have e2:((c.toNat:Int)==34)=false:=aw (c:=c) (k:=34) (by rw [t1];decide);have e3:((c.toNat:Int)==92)=false:=aw (c:=c) (k:=92) (by rw [t1];decide);have e4:((c.toNat:Int)==40)=true:=aE (c:=c) (k:=40) t1;clear t1 hn
    go_wp2_with fail;obtain⟨w2,aQ,cj,aS⟩:=cD (n:=q1+q2) cK.o ((I:Int)+1);rw [←aQ];go_roundg (s.size+2 - (I+1))
    case measure=>have:=fK.o;omega
    case rel=>exact⟨n+1,I+1,by go_num,rfl,oM,cj,rt.o.trans aS (λ x _ hx=>hx),HN.o,oM⟩
   ·subst h0;have hr:res=some (I - i):=by rw [←ay.o];exact C3.o.stop aW (by rw [←HC.o];exact t1)
    have HR:=Hd hr;have e1:((c.toNat:Int)==39)=false:=aw (c:=c) (k:=39) (by rw [t1];decide);have e2:((c.toNat:Int)==34)=false:=aw (c:=c) (k:=34) (by rw [t1];decide);have e3:((c.toNat:Int)==92)=false:=aw (c:=c) (k:=92) (by rw [t1];decide);have e4:((c.toNat:Int)==40)=false:=aw (c:=c) (k:=40) (by rw [t1];decide);have e5:((c.toNat:Int)==41)=true:=aE (c:=c) (k:=41) t1;have mI:=HiI.o
    have U6:IntKind.i64.wrap ((I:Int)+1 - 1)=(I:Int):=by rw [show (I:Int)+1 - 1=(I:Int) by omega];exact nL _ oM
    have p1:(i:Int)≤(I:Int):=oM
    have p2:(I:Int)≤(s.size:Int):=oM
    clear t1 hr;go_wp2_with fail;go_quiet (fail);go_wp2_with fail;obtain⟨w2,aQ,cj,aS⟩:=cD (n:=q1+q2) cK.o ((I:Int)+1);rw [←aQ];go_ret;show ru w b s i 1 d res _ _;rw [HR.o];refine⟨_,rfl,?_,?_,(rt.o.trans aS (λ x _ hx=>hx)).drewN _⟩
    ·rw [Lib.extract_data];rfl
    ·rw [show i+(I - i+1)=I+1 by omega];exact cj.drewN _
   ·have hn:=C3.o.on (k:=1) (o':=n - 1) (by
     rw [ak aW,←HC.o,t1];show (if n=0 then some 0 else (ce .n (n - 1) (rest s (I+1))).map (· + 1))=_;rw [nF oM])
    have HN:=Hd hn;have e1:((c.toNat:Int)==39)=false:=aw (c:=c) (k:=39) (by rw [t1];decide);have e2:((c.toNat:Int)==34)=false:=aw (c:=c) (k:=34) (by rw [t1];decide);have e3:((c.toNat:Int)==92)=false:=aw (c:=c) (k:=92) (by rw [t1];decide);have e4:((c.toNat:Int)==40)=false:=aw (c:=c) (k:=40) (by rw [t1];decide);have e5:((c.toNat:Int)==41)=true:=aE (c:=c) (k:=41) t1;have e6:((n:Int)==0)=false:=by rw [nA];omega
    clear t1 hn;go_wp2_with fail;obtain⟨w2,aQ,cj,aS⟩:=cD (n:=q1+q2) cK.o ((I:Int)+1);rw [←aQ];go_roundg (s.size+2 - (I+1))
    case measure=>have:=fK.o;omega
    case rel=>exact⟨n - 1,I+1,by show Value.int .i64 ((n:Int) - 1)=_;congr 1;omega,rfl,oM,cj,rt.o.trans aS (λ x _ hx=>hx),HN.o,oM⟩
   ·have hn:=C3.o.on (k:=1) (o':=n) (by
     rw [ak aW,←HC.o];exact CR (nA.2 t1) (nA.2 t2) (nA.2 t3) (nA.2 t4) (nA.2 t5))
    have HN:=Hd hn;have e1:((c.toNat:Int)==39)=false:=aw (c:=c) (k:=39) t1;have e2:((c.toNat:Int)==34)=false:=aw (c:=c) (k:=34) t2;have e3:((c.toNat:Int)==92)=false:=aw (c:=c) (k:=92) t3;have e4:((c.toNat:Int)==40)=false:=aw (c:=c) (k:=40) t4;have e5:((c.toNat:Int)==41)=false:=aw (c:=c) (k:=41) t5;clear t1 t2 t3 t4 t5 hn;go_wp2_with fail;obtain⟨w2,aQ,cj,aS⟩:=cD (n:=q1+q2) cK.o ((I:Int)+1)
    rw [←aQ];go_roundg (s.size+2 - (I+1))
    case measure=>have:=fK.o;omega
    case rel=>exact⟨n,I+1,rfl,rfl,oM,cj,rt.o.trans aS (λ x _ hx=>hx),HN.o,oM⟩
  ·exact Ww
def dG (w:World) (B cs wb:Nat) (s:ByteArray) (d:Nat) (g:Option Nat) (N:List Pt×Bool) (res:mH) (e:Ending) (w':World):Prop:=
 match res with
 | .ok (l,r)=>e=.returned (.tuple #[])∧∃(i':Nat) (g':Option Nat),i'≤s.size∧rest s i'=r∧ah w' cs s i' d∧ml w' B cs wb g' (l.foldl cd N) (2*i')∧jL w g g'∧ae (Fp cs wb g) w w'
 | .error x=>e=sQ x∧ae (Fp cs wb g) w w'
def Ds (w:World) (b:Nat) (p:Pt) (v:Value):Prop:=∃T,w.heap[b]? = some (.cells (cH p v).toArray T (0,0))
def sH (w:World) (cs pb:Nat) (s:ByteArray) (d:Nat) (res:mH) (e:Ending) (w':World):Prop:=
 match res with
 | .ok (l,r)=>e=.returned (.tuple #[])∧∃(i' n:Nat) (x:Pt) (v:Value),i'≤s.size∧rest s i'=r∧l=[x]∧x.kind=3∧x.text=[]∧ah w' cs s i' d∧Ds w' pb x v∧az w' (λ b=>w.heap.size≤b) n x.word v∧ae (λ b=>b=cs∨b=pb) w w'
 | .error x=>e=sQ x∧ae (λ b=>b=cs∨b=pb) w w'
def mo (w:World) (cs:Nat) (s:ByteArray) (d:Nat) (res:mH) (e:Ending) (w':World):Prop:=
 match res with
 | .ok (l,r)=>∃(i' n:Nat) (v:Value),e=.returned v∧i'≤s.size∧rest s i'=r∧ah w' cs s i' d∧az w' (λ b=>w.heap.size≤b) n (eh l) v∧ae (λ b=>b=cs) w w'
 | .error x=>e=sQ x∧ae (λ b=>b=cs) w w'
structure Dd (n:Nat):Prop where
 out:∀(B cs wb:Nat) (s:ByteArray) (i d:Nat) (g:Option Nat) (N:List Pt×Bool) (w:World),ah w cs s i d→i<s.size→d≤40→s.size≤20000→ml w B cs wb g N (2*i)→2*(s.size - i)≤n→
  Calls Tryz.prog 116 #[.pointer (some ⟨cs,0,none⟩),.pointer (some ⟨wb,0,none⟩)] w (dG w B cs wb s d g N (bN n (.one false) d (rest s i)))
 inn:∀(B cs wb:Nat) (s:ByteArray) (i d:Nat) (g:Option Nat) (N:List Pt×Bool) (w:World),ah w cs s i d→i<s.size→au s i≠34→d≤40→s.size≤20000→ml w B cs wb g N (2*i)→2*(s.size - i)≤n→
  Calls Tryz.prog 148 #[.pointer (some ⟨cs,0,none⟩),.pointer (some ⟨wb,0,none⟩)] w (dG w B cs wb s d g N (bN n (.one true) d (rest s i)))
 dq:∀(B cs wb:Nat) (s:ByteArray) (i d m:Nat) (g:Option Nat) (N:List Pt×Bool) (w:World),ah w cs s i d→i≤s.size→d≤40→s.size≤20000→ml w B cs wb g N m→m+1≤2*i→2*(s.size - i)+1≤n→
  Calls Tryz.prog 135 #[.pointer (some ⟨cs,0,none⟩),.pointer (some ⟨wb,0,none⟩)] w (dG w B cs wb s d g N ((bN n .dq d (rest s i)).ahead [cq []]))
 dol:∀(q:Bool) (B cs wb:Nat) (s:ByteArray) (i d m:Nat) (g:Option Nat) (N:List Pt×Bool) (w:World),ah w cs s i d→i≤s.size→d≤40→s.size≤20000→ml w B cs wb g N m→m+2≤2*i→2*(s.size - i)+1≤n→
  Calls Tryz.prog 136 #[.pointer (some ⟨cs,0,none⟩),.pointer (some ⟨wb,0,none⟩),q] w (dG w B cs wb s d g N (bN n (.dol q) d (rest s i)))
 brace:∀(q:Bool) (cs pb:Nat) (s:ByteArray) (i d:Nat) (w:World),ah w cs s i d→i≤s.size→d≤40→s.size≤20000→cs≠pb→Ds w pb (.mk 0 [] [] [] [] q) (.slice none 0 0)→2*(s.size - i)+1≤n→
  Calls Tryz.prog 149 #[.pointer (some ⟨cs,0,none⟩),.pointer (some ⟨pb,0,none⟩)] w (sH w cs pb s d (bN n (.brace q) d (rest s i)))
 br:∀(q:Bool) (cs:Nat) (s:ByteArray) (i d:Nat) (w:World),ah w cs s i d→i≤s.size→d≤40→s.size≤20000→2*(s.size - i)+1≤n→
  Calls Tryz.prog 172 #[.pointer (some ⟨cs,0,none⟩),q] w (mo w cs s d (bN n (.br q) d (rest s i)))
theorem ml.le {w:World} {B cs wb:Nat} {g:Option Nat} {N:List Pt×Bool} {m:Nat} (h:ml w B cs wb g N m):cs<B∧B≤wb∧wb<w.heap.size:=by
 have hl:=h.wlt;obtain⟨v,raw,_,_,_,_,_,h3,_⟩:=h;exact⟨h3.1,h3.2,hl⟩
theorem lf (m d:Nat) (c:UInt8) (t:List UInt8):bN (m+1) (.one false) d (c::t) =
 if c==39 then (match bX 39 t with
  | none=>.error 2
  | some k=>.ok ([cq (t.take k)],t.drop (k+1)))
 else if c==34 then (bN m .dq d t).ahead [cq []]
 else if c==92 then (match t with
  | []=>.ok ([cq [92]],[])
  | x::t'=>if x==10 then .ok ([],t') else .ok ([cq [x]],t'))
 else if c==96 then .error 2
 else if c==36 then bN m (.dol false) d t
 else .ok ([dD [c]],t):=rfl
theorem ld (m d:Nat) (c:UInt8) (t:List UInt8):bN (m+1) (.one true) d (c::t) =
 if c==34 || c==96 then .error 2
 else if c==92 && aP 10 t then .ok ([],t.tail)
 else if c==92 && Aw (t.headD 0) then .ok ([cq [t.headD 0]],t.tail)
 else if c==36 then bN m (.dol true) d t
 else .ok ([cq [c]],t):=rfl
theorem oO (W:World) (H:Nat) (x:UInt8) (hH:W.heap.size=H):(convert 61 9 (.slice (some ⟨H,0,none⟩) 1 1)).run Tryz.prog (W.alloc (.cells #[.int .u8 (x.toNat:Nat)] 5))=.ok (.string ⟨#[x]⟩) (W.alloc (.cells #[.int .u8 (x.toNat:Nat)] 5)):=by
 subst hH;refine run_convert_bytes_back _ _ _ 5 _ 1 [x] Tryz.underlying61 Tryz.underlying5 Tryz.underlying9 (λ j hj=>?_);obtain rfl:j=0:=by simp at hj;omega
 have hb:=nG W (.cells #[.int .u8 (x.toNat:Nat)] 5);have:(⟨W.heap.size,0,none⟩:Addr).add 0=⟨W.heap.size,0,none⟩:=rfl;rw [this,cell_of_row _ _ 0 _ _ _ hb];rfl
theorem eR {w:World} {B cs wb i:Nat} {s:ByteArray} {d:Int} {g:Option Nat} {N:List Pt×Bool} {m n:Nat} (h:ah w cs s i d) (hb:ml w B cs wb g N m) (j:Int):∃w1,w1=(w.drewN n).setCell ⟨cs,1,none⟩ (.int .i64 j)∧ah w1 cs s j d∧ml w1 B cs wb g N m∧ae (λ b=>b=cs) w w1:=by
 obtain⟨w1,hw,hs,hk⟩:=cD (n:=n) h j;exact⟨w1,hw,hs,hb.keep hk (λ_ _ e=>e),hk⟩
theorem wS {w w1 w2:World} {B cs wb:Nat} {s:ByteArray} {i:Nat} {d:Nat} {g:Option Nat} {N N':List Pt×Bool} {m m':Nat} {e:Ending} (h:jB w1 B cs wb g N' m e w2) (hs:ah w1 cs s i d) (hb:ml w1 B cs wb g N m') (h1:ae (λ b=>b=cs) w w1) :
 e=.returned (.tuple #[])∧∃g',ah w2 cs s i d∧ml w2 B cs wb g' N' m∧jL w g g'∧ae (Fp cs wb g) w w2:=by
 obtain⟨he,g',qz,hn,hk⟩:=h;have hl:=hb.le;obtain⟨_,_,_,_,_,_,Rq,_⟩:=hb;have ek:=h1.size;refine⟨he,g',hs.keep hk (λ s=>by rcases s with s | s;omega;exact Rq s),qz,?_,?_⟩
 ·rcases hn with rfl | ⟨x,e1,hx⟩
  ·exact .inl rfl
  ·exact .inr ⟨x,e1,oM⟩
 ·exact (h1.mono (T:=Fp cs wb g) λ_ _ e=>.inl e).trans hk λ x _ e=>.inr e
theorem ju {w w1 w2:World} {B cs wb:Nat} {s:ByteArray} {i:Nat} {d:Nat} {g:Option Nat} {N N':List Pt×Bool} {m:Nat} {e:Ending} {l:List Pt} {r:List UInt8} (h:jB w1 B cs wb g N' m e w2) (hs:ah w1 cs s i d) {m':Nat} (hb:ml w1 B cs wb g N m') (h1:ae (λ b=>b=cs) w w1)
 (hi:i≤s.size) (hr:rest s i=r) (hN:l.foldl cd N=N') (hm:m≤2*i):dG w B cs wb s d g N (.ok (l,r)) e w2:=by
 obtain⟨he,g',h2,h3,h4,h5⟩:=wS h hs hb h1;exact⟨he,i,g',hi,hr,h2,by rw [hN];exact h3.mono hm,h4,h5⟩
theorem iv {w w1 w2:World} {B cs wb:Nat} {s:ByteArray} {d:Nat} {g:Option Nat} {N:List Pt×Bool} {res:mH} {e:Ending} (h:dG w1 B cs wb s d g N res e w2) (h1:ae (λ b=>b=cs) w w1):dG w B cs wb s d g N res e w2:=by
 cases res with
 | error x=>exact⟨h.1,(h1.mono (T:=Fp cs wb g) λ_ _ e=>.inl e).trans h.2 λ_ _ e=>e⟩
 | ok lr=>
  obtain⟨he,i',g',a1,a2,a3,a4,a5,a6⟩:=h;have ek:=h1.size;refine⟨he,i',g',a1,a2,a3,a4,?_,(h1.mono (T:=Fp cs wb g) λ_ _ e=>.inl e).trans a6 λ_ _ e=>e⟩;rcases a5 with rfl | ⟨x,e1,hx⟩
  ·exact .inl rfl
  ·exact .inr ⟨x,e1,oM⟩
theorem xq {w w1:World} {B cs wb:Nat} {s:ByteArray} {i:Nat} {d:Nat} {g:Option Nat} {N:List Pt×Bool} {m:Nat} {r:List UInt8} (hs:ah w1 cs s i d) (hb:ml w1 B cs wb g N m) (h1:ae (λ b=>b=cs) w w1)
 (hi:i≤s.size) (hr:rest s i=r) (hm:m≤2*i):dG w B cs wb s d g N (.ok ([],r)) (.returned (.tuple #[])) w1:=
 ⟨rfl,i,g,hi,hr,hs,hb.mono hm,.inl rfl,h1.mono λ_ _ e=>.inl e⟩
theorem EZ {w w2 w3:World} {B cs wb:Nat} {s:ByteArray} {j:Nat} {d:Nat} {g g':Option Nat} {N N':List Pt×Bool} {m:Nat} {l:List Pt} {r:List UInt8} (hb:ml w2 B cs wb g' N' m) (hn:jL w g g') (hk:ae (Fp cs wb g) w w2) (d6:ah w3 cs s j d) (aV:ae (λ b=>b=cs) w2 w3)
 (hi:j≤s.size) (hr:rest s j=r) (hN:l.foldl cd N=N') (hm:m≤2*j):dG w B cs wb s d g N (.ok (l,r)) (.returned (.tuple #[])) w3:=
 ⟨rfl,j,g',hi,hr,d6,by rw [hN];exact (hb.keep aV (λ_ _ e=>e)).mono hm,hn,hk.trans aV λ_ _ e=>.inl e⟩
theorem Mi (n:Nat) (IH:∀m,m<n→Dd m) (B cs wb:Nat) (s:ByteArray) (i d:Nat) (g:Option Nat) (N:List Pt×Bool) (w:World) (eY:ah w cs s i d) (hi:i<s.size) (hd:d≤40) (hs:s.size≤20000) (hb:ml w B cs wb g N (2*i)) (hn:2*(s.size - i)≤n) :
 Calls Tryz.prog 116 #[.pointer (some ⟨cs,0,none⟩),.pointer (some ⟨wb,0,none⟩)] w (dG w B cs wb s d g N (bN n (.one false) d (rest s i))):=by
 obtain⟨m,rfl⟩:∃m,n=m+1:=⟨n - 1,oM⟩;have hD:=IH m oM;clear IH;rw [ak hi];obtain⟨c,hc⟩:∃c,c=au s i:=⟨_,rfl⟩;rw [←hc];obtain⟨res,ag⟩:∃res,res=bN (m+1) (.one false) d (c::rest s (i+1)):=⟨_,rfl⟩;rw [←ag];rw [lf] at ag;have HC:=Hd hc;have HD:=Hd hD;have HB:=Hd hb;obtain⟨c0,c1,c2,f1,f2⟩:=eY.cells;have cK:=Hd eY;clear hc hD hb eY;have iP:i+1≤s.size:=hi;by_cases t:c=39
 ·have e1:((c.toNat:Int)==39)=true:=aE (c:=c) (k:=39) t;rw [nE (nH.2 t)] at ag;clear t;cases hu:bX 39 (rest s (i+1)) with
  | none=>
   rw [hu] at ag;dsimp only at ag;have ay:=Hd ag;clear ag;have HU:=Hd hu;clear hu;go_enter Tryz.func116,Tryz.ntmps116;go_wp2_with fail;refine (cB cs s i d _ cK.o oM oM).mono ?_;rintro e w1 ⟨rfl,q,rfl⟩;rw [←HC.o];go_wp2_with fail;obtain⟨w1,dM,dL,jD,bt⟩:=eR (n:=q) cK.o HB.o ((i:Int)+1);rw [←dM];have dp:=Hd bt;have sp:=Hd jD;have dF:=Hd dL;clear bt dM jD dL
   refine (II cs s (i+1) d _ dF.o oM iP HU.o).mono ?_;rintro e w2 ⟨rfl,aS⟩;have cA:=Hd aS;clear aS;go_wp2_with fail;refine⟨rfl,?_⟩;rw [ay.o];exact⟨rfl,(dp.o.trans cA.o k3).mono λ_ _ h=>.inl h⟩
  | some k=>
   have hk:=(lU hu).2;rw [aO] at hk;rw [hu] at ag;dsimp only at ag;rw [b8] at ag;have ay:=Hd ag;clear ag;have HU:=Hd hu;clear hu;go_enter Tryz.func116,Tryz.ntmps116;go_wp2_with fail;refine (cB cs s i d _ cK.o oM oM).mono ?_;rintro e w1 ⟨rfl,q,rfl⟩;rw [←HC.o];go_wp2_with fail;obtain⟨w1,dM,dL,jD,bt⟩:=eR (n:=q) cK.o HB.o ((i:Int)+1)
   rw [←dM];have dp:=Hd bt;have sp:=Hd jD;have dF:=Hd dL;clear bt dM jD dL;refine (EP cs s (i+1) k d _ dF.o oM iP HU.o).mono ?_;rintro e w2 ⟨r,rfl,hr,cj,aS⟩;have HR:=Hd hr;have gS:=Hd cj;have kQ:=Hd (sp.o.keep aS (λ_ _ e=>e));have cA:=Hd (dp.o.trans aS k3);have du:r.size=k:=by rw [nT,hr,List.length_take,aO];omega
   have tt:=Hd du;clear hr cj aS du;go_wp2_with fail;refine (mx B cs wb g N (2*i) r _ kQ.o oM (gS.o.lt)).mono ?_;intro e w3 hp;have cm:=ju (d:=d) (r:=rest s (i+1+(k+1))) (l:=[cq ((rest s (i+1)).take k)]) hp gS.o kQ.o cA.o oM rF (by rw [HR.o];rfl) (by have:=tt.o;omega);exact NX
 ·have e1:((c.toNat:Int)==39)=false:=aw (c:=c) (k:=39) t;rw [nF (λ h=>t (nH.1 h))] at ag;clear t;by_cases t:c=34
  ·have e2:((c.toNat:Int)==34)=true:=aE (c:=c) (k:=34) t;rw [nE (nH.2 t)] at ag;clear t;have ay:=Hd ag;clear ag;go_enter Tryz.func116,Tryz.ntmps116;go_wp2_with fail;refine (cB cs s i d _ cK.o oM oM).mono ?_;rintro e w1 ⟨rfl,q,rfl⟩;rw [←HC.o];go_wp2_with fail;obtain⟨w1,dM,dL,jD,bt⟩:=eR (n:=q) cK.o HB.o ((i:Int)+1);rw [←dM];have dp:=Hd bt
   have sp:=Hd jD;have dF:=Hd dL;clear bt dM jD dL;refine (HD.o.dq B cs wb s (i+1) d (2*i) g N w1 dF.o iP hd hs sp.o oM oM).mono ?_;intro e w2 hp;have cm:=iv hp dp.o;cases bM:(bN m .dq d (rest s (i+1))).ahead [cq []] with
   | error x=>
    exact S5
   | ok lr=>
    exact S4
  ·have e2:((c.toNat:Int)==34)=false:=aw (c:=c) (k:=34) t;rw [nF (λ h=>t (nH.1 h))] at ag;clear t;by_cases t:c=92
   ·have e3:((c.toNat:Int)==92)=true:=aE (c:=c) (k:=92) t;rw [nE (nH.2 t)] at ag;clear t;rcases nP (i+1) s.size with aW | lv
    ·rw [ak aW] at ag;dsimp only at ag;obtain⟨x,hx⟩:∃x,x=au s (i+1):=⟨_,rfl⟩;rw [←hx] at ag;by_cases oz:x=10
     ·rw [nE (nH.2 oz)] at ag;have hh:aP 10 (rest s (i+1))=true:=by rw [ak aW,←hx,oz];rfl
      have HH:=Hd hh;clear oz hh hx;have ay:=Hd ag;clear ag;go_enter Tryz.func116,Tryz.ntmps116;exact Wh
     ·rw [nF (λ h=>oz (nH.1 h))] at ag;have hh:aP 10 (rest s (i+1))=false:=by
       rw [ak aW,←hx];exact nA.2 oz
      have he:decide (s.size≤i+1)=false:=nV oM;have HE:=Hd he;have HH:=Hd hh;have HX:=Hd hx;clear oz hh hx he;have ay:=Hd ag;clear ag;go_enter Tryz.func116,Tryz.ntmps116;go_wp2_with fail;refine (cB cs s i d _ cK.o oM oM).mono ?_;rintro e w1 ⟨rfl,q,rfl⟩;rw [←HC.o];go_wp2_with fail;obtain⟨w1,dM,dL,jD,bt⟩:=eR (n:=q) cK.o HB.o ((i:Int)+1)
      rw [←dM];have dp:=Hd bt;have sp:=Hd jD;have dF:=Hd dL;clear bt dM jD dL;refine (gkz cs s ⟨#[10]⟩ (i+1) d _ dF.o iP (by rw [aq,bI];exact HH.o)).mono ?_;rintro e w2 ⟨rfl,q2,rfl⟩;go_wp2_with fail;refine (dT cs s (i+1) d _ (dF.o.drewN _)).mono ?_;rintro e w2 ⟨rfl,q3,rfl⟩;rw [HE.o];exact VX
    ·rw [aX lv] at ag;dsimp only at ag;have hh:aP 10 (rest s (i+1))=false:=by rw [aX lv];rfl
     have he:decide (s.size≤i+1)=true:=nU lv;have HE:=Hd he;have HH:=Hd hh;clear hh he;have ay:=Hd ag;clear ag;go_enter Tryz.func116,Tryz.ntmps116;go_wp2_with fail;refine (cB cs s i d _ cK.o oM oM).mono ?_;rintro e w1 ⟨rfl,q,rfl⟩;rw [←HC.o];go_wp2_with fail;obtain⟨w1,dM,dL,jD,bt⟩:=eR (n:=q) cK.o HB.o ((i:Int)+1);rw [←dM];have dp:=Hd bt
     have sp:=Hd jD;have dF:=Hd dL;clear bt dM jD dL;refine (gkz cs s ⟨#[10]⟩ (i+1) d _ dF.o iP (by rw [aq,bI];exact HH.o)).mono ?_;rintro e w2 ⟨rfl,q2,rfl⟩;go_wp2_with fail;refine (dT cs s (i+1) d _ (dF.o.drewN _)).mono ?_;rintro e w2 ⟨rfl,q3,rfl⟩;rw [HE.o];have gS:=Hd (dF.o.drewN (q2+q3));have bp:ae (λ b=>b=cs) w1 (w1.drewN (q2+q3)):=(ae.refl _ _).drewN _
     have kQ:=Hd (sp.o.keep bp (λ_ _ e=>e));have cA:=Hd (dp.o.trans bp k3);clear bp;go_wp2_with fail;refine (mx B cs wb g N (2*i) ⟨#[92]⟩ _ kQ.o oM (gS.o.lt)).mono ?_;intro e w3 hp;have cm:=ju (d:=d) (i:=i+1) (r:=[]) (l:=[cq [92]]) hp gS.o kQ.o cA.o iP (aX lv) rfl (by show 2*i+1+1≤_;omega);exact NX
   ·have e3:((c.toNat:Int)==92)=false:=aw (c:=c) (k:=92) t;rw [nF (λ h=>t (nH.1 h))] at ag;clear t;by_cases t:c=96
    ·have e4:((c.toNat:Int)==96)=true:=aE (c:=c) (k:=96) t;rw [nE (nH.2 t)] at ag;clear t;have ay:=Hd ag;clear ag;go_enter Tryz.func116,Tryz.ntmps116;exact Wu
    ·have e4:((c.toNat:Int)==96)=false:=aw (c:=c) (k:=96) t;rw [nF (λ h=>t (nH.1 h))] at ag;clear t;by_cases t:c=36
     ·have e5:((c.toNat:Int)==36)=true:=aE (c:=c) (k:=36) t;rw [nE (nH.2 t)] at ag;clear t;have ay:=Hd ag;clear ag;go_enter Tryz.func116,Tryz.ntmps116;go_wp2_with fail;refine (cB cs s i d _ cK.o oM oM).mono ?_;rintro e w1 ⟨rfl,q,rfl⟩;rw [←HC.o];go_wp2_with fail;obtain⟨w1,dM,dL,jD,bt⟩:=eR (n:=q) cK.o HB.o ((i:Int)+1);rw [←dM];have dp:=Hd bt
      have sp:=Hd jD;have dF:=Hd dL;clear bt dM jD dL;refine (HD.o.dol false B cs wb s (i+1) d (2*i) g N w1 dF.o iP hd hs sp.o oM oM).mono ?_;intro e w2 hp;have cm:=iv hp dp.o;cases bM:bN m (.dol false) d (rest s (i+1)) with
      | error x=>
       exact S5
      | ok lr=>
       exact S4
     ·have e5:((c.toNat:Int)==36)=false:=aw (c:=c) (k:=36) t;rw [nF (λ h=>t (nH.1 h))] at ag;clear t;have ay:=Hd ag;clear ag;have kb:=oO;go_enter Tryz.func116,Tryz.ntmps116;go_wp2_with fail;refine (cB cs s i d _ cK.o oM oM).mono ?_;rintro e w1 ⟨rfl,q,rfl⟩;rw [←HC.o];go_wp2_with fail;obtain⟨w1,dM,dL,jD,bt⟩:=eR (n:=q) cK.o HB.o ((i:Int)+1)
      rw [←dM];have dp:=Hd bt;have sp:=Hd jD;have dF:=Hd dL;clear bt dM jD dL;clear kb;have gS:=Hd (dF.o.alloc (.cells #[.int .u8 (c.toNat:Nat)] 5));have bp:ae (λ b=>b=cs) w1 (w1.alloc (.cells #[.int .u8 (c.toNat:Nat)] 5)):=(ae.refl _ _).alloc _;have kQ:=Hd (sp.o.keep bp (λ_ _ e=>e));have cA:=Hd (dp.o.trans bp k3);clear bp;refine (Co B cs wb g N (2*i) ⟨#[c]⟩ _ kQ.o sI oM (gS.o.lt)).mono ?_
      intro e w3 hp;have cm:=ju (d:=d) (i:=i+1) (r:=rest s (i+1)) (l:=[dD [c]]) hp gS.o kQ.o cA.o iP rfl rfl (by show 2*i+1+1≤_;omega);exact NX
theorem BS (c:UInt8):xX ⟨#[36,34,92,96]⟩ c=Aw c:=by
 have h:∀n:Fin 256,xX ⟨#[36,34,92,96]⟩ (UInt8.ofNat n.val)=Aw (UInt8.ofNat n.val):=by decide +kernel
 exact BH
theorem nj (s:ByteArray) (i:Nat):(rest s i).tail=rest s (i+1):=by rw [←b8,List.drop_one]
theorem LY (n:Nat) (IH:∀m,m<n→Dd m) (B cs wb:Nat) (s:ByteArray) (i d:Nat) (g:Option Nat) (N:List Pt×Bool) (w:World) (eY:ah w cs s i d) (hi:i<s.size) (yd:au s i≠34) (hd:d≤40) (hs:s.size≤20000) (hb:ml w B cs wb g N (2*i)) (hn:2*(s.size - i)≤n) :
 Calls Tryz.prog 148 #[.pointer (some ⟨cs,0,none⟩),.pointer (some ⟨wb,0,none⟩)] w (dG w B cs wb s d g N (bN n (.one true) d (rest s i))):=by
 obtain⟨m,rfl⟩:∃m,n=m+1:=⟨n - 1,oM⟩;have hD:=IH m oM;clear IH;rw [ak hi];obtain⟨c,hc⟩:∃c,c=au s i:=⟨_,rfl⟩;rw [←hc];obtain⟨res,ag⟩:∃res,res=bN (m+1) (.one true) d (c::rest s (i+1)):=⟨_,rfl⟩;rw [←ag];rw [ld] at ag;have HC:=Hd hc;have HD:=Hd hD;have HB:=Hd hb;obtain⟨c0,c1,c2,f1,f2⟩:=eY.cells;have cK:=Hd eY;clear hc hD hb eY;have iP:i+1≤s.size:=hi;have Xa:(c==34)=false:=nA.2 (by rw [HC.o];exact yd)
 rw [Xa,Bool.false_or] at ag;clear Xa yd;by_cases t:c=92
 ·have e3:((c.toNat:Int)==92)=true:=aE (c:=c) (k:=92) t;have Dc:(c==96)=false:=by rw [t];decide
  have lS:(c==92)=true:=nH.2 t;have e4:((c.toNat:Int)==96)=false:=aw (c:=c) (k:=96) (by rw [t];decide);have e5:((c.toNat:Int)==36)=false:=aw (c:=c) (k:=36) (by rw [t];decide);have Db:(c==36)=false:=by rw [t];decide
  rw [Dc,lS,Db,nF sI] at ag;clear Dc lS Db;clear t;rw [Bool.true_and,Bool.true_and] at ag;cases hh:aP 10 (rest s (i+1))
  ·rw [hh,nF sI] at ag;cases he:Aw ((rest s (i+1)).headD 0)
   ·rw [he,nF sI,nF sI] at ag;rcases nP (i+1) s.size with aW | lv
    ·obtain⟨x,hx⟩:∃x,x=au s (i+1):=⟨_,rfl⟩;have Jg:(rest s (i+1)).headD 0=x:=by rw [ak aW,hx];rfl
     rw [Jg] at he;have HH:=Hd hh;have HX:=Hd hx;have ZF:=Hd he;clear hh hx Jg he;have ay:=Hd ag;clear ag;have kb:=oO;go_enter Tryz.func148,Tryz.ntmps148;go_wp2_with fail;refine (cB cs s i d _ cK.o oM oM).mono ?_;rintro e w1 ⟨rfl,q,rfl⟩;rw [←HC.o];go_wp2_with fail;obtain⟨w1,dM,dL,jD,bt⟩:=eR (n:=q) cK.o HB.o ((i:Int)+1);rw [←dM];have dp:=Hd bt
     have sp:=Hd jD;have dF:=Hd dL;clear bt dM jD dL;refine (gkz cs s ⟨#[10]⟩ (i+1) d _ dF.o iP (by rw [aq,bI];exact HH.o)).mono ?_;rintro e w2 ⟨rfl,q2,rfl⟩;go_wp2_with fail;refine (gi cs s _ (i+1) d _ (dF.o.drewN _) oM aW false (by rw [BS,←HX.o];exact ZF.o)).mono ?_;exact QX
    ·have HH:=Hd hh;clear hh he;have ay:=Hd ag;clear ag;have kb:=oO;go_enter Tryz.func148,Tryz.ntmps148;go_wp2_with fail;refine (cB cs s i d _ cK.o oM oM).mono ?_;rintro e w1 ⟨rfl,q,rfl⟩;rw [←HC.o];go_wp2_with fail;obtain⟨w1,dM,dL,jD,bt⟩:=eR (n:=q) cK.o HB.o ((i:Int)+1);rw [←dM];have dp:=Hd bt;have sp:=Hd jD;have dF:=Hd dL;clear bt dM jD dL
     refine (gkz cs s ⟨#[10]⟩ (i+1) d _ dF.o iP (by rw [aq,bI];exact HH.o)).mono ?_;rintro e w2 ⟨rfl,q2,rfl⟩;go_wp2_with fail;refine (yC cs s _ (i+1) d _ (dF.o.drewN _) lv).mono ?_;exact QX
   ·rw [he,nE rfl] at ag;have aW:i+1<s.size:=by
     rcases nP (i+1) s.size with x | x
     ·exact x
     ·rw [aX x] at he;cases he
    obtain⟨x,hx⟩:∃x,x=au s (i+1):=⟨_,rfl⟩;have Jg:(rest s (i+1)).headD 0=x:=by rw [ak aW,hx];rfl
    rw [nj,Jg] at ag;rw [Jg] at he;have ay:=Hd ag;clear ag;have HH:=Hd hh;have HX:=Hd hx;have ZF:=Hd he;clear hh hx Jg he;go_enter Tryz.func148,Tryz.ntmps148;go_wp2_with fail;refine (cB cs s i d _ cK.o oM oM).mono ?_;rintro e w1 ⟨rfl,q,rfl⟩;rw [←HC.o];go_wp2_with fail;obtain⟨w1,dM,dL,jD,bt⟩:=eR (n:=q) cK.o HB.o ((i:Int)+1);rw [←dM];have dp:=Hd bt
    have sp:=Hd jD;have dF:=Hd dL;clear bt dM jD dL;refine (gkz cs s ⟨#[10]⟩ (i+1) d _ dF.o iP (by rw [aq,bI];exact HH.o)).mono ?_;rintro e w2 ⟨rfl,q2,rfl⟩;go_wp2_with fail;refine (gi cs s _ (i+1) d _ (dF.o.drewN _) oM aW true (by rw [BS,←HX.o];exact ZF.o)).mono ?_;rintro e w2 ⟨rfl,q3,rfl⟩;exact VX
  ·rw [hh,nE rfl] at ag;have aW:i+1<s.size:=by
    rcases nP (i+1) s.size with x | x
    ·exact x
    ·rw [aX x] at hh;cases hh
   rw [nj] at ag;have ay:=Hd ag;clear ag;have HH:=Hd hh;clear hh;go_enter Tryz.func148,Tryz.ntmps148;exact Wh
 ·have e3:((c.toNat:Int)==92)=false:=aw (c:=c) (k:=92) t;have lS:(c==92)=false:=nA.2 t;rw [lS,Bool.false_and,Bool.false_and] at ag;clear t lS;by_cases t:c=96
  ·have e4:((c.toNat:Int)==96)=true:=aE (c:=c) (k:=96) t;rw [nE (nH.2 t)] at ag;clear t;have ay:=Hd ag;clear ag;go_enter Tryz.func148,Tryz.ntmps148;exact Wu
  ·have e4:((c.toNat:Int)==96)=false:=aw (c:=c) (k:=96) t;rw [nF (λ h=>t (nH.1 h)),nF sI,nF sI] at ag;clear t;by_cases t:c=36
   ·have e5:((c.toNat:Int)==36)=true:=aE (c:=c) (k:=36) t;rw [nE (nH.2 t)] at ag;clear t;have ay:=Hd ag;clear ag;go_enter Tryz.func148,Tryz.ntmps148;go_wp2_with fail;refine (cB cs s i d _ cK.o oM oM).mono ?_;rintro e w1 ⟨rfl,q,rfl⟩;rw [←HC.o];go_wp2_with fail;obtain⟨w1,dM,dL,jD,bt⟩:=eR (n:=q) cK.o HB.o ((i:Int)+1);rw [←dM];have dp:=Hd bt
    have sp:=Hd jD;have dF:=Hd dL;clear bt dM jD dL;refine (HD.o.dol true B cs wb s (i+1) d (2*i) g N w1 dF.o iP hd hs sp.o oM oM).mono ?_;intro e w2 hp;have cm:=iv hp dp.o;cases bM:bN m (.dol true) d (rest s (i+1)) with
    | error x=>
     exact S5
    | ok lr=>
     exact S4
   ·have e5:((c.toNat:Int)==36)=false:=aw (c:=c) (k:=36) t;rw [nF (λ h=>t (nH.1 h))] at ag;clear t;have ay:=Hd ag;clear ag;have kb:=oO;go_enter Tryz.func148,Tryz.ntmps148;go_wp2_with fail;refine (cB cs s i d _ cK.o oM oM).mono ?_;rintro e w1 ⟨rfl,q,rfl⟩;rw [←HC.o];go_wp2_with fail;obtain⟨w1,dM,dL,jD,bt⟩:=eR (n:=q) cK.o HB.o ((i:Int)+1)
    rw [←dM];have dp:=Hd bt;have sp:=Hd jD;have dF:=Hd dL;clear bt dM jD dL;clear kb;have gS:=Hd (dF.o.alloc (.cells #[.int .u8 (c.toNat:Nat)] 5));have bp:ae (λ b=>b=cs) w1 (w1.alloc (.cells #[.int .u8 (c.toNat:Nat)] 5)):=(ae.refl _ _).alloc _;exact Wd
def Md.least:Md→Nat | .one _=>1 | _=>0
theorem lP (n d:Nat) (r:List UInt8):bN (n+1) .dq d r=match r with
 | []=>.error 2
 | c::t=>if c==34 then .ok ([],t) else match bN n (.one true) d r with
  | .error e=>.error e
  | .ok (l,r1)=>(bN n .dq d r1).ahead l:=by cases r<;>rfl
theorem lO (n d:Nat) (q:Bool) (r:List UInt8):bN (n+1) (.br q) d r=match r with
 | []=>.error 2
 | c::t=>if c==125 then .ok ([],t) else match bN n (.one q) d r with
  | .error e=>.error e
  | .ok (l,r1)=>(bN n (.br q) d r1).ahead l:=by cases r<;>rfl
theorem mu (n d:Nat) (q:Bool) (r:List UInt8):bN (n+1) (.dol q) d r =
 if aP 123 r then bN n (.brace q) d r.tail
 else if aI [40,40] r then (match ci 0 (r.drop 2) with
  | none=>.error 2
  | some k=>.ok ([.mk 4 ((r.drop 2).take k) [] [] [] q],(r.drop 2).drop (k+2)))
 else if aP 40 r then (match ce .n 0 r.tail with
  | none=>.error 2
  | some k=>.ok ([.mk 5 (r.tail.take k) [] [] [] q],r.tail.drop (k+1)))
 else if bQ false r=0 then .ok ([if q then cq [36] else dD [36]],r)
 else .ok ([.mk 3 [] (r.take (bQ false r)) [] [] q],r.drop (bQ false r)):=rfl
theorem jn (n d:Nat) (q:Bool) (r:List UInt8):bN (n+1) (.brace q) d r =
 if bQ true (if bu r then r.tail else r)=0 then .error 2
 else if aP 125 ((if bu r then r.tail else r).drop (bQ true (if bu r then r.tail else r))) then .ok ([.mk 3 [] ((if bu r then r.tail else r).take (bQ true (if bu r then r.tail else r))) (if bu r then [76] else []) [] q],((if bu r then r.tail else r).drop (bQ true (if bu r then r.tail else r))).tail)
 else if (lF ((if bu r then r.tail else r).drop (bQ true (if bu r then r.tail else r)))).isEmpty || bu r then .error 2
 else if d=40 then .error 3
 else match bN n (.br q) (d+1) (((if bu r then r.tail else r).drop (bQ true (if bu r then r.tail else r))).drop (lF ((if bu r then r.tail else r).drop (bQ true (if bu r then r.tail else r)))).length) with
  | .error e=>.error e
  | .ok (l,r3)=>.ok ([.mk 3 [] ((if bu r then r.tail else r).take (bQ true (if bu r then r.tail else r))) (lF ((if bu r then r.tail else r).drop (bQ true (if bu r then r.tail else r)))) (eh l) q],r3):=rfl
theorem gY {l m:List Pt} {r:List UInt8} {R:mH} (h:R.ahead l=.ok (m,r)):∃m',R=.ok (m',r)∧m=l++m':=by
 cases R with
 | error e=>cases h
 | ok x=>
  obtain⟨a,b⟩:=x;simp only [mH.ahead,Except.ok.injEq,Prod.mk.injEq] at h;exact⟨a,by rw [h.2],h.1.symm⟩
theorem cS:∀(n:Nat) (md:Md) (d:Nat) (r:List UInt8) (l:List Pt) (r1:List UInt8),bN n md d r=.ok (l,r1)→r1.length≤r.length - md.least:=by
 intro n;induction n with
 | zero=>intro md d r l r1 h;cases md<;>cases h
 | succ n ih=>
  intro md d r l r1 h;cases md with
  | one q=>
   cases r with
   | nil=>cases q<;>(cases h;exact nB _)
   | cons c t=>
    show r1.length≤t.length+1 - 1;have lE:t.tail.length≤t.length:=by rw [List.length_tail];omega
    cases q with
    | false=>
     rw [lf] at h;split at h
     ·split at h
      ·cases h
      ·cases h;rw [nI];omega
     split at h
     ·obtain⟨m',h',_⟩:=gY h;exact ih _ _ _ _ _ h'
     split at h
     ·split at h
      ·cases h;exact nB _
      ·split at h<;>(cases h;simp only [lC];omega)
     split at h
     ·cases h
     split at h
     ·exact ih _ _ _ _ _ h
     ·cases h;omega
    | true=>
     rw [ld] at h;split at h
     ·cases h
     split at h
     ·cases h;omega
     split at h
     ·cases h;omega
     split at h
     ·exact ih _ _ _ _ _ h
     ·cases h;omega
  | dq=>
   rw [lP] at h;exact WI
  | br q=>
   rw [lO] at h;exact WI
  | dol q=>
   rw [mu] at h;show r1.length≤r.length;have lE:r.tail.length≤r.length:=by rw [List.length_tail];omega
   split at h
   ·have:=ih _ _ _ _ _ h;simp only [Md.least] at this;omega
   split at h
   ·split at h
    ·cases h
    ·exact KF
   split at h
   ·split at h
    ·cases h
    ·exact KF
   split at h
   ·cases h;omega
   ·exact KF
  | brace q=>
   rw [jn] at h;show r1.length≤r.length;have h0:(if bu r then r.tail else r).length≤r.length:=by
    split
    ·rw [List.length_tail];omega
    ·exact nC _
   revert h h0;generalize (if bu r then r.tail else r)=r';intro h h0;split at h
   ·cases h
   split at h
   ·cases h;simp only [List.length_tail,nI];omega
   split at h
   ·cases h
   split at h
   ·cases h
   split at h
   ·cases h
   ·next l' r3 h1=>
    cases h;have:=ih _ _ _ _ _ h1;simp only [Md.least,nI] at this;omega
def Zu (n d:Nat) (r0:List UInt8) (m:Nat) (l:List Pt) (r:List UInt8):Prop:=bN n .dq d r0=(bN m .dq d r).ahead l
theorem jM (a b:List Pt) (R:mH):(R.ahead b).ahead a=R.ahead (a++b):=by
 cases R with
 | error e=>rfl
 | ok x=>obtain⟨m,r⟩:=x;show Except.ok _=Except.ok _;rw [aA]
theorem sM (R:mH):R.ahead []=R:=by
 cases R with
 | error e=>rfl
 | ok x=>rfl
theorem xp {w w1 w2:World} {B cs wb:Nat} {s:ByteArray} {d:Nat} {g g1:Option Nat} {N N1:List Pt×Bool} {res:mH} {e:Ending} {l:List Pt} (h:dG w1 B cs wb s d g1 N1 res e w2) (hN:l.foldl cd N=N1) (hn:jL w g g1) (hk:ae (Fp cs wb g) w w1):dG w B cs wb s d g N (res.ahead l) e w2:=by
 cases res with
 | error x=>exact⟨h.1,hk.next hn h.2⟩
 | ok lr=>
  obtain⟨m,r⟩:=lr;obtain⟨he,i',g',a1,a2,a3,a4,a5,a6⟩:=h;refine⟨he,i',g',a1,a2,a3,?_,hn.trans hk.size a5,hk.next hn a6⟩;rw [List.foldl_append,hN];exact a4
theorem Oa (n:Nat) (IH:∀m,m<n→Dd m) (B cs wb:Nat) (s:ByteArray) (i d m:Nat) (g:Option Nat) (N:List Pt×Bool) (w:World) (eY:ah w cs s i d) (hi:i≤s.size) (hd:d≤40) (hs:s.size≤20000) (hb:ml w B cs wb g N m) (hm:m+1≤2*i) (hn:2*(s.size - i)+1≤n) :
 Calls Tryz.prog 135 #[.pointer (some ⟨cs,0,none⟩),.pointer (some ⟨wb,0,none⟩)] w (dG w B cs wb s d g N ((bN n .dq d (rest s i)).ahead [cq []])):=by
 have HD:=Hd IH;have HB:=Hd hb;have cK:=Hd eY;have UN:=hb.le;obtain⟨res,ag⟩:∃res,res=(bN n .dq d (rest s i)).ahead [cq []]:=⟨_,rfl⟩;rw [←ag];have ay:=Hd ag;clear eY hb IH ag;go_enter Tryz.func135,Tryz.ntmps135;go_wp2_with fail;refine (mx B cs wb g N m ⟨#[]⟩ _ HB.o oM (cK.o.lt)).mono ?_;intro e w1 hp;obtain⟨he,g1,dL,jD,Bl,bt⟩:=wS (d:=d) (i:=i) hp cK.o HB.o (ae.refl _ _)
 subst he;have dF:=Hd dL;have sp:=Hd jD;have HN1:=Hd Bl;have dp:=Hd bt;clear dL jD Bl bt hp;go_wp2_with fail;go_loopg [] (s.size+2 - i) (λ k wr=>∃(I M:Nat) (l:List Pt) (g':Option Nat),k=s.size+2 - I∧I≤s.size∧ah wr cs s I d∧ml wr B cs wb g' ((cq []::l).foldl cd N) (2*I)∧jL w g g'∧ae (Fp cs wb g) w wr∧M≤n∧2*(s.size - I)+1≤M∧Zu n d (rest s i) M l (rest s I))
 case atStart=>exact⟨i,n,[],g1,rfl,hi,dF.o,sp.o.mono (by show m+0+1≤_;omega),HN1.o,dp.o,nC _,hn,(sM _).symm⟩
 case round=>
  obtain⟨I,M,l,g',eH,hI,eY,Lu,Rv,pS,hM,hMn,bf⟩:=hrel;have fK:=Hd eH;have jZ:=Hd eY;have M5:=Hd Lu;have I5:=Hd Rv;have zT:=Hd pS;obtain⟨M,rfl⟩:∃M',M=M'+1:=⟨M - 1,oM⟩;have hr:res=(bN (M+1) .dq d (rest s I)).ahead (cq []::l):=by
   rw [ay.o,show bN n .dq d (rest s i)=_ from bf,jM];rfl
  have kP:=Hd (show bN n .dq d (rest s i)=_ from bf);clear eH eY Lu Rv pS bf dF sp HN1 dp;rcases nP I s.size with aW | lv
  ·obtain⟨c,hc⟩:∃c,c=au s I:=⟨_,rfl⟩;rw [lP,ak aW,←hc] at hr;dsimp only at hr;by_cases t:c=34
   ·rw [nE (nH.2 t)] at hr;have hh:aP 34 (rest s I)=true:=by rw [ak aW,←hc,t];rfl
    have HH:=Hd hh;have HR:=Hd hr;clear hr hh t hc;go_wp2_with fail;refine (kq cs s ⟨#[34]⟩ I d _ jZ.o oM hI dC (by rw [aq,bI];exact HH.o)).mono ?_;rintro e w2 ⟨rfl,cj,aS⟩;have gS:=Hd cj;have kQ:=Hd (M5.o.keep aS (λ_ _ e=>e));have cA:=Hd aS;clear cj aS;go_wp2_with fail;go_end0;rw [HR.o];exact xp (xq (i:=I+1) gS.o kQ.o cA.o aW rfl oM) rfl I5.o zT.o
   ·rw [nF (λ h=>t (nH.1 h)),hc,←ak aW] at hr;have hh:aP 34 (rest s I)=false:=by
     rw [ak aW,←hc];exact nA.2 t
    have yd:au s I≠34:=by rw [←hc];exact t
    have he:decide (s.size≤I)=false:=nV oM;have HE:=Hd he;have HH:=Hd hh;have HR:=Hd hr;have Yr:=Hd yd;clear hr hh t hc he yd;go_wp2_with fail;refine (gkz cs s ⟨#[34]⟩ I d _ jZ.o hI (by rw [aq,bI];exact HH.o)).mono ?_;rintro e w2 ⟨rfl,q2,rfl⟩;go_wp2_with fail;refine (dT cs s I d _ (jZ.o.drewN _)).mono ?_;rintro e w2 ⟨rfl,q3,rfl⟩;rw [HE.o]
    go_wp2_with fail;have bp:ae (λ b=>b=cs) wr (wr.drewN (q2+q3)):=(ae.refl _ _).drewN _;refine ((HD.o M oM).inn B cs wb s I d g' _ _ (jZ.o.drewN (q2+q3)) aW Yr.o hd hs (M5.o.keep bp (λ_ _ e=>e)) oM).mono ?_;intro e w3 hp;have cm:=iv hp bp;cases bM:bN M (.one true) d (rest s I) with
    | error x=>
     rw [bM] at hp cm;have dU:=HR.o;rw [bM] at dU;have gF:=Hd dU;have he:=hp.1;subst he;have HF:=Hd cm;clear hp cm bM dU bp;go_wp2_with fail;refine⟨rfl,?_⟩;rw [gF.o];exact xp HF.o rfl I5.o zT.o
    | ok lr=>
     obtain⟨l2,r2⟩:=lr;rw [bM] at hp cm;have dU:=HR.o;rw [bM] at dU;dsimp only at dU;have bS:=cS _ _ _ _ _ _ bM;have jQ:=kP.o;rw [lP,ak aW] at jQ;dsimp only at jQ;rw [nF (λ h=>Yr.o (nH.1 h)),←ak aW,bM] at jQ;dsimp only at jQ;rw [jM] at jQ;have he:=hp.1;subst he;obtain⟨_,I2,g2,a1,a2,a3,a4,a5,a6⟩:=cm;rw [←a2,aO,aO] at bS
     rw [←a2] at jQ;have JI:=Hd jQ;rw [jM,←a2] at dU;have eF:=Hd a3;have Pg:=Hd a4;have Pm:=Hd a5;have bZ:=Hd a6;have eV:=Hd dU;have LB:I+1≤I2:=by simp only [Md.least] at bS;omega
     clear hp bM dU bp jQ a2 a3 a4 a5 a6 bS;go_wp2_with fail;go_roundg (s.size+2 - I2)
     case measure=>have:=fK.o;omega
     case rel=>exact⟨I2,M,l++l2,g2,rfl,a1,eF.o,by rw [←nZ,List.foldl_append];exact Pg.o,I5.o.trans zT.o.size Pm.o,zT.o.next I5.o bZ.o,oM,oM,JI.o⟩
  ·rw [lP,aX lv] at hr;dsimp only at hr;have hh:aP 34 (rest s I)=false:=by rw [aX lv];rfl
   have he:decide (s.size≤I)=true:=nU lv;have HE:=Hd he;have HH:=Hd hh;have HR:=Hd hr;clear hh he hr;go_wp2_with fail;refine (gkz cs s ⟨#[34]⟩ I d _ jZ.o hI (by rw [aq,bI];exact HH.o)).mono ?_;rintro e w2 ⟨rfl,q2,rfl⟩;go_wp2_with fail;refine (dT cs s I d _ (jZ.o.drewN _)).mono ?_;rintro e w2 ⟨rfl,q3,rfl⟩;rw [HE.o];go_wp2_with fail;refine (fQ 2 _).mono ?_
   rintro e w2 ⟨rfl,rfl⟩;go_wp2_with fail;refine⟨rfl,?_⟩;rw [HR.o];exact⟨rfl,zT.o.drewN _⟩
theorem ml.new {w:World} {cs:Nat} (T:TypeId) (iy:cs<w.heap.size):ml (w.alloc (.cells #[()] T)) w.heap.size cs w.heap.size none ([],false) 0:=
 ⟨.slice none 0 0,[],⟨T,nG w _⟩,ey.nil _ _,rfl,sI,sI,⟨iy,nC _⟩,rfl,(λ p hp=>by cases hp),nC _⟩
theorem sR {w w1:World} {cs:Nat} {o:Obj} (hk:ae (Fp cs w.heap.size none) (w.alloc o) w1):ae (λ b=>b=cs) w w1:=
 ((
  (ae.refl _ _).alloc o:ae (λ b=>b=cs) w (w.alloc o))).trans hk λ x hx h=>by
  rcases h with h | h | h
  ·exact h
  ·omega
  ·cases h
def Zt (n d:Nat) (q:Bool) (r0:List UInt8) (m:Nat) (l:List Pt) (r:List UInt8):Prop:=bN n (.br q) d r0=(bN m (.br q) d r).ahead l
theorem Hq {w w1 w2 w3:World} {cs I n:Nat} {s:ByteArray} {d:Nat} {l:List Pt} {v:Value} {W:Nat→Prop} (hk:ae (λ b=>b=cs) w w1) (aS:ae (λ b=>b=cs) w1 w2) (hs:ah w2 cs s I d) (hI:I≤s.size)
 (hp:az w3 W n (lq (l.foldl cd ([],false))) v) (hW:∀b,W b→w.heap.size≤b) (aV:K0 w2 w3):mo w cs s d (.ok (l,rest s I)) (.returned v) w3:=
 ⟨I,n,v,rfl,hI,rfl,hs.keep aV (λ h=>h),hp.mono (λ b _ h=>hW b h),(hk.trans aS λ_ _ h=>h).trans aV λ_ _ h=>h.elim⟩
theorem NT (n:Nat) (IH:∀m,m<n→Dd m) (q:Bool) (cs:Nat) (s:ByteArray) (i d:Nat) (w:World) (eY:ah w cs s i d) (hi:i≤s.size) (hd:d≤40) (hs:s.size≤20000) (hn:2*(s.size - i)+1≤n) :
 Calls Tryz.prog 172 #[.pointer (some ⟨cs,0,none⟩),q] w (mo w cs s d (bN n (.br q) d (rest s i))):=by
 have HD:=Hd IH;have cK:=Hd eY;have Tv:=eY.lt;obtain⟨res,ag⟩:∃res,res=bN n (.br q) d (rest s i):=⟨_,rfl⟩;rw [←ag];have ay:=Hd ag;clear eY IH ag;go_enter Tryz.func172,Tryz.ntmps172;go_wp2_with fail;obtain⟨H,hH⟩:∃H,H=w.heap.size:=⟨_,rfl⟩;have HH0:=Hd hH;go_loopg [] (s.size+2 - i) (λ k wr=>∃(I M:Nat) (l:List Pt) (g':Option Nat),k=s.size+2 - I∧I≤s.size∧ah wr cs s I d∧ml wr w.heap.size cs w.heap.size g' (l.foldl cd ([],false)) (2*I)∧jL (w.alloc (.cells #[()] 148)) none g'∧ae (Fp cs w.heap.size none) (w.alloc (.cells #[()] 148)) wr∧M≤n∧2*(s.size - I)+1≤M∧Zt n d q (rest s i) M l (rest s I))
 case atStart=>exact⟨i,n,[],none,rfl,hi,cK.o.alloc _,(ml.new _ Tv).mono (nB _),jL.refl _ _,ae.refl _ _,nC _,hn,(sM _).symm⟩
 case round=>
  obtain⟨I,M,l,g',eH,hI,eY,Lu,Rv,pS,hM,hMn,bf⟩:=hrel;have fK:=Hd eH;have jZ:=Hd eY;have M5:=Hd Lu;have I5:=Hd Rv;have zT:=Hd pS;obtain⟨M,rfl⟩:∃M',M=M'+1:=⟨M - 1,oM⟩;have D4:bN n (.br q) d (rest s i)=(bN (M+1) (.br q) d (rest s I)).ahead l:=bf;have hr:res=(bN (M+1) (.br q) d (rest s I)).ahead l:=by rw [ay.o,D4]
  have kP:=Hd D4;clear eH eY Lu Rv pS bf D4;rcases nP I s.size with aW | lv
  ·obtain⟨c,hc⟩:∃c,c=au s I:=⟨_,rfl⟩;rw [lO,ak aW,←hc] at hr;dsimp only at hr;by_cases t:c=125
   ·rw [nE (nH.2 t)] at hr;have hh:aP 125 (rest s I)=true:=by rw [ak aW,←hc,t];rfl
    have HH:=Hd hh;have HR:=Hd hr;clear hr hh t hc;go_wp2_with fail;refine (kq cs s ⟨#[125]⟩ I d _ jZ.o oM hI dC (by rw [aq,bI];exact HH.o)).mono ?_;rintro e w2 ⟨rfl,cj,aS⟩;have gS:=Hd cj;have kQ:=Hd (M5.o.keep aS (λ_ _ e=>e));have cA:=Hd aS;clear cj aS;go_wp2_with fail;refine (zj w.heap.size cs w.heap.size g' _ _ _ kQ.o oM gS.o.lt).mono ?_
    rintro e w3 ⟨v,k,rfl,hp,aV⟩;have HP:=Hd hp;have bZ:=Hd aV;clear hp aV;go_wp2_with fail;go_ret;show mo w cs s d res _ _;rw [HR.o];show mo w cs s d (.ok (l++[],rest s (I+1))) _ _;rw [List.append_nil];exact Hq (sR zT.o) cA.o gS.o oM HP.o (λ b h=>h.1) bZ.o
   ·rw [nF (λ h=>t (nH.1 h)),hc,←ak aW] at hr;have hh:aP 125 (rest s I)=false:=by
     rw [ak aW,←hc];exact nA.2 t
    have Lp:au s I≠125:=by rw [←hc];exact t
    have he:decide (s.size≤I)=false:=nV oM;have HE:=Hd he;have HH:=Hd hh;have HR:=Hd hr;have Zw:=Hd Lp;have HC:=Hd hc;clear hr hh t he Lp hc;go_wp2_with fail;refine (gkz cs s ⟨#[125]⟩ I d _ jZ.o hI (by rw [aq,bI];exact HH.o)).mono ?_;rintro e w2 ⟨rfl,q2,rfl⟩;go_wp2_with fail;refine (dT cs s I d _ (jZ.o.drewN _)).mono ?_;rintro e w2 ⟨rfl,q3,rfl⟩
    rw [HE.o];cases q with
    | false=>
     go_wp2_with fail;have bp:ae (λ b=>b=cs) wr (wr.drewN (q2+q3)):=(ae.refl _ _).drewN _;refine ((HD.o M oM).out w.heap.size cs w.heap.size s I d g' _ _ (jZ.o.drewN (q2+q3)) aW hd hs (M5.o.keep bp (λ_ _ e=>e)) oM).mono ?_;intro e w3 hp;have cm:=iv hp bp;clear bp hp;cases bM:bN M (.one false) d (rest s I) with
     | error x=>
      exact WN
     | ok lr=>
      exact Wf
    | true=>
     by_cases t:c=34
     ·have e1:((c.toNat:Int)==34)=true:=aE (c:=c) (k:=34) t;have dU:=HR.o;have h1:bN M (.one true) d (rest s I)=.error 2:=by
       obtain⟨M,rfl⟩:∃M',M=M'+1:=⟨M - 1,oM⟩;rw [ak aW,←HC.o,ld,t];rfl
      rw [h1] at dU;have gF:=Hd dU;clear t h1 dU;go_wp2_with fail;refine (cB cs s I d _ (jZ.o.drewN _) oM oM).mono ?_;rintro e w1 ⟨rfl,q4,rfl⟩;rw [←HC.o];go_wp2_with fail;refine (fQ 2 _).mono ?_;rintro e w2 ⟨rfl,rfl⟩;go_wp2_with fail;refine⟨rfl,?_⟩;rw [gF.o];exact⟨rfl,sR (zT.o.drewN _)⟩
     ·have e1:((c.toNat:Int)==34)=false:=aw (c:=c) (k:=34) t;have yd:au s I≠34:=by rw [←HC.o];exact t
      have Yr:=Hd yd;clear t yd;go_wp2_with fail;refine (cB cs s I d _ (jZ.o.drewN _) oM oM).mono ?_;rintro e w1 ⟨rfl,q4,rfl⟩;rw [←HC.o];go_wp2_with fail;have bp:ae (λ b=>b=cs) wr (wr.drewN (q2+q3+q4)):=(ae.refl _ _).drewN _;refine ((HD.o M oM).inn w.heap.size cs w.heap.size s I d g' _ _ (jZ.o.drewN (q2+q3+q4)) aW Yr.o hd hs (M5.o.keep bp (λ_ _ e=>e)) oM).mono ?_
      intro e w3 hp;have cm:=iv hp bp;clear bp hp;cases bM:bN M (.one true) d (rest s I) with
      | error x=>
       exact WN
      | ok lr=>
       exact Wf
  ·rw [lO,aX lv] at hr;dsimp only at hr;have hh:aP 125 (rest s I)=false:=by rw [aX lv];rfl
   have he:decide (s.size≤I)=true:=nU lv;have HE:=Hd he;have HH:=Hd hh;have HR:=Hd hr;clear hh he hr;go_wp2_with fail;refine (gkz cs s ⟨#[125]⟩ I d _ jZ.o hI (by rw [aq,bI];exact HH.o)).mono ?_;rintro e w2 ⟨rfl,q2,rfl⟩;go_wp2_with fail;refine (dT cs s I d _ (jZ.o.drewN _)).mono ?_;rintro e w2 ⟨rfl,q3,rfl⟩;rw [HE.o];go_wp2_with fail;refine (fQ 2 _).mono ?_
   rintro e w2 ⟨rfl,rfl⟩;go_wp2_with fail;refine⟨rfl,?_⟩;rw [HR.o];exact⟨rfl,sR (zT.o.drewN _)⟩
end Go.Proofs.YtiihpbccabeoeaaGreatDoor
