/- The walk: a part. -/
import Derived.Test.YtiihpbccabeoeaaGreatDoorWPkA
import Derived.Lib.IndexBytes
import Derived.Lib.ConvBytes
import Derived.Deep.LoopGhost
import Derived.StillTailTactics
import Derived.Laws.IdiomStrings
namespace Go.Proofs.YtiihpbccabeoeaaGreatDoor
open Go.RowKit
set_option linter.unusedVariables false
set_option maxRecDepth 100000
set_option maxHeartbeats 16000000
theorem Lg (out:List Pt) (x:Pt):(iA out x).length≤out.length+1:=by
 unfold iA;cases h:out.getLast? with
 | none=>simp
 | some y=>
  dsimp only;split
  ·simp only [lA,List.length_dropLast,List.length_singleton];omega
  ·simp
theorem Jm (l:List Pt):∀N:List Pt×Bool,(l.foldl cH N).1.length≤N.1.length+l.length:=by
 induction l with
 | nil=>intro N;exact Nat.le_refl _
 | cons x l ih=>
  intro N;have h1:=ih (cH N x);have h2:(cH N x).1.length≤N.1.length+1:=by
   unfold cH;split
   ·exact Nat.le_succ _
   ·exact Lg _ _
  simp only [List.foldl_cons,lC];omega
theorem Jg (l:List Pt):(eS l).1.length≤l.length:=by
 have:=Jm l ([],false);simpa [eS] using this
theorem Bp {l:List Pt} {y p:Pt} (h:y.joins p=true):iA (l++[y]) p=l++[y.join p]:=by
 unfold iA;rw [List.getLast?_append];simp [h]
theorem Ha {l:List Pt} {y p:Pt} (h:y.joins p=false):iA (l++[y]) p=l++[y]++[p]:=by
 unfold iA;rw [List.getLast?_append];simp [h]
theorem G8 {l:List Pt} {x:Pt} (h:x∈l):x.text.length≤wtF l:=by
 induction l with
 | nil=>cases h
 | cons a l ih=>
  simp only [wtF];rcases List.mem_cons.1 h with rfl | h
  ·omega
  ·have:=ih h;omega
theorem J0 (l:List Pt):∀N:List Pt×Bool,wtF (l.foldl cH N).1≤wtF N.1+wtF l:=by
 induction l with
 | nil=>intro N;exact Nat.le_refl _
 | cons x l ih=>
  intro N;have h1:=ih (cH N x);have h2:wtF (cH N x).1≤wtF N.1+(x.text.length+1):=by
   unfold cH;split
   ·exact Nat.le_add_right _ _
   ·rcases xJ N.1 with h | ⟨m,y,h⟩
    ·rw [h];unfold iA;simp [wtF]
    ·rw [h];cases hj:y.joins x
     ·rw [Ha hj,bE];exact Nat.le_refl _
     ·rw [Bp hj,bE,bE];have e:(y.join x).text=y.text++x.text:=rfl;simp only [wtF,e,lA];omega
  simp only [List.foldl_cons,wtF];omega
theorem Ku (l:List Pt):wtF (eS l).1≤wtF l:=by
 have:=J0 l ([],false);simpa [eS,wtF] using this
theorem Lz (l:List Pt) (k:Nat):wtF (l.take k)≤wtF l:=by
 have h:=bE (l.take k) (l.drop k);rw [List.take_append_drop] at h;omega
theorem Dy (l:List Pt):∀N:List Pt×Bool,(l.foldl cH N).2=(N.2 || decide (0<l.length)):=by
 induction l with
 | nil=>intro N;simp
 | cons x l ih=>
  intro N;rw [List.foldl_cons,ih];have:(cH N x).2=true:=by unfold cH;split<;>rfl
  rw [this];simp
theorem Dq (l:List Pt):(eS l).2=decide (0<l.length):=by
 unfold eS;rw [Dy];simp
theorem Jo (a b:ByteArray):(a++b).data.toList=a.data.toList++b.data.toList:=by
 rw [ByteArray.data_append,Array.toList_append]
theorem zL (w:World) (o o':Obj) (n:Nat):(((w.alloc o).drewN n).alloc o').heap[w.heap.size+1]? = some o':=by
 have h:=heap_alloc_new ((w.alloc o).drewN n) o'
 rwa [show ((w.alloc o).drewN n).heap.size=w.heap.size+1 by simp] at h
def Six (w:World) (b o:Nat) (p:Pt) (v:Value):Prop:=
 w.cell? ⟨b,o,none⟩=some (.int .i64 (p.kind:Nat))∧w.cell? ⟨b,o+1,none⟩=some (e8 p.text)∧w.cell? ⟨b,o+2,none⟩=some (e8 p.name)∧
 w.cell? ⟨b,o+3,none⟩=some (e8 p.op)∧w.cell? ⟨b,o+4,none⟩=some v∧w.cell? ⟨b,o+5,none⟩=some (.bool p.quoted)
theorem Fg {w:World} {b o:Nat} {p:Pt} {v:Value} (h:lO w b o p v):Six w b o p v:=
 ⟨h 0 _ rfl,h 1 _ rfl,h 2 _ rfl,h 3 _ rfl,h 4 _ rfl,h 5 _ rfl⟩
theorem Gw {w:World} {e:TypeId} {g n c:Nat} {l:List Pt} {vs:List Value} (ho:w.ownsRow 0 e 6 (.slice (some ⟨g,0,none⟩) n c) n (cL l vs)) (hn:n=l.length) (hl:vs.length=l.length) {i:Nat} (hi:i<l.length):Six w g (i*6) l[i] (vs[i]'(by omega)):=by
 refine Fg fun j u hu=>?_;have hj:j<6:=(List.getElem?_eq_some_iff.1 hu).1;rw [ho.cellAt _ (by omega)];exact kL hl hi j u hu
def gT (w wr:World) (D:Nat→Prop) (n:Nat) (v:Value) (out:List Pt):Prop:=
 (out=[]→v=.slice none 0 0)∧∃vs,vs.length=out.length∧wr.ownsRow 0 67 6 v out.length (cL out vs)∧(∀y,v.ownBlock=some y→w.heap.size≤y)∧
  ∀i (h:i<out.length) (h':i<vs.length),aV w D n out[i].word vs[i]
theorem gT.nil (w wr:World) (D:Nat→Prop) (n:Nat):gT w wr D n (.slice none 0 0) []:=
 ⟨fun _=>rfl,[],rfl,World.ownsRow_nil _ _ _ _,fun y h=>(by cases h),fun i h=>absurd h (Nat.not_lt_zero _)⟩
theorem gT.alloc {w wr:World} {D:Nat→Prop} {n:Nat} {v:Value} {out:List Pt} (h:gT w wr D n v out) (o:Obj):gT w (wr.alloc o) D n v out:=by
 obtain⟨hz,vs,hl,ho,hy,hn⟩:=h;exact⟨hz,vs,hl,ho.alloc o,hy,hn⟩
theorem gT.drewN {w wr:World} {D:Nat→Prop} {n:Nat} {v:Value} {out:List Pt} (h:gT w wr D n v out) (k:Nat):gT w (wr.drewN k) D n v out:=by
 obtain⟨hz,vs,hl,ho,hy,hn⟩:=h;refine⟨hz,vs,hl,?_,hy,hn⟩;induction k with
 | zero=>exact ho
 | succ k ih=>exact ih.drew
theorem gT.shape {w wr:World} {D:Nat→Prop} {n:Nat} {v:Value} {out:List Pt} (h:gT w wr D n v out):(v=.slice none 0 0∧out=[])∨∃l y g c,out=l++[y]∧v=.slice (some ⟨g,0,none⟩) (l.length+1) c∧w.heap.size≤g∧g<wr.heap.size∧l.length+1≤c∧c≤maxLen:=by
 obtain⟨hz,vs,hl,ho,hy,hn⟩:=h;rcases xJ out with rfl | ⟨l,y,rfl⟩
 ·exact .inl ⟨hz rfl,rfl⟩
 ·have hlen:(l++[y]).length=l.length+1:=by simp
  rcases ho.2 with ⟨_,h0⟩ | ⟨g,cap,cur,rfl,_,hg,h1,h2,_⟩
  ·omega
  ·rw [hlen] at h1;exact .inr ⟨l,y,g,cap,rfl,by rw [hlen],hy g rfl,(Array.getElem?_eq_some_iff.1 hg).1,h1,h2⟩
theorem gT.more {w w1:World} {D:Nat→Prop} {n:Nat} {out:List Pt} {vs:List Value} {p:Pt} {pv:Value} {g c:Nat} (hl:vs.length=out.length) (hn:∀i (h:i<out.length) (h':i<vs.length),aV w D n out[i].word vs[i]) (hp:aV w D n p.word pv)
 (ho:w1.ownsRow 0 67 6 (.slice (some ⟨g,0,none⟩) (out.length+1) c) (out.length+1) (cL out vs++fL p pv)) (hg:w.heap.size≤g):gT w w1 D n (.slice (some ⟨g,0,none⟩) (out.length+1) c) (out++[p]):=by
 refine⟨fun h=>by simp at h,vs++[pv],by simp [hl],?_,fun y hy=>?_,fun i h h'=>?_⟩
 ·rw [iD hl];simpa [cL] using ho
 ·obtain rfl:g=y:=Option.some.inj hy;exact hg
 ·by_cases hi:i<out.length
  ·rw [List.getElem_append_left hi,List.getElem_append_left (by omega)];exact hn i hi (by omega)
  ·have hi2:i=out.length:=by simp at h;omega
   subst hi2;rw [List.getElem_append_right (Nat.le_refl _),List.getElem_append_right (by omega)];simpa [hl] using hp
theorem gT.join {w wr:World} {D:Nat→Prop} {n g c:Nat} {l:List Pt} {y p:Pt} {s:ByteArray} (h:gT w wr D n (.slice (some ⟨g,0,none⟩) (l++[y]).length c) (l++[y])) (hs:s.data.toList=y.text++p.text) :
 gT w (wr.setCell ⟨g,l.length*6+1,none⟩ (.string s)) D n (.slice (some ⟨g,0,none⟩) (l++[y.join p]).length c) (l++[y.join p]):=by
 obtain⟨_,vs,hl,ho,hy,hn⟩:=h;obtain⟨us,u,rfl⟩:∃us u,vs=us++[u]:=by
  rcases List.eq_nil_or_concat vs with h | ⟨us,u,h⟩
  ·rw [h] at hl;simp at hl
  ·exact⟨us,u,by rw [h,List.concat_eq_append]⟩
 have hu:us.length=l.length:=by simpa using hl
 have hst:=(ho.stored (l.length*6+1) (.string s)).1;have hlen:(l++[y.join p]).length=(l++[y]).length:=by simp
 refine⟨fun h=>by simp at h,us++[u],by simpa using hl,?_,hy,fun i h h'=>?_⟩
 ·rw [hlen];rw [iD hu] at hst ⊢;rw [Mm (k6 hu)] at hst;have e:(cL [y] [u]).set 1 (.string s)=cL [y.join p] [u]:=by
   have e2:Value.string s=e8 (y.text++p.text):=by unfold e8;rw [←hs]
   rw [e2];rfl
  rw [e] at hst;exact hst
 ·by_cases hi:i<l.length
  ·rw [List.getElem_append_left hi];have:=hn i (by simp;omega) (by simp;omega)
   rwa [List.getElem_append_left hi] at this
  ·have hi2:i=l.length:=by simp at h;omega
   subst hi2;have:=hn l.length (by simp) (by simp [hu]);rw [List.getElem_append_right (Nat.le_refl _)] at this ⊢;simpa [Pt.join,Pt.word] using this
theorem gT.reads {w wr:World} {D D':Nat→Prop} {n:Nat} {v:Value} {out:List Pt} (h:gT w wr D n v out) (hk:K0 w wr) (h1:∀x,D x→D' x) (h2:∀x,w.heap.size≤x→D' x):aV wr D' (n+1) out v:=by
 obtain⟨hz,vs,hl,ho,hy,hn⟩:=h;rcases ho.2 with ⟨rfl,h0⟩ | ⟨g,cap,cur,rfl,_,hg,hc1,hc2,_⟩
 ·rw [List.eq_nil_of_length_eq_zero h0];exact aV.nil _ _ _
 ·refine⟨_,cap,rfl,hc1,hc2,fun i hi=>⟨g,0,vs[i]'(by omega),rfl,(Array.getElem?_eq_some_iff.1 hg).1,h2 g (hy g rfl),fun j u hu=>?_,((hn i hi (by omega)).keep hk (fun b _ _ s=>s)).mono fun b _ hb=>h1 b hb⟩⟩;have hj:j<6:=(List.getElem?_eq_some_iff.1 hu).1;rw [ho.cellAt _ (by omega),Nat.zero_add];exact kL hl hi j u hu
theorem Fc (l:List UInt8):bH l≤l.length:=by
 induction l with
 | nil=>exact Nat.le_refl _
 | cons c t ih=>simp only [bH,lC];split<;>omega
theorem Hi (l:List UInt8):eT l≤l.length:=by
 induction l with
 | nil=>exact Nat.le_refl _
 | cons c t ih=>simp only [eT,lC];split<;>omega
theorem Gn (l:List UInt8):dK l≤l.length:=by
 cases l with
 | nil=>exact Nat.le_refl _
 | cons c t=>
  have:=Fc t;simp only [dK,lC];split<;>omega
theorem nV (b:Bool) (l:List UInt8):bT b l≤l.length:=by
 unfold bT;have:=Gn l;split
 ·exact this
 ·cases l with
  | nil=>exact Nat.le_refl _
  | cons c t=>
   have:=Hi t;simp only [lC];split
   ·split<;>omega
   ·split<;>omega
def rI (l:List UInt8) (k:Nat):Prop:=1≤k∧k≤l.length∧eT (l.drop 1)+1=k+eT (l.drop k)
theorem rI.next {l:List UInt8} {k:Nat} {c:UInt8} (h:rI l k) (hk:l[k]? = some c) (hc:bD c=true):rI l (k+1):=by
 have hlt:=(List.getElem?_eq_some_iff.1 hk).1;have hd:=qR hk;refine⟨by omega,hlt,?_⟩;have:=h.2.2;rw [this,hd,eT,if_pos hc];omega
theorem rI.stop {l:List UInt8} {k:Nat} {c:UInt8} (h:rI l k) (hk:l[k]? = some c) (hc:bD c=false):eT (l.drop 1)+1=k:=by
 rw [h.2.2,qR hk,eT,hc];simp
theorem rI.over {l:List UInt8} {k:Nat} (h:rI l k) (hk:k=l.length):eT (l.drop 1)+1=k:=by
 rw [h.2.2,hk,List.drop_length];rfl
def uM (w:World) (b:Nat) (s:ByteArray) (i k:Nat) (d:Int) (e:Ending) (w':World):Prop:=
 ∃r:ByteArray,e=.returned (.string r)∧r.data.toList=(rest s i).take k∧aD w' b s ((i+k:Nat):Int) d∧aB (fun k=>k=b) w w'
def Lu (l:List UInt8) (o k:Nat):Prop:=k≤l.length∧cV 0 l=(cV o (l.drop k)).map (· + k)
theorem Lu.start (l:List UInt8):Lu l 0 0:=⟨Nat.zero_le _,by rw [List.drop_zero];cases cV 0 l<;>rfl⟩
theorem D9 (o:Nat) (t:List UInt8):cV o (40::t)=(cV (o+1) t).map (· + 1):=rfl
theorem Et (o:Nat) (t:List UInt8) (h:0<o):cV o (41::t)=(cV (o - 1) t).map (· + 1):=by
 rw [cV];rw [if_neg (by decide),if_pos (by decide),if_neg (by omega)]
theorem Hx (t:List UInt8):cV 0 (41::t)=if aW 41 t then some 0 else none:=rfl
theorem Fa (o:Nat) (c:UInt8) (t:List UInt8) (h1:(c==40)=false) (h2:(c==41)=false):cV o (c::t)=(cV o t).map (· + 1):=by
 simp only [cV,h1,h2];rfl
def dZ (q:UInt8):Bool→List UInt8→Option Nat
 | _,[]=>none
 | true,_::t=>(dZ q false t).map (· + 1)
 | false,c::t=>if c==q then some 1 else (dZ q (c==92 && q==34) t).map (· + 1)
def gV (q:UInt8) (s:ByteArray) (i I:Nat):Prop:=i≤I∧dZ q false (rest s i)=(dZ q false (rest s I)).map (· + (I - i))
theorem gV.start (q:UInt8) (s:ByteArray) (i:Nat):gV q s i i:=⟨Nat.le_refl _,by rw [Nat.sub_self];cases dZ q false (rest s i)<;>rfl⟩
theorem aN {s:ByteArray} {I:Nat} (h:I<s.size):rest s I=aM s I::rest s (I+1):=by
 have hg:=qW (s:=s) (i:=I) (k:=0) (by omega);have hd:=qR hg;rw [List.drop_zero] at hd;rw [hd];have:aM s I=s[I+0]'(by omega):=by
  rw [A9,hd];rfl
 rw [this,dY]
theorem bU {s:ByteArray} {I:Nat} (h:s.size≤I):rest s I=[]:=List.eq_nil_of_length_eq_zero (by rw [cM];omega)
theorem gV.one {q:UInt8} {s:ByteArray} {i I:Nat} (h:gV q s i I) (hI:I<s.size) (h1:(aM s I==q)=false) (h2:(aM s I==92 && q==34)=false):gV q s i (I+1):=by
 refine⟨by have:=h.1;omega,?_⟩;rw [h.2,aN hI,dZ,h1,h2];have:=h.1;cases dZ q false (rest s (I+1)) with
 | none=>rfl
 | some k=>simp;omega
theorem gV.two {q:UInt8} {s:ByteArray} {i I:Nat} (h:gV q s i I) (hI:I<s.size) (h1:(aM s I==q)=false) (h2:(aM s I==92 && q==34)=true):gV q s i (I+2):=by
 refine⟨by have:=h.1;omega,?_⟩;rw [h.2,aN hI,dZ,h1,h2];have:=h.1;rcases Nat.lt_or_ge (I+1) s.size with hl | hl
 ·rw [aN hl,dZ];cases dZ q false (rest s (I+2)) with
  | none=>rfl
  | some k=>simp;omega
 ·rw [bU hl,bU (by omega:s.size≤I+2)];rfl
theorem gV.stop {q:UInt8} {s:ByteArray} {i I:Nat} (h:gV q s i I) (hI:I<s.size) (h1:(aM s I==q)=true):dZ q false (rest s i)=some (I+1 - i):=by
 have:=h.1;rw [h.2,aN hI,dZ,h1];simp;omega
theorem gV.over {q:UInt8} {s:ByteArray} {i I:Nat} (h:gV q s i I) (hI:s.size≤I):dZ q false (rest s i)=none:=by
 rw [h.2,bU hI];rfl
theorem iI {w:World} {b n:Nat} {s:ByteArray} {i d:Int} (h:aD w b s i d) (j:Int):∃w',w'=(w.drewN n).setCell ⟨b,1,none⟩ (.int .i64 j)∧aD w' b s j d∧aB (fun k=>k=b) w w':=
 ⟨_,rfl,Be h n rfl,Jy _ _ _ _ _⟩
theorem fI {w:World} {b:Nat} {s:ByteArray} {i d:Int} (h:aD w b s i d) (j:Int):∃w',w'=w.setCell ⟨b,1,none⟩ (.int .i64 j)∧aD w' b s j d∧aB (fun k=>k=b) w w':=
 ⟨_,rfl,Be h 0 rfl,Ht _ _ _ _⟩
theorem Na:∀(o:Nat) (l:List UInt8),bP .q1 o l=(dZ 39 false l).bind fun k=>(bP .n o (l.drop k)).map (· + k)
 | _,[]=>rfl
 | o,c::t=>by
  rw [bP,dZ];by_cases h:(c==39)=true
  ·rw [h];simp
  ·have h':(c==39)=false:=by simpa using h
   rw [h'];have h2:(c==92 && (39:UInt8)==34)=false:=by rw [show ((39:UInt8)==34)=false by decide];simp
   rw [h2,if_neg (by simp),if_neg (by simp),Na o t];cases dZ 39 false t with
   | none=>rfl
   | some k=>
    simp only [Option.bind_some,Option.map_some];rw [List.drop_succ_cons];cases bP .n o (t.drop k) with
    | none=>rfl
    | some m=>simp;omega
mutual
theorem Ej:∀(o:Nat) (l:List UInt8),bP .q2 o l=(dZ 34 false l).bind fun k=>(bP .n o (l.drop k)).map (· + k)
 | _,[]=>rfl
 | o,c::t=>by
  rw [bP,dZ];by_cases h:(c==34)=true
  ·rw [h];simp
  ·have h':(c==34)=false:=by simpa using h
   rw [h',show ((34:UInt8)==34)=true from rfl,Bool.and_true];by_cases h2:(c==92)=true
   ·rw [h2];show (bP .bq o t).map _=((dZ 34 true t).map _).bind _;rw [Qh o t];cases dZ 34 true t with
    | none=>rfl
    | some k=>
     simp only [Option.bind_some,Option.map_some];rw [List.drop_succ_cons];cases bP .n o (t.drop k) with
     | none=>rfl
     | some m=>simp;omega
   ·have h2':(c==92)=false:=by simpa using h2
    rw [h2'];show (bP .q2 o t).map _=((dZ 34 false t).map _).bind _;rw [Ej o t];cases dZ 34 false t with
    | none=>rfl
    | some k=>
     simp only [Option.bind_some,Option.map_some];rw [List.drop_succ_cons];cases bP .n o (t.drop k) with
     | none=>rfl
     | some m=>simp;omega
theorem Qh:∀(o:Nat) (l:List UInt8),bP .bq o l=(dZ 34 true l).bind fun k=>(bP .n o (l.drop k)).map (· + k)
 | _,[]=>rfl
 | o,c::t=>by
  rw [bP,dZ,Ej o t];cases dZ 34 false t with
  | none=>rfl
  | some k=>
   simp only [Option.bind_some,Option.map_some];rw [List.drop_succ_cons];cases bP .n o (t.drop k) with
   | none=>rfl
   | some m=>simp;omega
end
def jS (s:ByteArray) (i o I:Nat):Prop:=i≤I∧bP .n 0 (rest s i)=(bP .n o (rest s I)).map (· + (I - i))
theorem jS.start (s:ByteArray) (i:Nat):jS s i 0 i:=⟨Nat.le_refl _,by rw [Nat.sub_self];cases bP .n 0 (rest s i)<;>rfl⟩
theorem jS.on {s:ByteArray} {i o o' I k:Nat} (h:jS s i o I) (hs:bP .n o (rest s I)=(bP .n o' (rest s (I+k))).map (· + k)):jS s i o' (I+k):=by
 refine⟨by have:=h.1;omega,?_⟩;rw [h.2,hs];have:=h.1;cases bP .n o' (rest s (I+k)) with
 | none=>rfl
 | some m=>simp;omega
theorem jS.over {s:ByteArray} {i o I:Nat} (h:jS s i o I) (hI:s.size≤I):bP .n 0 (rest s i)=none:=by
 rw [h.2,bU hI];rfl
theorem jS.stop {s:ByteArray} {i I:Nat} (h:jS s i 0 I) (hI:I<s.size) (hc:aM s I=41):bP .n 0 (rest s i)=some (I - i):=by
 rw [h.2,aN hI,hc];have e:bP .n 0 (41::rest s (I+1))=some 0:=rfl;rw [e];simp
theorem J7 {o:Nat} {c:UInt8} {t:List UInt8} (h1:(c==39)=false) (h2:(c==34)=false) (h3:(c==92)=false) (h4:(c==40)=false) (h5:(c==41)=false):bP .n o (c::t)=(bP .n o t).map (· + 1):=by
 rw [bP,h1,h2,h3,h4,h5];rfl
theorem K7 {o:Nat} {s:ByteArray} {I:Nat} (hI:I<s.size) (hc:aM s I=92):bP .n o (rest s I)=(bP .n o (rest s (I+2))).map (· + 2):=by
 rw [aN hI,hc];have e:bP .n o (92::rest s (I+1))=(bP .bn o (rest s (I+1))).map (· + 1):=rfl;rw [e];rcases Nat.lt_or_ge (I+1) s.size with hl | hl
 ·rw [aN hl,bP];cases bP .n o (rest s (I+1+1)) with
  | none=>rfl
  | some k=>rfl
 ·rw [bU hl,bU (by omega:s.size≤I+2)];rfl
theorem wU {o:Nat} {s:ByteArray} {I:Nat} (hI:I<s.size) (hc:aM s I=39):bP .n o (rest s I)=(dZ 39 false (rest s (I+1))).bind fun k=>(bP .n o (rest s (I+(k+1)))).map (· + (k+1)):=by
 rw [aN hI,hc];have e:bP .n o (39::rest s (I+1))=(bP .q1 o (rest s (I+1))).map (· + 1):=rfl;rw [e,Na];cases dZ 39 false (rest s (I+1)) with
 | none=>rfl
 | some k=>
  simp only [Option.bind_some];rw [dY,show I+1+k=I+(k+1) by omega];cases bP .n o (rest s (I+(k+1))) with
  | none=>rfl
  | some m=>simp;omega
theorem xB {o:Nat} {s:ByteArray} {I:Nat} (hI:I<s.size) (hc:aM s I=34):bP .n o (rest s I)=(dZ 34 false (rest s (I+1))).bind fun k=>(bP .n o (rest s (I+(k+1)))).map (· + (k+1)):=by
 rw [aN hI,hc];have e:bP .n o (34::rest s (I+1))=(bP .q2 o (rest s (I+1))).map (· + 1):=rfl;rw [e,Ej];cases dZ 34 false (rest s (I+1)) with
 | none=>rfl
 | some k=>
  simp only [Option.bind_some];rw [dY,show I+1+k=I+(k+1) by omega];cases bP .n o (rest s (I+(k+1))) with
  | none=>rfl
  | some m=>simp;omega
theorem aX {c k:UInt8} (h:c≠k):((c.toNat:Int)==(k.toNat:Int))=false:=by rw [O2];exact beq_eq_false_iff_ne.2 h
theorem aU {c k:UInt8} (h:c=k):((c.toNat:Int)==(k.toNat:Int))=true:=by rw [O2];exact beq_iff_eq.2 h
theorem wX {q:UInt8}:∀{l:List UInt8} {e:Bool} {k:Nat},dZ q e l=some k→1≤k∧k≤l.length
 | [],e,k,h=>by cases e<;>cases h
 | c::t,true,k,h=>by
  rw [dZ] at h;cases h2:dZ q false t with
  | none=>rw [h2] at h;cases h
  | some m=>
   rw [h2] at h;have:=wX h2;simp at h ⊢;omega
 | c::t,false,k,h=>by
  rw [dZ] at h;split at h
  ·simp at h ⊢;omega
  ·cases h2:dZ q (c==92 && q==34) t with
   | none=>rw [h2] at h;cases h
   | some m=>
    rw [h2] at h;have:=wX h2;simp at h ⊢;omega
theorem Bag.le {w:World} {B cs wb:Nat} {g:Option Nat} {N:List Pt×Bool} {m:Nat} (h:Bag w B cs wb g N m):cs<B∧B≤wb∧wb<w.heap.size:=by
 have hl:=h.wlt;obtain⟨v,raw,_,_,_,_,_,h3,_⟩:=h;exact⟨h3.1,h3.2,hl⟩
theorem kP (m d:Nat) (c:UInt8) (t:List UInt8):dJ (m+1) (.one false) d (c::t) =
 if c==39 then (match fJ 39 t with
  | none=>.error 2
  | some k=>.ok ([cG (t.take k)],t.drop (k+1)))
 else if c==34 then (dJ m .dq d t).ahead [cG []]
 else if c==92 then (match t with
  | []=>.ok ([cG [92]],[])
  | x::t'=>if x==10 then .ok ([],t') else .ok ([cG [x]],t'))
 else if c==96 then .error 2
 else if c==36 then dJ m (.dol false) d t
 else .ok ([eG [c]],t):=rfl
theorem mG (m d:Nat) (c:UInt8) (t:List UInt8):dJ (m+1) (.one true) d (c::t) =
 if c==34 || c==96 then .error 2
 else if c==92 && aW 10 t then .ok ([],t.tail)
 else if c==92 && nM (t.headD 0) then .ok ([cG [t.headD 0]],t.tail)
 else if c==36 then dJ m (.dol true) d t
 else .ok ([cG [c]],t):=rfl
theorem uV (s:ByteArray) (i:Nat):(rest s i).tail=rest s (i+1):=by rw [←dY,List.drop_one]
def Md.least:Md→Nat | .one _=>1 | _=>0
theorem oS (n d:Nat) (r:List UInt8):dJ (n+1) .dq d r=match r with
 | []=>.error 2
 | c::t=>if c==34 then .ok ([],t) else match dJ n (.one true) d r with
  | .error e=>.error e
  | .ok (l,r1)=>(dJ n .dq d r1).ahead l:=by cases r<;>rfl
theorem o0 (n d:Nat) (q:Bool) (r:List UInt8):dJ (n+1) (.br q) d r=match r with
 | []=>.error 2
 | c::t=>if c==125 then .ok ([],t) else match dJ n (.one q) d r with
  | .error e=>.error e
  | .ok (l,r1)=>(dJ n (.br q) d r1).ahead l:=by cases r<;>rfl
theorem mH (n d:Nat) (q:Bool) (r:List UInt8):dJ (n+1) (.dol q) d r =
 if aW 123 r then dJ n (.brace q) d r.tail
 else if aI [40,40] r then (match cV 0 (r.drop 2) with
  | none=>.error 2
  | some k=>.ok ([.mk 4 ((r.drop 2).take k) [] [] [] q],(r.drop 2).drop (k+2)))
 else if aW 40 r then (match bP .n 0 r.tail with
  | none=>.error 2
  | some k=>.ok ([.mk 5 (r.tail.take k) [] [] [] q],r.tail.drop (k+1)))
 else if bT false r=0 then .ok ([if q then cG [36] else eG [36]],r)
 else .ok ([.mk 3 [] (r.take (bT false r)) [] [] q],r.drop (bT false r)):=rfl
theorem jA (n d:Nat) (q:Bool) (r:List UInt8):dJ (n+1) (.brace q) d r =
 if bT true (if bK r then r.tail else r)=0 then .error 2
 else if aW 125 ((if bK r then r.tail else r).drop (bT true (if bK r then r.tail else r))) then .ok ([.mk 3 [] ((if bK r then r.tail else r).take (bT true (if bK r then r.tail else r))) (if bK r then [76] else []) [] q],((if bK r then r.tail else r).drop (bT true (if bK r then r.tail else r))).tail)
 else if (opF ((if bK r then r.tail else r).drop (bT true (if bK r then r.tail else r)))).isEmpty || bK r then .error 2
 else if d=40 then .error 3
 else match dJ n (.br q) (d+1) (((if bK r then r.tail else r).drop (bT true (if bK r then r.tail else r))).drop (opF ((if bK r then r.tail else r).drop (bT true (if bK r then r.tail else r)))).length) with
  | .error e=>.error e
  | .ok (l,r3)=>.ok ([.mk 3 [] ((if bK r then r.tail else r).take (bT true (if bK r then r.tail else r))) (opF ((if bK r then r.tail else r).drop (bT true (if bK r then r.tail else r)))) (cT l) q],r3):=rfl
theorem eL {l m:List Pt} {r:List UInt8} {R:Res} (h:R.ahead l=.ok (m,r)):∃m',R=.ok (m',r)∧m=l++m':=by
 cases R with
 | error e=>cases h
 | ok x=>
  obtain⟨a,b⟩:=x;simp only [Res.ahead,Except.ok.injEq,Prod.mk.injEq] at h;exact⟨a,by rw [h.2],h.1.symm⟩
theorem dV:∀(n:Nat) (md:Md) (d:Nat) (r:List UInt8) (l:List Pt) (r1:List UInt8),dJ n md d r=.ok (l,r1)→r1.length≤r.length - md.least:=by
 intro n;induction n with
 | zero=>intro md d r l r1 h;cases md<;>cases h
 | succ n ih=>
  intro md d r l r1 h;cases md with
  | one q=>
   cases r with
   | nil=>cases q<;>(cases h;exact Nat.zero_le _)
   | cons c t=>
    show r1.length≤t.length+1 - 1;have htl:t.tail.length≤t.length:=by rw [List.length_tail];omega
    cases q with
    | false=>
     rw [kP] at h;split at h
     ·split at h
      ·cases h
      ·cases h;rw [List.length_drop];omega
     split at h
     ·obtain⟨m',h',_⟩:=eL h;exact ih _ _ _ _ _ h'
     split at h
     ·split at h
      ·cases h;exact Nat.zero_le _
      ·split at h<;>(cases h;simp only [lC];omega)
     split at h
     ·cases h
     split at h
     ·exact ih _ _ _ _ _ h
     ·cases h;omega
    | true=>
     rw [mG] at h;split at h
     ·cases h
     split at h
     ·cases h;omega
     split at h
     ·cases h;omega
     split at h
     ·exact ih _ _ _ _ _ h
     ·cases h;omega
  | dq=>
   rw [oS] at h;cases r with
   | nil=>cases h
   | cons c t=>
    simp only at h;split at h
    ·cases h;exact Nat.le_succ _
    split at h
    ·cases h
    ·next l' r' h1=>
     obtain⟨m',h',_⟩:=eL h;have e1:=ih _ _ _ _ _ h1;have e2:=ih _ _ _ _ _ h';simp only [Md.least] at e1 e2 ⊢;omega
  | br q=>
   rw [o0] at h;cases r with
   | nil=>cases h
   | cons c t=>
    simp only at h;split at h
    ·cases h;exact Nat.le_succ _
    split at h
    ·cases h
    ·next l' r' h1=>
     obtain⟨m',h',_⟩:=eL h;have e1:=ih _ _ _ _ _ h1;have e2:=ih _ _ _ _ _ h';simp only [Md.least] at e1 e2 ⊢;omega
  | dol q=>
   rw [mH] at h;show r1.length≤r.length;have htl:r.tail.length≤r.length:=by rw [List.length_tail];omega
   split at h
   ·have:=ih _ _ _ _ _ h;simp only [Md.least] at this;omega
   split at h
   ·split at h
    ·cases h
    ·cases h;simp only [List.length_drop];omega
   split at h
   ·split at h
    ·cases h
    ·cases h;simp only [List.length_drop];omega
   split at h
   ·cases h;omega
   ·cases h;simp only [List.length_drop];omega
  | brace q=>
   rw [jA] at h;show r1.length≤r.length;have h0:(if bK r then r.tail else r).length≤r.length:=by
    split
    ·rw [List.length_tail];omega
    ·exact Nat.le_refl _
   revert h h0;generalize (if bK r then r.tail else r)=r';intro h h0;split at h
   ·cases h
   split at h
   ·cases h;simp only [List.length_tail,List.length_drop];omega
   split at h
   ·cases h
   split at h
   ·cases h
   split at h
   ·cases h
   ·next l' r3 h1=>
    cases h;have:=ih _ _ _ _ _ h1;simp only [Md.least,List.length_drop] at this;omega
theorem Bag.new {w:World} {cs:Nat} (T:TypeId) (hcs:cs<w.heap.size):Bag (w.alloc (.cells #[.slice none 0 0] T)) w.heap.size cs w.heap.size none ([],false) 0:=
 ⟨.slice none 0 0,[],⟨T,heap_alloc_new w _⟩,gE.nil _ _,rfl,by simp,by simp,⟨hcs,Nat.le_refl _⟩,rfl,(fun p hp=>by cases hp),Nat.le_refl _⟩
end Go.Proofs.YtiihpbccabeoeaaGreatDoor
