/- The walk: a part. -/
import Derived.Test.YtiihpbccabeoeaaGreatDoorYPkA
import Derived.Lib.IndexBytes
import Derived.Lib.ConvBytes
import Derived.Deep.LoopGhost
import Derived.StillTailTactics
import Derived.Laws.IdiomStrings
namespace Go.Proofs.YtiihpbccabeoeaaGreatDoor
open Go.RowKit
set_option linter.unusedVariables false
set_option maxRecDepth 100000
set_option maxHeartbeats 16000000
theorem addP_len (out:List Pt) (x:Pt):(addP out x).length≤out.length+1:=by
 unfold addP;cases h:out.getLast? with
 | none=>simp
 | some y=>
  dsimp only;split
  ·simp only [List.length_append,List.length_dropLast,List.length_singleton];omega
  ·simp
theorem foldN_len (l:List Pt):∀N:List Pt×Bool,(l.foldl stepN N).1.length≤N.1.length+l.length:=by
 induction l with
 | nil=>intro N;exact Nat.le_refl _
 | cons x l ih=>
  intro N;have h1:=ih (stepN N x);have h2:(stepN N x).1.length≤N.1.length+1:=by
   unfold stepN;split
   ·exact Nat.le_succ _
   ·exact addP_len _ _
  simp only [List.foldl_cons,List.length_cons];omega
theorem normF_len (l:List Pt):(normF l).1.length≤l.length:=by
 have:=foldN_len l ([],false);simpa [normF] using this
theorem addP_yes {l:List Pt} {y p:Pt} (h:y.joins p=true):addP (l++[y]) p=l++[y.join p]:=by
 unfold addP;rw [List.getLast?_append];simp [h]
theorem addP_no {l:List Pt} {y p:Pt} (h:y.joins p=false):addP (l++[y]) p=l++[y]++[p]:=by
 unfold addP;rw [List.getLast?_append];simp [h]
theorem wtF_mem {l:List Pt} {x:Pt} (h:x∈l):x.text.length≤wtF l:=by
 induction l with
 | nil=>cases h
 | cons a l ih=>
  simp only [wtF];rcases List.mem_cons.1 h with rfl | h
  ·omega
  ·have:=ih h;omega
theorem foldN_wt (l:List Pt):∀N:List Pt×Bool,wtF (l.foldl stepN N).1≤wtF N.1+wtF l:=by
 induction l with
 | nil=>intro N;exact Nat.le_refl _
 | cons x l ih=>
  intro N;have h1:=ih (stepN N x);have h2:wtF (stepN N x).1≤wtF N.1+(x.text.length+1):=by
   unfold stepN;split
   ·exact Nat.le_add_right _ _
   ·rcases last_cases N.1 with h | ⟨m,y,h⟩
    ·rw [h];unfold addP;simp [wtF]
    ·rw [h];cases hj:y.joins x
     ·rw [addP_no hj,wtF_append];exact Nat.le_refl _
     ·rw [addP_yes hj,wtF_append,wtF_append];have e:(y.join x).text=y.text++x.text:=rfl;simp only [wtF,e,List.length_append];omega
  simp only [List.foldl_cons,wtF];omega
theorem normF_wt (l:List Pt):wtF (normF l).1≤wtF l:=by
 have:=foldN_wt l ([],false);simpa [normF,wtF] using this
theorem wtF_take (l:List Pt) (k:Nat):wtF (l.take k)≤wtF l:=by
 have h:=wtF_append (l.take k) (l.drop k);rw [List.take_append_drop] at h;omega
theorem foldN_flag (l:List Pt):∀N:List Pt×Bool,(l.foldl stepN N).2=(N.2 || decide (0<l.length)):=by
 induction l with
 | nil=>intro N;simp
 | cons x l ih=>
  intro N;rw [List.foldl_cons,ih];have:(stepN N x).2=true:=by unfold stepN;split<;>rfl
  rw [this];simp
theorem normF_flag (l:List Pt):(normF l).2=decide (0<l.length):=by
 unfold normF;rw [foldN_flag];simp
theorem ba_append (a b:ByteArray):(a++b).data.toList=a.data.toList++b.data.toList:=by
 rw [ByteArray.data_append,Array.toList_append]
theorem heap_new2 (w:World) (o o':Obj) (n:Nat):(((w.alloc o).drewN n).alloc o').heap[w.heap.size+1]? = some o':=by
 have h:=heap_alloc_new ((w.alloc o).drewN n) o'
 rwa [show ((w.alloc o).drewN n).heap.size=w.heap.size+1 by simp] at h
def Six (w:World) (b o:Nat) (p:Pt) (v:Value):Prop:=
 w.cell? ⟨b,o,none⟩=some (.int .i64 (p.kind:Nat))∧w.cell? ⟨b,o+1,none⟩=some (strV p.text)∧w.cell? ⟨b,o+2,none⟩=some (strV p.name)∧
 w.cell? ⟨b,o+3,none⟩=some (strV p.op)∧w.cell? ⟨b,o+4,none⟩=some v∧w.cell? ⟨b,o+5,none⟩=some (.bool p.quoted)
theorem six_of {w:World} {b o:Nat} {p:Pt} {v:Value} (h:PtCells w b o p v):Six w b o p v:=
 ⟨h 0 _ rfl,h 1 _ rfl,h 2 _ rfl,h 3 _ rfl,h 4 _ rfl,h 5 _ rfl⟩
theorem six_row {w:World} {e:TypeId} {g n c:Nat} {l:List Pt} {vs:List Value} (ho:w.ownsRow 0 e 6 (.slice (some ⟨g,0,none⟩) n c) n (cellsL l vs)) (hn:n=l.length) (hl:vs.length=l.length) {i:Nat} (hi:i<l.length):Six w g (i*6) l[i] (vs[i]'(by omega)):=by
 refine six_of fun j u hu=>?_;have hj:j<6:=(List.getElem?_eq_some_iff.1 hu).1;rw [ho.cellAt _ (by omega)];exact cellsL_at hl hi j u hu
def OutAt (w wr:World) (D:Nat→Prop) (n:Nat) (v:Value) (out:List Pt):Prop:=
 (out=[]→v=.slice none 0 0)∧∃vs,vs.length=out.length∧wr.ownsRow 0 67 6 v out.length (cellsL out vs)∧(∀y,v.ownBlock=some y→w.heap.size≤y)∧
  ∀i (h:i<out.length) (h':i<vs.length),PtsAt w D n out[i].word vs[i]
theorem OutAt.nil (w wr:World) (D:Nat→Prop) (n:Nat):OutAt w wr D n (.slice none 0 0) []:=
 ⟨fun _=>rfl,[],rfl,World.ownsRow_nil _ _ _ _,fun y h=>(by cases h),fun i h=>absurd h (Nat.not_lt_zero _)⟩
theorem OutAt.alloc {w wr:World} {D:Nat→Prop} {n:Nat} {v:Value} {out:List Pt} (h:OutAt w wr D n v out) (o:Obj):OutAt w (wr.alloc o) D n v out:=by
 obtain⟨hz,vs,hl,ho,hy,hn⟩:=h;exact⟨hz,vs,hl,ho.alloc o,hy,hn⟩
theorem OutAt.drewN {w wr:World} {D:Nat→Prop} {n:Nat} {v:Value} {out:List Pt} (h:OutAt w wr D n v out) (k:Nat):OutAt w (wr.drewN k) D n v out:=by
 obtain⟨hz,vs,hl,ho,hy,hn⟩:=h;refine⟨hz,vs,hl,?_,hy,hn⟩;induction k with
 | zero=>exact ho
 | succ k ih=>exact ih.drew
theorem OutAt.shape {w wr:World} {D:Nat→Prop} {n:Nat} {v:Value} {out:List Pt} (h:OutAt w wr D n v out):(v=.slice none 0 0∧out=[])∨∃l y g c,out=l++[y]∧v=.slice (some ⟨g,0,none⟩) (l.length+1) c∧w.heap.size≤g∧g<wr.heap.size∧l.length+1≤c∧c≤maxLen:=by
 obtain⟨hz,vs,hl,ho,hy,hn⟩:=h;rcases last_cases out with rfl | ⟨l,y,rfl⟩
 ·exact .inl ⟨hz rfl,rfl⟩
 ·have hlen:(l++[y]).length=l.length+1:=by simp
  rcases ho.2 with ⟨_,h0⟩ | ⟨g,cap,cur,rfl,_,hg,h1,h2,_⟩
  ·omega
  ·rw [hlen] at h1;exact .inr ⟨l,y,g,cap,rfl,by rw [hlen],hy g rfl,(Array.getElem?_eq_some_iff.1 hg).1,h1,h2⟩
theorem OutAt.more {w w1:World} {D:Nat→Prop} {n:Nat} {out:List Pt} {vs:List Value} {p:Pt} {pv:Value} {g c:Nat} (hl:vs.length=out.length) (hn:∀i (h:i<out.length) (h':i<vs.length),PtsAt w D n out[i].word vs[i]) (hp:PtsAt w D n p.word pv)
 (ho:w1.ownsRow 0 67 6 (.slice (some ⟨g,0,none⟩) (out.length+1) c) (out.length+1) (cellsL out vs++cellsP p pv)) (hg:w.heap.size≤g):OutAt w w1 D n (.slice (some ⟨g,0,none⟩) (out.length+1) c) (out++[p]):=by
 refine⟨fun h=>by simp at h,vs++[pv],by simp [hl],?_,fun y hy=>?_,fun i h h'=>?_⟩
 ·rw [cellsL_append hl];simpa [cellsL] using ho
 ·obtain rfl:g=y:=Option.some.inj hy;exact hg
 ·by_cases hi:i<out.length
  ·rw [List.getElem_append_left hi,List.getElem_append_left (by omega)];exact hn i hi (by omega)
  ·have hi2:i=out.length:=by simp at h;omega
   subst hi2;rw [List.getElem_append_right (Nat.le_refl _),List.getElem_append_right (by omega)];simpa [hl] using hp
theorem OutAt.join {w wr:World} {D:Nat→Prop} {n g c:Nat} {l:List Pt} {y p:Pt} {s:ByteArray} (h:OutAt w wr D n (.slice (some ⟨g,0,none⟩) (l++[y]).length c) (l++[y])) (hs:s.data.toList=y.text++p.text) :
 OutAt w (wr.setCell ⟨g,l.length*6+1,none⟩ (.string s)) D n (.slice (some ⟨g,0,none⟩) (l++[y.join p]).length c) (l++[y.join p]):=by
 obtain⟨_,vs,hl,ho,hy,hn⟩:=h;obtain⟨us,u,rfl⟩:∃us u,vs=us++[u]:=by
  rcases List.eq_nil_or_concat vs with h | ⟨us,u,h⟩
  ·rw [h] at hl;simp at hl
  ·exact⟨us,u,by rw [h,List.concat_eq_append]⟩
 have hu:us.length=l.length:=by simpa using hl
 have hst:=(ho.stored (l.length*6+1) (.string s)).1;have hlen:(l++[y.join p]).length=(l++[y]).length:=by simp
 refine⟨fun h=>by simp at h,us++[u],by simpa using hl,?_,hy,fun i h h'=>?_⟩
 ·rw [hlen];rw [cellsL_append hu] at hst ⊢;rw [set_tail (cellsL_len hu)] at hst;have e:(cellsL [y] [u]).set 1 (.string s)=cellsL [y.join p] [u]:=by
   have e2:Value.string s=strV (y.text++p.text):=by unfold strV;rw [←hs]
   rw [e2];rfl
  rw [e] at hst;exact hst
 ·by_cases hi:i<l.length
  ·rw [List.getElem_append_left hi];have:=hn i (by simp;omega) (by simp;omega)
   rwa [List.getElem_append_left hi] at this
  ·have hi2:i=l.length:=by simp at h;omega
   subst hi2;have:=hn l.length (by simp) (by simp [hu]);rw [List.getElem_append_right (Nat.le_refl _)] at this ⊢;simpa [Pt.join,Pt.word] using this
theorem OutAt.reads {w wr:World} {D D':Nat→Prop} {n:Nat} {v:Value} {out:List Pt} (h:OutAt w wr D n v out) (hk:Keeps (fun _=>False) w wr) (h1:∀x,D x→D' x) (h2:∀x,w.heap.size≤x→D' x):PtsAt wr D' (n+1) out v:=by
 obtain⟨hz,vs,hl,ho,hy,hn⟩:=h;rcases ho.2 with ⟨rfl,h0⟩ | ⟨g,cap,cur,rfl,_,hg,hc1,hc2,_⟩
 ·rw [List.eq_nil_of_length_eq_zero h0];exact PtsAt.nil _ _ _
 ·refine⟨_,cap,rfl,hc1,hc2,fun i hi=>⟨g,0,vs[i]'(by omega),rfl,(Array.getElem?_eq_some_iff.1 hg).1,h2 g (hy g rfl),fun j u hu=>?_,((hn i hi (by omega)).keep hk (fun b _ _ s=>s)).mono fun b _ hb=>h1 b hb⟩⟩;have hj:j<6:=(List.getElem?_eq_some_iff.1 hu).1;rw [ho.cellAt _ (by omega),Nat.zero_add];exact cellsL_at hl hi j u hu
theorem tailRun_le (l:List UInt8):tailRun l≤l.length:=by
 induction l with
 | nil=>exact Nat.le_refl _
 | cons c t ih=>simp only [tailRun,List.length_cons];split<;>omega
theorem digRun_le (l:List UInt8):digRun l≤l.length:=by
 induction l with
 | nil=>exact Nat.le_refl _
 | cons c t ih=>simp only [digRun,List.length_cons];split<;>omega
theorem runF_le (l:List UInt8):runF l≤l.length:=by
 cases l with
 | nil=>exact Nat.le_refl _
 | cons c t=>
  have:=tailRun_le t;simp only [runF,List.length_cons];split<;>omega
theorem nameF_le (b:Bool) (l:List UInt8):nameF b l≤l.length:=by
 unfold nameF;have:=runF_le l;split
 ·exact this
 ·cases l with
  | nil=>exact Nat.le_refl _
  | cons c t=>
   have:=digRun_le t;simp only [List.length_cons];split
   ·split<;>omega
   ·split<;>omega
def DigAt (l:List UInt8) (k:Nat):Prop:=1≤k∧k≤l.length∧digRun (l.drop 1)+1=k+digRun (l.drop k)
theorem DigAt.next {l:List UInt8} {k:Nat} {c:UInt8} (h:DigAt l k) (hk:l[k]? = some c) (hc:digitB c=true):DigAt l (k+1):=by
 have hlt:=(List.getElem?_eq_some_iff.1 hk).1;have hd:=drop_at hk;refine⟨by omega,hlt,?_⟩;have:=h.2.2;rw [this,hd,digRun,if_pos hc];omega
theorem DigAt.stop {l:List UInt8} {k:Nat} {c:UInt8} (h:DigAt l k) (hk:l[k]? = some c) (hc:digitB c=false):digRun (l.drop 1)+1=k:=by
 rw [h.2.2,drop_at hk,digRun,hc];simp
theorem DigAt.over {l:List UInt8} {k:Nat} (h:DigAt l k) (hk:k=l.length):digRun (l.drop 1)+1=k:=by
 rw [h.2.2,hk,List.drop_length];rfl
def NamePost (w:World) (b:Nat) (s:ByteArray) (i k:Nat) (d:Int) (e:Ending) (w':World):Prop:=
 ∃r:ByteArray,e=.returned (.string r)∧r.data.toList=(rest s i).take k∧ScanAt w' b s ((i+k:Nat):Int) d∧Keeps (fun k=>k=b) w w'
def CalcAt (l:List UInt8) (o k:Nat):Prop:=k≤l.length∧calcF 0 l=(calcF o (l.drop k)).map (· + k)
theorem CalcAt.start (l:List UInt8):CalcAt l 0 0:=⟨Nat.zero_le _,by rw [List.drop_zero];cases calcF 0 l<;>rfl⟩
theorem calcF_open (o:Nat) (t:List UInt8):calcF o (40::t)=(calcF (o+1) t).map (· + 1):=rfl
theorem calcF_shut (o:Nat) (t:List UInt8) (h:0<o):calcF o (41::t)=(calcF (o - 1) t).map (· + 1):=by
 rw [calcF];rw [if_neg (by decide),if_pos (by decide),if_neg (by omega)]
theorem calcF_end (t:List UInt8):calcF 0 (41::t)=if headIs 41 t then some 0 else none:=rfl
theorem calcF_else (o:Nat) (c:UInt8) (t:List UInt8) (h1:(c==40)=false) (h2:(c==41)=false):calcF o (c::t)=(calcF o t).map (· + 1):=by
 simp only [calcF,h1,h2];rfl
def passQ (q:UInt8):Bool→List UInt8→Option Nat
 | _,[]=>none
 | true,_::t=>(passQ q false t).map (· + 1)
 | false,c::t=>if c==q then some 1 else (passQ q (c==92 && q==34) t).map (· + 1)
def PassAt (q:UInt8) (s:ByteArray) (i I:Nat):Prop:=i≤I∧passQ q false (rest s i)=(passQ q false (rest s I)).map (· + (I - i))
theorem PassAt.start (q:UInt8) (s:ByteArray) (i:Nat):PassAt q s i i:=⟨Nat.le_refl _,by rw [Nat.sub_self];cases passQ q false (rest s i)<;>rfl⟩
theorem rest_cons {s:ByteArray} {I:Nat} (h:I<s.size):rest s I=byteAt s I::rest s (I+1):=by
 have hg:=rest_get (s:=s) (i:=I) (k:=0) (by omega);have hd:=drop_at hg;rw [List.drop_zero] at hd;rw [hd];have:byteAt s I=s[I+0]'(by omega):=by
  rw [byteAt_rest,hd];rfl
 rw [this,rest_drop]
theorem rest_nil {s:ByteArray} {I:Nat} (h:s.size≤I):rest s I=[]:=List.eq_nil_of_length_eq_zero (by rw [rest_len];omega)
theorem PassAt.one {q:UInt8} {s:ByteArray} {i I:Nat} (h:PassAt q s i I) (hI:I<s.size) (h1:(byteAt s I==q)=false) (h2:(byteAt s I==92 && q==34)=false):PassAt q s i (I+1):=by
 refine⟨by have:=h.1;omega,?_⟩;rw [h.2,rest_cons hI,passQ,h1,h2];have:=h.1;cases passQ q false (rest s (I+1)) with
 | none=>rfl
 | some k=>simp;omega
theorem PassAt.two {q:UInt8} {s:ByteArray} {i I:Nat} (h:PassAt q s i I) (hI:I<s.size) (h1:(byteAt s I==q)=false) (h2:(byteAt s I==92 && q==34)=true):PassAt q s i (I+2):=by
 refine⟨by have:=h.1;omega,?_⟩;rw [h.2,rest_cons hI,passQ,h1,h2];have:=h.1;rcases Nat.lt_or_ge (I+1) s.size with hl | hl
 ·rw [rest_cons hl,passQ];cases passQ q false (rest s (I+2)) with
  | none=>rfl
  | some k=>simp;omega
 ·rw [rest_nil hl,rest_nil (by omega:s.size≤I+2)];rfl
theorem PassAt.stop {q:UInt8} {s:ByteArray} {i I:Nat} (h:PassAt q s i I) (hI:I<s.size) (h1:(byteAt s I==q)=true):passQ q false (rest s i)=some (I+1 - i):=by
 have:=h.1;rw [h.2,rest_cons hI,passQ,h1];simp;omega
theorem PassAt.over {q:UInt8} {s:ByteArray} {i I:Nat} (h:PassAt q s i I) (hI:s.size≤I):passQ q false (rest s i)=none:=by
 rw [h.2,rest_nil hI];rfl
theorem scan_moved {w:World} {b n:Nat} {s:ByteArray} {i d:Int} (h:ScanAt w b s i d) (j:Int):∃w',w'=(w.drewN n).setCell ⟨b,1,none⟩ (.int .i64 j)∧ScanAt w' b s j d∧Keeps (fun k=>k=b) w w':=
 ⟨_,rfl,scan_end h n rfl,keep_end _ _ _ _ _⟩
theorem scan_moved0 {w:World} {b:Nat} {s:ByteArray} {i d:Int} (h:ScanAt w b s i d) (j:Int):∃w',w'=w.setCell ⟨b,1,none⟩ (.int .i64 j)∧ScanAt w' b s j d∧Keeps (fun k=>k=b) w w':=
 ⟨_,rfl,scan_end h 0 rfl,keep_end0 _ _ _ _⟩
theorem sub_q1:∀(o:Nat) (l:List UInt8),subF .q1 o l=(passQ 39 false l).bind fun k=>(subF .n o (l.drop k)).map (· + k)
 | _,[]=>rfl
 | o,c::t=>by
  rw [subF,passQ];by_cases h:(c==39)=true
  ·rw [h];simp
  ·have h':(c==39)=false:=by simpa using h
   rw [h'];have h2:(c==92 && (39:UInt8)==34)=false:=by rw [show ((39:UInt8)==34)=false by decide];simp
   rw [h2,if_neg (by simp),if_neg (by simp),sub_q1 o t];cases passQ 39 false t with
   | none=>rfl
   | some k=>
    simp only [Option.bind_some,Option.map_some];rw [List.drop_succ_cons];cases subF .n o (t.drop k) with
    | none=>rfl
    | some m=>simp;omega
mutual
theorem sub_q2:∀(o:Nat) (l:List UInt8),subF .q2 o l=(passQ 34 false l).bind fun k=>(subF .n o (l.drop k)).map (· + k)
 | _,[]=>rfl
 | o,c::t=>by
  rw [subF,passQ];by_cases h:(c==34)=true
  ·rw [h];simp
  ·have h':(c==34)=false:=by simpa using h
   rw [h',show ((34:UInt8)==34)=true from rfl,Bool.and_true];by_cases h2:(c==92)=true
   ·rw [h2];show (subF .bq o t).map _=((passQ 34 true t).map _).bind _;rw [sub_bq o t];cases passQ 34 true t with
    | none=>rfl
    | some k=>
     simp only [Option.bind_some,Option.map_some];rw [List.drop_succ_cons];cases subF .n o (t.drop k) with
     | none=>rfl
     | some m=>simp;omega
   ·have h2':(c==92)=false:=by simpa using h2
    rw [h2'];show (subF .q2 o t).map _=((passQ 34 false t).map _).bind _;rw [sub_q2 o t];cases passQ 34 false t with
    | none=>rfl
    | some k=>
     simp only [Option.bind_some,Option.map_some];rw [List.drop_succ_cons];cases subF .n o (t.drop k) with
     | none=>rfl
     | some m=>simp;omega
theorem sub_bq:∀(o:Nat) (l:List UInt8),subF .bq o l=(passQ 34 true l).bind fun k=>(subF .n o (l.drop k)).map (· + k)
 | _,[]=>rfl
 | o,c::t=>by
  rw [subF,passQ,sub_q2 o t];cases passQ 34 false t with
  | none=>rfl
  | some k=>
   simp only [Option.bind_some,Option.map_some];rw [List.drop_succ_cons];cases subF .n o (t.drop k) with
   | none=>rfl
   | some m=>simp;omega
end
def SubAt (s:ByteArray) (i o I:Nat):Prop:=i≤I∧subF .n 0 (rest s i)=(subF .n o (rest s I)).map (· + (I - i))
theorem SubAt.start (s:ByteArray) (i:Nat):SubAt s i 0 i:=⟨Nat.le_refl _,by rw [Nat.sub_self];cases subF .n 0 (rest s i)<;>rfl⟩
theorem SubAt.on {s:ByteArray} {i o o' I k:Nat} (h:SubAt s i o I) (hs:subF .n o (rest s I)=(subF .n o' (rest s (I+k))).map (· + k)):SubAt s i o' (I+k):=by
 refine⟨by have:=h.1;omega,?_⟩;rw [h.2,hs];have:=h.1;cases subF .n o' (rest s (I+k)) with
 | none=>rfl
 | some m=>simp;omega
theorem SubAt.over {s:ByteArray} {i o I:Nat} (h:SubAt s i o I) (hI:s.size≤I):subF .n 0 (rest s i)=none:=by
 rw [h.2,rest_nil hI];rfl
theorem SubAt.stop {s:ByteArray} {i I:Nat} (h:SubAt s i 0 I) (hI:I<s.size) (hc:byteAt s I=41):subF .n 0 (rest s i)=some (I - i):=by
 rw [h.2,rest_cons hI,hc];have e:subF .n 0 (41::rest s (I+1))=some 0:=rfl;rw [e];simp
theorem sub_else {o:Nat} {c:UInt8} {t:List UInt8} (h1:(c==39)=false) (h2:(c==34)=false) (h3:(c==92)=false) (h4:(c==40)=false) (h5:(c==41)=false):subF .n o (c::t)=(subF .n o t).map (· + 1):=by
 rw [subF,h1,h2,h3,h4,h5];rfl
theorem sub_back {o:Nat} {s:ByteArray} {I:Nat} (hI:I<s.size) (hc:byteAt s I=92):subF .n o (rest s I)=(subF .n o (rest s (I+2))).map (· + 2):=by
 rw [rest_cons hI,hc];have e:subF .n o (92::rest s (I+1))=(subF .bn o (rest s (I+1))).map (· + 1):=rfl;rw [e];rcases Nat.lt_or_ge (I+1) s.size with hl | hl
 ·rw [rest_cons hl,subF];cases subF .n o (rest s (I+1+1)) with
  | none=>rfl
  | some k=>rfl
 ·rw [rest_nil hl,rest_nil (by omega:s.size≤I+2)];rfl
theorem sub_quote1 {o:Nat} {s:ByteArray} {I:Nat} (hI:I<s.size) (hc:byteAt s I=39):subF .n o (rest s I)=(passQ 39 false (rest s (I+1))).bind fun k=>(subF .n o (rest s (I+(k+1)))).map (· + (k+1)):=by
 rw [rest_cons hI,hc];have e:subF .n o (39::rest s (I+1))=(subF .q1 o (rest s (I+1))).map (· + 1):=rfl;rw [e,sub_q1];cases passQ 39 false (rest s (I+1)) with
 | none=>rfl
 | some k=>
  simp only [Option.bind_some];rw [rest_drop,show I+1+k=I+(k+1) by omega];cases subF .n o (rest s (I+(k+1))) with
  | none=>rfl
  | some m=>simp;omega
theorem sub_quote2 {o:Nat} {s:ByteArray} {I:Nat} (hI:I<s.size) (hc:byteAt s I=34):subF .n o (rest s I)=(passQ 34 false (rest s (I+1))).bind fun k=>(subF .n o (rest s (I+(k+1)))).map (· + (k+1)):=by
 rw [rest_cons hI,hc];have e:subF .n o (34::rest s (I+1))=(subF .q2 o (rest s (I+1))).map (· + 1):=rfl;rw [e,sub_q2];cases passQ 34 false (rest s (I+1)) with
 | none=>rfl
 | some k=>
  simp only [Option.bind_some];rw [rest_drop,show I+1+k=I+(k+1) by omega];cases subF .n o (rest s (I+(k+1))) with
  | none=>rfl
  | some m=>simp;omega
theorem test_no {c k:UInt8} (h:c≠k):((c.toNat:Int)==(k.toNat:Int))=false:=by rw [u8_eq];exact beq_eq_false_iff_ne.2 h
theorem test_yes {c k:UInt8} (h:c=k):((c.toNat:Int)==(k.toNat:Int))=true:=by rw [u8_eq];exact beq_iff_eq.2 h
theorem passQ_le {q:UInt8}:∀{l:List UInt8} {e:Bool} {k:Nat},passQ q e l=some k→1≤k∧k≤l.length
 | [],e,k,h=>by cases e<;>cases h
 | c::t,true,k,h=>by
  rw [passQ] at h;cases h2:passQ q false t with
  | none=>rw [h2] at h;cases h
  | some m=>
   rw [h2] at h;have:=passQ_le h2;simp at h ⊢;omega
 | c::t,false,k,h=>by
  rw [passQ] at h;split at h
  ·simp at h ⊢;omega
  ·cases h2:passQ q (c==92 && q==34) t with
   | none=>rw [h2] at h;cases h
   | some m=>
    rw [h2] at h;have:=passQ_le h2;simp at h ⊢;omega
theorem Bag.le {w:World} {B cs wb:Nat} {g:Option Nat} {N:List Pt×Bool} {m:Nat} (h:Bag w B cs wb g N m):cs<B∧B≤wb∧wb<w.heap.size:=by
 have hl:=h.wlt;obtain⟨v,raw,_,_,_,_,_,h3,_⟩:=h;exact⟨h3.1,h3.2,hl⟩
theorem lexD_out (m d:Nat) (c:UInt8) (t:List UInt8):lexD (m+1) (.one false) d (c::t) =
 if c==39 then (match untilF 39 t with
  | none=>.error 2
  | some k=>.ok ([quoP (t.take k)],t.drop (k+1)))
 else if c==34 then (lexD m .dq d t).ahead [quoP []]
 else if c==92 then (match t with
  | []=>.ok ([quoP [92]],[])
  | x::t'=>if x==10 then .ok ([],t') else .ok ([quoP [x]],t'))
 else if c==96 then .error 2
 else if c==36 then lexD m (.dol false) d t
 else .ok ([txtP [c]],t):=rfl
theorem lexD_inn (m d:Nat) (c:UInt8) (t:List UInt8):lexD (m+1) (.one true) d (c::t) =
 if c==34 || c==96 then .error 2
 else if c==92 && headIs 10 t then .ok ([],t.tail)
 else if c==92 && escB (t.headD 0) then .ok ([quoP [t.headD 0]],t.tail)
 else if c==36 then lexD m (.dol true) d t
 else .ok ([quoP [c]],t):=rfl
theorem rest_drop1 (s:ByteArray) (i:Nat):(rest s i).tail=rest s (i+1):=by rw [←rest_drop,List.drop_one]
def Md.least:Md→Nat | .one _=>1 | _=>0
theorem lexD_dq (n d:Nat) (r:List UInt8):lexD (n+1) .dq d r=match r with
 | []=>.error 2
 | c::t=>if c==34 then .ok ([],t) else match lexD n (.one true) d r with
  | .error e=>.error e
  | .ok (l,r1)=>(lexD n .dq d r1).ahead l:=by cases r<;>rfl
theorem lexD_br (n d:Nat) (q:Bool) (r:List UInt8):lexD (n+1) (.br q) d r=match r with
 | []=>.error 2
 | c::t=>if c==125 then .ok ([],t) else match lexD n (.one q) d r with
  | .error e=>.error e
  | .ok (l,r1)=>(lexD n (.br q) d r1).ahead l:=by cases r<;>rfl
theorem lexD_dol (n d:Nat) (q:Bool) (r:List UInt8):lexD (n+1) (.dol q) d r =
 if headIs 123 r then lexD n (.brace q) d r.tail
 else if startsF [40,40] r then (match calcF 0 (r.drop 2) with
  | none=>.error 2
  | some k=>.ok ([.mk 4 ((r.drop 2).take k) [] [] [] q],(r.drop 2).drop (k+2)))
 else if headIs 40 r then (match subF .n 0 r.tail with
  | none=>.error 2
  | some k=>.ok ([.mk 5 (r.tail.take k) [] [] [] q],r.tail.drop (k+1)))
 else if nameF false r=0 then .ok ([if q then quoP [36] else txtP [36]],r)
 else .ok ([.mk 3 [] (r.take (nameF false r)) [] [] q],r.drop (nameF false r)):=rfl
theorem lexD_brace (n d:Nat) (q:Bool) (r:List UInt8):lexD (n+1) (.brace q) d r =
 if nameF true (if longB r then r.tail else r)=0 then .error 2
 else if headIs 125 ((if longB r then r.tail else r).drop (nameF true (if longB r then r.tail else r))) then .ok ([.mk 3 [] ((if longB r then r.tail else r).take (nameF true (if longB r then r.tail else r))) (if longB r then [76] else []) [] q],((if longB r then r.tail else r).drop (nameF true (if longB r then r.tail else r))).tail)
 else if (opF ((if longB r then r.tail else r).drop (nameF true (if longB r then r.tail else r)))).isEmpty || longB r then .error 2
 else if d=40 then .error 3
 else match lexD n (.br q) (d+1) (((if longB r then r.tail else r).drop (nameF true (if longB r then r.tail else r))).drop (opF ((if longB r then r.tail else r).drop (nameF true (if longB r then r.tail else r)))).length) with
  | .error e=>.error e
  | .ok (l,r3)=>.ok ([.mk 3 [] ((if longB r then r.tail else r).take (nameF true (if longB r then r.tail else r))) (opF ((if longB r then r.tail else r).drop (nameF true (if longB r then r.tail else r)))) (tidyF l) q],r3):=rfl
theorem ahead_ok {l m:List Pt} {r:List UInt8} {R:Res} (h:R.ahead l=.ok (m,r)):∃m',R=.ok (m',r)∧m=l++m':=by
 cases R with
 | error e=>cases h
 | ok x=>
  obtain⟨a,b⟩:=x;simp only [Res.ahead,Except.ok.injEq,Prod.mk.injEq] at h;exact⟨a,by rw [h.2],h.1.symm⟩
theorem lexD_len:∀(n:Nat) (md:Md) (d:Nat) (r:List UInt8) (l:List Pt) (r1:List UInt8),lexD n md d r=.ok (l,r1)→r1.length≤r.length - md.least:=by
 intro n;induction n with
 | zero=>intro md d r l r1 h;cases md<;>cases h
 | succ n ih=>
  intro md d r l r1 h;cases md with
  | one q=>
   cases r with
   | nil=>cases q<;>(cases h;exact Nat.zero_le _)
   | cons c t=>
    show r1.length≤t.length+1 - 1;have htl:t.tail.length≤t.length:=by rw [List.length_tail];omega
    cases q with
    | false=>
     rw [lexD_out] at h;split at h
     ·split at h
      ·cases h
      ·cases h;rw [List.length_drop];omega
     split at h
     ·obtain⟨m',h',_⟩:=ahead_ok h;exact ih _ _ _ _ _ h'
     split at h
     ·split at h
      ·cases h;exact Nat.zero_le _
      ·split at h<;>(cases h;simp only [List.length_cons];omega)
     split at h
     ·cases h
     split at h
     ·exact ih _ _ _ _ _ h
     ·cases h;omega
    | true=>
     rw [lexD_inn] at h;split at h
     ·cases h
     split at h
     ·cases h;omega
     split at h
     ·cases h;omega
     split at h
     ·exact ih _ _ _ _ _ h
     ·cases h;omega
  | dq=>
   rw [lexD_dq] at h;cases r with
   | nil=>cases h
   | cons c t=>
    simp only at h;split at h
    ·cases h;exact Nat.le_succ _
    split at h
    ·cases h
    ·next l' r' h1=>
     obtain⟨m',h',_⟩:=ahead_ok h;have e1:=ih _ _ _ _ _ h1;have e2:=ih _ _ _ _ _ h';simp only [Md.least] at e1 e2 ⊢;omega
  | br q=>
   rw [lexD_br] at h;cases r with
   | nil=>cases h
   | cons c t=>
    simp only at h;split at h
    ·cases h;exact Nat.le_succ _
    split at h
    ·cases h
    ·next l' r' h1=>
     obtain⟨m',h',_⟩:=ahead_ok h;have e1:=ih _ _ _ _ _ h1;have e2:=ih _ _ _ _ _ h';simp only [Md.least] at e1 e2 ⊢;omega
  | dol q=>
   rw [lexD_dol] at h;show r1.length≤r.length;have htl:r.tail.length≤r.length:=by rw [List.length_tail];omega
   split at h
   ·have:=ih _ _ _ _ _ h;simp only [Md.least] at this;omega
   split at h
   ·split at h
    ·cases h
    ·cases h;simp only [List.length_drop];omega
   split at h
   ·split at h
    ·cases h
    ·cases h;simp only [List.length_drop];omega
   split at h
   ·cases h;omega
   ·cases h;simp only [List.length_drop];omega
  | brace q=>
   rw [lexD_brace] at h;show r1.length≤r.length;have h0:(if longB r then r.tail else r).length≤r.length:=by
    split
    ·rw [List.length_tail];omega
    ·exact Nat.le_refl _
   revert h h0;generalize (if longB r then r.tail else r)=r';intro h h0;split at h
   ·cases h
   split at h
   ·cases h;simp only [List.length_tail,List.length_drop];omega
   split at h
   ·cases h
   split at h
   ·cases h
   split at h
   ·cases h
   ·next l' r3 h1=>
    cases h;have:=ih _ _ _ _ _ h1;simp only [Md.least,List.length_drop] at this;omega
theorem Bag.new {w:World} {cs:Nat} (T:TypeId) (hcs:cs<w.heap.size):Bag (w.alloc (.cells #[.slice none 0 0] T)) w.heap.size cs w.heap.size none ([],false) 0:=
 ⟨.slice none 0 0,[],⟨T,heap_alloc_new w _⟩,OwnPts.nil _ _,rfl,by simp,by simp,⟨hcs,Nat.le_refl _⟩,rfl,(fun p hp=>by cases hp),Nat.le_refl _⟩
end Go.Proofs.YtiihpbccabeoeaaGreatDoor
