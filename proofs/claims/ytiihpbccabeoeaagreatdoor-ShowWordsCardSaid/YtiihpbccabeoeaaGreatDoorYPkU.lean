/- The walk: a part. -/
import Derived.Test.YtiihpbccabeoeaaGreatDoorYPkT
import Derived.Test.YtiihpbccabeoeaaGreatDoorYPkC
namespace Go.Proofs.YtiihpbccabeoeaaGreatDoor
open Go.RowKit
set_option linter.unusedVariables false
set_option maxRecDepth 100000
set_option maxHeartbeats 16000000
theorem rword_all (N:Nat):WordOK N:=by
 induction N using Nat.strongRecOn with
 | ind N ih=>
  cases N with
  | zero=>intro cs s I d wh q w _ _ _ _ _ hN;exact absurd hN (Nat.not_lt_zero _)
  | succ N=>
   have hB:BraceOK N:=by
    cases N with
    | zero=>intro B cs s I d q v raw w _ _ _ _ _ _ _ _ hN;exact absurd hN (Nat.not_lt_zero _)
    | succ k=>exact rbrace_any k (ih k (by omega))
   exact rword_step N (rinner_any N (rdollar_any N hB)) (rdollar_any N hB)
theorem rword_any (cs:Nat) (s:ByteArray) (I:Nat) (wh:Bool) (w:World) (h:ScanAt w cs s I ((0:Nat):Int)) (hI:I≤s.size) (hs:s.size≤20000) (hcs:cs<w.heap.size) :
 Calls Tryz.prog 24 #[.pointer (some ⟨cs,0,none⟩),.bool wh,.int .i64 0,.bool false] w (RWord w cs s 0 (wordC wh (rest s I))):=by
 rw [←wordX_whole wh _ _ (Nat.le_refl _)];exact rword_all (s.size - I+1) cs s I 0 wh false w h hI hs (by omega) hcs (by omega)
def ropsL:List (List UInt8):=[[59,59],[38,38],[124,124],[62,62],[50,62,62],[50,62],[59],[124],[40],[41],[60],[62],[10]]
def ropC:Array Value:=#[.string ⟨#[59,59]⟩,.string ⟨#[38,38]⟩,.string ⟨#[124,124]⟩,.string ⟨#[62,62]⟩,.string ⟨#[50,62,62]⟩,.string ⟨#[50,62]⟩,.string ⟨#[59]⟩,.string ⟨#[124]⟩,.string ⟨#[40]⟩,.string ⟨#[41]⟩,.string ⟨#[60]⟩,.string ⟨#[62]⟩,.string ⟨#[10]⟩]
theorem ropC_at (k:Nat) (hk:k<13):ropC[k]? = some (strV (ropsL.getD k [])):=by
 obtain rfl | rfl | rfl | rfl | rfl | rfl | rfl | rfl | rfl | rfl | rfl | rfl | rfl:k=0∨k=1∨k=2∨k=3∨k=4∨k=5∨k=6∨k=7∨k=8∨k=9∨k=10∨k=11∨k=12:=by omega
 all_goals rfl
theorem ropL_len (k:Nat) (hk:k<13):(ropsL.getD k []).length≤3∧0<(ropsL.getD k []).length:=by
 have:∀k:Fin 13,(ropsL.getD k.val []).length≤3∧0<(ropsL.getD k.val []).length:=by decide +kernel
 exact this ⟨k,hk⟩
theorem starts_cons (a b:UInt8) (p r:List UInt8):startsF (a::p) (b::r)=(a==b && startsF p r):=rfl
theorem starts_nil (r:List UInt8):startsF [] r=true:=rfl
theorem rops_same (r:List UInt8):findF ropsL r=operF r:=by
 unfold operF;cases r with
 | nil=>rfl
 | cons c t=>
  unfold findF ropsL operL;simp only [List.find?_cons,starts_cons,starts_nil,List.find?_nil,Bool.and_true];by_cases h50:c=50
  ·subst h50;rfl
  by_cases h59:c=59
  ·subst h59;rfl
  by_cases h38:c=38
  ·subst h38;rfl
  by_cases h124:c=124
  ·subst h124;rfl
  by_cases h62:c=62
  ·subst h62;rfl
  have g50:((50:UInt8)==c)=false:=beq_eq_false_iff_ne.2 (Ne.symm h50);have g59:((59:UInt8)==c)=false:=beq_eq_false_iff_ne.2 (Ne.symm h59);have g38:((38:UInt8)==c)=false:=beq_eq_false_iff_ne.2 (Ne.symm h38);have g124:((124:UInt8)==c)=false:=beq_eq_false_iff_ne.2 (Ne.symm h124);have g62:((62:UInt8)==c)=false:=beq_eq_false_iff_ne.2 (Ne.symm h62);simp only [g50,g59,g38,g124,g62,Bool.false_and]
theorem tokC_of_skip {r r':List UInt8} (h:skipF false r=skipF false r'):tokC r=tokC r':=by rw [tokC_eq r,tokC_eq r',h]
theorem tokC_blankR {c:UInt8} {t:List UInt8} (h:(c==32 || c==9)=true):tokC (c::t)=tokC t:=tokC_of_skip (by rw [skipF_cons,h,if_pos rfl])
theorem tokC_line {t:List UInt8}:tokC (92::10::t)=tokC t:=tokC_of_skip (by rw [skipF_cons];rfl)
def RComm (s:ByteArray) (i I:Nat):Prop:=skipF true (rest s i)=skipF true (rest s I)
theorem RComm.on {s:ByteArray} {i I:Nat} (h:RComm s i I) (hI:I<s.size) (hc:(byteAt s I==10)=false):RComm s i (I+1):=by
 unfold RComm at *;rw [h,rest_cons hI];show (if byteAt s I==10 then _ else _)=_;rw [hc,if_neg (by simp)]
theorem RComm.end {s:ByteArray} {i I:Nat} (h:RComm s i I) (hI:s.size≤I∨I<s.size∧byteAt s I=10) (hi:i<s.size) (hc:byteAt s i=35):tokC (rest s i)=tokC (rest s I):=by
 refine tokC_of_skip ?_;have h1:skipF false (rest s i)=skipF true (rest s i):=by
  rw [rest_cons hi,hc,skipF_cons];rfl
 rw [h1,h];rcases hI with hI | ⟨hI,hc2⟩
 ·rw [rest_nil hI];rfl
 ·rw [rest_cons hI,hc2,skipF_cons];rfl
theorem skip_none {c:UInt8} {t:List UInt8} (h1:(c==32 || c==9)=false) (h2:(c==35)=false) (h3:(c==92 && headIs 10 t)=false):skipF false (c::t)=c::t:=by
 rw [skipF_cons,h1,if_neg (by simp),h2,if_neg (by simp)];split
 ·next h4=>
  cases t with
  | nil=>rfl
  | cons x t'=>
   dsimp only;rw [h4,Bool.true_and] at h3;have h5:(x==10)=false:=h3;rw [h5,if_neg (by simp)]
 ·rfl
theorem OwnTks.more' {w w1:World} {v:Value} {H n cs:Nat} {l:List Tk} {x:Tk} {wv:Value} (h:OwnTks w (fun b=>H≤b) v l) (hlow:∀g,v.ownBlock=some g→H≤g) (hH:H≤w.heap.size) (hk:Keeps (fun b=>b=cs) w w1) (hcs:cs<H) (hx:PtsAt w1 (fun b=>w.heap.size≤b) n x.word wv) :
 ∃xs,w1.ownsRow 0 109 3 v l.length xs∧∀(g cap:Nat) (w2:World) (o:Obj),w2.ownsRow 0 109 3 (.slice (some ⟨g,0,none⟩) (l.length+1) cap) (l.length+1) (xs++cellsK x wv)→(w1.alloc o).grownBy w2 v.ownBlock→(v.ownBlock=some g∨g=w1.heap.size+1)→
  OwnTks w2 (fun b=>H≤b) (.slice (some ⟨g,0,none⟩) (l.length+1) cap) (l++[x])∧H≤g∧Keeps (fun b=>H≤b) w1 w2:=by
 have hm:=h.keep hk (fun b _ hb e=>by omega) (fun g hg e=>by have:=hlow g hg;omega);obtain⟨vs,m,hl,ho,hn⟩:=hm;refine⟨_,ho,fun g cap w2 o hown hg hat=>?_⟩;have k:Keeps (fun b=>v.ownBlock=some b) w1 w2:=((Keeps.refl _ w1).alloc o).grown hg fun k hk _=>hk;have hgH:H≤g:=by
  have:=hk.size;rcases hat with e | e
  ·exact hlow _ e
  ·omega
 refine⟨grow_tks (B:=H) (v:=v) (w:=w1) (x:=x) (m:=n) (hx.mono fun b hb hd=>⟨by omega,fun e=>by have:=h.lt e;omega⟩) hl hn hown k (fun y hy=>?_),hgH,k.mono (fun b hb e=>hlow _ e)⟩;obtain rfl:g=y:=Option.some.inj hy;rcases hat with e | e
 ·exact .inl e
 ·exact .inr (by omega)
structure RTk (W wr:World) (cs ob H:Nat) (s:ByteArray) (I:Nat) (l:List Tk) (v:Value):Prop where
 sc:ScanAt wr cs s I ((0:Nat):Int)
 ops:wr.heap[ob]? = some (.cells ropC 9 (0,0))
 own:OwnTks wr (fun b=>H≤b) v l
 low:∀g,v.ownBlock=some g→H≤g
 size:H≤wr.heap.size
 kp:Keeps (fun b=>b=cs∨H≤b) W wr
theorem RTk.move {W wr w':World} {cs ob H:Nat} {s:ByteArray} {I J:Nat} {l:List Tk} {v:Value} (h:RTk W wr cs ob H s I l v) (hk:Keeps (fun b=>b=cs) wr w') (hs:ScanAt w' cs s J ((0:Nat):Int)) (h1:cs≠ob) (h3:cs<H):RTk W w' cs ob H s J l v:=
 ⟨hs,(hk.block ob (Array.getElem?_eq_some_iff.1 h.ops).1 (fun e=>h1 e.symm)).trans h.ops,h.own.keep hk (fun b _ hb e=>by omega) (fun g hg e=>by have:=h.low g hg;omega),h.low,Nat.le_trans h.size hk.size,h.kp.trans hk (fun _ _ e=>.inl e)⟩
theorem RTk.drewN {W wr:World} {cs ob H:Nat} {s:ByteArray} {I:Nat} {l:List Tk} {v:Value} (h:RTk W wr cs ob H s I l v) (n:Nat) (h1:cs≠ob) (h3:cs<H):RTk W (wr.drewN n) cs ob H s I l v:=
 h.move ((Keeps.refl _ _).drewN n) (h.sc.drewN n) h1 h3
theorem RTk.more {W wr w1:World} {cs ob H:Nat} {s:ByteArray} {I J n:Nat} {l:List Tk} {va:Option Addr} {vn vc:Nat} {x:Tk} {wv:Value} (h:RTk W wr cs ob H s I l (.slice va vn vc)) (hk:Keeps (fun b=>b=cs) wr w1) (hs:ScanAt w1 cs s J ((0:Nat):Int)) (h1:cs≠ob) (h3:cs<H) (hob:ob<H)
 (hx:PtsAt w1 (fun b=>wr.heap.size≤b) n x.word wv) :
 vn=l.length∧∃xs,w1.ownsRow 0 109 3 (.slice va vn vc) vn xs∧∀(g cap:Nat) (w2:World) (o:Obj),w2.ownsRow 0 109 3 (.slice (some ⟨g,0,none⟩) (vn+1) cap) (vn+1) (xs++cellsK x wv)→(w1.alloc o).grownBy w2 (Value.slice va vn vc).ownBlock→((Value.slice va vn vc).ownBlock=some g∨g=w1.heap.size+1)→
  RTk W w2 cs ob H s J (l++[x]) (.slice (some ⟨g,0,none⟩) (vn+1) cap):=by
 have hvn:vn=l.length:=by
  obtain⟨a,c,e,_⟩:=h.own.shape;injection e
 subst hvn;obtain⟨xs,ho,hF⟩:=h.own.more' h.low h.size hk h3 hx;refine⟨rfl,xs,ho,fun g cap w2 o a b c=>?_⟩;obtain⟨k1,k2,k3⟩:=hF g cap w2 o a b c;have hm:=h.move hk hs h1 h3;exact⟨hm.sc.keep k3 (fun e=>by omega),(k3.block ob (Array.getElem?_eq_some_iff.1 hm.ops).1 (fun e=>by omega)).trans hm.ops,k1,fun y hy=>(by obtain rfl:g=y:=Option.some.inj hy;exact k2),Nat.le_trans hm.size k3.size,hm.kp.trans k3 (fun _ _ e=>.inr e)⟩
def RToks (w:World) (res:Except Nat (List Tk)) (e:Ending) (w':World):Prop:=
 match res with
 | .ok l=>∃(v:Value),e=.returned (.tuple #[v,.int .i64 0])∧OwnTks w' (fun b=>w.heap.size≤b) v l∧(∀g,v.ownBlock=some g→w.heap.size≤g)∧Keeps (fun _=>False) w w'
 | .error x=>x≠0∧e=.returned (.tuple #[.slice none 0 0,.int .i64 x])∧Keeps (fun _=>False) w w'
theorem rtk_ok {w W wr:World} {cs ob H:Nat} {s:ByteArray} {I:Nat} {l:List Tk} {v:Value} {res:Except Nat (List Tk)} (h:RTk W wr cs ob H s I l v) (hw:Keeps (fun _=>False) w W) (hc:w.heap.size≤cs) (hH:w.heap.size≤H) (hr:res=.ok l):RToks w res (.returned (.tuple #[v,.int .i64 0])) wr:=by
 rw [hr];refine⟨v,rfl,?_,fun g hg=>Nat.le_trans hH (h.low g hg),?_⟩
 ·obtain⟨vs,n,a,b,c⟩:=h.own;exact⟨vs,n,a,b,fun i h h'=>(c i h h').mono fun b _ hb=>⟨Nat.le_trans hH hb.1,hb.2⟩⟩
 ·refine hw.trans (h.kp.mono (T:=fun b=>b=cs∨H≤b) fun _ _ e=>e) (fun b hb e=>?_);rcases e with e | e<;>omega
theorem rtk_err {w W wr:World} {cs H x:Nat} {res:Except Nat (List Tk)} (hk:Keeps (fun b=>b=cs∨H≤b) W wr) (hw:Keeps (fun _=>False) w W) (hc:w.heap.size≤cs) (hH:w.heap.size≤H) (hx:x≠0) (hr:res=.error x):RToks w res (.returned (.tuple #[.slice none 0 0,.int .i64 x])) wr:=by
 rw [hr];refine⟨hx,rfl,hw.trans hk (fun b hb e=>?_)⟩;rcases e with e | e<;>omega
def wordToks (l:List Tk):Res→Except Nat (List Tk)
 | .error e=>.error e
 | .ok (p,r1)=>consL (l++[⟨1,[],tidyF p⟩]) (tokC r1)
theorem rtoks_rest (s:ByteArray) (w:World) (hs:s.size≤20000) (hm:mayF s.data.toList=0) :
 Calls Tryz.prog 32 #[.string s] w (RToks w (tokC s.data.toList)):=by
 have hc3:=cells_token;obtain⟨i0,hi0,hz0,hz1,hz2⟩:=info_parts info_token;obtain⟨res,hres⟩:∃res,res=tokC s.data.toList:=⟨_,rfl⟩;rw [←hres];have HRES:=Hd (show res=consL [] (tokC (rest s 0)) by rw [hres,consL_nil,rest0]);have HM:=Hd (show mayF s.data.toList=0 from hm);clear hres hm;go_enter Tryz.func32,Tryz.ntmps32;go_wp2_with fail;refine (rmay_any s _ (by omega)).mono ?_;rintro e w1 ⟨rfl,hw1⟩;rw [HM.out,hw1]
 clear hw1;go_wp2_with fail;obtain⟨W,hW⟩:∃W,W=(w.alloc (.cells #[.string s,.int .i64 0,.int .i64 0] 57)).alloc (.cells ropC 9):=⟨_,rfl⟩;have hW2:=hW;unfold ropC at hW2;rw [←hW2];obtain⟨cs,hcs⟩:∃cs,cs=w.heap.size:=⟨_,rfl⟩;obtain⟨ob,hob⟩:∃ob,ob=cs+1:=⟨_,rfl⟩;obtain⟨H,hH⟩:∃H,H=ob+1:=⟨_,rfl⟩;rw [←hcs,←hob];have HTK0:=Hd (show RTk W W cs ob H s 0 [] (.slice none 0 0) by
  have hz:(w.alloc (.cells #[.string s,.int .i64 0,.int .i64 0] 57)).heap.size=ob:=by rw [hob,hcs];simp
  refine⟨?_,?_,OwnTks.nil _ _,fun g hg=>(by cases hg),?_,Keeps.refl _ _⟩
  ·rw [hW,hcs];exact (ScanAt.new w s 0 0 _).alloc _
  ·rw [hW,←hz];exact heap_alloc_new _ _
  ·rw [hW,hH];simp [hob,hcs])
 have HKW:=Hd (show Keeps (fun _=>False) w W by rw [hW];exact ((Keeps.refl _ _).alloc _).alloc _);have hco:cs≠ob:=by omega
 have hcH:cs<H:=by omega
 have hoH:ob<H:=by omega
 have HCW:=Hd (show w.heap.size≤cs by omega);have HHW:=Hd (show w.heap.size≤H by omega);clear hW hW2 hcs hob hH;go_loopg [5] (s.size+2 - 0) (fun g v wr=>∃(I:Nat) (l:List Tk),g=s.size+2 - I∧I≤s.size∧l.length≤I∧RTk W wr cs ob H s I l v∧Hid (res=consL l (tokC (rest s I))))
 case atStart=>exact⟨0,[],rfl,Nat.zero_le _,Nat.le_refl _,HTK0.out,HRES⟩
 case round=>
  obtain⟨I,l,hgg,hIs,hln,htk,HR⟩:=hrel;obtain⟨va,vn,vc,rfl⟩:∃(a:Option Addr) (n c:Nat),_=Value.slice a n c:=by obtain⟨a,c,e,_⟩:=htk.own.shape;exact⟨a,_,c,e⟩
  have HGG:=Hd hgg;have H0:=Hd htk;clear hgg htk;by_cases hlt:I<s.size
  ·skip;have HE:=Hd (show decide (s.size≤I)=false from decide_eq_false (by omega));obtain⟨c,hc⟩:∃c,c=byteAt s I:=⟨_,rfl⟩;have HC:=Hd hc.symm;have HRC:=Hd (show rest s I=c::rest s (I+1) by rw [rest_cons hlt,←hc]);clear hc;go_wp2_with fail;refine (over_any cs s I _ _ H0.out.sc).mono ?_;rintro e wy ⟨rfl,q1,rfl⟩;rw [HE.out];obtain⟨W1,hW⟩:∃Z:World,Z=wr.drewN q1:=⟨_,rfl⟩;rw [←hW];have H1:=Hd (show RTk W W1 cs ob H s I l (.slice va vn vc) by rw [hW];exact H0.out.drewN _ hco hcH)
   clear hW;go_wp2_with fail;refine (see0_any cs s I _ _ H1.out.sc (by omega) (by omega)).mono ?_;rintro e wy ⟨rfl,q2,rfl⟩;rw [HC.out];obtain⟨W2,hW⟩:∃Z:World,Z=W1.drewN q2:=⟨_,rfl⟩;rw [←hW];have H2:=Hd (show RTk W W2 cs ob H s I l (.slice va vn vc) by rw [hW];exact H1.out.drewN _ hco hcH);clear hW;cases tb:(c==32 || c==9) with
   | true=>
    have HN:=Hd (show res=consL l (tokC (rest s (I+1))) by rw [HR.out,HRC.out,tokC_blankR tb]);by_cases t32:c=32
    ·have f32:((c.toNat:Int)==32)=true:=test_yes (c:=c) (k:=32) t32;clear t32 tb;obtain⟨d0,d1,d2,g1,g2⟩:=H2.out.sc.cells;obtain⟨W3,hW⟩:∃Z:World,Z=W2.setCell ⟨cs,1,none⟩ (.int .i64 ((I:Int)+1)):=⟨_,rfl⟩;obtain⟨hsm,hkm⟩:=rmoved H2.out.sc (j:=(I:Int)+1) (J:=I+1) (by omega);have H3:=Hd (show RTk W W3 cs ob H s (I+1) l (.slice va vn vc) by rw [hW];exact H2.out.move hkm hsm hco hcH);have HW3:=Hd hW;clear hW hsm hkm
     go_wp2_with fail;rw [←HW3.out];go_roundg (s.size+2 - (I+1))
     case measure=>have:=HGG.out;omega
     case rel=>exact⟨I+1,l,rfl,by omega,by omega,H3.out,HN⟩
    ·have f32:((c.toNat:Int)==32)=false:=test_no (c:=c) (k:=32) t32;have f9:((c.toNat:Int)==9)=true:=by
      rw [beq_eq_false_iff_ne.2 t32,Bool.false_or] at tb;exact test_yes (c:=c) (k:=9) (beq_iff_eq.1 tb)
     clear t32 tb;obtain⟨d0,d1,d2,g1,g2⟩:=H2.out.sc.cells;obtain⟨W3,hW⟩:∃Z:World,Z=W2.setCell ⟨cs,1,none⟩ (.int .i64 ((I:Int)+1)):=⟨_,rfl⟩;obtain⟨hsm,hkm⟩:=rmoved H2.out.sc (j:=(I:Int)+1) (J:=I+1) (by omega);have H3:=Hd (show RTk W W3 cs ob H s (I+1) l (.slice va vn vc) by rw [hW];exact H2.out.move hkm hsm hco hcH);have HW3:=Hd hW;clear hW hsm hkm;go_wp2_with fail;rw [←HW3.out];go_roundg (s.size+2 - (I+1))
     case measure=>have:=HGG.out;omega
     case rel=>exact⟨I+1,l,rfl,by omega,by omega,H3.out,HN⟩
   | false=>
    have TB:=Hd tb;have t32:c≠32:=by rintro rfl;cases tb
    have t9:c≠9:=by rintro rfl;cases tb
    have f32:((c.toNat:Int)==32)=false:=test_no (c:=c) (k:=32) t32;have f9:((c.toNat:Int)==9)=false:=test_no (c:=c) (k:=9) t9;clear t32 t9 tb;obtain⟨x,hx⟩:∃x,x=byteAt s (I+1):=⟨_,rfl⟩;have HX:=Hd hx.symm;have HHD:=Hd (show headIs 10 (rest s (I+1))=(x==10) by
     rw [hx];rcases Nat.lt_or_ge (I+1) s.size with h | h
     ·rw [rest_cons h];rfl
     ·rw [rest_nil h];unfold byteAt;rw [List.getD_eq_getElem?_getD,List.getElem?_eq_none (by rw [←Lib.size_eq];omega)];rfl)
    clear hx;by_cases t92:c=92
    ·have f92:((c.toNat:Int)==92)=true:=test_yes (c:=c) (k:=92) t92;have f35:((c.toNat:Int)==35)=false:=test_no (c:=c) (k:=35) (by rw [t92];decide);by_cases t10:x=10
     ·have f10:((x.toNat:Int)==10)=true:=test_yes (c:=x) (k:=10) t10;have hin:I+1<s.size:=by
       rcases Nat.lt_or_ge (I+1) s.size with h | h
       ·exact h
       ·have:=HHD.out;rw [rest_nil h,t10] at this;cases this
      have HN:=Hd (show res=consL l (tokC (rest s (I+2))) by
       rw [HR.out,HRC.out,rest_cons hin,HX.out,t92,t10,tokC_line])
      clear t10 t92;go_wp2_with fail;refine (see1_any cs s I _ _ H2.out.sc (by omega) (by omega)).mono ?_;rintro e wy ⟨rfl,q3,rfl⟩;rw [HX.out];obtain⟨W3,hW⟩:∃Z:World,Z=W2.drewN q3:=⟨_,rfl⟩;rw [←hW];have H3:=Hd (show RTk W W3 cs ob H s I l (.slice va vn vc) by rw [hW];exact H2.out.drewN _ hco hcH);clear hW;obtain⟨d0,d1,d2,g1,g2⟩:=H3.out.sc.cells;obtain⟨W4,hW⟩:∃Z:World,Z=W3.setCell ⟨cs,1,none⟩ (.int .i64 ((I:Int)+2)):=⟨_,rfl⟩
      obtain⟨hsm,hkm⟩:=rmoved H3.out.sc (j:=(I:Int)+2) (J:=I+2) (by omega);have H4:=Hd (show RTk W W4 cs ob H s (I+2) l (.slice va vn vc) by rw [hW];exact H3.out.move hkm hsm hco hcH);have HW4:=Hd hW;clear hW hsm hkm;go_wp2_with fail;rw [←HW4.out];go_roundg (s.size+2 - (I+2))
      case measure=>have:=HGG.out;omega
      case rel=>exact⟨I+2,l,rfl,by omega,by omega,H4.out,HN⟩
     ·have f10:((x.toNat:Int)==10)=false:=test_no (c:=x) (k:=10) t10;have HSK:=Hd (show skipF false (rest s I)=rest s I by
       rw [HRC.out];exact skip_none TB.out (by rw [t92];rfl) (by rw [HHD.out,beq_eq_false_iff_ne.2 t10,Bool.and_false]))
      clear t10 t92;go_wp2_with fail;refine (see1_any cs s I _ _ H2.out.sc (by omega) (by omega)).mono ?_;rintro e wy ⟨rfl,q3,rfl⟩;rw [HX.out];obtain⟨W3,hW⟩:∃Z:World,Z=W2.drewN q3:=⟨_,rfl⟩;rw [←hW];have H3:=Hd (show RTk W W3 cs ob H s I l (.slice va vn vc) by rw [hW];exact H2.out.drewN _ hco hcH);clear hW
      as_aux_lemma=>
       have hlt':(I:Int)≤(s.size:Int):=by omega
       go_wp2_with fail;go_loopg [8,9] (15) (fun g o k wr=>∃(n:Nat) (T:ByteArray),g=15 - n∧k=.int .i64 n∧o=.string T∧n≤13∧RTk W wr cs ob H s I l (.slice va vn vc)∧Hid ((T.data.toList=[]∧∀j,j<n→startsF (ropsL.getD j []) (rest s I)=false)∨(T.data.toList≠[]∧T.data.toList=operF (rest s I))))
       case atStart=>exact⟨0,⟨#[]⟩,rfl,rfl,rfl,by omega,H3.out,Hd (.inl ⟨rfl,fun j hj=>absurd hj (Nat.not_lt_zero _)⟩)⟩
       case round=>
        obtain⟨n,T,hg2,rfl,rfl,hn,htk,HD⟩:=hrel;have HGG2:=Hd hg2;have H3:=Hd htk;obtain⟨d0,d1,d2,g1,g2⟩:=htk.sc.cells;clear hg2 htk;rcases HD.out with ⟨hT,hno⟩ | ⟨hT,hop⟩
        ·have HNO:=Hd hno;have HTE:=Hd hT;obtain⟨u1,u2⟩:=ba_empty hT;by_cases hlt3:n<13
         ·have p1:(n:Int)<13:=by omega
          have hcell:wr.cell? ⟨ob,n,none⟩=some (strV (ropsL.getD n [])):=by
           rw [cell_of_row wr ob n _ _ _ H3.out.ops];exact ropC_at n hlt3
          obtain⟨hl3,hl4⟩:=ropL_len n hlt3;unfold strV at hcell;obtain⟨R,hR⟩:∃R,R=s.extract I s.size:=⟨_,rfl⟩;have hRl:R.data.toList=rest s I:=by rw [hR,Lib.extract_to_end];rfl
          have HRE:=Hd hR;have HRL:=Hd hRl;have hRz:(s.extract I s.size).size≤s.size:=by rw [ByteArray.size_extract];omega
          have HDR:=Hd (fun q=>H3.out.drewN q hco hcH);clear hR hRl hno hT HD;cases hst:startsF (ropsL.getD n []) (rest s I)
          ·have HS:=Hd hst;have HN2:=Hd (hid_step HNO.out hst);clear hst;generalize ropsL.getD n []=t at hcell HS hl3 hl4;obtain⟨Q,hQ⟩:∃Q:ByteArray,Q=⟨t.toArray⟩:=⟨_,rfl⟩;have HB2:=Hd (show startsF Q.data.toList (s.extract I s.size).data.toList=false by rw [←HRE.out,HRL.out,hQ];exact HS.out);rw [←hQ] at hcell;clear hQ;go_wp2_with fail;go_quiet ((go_at_call 61;exact Calls.quiet_of_same ((begins_any _ _ _ (by omega)).mono (fun e w' hh=>by rw [HB2.out] at hh;exact hh))))
           go_wp2_with fail;go_roundg (15 - (n+1))
           case measure=>have:=HGG2.out;omega
           case rel=>exact⟨n+1,T,rfl,by go_num,rfl,by omega,HDR.out _,Hd (.inl ⟨HTE.out,HN2.out⟩)⟩
          ·have HF:=Hd ((rops_same _).symm.trans (findF_at HNO.out (show n<ropsL.length from hlt3) hst));have HS:=Hd hst;clear hst;generalize ropsL.getD n []=t at hcell HS hl3 hl4 HF;obtain⟨Q,hQ⟩:∃Q:ByteArray,Q=⟨t.toArray⟩:=⟨_,rfl⟩;have HB2:=Hd (show startsF Q.data.toList (s.extract I s.size).data.toList=true by rw [←HRE.out,HRL.out,hQ];exact HS.out);have HQT:=Hd (show Q.data.toList=t by rw [hQ]);rw [←hQ] at hcell
           clear hQ;go_wp2_with fail;go_quiet ((go_at_call 61;exact Calls.quiet_of_same ((begins_any _ _ _ (by omega)).mono (fun e w' hh=>by rw [HB2.out] at hh;exact hh))));have hcell2:(wr.drewN nq).cell? ⟨ob,n,none⟩=some (.string Q):=hcell;go_wp2_with fail;go_roundg (15 - (n+1))
           case measure=>have:=HGG2.out;omega
           case rel=>exact⟨n+1,Q,rfl,by go_num,rfl,by omega,HDR.out _,Hd (.inr ⟨by rw [HQT.out];intro h;rw [h] at hl4;exact absurd hl4 (by decide),by rw [HQT.out,HF.out]⟩)⟩
         ·obtain rfl:n=13:=by omega
          have HF:=Hd ((rops_same (rest s I)).symm.trans (findF_none (l:=ropsL) HNO.out));have H38:=Hd (show headIs 38 (rest s I)=(c==38) by rw [HRC.out];rfl);clear hno hT HD;by_cases t38:c=38
          ·have f38:((c.toNat:Int)==38)=true:=test_yes (c:=c) (k:=38) t38;have HX2:=Hd (show res=.error 2 by
            have h1:=tokC_eq (rest s I);rw [HSK.out,HRC.out] at h1;rw [HR.out,HRC.out,h1];dsimp only;unfold tokOne;rw [←HRC.out,HF.out,if_pos (by rfl),H38.out,t38];rfl)
           clear t38;go_wp2_with fail;go_ret2;exact rtk_err H3.out.kp HKW.out HCW.out HHW.out (by decide) HX2.out
          ·have f38:((c.toNat:Int)==38)=false:=test_no (c:=c) (k:=38) t38;obtain⟨wd,hwd⟩:∃wd,wd=wordC false (rest s I):=⟨_,rfl⟩;have HWD:=Hd hwd.symm;have HN:=Hd (show res=wordToks l wd by
            have h1:=tokC_eq (rest s I);rw [HSK.out,HRC.out] at h1;rw [HR.out,HRC.out,h1];dsimp only;rw [←HRC.out,tokOne_word HF.out (by rw [H38.out];exact beq_eq_false_iff_ne.2 t38),←hwd];cases wd with
            | error e=>rfl
            | ok z=>exact consL_cons _ _ _)
           have HWL:=Hd (show ∀p r1,wd=.ok (p,r1)→r1.length<s.size - I from fun p r1 h=>by
            rw [hwd,HRC.out,wordC_cons] at h;have hb:=breaks_op c (rest s (I+1)) (by rw [←HRC.out];exact HF.out) t38 TB.out;rw [hb] at h;simp only [Bool.not_false,Bool.and_false,Bool.false_eq_true,if_false] at h;cases h2:lexC (.one false) 0 (c::rest s (I+1)) with
            | error e=>rw [h2] at h;cases h
            | ok z=>
             obtain⟨l2,r2⟩:=z;rw [h2] at h;dsimp only at h;have h4:=lexD_len _ _ _ _ _ _ h2;obtain⟨m',h5,_⟩:=ahead_ok h;have h6:=wordD_len _ _ _ _ _ h5;simp only [Md.least,List.length_cons,rest_len] at h4;omega)
           clear t38 hwd;have hcall:=rword_any cs s I false wr H3.out.sc (by omega) hs (by have:=H3.out.size;omega);rw [HWD.out] at hcall;have HCALL:=Hd hcall;clear hcall d0 d1 d2 g1 g2;go_wp2_with fail;refine HCALL.out.mono ?_;intro e w6 hp;cases wd with
           | error x=>
            obtain⟨hx0,v,nn,i',l',rfl,hi',hsc,hpt,hk⟩:=hp;obtain⟨xa,xc,rfl,_,_⟩:=hpt.shape;have b0:((x:Int) != 0)=true:=by rw [bne_iff_ne];omega
            obtain⟨d0,d1,d2,g1,g2⟩:=hsc.cells;have HK6:=Hd (H3.out.kp.trans hk (fun _ _ e=>.inl e));have HX0:=Hd hx0;clear hpt hsc hk;go_wp2_with fail;go_quiet (fail);go_wp2_with fail;go_ret2;exact rtk_err (HK6.out.drewN _) HKW.out HCW.out HHW.out HX0.out HN.out
           | ok z=>
            obtain⟨p,r1⟩:=z;obtain⟨v,nn,i',rfl,hi',hri,hsc,hpt,hk⟩:=hp;obtain⟨xa,xc,rfl,_,_⟩:=hpt.shape;have hlr:=HWL.out p r1 rfl;rw [←hri,rest_len] at hlr;obtain⟨d0,d1,d2,g1,g2⟩:=hsc.cells;have hIi:I<i':=by omega
            obtain⟨hvn,xs,hown,hF⟩:=H3.out.more (x:=⟨1,[],tidyF p⟩) hk hsc hco hcH hoH hpt;have HF3:=Hd (show res=consL (l++[⟨1,[],tidyF p⟩]) (tokC (rest s i')) by rw [HN.out,hri];rfl);have HF:=Hd hF;have HI:=Hd hi';obtain⟨xn,hxn⟩:∃xn,xn=(tidyF p).length:=⟨_,rfl⟩;have e0:strV ([]:List UInt8)=.string ⟨#[]⟩:=rfl;unfold cellsK at HF;dsimp only at HF;rw [←hxn,e0] at HF;rw [←hxn];have HIi:=Hd hIi;have hvb:vn≤20000:=by omega
            clear hpt hsc hk hF hri hlr hi' hxn hIi e0 hvn;go_wp2_with (at_builtin;refine wpList_append_lies _ rfl (.tmp 128) (.tmp 131) _ rfl 0 109 i0 _ 3 48 Tryz.underlying76 hi0 hz0 hz1 hz2 rfl (by omega) (.slice va vn vc) vn xs rfl (hown.alloc _) ⟨w6.heap.size,0,none⟩ 1 1 [.int .i64 1,.string ⟨#[]⟩,.slice xa xn xc] rfl rfl (World.news_of_block (cs:=#[.int .i64 1,.string ⟨#[]⟩,.slice xa xn xc]) (t:=109) (fr:=(0,0)) (heap_alloc_new w6 _)) (by simp [Value.oneCell']) (by omega) (by unfold maxLen;omega) (by omega) (by simp) (w6.heap.size+1) (by simp) ?_;intro gg cap w7 hown6 hgrow6 hat6 hlt6;have HM2:=Hd (HF.out gg cap w7 _ hown6 hgrow6 hat6))
            go_roundg (s.size+2 - i')
            case measure=>have:=HGG.out;have:=HIi.out;have:=HI.out;omega
            case rel=>exact⟨i',_,rfl,HI.out,by rw [List.length_append];have:=HIi.out;show l.length+1≤i';omega,HM2.out,HF3⟩
        ·have HOP:=Hd hop;obtain⟨u1,u2⟩:=ba_full hT;have HTL:=Hd (show 0<T.size by rw [Lib.size_eq];exact List.length_pos_iff.2 hT);have hTz:I+T.size≤s.size:=by
          have h1:=operF_le (rest s I);rw [←hop,←Lib.size_eq,rest_len] at h1;omega
         have HN:=Hd (show res=consL (l++[⟨2,T.data.toList,[]⟩]) (tokC (rest s (I+T.size))) by
          have h1:=tokC_eq (rest s I);rw [HSK.out,HRC.out] at h1;rw [HR.out,HRC.out,h1];dsimp only;rw [←HRC.out,tokOne_op (by rw [←hop];exact hT),←hop,←Lib.size_eq,rest_drop];exact consL_cons _ _ _)
         obtain⟨hvn,xs,hown,hF⟩:=H3.out.more (Keeps.refl _ _) H3.out.sc hco hcH hoH (x:=⟨2,T.data.toList,[]⟩) (n:=0) (PtsAt.nil wr _ 0);have hvb:vn≤20000:=by omega
         have e0:strV T.data.toList=.string T:=strV_of rfl;have HF:=Hd hF;unfold cellsK at HF;dsimp only at HF;rw [e0] at HF;have HTZ:=Hd hTz;clear hF e0 hop hT HD d0 d1 d2 g1 g2 hvn;rcases Nat.lt_or_ge n 13 with h13 | h13
         ·have p13:(n:Int)<13:=by omega
          go_wp2_with (at_builtin;refine wpList_append_lies _ rfl (.tmp 100) (.tmp 103) _ rfl 0 109 i0 _ 3 48 Tryz.underlying76 hi0 hz0 hz1 hz2 rfl (by omega) (.slice va vn vc) vn xs rfl (hown.alloc _) ⟨wr.heap.size,0,none⟩ 1 1 [.int .i64 2,.string T,.slice none 0 0] rfl rfl (World.news_of_block (cs:=#[.int .i64 2,.string T,.slice none 0 0]) (t:=109) (fr:=(0,0)) (heap_alloc_new wr _)) (by simp [Value.oneCell']) (by omega) (by unfold maxLen;omega) (by omega) (by simp) (wr.heap.size+1) (by simp) ?_;intro gg cap w6 hown6 hgrow6 hat6 hlt6;have HM2:=Hd (HF.out gg cap w6 _ hown6 hgrow6 hat6);obtain⟨d0,d1,d2,g1,g2⟩:=HM2.out.sc.cells)
          go_roundg (s.size+2 - (I+T.size))
          case measure=>have:=HGG.out;have:=HTL.out;have:=HTZ.out;omega
          case rel=>exact⟨I+T.size,_,rfl,HTZ.out,by rw [List.length_append];have:=HTL.out;show l.length+1≤I+T.size;omega,HM2.out.move (rmoved HM2.out.sc (j:=(I:Int)+(T.size:Int)) (J:=I+T.size) (by omega)).2 (rmoved HM2.out.sc (j:=(I:Int)+(T.size:Int)) (J:=I+T.size) (by omega)).1 hco hcH,HN⟩
         ·have p13:¬(n:Int)<13:=by omega
          go_wp2_with (at_builtin;refine wpList_append_lies _ rfl (.tmp 100) (.tmp 103) _ rfl 0 109 i0 _ 3 48 Tryz.underlying76 hi0 hz0 hz1 hz2 rfl (by omega) (.slice va vn vc) vn xs rfl (hown.alloc _) ⟨wr.heap.size,0,none⟩ 1 1 [.int .i64 2,.string T,.slice none 0 0] rfl rfl (World.news_of_block (cs:=#[.int .i64 2,.string T,.slice none 0 0]) (t:=109) (fr:=(0,0)) (heap_alloc_new wr _)) (by simp [Value.oneCell']) (by omega) (by unfold maxLen;omega) (by omega) (by simp) (wr.heap.size+1) (by simp) ?_;intro gg cap w6 hown6 hgrow6 hat6 hlt6;have HM2:=Hd (HF.out gg cap w6 _ hown6 hgrow6 hat6);obtain⟨d0,d1,d2,g1,g2⟩:=HM2.out.sc.cells)
          go_roundg (s.size+2 - (I+T.size))
          case measure=>have:=HGG.out;have:=HTL.out;have:=HTZ.out;omega
          case rel=>exact⟨I+T.size,_,rfl,HTZ.out,by rw [List.length_append];have:=HTL.out;show l.length+1≤I+T.size;omega,HM2.out.move (rmoved HM2.out.sc (j:=(I:Int)+(T.size:Int)) (J:=I+T.size) (by omega)).2 (rmoved HM2.out.sc (j:=(I:Int)+(T.size:Int)) (J:=I+T.size) (by omega)).1 hco hcH,HN⟩
    have f92:((c.toNat:Int)==92)=false:=test_no (c:=c) (k:=92) t92;have G92:=Hd (show (c==92)=false from beq_eq_false_iff_ne.2 t92);clear t92;by_cases t35:c=35
    ·have f35:((c.toNat:Int)==35)=true:=test_yes (c:=c) (k:=35) t35;have HC35:=Hd (HC.out.trans t35);clear t35;go_wp2_with fail;go_loopg [] (s.size+3 - I) (fun g wr=>∃K:Nat,g=s.size+3 - K∧I≤K∧K≤s.size∧(I<K∨K=I)∧RTk W wr cs ob H s K l (.slice va vn vc)∧Hid (RComm s I K))
     case atStart=>exact⟨I,rfl,Nat.le_refl _,hIs,.inr rfl,H2.out,Hd rfl⟩
     case round=>
      obtain⟨K,hg2,hIK,hKs,hor,htk,HU⟩:=hrel;have HGG2:=Hd hg2;have HOR:=Hd hor;have H7:=Hd htk;clear hg2 hor htk;by_cases hlt2:K<s.size
      ·have HE2:=Hd (show decide (s.size≤K)=false from decide_eq_false (by omega));obtain⟨y,hy⟩:∃y,y=byteAt s K:=⟨_,rfl⟩;have HY:=Hd hy.symm;clear hy;by_cases ty:y=10
       ·have fy:((y.toNat:Int) != 10)=false:=by rw [bne,show ((y.toNat:Int)==10)=true from test_yes (c:=y) (k:=10) ty];rfl
        have HN:=Hd (show res=consL l (tokC (rest s K)) by rw [HR.out,HU.out.end (.inr ⟨hlt2,HY.out.trans ty⟩) hlt HC35.out]);have hlt3:I<K:=by
         rcases HOR.out with h | h
         ·exact h
         ·exfalso;have h1:=HC35.out;have h2:=HY.out;rw [h,h1] at h2;rw [←h2] at ty;exact absurd ty (by decide)
        clear ty;go_wp2_with fail;refine (over_any cs s K _ _ H7.out.sc).mono ?_;rintro e wy ⟨rfl,q8,rfl⟩;rw [HE2.out];obtain⟨W8,hW⟩:∃Z:World,Z=wr.drewN q8:=⟨_,rfl⟩;rw [←hW];have H8:=Hd (show RTk W W8 cs ob H s K l (.slice va vn vc) by rw [hW];exact H7.out.drewN _ hco hcH);clear hW;go_wp2_with fail;refine (see0_any cs s K _ _ H8.out.sc (by omega) (by omega)).mono ?_;rintro e wy ⟨rfl,q9,rfl⟩;rw [HY.out]
        obtain⟨W9,hW⟩:∃Z:World,Z=W8.drewN q9:=⟨_,rfl⟩;rw [←hW];have H9:=Hd (show RTk W W9 cs ob H s K l (.slice va vn vc) by rw [hW];exact H8.out.drewN _ hco hcH);clear hW;go_wp2_with fail;go_roundg (s.size+2 - (K))
        case measure=>have:=HGG.out;omega
        case rel=>exact⟨K,l,rfl,by omega,by omega,H9.out,HN⟩
       ·have fy:((y.toNat:Int) != 10)=true:=by rw [bne,show ((y.toNat:Int)==10)=false from test_no (c:=y) (k:=10) ty];rfl
        have HU2:=Hd (HU.out.on hlt2 (by rw [HY.out];exact beq_eq_false_iff_ne.2 ty));clear ty;go_wp2_with fail;refine (over_any cs s K _ _ H7.out.sc).mono ?_;rintro e wy ⟨rfl,q8,rfl⟩;rw [HE2.out];obtain⟨W8,hW⟩:∃Z:World,Z=wr.drewN q8:=⟨_,rfl⟩;rw [←hW];have H8:=Hd (show RTk W W8 cs ob H s K l (.slice va vn vc) by rw [hW];exact H7.out.drewN _ hco hcH);clear hW;go_wp2_with fail;refine (see0_any cs s K _ _ H8.out.sc (by omega) (by omega)).mono ?_
        rintro e wy ⟨rfl,q9,rfl⟩;rw [HY.out];obtain⟨W9,hW⟩:∃Z:World,Z=W8.drewN q9:=⟨_,rfl⟩;rw [←hW];have H9:=Hd (show RTk W W9 cs ob H s K l (.slice va vn vc) by rw [hW];exact H8.out.drewN _ hco hcH);clear hW;obtain⟨d0,d1,d2,g1,g2⟩:=H9.out.sc.cells;obtain⟨W10,hW⟩:∃Z:World,Z=W9.setCell ⟨cs,1,none⟩ (.int .i64 ((K:Int)+1)):=⟨_,rfl⟩;obtain⟨hsm,hkm⟩:=rmoved H9.out.sc (j:=(K:Int)+1) (J:=K+1) (by omega);have H10:=Hd (show RTk W W10 cs ob H s (K+1) l (.slice va vn vc) by rw [hW];exact H9.out.move hkm hsm hco hcH)
        have HW10:=Hd hW;clear hW hsm hkm;go_wp2_with fail;rw [←HW10.out];go_roundg (s.size+3 - (K+1))
        case measure=>have:=HGG2.out;omega
        case rel=>exact⟨K+1,rfl,by omega,by omega,.inl (by omega),H10.out,HU2⟩
      ·have HE2:=Hd (show decide (s.size≤K)=true from decide_eq_true (by omega));have HN:=Hd (show res=consL l (tokC (rest s K)) by rw [HR.out,HU.out.end (.inl (by omega)) hlt HC35.out]);go_wp2_with fail;refine (over_any cs s K _ _ H7.out.sc).mono ?_;rintro e wy ⟨rfl,q8,rfl⟩;rw [HE2.out];obtain⟨W8,hW⟩:∃Z:World,Z=wr.drewN q8:=⟨_,rfl⟩;rw [←hW];have H8:=Hd (show RTk W W8 cs ob H s K l (.slice va vn vc) by rw [hW];exact H7.out.drewN _ hco hcH)
       clear hW;go_wp2_with fail;go_roundg (s.size+2 - (K))
       case measure=>have:=HGG.out;omega
       case rel=>exact⟨K,l,rfl,by omega,by omega,H8.out,HN⟩
    have f35:((c.toNat:Int)==35)=false:=test_no (c:=c) (k:=35) t35;have HSK:=Hd (show skipF false (rest s I)=rest s I by
     rw [HRC.out];exact skip_none TB.out (beq_eq_false_iff_ne.2 t35) (by rw [G92.out,Bool.false_and]))
    clear t35
    as_aux_lemma=>
     have hlt':(I:Int)≤(s.size:Int):=by omega
     go_wp2_with fail;go_loopg [8,9] (15) (fun g o k wr=>∃(n:Nat) (T:ByteArray),g=15 - n∧k=.int .i64 n∧o=.string T∧n≤13∧RTk W wr cs ob H s I l (.slice va vn vc)∧Hid ((T.data.toList=[]∧∀j,j<n→startsF (ropsL.getD j []) (rest s I)=false)∨(T.data.toList≠[]∧T.data.toList=operF (rest s I))))
     case atStart=>exact⟨0,⟨#[]⟩,rfl,rfl,rfl,by omega,H2.out,Hd (.inl ⟨rfl,fun j hj=>absurd hj (Nat.not_lt_zero _)⟩)⟩
     case round=>
      obtain⟨n,T,hg2,rfl,rfl,hn,htk,HD⟩:=hrel;have HGG2:=Hd hg2;have H3:=Hd htk;obtain⟨d0,d1,d2,g1,g2⟩:=htk.sc.cells;clear hg2 htk;rcases HD.out with ⟨hT,hno⟩ | ⟨hT,hop⟩
      ·have HNO:=Hd hno;have HTE:=Hd hT;obtain⟨u1,u2⟩:=ba_empty hT;by_cases hlt3:n<13
       ·have p1:(n:Int)<13:=by omega
        have hcell:wr.cell? ⟨ob,n,none⟩=some (strV (ropsL.getD n [])):=by
         rw [cell_of_row wr ob n _ _ _ H3.out.ops];exact ropC_at n hlt3
        obtain⟨hl3,hl4⟩:=ropL_len n hlt3;unfold strV at hcell;obtain⟨R,hR⟩:∃R,R=s.extract I s.size:=⟨_,rfl⟩;have hRl:R.data.toList=rest s I:=by rw [hR,Lib.extract_to_end];rfl
        have HRE:=Hd hR;have HRL:=Hd hRl;have hRz:(s.extract I s.size).size≤s.size:=by rw [ByteArray.size_extract];omega
        have HDR:=Hd (fun q=>H3.out.drewN q hco hcH);clear hR hRl hno hT HD;cases hst:startsF (ropsL.getD n []) (rest s I)
        ·have HS:=Hd hst;have HN2:=Hd (hid_step HNO.out hst);clear hst;generalize ropsL.getD n []=t at hcell HS hl3 hl4;obtain⟨Q,hQ⟩:∃Q:ByteArray,Q=⟨t.toArray⟩:=⟨_,rfl⟩;have HB2:=Hd (show startsF Q.data.toList (s.extract I s.size).data.toList=false by rw [←HRE.out,HRL.out,hQ];exact HS.out);rw [←hQ] at hcell;clear hQ;go_wp2_with fail;go_quiet ((go_at_call 61;exact Calls.quiet_of_same ((begins_any _ _ _ (by omega)).mono (fun e w' hh=>by rw [HB2.out] at hh;exact hh))))
         go_wp2_with fail;go_roundg (15 - (n+1))
         case measure=>have:=HGG2.out;omega
         case rel=>exact⟨n+1,T,rfl,by go_num,rfl,by omega,HDR.out _,Hd (.inl ⟨HTE.out,HN2.out⟩)⟩
        ·have HF:=Hd ((rops_same _).symm.trans (findF_at HNO.out (show n<ropsL.length from hlt3) hst));have HS:=Hd hst;clear hst;generalize ropsL.getD n []=t at hcell HS hl3 hl4 HF;obtain⟨Q,hQ⟩:∃Q:ByteArray,Q=⟨t.toArray⟩:=⟨_,rfl⟩;have HB2:=Hd (show startsF Q.data.toList (s.extract I s.size).data.toList=true by rw [←HRE.out,HRL.out,hQ];exact HS.out);have HQT:=Hd (show Q.data.toList=t by rw [hQ]);rw [←hQ] at hcell
         clear hQ;go_wp2_with fail;go_quiet ((go_at_call 61;exact Calls.quiet_of_same ((begins_any _ _ _ (by omega)).mono (fun e w' hh=>by rw [HB2.out] at hh;exact hh))));have hcell2:(wr.drewN nq).cell? ⟨ob,n,none⟩=some (.string Q):=hcell;go_wp2_with fail;go_roundg (15 - (n+1))
         case measure=>have:=HGG2.out;omega
         case rel=>exact⟨n+1,Q,rfl,by go_num,rfl,by omega,HDR.out _,Hd (.inr ⟨by rw [HQT.out];intro h;rw [h] at hl4;exact absurd hl4 (by decide),by rw [HQT.out,HF.out]⟩)⟩
       ·obtain rfl:n=13:=by omega
        have HF:=Hd ((rops_same (rest s I)).symm.trans (findF_none (l:=ropsL) HNO.out));have H38:=Hd (show headIs 38 (rest s I)=(c==38) by rw [HRC.out];rfl);clear hno hT HD;by_cases t38:c=38
        ·have f38:((c.toNat:Int)==38)=true:=test_yes (c:=c) (k:=38) t38;have HX2:=Hd (show res=.error 2 by
          have h1:=tokC_eq (rest s I);rw [HSK.out,HRC.out] at h1;rw [HR.out,HRC.out,h1];dsimp only;unfold tokOne;rw [←HRC.out,HF.out,if_pos (by rfl),H38.out,t38];rfl)
         clear t38;go_wp2_with fail;go_ret2;exact rtk_err H3.out.kp HKW.out HCW.out HHW.out (by decide) HX2.out
        ·have f38:((c.toNat:Int)==38)=false:=test_no (c:=c) (k:=38) t38;obtain⟨wd,hwd⟩:∃wd,wd=wordC false (rest s I):=⟨_,rfl⟩;have HWD:=Hd hwd.symm;have HN:=Hd (show res=wordToks l wd by
          have h1:=tokC_eq (rest s I);rw [HSK.out,HRC.out] at h1;rw [HR.out,HRC.out,h1];dsimp only;rw [←HRC.out,tokOne_word HF.out (by rw [H38.out];exact beq_eq_false_iff_ne.2 t38),←hwd];cases wd with
          | error e=>rfl
          | ok z=>exact consL_cons _ _ _)
         have HWL:=Hd (show ∀p r1,wd=.ok (p,r1)→r1.length<s.size - I from fun p r1 h=>by
          rw [hwd,HRC.out,wordC_cons] at h;have hb:=breaks_op c (rest s (I+1)) (by rw [←HRC.out];exact HF.out) t38 TB.out;rw [hb] at h;simp only [Bool.not_false,Bool.and_false,Bool.false_eq_true,if_false] at h;cases h2:lexC (.one false) 0 (c::rest s (I+1)) with
          | error e=>rw [h2] at h;cases h
          | ok z=>
           obtain⟨l2,r2⟩:=z;rw [h2] at h;dsimp only at h;have h4:=lexD_len _ _ _ _ _ _ h2;obtain⟨m',h5,_⟩:=ahead_ok h;have h6:=wordD_len _ _ _ _ _ h5;simp only [Md.least,List.length_cons,rest_len] at h4;omega)
         clear t38 hwd;have hcall:=rword_any cs s I false wr H3.out.sc (by omega) hs (by have:=H3.out.size;omega);rw [HWD.out] at hcall;have HCALL:=Hd hcall;clear hcall d0 d1 d2 g1 g2;go_wp2_with fail;refine HCALL.out.mono ?_;intro e w6 hp;cases wd with
         | error x=>
          obtain⟨hx0,v,nn,i',l',rfl,hi',hsc,hpt,hk⟩:=hp;obtain⟨xa,xc,rfl,_,_⟩:=hpt.shape;have b0:((x:Int) != 0)=true:=by rw [bne_iff_ne];omega
          obtain⟨d0,d1,d2,g1,g2⟩:=hsc.cells;have HK6:=Hd (H3.out.kp.trans hk (fun _ _ e=>.inl e));have HX0:=Hd hx0;clear hpt hsc hk;go_wp2_with fail;go_quiet (fail);go_wp2_with fail;go_ret2;exact rtk_err (HK6.out.drewN _) HKW.out HCW.out HHW.out HX0.out HN.out
         | ok z=>
          obtain⟨p,r1⟩:=z;obtain⟨v,nn,i',rfl,hi',hri,hsc,hpt,hk⟩:=hp;obtain⟨xa,xc,rfl,_,_⟩:=hpt.shape;have hlr:=HWL.out p r1 rfl;rw [←hri,rest_len] at hlr;obtain⟨d0,d1,d2,g1,g2⟩:=hsc.cells;have hIi:I<i':=by omega
          obtain⟨hvn,xs,hown,hF⟩:=H3.out.more (x:=⟨1,[],tidyF p⟩) hk hsc hco hcH hoH hpt;have HF3:=Hd (show res=consL (l++[⟨1,[],tidyF p⟩]) (tokC (rest s i')) by rw [HN.out,hri];rfl);have HF:=Hd hF;have HI:=Hd hi';obtain⟨xn,hxn⟩:∃xn,xn=(tidyF p).length:=⟨_,rfl⟩;have e0:strV ([]:List UInt8)=.string ⟨#[]⟩:=rfl;unfold cellsK at HF;dsimp only at HF;rw [←hxn,e0] at HF;rw [←hxn];have HIi:=Hd hIi;have hvb:vn≤20000:=by omega
          clear hpt hsc hk hF hri hlr hi' hxn hIi e0 hvn;go_wp2_with (at_builtin;refine wpList_append_lies _ rfl (.tmp 128) (.tmp 131) _ rfl 0 109 i0 _ 3 48 Tryz.underlying76 hi0 hz0 hz1 hz2 rfl (by omega) (.slice va vn vc) vn xs rfl (hown.alloc _) ⟨w6.heap.size,0,none⟩ 1 1 [.int .i64 1,.string ⟨#[]⟩,.slice xa xn xc] rfl rfl (World.news_of_block (cs:=#[.int .i64 1,.string ⟨#[]⟩,.slice xa xn xc]) (t:=109) (fr:=(0,0)) (heap_alloc_new w6 _)) (by simp [Value.oneCell']) (by omega) (by unfold maxLen;omega) (by omega) (by simp) (w6.heap.size+1) (by simp) ?_;intro gg cap w7 hown6 hgrow6 hat6 hlt6;have HM2:=Hd (HF.out gg cap w7 _ hown6 hgrow6 hat6))
          go_roundg (s.size+2 - i')
          case measure=>have:=HGG.out;have:=HIi.out;have:=HI.out;omega
          case rel=>exact⟨i',_,rfl,HI.out,by rw [List.length_append];have:=HIi.out;show l.length+1≤i';omega,HM2.out,HF3⟩
      ·have HOP:=Hd hop;obtain⟨u1,u2⟩:=ba_full hT;have HTL:=Hd (show 0<T.size by rw [Lib.size_eq];exact List.length_pos_iff.2 hT);have hTz:I+T.size≤s.size:=by
        have h1:=operF_le (rest s I);rw [←hop,←Lib.size_eq,rest_len] at h1;omega
       have HN:=Hd (show res=consL (l++[⟨2,T.data.toList,[]⟩]) (tokC (rest s (I+T.size))) by
        have h1:=tokC_eq (rest s I);rw [HSK.out,HRC.out] at h1;rw [HR.out,HRC.out,h1];dsimp only;rw [←HRC.out,tokOne_op (by rw [←hop];exact hT),←hop,←Lib.size_eq,rest_drop];exact consL_cons _ _ _)
       obtain⟨hvn,xs,hown,hF⟩:=H3.out.more (Keeps.refl _ _) H3.out.sc hco hcH hoH (x:=⟨2,T.data.toList,[]⟩) (n:=0) (PtsAt.nil wr _ 0);have hvb:vn≤20000:=by omega
       have e0:strV T.data.toList=.string T:=strV_of rfl;have HF:=Hd hF;unfold cellsK at HF;dsimp only at HF;rw [e0] at HF;have HTZ:=Hd hTz;clear hF e0 hop hT HD d0 d1 d2 g1 g2 hvn;rcases Nat.lt_or_ge n 13 with h13 | h13
       ·have p13:(n:Int)<13:=by omega
        go_wp2_with (at_builtin;refine wpList_append_lies _ rfl (.tmp 100) (.tmp 103) _ rfl 0 109 i0 _ 3 48 Tryz.underlying76 hi0 hz0 hz1 hz2 rfl (by omega) (.slice va vn vc) vn xs rfl (hown.alloc _) ⟨wr.heap.size,0,none⟩ 1 1 [.int .i64 2,.string T,.slice none 0 0] rfl rfl (World.news_of_block (cs:=#[.int .i64 2,.string T,.slice none 0 0]) (t:=109) (fr:=(0,0)) (heap_alloc_new wr _)) (by simp [Value.oneCell']) (by omega) (by unfold maxLen;omega) (by omega) (by simp) (wr.heap.size+1) (by simp) ?_;intro gg cap w6 hown6 hgrow6 hat6 hlt6;have HM2:=Hd (HF.out gg cap w6 _ hown6 hgrow6 hat6);obtain⟨d0,d1,d2,g1,g2⟩:=HM2.out.sc.cells)
        go_roundg (s.size+2 - (I+T.size))
        case measure=>have:=HGG.out;have:=HTL.out;have:=HTZ.out;omega
        case rel=>exact⟨I+T.size,_,rfl,HTZ.out,by rw [List.length_append];have:=HTL.out;show l.length+1≤I+T.size;omega,HM2.out.move (rmoved HM2.out.sc (j:=(I:Int)+(T.size:Int)) (J:=I+T.size) (by omega)).2 (rmoved HM2.out.sc (j:=(I:Int)+(T.size:Int)) (J:=I+T.size) (by omega)).1 hco hcH,HN⟩
       ·have p13:¬(n:Int)<13:=by omega
        go_wp2_with (at_builtin;refine wpList_append_lies _ rfl (.tmp 100) (.tmp 103) _ rfl 0 109 i0 _ 3 48 Tryz.underlying76 hi0 hz0 hz1 hz2 rfl (by omega) (.slice va vn vc) vn xs rfl (hown.alloc _) ⟨wr.heap.size,0,none⟩ 1 1 [.int .i64 2,.string T,.slice none 0 0] rfl rfl (World.news_of_block (cs:=#[.int .i64 2,.string T,.slice none 0 0]) (t:=109) (fr:=(0,0)) (heap_alloc_new wr _)) (by simp [Value.oneCell']) (by omega) (by unfold maxLen;omega) (by omega) (by simp) (wr.heap.size+1) (by simp) ?_;intro gg cap w6 hown6 hgrow6 hat6 hlt6;have HM2:=Hd (HF.out gg cap w6 _ hown6 hgrow6 hat6);obtain⟨d0,d1,d2,g1,g2⟩:=HM2.out.sc.cells)
        go_roundg (s.size+2 - (I+T.size))
        case measure=>have:=HGG.out;have:=HTL.out;have:=HTZ.out;omega
        case rel=>exact⟨I+T.size,_,rfl,HTZ.out,by rw [List.length_append];have:=HTL.out;show l.length+1≤I+T.size;omega,HM2.out.move (rmoved HM2.out.sc (j:=(I:Int)+(T.size:Int)) (J:=I+T.size) (by omega)).2 (rmoved HM2.out.sc (j:=(I:Int)+(T.size:Int)) (J:=I+T.size) (by omega)).1 hco hcH,HN⟩
  ·have HE:=Hd (show decide (s.size≤I)=true from decide_eq_true (by omega));have HX:=Hd (show res=.ok l by
    rw [HR.out,rest_nil (by omega)];show Except.ok (l++[])=_;rw [List.append_nil])
   go_wp2_with fail;refine (over_any cs s I _ _ H0.out.sc).mono ?_;rintro e wy ⟨rfl,q1,rfl⟩;rw [HE.out];obtain⟨W1,hW⟩:∃Z:World,Z=wr.drewN q1:=⟨_,rfl⟩;rw [←hW];have H1:=Hd (show RTk W W1 cs ob H s I l (.slice va vn vc) by rw [hW];exact H0.out.drewN _ hco hcH);clear hW;go_wp2_with fail;go_ret2;exact rtk_ok H1.out HKW.out HCW.out HHW.out HX.out
theorem rtoks_may (s:ByteArray) (w:World) (hs:s.size≤140737488351232) (x:Nat) (hx:mayF s.data.toList=x) (h0:x≠0) :
 Calls Tryz.prog 32 #[.string s] w (RToks w (.error x)):=by
 have HX:=Hd hx;have e1:((x:Int) != 0)=true:=by rw [bne_iff_ne];omega
 have H0:=Hd h0;clear hx h0;go_enter Tryz.func32,Tryz.ntmps32;go_wp2_with fail;refine (rmay_any s _ hs).mono ?_;rintro e w1 ⟨rfl,hw1⟩;rw [HX.out,hw1];clear hw1;go_wp2_with fail;refine (rmay_any s _ hs).mono ?_;rintro e w1 ⟨rfl,hw1⟩;rw [HX.out,hw1];clear hw1;go_wp2_with fail;go_ret2;exact⟨H0.out,rfl,Keeps.refl _ _⟩
theorem rtoks_any (s:ByteArray) (w:World) (hs:s.size≤140737488351232):Calls Tryz.prog 32 #[.string s] w (RToks w (tokensF s.data.toList)):=by
 by_cases h:mayF s.data.toList=0
 ·rw [tokensF_C _ h];have hl:s.size≤16384:=by
   unfold mayF at h;rw [←Lib.size_eq] at h;split at h
   ·cases h
   ·omega
  exact rtoks_rest s w (by omega) h
 ·unfold tokensF;rw [if_neg h];exact rtoks_may s w hs _ rfl h
end Go.Proofs.YtiihpbccabeoeaaGreatDoor
