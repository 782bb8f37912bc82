/- The walk: a part. -/
import Derived.Test.YtiihpbccabeoeaaGreatDoorWPsW
import Derived.Test.YtiihpbccabeoeaaGreatDoorWPsA
import Derived.StillTailTactics
import Derived.Deep.RegionHeld3
import Derived.Test.YtiihpbccabeoeaaGreatDoorWPkA
import Derived.Test.YtiihpbccabeoeaaGreatDoorWPrA
namespace Go.Proofs.YtiihpbccabeoeaaGreatDoor
open Go.RowKit
set_option linter.unusedVariables false
set_option maxRecDepth 100000
set_option maxHeartbeats 16000000
theorem gL {a b:World} {B:Nat} (h:Below B a b):aB (fun k=>B≤k) a b:=⟨h.os,h.tape,h.output,h.size,fun k _ hs=>h.block k (by omega)⟩
theorem bN {a b:World} {g:Nat} {v:Value} (h:a.cell? ⟨g,0,none⟩=some v) (hk:K0 a b) (hg:g<a.heap.size):b.cell? ⟨g,0,none⟩=some v:=(World.cell?_of_block (a:=⟨g,0,none⟩) (hk.block g hg (fun h=>h))).trans h
theorem dI {a:World} {g:Nat} {v:Value} (h:a.cell? ⟨g,0,none⟩=some v):g<a.heap.size:=by
 rcases Nat.lt_or_ge g a.heap.size with h9 | h9
 ·exact h9
 ·simp [World.cell?,Array.getElem?_eq_none h9] at h
theorem u8Ne {x:UInt8} {k:Nat} (hk:k<256) (h:x≠UInt8.ofNat k):((x.toNat:Int)==(k:Int))=false:=by
 rw [beq_eq_false_iff_ne];intro e;apply h;apply UInt8.toNat.inj;rw [UInt8.toNat_ofNat_of_lt' (by simpa [UInt8.size] using hk)];omega
def nH (s:List UInt8):List UInt8:=[39]++Lib.replaceAll s [39] [39,92,39,39]++[39]
def Fx (s:List UInt8):Prop:=s.length+Lib.countB ⟨s.toArray⟩ ⟨#[39]⟩*4≤100000∧(nH s).length≤100000
theorem Kt (c:UInt8):(aZ c || bD c || decide (0≤Lib.indexByte [63,35,64,42,123,40] c))=j7 c:=by
 have h:∀n:Fin 256,(aZ (UInt8.ofNat n.val) || bD (UInt8.ofNat n.val) || decide (0≤Lib.indexByte [63,35,64,42,123,40] (UInt8.ofNat n.val)))=j7 (UInt8.ofNat n.val):=by decide +kernel
 have:=h ⟨c.toNat,c.toNat_lt⟩
 rwa [show UInt8.ofNat c.toNat=c from UInt8.ofNat_toNat] at this
theorem Jd (c:UInt8) (w:World) :
 Calls Tryz.prog 76 #[.int .u8 (c.toNat:Nat)] w fun e w'=>e=.returned (.bool (j7 c))∧w'=w:=by
 have hR:=Hd (Kt c);have hI:=Hd (show ∀w,Calls Tryz.prog 78 #[.string ⟨#[63,35,64,42,123,40]⟩,.int .u8 (c.toNat:Nat)] w fun e w'=>e=.returned (.int .i64 (Lib.indexByte [63,35,64,42,123,40] c))∧w'=w from fun w=>by
  have:=Tryz.strings_IndexByte ⟨#[63,35,64,42,123,40]⟩ (c.toNat:Nat) w;rw [show ((c.toNat:Nat):Int).toNat.toUInt8=c by simp] at this;exact this)
 obtain⟨x,hx⟩:∃x,x=Lib.indexByte [63,35,64,42,123,40] c:=⟨_,rfl⟩;rw [←hx] at hR hI;clear hx;cases hl:aZ c with
 | true=>
  have HL:=Hd hl;clear hl;go_enter Tryz.func76,Tryz.ntmps76;go_wp2_with fail;refine (xZ c _).mono ?_;rintro e w1 ⟨rfl,rfl⟩;rw [HL.o];go_wp2_with fail;go_ret;exact⟨by rw [←hR.out,HL.o];rfl,rfl⟩
 | false=>
  have HL:=Hd hl;clear hl;go_enter Tryz.func76,Tryz.ntmps76;go_wp2_with fail;refine (xZ c _).mono ?_;rintro e w1 ⟨rfl,rfl⟩;rw [HL.o];go_wp2_with fail;refine (Hq c _).mono ?_;rintro e w2 ⟨rfl,rfl⟩;cases hd:bD c with
  | true=>
   have HD:=Hd hd;clear hd;go_wp2_with fail;go_ret;exact⟨by rw [←hR.out,HL.o,HD.o];rfl,rfl⟩
  | false=>
   have HD:=Hd hd;clear hd;go_wp2_with fail;refine (hI.out _).mono ?_;rintro e w3 ⟨rfl,rfl⟩;go_wp2_with fail;go_ret;exact⟨by rw [←hR.out,HL.o,HD.o];rfl,rfl⟩
theorem sQ {s:ByteArray} {k:Nat} (h:k<s.size):s.data.toList.drop k=aM s k::s.data.toList.drop (k+1):=by
 have hl:k<s.data.toList.length:=by rw [←Lib.size_eq];exact h
 rw [List.drop_eq_getElem_cons hl];congr 1;unfold aM;rw [List.getD_eq_getElem?_getD,List.getElem?_eq_getElem hl];rfl
theorem yM:∀s:Bs,(bW s).length≤3*s.length
 | []=>Nat.le_refl _
 | c::t=>by
  have:=yM t;rw [cI];split<;>simp only [lC]<;>omega
theorem P7 (c:UInt8):decide (0≤Lib.indexByte [36,34,92,96] c)=nM c:=by
 have h:∀n:Fin 256,decide (0≤Lib.indexByte [36,34,92,96] (UInt8.ofNat n.val))=nM (UInt8.ofNat n.val):=by decide +kernel
 have:=h ⟨c.toNat,c.toNat_lt⟩
 rwa [show UInt8.ofNat c.toNat=c from UInt8.ofNat_toNat] at this
theorem sS (c:UInt8) (t:Bs):kE (c::t)=(if nM c then [92,c] else [c])++kE t:=by unfold kE;rw [List.flatMap_cons]
theorem G4:∀s:Bs,(kE s).length≤2*s.length
 | []=>Nat.le_refl _
 | c::t=>by
  have:=G4 t;rw [sS];split<;>simp only [lC,lA,lN]<;>omega
theorem G5:∀(p t:Bs),(∀c∈p,c≠39)→Lib.indexByte (p++39::t) 39=(p.length:Nat)
 | [],t,_=>rfl
 | c::p,t,h=>by
  have hc:(c==39)=false:=beq_eq_false_iff_ne.2 (h c (List.mem_cons_self ..));rw [List.cons_append];unfold Lib.indexByte;rw [hc,if_neg (by simp),G5 p t (fun x hx=>h x (List.mem_cons_of_mem _ hx)),if_neg (by rw [beq_iff_eq];omega),lC];omega
theorem A1:∀(s p:Bs),(∀c∈p,c≠39)→Lib.replaceK [39] [39,92,39,39] (s.count 39) (p++s)=p++s.flatMap fQ
 | [],p,h=>by rw [List.count_nil,List.append_nil,List.flatMap_nil,List.append_nil];rfl
 | c::t,p,h=>by
  by_cases hc:c=39
  ·subst hc;rw [List.count_cons_self,Lib.replaceK_hit _ _ _ _ p.length (by rw [Lib.index_one];exact G5 p t h),List.take_left,List.flatMap_cons,show fQ 39=[39,92,39,39] from rfl];rw [show p.length+[(39:UInt8)].length=(p++[39]).length by simp,show p++39::t=(p++[39])++t by simp,List.drop_left];have:=A1 t [] (fun c hc=>by cases hc);rw [List.nil_append] at this;rw [this,aA];rfl
  ·have:=A1 t (p++[c]) (fun x hx=>by
    rcases List.mem_append.1 hx with hx | hx
    ·exact h x hx
    ·rw [List.mem_singleton.1 hx];exact hc)
   rw [List.count_cons_of_ne hc,List.flatMap_cons,show fQ c=[c] from if_neg (by rw [beq_eq_false_iff_ne.2 hc];simp)];rw [aA] at this;rw [aA] at this;exact this
theorem xH (s:Bs):nH s=qQ s:=by
 have h:Lib.replaceAll s [39] [39,92,39,39]=s.flatMap fQ:=by
  have h1:=A1 s [] (fun c hc=>by cases hc);rw [List.nil_append,List.nil_append] at h1;unfold Lib.replaceAll Lib.replace;rw [if_neg (by decide)];unfold Lib.replaceNum;rw [if_pos (.inl (by decide)),Lib.count_one];exact h1
 unfold nH qQ;rw [h];simp
theorem Gk:∀s:Bs,(s.flatMap fQ).length≤4*s.length
 | []=>Nat.le_refl _
 | c::t=>by
  have:=Gk t;rw [List.flatMap_cons,lA,lC];have h2:(fQ c).length≤4:=by unfold fQ;split<;>simp
  omega
theorem Gz (s:Bs):(qQ s).length≤4*s.length+2:=by
 have:=Gk s;unfold qQ;simp only [lC,lA,lN];omega
theorem Kh {s:Bs} (h:s.length≤20000):Fx s:=by
 refine⟨?_,?_⟩
 ·have h1:Lib.countB ⟨s.toArray⟩ ⟨#[39]⟩=s.count 39:=Lib.count_one 39 s;have h2:=List.count_le_length (a:=(39:UInt8)) (l:=s);omega
 ·rw [xH];have:=Gz s;omega
theorem N8 (B b:Nat) (l:List UInt8) (q:Bool) (s:ByteArray) (w:World) (h:Wr w B b l q) (hlen:l.length+3*s.size≤1000000) (hBw:B≤w.heap.size) :
 Calls Tryz.prog 48 #[.pointer (some ⟨b,0,none⟩),.string s] w fun e w'=>e=.returned (.tuple #[])∧Wr w' B b (l++bW s.data.toList) q∧Wk B b w w':=by
 have HW0:=Lib.hid h;clear h;go_enter Tryz.func48,Tryz.ntmps48;go_wp2_with fail;go_loopw [7] (fun k' wr=>∃(k:Nat) (o:Bs),k'=.int .i64 k∧k≤s.size∧Hid (o++bW (s.data.toList.drop k)=bW s.data.toList)∧Hid (Wr wr B b (l++o) q)∧Hid (Wk B b w wr)) (fun k' _=>s.size - (intOf k').toNat)
 case atStart=>exact⟨0,[],rfl,Nat.zero_le _,Hd rfl,by simpa using HW0,Hd (Wk.refl _ _ _)⟩
 case round=>
  obtain⟨k,o,rfl,hk,HO,HW,HB⟩:=hrel;have hol:o.length≤3*s.size:=by
   have h1:=congrArg List.length HO.o;rw [lA] at h1;have h2:=yM s.data.toList;rw [←Lib.size_eq] at h2;omega
  by_cases hlt:k<s.size
  ·have p1:(k:Int)<(s.size:Int):=by omega
   have hk1:IntKind.i64.wrap ((k:Int)+1)=(k:Int)+1:=IntWalk.i64_in _ (by omega);obtain⟨x,hx⟩:∃x,x=aM s k:=⟨_,rfl⟩;have hdr:=sQ hlt;rw [←hx] at hdr;have HDR:=Hd hdr;have hlx:(l++o++[x]).length≤1000001:=by simp only [lA,List.length_singleton];omega
   have hll:(l++o).length≤1000000:=by simp only [lA];omega
   have ei:=gB hlt;rw [←hx] at ei;clear hdr hx;by_cases hx36:x=36
   ·subst hx36;by_cases hl2:k+1<s.size
    ·have p2:(k:Int)+1<(s.size:Int):=by omega
     obtain⟨y,hy⟩:∃y,y=aM s (k+1):=⟨_,rfl⟩;have hdr2:=sQ hl2;rw [←hy] at hdr2;have HD2:=Hd hdr2;have ei2:=gB hl2;rw [←hy] at ei2;clear hdr2 hy;go_wp2_with fail;go_still_tail 6,(by kernel_rfl);change wpList _ _ _ _ _ wr.drew;go_wp2_with fail;refine (fY B b _ q 36 _ (HW.o.below ((aB.refl _ _).drew)) (by omega) (Nat.le_trans hBw HB.o.size)).mono ?_;rintro e w2 ⟨rfl,hw2,hb2⟩
     replace HW:=Hd hw2;replace HB:=Hd (HB.o.trans ((Wk.drew (Wk.refl B b wr)).trans hb2));clear hw2 hb2;go_wp2_with fail;refine (Jd y _).mono ?_;rintro e w3 ⟨rfl,rfl⟩;cases hr:j7 y with
     | true=>
      have HR:=Hd (show iL (s.data.toList.drop (k+1))=true by rw [HD2.o];exact hr);clear hr;go_wp2_with fail;refine (iS B b _ q ⟨#[92,10]⟩ _ HW.o (by rw [show (⟨#[92,10]⟩:ByteArray).size=2 from rfl];omega) (Nat.le_trans hBw HB.o.size)).mono ?_;rintro e w4 ⟨rfl,hw4,hb4⟩;replace HW:=Hd hw4;replace HB:=Hd (HB.o.trans hb4);clear hw4 hb4;go_wp2_with fail;go_roundw
      case rel=>exact⟨k+1,o++[36]++[92,10],by go_num,by omega,Hd (by rw [←HO.o,HDR.o,cI,HR.o,aA,aA];rfl),Hd (by rw [←aA,←aA];exact HW.o),HB⟩
      case measure=>simp [intOf];omega
     | false=>
      have HR:=Hd (show iL (s.data.toList.drop (k+1))=false by rw [HD2.o];exact hr);clear hr;go_wp2_with fail;go_roundw
      case rel=>exact⟨k+1,o++[36],by go_num,by omega,Hd (by rw [←HO.o,HDR.o,cI,HR.o,aA];rfl),Hd (by rw [←aA];exact HW.o),HB⟩
      case measure=>simp [intOf];omega
    ·have p2:¬(k:Int)+1<(s.size:Int):=by omega
     have HR:=Hd (show iL (s.data.toList.drop (k+1))=false by rw [List.drop_eq_nil_of_le (by rw [←Lib.size_eq];omega)];rfl);go_wp2_with fail;go_still_tail 6,(by kernel_rfl);change wpList _ _ _ _ _ wr.drew;go_wp2_with fail;refine (fY B b _ q 36 _ (HW.o.below ((aB.refl _ _).drew)) (by omega) (Nat.le_trans hBw HB.o.size)).mono ?_;rintro e w2 ⟨rfl,hw2,hb2⟩;replace HW:=Hd hw2;replace HB:=Hd (HB.o.trans ((Wk.drew (Wk.refl B b wr)).trans hb2))
     clear hw2 hb2;go_wp2_with fail;go_roundw
     case rel=>exact⟨k+1,o++[36],by go_num,by omega,Hd (by rw [←HO.o,HDR.o,cI,HR.o,aA];rfl),Hd (by rw [←aA];exact HW.o),HB⟩
     case measure=>simp [intOf];omega
   ·have t0:((x.toNat:Int)==36)=false:=u8Ne (k:=36) (by decide) hx36;go_wp2_with fail;go_still_tail 6,(by kernel_rfl);change wpList _ _ _ _ _ wr.drew;go_wp2_with fail;refine (fY B b _ q x _ (HW.o.below ((aB.refl _ _).drew)) (by omega) (Nat.le_trans hBw HB.o.size)).mono ?_;rintro e w2 ⟨rfl,hw2,hb2⟩;replace HW:=Hd hw2;replace HB:=Hd (HB.o.trans ((Wk.drew (Wk.refl B b wr)).trans hb2));clear hw2 hb2
    go_wp2_with fail;go_roundw
    case rel=>exact⟨k+1,o++[x],by go_num,by omega,Hd (by rw [←HO.o,HDR.o,cI,show (x==36)=false from beq_eq_false_iff_ne.2 hx36,aA];rfl),Hd (by rw [←aA];exact HW.o),HB⟩
    case measure=>simp [intOf];omega
  ·obtain rfl:k=s.size:=by omega
   have p1:¬(s.size:Int)<(s.size:Int):=by omega
   go_wp2_with fail;go_end0;refine⟨rfl,?_,HB.o⟩;have h9:=HO.o;rw [List.drop_eq_nil_of_le (by rw [←Lib.size_eq];exact Nat.le_refl _),show bW []=[] from rfl,List.append_nil] at h9;rw [←h9];exact HW.o
theorem Qc (B b:Nat) (l:List UInt8) (s:ByteArray) (w:World) (h:Wr w B b l true) (hlen:l.length+2*s.size≤1000000) (hBw:B≤w.heap.size) :
 Calls Tryz.prog 49 #[.pointer (some ⟨b,0,none⟩),.string s] w fun e w'=>e=.returned (.tuple #[])∧Wr w' B b (l++kE s.data.toList) true∧Wk B b w w':=by
 have c2:=h.flag;have HW0:=Lib.hid h;clear h;go_enter Tryz.func49,Tryz.ntmps49;go_wp2_with fail;go_loopw [20] (fun k' wr=>∃(k:Nat) (o:Bs),k'=.int .i64 k∧k≤s.size∧Hid (o++kE (s.data.toList.drop k)=kE s.data.toList)∧Hid (Wr wr B b (l++o) true)∧Hid (Wk B b w wr)) (fun k' _=>s.size - (intOf k').toNat)
 case atStart=>exact⟨0,[],rfl,Nat.zero_le _,Hd rfl,by simpa using HW0,Hd (Wk.refl _ _ _)⟩
 case round=>
  obtain⟨k,o,rfl,hk,HO,HW,HB⟩:=hrel;have hol:o.length≤2*s.size:=by
   have h1:=congrArg List.length HO.o;rw [lA] at h1;have h2:=G4 s.data.toList;rw [←Lib.size_eq] at h2;omega
  by_cases hlt:k<s.size
  ·have p1:(k:Int)<(s.size:Int):=by omega
   obtain⟨x,hx⟩:∃x,x=aM s k:=⟨_,rfl⟩;have hdr:=sQ hlt;rw [←hx] at hdr;have HDR:=Hd hdr;have hlx:(l++o++[92]).length≤1000001:=by simp only [lA,List.length_singleton];omega
   have hll:(l++o).length≤1000000:=by simp only [lA];omega
   have ei:=gB hlt;rw [←hx] at ei;clear hdr hx;have HE:=Hd (P7 x);have HI:=Hd (show ∀w,Calls Tryz.prog 78 #[.string ⟨#[36,34,92,96]⟩,.int .u8 (x.toNat:Nat)] w fun e w'=>e=.returned (.int .i64 (Lib.indexByte [36,34,92,96] x))∧w'=w from fun w=>by
    have:=Tryz.strings_IndexByte ⟨#[36,34,92,96]⟩ (x.toNat:Nat) w;rw [show ((x.toNat:Nat):Int).toNat.toUInt8=x by simp] at this;exact this)
   obtain⟨z,hz⟩:∃z,z=Lib.indexByte [36,34,92,96] x:=⟨_,rfl⟩;rw [←hz] at HE HI;clear hz;cases he:nM x with
   | true=>
    have HX:=Hd he;have p2:0≤z:=by have:=HE.o;rw [he] at this;simpa using this
    clear he;go_wp2_with fail;refine (HI.o _).mono ?_;rintro e w1 ⟨rfl,rfl⟩;go_wp2_with fail;refine (fY B b _ true 92 _ (HW.o.below (aB.refl _ _)) (by omega) (Nat.le_trans hBw HB.o.size)).mono ?_;rintro e w2 ⟨rfl,hw9,hb9⟩;replace HW:=Hd hw9;replace HB:=Hd (HB.o.trans hb9);clear hw9 hb9;go_wp2_with fail;go_still_tail 6,(by kernel_rfl);change wpList _ _ _ _ _ w2.drew;go_wp2_with fail;refine (fY B b _ true x _ (HW.o.below ((aB.refl _ _).drew)) (by omega) (Nat.le_trans hBw HB.o.size)).mono ?_
    rintro e w3 ⟨rfl,hw9,hb9⟩;replace HW:=Hd hw9;replace HB:=Hd (HB.o.trans ((Wk.drew (Wk.refl B b w2)).trans hb9));clear hw9 hb9;go_wp2_with fail;go_roundw
    case rel=>exact⟨k+1,o++[92]++[x],by go_num,by omega,Hd (by rw [←HO.o,HDR.o,sS,HX.o,aA,aA];rfl),Hd (by rw [←aA,←aA];exact HW.o),HB⟩
    case measure=>simp [intOf];omega
   | false=>
    have HX:=Hd he;have p2:¬0≤z:=by have:=HE.o;rw [he] at this;simpa using this
    clear he;go_wp2_with fail;refine (HI.o _).mono ?_;rintro e w1 ⟨rfl,rfl⟩;go_wp2_with fail;go_still_tail 6,(by kernel_rfl);change wpList _ _ _ _ _ w1.drew;go_wp2_with fail;refine (fY B b _ true x _ (HW.o.below ((aB.refl _ _).drew)) (by omega) (Nat.le_trans hBw HB.o.size)).mono ?_;rintro e w2 ⟨rfl,hw9,hb9⟩;replace HW:=Hd hw9;replace HB:=Hd (HB.o.trans ((Wk.drew (Wk.refl B b w1)).trans hb9))
    clear hw9 hb9;go_wp2_with fail;go_roundw
    case rel=>exact⟨k+1,o++[x],by go_num,by omega,Hd (by rw [←HO.o,HDR.o,sS,HX.o,aA];rfl),Hd (by rw [←aA];exact HW.o),HB⟩
    case measure=>simp [intOf];omega
  ·obtain rfl:k=s.size:=by omega
   have p1:¬(s.size:Int)<(s.size:Int):=by omega
   go_wp2_with fail;go_end0;refine⟨rfl,?_,HB.o⟩;have h9:=HO.o;rw [List.drop_eq_nil_of_le (by rw [←Lib.size_eq];exact Nat.le_refl _),show kE []=[] from rfl,List.append_nil] at h9;rw [←h9];exact HW.o
theorem Qi (B b:Nat) (l s:List UInt8) (m:Int) (w:World) (h:Wr w B b l false) (hq:Fx s) (hm:w.cell? ⟨0,0,none⟩=some (.int .i64 m)) (hlen:l.length+(nH s).length≤1000000) (hBw:B≤w.heap.size) :
 Calls Tryz.prog 49 #[.pointer (some ⟨b,0,none⟩),.string ⟨s.toArray⟩] w fun e w'=>e=.returned (.tuple #[])∧Wr w' B b (l++nH s) false∧Wk B b w w':=by
 have c2:=h.flag;have hlt:=h.lt;obtain⟨S,hS⟩:∃S:ByteArray,S=⟨s.toArray⟩:=⟨_,rfl⟩;have hsl:S.data.toList=s:=by rw [hS]
 have hss:S.size=s.length:=by rw [Lib.size_eq,hsl]
 have h1:=hq.1;have h2:=hq.2;have hR:=fun w hm=>Tryz.strings_ReplaceAll S ⟨#[39]⟩ ⟨#[39,92,39,39]⟩ m w (by omega) hm (by decide) (by rw [hss,hS];show s.length+Lib.countB _ _*4≤_;omega);rw [hsl] at hR;rw [←hS];obtain⟨R,hRe⟩:∃R:ByteArray,R=⟨(Lib.replaceAll s [39] [39,92,39,39]).toArray⟩:=⟨_,rfl⟩;have hRs:R.size+2=(nH s).length:=by rw [Lib.size_eq,hRe];simp [nH]
 have hR9:R.size≤100000:=by omega
 have hq1:(⟨#[39]⟩:ByteArray).size=1:=rfl;have HRS:=Hd (show ([39]:List UInt8)++R.data.toList++[39]=nH s by rw [hRe];rfl);have HR:=Hd (show ∀w,w.cell? ⟨0,0,none⟩=some (.int .i64 m)→Calls Tryz.prog 77 #[.string S,.string ⟨#[39]⟩,.string ⟨#[39,92,39,39]⟩] w (fun e w'=>e=.returned (.string R)∧Below w.heap.size w w') by rw [hRe];exact fun w hm=>hR w hm);have HW:=Lib.hid h;have HM:=Hd hm;clear h hm hR hRe hS hsl hss hq
 go_enter Tryz.func49,Tryz.ntmps49;go_wp2_with fail;go_region_with (first
  | (go_at_call 77;refine (HR.o w.drew (show w.drew.cell? _=_ from HM.o)).mono ?_;rintro e w1 ⟨rfl,hb1⟩;have hk1:=aB.of_below hb1 (fun _=>False);have HW1:=Hd (HW.o.below (((aB.refl (fun _=>False) w).drew).trans hk1 k3));have HB1:=Hd ((Wk.drew (Wk.refl B b w)).trans (aB.mono (aB.of_below hb1 (fun _=>False)) (fun _ _ h=>h.elim)));have HL:=Hd (HB1.o.size);clear hb1 hk1)
  | (go_at_call 26;refine (iS B b l false _ _ HW1.o (by simp [ByteArray.size_append,show (⟨#[39]⟩:ByteArray).size=1 from rfl];omega) (Nat.le_trans hBw HL.o)).mono ?_;rintro e w2 ⟨rfl,hw2,hb2⟩;have HW2:=Hd hw2;have HB2:=Hd (HB1.o.trans hb2);clear hw2 hb2))
 go_wp2_with fail;refine bodyPost_ret (v:=.tuple #[]) (by simp [results,Tryz.results49,go_sem]) rfl ?_;refine⟨rfl,?_,HB2.o⟩;have h9:=HW2.o;rw [show (({ data:=#[39] }:ByteArray)++R++{ data:=#[39] }).data.toList=nH s by rw [←HRS.o];simp] at h9;exact h9
theorem Nq (B b:Nat) (l s:List UInt8) (q:Bool) (m:Int) (w:World) (h:Wr w B b l q) (hs:s.length≤20000) (hm:w.cell? ⟨0,0,none⟩=some (.int .i64 m)) (hlen:l.length≤500000) (hBw:B≤w.heap.size) :
 Calls Tryz.prog 49 #[.pointer (some ⟨b,0,none⟩),.string ⟨s.toArray⟩] w fun e w'=>e=.returned (.tuple #[])∧Wr w' B b (l++(if q then kE s else qQ s)) q∧Wk B b w w':=by
 cases q with
 | true=>exact Qc B b l ⟨s.toArray⟩ w h (by show l.length+2*s.toArray.size≤_;rw [List.size_toArray];omega) hBw
 | false=>
  have h1:=Qi B b l s m w h (Kh hs) hm (by rw [xH];have:=Gz s;omega) hBw;rw [xH] at h1;exact h1
theorem cO {w:World} {b:Nat} {a0 a1 a2 a3 a4 a5:Value} {T:TypeId} (h:w.heap[b]? = some (.cells #[a0,a1,a2,a3,a4,a5] T (0,0))) :
 w.cell? ⟨b,0,none⟩=some a0∧w.cell? ⟨b,1,none⟩=some a1∧w.cell? ⟨b,2,none⟩=some a2∧w.cell? ⟨b,3,none⟩=some a3∧w.cell? ⟨b,4,none⟩=some a4∧w.cell? ⟨b,5,none⟩=some a5:=by
 refine⟨?_,?_,?_,?_,?_,?_⟩<;>(rw [Lib.cell_of_heap h];rfl)
theorem Jt (B b:Nat) (l t n o S:Bs) (q pq:Bool) (k:Int) (xa:OA) (xl xc:Nat) (w:World) (h:Wr w B b l q) (M:Nat) (hM:M≤400000) (hlen:l.length+n.length+o.length+S.length+3≤M) (hBw:B≤w.heap.size)
 (h76:o≠[76]) (h37:o≠[37]) (h35:o≠[35])
 (hP:∀W acc,Wr W B b acc q→Wk B b w W→acc.length+S.length≤M→Calls Tryz.prog 27 #[.pointer (some ⟨b,0,none⟩),.slice xa xl xc] W fun e w'=>e=.returned (.tuple #[])∧Wr w' B b (acc++S) q∧Wk B b W w') :
 Calls Tryz.prog 79 #[.pointer (some ⟨b,0,none⟩),.agg #[.int .i64 k,.string ⟨t.toArray⟩,.string ⟨n.toArray⟩,.string ⟨o.toArray⟩,.slice xa xl xc,.bool pq]] w fun e w'=>e=.returned (.tuple #[])∧Wr w' B b (l++36::123::(n++(o++(S++[125])))) q∧Wk B b w w':=by
 have HW0:=Lib.hid h;have HP:=Hd hP;have hblt:=h.lt;obtain⟨N,hN⟩:∃N:ByteArray,N=⟨n.toArray⟩:=⟨_,rfl⟩;have hNl:N.data.toList=n:=by rw [hN]
 have hNs:N.size=n.length:=by rw [Lib.size_eq,hNl]
 have HN:=Hd hNl;obtain⟨O,hO⟩:∃O:ByteArray,O=⟨o.toArray⟩:=⟨_,rfl⟩;have hOl:O.data.toList=o:=by rw [hO]
 have hOs:O.size=o.length:=by rw [Lib.size_eq,hOl]
 have HO:=Hd hOl;have hne:∀z:UInt8,o≠[z]→(O.toList==[z])=false:=fun z hz=>O9 (by rw [hOl];exact hz);have e76:=hne 76 h76;have e37:=hne 37 h37;have e35:=hne 35 h35;have s3:(⟨#[36,123]⟩:ByteArray).size=2:=rfl;have hN9:N.size≤400000:=by omega
 have hO9:O.size≤400000:=by omega
 rw [←hN,←hO];clear h hP hN hNl hO hOl hne h76 h37 h35;go_enter Tryz.func79,Tryz.ntmps79;go_wp2_with fail;have HKW:=Hd (show K0 w (w.alloc (.cells #[.int .i64 k,.string ⟨t.toArray⟩,.string N,.string O,.slice xa xl xc,.bool pq] 67)) from (aB.refl _ _).alloc _);have HBW:=Hd (show Wk B b w (w.alloc (.cells #[.int .i64 k,.string ⟨t.toArray⟩,.string N,.string O,.slice xa xl xc,.bool pq] 67)) from (Wk.refl B b w).alloc _)
 have hrec:=heap_alloc_new w (.cells #[.int .i64 k,.string ⟨t.toArray⟩,.string N,.string O,.slice xa xl xc,.bool pq] 67);obtain⟨c0,c1,c2,c3,c4,c5⟩:=cO hrec;have HR:=Hd hrec;clear hrec;generalize w.alloc (.cells #[.int .i64 k,.string ⟨t.toArray⟩,.string N,.string O,.slice xa xl xc,.bool pq] 67)=W at HKW HBW HR c0 c1 c2 c3 c4 c5 ⊢;go_region_with (go_at_call 26;refine (iS B b l q _ _ (HW0.o.below (HKW.o.trans ((aB.refl _ W).drew) k3)) (by simp only [ByteArray.size_append,s3];omega) (Nat.le_trans hBw HKW.o.size)).mono ?_;rintro e w2 ⟨rfl,hw2,hb2⟩;have HW:=Hd hw2;have HB:=Hd (HBW.o.trans (((Wk.refl B b W).drew).trans hb2));have HR2:=Hd (((Wk.refl B b W).drew.trans hb2).heap HR.o (by omega) (fun cs fr e=>by injection e with _ e2 _;exact absurd e2 (by decide)));clear hw2 hb2)
 all_goals obtain⟨d0,d1,d2,d3,d4,d5⟩:=cO HR2.o
 all_goals clear c0 c1 c2 c3 c4 c5
 all_goals go_wp2_with fail
 all_goals go_quiet (fail)
 all_goals go_wp2_with fail
 all_goals refine (HP.o _ _ (HW.o.below ((aB.refl _ _).drewN _)) (HB.o.trans (aB.drewN (aB.refl _ _) _)) (by simp only [lA,ByteArray.data_append,Array.toList_append,HN.o,HO.o,lC,lN];omega)).mono ?_
 all_goals rintro e w3 ⟨rfl,hw3,hb3⟩
 all_goals have HW3:=Hd hw3
 all_goals have HB3:=Hd ((HB.o.trans (aB.drewN (aB.refl _ _) _)).trans hb3)
 all_goals clear hw3 hb3
 all_goals go_wp2_with fail
 all_goals refine (fY B b _ q 125 _ HW3.o (by simp only [lA,ByteArray.data_append,Array.toList_append,HN.o,HO.o,lC,lN];omega) (Nat.le_trans hBw HB3.o.size)).mono ?_
 all_goals rintro e w4 ⟨rfl,hw4,hb4⟩
 all_goals have HW4:=Hd hw4
 all_goals have HB4:=Hd (HB3.o.trans hb4)
 all_goals clear hw4 hb4
 all_goals go_wp2_with fail
 all_goals go_end0
 all_goals refine⟨rfl,?_,HB4.o⟩
 all_goals have h9:=HW4.o
 all_goals rw [show ((⟨#[36,123]⟩:ByteArray)++N++O).data.toList=36::123::(n++o) by rw [←HN.o,←HO.o];simp] at h9
 all_goals simpa using h9
theorem E3 (B b:Nat) (l t n:Bs) (q pq:Bool) (k:Int) (xa:OA) (xl xc:Nat) (w:World) (h:Wr w B b l q) (hlen:l.length+n.length≤1000000) (hBw:B≤w.heap.size) :
 Calls Tryz.prog 79 #[.pointer (some ⟨b,0,none⟩),.agg #[.int .i64 k,.string ⟨t.toArray⟩,.string ⟨n.toArray⟩,.string ⟨#[76]⟩,.slice xa xl xc,.bool pq]] w fun e w'=>e=.returned (.tuple #[])∧Wr w' B b (l++36::123::35::(n++[125])) q∧Wk B b w w':=by
 have HW0:=Lib.hid h;obtain⟨N,hN⟩:∃N:ByteArray,N=⟨n.toArray⟩:=⟨_,rfl⟩;have hNl:N.data.toList=n:=by rw [hN]
 have hNs:N.size=n.length:=by rw [Lib.size_eq,hNl]
 have HN:=Hd hNl;have s3:(⟨#[36,123,35]⟩:ByteArray).size=3:=rfl;have s1:(⟨#[125]⟩:ByteArray).size=1:=rfl;have hN9:N.size≤1000000:=by omega
 rw [←hN];clear h hN hNl;go_enter Tryz.func79,Tryz.ntmps79;go_wp2_with fail;have HKW:=Hd (show K0 w (w.alloc (.cells #[.int .i64 k,.string ⟨t.toArray⟩,.string N,.string ⟨#[76]⟩,.slice xa xl xc,.bool pq] 67)) from (aB.refl _ _).alloc _);have HBW:=Hd (show Wk B b w (w.alloc (.cells #[.int .i64 k,.string ⟨t.toArray⟩,.string N,.string ⟨#[76]⟩,.slice xa xl xc,.bool pq] 67)) from (Wk.refl B b w).alloc _)
 have c2:(w.alloc (.cells #[.int .i64 k,.string ⟨t.toArray⟩,.string N,.string ⟨#[76]⟩,.slice xa xl xc,.bool pq] 67)).cell? ⟨w.heap.size,2,none⟩=some (.string N):=by rw [Lib.cell_of_heap (heap_alloc_new w _)];rfl
 generalize w.alloc (.cells #[.int .i64 k,.string ⟨t.toArray⟩,.string N,.string ⟨#[76]⟩,.slice xa xl xc,.bool pq] 67)=W at HKW HBW c2 ⊢;go_region_with (go_at_call 26;refine (iS B b l q _ _ (HW0.o.below (HKW.o.trans ((aB.refl _ W).drew) k3)) (by simp only [ByteArray.size_append,s3,s1];omega) (Nat.le_trans hBw HKW.o.size)).mono ?_;rintro e w2 ⟨rfl,hw2,hb2⟩;have HW:=Hd hw2;have HB:=Hd (HBW.o.trans (((Wk.refl B b W).drew).trans hb2));clear hw2 hb2)
 go_wp2_with fail;refine bodyPost_ret (v:=.tuple #[]) (by simp [results,Tryz.results79,go_sem]) rfl ?_;refine⟨rfl,?_,HB.o⟩;have h9:=HW.o;rw [show ((⟨#[36,123,35]⟩:ByteArray)++N++⟨#[125]⟩).data.toList=36::123::35::(n++[125]) by rw [←HN.o];simp] at h9;exact h9
end Go.Proofs.YtiihpbccabeoeaaGreatDoor
