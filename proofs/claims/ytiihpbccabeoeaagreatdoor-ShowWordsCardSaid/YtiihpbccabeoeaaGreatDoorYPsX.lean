/- The walk: a part. -/
import Derived.Test.YtiihpbccabeoeaaGreatDoorYPsW
import Derived.Test.YtiihpbccabeoeaaGreatDoorYPsA
import Derived.StillTailTactics
import Derived.Deep.RegionHeld3
import Derived.Test.YtiihpbccabeoeaaGreatDoorYPkA
import Derived.Test.YtiihpbccabeoeaaGreatDoorYPrA
namespace Go.Proofs.YtiihpbccabeoeaaGreatDoor
open Go.RowKit
set_option linter.unusedVariables false
set_option maxRecDepth 100000
set_option maxHeartbeats 16000000
theorem keeps_below {a b:World} {B:Nat} (h:Below B a b):Keeps (fun k=>B≤k) a b:=⟨h.os,h.tape,h.output,h.size,fun k _ hs=>h.block k (by omega)⟩
theorem cellKeep {a b:World} {g:Nat} {v:Value} (h:a.cell? ⟨g,0,none⟩=some v) (hk:Keeps (fun _=>False) a b) (hg:g<a.heap.size):b.cell? ⟨g,0,none⟩=some v:=(World.cell?_of_block (a:=⟨g,0,none⟩) (hk.block g hg (fun h=>h))).trans h
theorem cellLt {a:World} {g:Nat} {v:Value} (h:a.cell? ⟨g,0,none⟩=some v):g<a.heap.size:=by
 rcases Nat.lt_or_ge g a.heap.size with h9 | h9
 ·exact h9
 ·simp [World.cell?,Array.getElem?_eq_none h9] at h
theorem byteAt_ne {T:ByteArray} {y:UInt8} (h:∀c∈T.data.toList,c≠y) {k:Nat} (hk:k<T.size):byteAt T k≠y:=by
 unfold byteAt;have hk2:k<T.data.toList.length:=by rw [←Lib.size_eq];exact hk
 rw [List.getD_eq_getElem?_getD,List.getElem?_eq_getElem hk2];exact h _ (List.getElem_mem hk2)
theorem u8Ne {x:UInt8} {k:Nat} (hk:k<256) (h:x≠UInt8.ofNat k):((x.toNat:Int)==(k:Int))=false:=by
 rw [beq_eq_false_iff_ne];intro e;apply h;apply UInt8.toNat.inj;rw [UInt8.toNat_ofNat_of_lt' (by simpa [UInt8.size] using hk)];omega
theorem plain0 (B b:Nat) (l:List UInt8) (q:Bool) (s:ByteArray) (w:World) (h:Wr w B b l q) (hs:∀k,k<s.size→byteAt s k≠36) (hlen:l.length+s.size≤1000000) (hBw:B≤w.heap.size) :
 Calls Tryz.prog 48 #[.pointer (some ⟨b,0,none⟩),.string s] w fun e w'=>e=.returned (.tuple #[])∧Wr w' B b (l++s.data.toList) q∧Below B w w':=by
 have HS:=Hd hs;have HW0:=Lib.hid h;clear h hs;go_enter Tryz.func48,Tryz.ntmps48;go_wp2_with fail;go_loopw [7] (fun k' wr=>∃k:Nat,k'=.int .i64 k∧k≤s.size∧Hid (Wr wr B b (l++s.data.toList.take k) q)∧Hid (Below B w wr)) (fun k' _=>s.size - (intOf k').toNat)
 case atStart=>exact⟨0,rfl,Nat.zero_le _,by simpa using HW0,Hd (Below.refl _ _)⟩
 case round=>
  obtain⟨k,rfl,hk,HW,HB⟩:=hrel;by_cases hlt:k<s.size
  ·have p1:(k:Int)<(s.size:Int):=by omega
   obtain⟨x,hx⟩:∃x,x=byteAt s k:=⟨_,rfl⟩;have hx36:=HS.out k hlt;rw [←hx] at hx36;have t0:((x.toNat:Int)==36)=false:=u8Ne (k:=36) (by decide) hx36;have hlst:s.data.toList.take (k+1)=s.data.toList.take k++[x]:=by
    rw [List.take_succ_eq_append_getElem (by rw [←Lib.size_eq];exact hlt),hx];congr 2;unfold byteAt;rw [List.getD_eq_getElem?_getD,List.getElem?_eq_getElem (by rw [←Lib.size_eq];exact hlt)];rfl
   have HL:=Hd hlst;have HX:=Hd hx;have hll:(l++s.data.toList.take k).length≤1000000:=by
    rw [List.length_append,List.length_take,←Lib.size_eq];omega
   have ei:=byteAt_in hlt;rw [←hx] at ei;clear hlst hx36 hx;go_wp2_with fail;go_still_tail 6,(by kernel_rfl);change wpList _ _ _ _ _ wr.drew;go_wp2_with fail;refine (byte_w B b _ q x _ (HW.out.below ((Keeps.refl _ _).drew)) (by omega) (Nat.le_trans hBw HB.out.size)).mono ?_;rintro e w2 ⟨rfl,hw2,hb2⟩;replace HW:=Hd hw2;replace HB:=Hd (HB.out.trans ((Below.drew (Below.refl B wr)).trans hb2));clear hw2 hb2
   go_wp2_with fail;go_roundw
   case rel=>exact⟨k+1,by go_num,by omega,Hd (by rw [HL.out,←List.append_assoc];exact HW.out),HB⟩
   case measure=>simp [intOf];omega
  ·obtain rfl:k=s.size:=by omega
   have p1:¬(s.size:Int)<(s.size:Int):=by omega
   go_wp2_with fail;go_end0;refine⟨rfl,?_,HB.out⟩;have h9:=HW.out;rw [List.take_of_length_le (by rw [←Lib.size_eq];exact Nat.le_refl _)] at h9;exact h9
def quoteS (s:List UInt8):List UInt8:=[39]++Lib.replaceAll s [39] [39,92,39,39]++[39]
def QuoteOK (s:List UInt8):Prop:=s.length+Lib.countB ⟨s.toArray⟩ ⟨#[39]⟩*4≤100000∧(quoteS s).length≤100000
theorem quote0 (B b:Nat) (l s:List UInt8) (m:Int) (w:World) (h:Wr w B b l false) (hq:QuoteOK s) (hm:w.cell? ⟨0,0,none⟩=some (.int .i64 m)) (hlen:l.length+(quoteS s).length≤1000000) (hBw:B≤w.heap.size) :
 Calls Tryz.prog 49 #[.pointer (some ⟨b,0,none⟩),.string ⟨s.toArray⟩] w fun e w'=>e=.returned (.tuple #[])∧Wr w' B b (l++quoteS s) false∧Below B w w':=by
 have c2:=h.flag;have hlt:=h.lt;obtain⟨S,hS⟩:∃S:ByteArray,S=⟨s.toArray⟩:=⟨_,rfl⟩;have hsl:S.data.toList=s:=by rw [hS]
 have hss:S.size=s.length:=by rw [Lib.size_eq,hsl]
 have h1:=hq.1;have h2:=hq.2;have hR:=fun w hm=>Tryz.strings_ReplaceAll S ⟨#[39]⟩ ⟨#[39,92,39,39]⟩ m w (by omega) hm (by decide) (by rw [hss,hS];show s.length+Lib.countB _ _*4≤_;omega);rw [hsl] at hR;rw [←hS];obtain⟨R,hRe⟩:∃R:ByteArray,R=⟨(Lib.replaceAll s [39] [39,92,39,39]).toArray⟩:=⟨_,rfl⟩;have hRs:R.size+2=(quoteS s).length:=by rw [Lib.size_eq,hRe];simp [quoteS]
 have hR9:R.size≤100000:=by omega
 have hq1:(⟨#[39]⟩:ByteArray).size=1:=rfl;have HRS:=Hd (show ([39]:List UInt8)++R.data.toList++[39]=quoteS s by rw [hRe];rfl);have HR:=Hd (show ∀w,w.cell? ⟨0,0,none⟩=some (.int .i64 m)→Calls Tryz.prog 77 #[.string S,.string ⟨#[39]⟩,.string ⟨#[39,92,39,39]⟩] w (fun e w'=>e=.returned (.string R)∧Below w.heap.size w w') by rw [hRe];exact fun w hm=>hR w hm);have HW:=Lib.hid h;have HM:=Hd hm;clear h hm hR hRe hS hsl hss hq
 go_enter Tryz.func49,Tryz.ntmps49;go_wp2_with fail;go_region_with (first
  | (go_at_call 77;refine (HR.out w.drew (show w.drew.cell? _=_ from HM.out)).mono ?_;rintro e w1 ⟨rfl,hb1⟩;have hk1:=Keeps.of_below hb1 (fun _=>False);have HW1:=Hd (HW.out.below (((Keeps.refl (fun _=>False) w).drew).trans hk1 (fun _ _ h=>h)));have HB1:=Hd ((Below.drew (Below.refl B w)).trans (hb1.mono hBw));have HL:=Hd (HB1.out.size);clear hb1 hk1)
  | (go_at_call 26;refine (str_w B b l false _ _ HW1.out (by simp [ByteArray.size_append,show (⟨#[39]⟩:ByteArray).size=1 from rfl];omega) (Nat.le_trans hBw HL.out)).mono ?_;rintro e w2 ⟨rfl,hw2,hb2⟩;have HW2:=Hd hw2;have HB2:=Hd (HB1.out.trans hb2);clear hw2 hb2))
 go_wp2_with fail;refine bodyPost_ret (v:=.tuple #[]) (by simp [results,Tryz.results49,go_sem]) rfl ?_;refine⟨rfl,?_,HB2.out⟩;have h9:=HW2.out;rw [show (({ data:=#[39] }:ByteArray)++R++{ data:=#[39] }).data.toList=quoteS s by rw [←HRS.out];simp] at h9;exact h9
theorem risky_in (c:UInt8):(letterB c || digitB c || decide (0≤Lib.indexByte [63,35,64,42,123,40] c))=riskyB c:=by
 have h:∀n:Fin 256,(letterB (UInt8.ofNat n.val) || digitB (UInt8.ofNat n.val) || decide (0≤Lib.indexByte [63,35,64,42,123,40] (UInt8.ofNat n.val)))=riskyB (UInt8.ofNat n.val):=by decide +kernel
 have:=h ⟨c.toNat,c.toNat_lt⟩
 rwa [show UInt8.ofNat c.toNat=c from UInt8.ofNat_toNat] at this
theorem risky_any (c:UInt8) (w:World) :
 Calls Tryz.prog 76 #[.int .u8 (c.toNat:Nat)] w fun e w'=>e=.returned (.bool (riskyB c))∧w'=w:=by
 have hR:=Hd (risky_in c);have hI:=Hd (show ∀w,Calls Tryz.prog 78 #[.string ⟨#[63,35,64,42,123,40]⟩,.int .u8 (c.toNat:Nat)] w fun e w'=>e=.returned (.int .i64 (Lib.indexByte [63,35,64,42,123,40] c))∧w'=w from fun w=>by
  have:=Tryz.strings_IndexByte ⟨#[63,35,64,42,123,40]⟩ (c.toNat:Nat) w;rw [show ((c.toNat:Nat):Int).toNat.toUInt8=c by simp] at this;exact this)
 obtain⟨x,hx⟩:∃x,x=Lib.indexByte [63,35,64,42,123,40] c:=⟨_,rfl⟩;rw [←hx] at hR hI;clear hx;cases hl:letterB c with
 | true=>
  have HL:=Hd hl;clear hl;go_enter Tryz.func76,Tryz.ntmps76;go_wp2_with fail;refine (start_any c _).mono ?_;rintro e w1 ⟨rfl,rfl⟩;rw [HL.out];go_wp2_with fail;go_ret;exact⟨by rw [←hR.out,HL.out];rfl,rfl⟩
 | false=>
  have HL:=Hd hl;clear hl;go_enter Tryz.func76,Tryz.ntmps76;go_wp2_with fail;refine (start_any c _).mono ?_;rintro e w1 ⟨rfl,rfl⟩;rw [HL.out];go_wp2_with fail;refine (digit_any c _).mono ?_;rintro e w2 ⟨rfl,rfl⟩;cases hd:digitB c with
  | true=>
   have HD:=Hd hd;clear hd;go_wp2_with fail;go_ret;exact⟨by rw [←hR.out,HL.out,HD.out];rfl,rfl⟩
  | false=>
   have HD:=Hd hd;clear hd;go_wp2_with fail;refine (hI.out _).mono ?_;rintro e w3 ⟨rfl,rfl⟩;go_wp2_with fail;go_ret;exact⟨by rw [←hR.out,HL.out,HD.out];rfl,rfl⟩
theorem drop_byte {s:ByteArray} {k:Nat} (h:k<s.size):s.data.toList.drop k=byteAt s k::s.data.toList.drop (k+1):=by
 have hl:k<s.data.toList.length:=by rw [←Lib.size_eq];exact h
 rw [List.drop_eq_getElem_cons hl];congr 1;unfold byteAt;rw [List.getD_eq_getElem?_getD,List.getElem?_eq_getElem hl];rfl
theorem plainS_le:∀s:Bs,(plainS s).length≤3*s.length
 | []=>Nat.le_refl _
 | c::t=>by
  have:=plainS_le t;rw [plainS_cons];split<;>simp only [List.length_cons]<;>omega
theorem esc_in (c:UInt8):decide (0≤Lib.indexByte [36,34,92,96] c)=escB c:=by
 have h:∀n:Fin 256,decide (0≤Lib.indexByte [36,34,92,96] (UInt8.ofNat n.val))=escB (UInt8.ofNat n.val):=by decide +kernel
 have:=h ⟨c.toNat,c.toNat_lt⟩
 rwa [show UInt8.ofNat c.toNat=c from UInt8.ofNat_toNat] at this
theorem quoQ_cons (c:UInt8) (t:Bs):quoQ (c::t)=(if escB c then [92,c] else [c])++quoQ t:=by unfold quoQ;rw [List.flatMap_cons]
theorem quoQ_le:∀s:Bs,(quoQ s).length≤2*s.length
 | []=>Nat.le_refl _
 | c::t=>by
  have:=quoQ_le t;rw [quoQ_cons];split<;>simp only [List.length_cons,List.length_append,List.length_nil]<;>omega
theorem idx_pre:∀(p t:Bs),(∀c∈p,c≠39)→Lib.indexByte (p++39::t) 39=(p.length:Nat)
 | [],t,_=>rfl
 | c::p,t,h=>by
  have hc:(c==39)=false:=beq_eq_false_iff_ne.2 (h c (List.mem_cons_self ..));rw [List.cons_append];unfold Lib.indexByte;rw [hc,if_neg (by simp),idx_pre p t (fun x hx=>h x (List.mem_cons_of_mem _ hx)),if_neg (by rw [beq_iff_eq];omega),List.length_cons];omega
theorem rep_pre:∀(s p:Bs),(∀c∈p,c≠39)→Lib.replaceK [39] [39,92,39,39] (s.count 39) (p++s)=p++s.flatMap quoB1
 | [],p,h=>by rw [List.count_nil,List.append_nil,List.flatMap_nil,List.append_nil];rfl
 | c::t,p,h=>by
  by_cases hc:c=39
  ·subst hc;rw [List.count_cons_self,Lib.replaceK_hit _ _ _ _ p.length (by rw [Lib.index_one];exact idx_pre p t h),List.take_left,List.flatMap_cons,show quoB1 39=[39,92,39,39] from rfl];rw [show p.length+[(39:UInt8)].length=(p++[39]).length by simp,show p++39::t=(p++[39])++t by simp,List.drop_left];have:=rep_pre t [] (fun c hc=>by cases hc);rw [List.nil_append] at this;rw [this,List.append_assoc];rfl
  ·have:=rep_pre t (p++[c]) (fun x hx=>by
    rcases List.mem_append.1 hx with hx | hx
    ·exact h x hx
    ·rw [List.mem_singleton.1 hx];exact hc)
   rw [List.count_cons_of_ne hc,List.flatMap_cons,show quoB1 c=[c] from if_neg (by rw [beq_eq_false_iff_ne.2 hc];simp)];rw [List.append_assoc] at this;rw [List.append_assoc] at this;exact this
theorem quoteS_U (s:Bs):quoteS s=quoU s:=by
 have h:Lib.replaceAll s [39] [39,92,39,39]=s.flatMap quoB1:=by
  have h1:=rep_pre s [] (fun c hc=>by cases hc);rw [List.nil_append,List.nil_append] at h1;unfold Lib.replaceAll Lib.replace;rw [if_neg (by decide)];unfold Lib.replaceNum;rw [if_pos (.inl (by decide)),Lib.count_one];exact h1
 unfold quoteS quoU;rw [h];simp
theorem flat_le:∀s:Bs,(s.flatMap quoB1).length≤4*s.length
 | []=>Nat.le_refl _
 | c::t=>by
  have:=flat_le t;rw [List.flatMap_cons,List.length_append,List.length_cons];have h2:(quoB1 c).length≤4:=by unfold quoB1;split<;>simp
  omega
theorem quoU_le (s:Bs):(quoU s).length≤4*s.length+2:=by
 have:=flat_le s;unfold quoU;simp only [List.length_cons,List.length_append,List.length_nil];omega
theorem quote_ok {s:Bs} (h:s.length≤20000):QuoteOK s:=by
 refine⟨?_,?_⟩
 ·have h1:Lib.countB ⟨s.toArray⟩ ⟨#[39]⟩=s.count 39:=Lib.count_one 39 s;have h2:=List.count_le_length (a:=(39:UInt8)) (l:=s);omega
 ·rw [quoteS_U];have:=quoU_le s;omega
theorem plain_k (B b:Nat) (l:List UInt8) (q:Bool) (s:ByteArray) (w:World) (h:Wr w B b l q) (hlen:l.length+3*s.size≤1000000) (hBw:B≤w.heap.size) :
 Calls Tryz.prog 48 #[.pointer (some ⟨b,0,none⟩),.string s] w fun e w'=>e=.returned (.tuple #[])∧Wr w' B b (l++plainS s.data.toList) q∧Wk B b w w':=by
 have HW0:=Lib.hid h;clear h;go_enter Tryz.func48,Tryz.ntmps48;go_wp2_with fail;go_loopw [7] (fun k' wr=>∃(k:Nat) (o:Bs),k'=.int .i64 k∧k≤s.size∧Hid (o++plainS (s.data.toList.drop k)=plainS s.data.toList)∧Hid (Wr wr B b (l++o) q)∧Hid (Wk B b w wr)) (fun k' _=>s.size - (intOf k').toNat)
 case atStart=>exact⟨0,[],rfl,Nat.zero_le _,Hd rfl,by simpa using HW0,Hd (Wk.refl _ _ _)⟩
 case round=>
  obtain⟨k,o,rfl,hk,HO,HW,HB⟩:=hrel;have hol:o.length≤3*s.size:=by
   have h1:=congrArg List.length HO.out;rw [List.length_append] at h1;have h2:=plainS_le s.data.toList;rw [←Lib.size_eq] at h2;omega
  by_cases hlt:k<s.size
  ·have p1:(k:Int)<(s.size:Int):=by omega
   have hk1:IntKind.i64.wrap ((k:Int)+1)=(k:Int)+1:=IntWalk.i64_in _ (by omega);obtain⟨x,hx⟩:∃x,x=byteAt s k:=⟨_,rfl⟩;have hdr:=drop_byte hlt;rw [←hx] at hdr;have HDR:=Hd hdr;have hlx:(l++o++[x]).length≤1000001:=by simp only [List.length_append,List.length_singleton];omega
   have hll:(l++o).length≤1000000:=by simp only [List.length_append];omega
   have ei:=byteAt_in hlt;rw [←hx] at ei;clear hdr hx;by_cases hx36:x=36
   ·subst hx36;by_cases hl2:k+1<s.size
    ·have p2:(k:Int)+1<(s.size:Int):=by omega
     obtain⟨y,hy⟩:∃y,y=byteAt s (k+1):=⟨_,rfl⟩;have hdr2:=drop_byte hl2;rw [←hy] at hdr2;have HD2:=Hd hdr2;have ei2:=byteAt_in hl2;rw [←hy] at ei2;clear hdr2 hy;go_wp2_with fail;go_still_tail 6,(by kernel_rfl);change wpList _ _ _ _ _ wr.drew;go_wp2_with fail;refine (byte_k B b _ q 36 _ (HW.out.below ((Keeps.refl _ _).drew)) (by omega) (Nat.le_trans hBw HB.out.size)).mono ?_;rintro e w2 ⟨rfl,hw2,hb2⟩
     replace HW:=Hd hw2;replace HB:=Hd (HB.out.trans ((Wk.drew (Wk.refl B b wr)).trans hb2));clear hw2 hb2;go_wp2_with fail;refine (risky_any y _).mono ?_;rintro e w3 ⟨rfl,rfl⟩;cases hr:riskyB y with
     | true=>
      have HR:=Hd (show nextRisky (s.data.toList.drop (k+1))=true by rw [HD2.out];exact hr);clear hr;go_wp2_with fail;refine (str_k B b _ q ⟨#[92,10]⟩ _ HW.out (by rw [show (⟨#[92,10]⟩:ByteArray).size=2 from rfl];omega) (Nat.le_trans hBw HB.out.size)).mono ?_;rintro e w4 ⟨rfl,hw4,hb4⟩;replace HW:=Hd hw4;replace HB:=Hd (HB.out.trans hb4);clear hw4 hb4;go_wp2_with fail;go_roundw
      case rel=>exact⟨k+1,o++[36]++[92,10],by go_num,by omega,Hd (by rw [←HO.out,HDR.out,plainS_cons,HR.out,List.append_assoc,List.append_assoc];rfl),Hd (by rw [←List.append_assoc,←List.append_assoc];exact HW.out),HB⟩
      case measure=>simp [intOf];omega
     | false=>
      have HR:=Hd (show nextRisky (s.data.toList.drop (k+1))=false by rw [HD2.out];exact hr);clear hr;go_wp2_with fail;go_roundw
      case rel=>exact⟨k+1,o++[36],by go_num,by omega,Hd (by rw [←HO.out,HDR.out,plainS_cons,HR.out,List.append_assoc];rfl),Hd (by rw [←List.append_assoc];exact HW.out),HB⟩
      case measure=>simp [intOf];omega
    ·have p2:¬(k:Int)+1<(s.size:Int):=by omega
     have HR:=Hd (show nextRisky (s.data.toList.drop (k+1))=false by rw [List.drop_eq_nil_of_le (by rw [←Lib.size_eq];omega)];rfl);go_wp2_with fail;go_still_tail 6,(by kernel_rfl);change wpList _ _ _ _ _ wr.drew;go_wp2_with fail;refine (byte_k B b _ q 36 _ (HW.out.below ((Keeps.refl _ _).drew)) (by omega) (Nat.le_trans hBw HB.out.size)).mono ?_;rintro e w2 ⟨rfl,hw2,hb2⟩;replace HW:=Hd hw2;replace HB:=Hd (HB.out.trans ((Wk.drew (Wk.refl B b wr)).trans hb2))
     clear hw2 hb2;go_wp2_with fail;go_roundw
     case rel=>exact⟨k+1,o++[36],by go_num,by omega,Hd (by rw [←HO.out,HDR.out,plainS_cons,HR.out,List.append_assoc];rfl),Hd (by rw [←List.append_assoc];exact HW.out),HB⟩
     case measure=>simp [intOf];omega
   ·have t0:((x.toNat:Int)==36)=false:=u8Ne (k:=36) (by decide) hx36;go_wp2_with fail;go_still_tail 6,(by kernel_rfl);change wpList _ _ _ _ _ wr.drew;go_wp2_with fail;refine (byte_k B b _ q x _ (HW.out.below ((Keeps.refl _ _).drew)) (by omega) (Nat.le_trans hBw HB.out.size)).mono ?_;rintro e w2 ⟨rfl,hw2,hb2⟩;replace HW:=Hd hw2;replace HB:=Hd (HB.out.trans ((Wk.drew (Wk.refl B b wr)).trans hb2));clear hw2 hb2
    go_wp2_with fail;go_roundw
    case rel=>exact⟨k+1,o++[x],by go_num,by omega,Hd (by rw [←HO.out,HDR.out,plainS_cons,show (x==36)=false from beq_eq_false_iff_ne.2 hx36,List.append_assoc];rfl),Hd (by rw [←List.append_assoc];exact HW.out),HB⟩
    case measure=>simp [intOf];omega
  ·obtain rfl:k=s.size:=by omega
   have p1:¬(s.size:Int)<(s.size:Int):=by omega
   go_wp2_with fail;go_end0;refine⟨rfl,?_,HB.out⟩;have h9:=HO.out;rw [List.drop_eq_nil_of_le (by rw [←Lib.size_eq];exact Nat.le_refl _),show plainS []=[] from rfl,List.append_nil] at h9;rw [←h9];exact HW.out
theorem quoQ_k (B b:Nat) (l:List UInt8) (s:ByteArray) (w:World) (h:Wr w B b l true) (hlen:l.length+2*s.size≤1000000) (hBw:B≤w.heap.size) :
 Calls Tryz.prog 49 #[.pointer (some ⟨b,0,none⟩),.string s] w fun e w'=>e=.returned (.tuple #[])∧Wr w' B b (l++quoQ s.data.toList) true∧Wk B b w w':=by
 have c2:=h.flag;have HW0:=Lib.hid h;clear h;go_enter Tryz.func49,Tryz.ntmps49;go_wp2_with fail;go_loopw [20] (fun k' wr=>∃(k:Nat) (o:Bs),k'=.int .i64 k∧k≤s.size∧Hid (o++quoQ (s.data.toList.drop k)=quoQ s.data.toList)∧Hid (Wr wr B b (l++o) true)∧Hid (Wk B b w wr)) (fun k' _=>s.size - (intOf k').toNat)
 case atStart=>exact⟨0,[],rfl,Nat.zero_le _,Hd rfl,by simpa using HW0,Hd (Wk.refl _ _ _)⟩
 case round=>
  obtain⟨k,o,rfl,hk,HO,HW,HB⟩:=hrel;have hol:o.length≤2*s.size:=by
   have h1:=congrArg List.length HO.out;rw [List.length_append] at h1;have h2:=quoQ_le s.data.toList;rw [←Lib.size_eq] at h2;omega
  by_cases hlt:k<s.size
  ·have p1:(k:Int)<(s.size:Int):=by omega
   obtain⟨x,hx⟩:∃x,x=byteAt s k:=⟨_,rfl⟩;have hdr:=drop_byte hlt;rw [←hx] at hdr;have HDR:=Hd hdr;have hlx:(l++o++[92]).length≤1000001:=by simp only [List.length_append,List.length_singleton];omega
   have hll:(l++o).length≤1000000:=by simp only [List.length_append];omega
   have ei:=byteAt_in hlt;rw [←hx] at ei;clear hdr hx;have HE:=Hd (esc_in x);have HI:=Hd (show ∀w,Calls Tryz.prog 78 #[.string ⟨#[36,34,92,96]⟩,.int .u8 (x.toNat:Nat)] w fun e w'=>e=.returned (.int .i64 (Lib.indexByte [36,34,92,96] x))∧w'=w from fun w=>by
    have:=Tryz.strings_IndexByte ⟨#[36,34,92,96]⟩ (x.toNat:Nat) w;rw [show ((x.toNat:Nat):Int).toNat.toUInt8=x by simp] at this;exact this)
   obtain⟨z,hz⟩:∃z,z=Lib.indexByte [36,34,92,96] x:=⟨_,rfl⟩;rw [←hz] at HE HI;clear hz;cases he:escB x with
   | true=>
    have HX:=Hd he;have p2:0≤z:=by have:=HE.out;rw [he] at this;simpa using this
    clear he;go_wp2_with fail;refine (HI.out _).mono ?_;rintro e w1 ⟨rfl,rfl⟩;go_wp2_with fail;refine (byte_k B b _ true 92 _ (HW.out.below (Keeps.refl _ _)) (by omega) (Nat.le_trans hBw HB.out.size)).mono ?_;rintro e w2 ⟨rfl,hw9,hb9⟩;replace HW:=Hd hw9;replace HB:=Hd (HB.out.trans hb9);clear hw9 hb9;go_wp2_with fail;go_still_tail 6,(by kernel_rfl);change wpList _ _ _ _ _ w2.drew;go_wp2_with fail;refine (byte_k B b _ true x _ (HW.out.below ((Keeps.refl _ _).drew)) (by omega) (Nat.le_trans hBw HB.out.size)).mono ?_
    rintro e w3 ⟨rfl,hw9,hb9⟩;replace HW:=Hd hw9;replace HB:=Hd (HB.out.trans ((Wk.drew (Wk.refl B b w2)).trans hb9));clear hw9 hb9;go_wp2_with fail;go_roundw
    case rel=>exact⟨k+1,o++[92]++[x],by go_num,by omega,Hd (by rw [←HO.out,HDR.out,quoQ_cons,HX.out,List.append_assoc,List.append_assoc];rfl),Hd (by rw [←List.append_assoc,←List.append_assoc];exact HW.out),HB⟩
    case measure=>simp [intOf];omega
   | false=>
    have HX:=Hd he;have p2:¬0≤z:=by have:=HE.out;rw [he] at this;simpa using this
    clear he;go_wp2_with fail;refine (HI.out _).mono ?_;rintro e w1 ⟨rfl,rfl⟩;go_wp2_with fail;go_still_tail 6,(by kernel_rfl);change wpList _ _ _ _ _ w1.drew;go_wp2_with fail;refine (byte_k B b _ true x _ (HW.out.below ((Keeps.refl _ _).drew)) (by omega) (Nat.le_trans hBw HB.out.size)).mono ?_;rintro e w2 ⟨rfl,hw9,hb9⟩;replace HW:=Hd hw9;replace HB:=Hd (HB.out.trans ((Wk.drew (Wk.refl B b w1)).trans hb9))
    clear hw9 hb9;go_wp2_with fail;go_roundw
    case rel=>exact⟨k+1,o++[x],by go_num,by omega,Hd (by rw [←HO.out,HDR.out,quoQ_cons,HX.out,List.append_assoc];rfl),Hd (by rw [←List.append_assoc];exact HW.out),HB⟩
    case measure=>simp [intOf];omega
  ·obtain rfl:k=s.size:=by omega
   have p1:¬(s.size:Int)<(s.size:Int):=by omega
   go_wp2_with fail;go_end0;refine⟨rfl,?_,HB.out⟩;have h9:=HO.out;rw [List.drop_eq_nil_of_le (by rw [←Lib.size_eq];exact Nat.le_refl _),show quoQ []=[] from rfl,List.append_nil] at h9;rw [←h9];exact HW.out
theorem quoU_k (B b:Nat) (l s:List UInt8) (m:Int) (w:World) (h:Wr w B b l false) (hq:QuoteOK s) (hm:w.cell? ⟨0,0,none⟩=some (.int .i64 m)) (hlen:l.length+(quoteS s).length≤1000000) (hBw:B≤w.heap.size) :
 Calls Tryz.prog 49 #[.pointer (some ⟨b,0,none⟩),.string ⟨s.toArray⟩] w fun e w'=>e=.returned (.tuple #[])∧Wr w' B b (l++quoteS s) false∧Wk B b w w':=by
 have c2:=h.flag;have hlt:=h.lt;obtain⟨S,hS⟩:∃S:ByteArray,S=⟨s.toArray⟩:=⟨_,rfl⟩;have hsl:S.data.toList=s:=by rw [hS]
 have hss:S.size=s.length:=by rw [Lib.size_eq,hsl]
 have h1:=hq.1;have h2:=hq.2;have hR:=fun w hm=>Tryz.strings_ReplaceAll S ⟨#[39]⟩ ⟨#[39,92,39,39]⟩ m w (by omega) hm (by decide) (by rw [hss,hS];show s.length+Lib.countB _ _*4≤_;omega);rw [hsl] at hR;rw [←hS];obtain⟨R,hRe⟩:∃R:ByteArray,R=⟨(Lib.replaceAll s [39] [39,92,39,39]).toArray⟩:=⟨_,rfl⟩;have hRs:R.size+2=(quoteS s).length:=by rw [Lib.size_eq,hRe];simp [quoteS]
 have hR9:R.size≤100000:=by omega
 have hq1:(⟨#[39]⟩:ByteArray).size=1:=rfl;have HRS:=Hd (show ([39]:List UInt8)++R.data.toList++[39]=quoteS s by rw [hRe];rfl);have HR:=Hd (show ∀w,w.cell? ⟨0,0,none⟩=some (.int .i64 m)→Calls Tryz.prog 77 #[.string S,.string ⟨#[39]⟩,.string ⟨#[39,92,39,39]⟩] w (fun e w'=>e=.returned (.string R)∧Below w.heap.size w w') by rw [hRe];exact fun w hm=>hR w hm);have HW:=Lib.hid h;have HM:=Hd hm;clear h hm hR hRe hS hsl hss hq
 go_enter Tryz.func49,Tryz.ntmps49;go_wp2_with fail;go_region_with (first
  | (go_at_call 77;refine (HR.out w.drew (show w.drew.cell? _=_ from HM.out)).mono ?_;rintro e w1 ⟨rfl,hb1⟩;have hk1:=Keeps.of_below hb1 (fun _=>False);have HW1:=Hd (HW.out.below (((Keeps.refl (fun _=>False) w).drew).trans hk1 (fun _ _ h=>h)));have HB1:=Hd ((Wk.drew (Wk.refl B b w)).trans (Keeps.mono (Keeps.of_below hb1 (fun _=>False)) (fun _ _ h=>h.elim)));have HL:=Hd (HB1.out.size);clear hb1 hk1)
  | (go_at_call 26;refine (str_k B b l false _ _ HW1.out (by simp [ByteArray.size_append,show (⟨#[39]⟩:ByteArray).size=1 from rfl];omega) (Nat.le_trans hBw HL.out)).mono ?_;rintro e w2 ⟨rfl,hw2,hb2⟩;have HW2:=Hd hw2;have HB2:=Hd (HB1.out.trans hb2);clear hw2 hb2))
 go_wp2_with fail;refine bodyPost_ret (v:=.tuple #[]) (by simp [results,Tryz.results49,go_sem]) rfl ?_;refine⟨rfl,?_,HB2.out⟩;have h9:=HW2.out;rw [show (({ data:=#[39] }:ByteArray)++R++{ data:=#[39] }).data.toList=quoteS s by rw [←HRS.out];simp] at h9;exact h9
theorem quote_k (B b:Nat) (l s:List UInt8) (q:Bool) (m:Int) (w:World) (h:Wr w B b l q) (hs:s.length≤20000) (hm:w.cell? ⟨0,0,none⟩=some (.int .i64 m)) (hlen:l.length≤500000) (hBw:B≤w.heap.size) :
 Calls Tryz.prog 49 #[.pointer (some ⟨b,0,none⟩),.string ⟨s.toArray⟩] w fun e w'=>e=.returned (.tuple #[])∧Wr w' B b (l++(if q then quoQ s else quoU s)) q∧Wk B b w w':=by
 cases q with
 | true=>exact quoQ_k B b l ⟨s.toArray⟩ w h (by show l.length+2*s.toArray.size≤_;rw [List.size_toArray];omega) hBw
 | false=>
  have h1:=quoU_k B b l s m w h (quote_ok hs) hm (by rw [quoteS_U];have:=quoU_le s;omega) hBw;rw [quoteS_U] at h1;exact h1
theorem sixRec {w:World} {b:Nat} {a0 a1 a2 a3 a4 a5:Value} {T:TypeId} (h:w.heap[b]? = some (.cells #[a0,a1,a2,a3,a4,a5] T (0,0))) :
 w.cell? ⟨b,0,none⟩=some a0∧w.cell? ⟨b,1,none⟩=some a1∧w.cell? ⟨b,2,none⟩=some a2∧w.cell? ⟨b,3,none⟩=some a3∧w.cell? ⟨b,4,none⟩=some a4∧w.cell? ⟨b,5,none⟩=some a5:=by
 refine⟨?_,?_,?_,?_,?_,?_⟩<;>(rw [Lib.cell_of_heap h];rfl)
theorem var_plain (B b:Nat) (l t n o S:Bs) (q pq:Bool) (k:Int) (xa:Option Addr) (xl xc:Nat) (w:World) (h:Wr w B b l q) (M:Nat) (hM:M≤400000) (hlen:l.length+n.length+o.length+S.length+3≤M) (hBw:B≤w.heap.size)
 (h76:o≠[76]) (h37:o≠[37]) (h35:o≠[35])
 (hP:∀W acc,Wr W B b acc q→Wk B b w W→acc.length+S.length≤M→Calls Tryz.prog 27 #[.pointer (some ⟨b,0,none⟩),.slice xa xl xc] W fun e w'=>e=.returned (.tuple #[])∧Wr w' B b (acc++S) q∧Wk B b W w') :
 Calls Tryz.prog 79 #[.pointer (some ⟨b,0,none⟩),.agg #[.int .i64 k,.string ⟨t.toArray⟩,.string ⟨n.toArray⟩,.string ⟨o.toArray⟩,.slice xa xl xc,.bool pq]] w fun e w'=>e=.returned (.tuple #[])∧Wr w' B b (l++36::123::(n++(o++(S++[125])))) q∧Wk B b w w':=by
 have HW0:=Lib.hid h;have HP:=Hd hP;have hblt:=h.lt;obtain⟨N,hN⟩:∃N:ByteArray,N=⟨n.toArray⟩:=⟨_,rfl⟩;have hNl:N.data.toList=n:=by rw [hN]
 have hNs:N.size=n.length:=by rw [Lib.size_eq,hNl]
 have HN:=Hd hNl;obtain⟨O,hO⟩:∃O:ByteArray,O=⟨o.toArray⟩:=⟨_,rfl⟩;have hOl:O.data.toList=o:=by rw [hO]
 have hOs:O.size=o.length:=by rw [Lib.size_eq,hOl]
 have HO:=Hd hOl;have hne:∀z:UInt8,o≠[z]→(O.toList==[z])=false:=fun z hz=>ba_not (by rw [hOl];exact hz);have e76:=hne 76 h76;have e37:=hne 37 h37;have e35:=hne 35 h35;have s3:(⟨#[36,123]⟩:ByteArray).size=2:=rfl;have hN9:N.size≤400000:=by omega
 have hO9:O.size≤400000:=by omega
 rw [←hN,←hO];clear h hP hN hNl hO hOl hne h76 h37 h35;go_enter Tryz.func79,Tryz.ntmps79;go_wp2_with fail;have HKW:=Hd (show Keeps (fun _=>False) w (w.alloc (.cells #[.int .i64 k,.string ⟨t.toArray⟩,.string N,.string O,.slice xa xl xc,.bool pq] 67)) from (Keeps.refl _ _).alloc _);have HBW:=Hd (show Wk B b w (w.alloc (.cells #[.int .i64 k,.string ⟨t.toArray⟩,.string N,.string O,.slice xa xl xc,.bool pq] 67)) from (Wk.refl B b w).alloc _)
 have hrec:=heap_alloc_new w (.cells #[.int .i64 k,.string ⟨t.toArray⟩,.string N,.string O,.slice xa xl xc,.bool pq] 67);obtain⟨c0,c1,c2,c3,c4,c5⟩:=sixRec hrec;have HR:=Hd hrec;clear hrec;generalize w.alloc (.cells #[.int .i64 k,.string ⟨t.toArray⟩,.string N,.string O,.slice xa xl xc,.bool pq] 67)=W at HKW HBW HR c0 c1 c2 c3 c4 c5 ⊢;go_region_with (go_at_call 26;refine (str_k B b l q _ _ (HW0.out.below (HKW.out.trans ((Keeps.refl _ W).drew) (fun _ _ h=>h))) (by simp only [ByteArray.size_append,s3];omega) (Nat.le_trans hBw HKW.out.size)).mono ?_;rintro e w2 ⟨rfl,hw2,hb2⟩;have HW:=Hd hw2;have HB:=Hd (HBW.out.trans (((Wk.refl B b W).drew).trans hb2));have HR2:=Hd (((Wk.refl B b W).drew.trans hb2).heap HR.out (by omega) (fun cs fr e=>by injection e with _ e2 _;exact absurd e2 (by decide)));clear hw2 hb2)
 all_goals obtain⟨d0,d1,d2,d3,d4,d5⟩:=sixRec HR2.out
 all_goals clear c0 c1 c2 c3 c4 c5
 all_goals go_wp2_with fail
 all_goals go_quiet (fail)
 all_goals go_wp2_with fail
 all_goals refine (HP.out _ _ (HW.out.below ((Keeps.refl _ _).drewN _)) (HB.out.trans (Keeps.drewN (Keeps.refl _ _) _)) (by simp only [List.length_append,ByteArray.data_append,Array.toList_append,HN.out,HO.out,List.length_cons,List.length_nil];omega)).mono ?_
 all_goals rintro e w3 ⟨rfl,hw3,hb3⟩
 all_goals have HW3:=Hd hw3
 all_goals have HB3:=Hd ((HB.out.trans (Keeps.drewN (Keeps.refl _ _) _)).trans hb3)
 all_goals clear hw3 hb3
 all_goals go_wp2_with fail
 all_goals refine (byte_k B b _ q 125 _ HW3.out (by simp only [List.length_append,ByteArray.data_append,Array.toList_append,HN.out,HO.out,List.length_cons,List.length_nil];omega) (Nat.le_trans hBw HB3.out.size)).mono ?_
 all_goals rintro e w4 ⟨rfl,hw4,hb4⟩
 all_goals have HW4:=Hd hw4
 all_goals have HB4:=Hd (HB3.out.trans hb4)
 all_goals clear hw4 hb4
 all_goals go_wp2_with fail
 all_goals go_end0
 all_goals refine⟨rfl,?_,HB4.out⟩
 all_goals have h9:=HW4.out
 all_goals rw [show ((⟨#[36,123]⟩:ByteArray)++N++O).data.toList=36::123::(n++o) by rw [←HN.out,←HO.out];simp] at h9
 all_goals simpa using h9
theorem var_long_k (B b:Nat) (l t n:Bs) (q pq:Bool) (k:Int) (xa:Option Addr) (xl xc:Nat) (w:World) (h:Wr w B b l q) (hlen:l.length+n.length≤1000000) (hBw:B≤w.heap.size) :
 Calls Tryz.prog 79 #[.pointer (some ⟨b,0,none⟩),.agg #[.int .i64 k,.string ⟨t.toArray⟩,.string ⟨n.toArray⟩,.string ⟨#[76]⟩,.slice xa xl xc,.bool pq]] w fun e w'=>e=.returned (.tuple #[])∧Wr w' B b (l++36::123::35::(n++[125])) q∧Wk B b w w':=by
 have HW0:=Lib.hid h;obtain⟨N,hN⟩:∃N:ByteArray,N=⟨n.toArray⟩:=⟨_,rfl⟩;have hNl:N.data.toList=n:=by rw [hN]
 have hNs:N.size=n.length:=by rw [Lib.size_eq,hNl]
 have HN:=Hd hNl;have s3:(⟨#[36,123,35]⟩:ByteArray).size=3:=rfl;have s1:(⟨#[125]⟩:ByteArray).size=1:=rfl;have hN9:N.size≤1000000:=by omega
 rw [←hN];clear h hN hNl;go_enter Tryz.func79,Tryz.ntmps79;go_wp2_with fail;have HKW:=Hd (show Keeps (fun _=>False) w (w.alloc (.cells #[.int .i64 k,.string ⟨t.toArray⟩,.string N,.string ⟨#[76]⟩,.slice xa xl xc,.bool pq] 67)) from (Keeps.refl _ _).alloc _);have HBW:=Hd (show Wk B b w (w.alloc (.cells #[.int .i64 k,.string ⟨t.toArray⟩,.string N,.string ⟨#[76]⟩,.slice xa xl xc,.bool pq] 67)) from (Wk.refl B b w).alloc _)
 have c2:(w.alloc (.cells #[.int .i64 k,.string ⟨t.toArray⟩,.string N,.string ⟨#[76]⟩,.slice xa xl xc,.bool pq] 67)).cell? ⟨w.heap.size,2,none⟩=some (.string N):=by rw [Lib.cell_of_heap (heap_alloc_new w _)];rfl
 generalize w.alloc (.cells #[.int .i64 k,.string ⟨t.toArray⟩,.string N,.string ⟨#[76]⟩,.slice xa xl xc,.bool pq] 67)=W at HKW HBW c2 ⊢;go_region_with (go_at_call 26;refine (str_k B b l q _ _ (HW0.out.below (HKW.out.trans ((Keeps.refl _ W).drew) (fun _ _ h=>h))) (by simp only [ByteArray.size_append,s3,s1];omega) (Nat.le_trans hBw HKW.out.size)).mono ?_;rintro e w2 ⟨rfl,hw2,hb2⟩;have HW:=Hd hw2;have HB:=Hd (HBW.out.trans (((Wk.refl B b W).drew).trans hb2));clear hw2 hb2)
 go_wp2_with fail;refine bodyPost_ret (v:=.tuple #[]) (by simp [results,Tryz.results79,go_sem]) rfl ?_;refine⟨rfl,?_,HB.out⟩;have h9:=HW.out;rw [show ((⟨#[36,123,35]⟩:ByteArray)++N++⟨#[125]⟩).data.toList=36::123::35::(n++[125]) by rw [←HN.out];simp] at h9;exact h9
end Go.Proofs.YtiihpbccabeoeaaGreatDoor
