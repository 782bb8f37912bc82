/- The walk: a part. -/
import Derived.Test.YtiihpbccabeoeaaGreatDoorWPwD
import Derived.Test.YtiihpbccabeoeaaGreatDoorWPrA
import Derived.Test.YtiihpbccabeoeaaGreatDoorWPsA
namespace Go.Proofs.YtiihpbccabeoeaaGreatDoor
open Go.RowKit
set_option linter.unusedVariables false
set_option maxRecDepth 100000
set_option maxHeartbeats 16000000
theorem Wr.rec {w:World} {B b:Nat} {l:List UInt8} {q:Bool} (h:Wr w B b l q):∃p v,w.heap[b]? = some (.cells #[p,v,.bool q] 65 (0,0)):=by
 rcases h with ⟨_,v,hb,_⟩ | ⟨_,v,hb,_⟩<;>exact⟨_,v,hb⟩
theorem Wr.turn {w:World} {B b:Nat} {l:List UInt8} {q:Bool} (h:Wr w B b l q) (p:Bool):Wr (w.setCell ⟨b,2,none⟩ (.bool p)) B b l p:=by
 have key:∀pv,qD w B b pv l q→qD (w.setCell ⟨b,2,none⟩ (.bool p)) B b pv l p:=fun pv h=>by
  obtain⟨hB,v,hb,hown⟩:=h;have hne:=A3 hb hown;refine⟨hB,v,?_,?_⟩
  ·simp [World.setCell,Array.getElem?_modify,hb]
  ·exact hown.kept (row:=some b) ⟨rfl,rfl,rfl,by simp [World.setCell],fun k _ hk=>Below.heap_setCell _ _ _ _ (fun e=>hk (by simp [e]))⟩ (Or.inr hne)
 exact h.imp (key _) (key _)
theorem Pn (B b:Nat) (l:Bs) (T N O:ByteArray) (xa:OA) (xl xc:Nat) (w:World) (h:Wr w B b l false) (hBw:B≤w.heap.size) (hlen:l.length+T.size≤400000) :
 Calls Tryz.prog 50 #[.pointer (some ⟨b,0,none⟩),.agg #[.int .i64 4,.string T,.string N,.string O,.slice xa xl xc,.bool true]] w fun e w'=>e=.returned (.tuple #[])∧Wr w' B b (l++34::(36::40::40::(T.data.toList++[41,41])++[34])) false∧Wk B b w w':=by
 have HW0:=Lib.hid h;have hblt:=h.lt;have hBb:=h.le;clear h;obtain⟨W,hW⟩:∃W,W=w.alloc (.cells #[.int .i64 4,.string T,.string N,.string O,.slice xa xl xc,.bool true] 67):=⟨_,rfl⟩;have HKW:=Hd (show K0 w W by rw [hW];exact (aB.refl _ _).alloc _);have HBW:=Hd (show Wk B b w W by rw [hW];exact (Wk.refl B b w).alloc _);have HR:=Hd (show W.heap[w.heap.size]? = some (.cells #[.int .i64 4,.string T,.string N,.string O,.slice xa xl xc,.bool true] 67 (0,0)) by rw [hW];exact heap_alloc_new w _)
 have HWE:=Hd hW;clear hW;obtain⟨R,hRe⟩:∃R,R=w.heap.size:=⟨_,rfl⟩;have hbR:b≠R:=by omega
 have hRb:R≠b:=by omega
 have HRB:=Hd hRe;rw [←hRe] at HR;clear hRe;go_enter Tryz.func50,Tryz.ntmps50;go_upto_region 1 with fail;rw [←HWE.o,←HRB.o];obtain⟨c0,c1,c2,c3,c4,c5⟩:=cO HR.o;have HW1:=Hd (HW0.o.below HKW.o);obtain⟨pv,vv,hrec⟩:=HW1.o.rec;have d2:W.cell? ⟨b,2,none⟩=some (.bool false):=HW1.o.flag;have f2:W.frozen? ⟨b,2,none⟩=false:=Lib.frozen_of_heap hrec 2;go_wp2_with fail;clear hrec;refine (fY B b _ false 34 _ HW1.o (by omega) (Nat.le_trans hBw HKW.o.size)).mono ?_
 rintro e w2 ⟨rfl,hw2,hb2⟩;have HR2:=Hd (hb2.heap HR.o hRb (fun cs fr e=>by injection e with _ e2 _;exact absurd e2 (by decide)));have HB2:=Hd (HBW.o.trans hb2);have HW2:=Hd hw2;clear c0 c1 c2 c3 c4 c5 d2 f2 hb2 hw2;obtain⟨c0,c1,c2,c3,c4,c5⟩:=cO HR2.o;obtain⟨pv2,vv2,hrec⟩:=HW2.o.rec;have d2:w2.cell? ⟨b,2,none⟩=some (.bool false):=HW2.o.flag;have f2:w2.frozen? ⟨b,2,none⟩=false:=Lib.frozen_of_heap hrec 2
 clear hrec;obtain⟨V,hV⟩:∃V,V=w2.setCell ⟨b,2,none⟩ (.bool true):=⟨_,rfl⟩;have HVE:=Hd hV;have HWV:=Hd (show Wr V B b (l++[34]) true by rw [hV];exact HW2.o.turn true);have HBV:=Hd (show Wk B b w V by rw [hV];exact HB2.o.trans (aB.setCell (aB.refl _ _) ⟨b,2,none⟩ _ (fun _=>⟨hBb,.inl rfl⟩)));have HRV:=Hd (show V.heap[R]? = some (.cells #[.int .i64 4,.string T,.string N,.string O,.slice xa xl xc,.bool true] 67 (0,0)) by rw [hV];exact (show Wk B b w2 _ from aB.setCell (aB.refl _ _) ⟨b,2,none⟩ _ (fun _=>⟨hBb,.inl rfl⟩)).heap HR2.o hRb (fun cs fr e=>by injection e with _ e2 _;exact absurd e2 (by decide)))
 clear hV;go_upto_region 6 with fail;rw [←HVE.o];clear c0 c1 c2 c3 c4 c5 d2 f2;obtain⟨c0,c1,c2,c3,c4,c5⟩:=cO HRV.o;have s3:(⟨#[36,40,40]⟩:ByteArray).size=3:=rfl;have s1:(⟨#[41,41]⟩:ByteArray).size=2:=rfl;have ht9:T.size≤400000:=by omega
 go_wp2_with fail;go_region_with (go_at_call 26;refine (iS B b (l++[34]) true _ _ (HWV.o.below ((aB.refl _ V).drew)) (by simp only [ByteArray.size_append,s3,s1,lA,lC,lN];omega) (Nat.le_trans hBw HBV.o.size)).mono ?_;rintro e w4 ⟨rfl,hw4,hb4⟩;have HW4:=Hd hw4;have HB4:=Hd (HBV.o.trans (((Wk.refl B b V).drew).trans hb4));clear hw4 hb4)
 all_goals obtain⟨pv4,vv4,hrec4⟩:=HW4.o.rec
 all_goals have d4:w4.cell? ⟨b,2,none⟩=some (.bool true):=HW4.o.flag
 all_goals have f4:w4.frozen? ⟨b,2,none⟩=false:=Lib.frozen_of_heap hrec4 2
 all_goals clear hrec4
 all_goals obtain⟨U,hU⟩:∃U,U=w4.setCell ⟨b,2,none⟩ (.bool false):=⟨_,rfl⟩
 all_goals have HWU:=Hd (show Wr U B b ((l++[34])++((⟨#[36,40,40]⟩:ByteArray)++T++⟨#[41,41]⟩).data.toList) false by rw [hU];exact HW4.o.turn false)
 all_goals have HBU:=Hd (show Wk B b w U by rw [hU];exact HB4.o.trans (aB.setCell (aB.refl _ _) ⟨b,2,none⟩ _ (fun _=>⟨hBb,.inl rfl⟩)))
 all_goals have HUE:=Hd hU
 all_goals clear hU
 all_goals go_upto_region 14 with fail
 all_goals rw [←HUE.o]
 all_goals go_wp2_with fail
 all_goals refine (fY B b _ false 34 _ HWU.o (by simp only [ByteArray.data_append,Array.toList_append,lA,lC,lN,←Lib.size_eq];omega) (Nat.le_trans hBw HBU.o.size)).mono ?_
 all_goals rintro e w5 ⟨rfl,hw5,hb5⟩
 all_goals have HW5:=Hd hw5
 all_goals have HB5:=Hd (HBU.o.trans hb5)
 all_goals clear hw5 hb5
 all_goals go_wp2_with fail
 all_goals go_end0
 all_goals refine⟨rfl,?_,HB5.o⟩
 all_goals have h9:=HW5.o
 all_goals simpa using h9
theorem Pm (B b:Nat) (l:Bs) (T N O:ByteArray) (xa:OA) (xl xc:Nat) (w:World) (h:Wr w B b l true) (hBw:B≤w.heap.size) (hlen:l.length+T.size≤400000) :
 Calls Tryz.prog 50 #[.pointer (some ⟨b,0,none⟩),.agg #[.int .i64 4,.string T,.string N,.string O,.slice xa xl xc,.bool true]] w fun e w'=>e=.returned (.tuple #[])∧Wr w' B b (l++36::40::40::(T.data.toList++[41,41])) true∧Wk B b w w':=by
 have HW0:=Lib.hid h;have hblt:=h.lt;have hBb:=h.le;clear h;obtain⟨W,hW⟩:∃W,W=w.alloc (.cells #[.int .i64 4,.string T,.string N,.string O,.slice xa xl xc,.bool true] 67):=⟨_,rfl⟩;have HKW:=Hd (show K0 w W by rw [hW];exact (aB.refl _ _).alloc _);have HBW:=Hd (show Wk B b w W by rw [hW];exact (Wk.refl B b w).alloc _);have HR:=Hd (show W.heap[w.heap.size]? = some (.cells #[.int .i64 4,.string T,.string N,.string O,.slice xa xl xc,.bool true] 67 (0,0)) by rw [hW];exact heap_alloc_new w _)
 have HWE:=Hd hW;clear hW;obtain⟨R,hRe⟩:∃R,R=w.heap.size:=⟨_,rfl⟩;have hbR:b≠R:=by omega
 have hRb:R≠b:=by omega
 have HRB:=Hd hRe;rw [←hRe] at HR;clear hRe;go_enter Tryz.func50,Tryz.ntmps50;go_upto_region 1 with fail;rw [←HWE.o,←HRB.o];obtain⟨c0,c1,c2,c3,c4,c5⟩:=cO HR.o;have HW1:=Hd (HW0.o.below HKW.o);obtain⟨pv,vv,hrec⟩:=HW1.o.rec;have d2:W.cell? ⟨b,2,none⟩=some (.bool true):=HW1.o.flag;have f2:W.frozen? ⟨b,2,none⟩=false:=Lib.frozen_of_heap hrec 2;clear hrec;obtain⟨V,hV⟩:∃V,V=W.setCell ⟨b,2,none⟩ (.bool true):=⟨_,rfl⟩
 have HVE:=Hd hV;have HWV:=Hd (show Wr V B b l true by rw [hV];exact HW1.o.turn true);have HBV:=Hd (show Wk B b w V by rw [hV];exact HBW.o.trans (aB.setCell (aB.refl _ _) ⟨b,2,none⟩ _ (fun _=>⟨hBb,.inl rfl⟩)));have HRV:=Hd (show V.heap[R]? = some (.cells #[.int .i64 4,.string T,.string N,.string O,.slice xa xl xc,.bool true] 67 (0,0)) by rw [hV];exact (show Wk B b W _ from aB.setCell (aB.refl _ _) ⟨b,2,none⟩ _ (fun _=>⟨hBb,.inl rfl⟩)).heap HR.o hRb (fun cs fr e=>by injection e with _ e2 _;exact absurd e2 (by decide)))
 clear hV;go_upto_region 6 with fail;rw [←HVE.o];clear c0 c1 c2 c3 c4 c5 d2 f2;obtain⟨c0,c1,c2,c3,c4,c5⟩:=cO HRV.o;have s3:(⟨#[36,40,40]⟩:ByteArray).size=3:=rfl;have s1:(⟨#[41,41]⟩:ByteArray).size=2:=rfl;have ht9:T.size≤400000:=by omega
 go_wp2_with fail;go_region_with (go_at_call 26;refine (iS B b l true _ _ (HWV.o.below ((aB.refl _ V).drew)) (by simp only [ByteArray.size_append,s3,s1];omega) (Nat.le_trans hBw HBV.o.size)).mono ?_;rintro e w4 ⟨rfl,hw4,hb4⟩;have HW4:=Hd hw4;have HB4:=Hd (HBV.o.trans (((Wk.refl B b V).drew).trans hb4));clear hw4 hb4)
 all_goals obtain⟨pv4,vv4,hrec4⟩:=HW4.o.rec
 all_goals have d4:w4.cell? ⟨b,2,none⟩=some (.bool true):=HW4.o.flag
 all_goals have f4:w4.frozen? ⟨b,2,none⟩=false:=Lib.frozen_of_heap hrec4 2
 all_goals clear hrec4
 all_goals obtain⟨U,hU⟩:∃U,U=w4.setCell ⟨b,2,none⟩ (.bool true):=⟨_,rfl⟩
 all_goals have HWU:=Hd (show Wr U B b (l++((⟨#[36,40,40]⟩:ByteArray)++T++⟨#[41,41]⟩).data.toList) true by rw [hU];exact HW4.o.turn true)
 all_goals have HBU:=Hd (show Wk B b w U by rw [hU];exact HB4.o.trans (aB.setCell (aB.refl _ _) ⟨b,2,none⟩ _ (fun _=>⟨hBb,.inl rfl⟩)))
 all_goals have HUE:=Hd hU
 all_goals clear hU
 all_goals go_upto_region 14 with fail
 all_goals rw [←HUE.o]
 all_goals go_wp2_with fail
 all_goals go_end0
 all_goals refine⟨rfl,?_,HBU.o⟩
 all_goals have h9:=HWU.o
 all_goals simpa using h9
theorem P6 (B b:Nat) (l:Bs) (q:Bool) (T N O:ByteArray) (xa:OA) (xl xc:Nat) (w:World) (h:Wr w B b l q) (hBw:B≤w.heap.size) (hlen:l.length+T.size≤400000) :
 Calls Tryz.prog 50 #[.pointer (some ⟨b,0,none⟩),.agg #[.int .i64 4,.string T,.string N,.string O,.slice xa xl xc,.bool false]] w fun e w'=>e=.returned (.tuple #[])∧Wr w' B b (l++36::40::40::(T.data.toList++[41,41])) q∧Wk B b w w':=by
 have HW0:=Lib.hid h;have hblt:=h.lt;have hBb:=h.le;clear h;obtain⟨W,hW⟩:∃W,W=w.alloc (.cells #[.int .i64 4,.string T,.string N,.string O,.slice xa xl xc,.bool false] 67):=⟨_,rfl⟩;have HKW:=Hd (show K0 w W by rw [hW];exact (aB.refl _ _).alloc _);have HBW:=Hd (show Wk B b w W by rw [hW];exact (Wk.refl B b w).alloc _);have HR:=Hd (show W.heap[w.heap.size]? = some (.cells #[.int .i64 4,.string T,.string N,.string O,.slice xa xl xc,.bool false] 67 (0,0)) by rw [hW];exact heap_alloc_new w _)
 have HWE:=Hd hW;clear hW;obtain⟨R,hRe⟩:∃R,R=w.heap.size:=⟨_,rfl⟩;have hbR:b≠R:=by omega
 have hRb:R≠b:=by omega
 have HRB:=Hd hRe;rw [←hRe] at HR;clear hRe;go_enter Tryz.func50,Tryz.ntmps50;go_upto_region 1 with fail;rw [←HWE.o,←HRB.o];obtain⟨c0,c1,c2,c3,c4,c5⟩:=cO HR.o;have HW1:=Hd (HW0.o.below HKW.o);obtain⟨pv,vv,hrec⟩:=HW1.o.rec;have d2:W.cell? ⟨b,2,none⟩=some (.bool q):=HW1.o.flag;have f2:W.frozen? ⟨b,2,none⟩=false:=Lib.frozen_of_heap hrec 2;clear hrec;obtain⟨V,hV⟩:∃V,V=W.setCell ⟨b,2,none⟩ (.bool false):=⟨_,rfl⟩
 have HVE:=Hd hV;have HWV:=Hd (show Wr V B b l false by rw [hV];exact HW1.o.turn false);have HBV:=Hd (show Wk B b w V by rw [hV];exact HBW.o.trans (aB.setCell (aB.refl _ _) ⟨b,2,none⟩ _ (fun _=>⟨hBb,.inl rfl⟩)));have HRV:=Hd (show V.heap[R]? = some (.cells #[.int .i64 4,.string T,.string N,.string O,.slice xa xl xc,.bool false] 67 (0,0)) by rw [hV];exact (show Wk B b W _ from aB.setCell (aB.refl _ _) ⟨b,2,none⟩ _ (fun _=>⟨hBb,.inl rfl⟩)).heap HR.o hRb (fun cs fr e=>by injection e with _ e2 _;exact absurd e2 (by decide)))
 clear hV;go_upto_region 6 with fail;rw [←HVE.o];clear c0 c1 c2 c3 c4 c5 d2 f2;obtain⟨c0,c1,c2,c3,c4,c5⟩:=cO HRV.o;have s3:(⟨#[36,40,40]⟩:ByteArray).size=3:=rfl;have s1:(⟨#[41,41]⟩:ByteArray).size=2:=rfl;have ht9:T.size≤400000:=by omega
 go_wp2_with fail;go_region_with (go_at_call 26;refine (iS B b l false _ _ (HWV.o.below ((aB.refl _ V).drew)) (by simp only [ByteArray.size_append,s3,s1];omega) (Nat.le_trans hBw HBV.o.size)).mono ?_;rintro e w4 ⟨rfl,hw4,hb4⟩;have HW4:=Hd hw4;have HB4:=Hd (HBV.o.trans (((Wk.refl B b V).drew).trans hb4));clear hw4 hb4)
 all_goals obtain⟨pv4,vv4,hrec4⟩:=HW4.o.rec
 all_goals have d4:w4.cell? ⟨b,2,none⟩=some (.bool false):=HW4.o.flag
 all_goals have f4:w4.frozen? ⟨b,2,none⟩=false:=Lib.frozen_of_heap hrec4 2
 all_goals clear hrec4
 all_goals obtain⟨U,hU⟩:∃U,U=w4.setCell ⟨b,2,none⟩ (.bool q):=⟨_,rfl⟩
 all_goals have HWU:=Hd (show Wr U B b (l++((⟨#[36,40,40]⟩:ByteArray)++T++⟨#[41,41]⟩).data.toList) q by rw [hU];exact HW4.o.turn q)
 all_goals have HBU:=Hd (show Wk B b w U by rw [hU];exact HB4.o.trans (aB.setCell (aB.refl _ _) ⟨b,2,none⟩ _ (fun _=>⟨hBb,.inl rfl⟩)))
 all_goals have HUE:=Hd hU
 all_goals clear hU
 all_goals go_upto_region 14 with fail
 all_goals rw [←HUE.o]
 all_goals go_wp2_with fail
 all_goals go_end0
 all_goals refine⟨rfl,?_,HBU.o⟩
 all_goals have h9:=HWU.o
 all_goals simpa using h9
theorem Ps (B b:Nat) (l:Bs) (T N O:ByteArray) (xa:OA) (xl xc:Nat) (w:World) (h:Wr w B b l false) (hBw:B≤w.heap.size) (hlen:l.length+T.size≤400000) :
 Calls Tryz.prog 50 #[.pointer (some ⟨b,0,none⟩),.agg #[.int .i64 5,.string T,.string N,.string O,.slice xa xl xc,.bool true]] w fun e w'=>e=.returned (.tuple #[])∧Wr w' B b (l++34::(36::40::(T.data.toList++[41])++[34])) false∧Wk B b w w':=by
 have HW0:=Lib.hid h;have hblt:=h.lt;have hBb:=h.le;clear h;obtain⟨W,hW⟩:∃W,W=w.alloc (.cells #[.int .i64 5,.string T,.string N,.string O,.slice xa xl xc,.bool true] 67):=⟨_,rfl⟩;have HKW:=Hd (show K0 w W by rw [hW];exact (aB.refl _ _).alloc _);have HBW:=Hd (show Wk B b w W by rw [hW];exact (Wk.refl B b w).alloc _);have HR:=Hd (show W.heap[w.heap.size]? = some (.cells #[.int .i64 5,.string T,.string N,.string O,.slice xa xl xc,.bool true] 67 (0,0)) by rw [hW];exact heap_alloc_new w _)
 have HWE:=Hd hW;clear hW;obtain⟨R,hRe⟩:∃R,R=w.heap.size:=⟨_,rfl⟩;have hbR:b≠R:=by omega
 have hRb:R≠b:=by omega
 have HRB:=Hd hRe;rw [←hRe] at HR;clear hRe;go_enter Tryz.func50,Tryz.ntmps50;go_upto_region 1 with fail;rw [←HWE.o,←HRB.o];obtain⟨c0,c1,c2,c3,c4,c5⟩:=cO HR.o;have HW1:=Hd (HW0.o.below HKW.o);obtain⟨pv,vv,hrec⟩:=HW1.o.rec;have d2:W.cell? ⟨b,2,none⟩=some (.bool false):=HW1.o.flag;have f2:W.frozen? ⟨b,2,none⟩=false:=Lib.frozen_of_heap hrec 2;go_wp2_with fail;clear hrec;refine (fY B b _ false 34 _ HW1.o (by omega) (Nat.le_trans hBw HKW.o.size)).mono ?_
 rintro e w2 ⟨rfl,hw2,hb2⟩;have HR2:=Hd (hb2.heap HR.o hRb (fun cs fr e=>by injection e with _ e2 _;exact absurd e2 (by decide)));have HB2:=Hd (HBW.o.trans hb2);have HW2:=Hd hw2;clear c0 c1 c2 c3 c4 c5 d2 f2 hb2 hw2;obtain⟨c0,c1,c2,c3,c4,c5⟩:=cO HR2.o;obtain⟨pv2,vv2,hrec⟩:=HW2.o.rec;have d2:w2.cell? ⟨b,2,none⟩=some (.bool false):=HW2.o.flag;have f2:w2.frozen? ⟨b,2,none⟩=false:=Lib.frozen_of_heap hrec 2
 clear hrec;obtain⟨V,hV⟩:∃V,V=w2.setCell ⟨b,2,none⟩ (.bool true):=⟨_,rfl⟩;have HVE:=Hd hV;have HWV:=Hd (show Wr V B b (l++[34]) true by rw [hV];exact HW2.o.turn true);have HBV:=Hd (show Wk B b w V by rw [hV];exact HB2.o.trans (aB.setCell (aB.refl _ _) ⟨b,2,none⟩ _ (fun _=>⟨hBb,.inl rfl⟩)));have HRV:=Hd (show V.heap[R]? = some (.cells #[.int .i64 5,.string T,.string N,.string O,.slice xa xl xc,.bool true] 67 (0,0)) by rw [hV];exact (show Wk B b w2 _ from aB.setCell (aB.refl _ _) ⟨b,2,none⟩ _ (fun _=>⟨hBb,.inl rfl⟩)).heap HR2.o hRb (fun cs fr e=>by injection e with _ e2 _;exact absurd e2 (by decide)))
 clear hV;go_upto_region 6 with fail;rw [←HVE.o];clear c0 c1 c2 c3 c4 c5 d2 f2;obtain⟨c0,c1,c2,c3,c4,c5⟩:=cO HRV.o;have s3:(⟨#[36,40]⟩:ByteArray).size=2:=rfl;have s1:(⟨#[41]⟩:ByteArray).size=1:=rfl;have ht9:T.size≤400000:=by omega
 go_wp2_with fail;go_region_with (go_at_call 26;refine (iS B b (l++[34]) true _ _ (HWV.o.below ((aB.refl _ V).drew)) (by simp only [ByteArray.size_append,s3,s1,lA,lC,lN];omega) (Nat.le_trans hBw HBV.o.size)).mono ?_;rintro e w4 ⟨rfl,hw4,hb4⟩;have HW4:=Hd hw4;have HB4:=Hd (HBV.o.trans (((Wk.refl B b V).drew).trans hb4));clear hw4 hb4)
 all_goals obtain⟨pv4,vv4,hrec4⟩:=HW4.o.rec
 all_goals have d4:w4.cell? ⟨b,2,none⟩=some (.bool true):=HW4.o.flag
 all_goals have f4:w4.frozen? ⟨b,2,none⟩=false:=Lib.frozen_of_heap hrec4 2
 all_goals clear hrec4
 all_goals obtain⟨U,hU⟩:∃U,U=w4.setCell ⟨b,2,none⟩ (.bool false):=⟨_,rfl⟩
 all_goals have HWU:=Hd (show Wr U B b ((l++[34])++((⟨#[36,40]⟩:ByteArray)++T++⟨#[41]⟩).data.toList) false by rw [hU];exact HW4.o.turn false)
 all_goals have HBU:=Hd (show Wk B b w U by rw [hU];exact HB4.o.trans (aB.setCell (aB.refl _ _) ⟨b,2,none⟩ _ (fun _=>⟨hBb,.inl rfl⟩)))
 all_goals have HUE:=Hd hU
 all_goals clear hU
 all_goals go_upto_region 14 with fail
 all_goals rw [←HUE.o]
 all_goals go_wp2_with fail
 all_goals refine (fY B b _ false 34 _ HWU.o (by simp only [ByteArray.data_append,Array.toList_append,lA,lC,lN,←Lib.size_eq];omega) (Nat.le_trans hBw HBU.o.size)).mono ?_
 all_goals rintro e w5 ⟨rfl,hw5,hb5⟩
 all_goals have HW5:=Hd hw5
 all_goals have HB5:=Hd (HBU.o.trans hb5)
 all_goals clear hw5 hb5
 all_goals go_wp2_with fail
 all_goals go_end0
 all_goals refine⟨rfl,?_,HB5.o⟩
 all_goals have h9:=HW5.o
 all_goals simpa using h9
theorem Pd (B b:Nat) (l:Bs) (T N O:ByteArray) (xa:OA) (xl xc:Nat) (w:World) (h:Wr w B b l true) (hBw:B≤w.heap.size) (hlen:l.length+T.size≤400000) :
 Calls Tryz.prog 50 #[.pointer (some ⟨b,0,none⟩),.agg #[.int .i64 5,.string T,.string N,.string O,.slice xa xl xc,.bool true]] w fun e w'=>e=.returned (.tuple #[])∧Wr w' B b (l++36::40::(T.data.toList++[41])) true∧Wk B b w w':=by
 have HW0:=Lib.hid h;have hblt:=h.lt;have hBb:=h.le;clear h;obtain⟨W,hW⟩:∃W,W=w.alloc (.cells #[.int .i64 5,.string T,.string N,.string O,.slice xa xl xc,.bool true] 67):=⟨_,rfl⟩;have HKW:=Hd (show K0 w W by rw [hW];exact (aB.refl _ _).alloc _);have HBW:=Hd (show Wk B b w W by rw [hW];exact (Wk.refl B b w).alloc _);have HR:=Hd (show W.heap[w.heap.size]? = some (.cells #[.int .i64 5,.string T,.string N,.string O,.slice xa xl xc,.bool true] 67 (0,0)) by rw [hW];exact heap_alloc_new w _)
 have HWE:=Hd hW;clear hW;obtain⟨R,hRe⟩:∃R,R=w.heap.size:=⟨_,rfl⟩;have hbR:b≠R:=by omega
 have hRb:R≠b:=by omega
 have HRB:=Hd hRe;rw [←hRe] at HR;clear hRe;go_enter Tryz.func50,Tryz.ntmps50;go_upto_region 1 with fail;rw [←HWE.o,←HRB.o];obtain⟨c0,c1,c2,c3,c4,c5⟩:=cO HR.o;have HW1:=Hd (HW0.o.below HKW.o);obtain⟨pv,vv,hrec⟩:=HW1.o.rec;have d2:W.cell? ⟨b,2,none⟩=some (.bool true):=HW1.o.flag;have f2:W.frozen? ⟨b,2,none⟩=false:=Lib.frozen_of_heap hrec 2;clear hrec;obtain⟨V,hV⟩:∃V,V=W.setCell ⟨b,2,none⟩ (.bool true):=⟨_,rfl⟩
 have HVE:=Hd hV;have HWV:=Hd (show Wr V B b l true by rw [hV];exact HW1.o.turn true);have HBV:=Hd (show Wk B b w V by rw [hV];exact HBW.o.trans (aB.setCell (aB.refl _ _) ⟨b,2,none⟩ _ (fun _=>⟨hBb,.inl rfl⟩)));have HRV:=Hd (show V.heap[R]? = some (.cells #[.int .i64 5,.string T,.string N,.string O,.slice xa xl xc,.bool true] 67 (0,0)) by rw [hV];exact (show Wk B b W _ from aB.setCell (aB.refl _ _) ⟨b,2,none⟩ _ (fun _=>⟨hBb,.inl rfl⟩)).heap HR.o hRb (fun cs fr e=>by injection e with _ e2 _;exact absurd e2 (by decide)))
 clear hV;go_upto_region 6 with fail;rw [←HVE.o];clear c0 c1 c2 c3 c4 c5 d2 f2;obtain⟨c0,c1,c2,c3,c4,c5⟩:=cO HRV.o;have s3:(⟨#[36,40]⟩:ByteArray).size=2:=rfl;have s1:(⟨#[41]⟩:ByteArray).size=1:=rfl;have ht9:T.size≤400000:=by omega
 go_wp2_with fail;go_region_with (go_at_call 26;refine (iS B b l true _ _ (HWV.o.below ((aB.refl _ V).drew)) (by simp only [ByteArray.size_append,s3,s1];omega) (Nat.le_trans hBw HBV.o.size)).mono ?_;rintro e w4 ⟨rfl,hw4,hb4⟩;have HW4:=Hd hw4;have HB4:=Hd (HBV.o.trans (((Wk.refl B b V).drew).trans hb4));clear hw4 hb4)
 all_goals obtain⟨pv4,vv4,hrec4⟩:=HW4.o.rec
 all_goals have d4:w4.cell? ⟨b,2,none⟩=some (.bool true):=HW4.o.flag
 all_goals have f4:w4.frozen? ⟨b,2,none⟩=false:=Lib.frozen_of_heap hrec4 2
 all_goals clear hrec4
 all_goals obtain⟨U,hU⟩:∃U,U=w4.setCell ⟨b,2,none⟩ (.bool true):=⟨_,rfl⟩
 all_goals have HWU:=Hd (show Wr U B b (l++((⟨#[36,40]⟩:ByteArray)++T++⟨#[41]⟩).data.toList) true by rw [hU];exact HW4.o.turn true)
 all_goals have HBU:=Hd (show Wk B b w U by rw [hU];exact HB4.o.trans (aB.setCell (aB.refl _ _) ⟨b,2,none⟩ _ (fun _=>⟨hBb,.inl rfl⟩)))
 all_goals have HUE:=Hd hU
 all_goals clear hU
 all_goals go_upto_region 14 with fail
 all_goals rw [←HUE.o]
 all_goals go_wp2_with fail
 all_goals go_end0
 all_goals refine⟨rfl,?_,HBU.o⟩
 all_goals have h9:=HWU.o
 all_goals simpa using h9
theorem Pv (B b:Nat) (l:Bs) (q:Bool) (T N O:ByteArray) (xa:OA) (xl xc:Nat) (w:World) (h:Wr w B b l q) (hBw:B≤w.heap.size) (hlen:l.length+T.size≤400000) :
 Calls Tryz.prog 50 #[.pointer (some ⟨b,0,none⟩),.agg #[.int .i64 5,.string T,.string N,.string O,.slice xa xl xc,.bool false]] w fun e w'=>e=.returned (.tuple #[])∧Wr w' B b (l++36::40::(T.data.toList++[41])) q∧Wk B b w w':=by
 have HW0:=Lib.hid h;have hblt:=h.lt;have hBb:=h.le;clear h;obtain⟨W,hW⟩:∃W,W=w.alloc (.cells #[.int .i64 5,.string T,.string N,.string O,.slice xa xl xc,.bool false] 67):=⟨_,rfl⟩;have HKW:=Hd (show K0 w W by rw [hW];exact (aB.refl _ _).alloc _);have HBW:=Hd (show Wk B b w W by rw [hW];exact (Wk.refl B b w).alloc _);have HR:=Hd (show W.heap[w.heap.size]? = some (.cells #[.int .i64 5,.string T,.string N,.string O,.slice xa xl xc,.bool false] 67 (0,0)) by rw [hW];exact heap_alloc_new w _)
 have HWE:=Hd hW;clear hW;obtain⟨R,hRe⟩:∃R,R=w.heap.size:=⟨_,rfl⟩;have hbR:b≠R:=by omega
 have hRb:R≠b:=by omega
 have HRB:=Hd hRe;rw [←hRe] at HR;clear hRe;go_enter Tryz.func50,Tryz.ntmps50;go_upto_region 1 with fail;rw [←HWE.o,←HRB.o];obtain⟨c0,c1,c2,c3,c4,c5⟩:=cO HR.o;have HW1:=Hd (HW0.o.below HKW.o);obtain⟨pv,vv,hrec⟩:=HW1.o.rec;have d2:W.cell? ⟨b,2,none⟩=some (.bool q):=HW1.o.flag;have f2:W.frozen? ⟨b,2,none⟩=false:=Lib.frozen_of_heap hrec 2;clear hrec;obtain⟨V,hV⟩:∃V,V=W.setCell ⟨b,2,none⟩ (.bool false):=⟨_,rfl⟩
 have HVE:=Hd hV;have HWV:=Hd (show Wr V B b l false by rw [hV];exact HW1.o.turn false);have HBV:=Hd (show Wk B b w V by rw [hV];exact HBW.o.trans (aB.setCell (aB.refl _ _) ⟨b,2,none⟩ _ (fun _=>⟨hBb,.inl rfl⟩)));have HRV:=Hd (show V.heap[R]? = some (.cells #[.int .i64 5,.string T,.string N,.string O,.slice xa xl xc,.bool false] 67 (0,0)) by rw [hV];exact (show Wk B b W _ from aB.setCell (aB.refl _ _) ⟨b,2,none⟩ _ (fun _=>⟨hBb,.inl rfl⟩)).heap HR.o hRb (fun cs fr e=>by injection e with _ e2 _;exact absurd e2 (by decide)))
 clear hV;go_upto_region 6 with fail;rw [←HVE.o];clear c0 c1 c2 c3 c4 c5 d2 f2;obtain⟨c0,c1,c2,c3,c4,c5⟩:=cO HRV.o;have s3:(⟨#[36,40]⟩:ByteArray).size=2:=rfl;have s1:(⟨#[41]⟩:ByteArray).size=1:=rfl;have ht9:T.size≤400000:=by omega
 go_wp2_with fail;go_region_with (go_at_call 26;refine (iS B b l false _ _ (HWV.o.below ((aB.refl _ V).drew)) (by simp only [ByteArray.size_append,s3,s1];omega) (Nat.le_trans hBw HBV.o.size)).mono ?_;rintro e w4 ⟨rfl,hw4,hb4⟩;have HW4:=Hd hw4;have HB4:=Hd (HBV.o.trans (((Wk.refl B b V).drew).trans hb4));clear hw4 hb4)
 all_goals obtain⟨pv4,vv4,hrec4⟩:=HW4.o.rec
 all_goals have d4:w4.cell? ⟨b,2,none⟩=some (.bool false):=HW4.o.flag
 all_goals have f4:w4.frozen? ⟨b,2,none⟩=false:=Lib.frozen_of_heap hrec4 2
 all_goals clear hrec4
 all_goals obtain⟨U,hU⟩:∃U,U=w4.setCell ⟨b,2,none⟩ (.bool q):=⟨_,rfl⟩
 all_goals have HWU:=Hd (show Wr U B b (l++((⟨#[36,40]⟩:ByteArray)++T++⟨#[41]⟩).data.toList) q by rw [hU];exact HW4.o.turn q)
 all_goals have HBU:=Hd (show Wk B b w U by rw [hU];exact HB4.o.trans (aB.setCell (aB.refl _ _) ⟨b,2,none⟩ _ (fun _=>⟨hBb,.inl rfl⟩)))
 all_goals have HUE:=Hd hU
 all_goals clear hU
 all_goals go_upto_region 14 with fail
 all_goals rw [←HUE.o]
 all_goals go_wp2_with fail
 all_goals go_end0
 all_goals refine⟨rfl,?_,HBU.o⟩
 all_goals have h9:=HWU.o
 all_goals simpa using h9
theorem Qk (B b:Nat) (l:Bs) (T N O:ByteArray) (xa:OA) (xl xc:Nat) (w:World) (h:Wr w B b l false) (hBw:B≤w.heap.size) (C:Bs) (hV:∀W acc,Wr W B b acc true→Wk B b w W→acc.length≤l.length+1→Calls Tryz.prog 79 #[.pointer (some ⟨b,0,none⟩),.agg #[.int .i64 3,.string T,.string N,.string O,.slice xa xl xc,.bool true]] W fun e w'=>e=.returned (.tuple #[])∧Wr w' B b (acc++C) true∧Wk B b W w') (hlen:l.length+C.length≤400000) :
 Calls Tryz.prog 50 #[.pointer (some ⟨b,0,none⟩),.agg #[.int .i64 3,.string T,.string N,.string O,.slice xa xl xc,.bool true]] w fun e w'=>e=.returned (.tuple #[])∧Wr w' B b (l++34::(C++[34])) false∧Wk B b w w':=by
 have HW0:=Lib.hid h;have hblt:=h.lt;have hBb:=h.le;have HV:=Hd hV;clear hV;clear h;obtain⟨W,hW⟩:∃W,W=w.alloc (.cells #[.int .i64 3,.string T,.string N,.string O,.slice xa xl xc,.bool true] 67):=⟨_,rfl⟩;have HKW:=Hd (show K0 w W by rw [hW];exact (aB.refl _ _).alloc _);have HBW:=Hd (show Wk B b w W by rw [hW];exact (Wk.refl B b w).alloc _);have HR:=Hd (show W.heap[w.heap.size]? = some (.cells #[.int .i64 3,.string T,.string N,.string O,.slice xa xl xc,.bool true] 67 (0,0)) by rw [hW];exact heap_alloc_new w _)
 have HWE:=Hd hW;clear hW;obtain⟨R,hRe⟩:∃R,R=w.heap.size:=⟨_,rfl⟩;have hbR:b≠R:=by omega
 have hRb:R≠b:=by omega
 have HRB:=Hd hRe;rw [←hRe] at HR;clear hRe;go_enter Tryz.func50,Tryz.ntmps50;go_upto_region 1 with fail;rw [←HWE.o,←HRB.o];obtain⟨c0,c1,c2,c3,c4,c5⟩:=cO HR.o;have HW1:=Hd (HW0.o.below HKW.o);obtain⟨pv,vv,hrec⟩:=HW1.o.rec;have d2:W.cell? ⟨b,2,none⟩=some (.bool false):=HW1.o.flag;have f2:W.frozen? ⟨b,2,none⟩=false:=Lib.frozen_of_heap hrec 2;go_wp2_with fail;clear hrec;refine (fY B b _ false 34 _ HW1.o (by omega) (Nat.le_trans hBw HKW.o.size)).mono ?_
 rintro e w2 ⟨rfl,hw2,hb2⟩;have HR2:=Hd (hb2.heap HR.o hRb (fun cs fr e=>by injection e with _ e2 _;exact absurd e2 (by decide)));have HB2:=Hd (HBW.o.trans hb2);have HW2:=Hd hw2;clear c0 c1 c2 c3 c4 c5 d2 f2 hb2 hw2;obtain⟨c0,c1,c2,c3,c4,c5⟩:=cO HR2.o;obtain⟨pv2,vv2,hrec⟩:=HW2.o.rec;have d2:w2.cell? ⟨b,2,none⟩=some (.bool false):=HW2.o.flag;have f2:w2.frozen? ⟨b,2,none⟩=false:=Lib.frozen_of_heap hrec 2
 clear hrec;obtain⟨V,hV⟩:∃V,V=w2.setCell ⟨b,2,none⟩ (.bool true):=⟨_,rfl⟩;have HVE:=Hd hV;have HWV:=Hd (show Wr V B b (l++[34]) true by rw [hV];exact HW2.o.turn true);have HBV:=Hd (show Wk B b w V by rw [hV];exact HB2.o.trans (aB.setCell (aB.refl _ _) ⟨b,2,none⟩ _ (fun _=>⟨hBb,.inl rfl⟩)));have HRV:=Hd (show V.heap[R]? = some (.cells #[.int .i64 3,.string T,.string N,.string O,.slice xa xl xc,.bool true] 67 (0,0)) by rw [hV];exact (show Wk B b w2 _ from aB.setCell (aB.refl _ _) ⟨b,2,none⟩ _ (fun _=>⟨hBb,.inl rfl⟩)).heap HR2.o hRb (fun cs fr e=>by injection e with _ e2 _;exact absurd e2 (by decide)))
 clear hV;go_upto_region 6 with fail;rw [←HVE.o];clear c0 c1 c2 c3 c4 c5 d2 f2;obtain⟨c0,c1,c2,c3,c4,c5⟩:=cO HRV.o;have c9:V.cell? ⟨R,0,none⟩=some (.int .i64 3):=c0;go_wp2_with fail;refine (HV.o V (l++[34]) HWV.o HBV.o (by simp only [lA,lC,lN];omega)).mono ?_;rintro e w4 ⟨rfl,hw4,hb4⟩;have HW4:=Hd hw4;have HB4:=Hd (HBV.o.trans hb4);clear hw4 hb4
 obtain⟨pv4,vv4,hrec4⟩:=HW4.o.rec;have d4:w4.cell? ⟨b,2,none⟩=some (.bool true):=HW4.o.flag;have f4:w4.frozen? ⟨b,2,none⟩=false:=Lib.frozen_of_heap hrec4 2;clear hrec4;obtain⟨U,hU⟩:∃U,U=w4.setCell ⟨b,2,none⟩ (.bool false):=⟨_,rfl⟩;have HWU:=Hd (show Wr U B b ((l++[34])++C) false by rw [hU];exact HW4.o.turn false);have HBU:=Hd (show Wk B b w U by rw [hU];exact HB4.o.trans (aB.setCell (aB.refl _ _) ⟨b,2,none⟩ _ (fun _=>⟨hBb,.inl rfl⟩)))
 have HUE:=Hd hU;clear hU;go_upto_region 14 with fail;rw [←HUE.o];go_wp2_with fail;refine (fY B b _ false 34 _ HWU.o (by simp only [lA,lC,lN];omega) (Nat.le_trans hBw HBU.o.size)).mono ?_;rintro e w5 ⟨rfl,hw5,hb5⟩;have HW5:=Hd hw5;have HB5:=Hd (HBU.o.trans hb5);clear hw5 hb5;go_wp2_with fail;go_end0;refine⟨rfl,?_,HB5.o⟩;have h9:=HW5.o;simpa using h9
theorem Qm (B b:Nat) (l:Bs) (T N O:ByteArray) (xa:OA) (xl xc:Nat) (w:World) (h:Wr w B b l true) (hBw:B≤w.heap.size) (C:Bs) (hV:∀W acc,Wr W B b acc true→Wk B b w W→acc.length≤l.length+0→Calls Tryz.prog 79 #[.pointer (some ⟨b,0,none⟩),.agg #[.int .i64 3,.string T,.string N,.string O,.slice xa xl xc,.bool true]] W fun e w'=>e=.returned (.tuple #[])∧Wr w' B b (acc++C) true∧Wk B b W w') (hlen:l.length+C.length≤400000) :
 Calls Tryz.prog 50 #[.pointer (some ⟨b,0,none⟩),.agg #[.int .i64 3,.string T,.string N,.string O,.slice xa xl xc,.bool true]] w fun e w'=>e=.returned (.tuple #[])∧Wr w' B b (l++C) true∧Wk B b w w':=by
 have HW0:=Lib.hid h;have hblt:=h.lt;have hBb:=h.le;have HV:=Hd hV;clear hV;clear h;obtain⟨W,hW⟩:∃W,W=w.alloc (.cells #[.int .i64 3,.string T,.string N,.string O,.slice xa xl xc,.bool true] 67):=⟨_,rfl⟩;have HKW:=Hd (show K0 w W by rw [hW];exact (aB.refl _ _).alloc _);have HBW:=Hd (show Wk B b w W by rw [hW];exact (Wk.refl B b w).alloc _);have HR:=Hd (show W.heap[w.heap.size]? = some (.cells #[.int .i64 3,.string T,.string N,.string O,.slice xa xl xc,.bool true] 67 (0,0)) by rw [hW];exact heap_alloc_new w _)
 have HWE:=Hd hW;clear hW;obtain⟨R,hRe⟩:∃R,R=w.heap.size:=⟨_,rfl⟩;have hbR:b≠R:=by omega
 have hRb:R≠b:=by omega
 have HRB:=Hd hRe;rw [←hRe] at HR;clear hRe;go_enter Tryz.func50,Tryz.ntmps50;go_upto_region 1 with fail;rw [←HWE.o,←HRB.o];obtain⟨c0,c1,c2,c3,c4,c5⟩:=cO HR.o;have HW1:=Hd (HW0.o.below HKW.o);obtain⟨pv,vv,hrec⟩:=HW1.o.rec;have d2:W.cell? ⟨b,2,none⟩=some (.bool true):=HW1.o.flag;have f2:W.frozen? ⟨b,2,none⟩=false:=Lib.frozen_of_heap hrec 2;clear hrec;obtain⟨V,hV⟩:∃V,V=W.setCell ⟨b,2,none⟩ (.bool true):=⟨_,rfl⟩
 have HVE:=Hd hV;have HWV:=Hd (show Wr V B b l true by rw [hV];exact HW1.o.turn true);have HBV:=Hd (show Wk B b w V by rw [hV];exact HBW.o.trans (aB.setCell (aB.refl _ _) ⟨b,2,none⟩ _ (fun _=>⟨hBb,.inl rfl⟩)));have HRV:=Hd (show V.heap[R]? = some (.cells #[.int .i64 3,.string T,.string N,.string O,.slice xa xl xc,.bool true] 67 (0,0)) by rw [hV];exact (show Wk B b W _ from aB.setCell (aB.refl _ _) ⟨b,2,none⟩ _ (fun _=>⟨hBb,.inl rfl⟩)).heap HR.o hRb (fun cs fr e=>by injection e with _ e2 _;exact absurd e2 (by decide)))
 clear hV;go_upto_region 6 with fail;rw [←HVE.o];clear c0 c1 c2 c3 c4 c5 d2 f2;obtain⟨c0,c1,c2,c3,c4,c5⟩:=cO HRV.o;have c9:V.cell? ⟨R,0,none⟩=some (.int .i64 3):=c0;go_wp2_with fail;refine (HV.o V l HWV.o HBV.o (by omega)).mono ?_;rintro e w4 ⟨rfl,hw4,hb4⟩;have HW4:=Hd hw4;have HB4:=Hd (HBV.o.trans hb4);clear hw4 hb4;obtain⟨pv4,vv4,hrec4⟩:=HW4.o.rec;have d4:w4.cell? ⟨b,2,none⟩=some (.bool true):=HW4.o.flag
 have f4:w4.frozen? ⟨b,2,none⟩=false:=Lib.frozen_of_heap hrec4 2;clear hrec4;obtain⟨U,hU⟩:∃U,U=w4.setCell ⟨b,2,none⟩ (.bool true):=⟨_,rfl⟩;have HWU:=Hd (show Wr U B b (l++C) true by rw [hU];exact HW4.o.turn true);have HBU:=Hd (show Wk B b w U by rw [hU];exact HB4.o.trans (aB.setCell (aB.refl _ _) ⟨b,2,none⟩ _ (fun _=>⟨hBb,.inl rfl⟩)));have HUE:=Hd hU;clear hU;go_upto_region 14 with fail;rw [←HUE.o]
 go_wp2_with fail;go_end0;refine⟨rfl,?_,HBU.o⟩;have h9:=HWU.o;simpa using h9
theorem P9 (B b:Nat) (l:Bs) (q:Bool) (T N O:ByteArray) (xa:OA) (xl xc:Nat) (w:World) (h:Wr w B b l q) (hBw:B≤w.heap.size) (C:Bs) (hV:∀W acc,Wr W B b acc false→Wk B b w W→acc.length≤l.length+0→Calls Tryz.prog 79 #[.pointer (some ⟨b,0,none⟩),.agg #[.int .i64 3,.string T,.string N,.string O,.slice xa xl xc,.bool false]] W fun e w'=>e=.returned (.tuple #[])∧Wr w' B b (acc++C) false∧Wk B b W w') (hlen:l.length+C.length≤400000) :
 Calls Tryz.prog 50 #[.pointer (some ⟨b,0,none⟩),.agg #[.int .i64 3,.string T,.string N,.string O,.slice xa xl xc,.bool false]] w fun e w'=>e=.returned (.tuple #[])∧Wr w' B b (l++C) q∧Wk B b w w':=by
 have HW0:=Lib.hid h;have hblt:=h.lt;have hBb:=h.le;have HV:=Hd hV;clear hV;clear h;obtain⟨W,hW⟩:∃W,W=w.alloc (.cells #[.int .i64 3,.string T,.string N,.string O,.slice xa xl xc,.bool false] 67):=⟨_,rfl⟩;have HKW:=Hd (show K0 w W by rw [hW];exact (aB.refl _ _).alloc _);have HBW:=Hd (show Wk B b w W by rw [hW];exact (Wk.refl B b w).alloc _);have HR:=Hd (show W.heap[w.heap.size]? = some (.cells #[.int .i64 3,.string T,.string N,.string O,.slice xa xl xc,.bool false] 67 (0,0)) by rw [hW];exact heap_alloc_new w _)
 have HWE:=Hd hW;clear hW;obtain⟨R,hRe⟩:∃R,R=w.heap.size:=⟨_,rfl⟩;have hbR:b≠R:=by omega
 have hRb:R≠b:=by omega
 have HRB:=Hd hRe;rw [←hRe] at HR;clear hRe;go_enter Tryz.func50,Tryz.ntmps50;go_upto_region 1 with fail;rw [←HWE.o,←HRB.o];obtain⟨c0,c1,c2,c3,c4,c5⟩:=cO HR.o;have HW1:=Hd (HW0.o.below HKW.o);obtain⟨pv,vv,hrec⟩:=HW1.o.rec;have d2:W.cell? ⟨b,2,none⟩=some (.bool q):=HW1.o.flag;have f2:W.frozen? ⟨b,2,none⟩=false:=Lib.frozen_of_heap hrec 2;clear hrec;obtain⟨V,hV⟩:∃V,V=W.setCell ⟨b,2,none⟩ (.bool false):=⟨_,rfl⟩
 have HVE:=Hd hV;have HWV:=Hd (show Wr V B b l false by rw [hV];exact HW1.o.turn false);have HBV:=Hd (show Wk B b w V by rw [hV];exact HBW.o.trans (aB.setCell (aB.refl _ _) ⟨b,2,none⟩ _ (fun _=>⟨hBb,.inl rfl⟩)));have HRV:=Hd (show V.heap[R]? = some (.cells #[.int .i64 3,.string T,.string N,.string O,.slice xa xl xc,.bool false] 67 (0,0)) by rw [hV];exact (show Wk B b W _ from aB.setCell (aB.refl _ _) ⟨b,2,none⟩ _ (fun _=>⟨hBb,.inl rfl⟩)).heap HR.o hRb (fun cs fr e=>by injection e with _ e2 _;exact absurd e2 (by decide)))
 clear hV;go_upto_region 6 with fail;rw [←HVE.o];clear c0 c1 c2 c3 c4 c5 d2 f2;obtain⟨c0,c1,c2,c3,c4,c5⟩:=cO HRV.o;have c9:V.cell? ⟨R,0,none⟩=some (.int .i64 3):=c0;go_wp2_with fail;refine (HV.o V l HWV.o HBV.o (by omega)).mono ?_;rintro e w4 ⟨rfl,hw4,hb4⟩;have HW4:=Hd hw4;have HB4:=Hd (HBV.o.trans hb4);clear hw4 hb4;obtain⟨pv4,vv4,hrec4⟩:=HW4.o.rec;have d4:w4.cell? ⟨b,2,none⟩=some (.bool false):=HW4.o.flag
 have f4:w4.frozen? ⟨b,2,none⟩=false:=Lib.frozen_of_heap hrec4 2;clear hrec4;obtain⟨U,hU⟩:∃U,U=w4.setCell ⟨b,2,none⟩ (.bool q):=⟨_,rfl⟩;have HWU:=Hd (show Wr U B b (l++C) q by rw [hU];exact HW4.o.turn q);have HBU:=Hd (show Wk B b w U by rw [hU];exact HB4.o.trans (aB.setCell (aB.refl _ _) ⟨b,2,none⟩ _ (fun _=>⟨hBb,.inl rfl⟩)));have HUE:=Hd hU;clear hU;go_upto_region 14 with fail;rw [←HUE.o]
 go_wp2_with fail;go_end0;refine⟨rfl,?_,HBU.o⟩;have h9:=HWU.o;simpa using h9
theorem yB (z:UInt8):∀s:Bs,Lib.hasPrefix s [z]=aI [z] s
 | []=>rfl
 | c::t=>by
  have h2:aI [z] (c::t)=(z==c && true):=by cases t<;>rfl
  rw [h2];simp [Lib.hasPrefix,List.isPrefixOf]
theorem vZ {w:World} {D:Nat→Prop} {a:OA} {m c:Nat} {l:List Pt} (h:Rd w D (.sl 6 (aY l)) (.slice a m c)):m=l.length:=by
 rw [oQ] at h;rw [(cK (k:=6) (fun _=>rfl) (by decide) h).1,List.length_map]
theorem Ot {w:World} {D:Nat→Prop} {a:OA} {m c:Nat} {l:List Pt} (h:Rd w D (.sl 6 (aY l)) (.slice a m c)) {i:Nat} (hi:i<l.length) :
 ∃(g o:Nat) (xa:OA) (xl xc:Nat),a=some ⟨g,o,none⟩∧g<w.heap.size∧D g∧
  (w.cell? ⟨g,o+i*6,none⟩=some (.int .i64 (l[i].kind:Nat))∧w.cell? ⟨g,o+i*6+1,none⟩=some (.string ⟨l[i].text.toArray⟩)∧w.cell? ⟨g,o+i*6+2,none⟩=some (.string ⟨l[i].name.toArray⟩)∧w.cell? ⟨g,o+i*6+3,none⟩=some (.string ⟨l[i].op.toArray⟩)∧w.cell? ⟨g,o+i*6+4,none⟩=some (.slice xa xl xc)∧w.cell? ⟨g,o+i*6+5,none⟩=some (.bool l[i].quoted))∧
  Rd w D (.sl 6 (aY l[i].word)) (.slice xa xl xc):=by
 obtain⟨b,off,u,ea,hb,hd,_,_⟩:=h.cell (j:=0) (by rw [k7];omega);rw [oQ] at h;have hi2:i<(l.map Mz).length:=by rw [List.length_map];exact hi
 obtain⟨g,o,xa,xl,xc,e,hg,hc,hw⟩:=rU h hi2;rw [show (l.map Mz)[i]=Mz l[i] from List.getElem_map ..] at hc hw;rw [ea] at e;obtain rfl:b=g:=by injection e with e;injection e
 exact⟨b,o,xa,xl,xc,by rw [ea,e],hg,hd,hc,hw⟩
def Ah (q:Bool) (n o:Bs) (w:List Pt):Bs:=if o=[76] then 36::123::35::(n++[125]) else 36::123::(n++(o++(fO o w++(aL q w++[125]))))
theorem nZ {o:Bs} {w:List Pt} (h:((o==[37] || o==[35]) && rO o w)=false):fO o w=[]:=by unfold fO;rw [h];rfl
theorem yD {o:Bs} {w:List Pt} (h:((o==[37] || o==[35]) && rO o w)=true):fO o w=[92,10]:=by unfold fO;rw [h];rfl
theorem Qt (B b:Nat) (l t n o:Bs) (q pq:Bool) (k:Int) (wd:List Pt) (D:Nat→Prop) (xa:OA) (xl xc:Nat) (w:World) (h:Wr w B b l q) (M:Nat) (hM:M≤400000) (hlen:l.length+(Ah q n o wd).length≤M) (hBw:B≤w.heap.size)
 (hR:Rd w D (.sl 6 (aY wd)) (.slice xa xl xc)) (hD:∀g,D g→g<B)
 (hP:o≠[76]→∀W acc,Wr W B b acc q→Wk B b w W→acc.length+(aL q wd).length≤M→Calls Tryz.prog 27 #[.pointer (some ⟨b,0,none⟩),.slice xa xl xc] W fun e w'=>e=.returned (.tuple #[])∧Wr w' B b (acc++aL q wd) q∧Wk B b W w') :
 Calls Tryz.prog 79 #[.pointer (some ⟨b,0,none⟩),.agg #[.int .i64 k,.string ⟨t.toArray⟩,.string ⟨n.toArray⟩,.string ⟨o.toArray⟩,.slice xa xl xc,.bool pq]] w fun e w'=>e=.returned (.tuple #[])∧Wr w' B b (l++Ah q n o wd) q∧Wk B b w w':=by
 unfold Ah at hlen ⊢;by_cases h76:o=[76]
 ·subst h76;rw [if_pos rfl] at hlen ⊢;simp only [lC,lA,lN] at hlen;exact E3 B b l t n q pq k xa xl xc w h (by omega) hBw
 rw [if_neg h76] at hlen ⊢;simp only [lC,lA,lN] at hlen;by_cases h37:o=[37]
 ·subst h37;simp only [lC,lN] at hlen;cases wd with
  | nil=>
   have hx:xl=0:=vZ hR;rw [nZ (by rfl)] at hlen ⊢;exact K2 B b l t n (aL q []) q pq k xa xl xc w h M hM (by simp only [lN] at hlen;omega) hBw hx (hP h76)
  | cons p u=>
   have hx:xl=(p::u).length:=vZ hR;rw [lC] at hx;obtain⟨g,off,_,_,_,ea,hg,hDg,⟨_,q1,_⟩,_⟩:=Ot hR (i:=0) (by simp);rw [show off+0*6+1=off+1 by omega] at q1;cases hp:aI [37] p.text with
   | true=>
    rw [yD (o:=[37]) (w:=p::u) (show (true && aI [37] p.text)=true by rw [hp];rfl)] at hlen ⊢;exact K1 B b l t n (aL q (p::u)) q pq k xa xl xc w h M hM (by simp only [lC,lN] at hlen;omega) hBw g off ⟨p.text.toArray⟩ ea (by omega) (hD g hDg) q1 (by rw [show (⟨p.text.toArray⟩:ByteArray).data.toList=p.text by simp,yB];exact hp) (hP h76)
   | false=>
    rw [nZ (o:=[37]) (w:=p::u) (show (true && aI [37] p.text)=false by rw [hp];rfl)] at hlen ⊢;exact M4 B b l t n (aL q (p::u)) q pq k xa xl xc w h M hM (by simp only [lN] at hlen;omega) hBw g off ⟨p.text.toArray⟩ ea (by omega) (hD g hDg) q1 (by rw [show (⟨p.text.toArray⟩:ByteArray).data.toList=p.text by simp,yB];exact hp) (hP h76)
 by_cases h35:o=[35]
 ·subst h35;simp only [lC,lN] at hlen;cases wd with
  | nil=>
   have hx:xl=0:=vZ hR;rw [nZ (by rfl)] at hlen ⊢;exact J9 B b l t n (aL q []) q pq k xa xl xc w h M hM (by simp only [lN] at hlen;omega) hBw hx (hP h76)
  | cons p u=>
   have hx:xl=(p::u).length:=vZ hR;rw [lC] at hx;obtain⟨g,off,_,_,_,ea,hg,hDg,⟨_,q1,_⟩,_⟩:=Ot hR (i:=0) (by simp);rw [show off+0*6+1=off+1 by omega] at q1;cases hp:aI [35] p.text with
   | true=>
    rw [yD (o:=[35]) (w:=p::u) (show (true && aI [35] p.text)=true by rw [hp];rfl)] at hlen ⊢;exact Kn B b l t n (aL q (p::u)) q pq k xa xl xc w h M hM (by simp only [lC,lN] at hlen;omega) hBw g off ⟨p.text.toArray⟩ ea (by omega) (hD g hDg) q1 (by rw [show (⟨p.text.toArray⟩:ByteArray).data.toList=p.text by simp,yB];exact hp) (hP h76)
   | false=>
    rw [nZ (o:=[35]) (w:=p::u) (show (true && aI [35] p.text)=false by rw [hp];rfl)] at hlen ⊢;exact Kb B b l t n (aL q (p::u)) q pq k xa xl xc w h M hM (by simp only [lN] at hlen;omega) hBw g off ⟨p.text.toArray⟩ ea (by omega) (hD g hDg) q1 (by rw [show (⟨p.text.toArray⟩:ByteArray).data.toList=p.text by simp,yB];exact hp) (hP h76)
 have hn:(o==[37] || o==[35])=false:=by
  rw [Bool.or_eq_false_iff];exact⟨beq_eq_false_iff_ne.2 h37,beq_eq_false_iff_ne.2 h35⟩
 rw [nZ (by rw [hn];rfl)] at hlen ⊢;exact Jt B b l t n o (aL q wd) q pq k xa xl xc w h M hM (by simp only [lN] at hlen;omega) hBw h76 h37 h35 (hP h76)
theorem fD (l:Bs):(⟨l.toArray⟩:ByteArray).data.toList=l:=by simp
theorem gN (l:Bs):(⟨l.toArray⟩:ByteArray).size=l.length:=by rw [Lib.size_eq,fD]
theorem Oh (B b:Nat) (acc:Bs) (q:Bool) (p:Pt) (w:World) (D:Nat→Prop) (xa:OA) (xl xc:Nat) (hk:p.kind=3∨p.kind=4∨p.kind=5) (h:Wr w B b acc q) (hBw:B≤w.heap.size) (hlen:acc.length+(dC q p).length≤20000)
 (hR:Rd w D (.sl 6 (aY p.word)) (.slice xa xl xc)) (hD:∀g,D g→g<B)
 (hP:p.kind=3→p.op≠[76]→∀W acc,Wr W B b acc p.quoted→Wk B b w W→acc.length+(aL p.quoted p.word).length≤20000→Calls Tryz.prog 27 #[.pointer (some ⟨b,0,none⟩),.slice xa xl xc] W fun e w'=>e=.returned (.tuple #[])∧Wr w' B b (acc++aL p.quoted p.word) p.quoted∧Wk B b W w') :
 Calls Tryz.prog 50 #[.pointer (some ⟨b,0,none⟩),.agg #[.int .i64 (p.kind:Nat),.string ⟨p.text.toArray⟩,.string ⟨p.name.toArray⟩,.string ⟨p.op.toArray⟩,.slice xa xl xc,.bool p.quoted]] w fun e w'=>e=.returned (.tuple #[])∧Wr w' B b (acc++dC q p) q∧Wk B b w w':=by
 obtain⟨k,t,n,o,wd,pq⟩:=p;simp only [Pt.kind,Pt.text,Pt.name,Pt.op,Pt.word,Pt.quoted] at *;rcases hk with rfl | rfl | rfl
 ·have hV:∀(z:Nat),acc.length+z+(Ah pq n o wd).length≤20000→∀W ac,Wr W B b ac pq→Wk B b w W→ac.length≤acc.length+z→Calls Tryz.prog 79 #[.pointer (some ⟨b,0,none⟩),.agg #[.int .i64 3,.string ⟨t.toArray⟩,.string ⟨n.toArray⟩,.string ⟨o.toArray⟩,.slice xa xl xc,.bool pq]] W fun e w'=>e=.returned (.tuple #[])∧Wr w' B b (ac++Ah pq n o wd) pq∧Wk B b W w':=fun z hz W ac hw hb hl=>
   Qt B b ac t n o pq pq 3 wd D xa xl xc W hw 20000 (by omega) (by omega) (Nat.le_trans hBw hb.size) (hR.keep (gL (hb.below hBw)) (fun g _ hg h9=>absurd (hD g hg) (by omega))) hD fun h76 V ac2 hw2 hb2 hl2=>hP rfl h76 V ac2 hw2 (hb.trans hb2) hl2
  have e0:dC q (.mk 3 t n o wd pq)=(if pq && !q then [34] else [])++(Ah pq n o wd++(if pq && !q then [34] else [])):=oC ..;rw [e0] at hlen ⊢;cases pq with
  | false=>
   have h9:=P9 B b acc q ⟨t.toArray⟩ ⟨n.toArray⟩ ⟨o.toArray⟩ xa xl xc w h hBw (Ah false n o wd) (hV 0 (by simp only [Bool.false_and,Bool.false_eq_true,if_false,lA,lN] at hlen;omega)) (by simp only [Bool.false_and,Bool.false_eq_true,if_false,lA,lN] at hlen;omega);simpa using h9
  | true=>
   cases q with
   | true=>
    have h9:=Qm B b acc ⟨t.toArray⟩ ⟨n.toArray⟩ ⟨o.toArray⟩ xa xl xc w h hBw (Ah true n o wd) (hV 0 (by simp only [Bool.not_true,Bool.and_false,Bool.false_eq_true,if_false,lA,lN] at hlen;omega)) (by simp only [Bool.not_true,Bool.and_false,Bool.false_eq_true,if_false,lA,lN] at hlen;omega);simpa using h9
   | false=>
    have h9:=Qk B b acc ⟨t.toArray⟩ ⟨n.toArray⟩ ⟨o.toArray⟩ xa xl xc w h hBw (Ah true n o wd) (hV 1 (by simp only [Bool.not_false,Bool.and_true,if_true,lA,lC,lN] at hlen;omega)) (by simp only [Bool.not_false,Bool.and_true,if_true,lA,lC,lN] at hlen;omega);simpa using h9
 ·rw [oE] at hlen ⊢;have hl:acc.length+(⟨t.toArray⟩:ByteArray).size≤400000:=by rw [gN];simp only [lA,lC] at hlen;omega
  cases pq with
  | false=>simpa using P6 B b acc q ⟨t.toArray⟩ ⟨n.toArray⟩ ⟨o.toArray⟩ xa xl xc w h hBw hl
  | true=>
   cases q with
   | true=>simpa using Pm B b acc ⟨t.toArray⟩ ⟨n.toArray⟩ ⟨o.toArray⟩ xa xl xc w h hBw hl
   | false=>simpa using Pn B b acc ⟨t.toArray⟩ ⟨n.toArray⟩ ⟨o.toArray⟩ xa xl xc w h hBw hl
 ·rw [oO] at hlen ⊢;have hl:acc.length+(⟨t.toArray⟩:ByteArray).size≤400000:=by rw [gN];simp only [lA,lC] at hlen;omega
  cases pq with
  | false=>simpa using Pv B b acc q ⟨t.toArray⟩ ⟨n.toArray⟩ ⟨o.toArray⟩ xa xl xc w h hBw hl
  | true=>
   cases q with
   | true=>simpa using Pd B b acc ⟨t.toArray⟩ ⟨n.toArray⟩ ⟨o.toArray⟩ xa xl xc w h hBw hl
   | false=>simpa using Ps B b acc ⟨t.toArray⟩ ⟨n.toArray⟩ ⟨o.toArray⟩ xa xl xc w h hBw hl
/-! Parts. -/
theorem tH (q:Bool):∀{l:List Pt} {k:Nat} (h:k<l.length),aL q (l.take (k+1))=aL q (l.take k)++dC q l[k]
 | p::l,0,h=>by
  rw [List.take_succ_cons,List.take_zero,List.take_zero,bZ,dP,List.append_nil];rfl
 | p::l,k+1,h=>by
  rw [List.take_succ_cons,bZ,tH q (l:=l) (by simpa using h),List.take_succ_cons,bZ,aA];rfl
theorem tS (q:Bool):∀(l:List Pt) (k:Nat),(aL q (l.take k)).length≤(aL q l).length
 | [],k=>by rw [List.take_nil];exact Nat.le_refl _
 | p::l,0=>by rw [List.take_zero,dP];exact Nat.zero_le _
 | p::l,k+1=>by
  have:=tS q l k;rw [List.take_succ_cons,bZ,bZ,lA,lA];omega
theorem Fy {stop:UInt8→Bool} {q:Bool} {d:Nat}:∀{l:List Pt},gD stop q d l→∀p∈l,OkP stop q d p
 | [],_,p,hp=>by cases hp
 | x::l,h,p,hp=>by
  unfold gD at h;rcases List.mem_cons.1 hp with rfl | hp
  ·exact h.1
  ·exact Fy h.2 p hp
theorem M3 {stop:UInt8→Bool} {q:Bool} {d:Nat} {p:Pt} (h:OkP stop q d p):p.kind=1∨p.kind=2∨((p.kind=3∨p.kind=4∨p.kind=5)∧(p.kind=3→p.op≠[76]→∃stop d,gD stop p.quoted d p.word)):=by
 obtain⟨k,t,n,o,w,pq⟩:=p;unfold OkP at h;simp only [Pt.kind,Pt.op,Pt.quoted,Pt.word];rcases h.2.2 with ⟨rfl,_⟩ | ⟨rfl,_⟩ | ⟨rfl,_⟩ | ⟨rfl,_⟩ | ⟨rfl,_,_,_,hc⟩
 ·exact .inl rfl
 ·exact .inr (.inl rfl)
 ·exact .inr (.inr ⟨.inr (.inl rfl),fun h=>by cases h⟩)
 ·exact .inr (.inr ⟨.inr (.inr rfl),fun h=>by cases h⟩)
 ·refine .inr (.inr ⟨.inl rfl,fun _ h76=>?_⟩);rcases hc with ⟨_,rfl⟩ | ⟨e,_⟩ | ⟨_,_,hw,_⟩
  ·exact⟨brS,0,by unfold gD;trivial⟩
  ·exact absurd e h76
  ·exact⟨_,_,hw⟩
theorem xI (q:Bool) (p:Pt) (h:p.kind=1∨p.kind=2):p.text.length≤(dC q p).length:=by
 have hp:∀t:Bs,t.length≤(bW t).length:=fun t=>by
  induction t with
  | nil=>exact Nat.zero_le _
  | cons c t ih=>rw [cI];split<;>simp only [lC]<;>omega
 have hq:∀t:Bs,t.length≤(kE t).length:=fun t=>by
  induction t with
  | nil=>exact Nat.zero_le _
  | cons c t ih=>
   unfold kE at ih ⊢;rw [List.flatMap_cons,lA];split<;>simp only [lC,lN]<;>omega
 have hu:∀t:Bs,t.length≤(t.flatMap fQ).length:=fun t=>by
  induction t with
  | nil=>exact Nat.zero_le _
  | cons c t ih=>
   rw [List.flatMap_cons,lA,lC];have:1≤(fQ c).length:=by unfold fQ;split<;>simp
   omega
 obtain⟨k,t,n,o,w,pq⟩:=p;simp only [Pt.kind,Pt.text] at *;rcases h with rfl | rfl
 ·rw [g8];exact hp t
 ·rw [mJ];split
  ·exact hq t
  ·unfold qQ;have:=hu t;simp only [lC,lA];omega
theorem N4 (q:Bool) (p:Pt) (h:p.kind=1):dC q p=bW p.text:=by
 obtain⟨k,t,n,o,w,pq⟩:=p;simp only [Pt.kind,Pt.text] at *;subst h;rw [g8]
theorem Nr (q:Bool) (p:Pt) (h:p.kind=2):dC q p=if q then kE p.text else qQ p.text:=by
 obtain⟨k,t,n,o,w,pq⟩:=p;simp only [Pt.kind,Pt.text] at *;subst h;rw [mJ]
def zX (N:Nat):Prop:=∀(l:List Pt) (stop:UInt8→Bool) (q:Bool) (d:Nat),gD stop q d l→SizeOf.sizeOf l<N→∀(B b:Nat) (acc:Bs) (m:Int) (w:World) (D:Nat→Prop) (a:OA) (L c:Nat),Wr w B b acc q→Rd w D (.sl 6 (aY l)) (.slice a L c)→(∀g,D g→g<B)→w.cell? ⟨0,0,none⟩=some (.int .i64 m)→0<B→acc.length+(aL q l).length≤20000→B≤w.heap.size→
 Calls Tryz.prog 27 #[.pointer (some ⟨b,0,none⟩),.slice a L c] w fun e w'=>e=.returned (.tuple #[])∧Wr w' B b (acc++aL q l) q∧Wk B b w w'
theorem Fj (N:Nat) (ih:zX N):zX (N+1):=by
 intro l stop q d hok hsz B b acc m w D a L c h ha hD hm hB0 hlen hBw;have hc6:=dN;have hLb:=cR (by decide) ha;have HL:=Hd (vZ ha);have HA:=Hd ha;have HX:=Hd (Fy hok);have HW0:=Lib.hid h;have HM:=Hd hm;have HD:=Hd hD;have HI:=Hd ih;have HSZ:=Hd hsz;clear ha hok h hm hD ih hsz;go_enter Tryz.func27,Tryz.ntmps27;go_wp2_with fail;go_loopw [8] (fun k' wr=>∃k:Nat,k'=.int .i64 k∧k≤L∧Hid (Wr wr B b (acc++aL q (l.take k)) q)∧Hid (Wk B b w wr)) (fun k' _=>L - (intOf k').toNat)
 case atStart=>exact⟨0,rfl,Nat.zero_le _,by rw [List.take_zero,dP,List.append_nil];exact HW0,Hd (Wk.refl _ _ _)⟩
 case round=>
  clear HW0;obtain⟨k,rfl,hk,HW,HB⟩:=hrel;by_cases hlt:k<L
  ·have hl2:k<l.length:=by rw [←HL.o];exact hlt
   obtain⟨g,o,xa,xl,xc,rfl,hg,hdg,⟨q0,q1,q2,q3,q4,q5⟩,hxw⟩:=Ot (HA.o.keep (gL (HB.o.below hBw)) (fun b _ hb h=>absurd (HD.o b hb) (by omega))) hl2;have hok:=HX.o _ (List.getElem_mem hl2);have hsn:=tH q hl2;have hle:=tS q l (k+1);have hszw:=Cq (List.getElem_mem hl2);obtain⟨p,hpe⟩:∃p,p=l[k]:=⟨_,rfl⟩;rw [←hpe] at q0 q1 q2 q3 q5 hxw hok hsn hszw;have hla:(acc++aL q (l.take k)).length+(dC q p).length≤20000:=by
    rw [hsn,lA] at hle;rw [lA];omega
   have HSN:=Hd hsn;have p1:(k:Int)<(L:Int):=by omega
   have HMW:=Hd (show wr.cell? ⟨0,0,none⟩=some (.int .i64 m) by rw [(HB.o.below hBw).cell (p:=⟨0,0,none⟩) hB0];exact HM.o);have hsz:=HB.o.size;obtain⟨kx,hkx⟩:∃kx:Int,kx=(p.kind:Nat):=⟨_,rfl⟩;obtain⟨T,hT⟩:∃T:ByteArray,T=⟨p.text.toArray⟩:=⟨_,rfl⟩;obtain⟨N1,hN1⟩:∃T:ByteArray,T=⟨p.name.toArray⟩:=⟨_,rfl⟩;obtain⟨O1,hO1⟩:∃T:ByteArray,T=⟨p.op.toArray⟩:=⟨_,rfl⟩;obtain⟨pq,hpq⟩:∃q,q=p.quoted:=⟨_,rfl⟩;rw [←hkx] at q0
   rw [←hT] at q1;rw [←hN1] at q2;rw [←hO1] at q3;rw [←hpq] at q5;clear hle hsn hl2 hpe;rcases M3 hok with hk1 | hk1 | ⟨hk1,hkw⟩
   ·have HP:=Hd (N4 q p hk1);have htl:=xI q p (.inl hk1);have HC:Hid (∀W,Wr W B b (acc++aL q (l.take k)) q→B≤W.heap.size→Calls Tryz.prog 48 #[.pointer (some ⟨b,0,none⟩),.string T] W (fun e w2=>e=.returned (.tuple #[])∧Wr w2 B b (acc++aL q (l.take k)++dC q p) q∧Wk B b W w2)):=Hd fun W hw hbw=>by
     have h9:=N8 B b (acc++aL q (l.take k)) q T W hw (by rw [hT,gN];omega) hbw;rw [show T.data.toList=p.text by rw [hT,fD],←HP.o] at h9;exact h9
    have e1:kx=1:=by rw [hkx,hk1];rfl
    subst e1;clear hk1 hT hN1 hO1 hpq hkx hxw hok htl;go_wp2_with fail;obtain⟨W,hW⟩:∃W,W=wr.alloc (.cells #[.int .i64 1,.string T,.string N1,.string O1,.slice xa xl xc,.bool pq] 67):=⟨_,rfl⟩;rw [←hW];have hkW:K0 wr W:=by rw [hW];exact (aB.refl _ _).alloc _
    have hbW:Wk B b wr W:=by rw [hW];exact (Wk.refl B b wr).alloc _
    refine (HC.o W (HW.o.below hkW) (by have:=hkW.size;omega)).mono ?_;rintro e w2 ⟨rfl,hw2,hb2⟩;have HW2:=Hd hw2;have HB2:=Hd (HB.o.trans (hbW.trans hb2));clear hw2 hb2 hkW hbW hW;go_wp2_with fail;go_roundw
    case rel=>exact⟨k+1,by go_num,by omega,Hd (by rw [HSN.o,←aA];exact HW2.o),HB2⟩
    case measure=>simp [intOf];omega
   ·have HP:=Hd (Nr q p hk1);have htl:=xI q p (.inr hk1);have HC:Hid (∀W,Wr W B b (acc++aL q (l.take k)) q→W.cell? ⟨0,0,none⟩=some (.int .i64 m)→B≤W.heap.size→Calls Tryz.prog 49 #[.pointer (some ⟨b,0,none⟩),.string T] W (fun e w2=>e=.returned (.tuple #[])∧Wr w2 B b (acc++aL q (l.take k)++dC q p) q∧Wk B b W w2)):=Hd fun W hw hmw hbw=>by
     have h9:=Nq B b (acc++aL q (l.take k)) p.text q m W hw (by omega) hmw (by omega) hbw;rw [←hT,←HP.o] at h9;exact h9
    have e1:kx=2:=by rw [hkx,hk1];rfl
    subst e1;clear hk1 hT hN1 hO1 hpq hkx hxw hok htl;go_wp2_with fail;obtain⟨W,hW⟩:∃W,W=wr.alloc (.cells #[.int .i64 2,.string T,.string N1,.string O1,.slice xa xl xc,.bool pq] 67):=⟨_,rfl⟩;rw [←hW];have hkW:K0 wr W:=by rw [hW];exact (aB.refl _ _).alloc _
    have hbW:Wk B b wr W:=by rw [hW];exact (Wk.refl B b wr).alloc _
    refine (HC.o W (HW.o.below hkW) (bN HMW.o hkW (by omega)) (by have:=hkW.size;omega)).mono ?_;rintro e w2 ⟨rfl,hw2,hb2⟩;have HW2:=Hd hw2;have HB2:=Hd (HB.o.trans (hbW.trans hb2));clear hw2 hb2 hkW hbW hW;go_wp2_with fail;go_roundw
    case rel=>exact⟨k+1,by go_num,by omega,Hd (by rw [HSN.o,←aA];exact HW2.o),HB2⟩
    case measure=>simp [intOf];omega
   ·have HC:Hid (∀W,K0 wr W→Calls Tryz.prog 50 #[.pointer (some ⟨b,0,none⟩),.agg #[.int .i64 kx,.string T,.string N1,.string O1,.slice xa xl xc,.bool pq]] W (fun e w2=>e=.returned (.tuple #[])∧Wr w2 B b (acc++aL q (l.take k)++dC q p) q∧Wk B b W w2)):=Hd fun W hw=>by
     rw [hkx,hT,hN1,hO1,hpq];have hbw:B≤W.heap.size:=by have:=hw.size;omega
     refine Oh B b (acc++aL q (l.take k)) q p W D xa xl xc hk1 (HW.o.below hw) hbw hla (aE hxw hw) HD.o fun h3 h76 V ac hwv hbv hlv=>?_;obtain⟨st2,d2,hok2⟩:=hkw h3 h76;have hmv:V.cell? ⟨0,0,none⟩=some (.int .i64 m):=by
      rw [(hbv.below hbw).cell (p:=⟨0,0,none⟩) hB0];exact bN HMW.o hw (by omega)
     have hwr:Rd V D (.sl 6 (aY p.word)) (.slice xa xl xc):=(aE hxw hw).keep (gL (hbv.below hbw)) (fun g _ hg h9=>absurd (HD.o g hg) (by omega));exact HI.o p.word st2 p.quoted d2 hok2 (by have:=HSZ.o;omega) B b ac m V D xa xl xc hwv hwr HD.o hmv hB0 hlv (Nat.le_trans hbw hbv.size)
    have t1:(kx==1)=false:=by rw [beq_eq_false_iff_ne,hkx];omega
    have t2:(kx==2)=false:=by rw [beq_eq_false_iff_ne,hkx];omega
    clear hk1 hT hN1 hO1 hpq hkx hxw hok hkw;go_wp2_with fail;obtain⟨W,hW⟩:∃W,W=wr.alloc (.cells #[.int .i64 kx,.string T,.string N1,.string O1,.slice xa xl xc,.bool pq] 67):=⟨_,rfl⟩;rw [←hW];have hkW:K0 wr W:=by rw [hW];exact (aB.refl _ _).alloc _
    have hbW:Wk B b wr W:=by rw [hW];exact (Wk.refl B b wr).alloc _
    refine (HC.o W hkW).mono ?_;rintro e w2 ⟨rfl,hw2,hb2⟩;have HW2:=Hd hw2;have HB2:=Hd (HB.o.trans (hbW.trans hb2));clear hw2 hb2 hkW hbW hW;go_wp2_with fail;go_roundw
    case rel=>exact⟨k+1,by go_num,by omega,Hd (by rw [HSN.o,←aA];exact HW2.o),HB2⟩
    case measure=>simp [intOf];omega
  ·obtain rfl:k=L:=by omega
   have p1:¬(k:Int)<(k:Int):=by omega
   go_wp2_with fail;go_end0;refine⟨rfl,?_,HB.o⟩;have h9:=HW.o;rw [List.take_of_length_le (by rw [←HL.o];exact Nat.le_refl _)] at h9;exact h9
theorem s9:∀N,zX N
 | 0=>fun l _ _ _ _ h=>absurd h (Nat.not_lt_zero _)
 | N+1=>Fj N (s9 N)
theorem C8 (B b:Nat) (w:World) (hbk:w.heap[b]? = some (.cells #[.pointer none,.slice none 0 0,.bool false] 65 (0,0))) :
 Calls Tryz.prog 28 #[.pointer (some ⟨b,0,none⟩)] w fun e w'=>e=.returned (.string ⟨#[]⟩)∧Below B w w':=by
 have mixed:Tryz.prog.follows .mixedOrders=true:=by kernel_rfl
 have hSD:(Builtin.unsafeSliceData_ #[61] 97 #[.slice none 0 0]).run Tryz.prog w.drew=.ok (.pointer none) w.drew:=Lib.run_unsafeSliceData_nil _ _ _ _ _;have c1:w.drew.cell? ⟨b,1,none⟩=some (.slice none 0 0):=by
  have:w.drew.heap[b]? = some (.cells #[.pointer none,.slice none 0 0,.bool false] 65 (0,0)):=hbk;rw [Lib.cell_of_heap this];rfl
 have hUS:(Builtin.unsafeString_ #[97,3] 9 #[.pointer none,.int .i64 0]).run Tryz.prog w.drew=.ok (.string .empty) w.drew:=Lib.run_unsafeString_none _ _ _ _ _;clear hbk;go_enter Tryz.func28,Tryz.ntmps28;go_wp2;go_region_o
 all_goals (go_wp2;go_ret;exact⟨rfl,Below.drew (Below.refl B w)⟩)
theorem xE (b:Nat) (a:OA) (c:Nat) (w:World) :
 Calls Tryz.prog 27 #[.pointer (some ⟨b,0,none⟩),.slice a 0 c] w fun e w'=>e=.returned (.tuple #[])∧w'=w:=by
 go_enter Tryz.func27,Tryz.ntmps27;go_wp2_with fail;go_loopw [8] (fun k' wr=>k'=.int .i64 0∧wr=w) (fun _ _=>0)
 case atStart=>exact⟨rfl,rfl⟩
 case round=>
  obtain⟨rfl,rfl⟩:=hrel;go_wp2_with fail;go_end0;exact⟨rfl,rfl⟩
theorem L9 {l:List Pt} (h:l≠[]) {stop:UInt8→Bool} {d:Nat} (hok:gD stop false d l):bF l≠[]:=by
 cases l with
 | nil=>exact absurd rfl h
 | cons p t=>
  unfold gD at hok;obtain⟨c,u,hc,_⟩:=kH hok.1;unfold bF;rw [bZ,hc];simp
structure F6 (l:List Pt):Prop where
 ok:∃stop d,gD stop false d l
 len:(bF l).length≤20000
theorem sD (m:Int) (w:World) (D:Nat→Prop) (l:List Pt) (a:OA) (L c:Nat) (ha:Rd w D (.sl 6 (aY l)) (.slice a L c)) (hx:F6 l) (hm:w.cell? ⟨0,0,none⟩=some (.int .i64 m)) :
 Calls Tryz.prog 13 #[.slice a L c] w fun e w'=>e=.returned (.string ⟨(bF l).toArray⟩)∧Below w.heap.size w w':=by
 have hB0:=dI hm;have hc6:=dN;have hLb:=cR (by decide) ha;have HL:=Hd (vZ ha);have HA:=Hd ha;have HX:=Hd hx;have HM:=Hd hm;obtain⟨W,hW⟩:∃W,W=w.alloc (.cells #[.pointer none,.slice none 0 0,.bool false] 65):=⟨_,rfl⟩;have hWr:Wr W w.heap.size w.heap.size [] false:=by rw [hW];exact Wr.new w
 have hkW:K0 w W:=by rw [hW];exact (aB.refl _ _).alloc _
 have hbW:Wk w.heap.size w.heap.size w W:=by rw [hW];exact (Wk.refl _ _ _).alloc _
 have HPT:=Hd (fun V ac (hwv:Wr V w.heap.size w.heap.size ac false) (hv:Wk w.heap.size w.heap.size w V) (hl:ac.length+(aL false l).length≤20000)=>(by
  obtain⟨stop,d,hok⟩:=hx.ok;exact s9 _ l stop false d hok (Nat.lt_succ_self _) w.heap.size w.heap.size ac m V (fun g=>D g∧g<w.heap.size) a L c hwv ((ha.mono (D':=fun g=>D g∧g<w.heap.size) (fun b hb hd=>⟨hd,hb⟩)).keep (gL (hv.below (Nat.le_refl _))) (fun g _ hg h9=>absurd hg.2 (by omega))) (fun g hg=>hg.2) (by rw [(hv.below (Nat.le_refl _)).cell (p:=⟨0,0,none⟩) hB0];exact hm) hB0 hl hv.size:Calls Tryz.prog 27 #[.pointer (some ⟨w.heap.size,0,none⟩),.slice a L c] V fun e w'=>e=.returned (.tuple #[])∧Wr w' w.heap.size w.heap.size (ac++aL false l) false∧Wk w.heap.size w.heap.size V w'))
 have HBW:=Hd hbW;have HWW:=Hd hWr;have HWE:=Hd hW;obtain⟨S,hS⟩:∃S:ByteArray,S=⟨(bF l).toArray⟩:=⟨_,rfl⟩;rw [←hS];have HS:=Hd hS;have hlen:=hx.len;clear ha hx hm hWr hkW hbW hW hS;by_cases hL0:L=0
 ·subst hL0;have hS0:S=⟨#[]⟩:=by rw [HS.o,List.eq_nil_of_length_eq_zero HL.o.symm];rfl
  have p1:¬(0:Int)<((0:Nat):Int):=by omega
  go_enter Tryz.func13,Tryz.ntmps13;go_upto_region 2 with fail;rw [←HWE.o];go_wp2_with fail;refine (xE w.heap.size a c _).mono ?_;rintro e w2 ⟨rfl,rfl⟩;go_wp2_with fail;refine (C8 w.heap.size w.heap.size _ (by rw [HWE.o];exact heap_alloc_new w _)).mono ?_;rintro e w3 ⟨rfl,hb3⟩;have HB3:=Hd ((HBW.o.below (Nat.le_refl _)).trans hb3);clear hb3;go_wp2_with fail;go_ret;exact⟨by rw [hS0];rfl,HB3.o⟩
 ·have HNE:=Hd (show bF l≠[] from by
   obtain⟨stop,d,hok⟩:=HX.o.ok;exact L9 (fun h0=>hL0 (by rw [HL.o,h0];rfl)) hok)
  have hl2:0<l.length:=by rw [←HL.o];omega
  obtain⟨g,o,xa,xl,xc,rfl,hg,hdg,⟨q0,q1,q2,q3,q4,q5⟩,hxw⟩:=Ot (aE HA.o (show K0 w W by rw [HWE.o];exact (aB.refl _ _).alloc _)) hl2;obtain⟨x,t,hxt⟩:∃x t,l=x::t:=by
   cases l with
   | nil=>simp at hl2
   | cons x t=>exact⟨x,t,rfl⟩
  have hx0:l[0]=x:=by subst hxt;rfl
  rw [hx0] at q0 q1;simp only [Nat.zero_mul,Nat.add_zero] at q0 q1;obtain⟨T,hT⟩:∃T:ByteArray,T=⟨x.text.toArray⟩:=⟨_,rfl⟩;rw [←hT] at q1;obtain⟨kx,hkx⟩:∃kx:Int,kx=(x.kind:Nat):=⟨_,rfl⟩;rw [←hkx] at q0;have p1:(0:Int)<(L:Int):=by omega
  have p2:0<L:=by omega
  have hsh:nI l=if x.kind==1 && aI [35] x.text then [39,39] else []:=by rw [hxt];rfl
  clear hxw hx0 hl2 q2 q3 q4 q5;by_cases hk1:x.kind=1
  ·have e1:kx=1:=by rw [hkx,hk1];rfl
   subst e1;rw [show (x.kind==1)=true by rw [hk1];rfl,Bool.true_and] at hsh;cases hp9:aI [35] x.text with
   | false=>
    rw [hp9,if_neg (by simp)] at hsh;have HWS:=Hd (show bF l=aL false l by unfold bF;rw [hsh,List.nil_append]);have hlen2:(aL false l).length≤20000:=by rw [←HWS.o];exact hlen
    have HPF:=Hd (show ∀w,Calls Tryz.prog 25 #[.string T,.string ⟨#[35]⟩] w (fun e w'=>e=.returned (.bool false)∧w'=w) from fun w=>(Tryz.strings_HasPrefix T ⟨#[35]⟩ w).mono fun e w' h=>by rw [show T.data.toList=x.text by rw [hT,fD],show (⟨#[35]⟩:ByteArray).data.toList=[35] from rfl,yB,hp9] at h;exact h);clear hk1 hp9 hT hsh hkx hxt;go_enter Tryz.func13,Tryz.ntmps13;go_upto_region 2 with fail
    rw [←HWE.o];go_wp2_with fail;refine (HPF.o _).mono ?_;rintro e w1 ⟨rfl,rfl⟩;go_wp2_with fail;refine (HPT.o _ _ HWW.o HBW.o (by simpa using hlen2)).mono ?_;rintro e w2 ⟨rfl,hw2,hb2⟩;have HW2:=Hd hw2;have HB2:=Hd (HBW.o.trans hb2);clear hw2 hb2;go_wp2_with fail;refine (rQ w.heap.size w.heap.size (bF l) false _ (by rw [HWS.o];simpa using HW2.o) HNE.o).mono ?_;rintro e w3 ⟨rfl,hb3⟩
    rw [←HS.o];have HB3:=Hd ((HB2.o.below (Nat.le_refl _)).trans hb3);clear hb3;go_wp2_with fail;go_ret;exact⟨rfl,HB3.o⟩
   | true=>
    rw [hp9,if_pos rfl] at hsh;have HWS:=Hd (show bF l=[39,39]++aL false l by unfold bF;rw [hsh]);have hlen2:2+(aL false l).length≤20000:=by
     have h9:=hlen;rw [HWS.o,lA] at h9;exact h9
    have HPF:=Hd (show ∀w,Calls Tryz.prog 25 #[.string T,.string ⟨#[35]⟩] w (fun e w'=>e=.returned (.bool true)∧w'=w) from fun w=>(Tryz.strings_HasPrefix T ⟨#[35]⟩ w).mono fun e w' h=>by rw [show T.data.toList=x.text by rw [hT,fD],show (⟨#[35]⟩:ByteArray).data.toList=[35] from rfl,yB,hp9] at h;exact h);clear hk1 hp9 hT hsh hkx hxt;go_enter Tryz.func13,Tryz.ntmps13;go_upto_region 2 with fail
    rw [←HWE.o];go_wp2_with fail;refine (HPF.o _).mono ?_;rintro e w1 ⟨rfl,rfl⟩;go_wp2_with fail;refine (iS w.heap.size w.heap.size [] false ⟨#[39,39]⟩ _ HWW.o (by show 0+2≤_;omega) HBW.o.size).mono ?_;rintro e w4 ⟨rfl,hw4,hb4⟩;have HW4:=Hd hw4;have HB4:=Hd (HBW.o.trans hb4);clear hw4 hb4;go_wp2_with fail;refine (HPT.o _ _ HW4.o HB4.o (by show 2+_≤_;exact hlen2)).mono ?_;rintro e w2 ⟨rfl,hw2,hb2⟩
    have HW2:=Hd hw2;have HB2:=Hd (HB4.o.trans hb2);clear hw2 hb2;go_wp2_with fail;refine (rQ w.heap.size w.heap.size (bF l) false _ (by rw [HWS.o];exact HW2.o) HNE.o).mono ?_;rintro e w3 ⟨rfl,hb3⟩;rw [←HS.o];have HB3:=Hd ((HB2.o.below (Nat.le_refl _)).trans hb3);clear hb3;go_wp2_with fail;go_ret;exact⟨rfl,HB3.o⟩
  ·have t1:(kx==1)=false:=by rw [beq_eq_false_iff_ne,hkx];omega
   rw [show (x.kind==1)=false from beq_eq_false_iff_ne.2 hk1,Bool.false_and,if_neg (by simp)] at hsh;have HWS:=Hd (show bF l=aL false l by unfold bF;rw [hsh,List.nil_append]);have hlen2:(aL false l).length≤20000:=by rw [←HWS.o];exact hlen
   clear hk1 hT hsh hkx hxt;go_enter Tryz.func13,Tryz.ntmps13;go_upto_region 2 with fail;rw [←HWE.o];go_wp2_with fail;refine (HPT.o _ _ HWW.o HBW.o (by simpa using hlen2)).mono ?_;rintro e w2 ⟨rfl,hw2,hb2⟩;have HW2:=Hd hw2;have HB2:=Hd (HBW.o.trans hb2);clear hw2 hb2;go_wp2_with fail;refine (rQ w.heap.size w.heap.size (bF l) false _ (by rw [HWS.o];simpa using HW2.o) HNE.o).mono ?_
   rintro e w3 ⟨rfl,hb3⟩;rw [←HS.o];have HB3:=Hd ((HB2.o.below (Nat.le_refl _)).trans hb3);clear hb3;go_wp2_with fail;go_ret;exact⟨rfl,HB3.o⟩
end Go.Proofs.YtiihpbccabeoeaaGreatDoor
