/- The walk: a part. -/
import Derived.Test.YtiihpbccabeoeaaGreatDoorYPwD
namespace Go.Proofs.YtiihpbccabeoeaaGreatDoor
open Go.RowKit
set_option linter.unusedVariables false
set_option maxRecDepth 100000
set_option maxHeartbeats 16000000
theorem Wr.rec {w:World} {B b:Nat} {l:List UInt8} {q:Bool} (h:Wr w B b l q):∃p v,w.heap[b]? = some (.cells #[p,v,.bool q] 65 (0,0)):=by
 rcases h with ⟨_,v,hb,_⟩ | ⟨_,v,hb,_⟩<;>exact⟨_,v,hb⟩
theorem Wr.turn {w:World} {B b:Nat} {l:List UInt8} {q:Bool} (h:Wr w B b l q) (p:Bool):Wr (w.setCell ⟨b,2,none⟩ (.bool p)) B b l p:=by
 have key:∀pv,WrAt w B b pv l q→WrAt (w.setCell ⟨b,2,none⟩ (.bool p)) B b pv l p:=fun pv h=>by
  obtain⟨hB,v,hb,hown⟩:=h;have hne:=wr_ne hb hown;refine⟨hB,v,?_,?_⟩
  ·simp [World.setCell,Array.getElem?_modify,hb]
  ·exact hown.kept (row:=some b) ⟨rfl,rfl,rfl,by simp [World.setCell],fun k _ hk=>Below.heap_setCell _ _ _ _ (fun e=>hk (by simp [e]))⟩ (Or.inr hne)
 exact h.imp (key _) (key _)
theorem dol_4o (B b:Nat) (l:Bs) (T N O:ByteArray) (xa:Option Addr) (xl xc:Nat) (w:World) (h:Wr w B b l false) (hBw:B≤w.heap.size) (hlen:l.length+T.size≤400000) :
 Calls Tryz.prog 50 #[.pointer (some ⟨b,0,none⟩),.agg #[.int .i64 4,.string T,.string N,.string O,.slice xa xl xc,.bool true]] w fun e w'=>e=.returned (.tuple #[])∧Wr w' B b (l++34::(36::40::40::(T.data.toList++[41,41])++[34])) false∧Wk B b w w':=by
 have HW0:=Lib.hid h;have hblt:=h.lt;have hBb:=h.le;clear h;obtain⟨W,hW⟩:∃W,W=w.alloc (.cells #[.int .i64 4,.string T,.string N,.string O,.slice xa xl xc,.bool true] 67):=⟨_,rfl⟩;have HKW:=Hd (show Keeps (fun _=>False) w W by rw [hW];exact (Keeps.refl _ _).alloc _);have HBW:=Hd (show Wk B b w W by rw [hW];exact (Wk.refl B b w).alloc _);have HR:=Hd (show W.heap[w.heap.size]? = some (.cells #[.int .i64 4,.string T,.string N,.string O,.slice xa xl xc,.bool true] 67 (0,0)) by rw [hW];exact heap_alloc_new w _)
 have HWE:=Hd hW;clear hW;obtain⟨R,hRe⟩:∃R,R=w.heap.size:=⟨_,rfl⟩;have hbR:b≠R:=by omega
 have hRb:R≠b:=by omega
 have HRB:=Hd hRe;rw [←hRe] at HR;clear hRe;go_enter Tryz.func50,Tryz.ntmps50;go_upto_region 1 with fail;rw [←HWE.out,←HRB.out];obtain⟨c0,c1,c2,c3,c4,c5⟩:=sixRec HR.out;have HW1:=Hd (HW0.out.below HKW.out);obtain⟨pv,vv,hrec⟩:=HW1.out.rec;have d2:W.cell? ⟨b,2,none⟩=some (.bool false):=HW1.out.flag;have f2:W.frozen? ⟨b,2,none⟩=false:=Lib.frozen_of_heap hrec 2;go_wp2_with fail;clear hrec;refine (byte_k B b _ false 34 _ HW1.out (by omega) (Nat.le_trans hBw HKW.out.size)).mono ?_
 rintro e w2 ⟨rfl,hw2,hb2⟩;have HR2:=Hd (hb2.heap HR.out hRb (fun cs fr e=>by injection e with _ e2 _;exact absurd e2 (by decide)));have HB2:=Hd (HBW.out.trans hb2);have HW2:=Hd hw2;clear c0 c1 c2 c3 c4 c5 d2 f2 hb2 hw2;obtain⟨c0,c1,c2,c3,c4,c5⟩:=sixRec HR2.out;obtain⟨pv2,vv2,hrec⟩:=HW2.out.rec;have d2:w2.cell? ⟨b,2,none⟩=some (.bool false):=HW2.out.flag;have f2:w2.frozen? ⟨b,2,none⟩=false:=Lib.frozen_of_heap hrec 2
 clear hrec;obtain⟨V,hV⟩:∃V,V=w2.setCell ⟨b,2,none⟩ (.bool true):=⟨_,rfl⟩;have HVE:=Hd hV;have HWV:=Hd (show Wr V B b (l++[34]) true by rw [hV];exact HW2.out.turn true);have HBV:=Hd (show Wk B b w V by rw [hV];exact HB2.out.trans (Keeps.setCell (Keeps.refl _ _) ⟨b,2,none⟩ _ (fun _=>⟨hBb,.inl rfl⟩)));have HRV:=Hd (show V.heap[R]? = some (.cells #[.int .i64 4,.string T,.string N,.string O,.slice xa xl xc,.bool true] 67 (0,0)) by rw [hV];exact (show Wk B b w2 _ from Keeps.setCell (Keeps.refl _ _) ⟨b,2,none⟩ _ (fun _=>⟨hBb,.inl rfl⟩)).heap HR2.out hRb (fun cs fr e=>by injection e with _ e2 _;exact absurd e2 (by decide)))
 clear hV;go_upto_region 6 with fail;rw [←HVE.out];clear c0 c1 c2 c3 c4 c5 d2 f2;obtain⟨c0,c1,c2,c3,c4,c5⟩:=sixRec HRV.out;have s3:(⟨#[36,40,40]⟩:ByteArray).size=3:=rfl;have s1:(⟨#[41,41]⟩:ByteArray).size=2:=rfl;have ht9:T.size≤400000:=by omega
 go_wp2_with fail;go_region_with (go_at_call 26;refine (str_k B b (l++[34]) true _ _ (HWV.out.below ((Keeps.refl _ V).drew)) (by simp only [ByteArray.size_append,s3,s1,List.length_append,List.length_cons,List.length_nil];omega) (Nat.le_trans hBw HBV.out.size)).mono ?_;rintro e w4 ⟨rfl,hw4,hb4⟩;have HW4:=Hd hw4;have HB4:=Hd (HBV.out.trans (((Wk.refl B b V).drew).trans hb4));clear hw4 hb4)
 all_goals obtain⟨pv4,vv4,hrec4⟩:=HW4.out.rec
 all_goals have d4:w4.cell? ⟨b,2,none⟩=some (.bool true):=HW4.out.flag
 all_goals have f4:w4.frozen? ⟨b,2,none⟩=false:=Lib.frozen_of_heap hrec4 2
 all_goals clear hrec4
 all_goals obtain⟨U,hU⟩:∃U,U=w4.setCell ⟨b,2,none⟩ (.bool false):=⟨_,rfl⟩
 all_goals have HWU:=Hd (show Wr U B b ((l++[34])++((⟨#[36,40,40]⟩:ByteArray)++T++⟨#[41,41]⟩).data.toList) false by rw [hU];exact HW4.out.turn false)
 all_goals have HBU:=Hd (show Wk B b w U by rw [hU];exact HB4.out.trans (Keeps.setCell (Keeps.refl _ _) ⟨b,2,none⟩ _ (fun _=>⟨hBb,.inl rfl⟩)))
 all_goals have HUE:=Hd hU
 all_goals clear hU
 all_goals go_upto_region 14 with fail
 all_goals rw [←HUE.out]
 all_goals go_wp2_with fail
 all_goals refine (byte_k B b _ false 34 _ HWU.out (by simp only [ByteArray.data_append,Array.toList_append,List.length_append,List.length_cons,List.length_nil,←Lib.size_eq];omega) (Nat.le_trans hBw HBU.out.size)).mono ?_
 all_goals rintro e w5 ⟨rfl,hw5,hb5⟩
 all_goals have HW5:=Hd hw5
 all_goals have HB5:=Hd (HBU.out.trans hb5)
 all_goals clear hw5 hb5
 all_goals go_wp2_with fail
 all_goals go_end0
 all_goals refine⟨rfl,?_,HB5.out⟩
 all_goals have h9:=HW5.out
 all_goals simpa using h9
theorem dol_4i (B b:Nat) (l:Bs) (T N O:ByteArray) (xa:Option Addr) (xl xc:Nat) (w:World) (h:Wr w B b l true) (hBw:B≤w.heap.size) (hlen:l.length+T.size≤400000) :
 Calls Tryz.prog 50 #[.pointer (some ⟨b,0,none⟩),.agg #[.int .i64 4,.string T,.string N,.string O,.slice xa xl xc,.bool true]] w fun e w'=>e=.returned (.tuple #[])∧Wr w' B b (l++36::40::40::(T.data.toList++[41,41])) true∧Wk B b w w':=by
 have HW0:=Lib.hid h;have hblt:=h.lt;have hBb:=h.le;clear h;obtain⟨W,hW⟩:∃W,W=w.alloc (.cells #[.int .i64 4,.string T,.string N,.string O,.slice xa xl xc,.bool true] 67):=⟨_,rfl⟩;have HKW:=Hd (show Keeps (fun _=>False) w W by rw [hW];exact (Keeps.refl _ _).alloc _);have HBW:=Hd (show Wk B b w W by rw [hW];exact (Wk.refl B b w).alloc _);have HR:=Hd (show W.heap[w.heap.size]? = some (.cells #[.int .i64 4,.string T,.string N,.string O,.slice xa xl xc,.bool true] 67 (0,0)) by rw [hW];exact heap_alloc_new w _)
 have HWE:=Hd hW;clear hW;obtain⟨R,hRe⟩:∃R,R=w.heap.size:=⟨_,rfl⟩;have hbR:b≠R:=by omega
 have hRb:R≠b:=by omega
 have HRB:=Hd hRe;rw [←hRe] at HR;clear hRe;go_enter Tryz.func50,Tryz.ntmps50;go_upto_region 1 with fail;rw [←HWE.out,←HRB.out];obtain⟨c0,c1,c2,c3,c4,c5⟩:=sixRec HR.out;have HW1:=Hd (HW0.out.below HKW.out);obtain⟨pv,vv,hrec⟩:=HW1.out.rec;have d2:W.cell? ⟨b,2,none⟩=some (.bool true):=HW1.out.flag;have f2:W.frozen? ⟨b,2,none⟩=false:=Lib.frozen_of_heap hrec 2;clear hrec;obtain⟨V,hV⟩:∃V,V=W.setCell ⟨b,2,none⟩ (.bool true):=⟨_,rfl⟩
 have HVE:=Hd hV;have HWV:=Hd (show Wr V B b l true by rw [hV];exact HW1.out.turn true);have HBV:=Hd (show Wk B b w V by rw [hV];exact HBW.out.trans (Keeps.setCell (Keeps.refl _ _) ⟨b,2,none⟩ _ (fun _=>⟨hBb,.inl rfl⟩)));have HRV:=Hd (show V.heap[R]? = some (.cells #[.int .i64 4,.string T,.string N,.string O,.slice xa xl xc,.bool true] 67 (0,0)) by rw [hV];exact (show Wk B b W _ from Keeps.setCell (Keeps.refl _ _) ⟨b,2,none⟩ _ (fun _=>⟨hBb,.inl rfl⟩)).heap HR.out hRb (fun cs fr e=>by injection e with _ e2 _;exact absurd e2 (by decide)))
 clear hV;go_upto_region 6 with fail;rw [←HVE.out];clear c0 c1 c2 c3 c4 c5 d2 f2;obtain⟨c0,c1,c2,c3,c4,c5⟩:=sixRec HRV.out;have s3:(⟨#[36,40,40]⟩:ByteArray).size=3:=rfl;have s1:(⟨#[41,41]⟩:ByteArray).size=2:=rfl;have ht9:T.size≤400000:=by omega
 go_wp2_with fail;go_region_with (go_at_call 26;refine (str_k B b l true _ _ (HWV.out.below ((Keeps.refl _ V).drew)) (by simp only [ByteArray.size_append,s3,s1];omega) (Nat.le_trans hBw HBV.out.size)).mono ?_;rintro e w4 ⟨rfl,hw4,hb4⟩;have HW4:=Hd hw4;have HB4:=Hd (HBV.out.trans (((Wk.refl B b V).drew).trans hb4));clear hw4 hb4)
 all_goals obtain⟨pv4,vv4,hrec4⟩:=HW4.out.rec
 all_goals have d4:w4.cell? ⟨b,2,none⟩=some (.bool true):=HW4.out.flag
 all_goals have f4:w4.frozen? ⟨b,2,none⟩=false:=Lib.frozen_of_heap hrec4 2
 all_goals clear hrec4
 all_goals obtain⟨U,hU⟩:∃U,U=w4.setCell ⟨b,2,none⟩ (.bool true):=⟨_,rfl⟩
 all_goals have HWU:=Hd (show Wr U B b (l++((⟨#[36,40,40]⟩:ByteArray)++T++⟨#[41,41]⟩).data.toList) true by rw [hU];exact HW4.out.turn true)
 all_goals have HBU:=Hd (show Wk B b w U by rw [hU];exact HB4.out.trans (Keeps.setCell (Keeps.refl _ _) ⟨b,2,none⟩ _ (fun _=>⟨hBb,.inl rfl⟩)))
 all_goals have HUE:=Hd hU
 all_goals clear hU
 all_goals go_upto_region 14 with fail
 all_goals rw [←HUE.out]
 all_goals go_wp2_with fail
 all_goals go_end0
 all_goals refine⟨rfl,?_,HBU.out⟩
 all_goals have h9:=HWU.out
 all_goals simpa using h9
theorem dol_4p (B b:Nat) (l:Bs) (q:Bool) (T N O:ByteArray) (xa:Option Addr) (xl xc:Nat) (w:World) (h:Wr w B b l q) (hBw:B≤w.heap.size) (hlen:l.length+T.size≤400000) :
 Calls Tryz.prog 50 #[.pointer (some ⟨b,0,none⟩),.agg #[.int .i64 4,.string T,.string N,.string O,.slice xa xl xc,.bool false]] w fun e w'=>e=.returned (.tuple #[])∧Wr w' B b (l++36::40::40::(T.data.toList++[41,41])) q∧Wk B b w w':=by
 have HW0:=Lib.hid h;have hblt:=h.lt;have hBb:=h.le;clear h;obtain⟨W,hW⟩:∃W,W=w.alloc (.cells #[.int .i64 4,.string T,.string N,.string O,.slice xa xl xc,.bool false] 67):=⟨_,rfl⟩;have HKW:=Hd (show Keeps (fun _=>False) w W by rw [hW];exact (Keeps.refl _ _).alloc _);have HBW:=Hd (show Wk B b w W by rw [hW];exact (Wk.refl B b w).alloc _);have HR:=Hd (show W.heap[w.heap.size]? = some (.cells #[.int .i64 4,.string T,.string N,.string O,.slice xa xl xc,.bool false] 67 (0,0)) by rw [hW];exact heap_alloc_new w _)
 have HWE:=Hd hW;clear hW;obtain⟨R,hRe⟩:∃R,R=w.heap.size:=⟨_,rfl⟩;have hbR:b≠R:=by omega
 have hRb:R≠b:=by omega
 have HRB:=Hd hRe;rw [←hRe] at HR;clear hRe;go_enter Tryz.func50,Tryz.ntmps50;go_upto_region 1 with fail;rw [←HWE.out,←HRB.out];obtain⟨c0,c1,c2,c3,c4,c5⟩:=sixRec HR.out;have HW1:=Hd (HW0.out.below HKW.out);obtain⟨pv,vv,hrec⟩:=HW1.out.rec;have d2:W.cell? ⟨b,2,none⟩=some (.bool q):=HW1.out.flag;have f2:W.frozen? ⟨b,2,none⟩=false:=Lib.frozen_of_heap hrec 2;clear hrec;obtain⟨V,hV⟩:∃V,V=W.setCell ⟨b,2,none⟩ (.bool false):=⟨_,rfl⟩
 have HVE:=Hd hV;have HWV:=Hd (show Wr V B b l false by rw [hV];exact HW1.out.turn false);have HBV:=Hd (show Wk B b w V by rw [hV];exact HBW.out.trans (Keeps.setCell (Keeps.refl _ _) ⟨b,2,none⟩ _ (fun _=>⟨hBb,.inl rfl⟩)));have HRV:=Hd (show V.heap[R]? = some (.cells #[.int .i64 4,.string T,.string N,.string O,.slice xa xl xc,.bool false] 67 (0,0)) by rw [hV];exact (show Wk B b W _ from Keeps.setCell (Keeps.refl _ _) ⟨b,2,none⟩ _ (fun _=>⟨hBb,.inl rfl⟩)).heap HR.out hRb (fun cs fr e=>by injection e with _ e2 _;exact absurd e2 (by decide)))
 clear hV;go_upto_region 6 with fail;rw [←HVE.out];clear c0 c1 c2 c3 c4 c5 d2 f2;obtain⟨c0,c1,c2,c3,c4,c5⟩:=sixRec HRV.out;have s3:(⟨#[36,40,40]⟩:ByteArray).size=3:=rfl;have s1:(⟨#[41,41]⟩:ByteArray).size=2:=rfl;have ht9:T.size≤400000:=by omega
 go_wp2_with fail;go_region_with (go_at_call 26;refine (str_k B b l false _ _ (HWV.out.below ((Keeps.refl _ V).drew)) (by simp only [ByteArray.size_append,s3,s1];omega) (Nat.le_trans hBw HBV.out.size)).mono ?_;rintro e w4 ⟨rfl,hw4,hb4⟩;have HW4:=Hd hw4;have HB4:=Hd (HBV.out.trans (((Wk.refl B b V).drew).trans hb4));clear hw4 hb4)
 all_goals obtain⟨pv4,vv4,hrec4⟩:=HW4.out.rec
 all_goals have d4:w4.cell? ⟨b,2,none⟩=some (.bool false):=HW4.out.flag
 all_goals have f4:w4.frozen? ⟨b,2,none⟩=false:=Lib.frozen_of_heap hrec4 2
 all_goals clear hrec4
 all_goals obtain⟨U,hU⟩:∃U,U=w4.setCell ⟨b,2,none⟩ (.bool q):=⟨_,rfl⟩
 all_goals have HWU:=Hd (show Wr U B b (l++((⟨#[36,40,40]⟩:ByteArray)++T++⟨#[41,41]⟩).data.toList) q by rw [hU];exact HW4.out.turn q)
 all_goals have HBU:=Hd (show Wk B b w U by rw [hU];exact HB4.out.trans (Keeps.setCell (Keeps.refl _ _) ⟨b,2,none⟩ _ (fun _=>⟨hBb,.inl rfl⟩)))
 all_goals have HUE:=Hd hU
 all_goals clear hU
 all_goals go_upto_region 14 with fail
 all_goals rw [←HUE.out]
 all_goals go_wp2_with fail
 all_goals go_end0
 all_goals refine⟨rfl,?_,HBU.out⟩
 all_goals have h9:=HWU.out
 all_goals simpa using h9
theorem dol_5o (B b:Nat) (l:Bs) (T N O:ByteArray) (xa:Option Addr) (xl xc:Nat) (w:World) (h:Wr w B b l false) (hBw:B≤w.heap.size) (hlen:l.length+T.size≤400000) :
 Calls Tryz.prog 50 #[.pointer (some ⟨b,0,none⟩),.agg #[.int .i64 5,.string T,.string N,.string O,.slice xa xl xc,.bool true]] w fun e w'=>e=.returned (.tuple #[])∧Wr w' B b (l++34::(36::40::(T.data.toList++[41])++[34])) false∧Wk B b w w':=by
 have HW0:=Lib.hid h;have hblt:=h.lt;have hBb:=h.le;clear h;obtain⟨W,hW⟩:∃W,W=w.alloc (.cells #[.int .i64 5,.string T,.string N,.string O,.slice xa xl xc,.bool true] 67):=⟨_,rfl⟩;have HKW:=Hd (show Keeps (fun _=>False) w W by rw [hW];exact (Keeps.refl _ _).alloc _);have HBW:=Hd (show Wk B b w W by rw [hW];exact (Wk.refl B b w).alloc _);have HR:=Hd (show W.heap[w.heap.size]? = some (.cells #[.int .i64 5,.string T,.string N,.string O,.slice xa xl xc,.bool true] 67 (0,0)) by rw [hW];exact heap_alloc_new w _)
 have HWE:=Hd hW;clear hW;obtain⟨R,hRe⟩:∃R,R=w.heap.size:=⟨_,rfl⟩;have hbR:b≠R:=by omega
 have hRb:R≠b:=by omega
 have HRB:=Hd hRe;rw [←hRe] at HR;clear hRe;go_enter Tryz.func50,Tryz.ntmps50;go_upto_region 1 with fail;rw [←HWE.out,←HRB.out];obtain⟨c0,c1,c2,c3,c4,c5⟩:=sixRec HR.out;have HW1:=Hd (HW0.out.below HKW.out);obtain⟨pv,vv,hrec⟩:=HW1.out.rec;have d2:W.cell? ⟨b,2,none⟩=some (.bool false):=HW1.out.flag;have f2:W.frozen? ⟨b,2,none⟩=false:=Lib.frozen_of_heap hrec 2;go_wp2_with fail;clear hrec;refine (byte_k B b _ false 34 _ HW1.out (by omega) (Nat.le_trans hBw HKW.out.size)).mono ?_
 rintro e w2 ⟨rfl,hw2,hb2⟩;have HR2:=Hd (hb2.heap HR.out hRb (fun cs fr e=>by injection e with _ e2 _;exact absurd e2 (by decide)));have HB2:=Hd (HBW.out.trans hb2);have HW2:=Hd hw2;clear c0 c1 c2 c3 c4 c5 d2 f2 hb2 hw2;obtain⟨c0,c1,c2,c3,c4,c5⟩:=sixRec HR2.out;obtain⟨pv2,vv2,hrec⟩:=HW2.out.rec;have d2:w2.cell? ⟨b,2,none⟩=some (.bool false):=HW2.out.flag;have f2:w2.frozen? ⟨b,2,none⟩=false:=Lib.frozen_of_heap hrec 2
 clear hrec;obtain⟨V,hV⟩:∃V,V=w2.setCell ⟨b,2,none⟩ (.bool true):=⟨_,rfl⟩;have HVE:=Hd hV;have HWV:=Hd (show Wr V B b (l++[34]) true by rw [hV];exact HW2.out.turn true);have HBV:=Hd (show Wk B b w V by rw [hV];exact HB2.out.trans (Keeps.setCell (Keeps.refl _ _) ⟨b,2,none⟩ _ (fun _=>⟨hBb,.inl rfl⟩)));have HRV:=Hd (show V.heap[R]? = some (.cells #[.int .i64 5,.string T,.string N,.string O,.slice xa xl xc,.bool true] 67 (0,0)) by rw [hV];exact (show Wk B b w2 _ from Keeps.setCell (Keeps.refl _ _) ⟨b,2,none⟩ _ (fun _=>⟨hBb,.inl rfl⟩)).heap HR2.out hRb (fun cs fr e=>by injection e with _ e2 _;exact absurd e2 (by decide)))
 clear hV;go_upto_region 6 with fail;rw [←HVE.out];clear c0 c1 c2 c3 c4 c5 d2 f2;obtain⟨c0,c1,c2,c3,c4,c5⟩:=sixRec HRV.out;have s3:(⟨#[36,40]⟩:ByteArray).size=2:=rfl;have s1:(⟨#[41]⟩:ByteArray).size=1:=rfl;have ht9:T.size≤400000:=by omega
 go_wp2_with fail;go_region_with (go_at_call 26;refine (str_k B b (l++[34]) true _ _ (HWV.out.below ((Keeps.refl _ V).drew)) (by simp only [ByteArray.size_append,s3,s1,List.length_append,List.length_cons,List.length_nil];omega) (Nat.le_trans hBw HBV.out.size)).mono ?_;rintro e w4 ⟨rfl,hw4,hb4⟩;have HW4:=Hd hw4;have HB4:=Hd (HBV.out.trans (((Wk.refl B b V).drew).trans hb4));clear hw4 hb4)
 all_goals obtain⟨pv4,vv4,hrec4⟩:=HW4.out.rec
 all_goals have d4:w4.cell? ⟨b,2,none⟩=some (.bool true):=HW4.out.flag
 all_goals have f4:w4.frozen? ⟨b,2,none⟩=false:=Lib.frozen_of_heap hrec4 2
 all_goals clear hrec4
 all_goals obtain⟨U,hU⟩:∃U,U=w4.setCell ⟨b,2,none⟩ (.bool false):=⟨_,rfl⟩
 all_goals have HWU:=Hd (show Wr U B b ((l++[34])++((⟨#[36,40]⟩:ByteArray)++T++⟨#[41]⟩).data.toList) false by rw [hU];exact HW4.out.turn false)
 all_goals have HBU:=Hd (show Wk B b w U by rw [hU];exact HB4.out.trans (Keeps.setCell (Keeps.refl _ _) ⟨b,2,none⟩ _ (fun _=>⟨hBb,.inl rfl⟩)))
 all_goals have HUE:=Hd hU
 all_goals clear hU
 all_goals go_upto_region 14 with fail
 all_goals rw [←HUE.out]
 all_goals go_wp2_with fail
 all_goals refine (byte_k B b _ false 34 _ HWU.out (by simp only [ByteArray.data_append,Array.toList_append,List.length_append,List.length_cons,List.length_nil,←Lib.size_eq];omega) (Nat.le_trans hBw HBU.out.size)).mono ?_
 all_goals rintro e w5 ⟨rfl,hw5,hb5⟩
 all_goals have HW5:=Hd hw5
 all_goals have HB5:=Hd (HBU.out.trans hb5)
 all_goals clear hw5 hb5
 all_goals go_wp2_with fail
 all_goals go_end0
 all_goals refine⟨rfl,?_,HB5.out⟩
 all_goals have h9:=HW5.out
 all_goals simpa using h9
theorem dol_5i (B b:Nat) (l:Bs) (T N O:ByteArray) (xa:Option Addr) (xl xc:Nat) (w:World) (h:Wr w B b l true) (hBw:B≤w.heap.size) (hlen:l.length+T.size≤400000) :
 Calls Tryz.prog 50 #[.pointer (some ⟨b,0,none⟩),.agg #[.int .i64 5,.string T,.string N,.string O,.slice xa xl xc,.bool true]] w fun e w'=>e=.returned (.tuple #[])∧Wr w' B b (l++36::40::(T.data.toList++[41])) true∧Wk B b w w':=by
 have HW0:=Lib.hid h;have hblt:=h.lt;have hBb:=h.le;clear h;obtain⟨W,hW⟩:∃W,W=w.alloc (.cells #[.int .i64 5,.string T,.string N,.string O,.slice xa xl xc,.bool true] 67):=⟨_,rfl⟩;have HKW:=Hd (show Keeps (fun _=>False) w W by rw [hW];exact (Keeps.refl _ _).alloc _);have HBW:=Hd (show Wk B b w W by rw [hW];exact (Wk.refl B b w).alloc _);have HR:=Hd (show W.heap[w.heap.size]? = some (.cells #[.int .i64 5,.string T,.string N,.string O,.slice xa xl xc,.bool true] 67 (0,0)) by rw [hW];exact heap_alloc_new w _)
 have HWE:=Hd hW;clear hW;obtain⟨R,hRe⟩:∃R,R=w.heap.size:=⟨_,rfl⟩;have hbR:b≠R:=by omega
 have hRb:R≠b:=by omega
 have HRB:=Hd hRe;rw [←hRe] at HR;clear hRe;go_enter Tryz.func50,Tryz.ntmps50;go_upto_region 1 with fail;rw [←HWE.out,←HRB.out];obtain⟨c0,c1,c2,c3,c4,c5⟩:=sixRec HR.out;have HW1:=Hd (HW0.out.below HKW.out);obtain⟨pv,vv,hrec⟩:=HW1.out.rec;have d2:W.cell? ⟨b,2,none⟩=some (.bool true):=HW1.out.flag;have f2:W.frozen? ⟨b,2,none⟩=false:=Lib.frozen_of_heap hrec 2;clear hrec;obtain⟨V,hV⟩:∃V,V=W.setCell ⟨b,2,none⟩ (.bool true):=⟨_,rfl⟩
 have HVE:=Hd hV;have HWV:=Hd (show Wr V B b l true by rw [hV];exact HW1.out.turn true);have HBV:=Hd (show Wk B b w V by rw [hV];exact HBW.out.trans (Keeps.setCell (Keeps.refl _ _) ⟨b,2,none⟩ _ (fun _=>⟨hBb,.inl rfl⟩)));have HRV:=Hd (show V.heap[R]? = some (.cells #[.int .i64 5,.string T,.string N,.string O,.slice xa xl xc,.bool true] 67 (0,0)) by rw [hV];exact (show Wk B b W _ from Keeps.setCell (Keeps.refl _ _) ⟨b,2,none⟩ _ (fun _=>⟨hBb,.inl rfl⟩)).heap HR.out hRb (fun cs fr e=>by injection e with _ e2 _;exact absurd e2 (by decide)))
 clear hV;go_upto_region 6 with fail;rw [←HVE.out];clear c0 c1 c2 c3 c4 c5 d2 f2;obtain⟨c0,c1,c2,c3,c4,c5⟩:=sixRec HRV.out;have s3:(⟨#[36,40]⟩:ByteArray).size=2:=rfl;have s1:(⟨#[41]⟩:ByteArray).size=1:=rfl;have ht9:T.size≤400000:=by omega
 go_wp2_with fail;go_region_with (go_at_call 26;refine (str_k B b l true _ _ (HWV.out.below ((Keeps.refl _ V).drew)) (by simp only [ByteArray.size_append,s3,s1];omega) (Nat.le_trans hBw HBV.out.size)).mono ?_;rintro e w4 ⟨rfl,hw4,hb4⟩;have HW4:=Hd hw4;have HB4:=Hd (HBV.out.trans (((Wk.refl B b V).drew).trans hb4));clear hw4 hb4)
 all_goals obtain⟨pv4,vv4,hrec4⟩:=HW4.out.rec
 all_goals have d4:w4.cell? ⟨b,2,none⟩=some (.bool true):=HW4.out.flag
 all_goals have f4:w4.frozen? ⟨b,2,none⟩=false:=Lib.frozen_of_heap hrec4 2
 all_goals clear hrec4
 all_goals obtain⟨U,hU⟩:∃U,U=w4.setCell ⟨b,2,none⟩ (.bool true):=⟨_,rfl⟩
 all_goals have HWU:=Hd (show Wr U B b (l++((⟨#[36,40]⟩:ByteArray)++T++⟨#[41]⟩).data.toList) true by rw [hU];exact HW4.out.turn true)
 all_goals have HBU:=Hd (show Wk B b w U by rw [hU];exact HB4.out.trans (Keeps.setCell (Keeps.refl _ _) ⟨b,2,none⟩ _ (fun _=>⟨hBb,.inl rfl⟩)))
 all_goals have HUE:=Hd hU
 all_goals clear hU
 all_goals go_upto_region 14 with fail
 all_goals rw [←HUE.out]
 all_goals go_wp2_with fail
 all_goals go_end0
 all_goals refine⟨rfl,?_,HBU.out⟩
 all_goals have h9:=HWU.out
 all_goals simpa using h9
theorem dol_5p (B b:Nat) (l:Bs) (q:Bool) (T N O:ByteArray) (xa:Option Addr) (xl xc:Nat) (w:World) (h:Wr w B b l q) (hBw:B≤w.heap.size) (hlen:l.length+T.size≤400000) :
 Calls Tryz.prog 50 #[.pointer (some ⟨b,0,none⟩),.agg #[.int .i64 5,.string T,.string N,.string O,.slice xa xl xc,.bool false]] w fun e w'=>e=.returned (.tuple #[])∧Wr w' B b (l++36::40::(T.data.toList++[41])) q∧Wk B b w w':=by
 have HW0:=Lib.hid h;have hblt:=h.lt;have hBb:=h.le;clear h;obtain⟨W,hW⟩:∃W,W=w.alloc (.cells #[.int .i64 5,.string T,.string N,.string O,.slice xa xl xc,.bool false] 67):=⟨_,rfl⟩;have HKW:=Hd (show Keeps (fun _=>False) w W by rw [hW];exact (Keeps.refl _ _).alloc _);have HBW:=Hd (show Wk B b w W by rw [hW];exact (Wk.refl B b w).alloc _);have HR:=Hd (show W.heap[w.heap.size]? = some (.cells #[.int .i64 5,.string T,.string N,.string O,.slice xa xl xc,.bool false] 67 (0,0)) by rw [hW];exact heap_alloc_new w _)
 have HWE:=Hd hW;clear hW;obtain⟨R,hRe⟩:∃R,R=w.heap.size:=⟨_,rfl⟩;have hbR:b≠R:=by omega
 have hRb:R≠b:=by omega
 have HRB:=Hd hRe;rw [←hRe] at HR;clear hRe;go_enter Tryz.func50,Tryz.ntmps50;go_upto_region 1 with fail;rw [←HWE.out,←HRB.out];obtain⟨c0,c1,c2,c3,c4,c5⟩:=sixRec HR.out;have HW1:=Hd (HW0.out.below HKW.out);obtain⟨pv,vv,hrec⟩:=HW1.out.rec;have d2:W.cell? ⟨b,2,none⟩=some (.bool q):=HW1.out.flag;have f2:W.frozen? ⟨b,2,none⟩=false:=Lib.frozen_of_heap hrec 2;clear hrec;obtain⟨V,hV⟩:∃V,V=W.setCell ⟨b,2,none⟩ (.bool false):=⟨_,rfl⟩
 have HVE:=Hd hV;have HWV:=Hd (show Wr V B b l false by rw [hV];exact HW1.out.turn false);have HBV:=Hd (show Wk B b w V by rw [hV];exact HBW.out.trans (Keeps.setCell (Keeps.refl _ _) ⟨b,2,none⟩ _ (fun _=>⟨hBb,.inl rfl⟩)));have HRV:=Hd (show V.heap[R]? = some (.cells #[.int .i64 5,.string T,.string N,.string O,.slice xa xl xc,.bool false] 67 (0,0)) by rw [hV];exact (show Wk B b W _ from Keeps.setCell (Keeps.refl _ _) ⟨b,2,none⟩ _ (fun _=>⟨hBb,.inl rfl⟩)).heap HR.out hRb (fun cs fr e=>by injection e with _ e2 _;exact absurd e2 (by decide)))
 clear hV;go_upto_region 6 with fail;rw [←HVE.out];clear c0 c1 c2 c3 c4 c5 d2 f2;obtain⟨c0,c1,c2,c3,c4,c5⟩:=sixRec HRV.out;have s3:(⟨#[36,40]⟩:ByteArray).size=2:=rfl;have s1:(⟨#[41]⟩:ByteArray).size=1:=rfl;have ht9:T.size≤400000:=by omega
 go_wp2_with fail;go_region_with (go_at_call 26;refine (str_k B b l false _ _ (HWV.out.below ((Keeps.refl _ V).drew)) (by simp only [ByteArray.size_append,s3,s1];omega) (Nat.le_trans hBw HBV.out.size)).mono ?_;rintro e w4 ⟨rfl,hw4,hb4⟩;have HW4:=Hd hw4;have HB4:=Hd (HBV.out.trans (((Wk.refl B b V).drew).trans hb4));clear hw4 hb4)
 all_goals obtain⟨pv4,vv4,hrec4⟩:=HW4.out.rec
 all_goals have d4:w4.cell? ⟨b,2,none⟩=some (.bool false):=HW4.out.flag
 all_goals have f4:w4.frozen? ⟨b,2,none⟩=false:=Lib.frozen_of_heap hrec4 2
 all_goals clear hrec4
 all_goals obtain⟨U,hU⟩:∃U,U=w4.setCell ⟨b,2,none⟩ (.bool q):=⟨_,rfl⟩
 all_goals have HWU:=Hd (show Wr U B b (l++((⟨#[36,40]⟩:ByteArray)++T++⟨#[41]⟩).data.toList) q by rw [hU];exact HW4.out.turn q)
 all_goals have HBU:=Hd (show Wk B b w U by rw [hU];exact HB4.out.trans (Keeps.setCell (Keeps.refl _ _) ⟨b,2,none⟩ _ (fun _=>⟨hBb,.inl rfl⟩)))
 all_goals have HUE:=Hd hU
 all_goals clear hU
 all_goals go_upto_region 14 with fail
 all_goals rw [←HUE.out]
 all_goals go_wp2_with fail
 all_goals go_end0
 all_goals refine⟨rfl,?_,HBU.out⟩
 all_goals have h9:=HWU.out
 all_goals simpa using h9
theorem dol_3o (B b:Nat) (l:Bs) (T N O:ByteArray) (xa:Option Addr) (xl xc:Nat) (w:World) (h:Wr w B b l false) (hBw:B≤w.heap.size) (C:Bs) (hV:∀W acc,Wr W B b acc true→Wk B b w W→acc.length≤l.length+1→Calls Tryz.prog 79 #[.pointer (some ⟨b,0,none⟩),.agg #[.int .i64 3,.string T,.string N,.string O,.slice xa xl xc,.bool true]] W fun e w'=>e=.returned (.tuple #[])∧Wr w' B b (acc++C) true∧Wk B b W w') (hlen:l.length+C.length≤400000) :
 Calls Tryz.prog 50 #[.pointer (some ⟨b,0,none⟩),.agg #[.int .i64 3,.string T,.string N,.string O,.slice xa xl xc,.bool true]] w fun e w'=>e=.returned (.tuple #[])∧Wr w' B b (l++34::(C++[34])) false∧Wk B b w w':=by
 have HW0:=Lib.hid h;have hblt:=h.lt;have hBb:=h.le;have HV:=Hd hV;clear hV;clear h;obtain⟨W,hW⟩:∃W,W=w.alloc (.cells #[.int .i64 3,.string T,.string N,.string O,.slice xa xl xc,.bool true] 67):=⟨_,rfl⟩;have HKW:=Hd (show Keeps (fun _=>False) w W by rw [hW];exact (Keeps.refl _ _).alloc _);have HBW:=Hd (show Wk B b w W by rw [hW];exact (Wk.refl B b w).alloc _);have HR:=Hd (show W.heap[w.heap.size]? = some (.cells #[.int .i64 3,.string T,.string N,.string O,.slice xa xl xc,.bool true] 67 (0,0)) by rw [hW];exact heap_alloc_new w _)
 have HWE:=Hd hW;clear hW;obtain⟨R,hRe⟩:∃R,R=w.heap.size:=⟨_,rfl⟩;have hbR:b≠R:=by omega
 have hRb:R≠b:=by omega
 have HRB:=Hd hRe;rw [←hRe] at HR;clear hRe;go_enter Tryz.func50,Tryz.ntmps50;go_upto_region 1 with fail;rw [←HWE.out,←HRB.out];obtain⟨c0,c1,c2,c3,c4,c5⟩:=sixRec HR.out;have HW1:=Hd (HW0.out.below HKW.out);obtain⟨pv,vv,hrec⟩:=HW1.out.rec;have d2:W.cell? ⟨b,2,none⟩=some (.bool false):=HW1.out.flag;have f2:W.frozen? ⟨b,2,none⟩=false:=Lib.frozen_of_heap hrec 2;go_wp2_with fail;clear hrec;refine (byte_k B b _ false 34 _ HW1.out (by omega) (Nat.le_trans hBw HKW.out.size)).mono ?_
 rintro e w2 ⟨rfl,hw2,hb2⟩;have HR2:=Hd (hb2.heap HR.out hRb (fun cs fr e=>by injection e with _ e2 _;exact absurd e2 (by decide)));have HB2:=Hd (HBW.out.trans hb2);have HW2:=Hd hw2;clear c0 c1 c2 c3 c4 c5 d2 f2 hb2 hw2;obtain⟨c0,c1,c2,c3,c4,c5⟩:=sixRec HR2.out;obtain⟨pv2,vv2,hrec⟩:=HW2.out.rec;have d2:w2.cell? ⟨b,2,none⟩=some (.bool false):=HW2.out.flag;have f2:w2.frozen? ⟨b,2,none⟩=false:=Lib.frozen_of_heap hrec 2
 clear hrec;obtain⟨V,hV⟩:∃V,V=w2.setCell ⟨b,2,none⟩ (.bool true):=⟨_,rfl⟩;have HVE:=Hd hV;have HWV:=Hd (show Wr V B b (l++[34]) true by rw [hV];exact HW2.out.turn true);have HBV:=Hd (show Wk B b w V by rw [hV];exact HB2.out.trans (Keeps.setCell (Keeps.refl _ _) ⟨b,2,none⟩ _ (fun _=>⟨hBb,.inl rfl⟩)));have HRV:=Hd (show V.heap[R]? = some (.cells #[.int .i64 3,.string T,.string N,.string O,.slice xa xl xc,.bool true] 67 (0,0)) by rw [hV];exact (show Wk B b w2 _ from Keeps.setCell (Keeps.refl _ _) ⟨b,2,none⟩ _ (fun _=>⟨hBb,.inl rfl⟩)).heap HR2.out hRb (fun cs fr e=>by injection e with _ e2 _;exact absurd e2 (by decide)))
 clear hV;go_upto_region 6 with fail;rw [←HVE.out];clear c0 c1 c2 c3 c4 c5 d2 f2;obtain⟨c0,c1,c2,c3,c4,c5⟩:=sixRec HRV.out;have c9:V.cell? ⟨R,0,none⟩=some (.int .i64 3):=c0;go_wp2_with fail;refine (HV.out V (l++[34]) HWV.out HBV.out (by simp only [List.length_append,List.length_cons,List.length_nil];omega)).mono ?_;rintro e w4 ⟨rfl,hw4,hb4⟩;have HW4:=Hd hw4;have HB4:=Hd (HBV.out.trans hb4);clear hw4 hb4
 obtain⟨pv4,vv4,hrec4⟩:=HW4.out.rec;have d4:w4.cell? ⟨b,2,none⟩=some (.bool true):=HW4.out.flag;have f4:w4.frozen? ⟨b,2,none⟩=false:=Lib.frozen_of_heap hrec4 2;clear hrec4;obtain⟨U,hU⟩:∃U,U=w4.setCell ⟨b,2,none⟩ (.bool false):=⟨_,rfl⟩;have HWU:=Hd (show Wr U B b ((l++[34])++C) false by rw [hU];exact HW4.out.turn false);have HBU:=Hd (show Wk B b w U by rw [hU];exact HB4.out.trans (Keeps.setCell (Keeps.refl _ _) ⟨b,2,none⟩ _ (fun _=>⟨hBb,.inl rfl⟩)))
 have HUE:=Hd hU;clear hU;go_upto_region 14 with fail;rw [←HUE.out];go_wp2_with fail;refine (byte_k B b _ false 34 _ HWU.out (by simp only [List.length_append,List.length_cons,List.length_nil];omega) (Nat.le_trans hBw HBU.out.size)).mono ?_;rintro e w5 ⟨rfl,hw5,hb5⟩;have HW5:=Hd hw5;have HB5:=Hd (HBU.out.trans hb5);clear hw5 hb5;go_wp2_with fail;go_end0;refine⟨rfl,?_,HB5.out⟩;have h9:=HW5.out;simpa using h9
theorem dol_3i (B b:Nat) (l:Bs) (T N O:ByteArray) (xa:Option Addr) (xl xc:Nat) (w:World) (h:Wr w B b l true) (hBw:B≤w.heap.size) (C:Bs) (hV:∀W acc,Wr W B b acc true→Wk B b w W→acc.length≤l.length+0→Calls Tryz.prog 79 #[.pointer (some ⟨b,0,none⟩),.agg #[.int .i64 3,.string T,.string N,.string O,.slice xa xl xc,.bool true]] W fun e w'=>e=.returned (.tuple #[])∧Wr w' B b (acc++C) true∧Wk B b W w') (hlen:l.length+C.length≤400000) :
 Calls Tryz.prog 50 #[.pointer (some ⟨b,0,none⟩),.agg #[.int .i64 3,.string T,.string N,.string O,.slice xa xl xc,.bool true]] w fun e w'=>e=.returned (.tuple #[])∧Wr w' B b (l++C) true∧Wk B b w w':=by
 have HW0:=Lib.hid h;have hblt:=h.lt;have hBb:=h.le;have HV:=Hd hV;clear hV;clear h;obtain⟨W,hW⟩:∃W,W=w.alloc (.cells #[.int .i64 3,.string T,.string N,.string O,.slice xa xl xc,.bool true] 67):=⟨_,rfl⟩;have HKW:=Hd (show Keeps (fun _=>False) w W by rw [hW];exact (Keeps.refl _ _).alloc _);have HBW:=Hd (show Wk B b w W by rw [hW];exact (Wk.refl B b w).alloc _);have HR:=Hd (show W.heap[w.heap.size]? = some (.cells #[.int .i64 3,.string T,.string N,.string O,.slice xa xl xc,.bool true] 67 (0,0)) by rw [hW];exact heap_alloc_new w _)
 have HWE:=Hd hW;clear hW;obtain⟨R,hRe⟩:∃R,R=w.heap.size:=⟨_,rfl⟩;have hbR:b≠R:=by omega
 have hRb:R≠b:=by omega
 have HRB:=Hd hRe;rw [←hRe] at HR;clear hRe;go_enter Tryz.func50,Tryz.ntmps50;go_upto_region 1 with fail;rw [←HWE.out,←HRB.out];obtain⟨c0,c1,c2,c3,c4,c5⟩:=sixRec HR.out;have HW1:=Hd (HW0.out.below HKW.out);obtain⟨pv,vv,hrec⟩:=HW1.out.rec;have d2:W.cell? ⟨b,2,none⟩=some (.bool true):=HW1.out.flag;have f2:W.frozen? ⟨b,2,none⟩=false:=Lib.frozen_of_heap hrec 2;clear hrec;obtain⟨V,hV⟩:∃V,V=W.setCell ⟨b,2,none⟩ (.bool true):=⟨_,rfl⟩
 have HVE:=Hd hV;have HWV:=Hd (show Wr V B b l true by rw [hV];exact HW1.out.turn true);have HBV:=Hd (show Wk B b w V by rw [hV];exact HBW.out.trans (Keeps.setCell (Keeps.refl _ _) ⟨b,2,none⟩ _ (fun _=>⟨hBb,.inl rfl⟩)));have HRV:=Hd (show V.heap[R]? = some (.cells #[.int .i64 3,.string T,.string N,.string O,.slice xa xl xc,.bool true] 67 (0,0)) by rw [hV];exact (show Wk B b W _ from Keeps.setCell (Keeps.refl _ _) ⟨b,2,none⟩ _ (fun _=>⟨hBb,.inl rfl⟩)).heap HR.out hRb (fun cs fr e=>by injection e with _ e2 _;exact absurd e2 (by decide)))
 clear hV;go_upto_region 6 with fail;rw [←HVE.out];clear c0 c1 c2 c3 c4 c5 d2 f2;obtain⟨c0,c1,c2,c3,c4,c5⟩:=sixRec HRV.out;have c9:V.cell? ⟨R,0,none⟩=some (.int .i64 3):=c0;go_wp2_with fail;refine (HV.out V l HWV.out HBV.out (by omega)).mono ?_;rintro e w4 ⟨rfl,hw4,hb4⟩;have HW4:=Hd hw4;have HB4:=Hd (HBV.out.trans hb4);clear hw4 hb4;obtain⟨pv4,vv4,hrec4⟩:=HW4.out.rec;have d4:w4.cell? ⟨b,2,none⟩=some (.bool true):=HW4.out.flag
 have f4:w4.frozen? ⟨b,2,none⟩=false:=Lib.frozen_of_heap hrec4 2;clear hrec4;obtain⟨U,hU⟩:∃U,U=w4.setCell ⟨b,2,none⟩ (.bool true):=⟨_,rfl⟩;have HWU:=Hd (show Wr U B b (l++C) true by rw [hU];exact HW4.out.turn true);have HBU:=Hd (show Wk B b w U by rw [hU];exact HB4.out.trans (Keeps.setCell (Keeps.refl _ _) ⟨b,2,none⟩ _ (fun _=>⟨hBb,.inl rfl⟩)));have HUE:=Hd hU;clear hU;go_upto_region 14 with fail;rw [←HUE.out]
 go_wp2_with fail;go_end0;refine⟨rfl,?_,HBU.out⟩;have h9:=HWU.out;simpa using h9
theorem dol_3p (B b:Nat) (l:Bs) (q:Bool) (T N O:ByteArray) (xa:Option Addr) (xl xc:Nat) (w:World) (h:Wr w B b l q) (hBw:B≤w.heap.size) (C:Bs) (hV:∀W acc,Wr W B b acc false→Wk B b w W→acc.length≤l.length+0→Calls Tryz.prog 79 #[.pointer (some ⟨b,0,none⟩),.agg #[.int .i64 3,.string T,.string N,.string O,.slice xa xl xc,.bool false]] W fun e w'=>e=.returned (.tuple #[])∧Wr w' B b (acc++C) false∧Wk B b W w') (hlen:l.length+C.length≤400000) :
 Calls Tryz.prog 50 #[.pointer (some ⟨b,0,none⟩),.agg #[.int .i64 3,.string T,.string N,.string O,.slice xa xl xc,.bool false]] w fun e w'=>e=.returned (.tuple #[])∧Wr w' B b (l++C) q∧Wk B b w w':=by
 have HW0:=Lib.hid h;have hblt:=h.lt;have hBb:=h.le;have HV:=Hd hV;clear hV;clear h;obtain⟨W,hW⟩:∃W,W=w.alloc (.cells #[.int .i64 3,.string T,.string N,.string O,.slice xa xl xc,.bool false] 67):=⟨_,rfl⟩;have HKW:=Hd (show Keeps (fun _=>False) w W by rw [hW];exact (Keeps.refl _ _).alloc _);have HBW:=Hd (show Wk B b w W by rw [hW];exact (Wk.refl B b w).alloc _);have HR:=Hd (show W.heap[w.heap.size]? = some (.cells #[.int .i64 3,.string T,.string N,.string O,.slice xa xl xc,.bool false] 67 (0,0)) by rw [hW];exact heap_alloc_new w _)
 have HWE:=Hd hW;clear hW;obtain⟨R,hRe⟩:∃R,R=w.heap.size:=⟨_,rfl⟩;have hbR:b≠R:=by omega
 have hRb:R≠b:=by omega
 have HRB:=Hd hRe;rw [←hRe] at HR;clear hRe;go_enter Tryz.func50,Tryz.ntmps50;go_upto_region 1 with fail;rw [←HWE.out,←HRB.out];obtain⟨c0,c1,c2,c3,c4,c5⟩:=sixRec HR.out;have HW1:=Hd (HW0.out.below HKW.out);obtain⟨pv,vv,hrec⟩:=HW1.out.rec;have d2:W.cell? ⟨b,2,none⟩=some (.bool q):=HW1.out.flag;have f2:W.frozen? ⟨b,2,none⟩=false:=Lib.frozen_of_heap hrec 2;clear hrec;obtain⟨V,hV⟩:∃V,V=W.setCell ⟨b,2,none⟩ (.bool false):=⟨_,rfl⟩
 have HVE:=Hd hV;have HWV:=Hd (show Wr V B b l false by rw [hV];exact HW1.out.turn false);have HBV:=Hd (show Wk B b w V by rw [hV];exact HBW.out.trans (Keeps.setCell (Keeps.refl _ _) ⟨b,2,none⟩ _ (fun _=>⟨hBb,.inl rfl⟩)));have HRV:=Hd (show V.heap[R]? = some (.cells #[.int .i64 3,.string T,.string N,.string O,.slice xa xl xc,.bool false] 67 (0,0)) by rw [hV];exact (show Wk B b W _ from Keeps.setCell (Keeps.refl _ _) ⟨b,2,none⟩ _ (fun _=>⟨hBb,.inl rfl⟩)).heap HR.out hRb (fun cs fr e=>by injection e with _ e2 _;exact absurd e2 (by decide)))
 clear hV;go_upto_region 6 with fail;rw [←HVE.out];clear c0 c1 c2 c3 c4 c5 d2 f2;obtain⟨c0,c1,c2,c3,c4,c5⟩:=sixRec HRV.out;have c9:V.cell? ⟨R,0,none⟩=some (.int .i64 3):=c0;go_wp2_with fail;refine (HV.out V l HWV.out HBV.out (by omega)).mono ?_;rintro e w4 ⟨rfl,hw4,hb4⟩;have HW4:=Hd hw4;have HB4:=Hd (HBV.out.trans hb4);clear hw4 hb4;obtain⟨pv4,vv4,hrec4⟩:=HW4.out.rec;have d4:w4.cell? ⟨b,2,none⟩=some (.bool false):=HW4.out.flag
 have f4:w4.frozen? ⟨b,2,none⟩=false:=Lib.frozen_of_heap hrec4 2;clear hrec4;obtain⟨U,hU⟩:∃U,U=w4.setCell ⟨b,2,none⟩ (.bool q):=⟨_,rfl⟩;have HWU:=Hd (show Wr U B b (l++C) q by rw [hU];exact HW4.out.turn q);have HBU:=Hd (show Wk B b w U by rw [hU];exact HB4.out.trans (Keeps.setCell (Keeps.refl _ _) ⟨b,2,none⟩ _ (fun _=>⟨hBb,.inl rfl⟩)));have HUE:=Hd hU;clear hU;go_upto_region 14 with fail;rw [←HUE.out]
 go_wp2_with fail;go_end0;refine⟨rfl,?_,HBU.out⟩;have h9:=HWU.out;simpa using h9
end Go.Proofs.YtiihpbccabeoeaaGreatDoor
