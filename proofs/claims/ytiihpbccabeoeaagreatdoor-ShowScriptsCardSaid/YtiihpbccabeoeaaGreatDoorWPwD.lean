/- The walk: a part. -/
import Derived.Test.YtiihpbccabeoeaaGreatDoorWPsX
namespace Go.Proofs.YtiihpbccabeoeaaGreatDoor
open Go.RowKit
set_option linter.unusedVariables false
set_option maxRecDepth 100000
set_option maxHeartbeats 16000000
theorem K2 (B b:Nat) (l t n S:Bs) (q pq:Bool) (k:Int) (xa:OA) (xl xc:Nat) (w:World) (h:Wr w B b l q) (M:Nat) (hM:M≤400000) (hlen:l.length+n.length+S.length+4≤M) (hBw:B≤w.heap.size) (hxl:xl=0)
 (hP:∀W acc,Wr W B b acc q→Wk B b w W→acc.length+S.length≤M→Calls Tryz.prog 27 #[.pointer (some ⟨b,0,none⟩),.slice xa xl xc] W fun e w'=>e=.returned (.tuple #[])∧Wr w' B b (acc++S) q∧Wk B b W w') :
 Calls Tryz.prog 79 #[.pointer (some ⟨b,0,none⟩),.agg #[.int .i64 k,.string ⟨t.toArray⟩,.string ⟨n.toArray⟩,.string ⟨#[37]⟩,.slice xa xl xc,.bool pq]] w fun e w'=>e=.returned (.tuple #[])∧Wr w' B b (l++36::123::(n++(37::(S++[125])))) q∧Wk B b w w':=by
 have HW0:=Lib.hid h;have HP:=Hd hP;have hblt:=h.lt;obtain⟨N,hN⟩:∃N:ByteArray,N=⟨n.toArray⟩:=⟨_,rfl⟩;have hNl:N.data.toList=n:=by rw [hN]
 have hNs:N.size=n.length:=by rw [Lib.size_eq,hNl]
 have HN:=Hd hNl;have s3:(⟨#[36,123]⟩:ByteArray).size=2:=rfl;have s1:(⟨#[37]⟩:ByteArray).size=1:=rfl;have hN9:N.size≤400000:=by omega
 rw [←hN];clear h hP hN hNl hNs;subst hxl;go_enter Tryz.func79,Tryz.ntmps79;go_wp2_with fail;have HKW:=Hd (show K0 w (w.alloc (.cells #[.int .i64 k,.string ⟨t.toArray⟩,.string N,.string ⟨#[37]⟩,.slice xa 0 xc,.bool pq] 67)) from (aB.refl _ _).alloc _);have HBW:=Hd (show Wk B b w (w.alloc (.cells #[.int .i64 k,.string ⟨t.toArray⟩,.string N,.string ⟨#[37]⟩,.slice xa 0 xc,.bool pq] 67)) from (Wk.refl B b w).alloc _)
 have hrec:=heap_alloc_new w (.cells #[.int .i64 k,.string ⟨t.toArray⟩,.string N,.string ⟨#[37]⟩,.slice xa 0 xc,.bool pq] 67);obtain⟨c0,c1,c2,c3,c4,c5⟩:=cO hrec;have HR:=Hd hrec;clear hrec;generalize w.alloc (.cells #[.int .i64 k,.string ⟨t.toArray⟩,.string N,.string ⟨#[37]⟩,.slice xa 0 xc,.bool pq] 67)=W at HKW HBW HR c0 c1 c2 c3 c4 c5 ⊢;go_region_with (go_at_call 26;refine (iS B b l q _ _ (HW0.o.below (HKW.o.trans ((aB.refl _ W).drew) k3)) (by simp only [ByteArray.size_append,s3,s1];omega) (Nat.le_trans hBw HKW.o.size)).mono ?_;rintro e w2 ⟨rfl,hw2,hb2⟩;have HW:=Hd hw2;have HB:=Hd (HBW.o.trans (((Wk.refl B b W).drew).trans hb2));have HR2:=Hd (((Wk.refl B b W).drew.trans hb2).heap HR.o (by omega) (fun cs fr e=>by injection e with _ e2 _;exact absurd e2 (by decide)));clear hw2 hb2)
 all_goals obtain⟨d0,d1,d2,d3,d4,d5⟩:=cO HR2.o
 all_goals clear c0 c1 c2 c3 c4 c5
 all_goals go_wp2_with fail
 all_goals go_quiet (fail)
 all_goals go_wp2_with fail
 all_goals refine (HP.o _ _ (HW.o.below ((aB.refl _ _).drewN _)) (HB.o.trans (aB.drewN (aB.refl _ _) _)) (by simp only [lA,ByteArray.data_append,Array.toList_append,HN.o,lC,lN];omega)).mono ?_
 all_goals rintro e w3 ⟨rfl,hw3,hb3⟩
 all_goals have HW3:=Hd hw3
 all_goals have HB3:=Hd ((HB.o.trans (aB.drewN (aB.refl _ _) _)).trans hb3)
 all_goals clear hw3 hb3
 all_goals go_wp2_with fail
 all_goals refine (fY B b _ q 125 _ HW3.o (by simp only [lA,ByteArray.data_append,Array.toList_append,HN.o,lC,lN];omega) (Nat.le_trans hBw HB3.o.size)).mono ?_
 all_goals rintro e w4 ⟨rfl,hw4,hb4⟩
 all_goals have HW4:=Hd hw4
 all_goals have HB4:=Hd (HB3.o.trans hb4)
 all_goals clear hw4 hb4
 all_goals go_wp2_with fail
 all_goals go_end0
 all_goals refine⟨rfl,?_,HB4.o⟩
 all_goals have h9:=HW4.o
 all_goals rw [show ((⟨#[36,123]⟩:ByteArray)++N++⟨#[37]⟩).data.toList=36::123::(n++[37]) by rw [←HN.o];simp] at h9
 all_goals simpa using h9
theorem M4 (B b:Nat) (l t n S:Bs) (q pq:Bool) (k:Int) (xa:OA) (xl xc:Nat) (w:World) (h:Wr w B b l q) (M:Nat) (hM:M≤400000) (hlen:l.length+n.length+S.length+4≤M) (hBw:B≤w.heap.size) (g off:Nat) (T:ByteArray) (hxa:xa=some ⟨g,off,none⟩) (hxl:0<xl) (hgB:g<B) (hT:w.cell? ⟨g,off+1,none⟩=some (.string T)) (hpre:Lib.hasPrefix T.data.toList [37]=false)
 (hP:∀W acc,Wr W B b acc q→Wk B b w W→acc.length+S.length≤M→Calls Tryz.prog 27 #[.pointer (some ⟨b,0,none⟩),.slice xa xl xc] W fun e w'=>e=.returned (.tuple #[])∧Wr w' B b (acc++S) q∧Wk B b W w') :
 Calls Tryz.prog 79 #[.pointer (some ⟨b,0,none⟩),.agg #[.int .i64 k,.string ⟨t.toArray⟩,.string ⟨n.toArray⟩,.string ⟨#[37]⟩,.slice xa xl xc,.bool pq]] w fun e w'=>e=.returned (.tuple #[])∧Wr w' B b (l++36::123::(n++(37::(S++[125])))) q∧Wk B b w w':=by
 have HW0:=Lib.hid h;have HP:=Hd hP;have hblt:=h.lt;obtain⟨N,hN⟩:∃N:ByteArray,N=⟨n.toArray⟩:=⟨_,rfl⟩;have hNl:N.data.toList=n:=by rw [hN]
 have hNs:N.size=n.length:=by rw [Lib.size_eq,hNl]
 have HN:=Hd hNl;have s3:(⟨#[36,123]⟩:ByteArray).size=2:=rfl;have s1:(⟨#[37]⟩:ByteArray).size=1:=rfl;have hN9:N.size≤400000:=by omega
 rw [←hN];clear h hP hN hNl hNs;subst hxa;have HT:=Hd hT;have HPRE:=Hd (show ∀w,Calls Tryz.prog 25 #[.string T,.string ⟨#[37]⟩] w (fun e w'=>e=.returned (.bool false)∧w'=w) from fun w=>by have h9:=Tryz.strings_HasPrefix T ⟨#[37]⟩ w;rw [show (⟨#[37]⟩:ByteArray).data.toList=[37] from rfl,hpre] at h9;exact h9);have p0:(0:Int)<(xl:Int):=by omega
 clear hT hpre;go_enter Tryz.func79,Tryz.ntmps79;go_wp2_with fail;have HKW:=Hd (show K0 w (w.alloc (.cells #[.int .i64 k,.string ⟨t.toArray⟩,.string N,.string ⟨#[37]⟩,.slice (some ⟨g,off,none⟩) xl xc,.bool pq] 67)) from (aB.refl _ _).alloc _);have HBW:=Hd (show Wk B b w (w.alloc (.cells #[.int .i64 k,.string ⟨t.toArray⟩,.string N,.string ⟨#[37]⟩,.slice (some ⟨g,off,none⟩) xl xc,.bool pq] 67)) from (Wk.refl B b w).alloc _)
 have hrec:=heap_alloc_new w (.cells #[.int .i64 k,.string ⟨t.toArray⟩,.string N,.string ⟨#[37]⟩,.slice (some ⟨g,off,none⟩) xl xc,.bool pq] 67);obtain⟨c0,c1,c2,c3,c4,c5⟩:=cO hrec;have HR:=Hd hrec;clear hrec;generalize w.alloc (.cells #[.int .i64 k,.string ⟨t.toArray⟩,.string N,.string ⟨#[37]⟩,.slice (some ⟨g,off,none⟩) xl xc,.bool pq] 67)=W at HKW HBW HR c0 c1 c2 c3 c4 c5 ⊢;go_region_with (go_at_call 26;refine (iS B b l q _ _ (HW0.o.below (HKW.o.trans ((aB.refl _ W).drew) k3)) (by simp only [ByteArray.size_append,s3,s1];omega) (Nat.le_trans hBw HKW.o.size)).mono ?_;rintro e w2 ⟨rfl,hw2,hb2⟩;have HW:=Hd hw2;have HB:=Hd (HBW.o.trans (((Wk.refl B b W).drew).trans hb2));have HR2:=Hd (((Wk.refl B b W).drew.trans hb2).heap HR.o (by omega) (fun cs fr e=>by injection e with _ e2 _;exact absurd e2 (by decide)));clear hw2 hb2)
 all_goals obtain⟨d0,d1,d2,d3,d4,d5⟩:=cO HR2.o
 all_goals clear c0 c1 c2 c3 c4 c5
 all_goals have dT:w2.cell? ⟨g,off+1,none⟩=some (.string T):=by rw [(HB.o.below hBw).cell (p:=⟨g,off+1,none⟩) hgB];exact HT.o
 all_goals go_wp2_with fail
 all_goals go_quiet ((go_at_call 25;exact Calls.quiet_of_same (HPRE.o _)))
 all_goals go_wp2_with fail
 all_goals refine (HP.o _ _ (HW.o.below ((aB.refl _ _).drewN _)) (HB.o.trans (aB.drewN (aB.refl _ _) _)) (by simp only [lA,ByteArray.data_append,Array.toList_append,HN.o,lC,lN];omega)).mono ?_
 all_goals rintro e w3 ⟨rfl,hw3,hb3⟩
 all_goals have HW3:=Hd hw3
 all_goals have HB3:=Hd ((HB.o.trans (aB.drewN (aB.refl _ _) _)).trans hb3)
 all_goals clear hw3 hb3
 all_goals go_wp2_with fail
 all_goals refine (fY B b _ q 125 _ HW3.o (by simp only [lA,ByteArray.data_append,Array.toList_append,HN.o,lC,lN];omega) (Nat.le_trans hBw HB3.o.size)).mono ?_
 all_goals rintro e w4 ⟨rfl,hw4,hb4⟩
 all_goals have HW4:=Hd hw4
 all_goals have HB4:=Hd (HB3.o.trans hb4)
 all_goals clear hw4 hb4
 all_goals go_wp2_with fail
 all_goals go_end0
 all_goals refine⟨rfl,?_,HB4.o⟩
 all_goals have h9:=HW4.o
 all_goals rw [show ((⟨#[36,123]⟩:ByteArray)++N++⟨#[37]⟩).data.toList=36::123::(n++[37]) by rw [←HN.o];simp] at h9
 all_goals simpa using h9
theorem K1 (B b:Nat) (l t n S:Bs) (q pq:Bool) (k:Int) (xa:OA) (xl xc:Nat) (w:World) (h:Wr w B b l q) (M:Nat) (hM:M≤400000) (hlen:l.length+n.length+S.length+6≤M) (hBw:B≤w.heap.size) (g off:Nat) (T:ByteArray) (hxa:xa=some ⟨g,off,none⟩) (hxl:0<xl) (hgB:g<B) (hT:w.cell? ⟨g,off+1,none⟩=some (.string T)) (hpre:Lib.hasPrefix T.data.toList [37]=true)
 (hP:∀W acc,Wr W B b acc q→Wk B b w W→acc.length+S.length≤M→Calls Tryz.prog 27 #[.pointer (some ⟨b,0,none⟩),.slice xa xl xc] W fun e w'=>e=.returned (.tuple #[])∧Wr w' B b (acc++S) q∧Wk B b W w') :
 Calls Tryz.prog 79 #[.pointer (some ⟨b,0,none⟩),.agg #[.int .i64 k,.string ⟨t.toArray⟩,.string ⟨n.toArray⟩,.string ⟨#[37]⟩,.slice xa xl xc,.bool pq]] w fun e w'=>e=.returned (.tuple #[])∧Wr w' B b (l++36::123::(n++(37::92::10::(S++[125])))) q∧Wk B b w w':=by
 have HW0:=Lib.hid h;have HP:=Hd hP;have hblt:=h.lt;obtain⟨N,hN⟩:∃N:ByteArray,N=⟨n.toArray⟩:=⟨_,rfl⟩;have hNl:N.data.toList=n:=by rw [hN]
 have hNs:N.size=n.length:=by rw [Lib.size_eq,hNl]
 have HN:=Hd hNl;have s3:(⟨#[36,123]⟩:ByteArray).size=2:=rfl;have s1:(⟨#[37]⟩:ByteArray).size=1:=rfl;have hN9:N.size≤400000:=by omega
 rw [←hN];clear h hP hN hNl hNs;subst hxa;have HT:=Hd hT;have HPRE:=Hd (show ∀w,Calls Tryz.prog 25 #[.string T,.string ⟨#[37]⟩] w (fun e w'=>e=.returned (.bool true)∧w'=w) from fun w=>by have h9:=Tryz.strings_HasPrefix T ⟨#[37]⟩ w;rw [show (⟨#[37]⟩:ByteArray).data.toList=[37] from rfl,hpre] at h9;exact h9);have p0:(0:Int)<(xl:Int):=by omega
 clear hT hpre;go_enter Tryz.func79,Tryz.ntmps79;go_wp2_with fail;have HKW:=Hd (show K0 w (w.alloc (.cells #[.int .i64 k,.string ⟨t.toArray⟩,.string N,.string ⟨#[37]⟩,.slice (some ⟨g,off,none⟩) xl xc,.bool pq] 67)) from (aB.refl _ _).alloc _);have HBW:=Hd (show Wk B b w (w.alloc (.cells #[.int .i64 k,.string ⟨t.toArray⟩,.string N,.string ⟨#[37]⟩,.slice (some ⟨g,off,none⟩) xl xc,.bool pq] 67)) from (Wk.refl B b w).alloc _)
 have hrec:=heap_alloc_new w (.cells #[.int .i64 k,.string ⟨t.toArray⟩,.string N,.string ⟨#[37]⟩,.slice (some ⟨g,off,none⟩) xl xc,.bool pq] 67);obtain⟨c0,c1,c2,c3,c4,c5⟩:=cO hrec;have HR:=Hd hrec;clear hrec;generalize w.alloc (.cells #[.int .i64 k,.string ⟨t.toArray⟩,.string N,.string ⟨#[37]⟩,.slice (some ⟨g,off,none⟩) xl xc,.bool pq] 67)=W at HKW HBW HR c0 c1 c2 c3 c4 c5 ⊢;go_region_with (go_at_call 26;refine (iS B b l q _ _ (HW0.o.below (HKW.o.trans ((aB.refl _ W).drew) k3)) (by simp only [ByteArray.size_append,s3,s1];omega) (Nat.le_trans hBw HKW.o.size)).mono ?_;rintro e w2 ⟨rfl,hw2,hb2⟩;have HW:=Hd hw2;have HB:=Hd (HBW.o.trans (((Wk.refl B b W).drew).trans hb2));have HR2:=Hd (((Wk.refl B b W).drew.trans hb2).heap HR.o (by omega) (fun cs fr e=>by injection e with _ e2 _;exact absurd e2 (by decide)));clear hw2 hb2)
 all_goals obtain⟨d0,d1,d2,d3,d4,d5⟩:=cO HR2.o
 all_goals clear c0 c1 c2 c3 c4 c5
 all_goals have dT:w2.cell? ⟨g,off+1,none⟩=some (.string T):=by rw [(HB.o.below hBw).cell (p:=⟨g,off+1,none⟩) hgB];exact HT.o
 all_goals go_wp2_with fail
 all_goals go_quiet ((go_at_call 25;exact Calls.quiet_of_same (HPRE.o _)))
 all_goals go_wp2_with fail
 all_goals refine (iS B b _ q ⟨#[92,10]⟩ _ (HW.o.below ((aB.refl _ _).drewN _)) (by rw [show (⟨#[92,10]⟩:ByteArray).size=2 from rfl];simp only [lA,ByteArray.data_append,Array.toList_append,HN.o,lC,lN];omega) (Nat.le_trans hBw HB.o.size)).mono ?_
 all_goals rintro e w5 ⟨rfl,hw5,hb5⟩
 all_goals have HB':=Hd ((HB.o.trans (aB.drewN (aB.refl _ _) _)).trans hb5)
 all_goals have HW':=Hd hw5
 all_goals have HR5:=Hd (((show Wk B b w2 (w2.drewN _) from aB.drewN (aB.refl _ _) _).trans hb5).heap HR2.o (by omega) (fun cs fr e=>by injection e with _ e2 _;exact absurd e2 (by decide)))
 all_goals obtain⟨f0,f1,f2,f3,f4,f5⟩:=cO HR5.o
 all_goals clear hw5 hb5
 all_goals go_wp2_with fail
 all_goals refine (HP.o _ _ HW'.o HB'.o (by simp only [lA,ByteArray.data_append,Array.toList_append,HN.o,lC,lN];omega)).mono ?_
 all_goals rintro e w3 ⟨rfl,hw3,hb3⟩
 all_goals have HW3:=Hd hw3
 all_goals have HB3:=Hd (HB'.o.trans hb3)
 all_goals clear hw3 hb3
 all_goals go_wp2_with fail
 all_goals refine (fY B b _ q 125 _ HW3.o (by simp only [lA,ByteArray.data_append,Array.toList_append,HN.o,lC,lN];omega) (Nat.le_trans hBw HB3.o.size)).mono ?_
 all_goals rintro e w4 ⟨rfl,hw4,hb4⟩
 all_goals have HW4:=Hd hw4
 all_goals have HB4:=Hd (HB3.o.trans hb4)
 all_goals clear hw4 hb4
 all_goals go_wp2_with fail
 all_goals go_end0
 all_goals refine⟨rfl,?_,HB4.o⟩
 all_goals have h9:=HW4.o
 all_goals rw [show ((⟨#[36,123]⟩:ByteArray)++N++⟨#[37]⟩).data.toList=36::123::(n++[37]) by rw [←HN.o];simp] at h9
 all_goals simpa using h9
theorem J9 (B b:Nat) (l t n S:Bs) (q pq:Bool) (k:Int) (xa:OA) (xl xc:Nat) (w:World) (h:Wr w B b l q) (M:Nat) (hM:M≤400000) (hlen:l.length+n.length+S.length+4≤M) (hBw:B≤w.heap.size) (hxl:xl=0)
 (hP:∀W acc,Wr W B b acc q→Wk B b w W→acc.length+S.length≤M→Calls Tryz.prog 27 #[.pointer (some ⟨b,0,none⟩),.slice xa xl xc] W fun e w'=>e=.returned (.tuple #[])∧Wr w' B b (acc++S) q∧Wk B b W w') :
 Calls Tryz.prog 79 #[.pointer (some ⟨b,0,none⟩),.agg #[.int .i64 k,.string ⟨t.toArray⟩,.string ⟨n.toArray⟩,.string ⟨#[35]⟩,.slice xa xl xc,.bool pq]] w fun e w'=>e=.returned (.tuple #[])∧Wr w' B b (l++36::123::(n++(35::(S++[125])))) q∧Wk B b w w':=by
 have HW0:=Lib.hid h;have HP:=Hd hP;have hblt:=h.lt;obtain⟨N,hN⟩:∃N:ByteArray,N=⟨n.toArray⟩:=⟨_,rfl⟩;have hNl:N.data.toList=n:=by rw [hN]
 have hNs:N.size=n.length:=by rw [Lib.size_eq,hNl]
 have HN:=Hd hNl;have s3:(⟨#[36,123]⟩:ByteArray).size=2:=rfl;have s1:(⟨#[35]⟩:ByteArray).size=1:=rfl;have hN9:N.size≤400000:=by omega
 rw [←hN];clear h hP hN hNl hNs;subst hxl;go_enter Tryz.func79,Tryz.ntmps79;go_wp2_with fail;have HKW:=Hd (show K0 w (w.alloc (.cells #[.int .i64 k,.string ⟨t.toArray⟩,.string N,.string ⟨#[35]⟩,.slice xa 0 xc,.bool pq] 67)) from (aB.refl _ _).alloc _);have HBW:=Hd (show Wk B b w (w.alloc (.cells #[.int .i64 k,.string ⟨t.toArray⟩,.string N,.string ⟨#[35]⟩,.slice xa 0 xc,.bool pq] 67)) from (Wk.refl B b w).alloc _)
 have hrec:=heap_alloc_new w (.cells #[.int .i64 k,.string ⟨t.toArray⟩,.string N,.string ⟨#[35]⟩,.slice xa 0 xc,.bool pq] 67);obtain⟨c0,c1,c2,c3,c4,c5⟩:=cO hrec;have HR:=Hd hrec;clear hrec;generalize w.alloc (.cells #[.int .i64 k,.string ⟨t.toArray⟩,.string N,.string ⟨#[35]⟩,.slice xa 0 xc,.bool pq] 67)=W at HKW HBW HR c0 c1 c2 c3 c4 c5 ⊢;go_region_with (go_at_call 26;refine (iS B b l q _ _ (HW0.o.below (HKW.o.trans ((aB.refl _ W).drew) k3)) (by simp only [ByteArray.size_append,s3,s1];omega) (Nat.le_trans hBw HKW.o.size)).mono ?_;rintro e w2 ⟨rfl,hw2,hb2⟩;have HW:=Hd hw2;have HB:=Hd (HBW.o.trans (((Wk.refl B b W).drew).trans hb2));have HR2:=Hd (((Wk.refl B b W).drew.trans hb2).heap HR.o (by omega) (fun cs fr e=>by injection e with _ e2 _;exact absurd e2 (by decide)));clear hw2 hb2)
 all_goals obtain⟨d0,d1,d2,d3,d4,d5⟩:=cO HR2.o
 all_goals clear c0 c1 c2 c3 c4 c5
 all_goals go_wp2_with fail
 all_goals go_quiet (fail)
 all_goals go_wp2_with fail
 all_goals refine (HP.o _ _ (HW.o.below ((aB.refl _ _).drewN _)) (HB.o.trans (aB.drewN (aB.refl _ _) _)) (by simp only [lA,ByteArray.data_append,Array.toList_append,HN.o,lC,lN];omega)).mono ?_
 all_goals rintro e w3 ⟨rfl,hw3,hb3⟩
 all_goals have HW3:=Hd hw3
 all_goals have HB3:=Hd ((HB.o.trans (aB.drewN (aB.refl _ _) _)).trans hb3)
 all_goals clear hw3 hb3
 all_goals go_wp2_with fail
 all_goals refine (fY B b _ q 125 _ HW3.o (by simp only [lA,ByteArray.data_append,Array.toList_append,HN.o,lC,lN];omega) (Nat.le_trans hBw HB3.o.size)).mono ?_
 all_goals rintro e w4 ⟨rfl,hw4,hb4⟩
 all_goals have HW4:=Hd hw4
 all_goals have HB4:=Hd (HB3.o.trans hb4)
 all_goals clear hw4 hb4
 all_goals go_wp2_with fail
 all_goals go_end0
 all_goals refine⟨rfl,?_,HB4.o⟩
 all_goals have h9:=HW4.o
 all_goals rw [show ((⟨#[36,123]⟩:ByteArray)++N++⟨#[35]⟩).data.toList=36::123::(n++[35]) by rw [←HN.o];simp] at h9
 all_goals simpa using h9
theorem Kb (B b:Nat) (l t n S:Bs) (q pq:Bool) (k:Int) (xa:OA) (xl xc:Nat) (w:World) (h:Wr w B b l q) (M:Nat) (hM:M≤400000) (hlen:l.length+n.length+S.length+4≤M) (hBw:B≤w.heap.size) (g off:Nat) (T:ByteArray) (hxa:xa=some ⟨g,off,none⟩) (hxl:0<xl) (hgB:g<B) (hT:w.cell? ⟨g,off+1,none⟩=some (.string T)) (hpre:Lib.hasPrefix T.data.toList [35]=false)
 (hP:∀W acc,Wr W B b acc q→Wk B b w W→acc.length+S.length≤M→Calls Tryz.prog 27 #[.pointer (some ⟨b,0,none⟩),.slice xa xl xc] W fun e w'=>e=.returned (.tuple #[])∧Wr w' B b (acc++S) q∧Wk B b W w') :
 Calls Tryz.prog 79 #[.pointer (some ⟨b,0,none⟩),.agg #[.int .i64 k,.string ⟨t.toArray⟩,.string ⟨n.toArray⟩,.string ⟨#[35]⟩,.slice xa xl xc,.bool pq]] w fun e w'=>e=.returned (.tuple #[])∧Wr w' B b (l++36::123::(n++(35::(S++[125])))) q∧Wk B b w w':=by
 have HW0:=Lib.hid h;have HP:=Hd hP;have hblt:=h.lt;obtain⟨N,hN⟩:∃N:ByteArray,N=⟨n.toArray⟩:=⟨_,rfl⟩;have hNl:N.data.toList=n:=by rw [hN]
 have hNs:N.size=n.length:=by rw [Lib.size_eq,hNl]
 have HN:=Hd hNl;have s3:(⟨#[36,123]⟩:ByteArray).size=2:=rfl;have s1:(⟨#[35]⟩:ByteArray).size=1:=rfl;have hN9:N.size≤400000:=by omega
 rw [←hN];clear h hP hN hNl hNs;subst hxa;have HT:=Hd hT;have HPRE:=Hd (show ∀w,Calls Tryz.prog 25 #[.string T,.string ⟨#[35]⟩] w (fun e w'=>e=.returned (.bool false)∧w'=w) from fun w=>by have h9:=Tryz.strings_HasPrefix T ⟨#[35]⟩ w;rw [show (⟨#[35]⟩:ByteArray).data.toList=[35] from rfl,hpre] at h9;exact h9);have p0:(0:Int)<(xl:Int):=by omega
 clear hT hpre;go_enter Tryz.func79,Tryz.ntmps79;go_wp2_with fail;have HKW:=Hd (show K0 w (w.alloc (.cells #[.int .i64 k,.string ⟨t.toArray⟩,.string N,.string ⟨#[35]⟩,.slice (some ⟨g,off,none⟩) xl xc,.bool pq] 67)) from (aB.refl _ _).alloc _);have HBW:=Hd (show Wk B b w (w.alloc (.cells #[.int .i64 k,.string ⟨t.toArray⟩,.string N,.string ⟨#[35]⟩,.slice (some ⟨g,off,none⟩) xl xc,.bool pq] 67)) from (Wk.refl B b w).alloc _)
 have hrec:=heap_alloc_new w (.cells #[.int .i64 k,.string ⟨t.toArray⟩,.string N,.string ⟨#[35]⟩,.slice (some ⟨g,off,none⟩) xl xc,.bool pq] 67);obtain⟨c0,c1,c2,c3,c4,c5⟩:=cO hrec;have HR:=Hd hrec;clear hrec;generalize w.alloc (.cells #[.int .i64 k,.string ⟨t.toArray⟩,.string N,.string ⟨#[35]⟩,.slice (some ⟨g,off,none⟩) xl xc,.bool pq] 67)=W at HKW HBW HR c0 c1 c2 c3 c4 c5 ⊢;go_region_with (go_at_call 26;refine (iS B b l q _ _ (HW0.o.below (HKW.o.trans ((aB.refl _ W).drew) k3)) (by simp only [ByteArray.size_append,s3,s1];omega) (Nat.le_trans hBw HKW.o.size)).mono ?_;rintro e w2 ⟨rfl,hw2,hb2⟩;have HW:=Hd hw2;have HB:=Hd (HBW.o.trans (((Wk.refl B b W).drew).trans hb2));have HR2:=Hd (((Wk.refl B b W).drew.trans hb2).heap HR.o (by omega) (fun cs fr e=>by injection e with _ e2 _;exact absurd e2 (by decide)));clear hw2 hb2)
 all_goals obtain⟨d0,d1,d2,d3,d4,d5⟩:=cO HR2.o
 all_goals clear c0 c1 c2 c3 c4 c5
 all_goals have dT:w2.cell? ⟨g,off+1,none⟩=some (.string T):=by rw [(HB.o.below hBw).cell (p:=⟨g,off+1,none⟩) hgB];exact HT.o
 all_goals go_wp2_with fail
 all_goals go_quiet ((go_at_call 25;exact Calls.quiet_of_same (HPRE.o _)))
 all_goals go_wp2_with fail
 all_goals refine (HP.o _ _ (HW.o.below ((aB.refl _ _).drewN _)) (HB.o.trans (aB.drewN (aB.refl _ _) _)) (by simp only [lA,ByteArray.data_append,Array.toList_append,HN.o,lC,lN];omega)).mono ?_
 all_goals rintro e w3 ⟨rfl,hw3,hb3⟩
 all_goals have HW3:=Hd hw3
 all_goals have HB3:=Hd ((HB.o.trans (aB.drewN (aB.refl _ _) _)).trans hb3)
 all_goals clear hw3 hb3
 all_goals go_wp2_with fail
 all_goals refine (fY B b _ q 125 _ HW3.o (by simp only [lA,ByteArray.data_append,Array.toList_append,HN.o,lC,lN];omega) (Nat.le_trans hBw HB3.o.size)).mono ?_
 all_goals rintro e w4 ⟨rfl,hw4,hb4⟩
 all_goals have HW4:=Hd hw4
 all_goals have HB4:=Hd (HB3.o.trans hb4)
 all_goals clear hw4 hb4
 all_goals go_wp2_with fail
 all_goals go_end0
 all_goals refine⟨rfl,?_,HB4.o⟩
 all_goals have h9:=HW4.o
 all_goals rw [show ((⟨#[36,123]⟩:ByteArray)++N++⟨#[35]⟩).data.toList=36::123::(n++[35]) by rw [←HN.o];simp] at h9
 all_goals simpa using h9
theorem Kn (B b:Nat) (l t n S:Bs) (q pq:Bool) (k:Int) (xa:OA) (xl xc:Nat) (w:World) (h:Wr w B b l q) (M:Nat) (hM:M≤400000) (hlen:l.length+n.length+S.length+6≤M) (hBw:B≤w.heap.size) (g off:Nat) (T:ByteArray) (hxa:xa=some ⟨g,off,none⟩) (hxl:0<xl) (hgB:g<B) (hT:w.cell? ⟨g,off+1,none⟩=some (.string T)) (hpre:Lib.hasPrefix T.data.toList [35]=true)
 (hP:∀W acc,Wr W B b acc q→Wk B b w W→acc.length+S.length≤M→Calls Tryz.prog 27 #[.pointer (some ⟨b,0,none⟩),.slice xa xl xc] W fun e w'=>e=.returned (.tuple #[])∧Wr w' B b (acc++S) q∧Wk B b W w') :
 Calls Tryz.prog 79 #[.pointer (some ⟨b,0,none⟩),.agg #[.int .i64 k,.string ⟨t.toArray⟩,.string ⟨n.toArray⟩,.string ⟨#[35]⟩,.slice xa xl xc,.bool pq]] w fun e w'=>e=.returned (.tuple #[])∧Wr w' B b (l++36::123::(n++(35::92::10::(S++[125])))) q∧Wk B b w w':=by
 have HW0:=Lib.hid h;have HP:=Hd hP;have hblt:=h.lt;obtain⟨N,hN⟩:∃N:ByteArray,N=⟨n.toArray⟩:=⟨_,rfl⟩;have hNl:N.data.toList=n:=by rw [hN]
 have hNs:N.size=n.length:=by rw [Lib.size_eq,hNl]
 have HN:=Hd hNl;have s3:(⟨#[36,123]⟩:ByteArray).size=2:=rfl;have s1:(⟨#[35]⟩:ByteArray).size=1:=rfl;have hN9:N.size≤400000:=by omega
 rw [←hN];clear h hP hN hNl hNs;subst hxa;have HT:=Hd hT;have HPRE:=Hd (show ∀w,Calls Tryz.prog 25 #[.string T,.string ⟨#[35]⟩] w (fun e w'=>e=.returned (.bool true)∧w'=w) from fun w=>by have h9:=Tryz.strings_HasPrefix T ⟨#[35]⟩ w;rw [show (⟨#[35]⟩:ByteArray).data.toList=[35] from rfl,hpre] at h9;exact h9);have p0:(0:Int)<(xl:Int):=by omega
 clear hT hpre;go_enter Tryz.func79,Tryz.ntmps79;go_wp2_with fail;have HKW:=Hd (show K0 w (w.alloc (.cells #[.int .i64 k,.string ⟨t.toArray⟩,.string N,.string ⟨#[35]⟩,.slice (some ⟨g,off,none⟩) xl xc,.bool pq] 67)) from (aB.refl _ _).alloc _);have HBW:=Hd (show Wk B b w (w.alloc (.cells #[.int .i64 k,.string ⟨t.toArray⟩,.string N,.string ⟨#[35]⟩,.slice (some ⟨g,off,none⟩) xl xc,.bool pq] 67)) from (Wk.refl B b w).alloc _)
 have hrec:=heap_alloc_new w (.cells #[.int .i64 k,.string ⟨t.toArray⟩,.string N,.string ⟨#[35]⟩,.slice (some ⟨g,off,none⟩) xl xc,.bool pq] 67);obtain⟨c0,c1,c2,c3,c4,c5⟩:=cO hrec;have HR:=Hd hrec;clear hrec;generalize w.alloc (.cells #[.int .i64 k,.string ⟨t.toArray⟩,.string N,.string ⟨#[35]⟩,.slice (some ⟨g,off,none⟩) xl xc,.bool pq] 67)=W at HKW HBW HR c0 c1 c2 c3 c4 c5 ⊢;go_region_with (go_at_call 26;refine (iS B b l q _ _ (HW0.o.below (HKW.o.trans ((aB.refl _ W).drew) k3)) (by simp only [ByteArray.size_append,s3,s1];omega) (Nat.le_trans hBw HKW.o.size)).mono ?_;rintro e w2 ⟨rfl,hw2,hb2⟩;have HW:=Hd hw2;have HB:=Hd (HBW.o.trans (((Wk.refl B b W).drew).trans hb2));have HR2:=Hd (((Wk.refl B b W).drew.trans hb2).heap HR.o (by omega) (fun cs fr e=>by injection e with _ e2 _;exact absurd e2 (by decide)));clear hw2 hb2)
 all_goals obtain⟨d0,d1,d2,d3,d4,d5⟩:=cO HR2.o
 all_goals clear c0 c1 c2 c3 c4 c5
 all_goals have dT:w2.cell? ⟨g,off+1,none⟩=some (.string T):=by rw [(HB.o.below hBw).cell (p:=⟨g,off+1,none⟩) hgB];exact HT.o
 all_goals go_wp2_with fail
 all_goals go_quiet ((go_at_call 25;exact Calls.quiet_of_same (HPRE.o _)))
 all_goals go_wp2_with fail
 all_goals refine (iS B b _ q ⟨#[92,10]⟩ _ (HW.o.below ((aB.refl _ _).drewN _)) (by rw [show (⟨#[92,10]⟩:ByteArray).size=2 from rfl];simp only [lA,ByteArray.data_append,Array.toList_append,HN.o,lC,lN];omega) (Nat.le_trans hBw HB.o.size)).mono ?_
 all_goals rintro e w5 ⟨rfl,hw5,hb5⟩
 all_goals have HB':=Hd ((HB.o.trans (aB.drewN (aB.refl _ _) _)).trans hb5)
 all_goals have HW':=Hd hw5
 all_goals have HR5:=Hd (((show Wk B b w2 (w2.drewN _) from aB.drewN (aB.refl _ _) _).trans hb5).heap HR2.o (by omega) (fun cs fr e=>by injection e with _ e2 _;exact absurd e2 (by decide)))
 all_goals obtain⟨f0,f1,f2,f3,f4,f5⟩:=cO HR5.o
 all_goals clear hw5 hb5
 all_goals go_wp2_with fail
 all_goals refine (HP.o _ _ HW'.o HB'.o (by simp only [lA,ByteArray.data_append,Array.toList_append,HN.o,lC,lN];omega)).mono ?_
 all_goals rintro e w3 ⟨rfl,hw3,hb3⟩
 all_goals have HW3:=Hd hw3
 all_goals have HB3:=Hd (HB'.o.trans hb3)
 all_goals clear hw3 hb3
 all_goals go_wp2_with fail
 all_goals refine (fY B b _ q 125 _ HW3.o (by simp only [lA,ByteArray.data_append,Array.toList_append,HN.o,lC,lN];omega) (Nat.le_trans hBw HB3.o.size)).mono ?_
 all_goals rintro e w4 ⟨rfl,hw4,hb4⟩
 all_goals have HW4:=Hd hw4
 all_goals have HB4:=Hd (HB3.o.trans hb4)
 all_goals clear hw4 hb4
 all_goals go_wp2_with fail
 all_goals go_end0
 all_goals refine⟨rfl,?_,HB4.o⟩
 all_goals have h9:=HW4.o
 all_goals rw [show ((⟨#[36,123]⟩:ByteArray)++N++⟨#[35]⟩).data.toList=36::123::(n++[35]) by rw [←HN.o];simp] at h9
 all_goals simpa using h9
end Go.Proofs.YtiihpbccabeoeaaGreatDoor
