/- The walk: a part. -/
import Derived.Test.YtiihpbccabeoeaaGreatDoorYPwE
import Derived.Test.YtiihpbccabeoeaaGreatDoorYPrA
import Derived.Test.YtiihpbccabeoeaaGreatDoorYPsA
namespace Go.Proofs.YtiihpbccabeoeaaGreatDoor
open Go.RowKit
set_option linter.unusedVariables false
set_option maxRecDepth 100000
set_option maxHeartbeats 16000000
theorem hasP1 (z:UInt8):∀s:Bs,Lib.hasPrefix s [z]=startsF [z] s
 | []=>rfl
 | c::t=>by
  have h2:startsF [z] (c::t)=(z==c && true):=by cases t<;>rfl
  rw [h2];simp [Lib.hasPrefix,List.isPrefixOf]
theorem ptLen {w:World} {D:Nat→Prop} {a:Option Addr} {m c:Nat} {l:List Pt} (h:Rd w D (.sl 6 (partsR l)) (.slice a m c)):m=l.length:=by
 rw [partsR_px] at h;rw [(rdRecs (k:=6) (fun _=>rfl) (by decide) h).1,List.length_map]
theorem ptAt {w:World} {D:Nat→Prop} {a:Option Addr} {m c:Nat} {l:List Pt} (h:Rd w D (.sl 6 (partsR l)) (.slice a m c)) {i:Nat} (hi:i<l.length) :
 ∃(g o:Nat) (xa:Option Addr) (xl xc:Nat),a=some ⟨g,o,none⟩∧g<w.heap.size∧D g∧
  (w.cell? ⟨g,o+i*6,none⟩=some (.int .i64 (l[i].kind:Nat))∧w.cell? ⟨g,o+i*6+1,none⟩=some (.string ⟨l[i].text.toArray⟩)∧w.cell? ⟨g,o+i*6+2,none⟩=some (.string ⟨l[i].name.toArray⟩)∧w.cell? ⟨g,o+i*6+3,none⟩=some (.string ⟨l[i].op.toArray⟩)∧w.cell? ⟨g,o+i*6+4,none⟩=some (.slice xa xl xc)∧w.cell? ⟨g,o+i*6+5,none⟩=some (.bool l[i].quoted))∧
  Rd w D (.sl 6 (partsR l[i].word)) (.slice xa xl xc):=by
 obtain⟨b,off,u,ea,hb,hd,_,_⟩:=h.cell (j:=0) (by rw [partsR_len];omega);rw [partsR_px] at h;have hi2:i<(l.map pxOf).length:=by rw [List.length_map];exact hi
 obtain⟨g,o,xa,xl,xc,e,hg,hc,hw⟩:=partsAt h hi2;rw [show (l.map pxOf)[i]=pxOf l[i] from List.getElem_map ..] at hc hw;rw [ea] at e;obtain rfl:b=g:=by injection e with e;injection e
 exact⟨b,o,xa,xl,xc,by rw [ea,e],hg,hd,hc,hw⟩
def varS (q:Bool) (n o:Bs) (w:List Pt):Bs:=if o=[76] then 36::123::35::(n++[125]) else 36::123::(n++(o++(guardS o w++(piecesS q w++[125]))))
theorem guard_no {o:Bs} {w:List Pt} (h:((o==[37] || o==[35]) && firstIs o w)=false):guardS o w=[]:=by unfold guardS;rw [h];rfl
theorem guard_yes {o:Bs} {w:List Pt} (h:((o==[37] || o==[35]) && firstIs o w)=true):guardS o w=[92,10]:=by unfold guardS;rw [h];rfl
theorem var_k (B b:Nat) (l t n o:Bs) (q pq:Bool) (k:Int) (wd:List Pt) (D:Nat→Prop) (xa:Option Addr) (xl xc:Nat) (w:World) (h:Wr w B b l q) (M:Nat) (hM:M≤400000) (hlen:l.length+(varS q n o wd).length≤M) (hBw:B≤w.heap.size)
 (hR:Rd w D (.sl 6 (partsR wd)) (.slice xa xl xc)) (hD:∀g,D g→g<B)
 (hP:o≠[76]→∀W acc,Wr W B b acc q→Wk B b w W→acc.length+(piecesS q wd).length≤M→Calls Tryz.prog 27 #[.pointer (some ⟨b,0,none⟩),.slice xa xl xc] W fun e w'=>e=.returned (.tuple #[])∧Wr w' B b (acc++piecesS q wd) q∧Wk B b W w') :
 Calls Tryz.prog 79 #[.pointer (some ⟨b,0,none⟩),.agg #[.int .i64 k,.string ⟨t.toArray⟩,.string ⟨n.toArray⟩,.string ⟨o.toArray⟩,.slice xa xl xc,.bool pq]] w fun e w'=>e=.returned (.tuple #[])∧Wr w' B b (l++varS q n o wd) q∧Wk B b w w':=by
 unfold varS at hlen ⊢;by_cases h76:o=[76]
 ·subst h76;rw [if_pos rfl] at hlen ⊢;simp only [List.length_cons,List.length_append,List.length_nil] at hlen;exact var_long_k B b l t n q pq k xa xl xc w h (by omega) hBw
 rw [if_neg h76] at hlen ⊢;simp only [List.length_cons,List.length_append,List.length_nil] at hlen;by_cases h37:o=[37]
 ·subst h37;simp only [List.length_cons,List.length_nil] at hlen;cases wd with
  | nil=>
   have hx:xl=0:=ptLen hR;rw [guard_no (by rfl)] at hlen ⊢;exact var_g370 B b l t n (piecesS q []) q pq k xa xl xc w h M hM (by simp only [List.length_nil] at hlen;omega) hBw hx (hP h76)
  | cons p u=>
   have hx:xl=(p::u).length:=ptLen hR;rw [List.length_cons] at hx;obtain⟨g,off,_,_,_,ea,hg,hDg,⟨_,q1,_⟩,_⟩:=ptAt hR (i:=0) (by simp);rw [show off+0*6+1=off+1 by omega] at q1;cases hp:startsF [37] p.text with
   | true=>
    rw [guard_yes (o:=[37]) (w:=p::u) (show (true && startsF [37] p.text)=true by rw [hp];rfl)] at hlen ⊢;exact var_g372 B b l t n (piecesS q (p::u)) q pq k xa xl xc w h M hM (by simp only [List.length_cons,List.length_nil] at hlen;omega) hBw g off ⟨p.text.toArray⟩ ea (by omega) (hD g hDg) q1 (by rw [show (⟨p.text.toArray⟩:ByteArray).data.toList=p.text by simp,hasP1];exact hp) (hP h76)
   | false=>
    rw [guard_no (o:=[37]) (w:=p::u) (show (true && startsF [37] p.text)=false by rw [hp];rfl)] at hlen ⊢;exact var_g371 B b l t n (piecesS q (p::u)) q pq k xa xl xc w h M hM (by simp only [List.length_nil] at hlen;omega) hBw g off ⟨p.text.toArray⟩ ea (by omega) (hD g hDg) q1 (by rw [show (⟨p.text.toArray⟩:ByteArray).data.toList=p.text by simp,hasP1];exact hp) (hP h76)
 by_cases h35:o=[35]
 ·subst h35;simp only [List.length_cons,List.length_nil] at hlen;cases wd with
  | nil=>
   have hx:xl=0:=ptLen hR;rw [guard_no (by rfl)] at hlen ⊢;exact var_g350 B b l t n (piecesS q []) q pq k xa xl xc w h M hM (by simp only [List.length_nil] at hlen;omega) hBw hx (hP h76)
  | cons p u=>
   have hx:xl=(p::u).length:=ptLen hR;rw [List.length_cons] at hx;obtain⟨g,off,_,_,_,ea,hg,hDg,⟨_,q1,_⟩,_⟩:=ptAt hR (i:=0) (by simp);rw [show off+0*6+1=off+1 by omega] at q1;cases hp:startsF [35] p.text with
   | true=>
    rw [guard_yes (o:=[35]) (w:=p::u) (show (true && startsF [35] p.text)=true by rw [hp];rfl)] at hlen ⊢;exact var_g352 B b l t n (piecesS q (p::u)) q pq k xa xl xc w h M hM (by simp only [List.length_cons,List.length_nil] at hlen;omega) hBw g off ⟨p.text.toArray⟩ ea (by omega) (hD g hDg) q1 (by rw [show (⟨p.text.toArray⟩:ByteArray).data.toList=p.text by simp,hasP1];exact hp) (hP h76)
   | false=>
    rw [guard_no (o:=[35]) (w:=p::u) (show (true && startsF [35] p.text)=false by rw [hp];rfl)] at hlen ⊢;exact var_g351 B b l t n (piecesS q (p::u)) q pq k xa xl xc w h M hM (by simp only [List.length_nil] at hlen;omega) hBw g off ⟨p.text.toArray⟩ ea (by omega) (hD g hDg) q1 (by rw [show (⟨p.text.toArray⟩:ByteArray).data.toList=p.text by simp,hasP1];exact hp) (hP h76)
 have hn:(o==[37] || o==[35])=false:=by
  rw [Bool.or_eq_false_iff];exact⟨beq_eq_false_iff_ne.2 h37,beq_eq_false_iff_ne.2 h35⟩
 rw [guard_no (by rw [hn];rfl)] at hlen ⊢;exact var_plain B b l t n o (piecesS q wd) q pq k xa xl xc w h M hM (by simp only [List.length_nil] at hlen;omega) hBw h76 h37 h35 (hP h76)
theorem arr_id (l:Bs):(⟨l.toArray⟩:ByteArray).data.toList=l:=by simp
theorem arr_sz (l:Bs):(⟨l.toArray⟩:ByteArray).size=l.length:=by rw [Lib.size_eq,arr_id]
theorem dol_any (B b:Nat) (acc:Bs) (q:Bool) (p:Pt) (w:World) (D:Nat→Prop) (xa:Option Addr) (xl xc:Nat) (hk:p.kind=3∨p.kind=4∨p.kind=5) (h:Wr w B b acc q) (hBw:B≤w.heap.size) (hlen:acc.length+(pieceS q p).length≤20000)
 (hR:Rd w D (.sl 6 (partsR p.word)) (.slice xa xl xc)) (hD:∀g,D g→g<B)
 (hP:p.kind=3→p.op≠[76]→∀W acc,Wr W B b acc p.quoted→Wk B b w W→acc.length+(piecesS p.quoted p.word).length≤20000→Calls Tryz.prog 27 #[.pointer (some ⟨b,0,none⟩),.slice xa xl xc] W fun e w'=>e=.returned (.tuple #[])∧Wr w' B b (acc++piecesS p.quoted p.word) p.quoted∧Wk B b W w') :
 Calls Tryz.prog 50 #[.pointer (some ⟨b,0,none⟩),.agg #[.int .i64 (p.kind:Nat),.string ⟨p.text.toArray⟩,.string ⟨p.name.toArray⟩,.string ⟨p.op.toArray⟩,.slice xa xl xc,.bool p.quoted]] w fun e w'=>e=.returned (.tuple #[])∧Wr w' B b (acc++pieceS q p) q∧Wk B b w w':=by
 obtain⟨k,t,n,o,wd,pq⟩:=p;simp only [Pt.kind,Pt.text,Pt.name,Pt.op,Pt.word,Pt.quoted] at *;rcases hk with rfl | rfl | rfl
 ·have hV:∀(z:Nat),acc.length+z+(varS pq n o wd).length≤20000→∀W ac,Wr W B b ac pq→Wk B b w W→ac.length≤acc.length+z→Calls Tryz.prog 79 #[.pointer (some ⟨b,0,none⟩),.agg #[.int .i64 3,.string ⟨t.toArray⟩,.string ⟨n.toArray⟩,.string ⟨o.toArray⟩,.slice xa xl xc,.bool pq]] W fun e w'=>e=.returned (.tuple #[])∧Wr w' B b (ac++varS pq n o wd) pq∧Wk B b W w':=fun z hz W ac hw hb hl=>
   var_k B b ac t n o pq pq 3 wd D xa xl xc W hw 20000 (by omega) (by omega) (Nat.le_trans hBw hb.size) (hR.keep (keeps_below (hb.below hBw)) (fun g _ hg h9=>absurd (hD g hg) (by omega))) hD fun h76 V ac2 hw2 hb2 hl2=>hP rfl h76 V ac2 hw2 (hb.trans hb2) hl2
  have e0:pieceS q (.mk 3 t n o wd pq)=(if pq && !q then [34] else [])++(varS pq n o wd++(if pq && !q then [34] else [])):=pieceS_3 ..;rw [e0] at hlen ⊢;cases pq with
  | false=>
   have h9:=dol_3p B b acc q ⟨t.toArray⟩ ⟨n.toArray⟩ ⟨o.toArray⟩ xa xl xc w h hBw (varS false n o wd) (hV 0 (by simp only [Bool.false_and,Bool.false_eq_true,if_false,List.length_append,List.length_nil] at hlen;omega)) (by simp only [Bool.false_and,Bool.false_eq_true,if_false,List.length_append,List.length_nil] at hlen;omega);simpa using h9
  | true=>
   cases q with
   | true=>
    have h9:=dol_3i B b acc ⟨t.toArray⟩ ⟨n.toArray⟩ ⟨o.toArray⟩ xa xl xc w h hBw (varS true n o wd) (hV 0 (by simp only [Bool.not_true,Bool.and_false,Bool.false_eq_true,if_false,List.length_append,List.length_nil] at hlen;omega)) (by simp only [Bool.not_true,Bool.and_false,Bool.false_eq_true,if_false,List.length_append,List.length_nil] at hlen;omega);simpa using h9
   | false=>
    have h9:=dol_3o B b acc ⟨t.toArray⟩ ⟨n.toArray⟩ ⟨o.toArray⟩ xa xl xc w h hBw (varS true n o wd) (hV 1 (by simp only [Bool.not_false,Bool.and_true,if_true,List.length_append,List.length_cons,List.length_nil] at hlen;omega)) (by simp only [Bool.not_false,Bool.and_true,if_true,List.length_append,List.length_cons,List.length_nil] at hlen;omega);simpa using h9
 ·rw [pieceS_4] at hlen ⊢;have hl:acc.length+(⟨t.toArray⟩:ByteArray).size≤400000:=by rw [arr_sz];simp only [List.length_append,List.length_cons] at hlen;omega
  cases pq with
  | false=>simpa using dol_4p B b acc q ⟨t.toArray⟩ ⟨n.toArray⟩ ⟨o.toArray⟩ xa xl xc w h hBw hl
  | true=>
   cases q with
   | true=>simpa using dol_4i B b acc ⟨t.toArray⟩ ⟨n.toArray⟩ ⟨o.toArray⟩ xa xl xc w h hBw hl
   | false=>simpa using dol_4o B b acc ⟨t.toArray⟩ ⟨n.toArray⟩ ⟨o.toArray⟩ xa xl xc w h hBw hl
 ·rw [pieceS_5] at hlen ⊢;have hl:acc.length+(⟨t.toArray⟩:ByteArray).size≤400000:=by rw [arr_sz];simp only [List.length_append,List.length_cons] at hlen;omega
  cases pq with
  | false=>simpa using dol_5p B b acc q ⟨t.toArray⟩ ⟨n.toArray⟩ ⟨o.toArray⟩ xa xl xc w h hBw hl
  | true=>
   cases q with
   | true=>simpa using dol_5i B b acc ⟨t.toArray⟩ ⟨n.toArray⟩ ⟨o.toArray⟩ xa xl xc w h hBw hl
   | false=>simpa using dol_5o B b acc ⟨t.toArray⟩ ⟨n.toArray⟩ ⟨o.toArray⟩ xa xl xc w h hBw hl
/-! Parts. -/
theorem pieces_snoc (q:Bool):∀{l:List Pt} {k:Nat} (h:k<l.length),piecesS q (l.take (k+1))=piecesS q (l.take k)++pieceS q l[k]
 | p::l,0,h=>by
  rw [List.take_succ_cons,List.take_zero,List.take_zero,piecesS_cons,piecesS_nil,List.append_nil];rfl
 | p::l,k+1,h=>by
  rw [List.take_succ_cons,piecesS_cons,pieces_snoc q (l:=l) (by simpa using h),List.take_succ_cons,piecesS_cons,List.append_assoc];rfl
theorem pieces_take (q:Bool):∀(l:List Pt) (k:Nat),(piecesS q (l.take k)).length≤(piecesS q l).length
 | [],k=>by rw [List.take_nil];exact Nat.le_refl _
 | p::l,0=>by rw [List.take_zero,piecesS_nil];exact Nat.zero_le _
 | p::l,k+1=>by
  have:=pieces_take q l k;rw [List.take_succ_cons,piecesS_cons,piecesS_cons,List.length_append,List.length_append];omega
theorem okps_at {stop:UInt8→Bool} {q:Bool} {d:Nat}:∀{l:List Pt},OkPs stop q d l→∀p∈l,OkP stop q d p
 | [],_,p,hp=>by cases hp
 | x::l,h,p,hp=>by
  unfold OkPs at h;rcases List.mem_cons.1 hp with rfl | hp
  ·exact h.1
  ·exact okps_at h.2 p hp
theorem okp_kind {stop:UInt8→Bool} {q:Bool} {d:Nat} {p:Pt} (h:OkP stop q d p):p.kind=1∨p.kind=2∨((p.kind=3∨p.kind=4∨p.kind=5)∧(p.kind=3→p.op≠[76]→∃stop d,OkPs stop p.quoted d p.word)):=by
 obtain⟨k,t,n,o,w,pq⟩:=p;unfold OkP at h;simp only [Pt.kind,Pt.op,Pt.quoted,Pt.word];rcases h.2.2 with ⟨rfl,_⟩ | ⟨rfl,_⟩ | ⟨rfl,_⟩ | ⟨rfl,_⟩ | ⟨rfl,_,_,_,hc⟩
 ·exact .inl rfl
 ·exact .inr (.inl rfl)
 ·exact .inr (.inr ⟨.inr (.inl rfl),fun h=>by cases h⟩)
 ·exact .inr (.inr ⟨.inr (.inr rfl),fun h=>by cases h⟩)
 ·refine .inr (.inr ⟨.inl rfl,fun _ h76=>?_⟩);rcases hc with ⟨_,rfl⟩ | ⟨e,_⟩ | ⟨_,_,hw,_⟩
  ·exact⟨brS,0,by unfold OkPs;trivial⟩
  ·exact absurd e h76
  ·exact⟨_,_,hw⟩
theorem text_piece (q:Bool) (p:Pt) (h:p.kind=1∨p.kind=2):p.text.length≤(pieceS q p).length:=by
 have hp:∀t:Bs,t.length≤(plainS t).length:=fun t=>by
  induction t with
  | nil=>exact Nat.zero_le _
  | cons c t ih=>rw [plainS_cons];split<;>simp only [List.length_cons]<;>omega
 have hq:∀t:Bs,t.length≤(quoQ t).length:=fun t=>by
  induction t with
  | nil=>exact Nat.zero_le _
  | cons c t ih=>
   unfold quoQ at ih ⊢;rw [List.flatMap_cons,List.length_append];split<;>simp only [List.length_cons,List.length_nil]<;>omega
 have hu:∀t:Bs,t.length≤(t.flatMap quoB1).length:=fun t=>by
  induction t with
  | nil=>exact Nat.zero_le _
  | cons c t ih=>
   rw [List.flatMap_cons,List.length_append,List.length_cons];have:1≤(quoB1 c).length:=by unfold quoB1;split<;>simp
   omega
 obtain⟨k,t,n,o,w,pq⟩:=p;simp only [Pt.kind,Pt.text] at *;rcases h with rfl | rfl
 ·rw [pieceS_1];exact hp t
 ·rw [pieceS_2];split
  ·exact hq t
  ·unfold quoU;have:=hu t;simp only [List.length_cons,List.length_append];omega
theorem piece_1 (q:Bool) (p:Pt) (h:p.kind=1):pieceS q p=plainS p.text:=by
 obtain⟨k,t,n,o,w,pq⟩:=p;simp only [Pt.kind,Pt.text] at *;subst h;rw [pieceS_1]
theorem piece_2 (q:Bool) (p:Pt) (h:p.kind=2):pieceS q p=if q then quoQ p.text else quoU p.text:=by
 obtain⟨k,t,n,o,w,pq⟩:=p;simp only [Pt.kind,Pt.text] at *;subst h;rw [pieceS_2]
def PartsOK (N:Nat):Prop:=∀(l:List Pt) (stop:UInt8→Bool) (q:Bool) (d:Nat),OkPs stop q d l→SizeOf.sizeOf l<N→∀(B b:Nat) (acc:Bs) (m:Int) (w:World) (D:Nat→Prop) (a:Option Addr) (L c:Nat),Wr w B b acc q→Rd w D (.sl 6 (partsR l)) (.slice a L c)→(∀g,D g→g<B)→w.cell? ⟨0,0,none⟩=some (.int .i64 m)→0<B→acc.length+(piecesS q l).length≤20000→B≤w.heap.size→
 Calls Tryz.prog 27 #[.pointer (some ⟨b,0,none⟩),.slice a L c] w fun e w'=>e=.returned (.tuple #[])∧Wr w' B b (acc++piecesS q l) q∧Wk B b w w'
theorem parts_step (N:Nat) (ih:PartsOK N):PartsOK (N+1):=by
 intro l stop q d hok hsz B b acc m w D a L c h ha hD hm hB0 hlen hBw;have hc6:=cells_part;have hLb:=rdBound (by decide) ha;have HL:=Hd (ptLen ha);have HA:=Hd ha;have HX:=Hd (okps_at hok);have HW0:=Lib.hid h;have HM:=Hd hm;have HD:=Hd hD;have HI:=Hd ih;have HSZ:=Hd hsz;clear ha hok h hm hD ih hsz;go_enter Tryz.func27,Tryz.ntmps27;go_wp2_with fail;go_loopw [8] (fun k' wr=>∃k:Nat,k'=.int .i64 k∧k≤L∧Hid (Wr wr B b (acc++piecesS q (l.take k)) q)∧Hid (Wk B b w wr)) (fun k' _=>L - (intOf k').toNat)
 case atStart=>exact⟨0,rfl,Nat.zero_le _,by rw [List.take_zero,piecesS_nil,List.append_nil];exact HW0,Hd (Wk.refl _ _ _)⟩
 case round=>
  clear HW0;obtain⟨k,rfl,hk,HW,HB⟩:=hrel;by_cases hlt:k<L
  ·have hl2:k<l.length:=by rw [←HL.out];exact hlt
   obtain⟨g,o,xa,xl,xc,rfl,hg,hdg,⟨q0,q1,q2,q3,q4,q5⟩,hxw⟩:=ptAt (HA.out.keep (keeps_below (HB.out.below hBw)) (fun b _ hb h=>absurd (HD.out b hb) (by omega))) hl2;have hok:=HX.out _ (List.getElem_mem hl2);have hsn:=pieces_snoc q hl2;have hle:=pieces_take q l (k+1);have hszw:=wordSize (List.getElem_mem hl2);obtain⟨p,hpe⟩:∃p,p=l[k]:=⟨_,rfl⟩;rw [←hpe] at q0 q1 q2 q3 q5 hxw hok hsn hszw;have hla:(acc++piecesS q (l.take k)).length+(pieceS q p).length≤20000:=by
    rw [hsn,List.length_append] at hle;rw [List.length_append];omega
   have HSN:=Hd hsn;have p1:(k:Int)<(L:Int):=by omega
   have HMW:=Hd (show wr.cell? ⟨0,0,none⟩=some (.int .i64 m) by rw [(HB.out.below hBw).cell (p:=⟨0,0,none⟩) hB0];exact HM.out);have hsz:=HB.out.size;obtain⟨kx,hkx⟩:∃kx:Int,kx=(p.kind:Nat):=⟨_,rfl⟩;obtain⟨T,hT⟩:∃T:ByteArray,T=⟨p.text.toArray⟩:=⟨_,rfl⟩;obtain⟨N1,hN1⟩:∃T:ByteArray,T=⟨p.name.toArray⟩:=⟨_,rfl⟩;obtain⟨O1,hO1⟩:∃T:ByteArray,T=⟨p.op.toArray⟩:=⟨_,rfl⟩;obtain⟨pq,hpq⟩:∃q,q=p.quoted:=⟨_,rfl⟩;rw [←hkx] at q0
   rw [←hT] at q1;rw [←hN1] at q2;rw [←hO1] at q3;rw [←hpq] at q5;clear hle hsn hl2 hpe;rcases okp_kind hok with hk1 | hk1 | ⟨hk1,hkw⟩
   ·have HP:=Hd (piece_1 q p hk1);have htl:=text_piece q p (.inl hk1);have HC:Hid (∀W,Wr W B b (acc++piecesS q (l.take k)) q→B≤W.heap.size→Calls Tryz.prog 48 #[.pointer (some ⟨b,0,none⟩),.string T] W (fun e w2=>e=.returned (.tuple #[])∧Wr w2 B b (acc++piecesS q (l.take k)++pieceS q p) q∧Wk B b W w2)):=Hd fun W hw hbw=>by
     have h9:=plain_k B b (acc++piecesS q (l.take k)) q T W hw (by rw [hT,arr_sz];omega) hbw;rw [show T.data.toList=p.text by rw [hT,arr_id],←HP.out] at h9;exact h9
    have e1:kx=1:=by rw [hkx,hk1];rfl
    subst e1;clear hk1 hT hN1 hO1 hpq hkx hxw hok htl;go_wp2_with fail;obtain⟨W,hW⟩:∃W,W=wr.alloc (.cells #[.int .i64 1,.string T,.string N1,.string O1,.slice xa xl xc,.bool pq] 67):=⟨_,rfl⟩;rw [←hW];have hkW:Keeps (fun _=>False) wr W:=by rw [hW];exact (Keeps.refl _ _).alloc _
    have hbW:Wk B b wr W:=by rw [hW];exact (Wk.refl B b wr).alloc _
    refine (HC.out W (HW.out.below hkW) (by have:=hkW.size;omega)).mono ?_;rintro e w2 ⟨rfl,hw2,hb2⟩;have HW2:=Hd hw2;have HB2:=Hd (HB.out.trans (hbW.trans hb2));clear hw2 hb2 hkW hbW hW;go_wp2_with fail;go_roundw
    case rel=>exact⟨k+1,by go_num,by omega,Hd (by rw [HSN.out,←List.append_assoc];exact HW2.out),HB2⟩
    case measure=>simp [intOf];omega
   ·have HP:=Hd (piece_2 q p hk1);have htl:=text_piece q p (.inr hk1);have HC:Hid (∀W,Wr W B b (acc++piecesS q (l.take k)) q→W.cell? ⟨0,0,none⟩=some (.int .i64 m)→B≤W.heap.size→Calls Tryz.prog 49 #[.pointer (some ⟨b,0,none⟩),.string T] W (fun e w2=>e=.returned (.tuple #[])∧Wr w2 B b (acc++piecesS q (l.take k)++pieceS q p) q∧Wk B b W w2)):=Hd fun W hw hmw hbw=>by
     have h9:=quote_k B b (acc++piecesS q (l.take k)) p.text q m W hw (by omega) hmw (by omega) hbw;rw [←hT,←HP.out] at h9;exact h9
    have e1:kx=2:=by rw [hkx,hk1];rfl
    subst e1;clear hk1 hT hN1 hO1 hpq hkx hxw hok htl;go_wp2_with fail;obtain⟨W,hW⟩:∃W,W=wr.alloc (.cells #[.int .i64 2,.string T,.string N1,.string O1,.slice xa xl xc,.bool pq] 67):=⟨_,rfl⟩;rw [←hW];have hkW:Keeps (fun _=>False) wr W:=by rw [hW];exact (Keeps.refl _ _).alloc _
    have hbW:Wk B b wr W:=by rw [hW];exact (Wk.refl B b wr).alloc _
    refine (HC.out W (HW.out.below hkW) (cellKeep HMW.out hkW (by omega)) (by have:=hkW.size;omega)).mono ?_;rintro e w2 ⟨rfl,hw2,hb2⟩;have HW2:=Hd hw2;have HB2:=Hd (HB.out.trans (hbW.trans hb2));clear hw2 hb2 hkW hbW hW;go_wp2_with fail;go_roundw
    case rel=>exact⟨k+1,by go_num,by omega,Hd (by rw [HSN.out,←List.append_assoc];exact HW2.out),HB2⟩
    case measure=>simp [intOf];omega
   ·have HC:Hid (∀W,Keeps (fun _=>False) wr W→Calls Tryz.prog 50 #[.pointer (some ⟨b,0,none⟩),.agg #[.int .i64 kx,.string T,.string N1,.string O1,.slice xa xl xc,.bool pq]] W (fun e w2=>e=.returned (.tuple #[])∧Wr w2 B b (acc++piecesS q (l.take k)++pieceS q p) q∧Wk B b W w2)):=Hd fun W hw=>by
     rw [hkx,hT,hN1,hO1,hpq];have hbw:B≤W.heap.size:=by have:=hw.size;omega
     refine dol_any B b (acc++piecesS q (l.take k)) q p W D xa xl xc hk1 (HW.out.below hw) hbw hla (rdKeep0 hxw hw) HD.out fun h3 h76 V ac hwv hbv hlv=>?_;obtain⟨st2,d2,hok2⟩:=hkw h3 h76;have hmv:V.cell? ⟨0,0,none⟩=some (.int .i64 m):=by
      rw [(hbv.below hbw).cell (p:=⟨0,0,none⟩) hB0];exact cellKeep HMW.out hw (by omega)
     have hwr:Rd V D (.sl 6 (partsR p.word)) (.slice xa xl xc):=(rdKeep0 hxw hw).keep (keeps_below (hbv.below hbw)) (fun g _ hg h9=>absurd (HD.out g hg) (by omega));exact HI.out p.word st2 p.quoted d2 hok2 (by have:=HSZ.out;omega) B b ac m V D xa xl xc hwv hwr HD.out hmv hB0 hlv (Nat.le_trans hbw hbv.size)
    have t1:(kx==1)=false:=by rw [beq_eq_false_iff_ne,hkx];omega
    have t2:(kx==2)=false:=by rw [beq_eq_false_iff_ne,hkx];omega
    clear hk1 hT hN1 hO1 hpq hkx hxw hok hkw;go_wp2_with fail;obtain⟨W,hW⟩:∃W,W=wr.alloc (.cells #[.int .i64 kx,.string T,.string N1,.string O1,.slice xa xl xc,.bool pq] 67):=⟨_,rfl⟩;rw [←hW];have hkW:Keeps (fun _=>False) wr W:=by rw [hW];exact (Keeps.refl _ _).alloc _
    have hbW:Wk B b wr W:=by rw [hW];exact (Wk.refl B b wr).alloc _
    refine (HC.out W hkW).mono ?_;rintro e w2 ⟨rfl,hw2,hb2⟩;have HW2:=Hd hw2;have HB2:=Hd (HB.out.trans (hbW.trans hb2));clear hw2 hb2 hkW hbW hW;go_wp2_with fail;go_roundw
    case rel=>exact⟨k+1,by go_num,by omega,Hd (by rw [HSN.out,←List.append_assoc];exact HW2.out),HB2⟩
    case measure=>simp [intOf];omega
  ·obtain rfl:k=L:=by omega
   have p1:¬(k:Int)<(k:Int):=by omega
   go_wp2_with fail;go_end0;refine⟨rfl,?_,HB.out⟩;have h9:=HW.out;rw [List.take_of_length_le (by rw [←HL.out];exact Nat.le_refl _)] at h9;exact h9
theorem parts_all:∀N,PartsOK N
 | 0=>fun l _ _ _ _ h=>absurd h (Nat.not_lt_zero _)
 | N+1=>parts_step N (parts_all N)
theorem string_e (B b:Nat) (w:World) (hbk:w.heap[b]? = some (.cells #[.pointer none,.slice none 0 0,.bool false] 65 (0,0))) :
 Calls Tryz.prog 28 #[.pointer (some ⟨b,0,none⟩)] w fun e w'=>e=.returned (.string ⟨#[]⟩)∧Below B w w':=by
 have mixed:Tryz.prog.follows .mixedOrders=true:=by kernel_rfl
 have hSD:(Builtin.unsafeSliceData_ #[61] 97 #[.slice none 0 0]).run Tryz.prog w.drew=.ok (.pointer none) w.drew:=Lib.run_unsafeSliceData_nil _ _ _ _ _;have c1:w.drew.cell? ⟨b,1,none⟩=some (.slice none 0 0):=by
  have:w.drew.heap[b]? = some (.cells #[.pointer none,.slice none 0 0,.bool false] 65 (0,0)):=hbk;rw [Lib.cell_of_heap this];rfl
 have hUS:(Builtin.unsafeString_ #[97,3] 9 #[.pointer none,.int .i64 0]).run Tryz.prog w.drew=.ok (.string .empty) w.drew:=Lib.run_unsafeString_none _ _ _ _ _;clear hbk;go_enter Tryz.func28,Tryz.ntmps28;go_wp2;go_region_o
 all_goals (go_wp2;go_ret;exact⟨rfl,Below.drew (Below.refl B w)⟩)
theorem parts_none (b:Nat) (a:Option Addr) (c:Nat) (w:World) :
 Calls Tryz.prog 27 #[.pointer (some ⟨b,0,none⟩),.slice a 0 c] w fun e w'=>e=.returned (.tuple #[])∧w'=w:=by
 go_enter Tryz.func27,Tryz.ntmps27;go_wp2_with fail;go_loopw [8] (fun k' wr=>k'=.int .i64 0∧wr=w) (fun _ _=>0)
 case atStart=>exact⟨rfl,rfl⟩
 case round=>
  obtain⟨rfl,rfl⟩:=hrel;go_wp2_with fail;go_end0;exact⟨rfl,rfl⟩
theorem wordS_ne {l:List Pt} (h:l≠[]) {stop:UInt8→Bool} {d:Nat} (hok:OkPs stop false d l):wordS l≠[]:=by
 cases l with
 | nil=>exact absurd rfl h
 | cons p t=>
  unfold OkPs at hok;obtain⟨c,u,hc,_⟩:=part_head hok.1;unfold wordS;rw [piecesS_cons,hc];simp
structure WordOK2 (l:List Pt):Prop where
 ok:∃stop d,OkPs stop false d l
 len:(wordS l).length≤20000
theorem sword_any (m:Int) (w:World) (D:Nat→Prop) (l:List Pt) (a:Option Addr) (L c:Nat) (ha:Rd w D (.sl 6 (partsR l)) (.slice a L c)) (hx:WordOK2 l) (hm:w.cell? ⟨0,0,none⟩=some (.int .i64 m)) :
 Calls Tryz.prog 13 #[.slice a L c] w fun e w'=>e=.returned (.string ⟨(wordS l).toArray⟩)∧Below w.heap.size w w':=by
 have hB0:=cellLt hm;have hc6:=cells_part;have hLb:=rdBound (by decide) ha;have HL:=Hd (ptLen ha);have HA:=Hd ha;have HX:=Hd hx;have HM:=Hd hm;obtain⟨W,hW⟩:∃W,W=w.alloc (.cells #[.pointer none,.slice none 0 0,.bool false] 65):=⟨_,rfl⟩;have hWr:Wr W w.heap.size w.heap.size [] false:=by rw [hW];exact Wr.new w
 have hkW:Keeps (fun _=>False) w W:=by rw [hW];exact (Keeps.refl _ _).alloc _
 have hbW:Wk w.heap.size w.heap.size w W:=by rw [hW];exact (Wk.refl _ _ _).alloc _
 have HPT:=Hd (fun V ac (hwv:Wr V w.heap.size w.heap.size ac false) (hv:Wk w.heap.size w.heap.size w V) (hl:ac.length+(piecesS false l).length≤20000)=>(by
  obtain⟨stop,d,hok⟩:=hx.ok;exact parts_all _ l stop false d hok (Nat.lt_succ_self _) w.heap.size w.heap.size ac m V (fun g=>D g∧g<w.heap.size) a L c hwv ((ha.mono (D':=fun g=>D g∧g<w.heap.size) (fun b hb hd=>⟨hd,hb⟩)).keep (keeps_below (hv.below (Nat.le_refl _))) (fun g _ hg h9=>absurd hg.2 (by omega))) (fun g hg=>hg.2) (by rw [(hv.below (Nat.le_refl _)).cell (p:=⟨0,0,none⟩) hB0];exact hm) hB0 hl hv.size:Calls Tryz.prog 27 #[.pointer (some ⟨w.heap.size,0,none⟩),.slice a L c] V fun e w'=>e=.returned (.tuple #[])∧Wr w' w.heap.size w.heap.size (ac++piecesS false l) false∧Wk w.heap.size w.heap.size V w'))
 have HBW:=Hd hbW;have HWW:=Hd hWr;have HWE:=Hd hW;obtain⟨S,hS⟩:∃S:ByteArray,S=⟨(wordS l).toArray⟩:=⟨_,rfl⟩;rw [←hS];have HS:=Hd hS;have hlen:=hx.len;clear ha hx hm hWr hkW hbW hW hS;by_cases hL0:L=0
 ·subst hL0;have hS0:S=⟨#[]⟩:=by rw [HS.out,List.eq_nil_of_length_eq_zero HL.out.symm];rfl
  have p1:¬(0:Int)<((0:Nat):Int):=by omega
  go_enter Tryz.func13,Tryz.ntmps13;go_upto_region 2 with fail;rw [←HWE.out];go_wp2_with fail;refine (parts_none w.heap.size a c _).mono ?_;rintro e w2 ⟨rfl,rfl⟩;go_wp2_with fail;refine (string_e w.heap.size w.heap.size _ (by rw [HWE.out];exact heap_alloc_new w _)).mono ?_;rintro e w3 ⟨rfl,hb3⟩;have HB3:=Hd ((HBW.out.below (Nat.le_refl _)).trans hb3);clear hb3;go_wp2_with fail;go_ret;exact⟨by rw [hS0];rfl,HB3.out⟩
 ·have HNE:=Hd (show wordS l≠[] from by
   obtain⟨stop,d,hok⟩:=HX.out.ok;exact wordS_ne (fun h0=>hL0 (by rw [HL.out,h0];rfl)) hok)
  have hl2:0<l.length:=by rw [←HL.out];omega
  obtain⟨g,o,xa,xl,xc,rfl,hg,hdg,⟨q0,q1,q2,q3,q4,q5⟩,hxw⟩:=ptAt (rdKeep0 HA.out (show Keeps (fun _=>False) w W by rw [HWE.out];exact (Keeps.refl _ _).alloc _)) hl2;obtain⟨x,t,hxt⟩:∃x t,l=x::t:=by
   cases l with
   | nil=>simp at hl2
   | cons x t=>exact⟨x,t,rfl⟩
  have hx0:l[0]=x:=by subst hxt;rfl
  rw [hx0] at q0 q1;simp only [Nat.zero_mul,Nat.add_zero] at q0 q1;obtain⟨T,hT⟩:∃T:ByteArray,T=⟨x.text.toArray⟩:=⟨_,rfl⟩;rw [←hT] at q1;obtain⟨kx,hkx⟩:∃kx:Int,kx=(x.kind:Nat):=⟨_,rfl⟩;rw [←hkx] at q0;have p1:(0:Int)<(L:Int):=by omega
  have p2:0<L:=by omega
  have hsh:sharpS l=if x.kind==1 && startsF [35] x.text then [39,39] else []:=by rw [hxt];rfl
  clear hxw hx0 hl2 q2 q3 q4 q5;by_cases hk1:x.kind=1
  ·have e1:kx=1:=by rw [hkx,hk1];rfl
   subst e1;rw [show (x.kind==1)=true by rw [hk1];rfl,Bool.true_and] at hsh;cases hp9:startsF [35] x.text with
   | false=>
    rw [hp9,if_neg (by simp)] at hsh;have HWS:=Hd (show wordS l=piecesS false l by unfold wordS;rw [hsh,List.nil_append]);have hlen2:(piecesS false l).length≤20000:=by rw [←HWS.out];exact hlen
    have HPF:=Hd (show ∀w,Calls Tryz.prog 25 #[.string T,.string ⟨#[35]⟩] w (fun e w'=>e=.returned (.bool false)∧w'=w) from fun w=>(Tryz.strings_HasPrefix T ⟨#[35]⟩ w).mono fun e w' h=>by rw [show T.data.toList=x.text by rw [hT,arr_id],show (⟨#[35]⟩:ByteArray).data.toList=[35] from rfl,hasP1,hp9] at h;exact h);clear hk1 hp9 hT hsh hkx hxt;go_enter Tryz.func13,Tryz.ntmps13;go_upto_region 2 with fail
    rw [←HWE.out];go_wp2_with fail;refine (HPF.out _).mono ?_;rintro e w1 ⟨rfl,rfl⟩;go_wp2_with fail;refine (HPT.out _ _ HWW.out HBW.out (by simpa using hlen2)).mono ?_;rintro e w2 ⟨rfl,hw2,hb2⟩;have HW2:=Hd hw2;have HB2:=Hd (HBW.out.trans hb2);clear hw2 hb2;go_wp2_with fail;refine (string_w w.heap.size w.heap.size (wordS l) false _ (by rw [HWS.out];simpa using HW2.out) HNE.out).mono ?_;rintro e w3 ⟨rfl,hb3⟩
    rw [←HS.out];have HB3:=Hd ((HB2.out.below (Nat.le_refl _)).trans hb3);clear hb3;go_wp2_with fail;go_ret;exact⟨rfl,HB3.out⟩
   | true=>
    rw [hp9,if_pos rfl] at hsh;have HWS:=Hd (show wordS l=[39,39]++piecesS false l by unfold wordS;rw [hsh]);have hlen2:2+(piecesS false l).length≤20000:=by
     have h9:=hlen;rw [HWS.out,List.length_append] at h9;exact h9
    have HPF:=Hd (show ∀w,Calls Tryz.prog 25 #[.string T,.string ⟨#[35]⟩] w (fun e w'=>e=.returned (.bool true)∧w'=w) from fun w=>(Tryz.strings_HasPrefix T ⟨#[35]⟩ w).mono fun e w' h=>by rw [show T.data.toList=x.text by rw [hT,arr_id],show (⟨#[35]⟩:ByteArray).data.toList=[35] from rfl,hasP1,hp9] at h;exact h);clear hk1 hp9 hT hsh hkx hxt;go_enter Tryz.func13,Tryz.ntmps13;go_upto_region 2 with fail
    rw [←HWE.out];go_wp2_with fail;refine (HPF.out _).mono ?_;rintro e w1 ⟨rfl,rfl⟩;go_wp2_with fail;refine (str_k w.heap.size w.heap.size [] false ⟨#[39,39]⟩ _ HWW.out (by show 0+2≤_;omega) HBW.out.size).mono ?_;rintro e w4 ⟨rfl,hw4,hb4⟩;have HW4:=Hd hw4;have HB4:=Hd (HBW.out.trans hb4);clear hw4 hb4;go_wp2_with fail;refine (HPT.out _ _ HW4.out HB4.out (by show 2+_≤_;exact hlen2)).mono ?_;rintro e w2 ⟨rfl,hw2,hb2⟩
    have HW2:=Hd hw2;have HB2:=Hd (HB4.out.trans hb2);clear hw2 hb2;go_wp2_with fail;refine (string_w w.heap.size w.heap.size (wordS l) false _ (by rw [HWS.out];exact HW2.out) HNE.out).mono ?_;rintro e w3 ⟨rfl,hb3⟩;rw [←HS.out];have HB3:=Hd ((HB2.out.below (Nat.le_refl _)).trans hb3);clear hb3;go_wp2_with fail;go_ret;exact⟨rfl,HB3.out⟩
  ·have t1:(kx==1)=false:=by rw [beq_eq_false_iff_ne,hkx];omega
   rw [show (x.kind==1)=false from beq_eq_false_iff_ne.2 hk1,Bool.false_and,if_neg (by simp)] at hsh;have HWS:=Hd (show wordS l=piecesS false l by unfold wordS;rw [hsh,List.nil_append]);have hlen2:(piecesS false l).length≤20000:=by rw [←HWS.out];exact hlen
   clear hk1 hT hsh hkx hxt;go_enter Tryz.func13,Tryz.ntmps13;go_upto_region 2 with fail;rw [←HWE.out];go_wp2_with fail;refine (HPT.out _ _ HWW.out HBW.out (by simpa using hlen2)).mono ?_;rintro e w2 ⟨rfl,hw2,hb2⟩;have HW2:=Hd hw2;have HB2:=Hd (HBW.out.trans hb2);clear hw2 hb2;go_wp2_with fail;refine (string_w w.heap.size w.heap.size (wordS l) false _ (by rw [HWS.out];simpa using HW2.out) HNE.out).mono ?_
   rintro e w3 ⟨rfl,hb3⟩;rw [←HS.out];have HB3:=Hd ((HB2.out.below (Nat.le_refl _)).trans hb3);clear hb3;go_wp2_with fail;go_ret;exact⟨rfl,HB3.out⟩
end Go.Proofs.YtiihpbccabeoeaaGreatDoor
