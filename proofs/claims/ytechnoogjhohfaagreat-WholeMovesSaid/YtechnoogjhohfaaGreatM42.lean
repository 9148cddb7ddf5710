import Derived.Test.YtechnoogjhohfaaGreatM41
import Derived.Test.YtechnoogjhohfaaGreatM28
import Derived.Test.YtechnoogjhohfaaGreatM8
set_option maxRecDepth 100000
set_option maxHeartbeats 6400000
set_option linter.unusedVariables false
set_option linter.unusedSimpArgs false
namespace Go.Proofs.YtechnoogjhohfaaGreat
open Go.RowKit Go.Lib
open YtechnoogjhohfaaGreatW Go.Proofs.Tryz Go.Proofs.YtechnoogjhohfaaGreat.Tryz
abbrev zrO:ByteArray:={ data:=#[] }
theorem Sg.iz {w W:World} {H D boots G t:Nat} {U:Nat->Prop} {A R:Nat->DT} {O:List Rw} {z:Option Addr} {L E:Nat} (h:Sg w H D boots G U A W) (e:∀ q:Rq,q.kd=14->q.tn=t->stepD boots A q (jG O)=(jD 0,boots,R)) (hb:zi W (.slice z L E) (jG O)) (Z:Zd O) (Y:G<=100000) :
  zc 9 #[.pointer (some ⟨H,0,none⟩),.agg #[.int .i64 14,.int .i64 t,.int .i64 0,.int .i64 0,.string { data:=#[] },.string { data:=#[] },.string { data:=#[] },.int .i64 0,.int .u64 0,.slice z L E]] W fun e u=>∃ a X,e=.returned (.agg (zQ a).toArray)/\Kp u W.heap.size a (jD 0)/\Sg w H D boots (G+1) X R u/\zz U W u/\∀ x,dB a (jD 0) x->¬ X x :=
 Sg.do (q:=⟨14,t,0,0,{ data:=#[] },{ data:=#[] },{ data:=#[] },0,0,z,L,E⟩) h (e _ rfl rfl) (by show (14:Int)≠18;decide) (fun h=>absurd (show (14:Int)=19 from h) (by decide)) (iok_of (by show _<=(0:Int)/\(0:Int)<=_;omega)) (iok_of (by show _<=(0:Int)/\(0:Int)<=_;omega)) hb (by have:=zon Z;omega) Y
theorem zlT (a:An) (W:World):(Instr.field 31 (.agg (zQ a).toArray) 0).run prog W=.ok (.int .i64 a.Z) W:=by kernel_rfl
def zrN (w:World) (H D:Nat) (u:List Rw) (i:Nat) (W:World):Prop:=∃ boots h A G,Sg w H D boots G h A W/\G<=300+5*i/\Ge A/\zfJ A (i % 4) u
theorem moves_any (A:Option Addr) (n c:Nat) (d:zcx) (B:Option Addr) (m g8:Nat) (w:World) (a7:Yi w A n d) (R:zjs w B m) :
  zc 5 #[.slice A n c,.slice B m g8] w fun e W=>e=.returned (.bool true)/\zd w W:=by
 have d7:=hid (zqj w);have HM:=hid R;clear R;go_enter func5,ntmps5;go_upto_region 3 with ((with_reducible refine aV 7 d7.o ?_);rintro i6 w1 ⟨rfl,b9⟩);have HL:=hid (zml A n c d w1 (a7.below b9));obtain ⟨d0,H0⟩:=zi2 b9 a7;clear b9 d7 a7;unfold zlo at HL;obtain ⟨h1,c3⟩:=ex (decide ((12:Int)<(m:Int)));have i5:=c3.symm;have g2:=hid c3;clear c3;cases h1 with
 | true =>
  go_wp2_with ((with_reducible refine aV 11 HL.o ?_);rintro g9 Y ⟨lb,rfl,U,hl⟩;have u:=hid (B_call d0.o U);clear U hl;cases lb)
  all_goals
   go_ret;exact ⟨rfl,u.o⟩
 | false =>
 go_upto_region 5 with ((with_reducible refine aV 11 HL.o ?_);rintro g9 Y ⟨lb,rfl,U,hl⟩;have u:=hid (B_call d0.o U);have d5:=hid hl;clear U hl;cases lb)
 ·go_ret;exact ⟨rfl,u.o⟩
 obtain ⟨hn,hlen⟩:=d5.o trivial;have d6:=hid (zpV A n c d Y (H0.o.below u.o) (by omega) hlen);clear d5 HL hlen;go_upto_region 6 with ((with_reducible refine aV 12 d6.o ?_);rintro i9 w3 ⟨H,a4,boots,o3,A3,v3,rfl,a1⟩);have a1:Sg Y H a4 boots (31+n) o3 A3 w3:=a1;have h5:=hid (a1.c8 (kd:=19) (tn:=0) (hd:=0) (rt:=0) (rk:=zrO) (rv:=zrO) (mask:=0) (zeN rfl) (by decide) (iok_of (x:=0) (by omega)) (by omega));clear a1 d6;go_upto_region 7 with ((with_reducible refine aV 9 h5.o ?_);rintro j0 w4 ⟨i3,o4,rfl,_,E,_,_⟩);obtain ⟨A4,a8⟩:=ex (fun r=>crashD (boots+1) r (A3 r));have c1:Ge A4:=by rw [a8];exact zdV _ _
 rw [<- a8] at E;clear a8 h5;cases a0:(A4 0).ac with
 | none =>have z:=hid (show zc 13 #[.pointer (some ⟨H,0,none⟩),.int .i64 0] w4 _ from zdJ (f:=0) E (zdN (by omega) a0) (by omega) (by omega));clear E;go_wp2_with ((with_reducible refine aV 13 z.o ?_);rintro e5 w5 ⟨rfl,o5,L⟩);go_ret;exact ⟨rfl,B_call u.o L.b⟩
 | some dl =>
 obtain ⟨O,c6⟩:=ex (dl.s.N.map (·.rw));have hR:Zd O:=by rw [c6];exact E.g.ht (by omega) a0
 have a9:zfJ A4 0 O:=⟨dl,a0,c6.symm⟩;have z:=hid (show zc 13 #[.pointer (some ⟨H,0,none⟩),.int .i64 0] w4 _ from zdJ (f:=0) E (GY (by omega) c1 a9) (by omega) (by omega));obtain ⟨d1,d4,HR⟩:=zi3 c1 a9 hR;clear E a0 c6 c1 a9 hR;go_upto_region 10 with ((with_reducible refine aV 13 z.o ?_);rintro e5 w5 ⟨rfl,o5,L⟩);have hI:zrN Y H a4 O 0 w5:=⟨_,_,_,_,L,by omega,d1.o,d4.o⟩;have HI:=hid hI;clear hI L z d1 d4;go_upto_region 11 with fail;go_loopw [43] (fun c8 wr=>∃ i:Nat,i<=m/\c8=.int .i64 i/\zrN Y H a4 O i wr) (fun c8 _=>((m:Int)-jL c8).toNat)
 case atStart=>exact ⟨0,zU _,rfl,HI.o⟩
 case round =>
  clear HI;obtain ⟨i,hi,rfl,g7,o1,A1,G,hs,hG,hc,D⟩:=hrel;have j4:m<=12:=by have:=g2.o;simp at this;omega
  by_cases i0:i<m
  ·rcases HM.o with rfl | ⟨g,off,rfl,hg,e6⟩
   ·omega
   obtain ⟨x,hx⟩:=e6 i i0;have kx:=(yI (w:=w) (w':=wr) ((B_call u.o hs.b).block g hg)).trans hx;have q1:(i:Int)<(m:Int):=by omega
   have q0:(0:Int)<=(i:Int):=by omega
   have x2:IntKind.i64.wrap ((i:Int)+1)=(i:Int)+1:=by rw [zv];omega
   have a6:=zns i (by omega);have a2:bits .and .i64 ((i:Int)+1) 3=(((i+1) % 4:Nat):Int):=(zns (i+1) (by omega));obtain ⟨f,X⟩:=ex (i % 4);obtain ⟨t,ht⟩:=ex ((i+1) % 4);rw [<- X] at a6 D;rw [<- ht] at a2;obtain ⟨v2,A2,A3,v4,A4,A5,D1,D2,D3,D4,c9,D5,e3,e0⟩:=zmo (f:=f) (t:=t) (mask:=x) (boots:=g7) (by omega) (by omega) (by omega) hc D HR.o;have R:=hid (hs.c8 D1 (by decide) (iok_of (x:=0) (by omega)) (by omega));obtain ⟨f6,f7,f8,f9,g0,f5,g3,HT⟩:=zi8 D2 D3 D4 c9 D5 e3 e0 ht;clear hs hc D X ht hx e6 D1 D2 D3 D4 c9 D5 e3 e0;go_upto_region 15 with (first|((with_reducible refine aV 9 R.o ?_);rintro j1 Z ⟨h,o6,rfl,f2,e8,h9,e4⟩)|((with_reducible refine hV 13 ?_);refine nV (zQ h).toArray (Yl h) ?_));obtain ⟨w7,a3⟩:=ex (Z.alloc (.cells (zQ h).toArray 31));obtain ⟨g4,hX⟩:=ex Z.heap.size;have c0:Below Z.heap.size Z w7:=by rw [a3];exact B_alloc (zf _ _) _
   have e1:w7.heap[g4]?=some (.cells (zQ h).toArray 31 (0,0)):=by rw [a3];exact zo _ _ hX
   have c7:=e8.below c0;have f3:=f2.below c0;rw [<- a3,<- hX];have h2:=hid (c7.c8 f6.o (by decide) (iok_of (x:=0) (by omega)) (by omega));obtain ⟨a5,d8,d9,d2⟩:=zi4 c7 f3 e1 e4;clear a3 hX c0 e1 c7 f3 e8 f2 h9 e4 R kx;go_upto_region 16 with ((with_reducible refine aV 9 h2.o ?_);rintro j2 w8 ⟨i4,o8,rfl,_,e9,c5,_⟩);have e2:=a5.o.g.hp c5 (by decide) d9.o;have c2:zi w8 (.slice h.dA h.dn h.dc) (jG O):=(d8.o.g9 c5 a5.o.g.ic d2.o).r.data;have k4:=xV (Value.slice h.dA h.dn h.dc) 4 e2;have h3:=hid (e9.iz f7.o c2 HR.o (by omega));have d3:=hid c2;have h8:=zlT;clear e2 c2 e9 c5 a5 d8 d9 d2 h2;go_upto_region 18 with (first|(show wpList _ _ _ (⟨some 63,_,_,_,_,_⟩::_) _ _;refine wpList_plain rfl fun _ hK=>ZQ 29 9 (.tmp 62) rfl (.slice h.dA h.dn h.dc) (.string (zb (jG O))) (by rfl) (ur d3.o) (hK _ _ ?_))|(go_at_call 9;(first | ((with_reducible refine h4.o.mono ?_);rintro i7 j7 ⟨g5,j5,rfl,f1,e7,_,_⟩;have h6:g5.Z=0:=f1.Z.trans f9.o) | ((with_reducible refine h3.o.mono ?_);rintro j3 w9 ⟨g6,o9,rfl,f4,f0,_,_⟩;have h7:g6.Z=0:=f4.Z;have h4:=hid (f0.c8 f8.o (by decide) (iok_of (x:=0) (by omega)) (by omega))))));have h5:=hid (e7.c8 g0.o (by decide) (iok_of (x:=0) (by omega)) (by omega));clear e7 f1 h6 f0 f4 h7 h3 h4 k4 d3 h8;go_wp2_with ((with_reducible refine aV 9 h5.o ?_);rintro i8 j8 ⟨i2,j6,rfl,_,i1,_,_⟩);go_roundw
   case rel=>exact ⟨i+1,by omega,by simp,_,_,_,_,i1,by omega,f5.o,by rw [<- HT.o];exact g3.o⟩
   case measure=>simp [jL];omega
  ·have q1:decide ((i:Int)<(m:Int))=false:=by simp;omega
   obtain rfl:i=m:=by omega
   have a6:=zns i (by omega);obtain ⟨f,X⟩:=ex (i % 4);rw [<- X] at a6 D;have z:=hid (zdJ (f:=f) hs (GY (by omega) hc D) (by omega) (by omega));clear hs hc D X;go_wp2_with ((with_reducible refine aV 13 z.o ?_);rintro e5 Z ⟨rfl,o5,L⟩);go_ret;exact ⟨rfl,B_call u.o L.b⟩
end Go.Proofs.YtechnoogjhohfaaGreat
