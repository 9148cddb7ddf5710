import Derived.Test.YtechnoogjhohfaaGreatM26
import Derived.Test.YtechnoogjhohfaaGreatM8
import Derived.Test.YtechnoogjhohfaaGreatM9
import Derived.Defers
set_option maxRecDepth 100000
set_option maxHeartbeats 6400000
set_option linter.unusedVariables false
set_option linter.unusedSimpArgs false
namespace Go.Proofs.YtechnoogjhohfaaGreat
open Go.RowKit Go.Lib
open YtechnoogjhohfaaGreatW Go.Proofs.Tryz Go.Proofs.YtechnoogjhohfaaGreat.Tryz
section
variable {bz:Nat->Prop}
theorem zbh (H D r p e boots:Nat) (c:Nat->T5) (u:FrameMode) (w:World) (O:r<4) (E:w.heap[p]?=some (.cells #[.pointer (some ⟨H,1+r*5,none⟩)] 76 (0,0))) (z:w.heap[e]?=some (.cells #[.int .i64 0] 28 (0,0))) (h:w.heap[H]?=some (.cells (hC D c boots) 73 (0,0))) (hd:(c r).d=.bool false) :
  CallsD prog 41 #[.pointer (some ⟨e,0,none⟩),.pointer (some ⟨p,0,none⟩)] u w fun L X w'=>X=u/\(L=.returned (.tuple #[])/\w'=w.setCell ⟨H,1+r*5+4,none⟩ (.bool false)):=by
 have U:=ze w p 0 _ _ _ E;have R:=ze w e 0 _ _ _ z;have Y:=xV _ (1+r*5+4) h (Gn D c boots r O).2.2.2.2;have Z:w.frozen? ⟨H,1+r*5+4,none⟩=false:=zH w _ _ _ _ h;simp only [List.getElem?_toArray,List.getElem?_cons_zero] at U R;clear E z h;go_enter_d func41,ntmps41;go_wp2;go_end0;exact ⟨rfl,rfl⟩
theorem zoU (D:Nat) (c:Nat->T5) (b r:Nat) (u:r<4) (h:(c r).d=.bool false):(hC D c b).setIfInBounds (1+r*5+4) (.bool false)=hC D c b:=by
 rw [<- h];obtain rfl | rfl | rfl | rfl:r=0∨r=1∨r=2∨r=3:=by omega
 all_goals rfl
end
section
variable {bz:Nat->Prop}
structure zdS where
 J:Nat
 bank:Nat
 rs:List zS
 dp:Nat->Pg
structure Kq (cr:Nat->List UInt8) (r:Nat) (o:zdS):Prop where
 on:yX cr o.J o.bank (zq o.rs)
 ok:∀ x,x∈o.rs->x.ok
 cl:o.bank<=1
 g0:0<o.J
 iy:o.J+1<4294967296
 db:(zq o.rs).length+(yQ o.rs 1+yQ o.rs 2+yQ o.rs 3)<=14336
 ne:0<o.rs.length
 e8:∀ n,n<6->QA cr r n (o.dp n)
 cu:∀ n,(o.dp n).ok
 h8:∀ i,(lsr o.rs i).l.length<=8
structure KI (r:Nat) (o:zdS) (boots:Nat) (t t':Tn):Prop where
 st:t'.st=t.st
 ct:t'.ct=t.ct
 cf:t.st=0->t'.ac=none
 ac:t.st=1->∃ l nb1 nb2 Ts nb3,t'.ac=some l/\l.s=(ym r o.J o.bank o.rs o.dp nb1 nb2 Ts nb3).a1/\l.ep=((uP t.ct boots:Nat):Int)/\l.nx=0/\l.hs=[]/\qe l.s.N/\l.s.N.length<=62
structure Zq (w W:World):Prop where
 os:W.os=w.os
 tape:W.tape=w.tape
 output:W.output=w.output
 size:w.heap.size<=W.heap.size
theorem Zq.trans {a b c:World} (h:Zq a b) (k:Zq b c):Zq a c:=⟨k.os.trans h.os,k.tape.trans h.tape,k.output.trans h.output,zA h.size k.size⟩
theorem Zq.ak {n:Nat} {a b:World} (h:Below n a b):Zq a b:=⟨h.os,h.tape,h.output,h.size⟩
theorem Zq.ft {M:Nat->Prop} {a b:World} (h:zz M a b):Zq a b:=⟨h.os,h.tape,h.output,h.size⟩
theorem Zq.ay {a b:World} (h:Zq a.drew b):Zq a b:=⟨h.os,h.tape,h.output,h.size⟩
theorem zlV {W:World} {H D r boots:Nat} {c:Nat->T5} (h:W.heap[H]?=some (.cells (hC D c boots) 73 (0,0))) (E:r<4):W.rangeAt H (1+r*5+2) [(c r).s,(c r).c]:=by
 intro n v z;have L:n<2:=(zr.1 z).1;have u:=Gn D c boots r E;rw [ze W H _ _ _ _ h,<- z];obtain rfl | rfl:n=0∨n=1:=by omega
 ·exact u.2.2.1
 ·exact u.2.2.2.1
theorem GV {cur:Nat->Nat->List UInt8} {r u ct i q:Nat} (z:u<=1) (h:i≠r∨q=0):Zb cur r u ct i q=cur i q:=by
 unfold Zb;split
 ·rfl
 ·rw [if_neg (by omega)];unfold yS;rcases h with h | h
  ·rw [zt _ _ h]
  ·by_cases e:i=r
   ·subst e;rw [zk,if_neg (by omega)]
   ·rw [zt _ _ e]
theorem zoh (H D r:Nat) (F:Nat->Prop) (cur:Nat->Nat->List UInt8) (c:Nat->T5) (ts:Nat->Tn) (boots:Nat) (o:zdS) (w:World) (h:qs bz w H D F cur c ts boots r) (hr:r<4) (x9:boots<1000000) (ho:(ts r).st=1->Kq (cur r) r o) :
  zc 25 #[.pointer (some ⟨H,0,none⟩),.int .i64 r] w fun e W=>e=.returned (.tuple #[])/\zw bz w W/\∃ F' cur' c' t,qs bz W H D F' cur' c' (vz ts F' r t) boots (r+1)/\(∀ i q,i≠r->cur' i q=cur i q)/\KI r o boots (ts r) t:=by
 have z5:∀ (fn:Fn) (first cap:Array Value) (w:World),(Instr.makeFunc fn first cap).run prog w=.ok (.func fn first cap) w:=fun _ _ _ _=>rfl;have A0:(0:Int)<=(r:Int):=by omega
 have A1:(r:Int)<4:=by omega
 have z7:decide ((r:Int)<0)=false:=by simp
 have z8:decide ((4:Int)<=(r:Int))=false:=by simp;omega
 obtain ⟨X,g9⟩:=ex ((ts r).st);obtain ⟨ct,k8⟩:=ex ((ts r).ct);have g0:=h.ea r hr;have k9:=h.c3 r hr;rw [<- g9,<- k8] at g0 k9;rw [<- g9] at ho;obtain ⟨w1,s2⟩:=ex (w.alloc (.cells #[.pointer (some ⟨H,1+r*5,none⟩)] 76));obtain ⟨U,HO,e9,i0,i4,f0⟩:=zi6 h ho g9 k8 k9 s2;clear h ho g9 k8 k9 s2;go_enter_defers func25,ntmps25;go_upto_region 1 with fail;rw [<- f0.o];have k6:zd w w1:=by rw [f0.o];exact B_alloc (zf _ _) _
 have k0:w1.heap[w.heap.size]?=some (.cells #[.pointer (some ⟨H,1+r*5,none⟩)] 76 (0,0)):=by rw [f0.o];exact zo _ _ rfl
 have o6:=zg U.o.U k6 (zj U.o.U);have kp:=ze w1 w.heap.size 0 _ _ _ k0;simp only [List.getElem?_toArray,List.getElem?_cons_zero] at kp;have n9:=zhB D c boots r hr ⟨.pointer none,.pointer none,.int .i64 0,.int .u64 0,.bool false⟩;obtain ⟨l6,v7,m3,t1⟩:=zi4 k6 k0 o6 n9;clear k6 k0 o6 n9;go_upto_region 2 with (show wpList _ _ _ (⟨none,.store 70 (.tmp 13) _,_,_,_,_⟩::_) _ _;refine yM rfl 70 (.tmp 13) (.tmp 12) rfl H (1+r*5) 73 _ #[.pointer none,.pointer none,.int .i64 0,.int .u64 0,.bool false] (by rfl) (by rfl) m3.o (by rw [KE];simp;omega) (by kernel_rfl) (by simp [Value.oneCell']) ?_);rw [show ((#[Value.pointer none,.pointer none,.int .i64 0,.int .u64 0,.bool false]:Array Value).size)=5 from rfl,t1.o];obtain ⟨c2,g2⟩:=ex (zV c r ⟨.pointer none,.pointer none,.int .i64 0,.int .u64 0,.bool false⟩);rw [<- g2];have q5:c2 r=⟨.pointer none,.pointer none,.int .i64 0,.int .u64 0,.bool false⟩:=by rw [g2,zk]
 have q4:∀ Y t,zV c2 r t=Y->zV c r t=Y:=fun Y t e=>by rw [<- e,g2];funext i;by_cases e:i=r<;>simp [zV,e]
 obtain ⟨l8,t4⟩:=zi2 q4 q5;clear g2 q5 q4;obtain ⟨O,d3⟩:=ex (w1.setRow H (hC D c2 boots));rw [<- d3];have e2:O.heap[H]?=some (.cells (hC D c2 boots) 73 (0,0)):=by rw [d3];exact setRow_heap w1 H _ _ 73 _ m3.o
 have i8:∀ x,x≠H->O.heap[x]?=w1.heap[x]?:=fun x u=>by rw [d3];exact setRow_other w1 H x _ u
 have s3:O.heap.size=w1.heap.size:=by rw [d3];simp
 have r3:Zq w1 O:=by rw [d3];exact ⟨rfl,rfl,rfl,by simp⟩
 have v4:=hid r3;clear r3;have k5:w.heap.size≠H:=by have:=zj U.o.U;omega
 have k1:=(i8 _ k5).trans v7.o;obtain ⟨w3,h1⟩:=ex (O.alloc (.cells #[.int .i64 0] 28));have f9:zd O w3:=by rw [h1];exact B_alloc (zf _ _) _
 have o2:w3.heap[O.heap.size]?=some (.cells #[.int .i64 0] 28 (0,0)):=by rw [h1];exact zo _ _ rfl
 have o8:=zg e2 f9 (zj e2);have p4:=zg k1 f9 (zj k1);obtain ⟨s6,x3,l7,m2,i3,i5,i6,m7⟩:=zi8 i8 s3 f9 o2 o8 p4 k5 h1;clear d3 e2 i8 s3 k1 f9 o2 o8 p4 k5 h1 kp;go_upto_region 4 with fail;rw [<- m7.o];have l0:w.heap.size+2<=w3.heap.size/\O.heap.size=w.heap.size+1:=by
  have n0:w1.heap.size=w.heap.size+1:=by rw [f0.o];simp
  have n1:=x3.o;have n2:w3.heap.size=O.heap.size+1:=by rw [m7.o];simp
  omega
 have i7:∀ x,x<w.heap.size->x≠H->w3.heap[x]?=w.heap[x]?:=fun x u hn=>by have n0:=l6.o.block x u;have n1:=s6.o x hn;have n2:=l7.o.block x (by omega);rw [n2,n1,n0]
 have o5:∀ x,F x->x≠H:=fun x u e=>by have:=U.o.ar.ah u;rw [e,zh U.o.U] at this;simp at this
 have j3:jn w3 D F cur:=zL.same U.o.ar (fun x u=>i7 x (U.o.ar.lt x u) (o5 x u)) (by omega);have g8:=zdh D F cur r X ct w3.drew j3.drew hr i4.o (by omega) (by omega);rw [show zla X=X by unfold zla;rw [if_neg (by omega)]] at g8;unfold zeo at g8;obtain ⟨w0,t5,s5,c5⟩:=zi4 g8 j3 i7 l0;clear g8 j3 i7 o5 l0;have a7:∀ {x t:Nat} {C:Array Value},w3.heap[x]?=some (.cells C t (0,0))->t ∉ [81,118,86,120]->¬ F x:=fun u ht hf=>ht (by have:=t5.o.ah hf;rw [zh u] at this;exact this);refine sV [12,13] 14 (fun w'=>jK w' w.heap.size #[.pointer (some ⟨H,1+r*5,none⟩)] 76/\jK w' H (hC D c2 boots) 73) ⟨i5.o,i3.o⟩ fun Z=>?_;refine cV 0 (fun _ h=>xV (Value.pointer (some ⟨H,1+r*5,none⟩)) 0 h.1) ?_;refine pV 1 ?_;refine pV 2 ?_;refine pV 3 ?_;refine cV 4 (fun _ h=>xV _ 0 h.2 (zdv D c2 boots)) ?_;refine pV 5 ?_;refine oC 6 w0.o ?_;rintro z1 w4 ⟨rfl,F4,f6,c6,r0⟩;have k2:=qJ (show w3.drew.heap[_]?=_ from i5.o) c6 (a7 i5.o (by decide));have e3:=qJ (show w3.drew.heap[_]?=_ from i3.o) c6 (a7 i3.o (by decide));have f7:=qJ (show w3.drew.heap[_]?=_ from m2.o) c6 (a7 m2.o (by decide));refine eV ⟨k2,e3⟩ fun Z=>?_;refine pV 7 ?_;refine pV 8 ?_;refine pV 9 ?_;refine pV 10 ?_;refine pV 11 ?_;refine lV 12 fun K hK=>?_;refine vY 68 (.tmp 26) (.tmp 23) rfl H (1+r*5+2) 73 _ #[.int .i64 X,.int .u64 ct] (by rfl) (by rfl) e3 (by rw [KE];simp;omega) (by kernel_rfl) (by simp [Value.oneCell']) ?_;refine hK.out _ _ ?_;clear hK K;try simp only [pS]
 refine lV 13 fun K hK=>?_;have a5:O.heap.size≠H:=by have:=zj U.o.U;have:=c5.o;omega
 refine jz 28 (.tmp 5) (.tmp 24) rfl O.heap.size 0 _ 28 (.int .i64 0) (by rfl) (by rfl) (by kernel_rfl) ((setRow_other w4 H O.heap.size _ a5).trans f7) (by simp) rfl ?_;refine hK.out _ _ ?_;clear hK K;try simp only [pS]
 refine dV ?_;have j9:=zpl D c2 boots r hr (.int .i64 X) (.int .u64 ct);obtain ⟨Y,g3⟩:=ex (zV c r ⟨.pointer none,.pointer none,.int .i64 X,.int .u64 ct,.bool false⟩);have q3:zV c2 r { c2 r with s:=.int .i64 X,c:=.int .u64 ct }=Y:=by have L:=l8.o Y ⟨.pointer none,.pointer none,.int .i64 X,.int .u64 ct,.bool false⟩;rw [t4.o];refine Eq.trans ?_ g3.symm;exact (l8.o _ _ rfl).symm
 rw [q3] at j9;obtain ⟨w5,d4⟩:=ex (w4.setRow H (hC D Y boots));rw [show ((#[Value.int .i64 X,Value.int .u64 ct]:Array Value).size)=2 from rfl,j9,<- d4];obtain ⟨E,d5⟩:=ex (w5.setCell ⟨O.heap.size,0,none⟩ (.int .i64 0));rw [<- d5];have a5:O.heap.size≠H:=by have:=zj U.o.U;have:=c5.o;omega
 have j6:w.heap.size≠O.heap.size:=by have:=c5.o;omega
 have f2:∀ x,x≠H->w5.heap[x]?=w4.heap[x]?:=fun x u=>by rw [d4];exact setRow_other w4 H x _ u
 have f3:∀ x,x≠O.heap.size->E.heap[x]?=w5.heap[x]?:=fun x u=>by rw [d5];exact zu _ _ _ _ u
 have j7:E.heap[H]?=some (.cells (hC D Y boots) 73 (0,0)):=(f3 H (Ne.symm a5)).trans (by rw [d4];exact setRow_heap w4 H _ _ 73 _ e3);have k3:E.heap[w.heap.size]?=some (.cells #[.pointer (some ⟨H,1+r*5,none⟩)] 76 (0,0)):=((f3 _ j6).trans (f2 _ i6.o)).trans k2;have j4:E.heap[O.heap.size]?=some (.cells #[.int .i64 0] 28 (0,0)):=by rw [d5,zB _ _ 0 _ _ _ ((f2 _ a5).trans f7)];rfl
 have y5:E.heap.size=w4.heap.size:=by rw [d5,d4];simp
 have r5:Zq w4 E:=by rw [d5,d4];exact ⟨rfl,rfl,rfl,by simp⟩
 have r4:Zq w3 w4:=Zq.ay (Zq.ft c6);have r6:Zq w E:=((Zq.ak l6.o).trans (v4.o.trans (Zq.ak l7.o))).trans (r4.trans r5);have v5:=hid r6;clear r5 r4 r6;have y4:w3.heap.size<=w4.heap.size:=c6.size;have j1:∀ x,x≠H->x≠O.heap.size->E.heap[x]?=w4.heap[x]?:=fun x L z=>(f3 x z).trans (f2 x L);have n4:∀ x,x<w.heap.size->x≠H->¬ F x->E.heap[x]?=w.heap[x]?:=fun x L z R=>by have z6:=c5.o;rw [j1 x z (by omega),show w4.heap[x]?=w3.heap[x]? from c6.block x (show x<w3.heap.size by omega) R];exact s5.o x L z
 have e1:jn E D F4 (Zb cur r X ct):=zL.same f6 (fun x u=>j1 x (fun e=>by
  have:=f6.ah u;rw [e,zh e3] at this;simp at this) (fun e=>by
  have:=f6.ah u;rw [e,zh f7] at this;simp at this)) (by omega)
 have p1:qM w F F4:=fun x u=>(r0 x u).imp id fun h9=>by have z3:w3.heap.size<=x:=h9;have:=c5.o;omega
 have h2:w.heap.size+2<=E.heap.size:=by have:=c5.o;omega
 obtain ⟨a8,e7,e0,h5,c8,m6,m8,l9,i2⟩:=zi9 j7 k3 j4 n4 e1 p1 h2 g3 a5;have t8:=hid j6;have y7:=xV (Value.pointer (some ⟨H,1+r*5,none⟩)) 0 k3;have y6:=xV (Value.int .i64 0) 0 j4;have k7:Y r=⟨.pointer none,.pointer none,.int .i64 X,.int .u64 ct,.bool false⟩:=by rw [g3,zk]
 have l4:=xV _ (1+r*5+2) j7 (Gn D Y boots r hr).2.2.1;rw [k7] at l4;simp only at l4;have h8:=hid k7;clear j9 g3 q3 d4 d5 a5 j6 f2 f3 j7 k3 j4 y5 y4 j1 n4 e1 p1 h2 k7 Z k2 e3 f7 c6 r0 f6 a7;have a9:∀ x,w.heap.size<=x->¬ bz x:=fun x u=>U.o.eg u;have p8:∀ x,F4 x->¬ bz x:=fun x u=>(m6.o x u).elim (U.o.base.2.1 x) (fun h9=>a9 x h9);obtain ⟨t0,h7⟩:=zi2 a9 p8;have p0:∀ W:World,Zq E W->(∀ x,x≠H->x<w.heap.size->¬ F x->W.heap[x]?=w.heap[x]?)->zw bz w W:=fun W y1 hW=>by
  have ho:=v5.o.trans y1;refine ⟨fun x t C ht u=>?_,ho.os,ho.tape,ho.output,ho.size,fun x L z=>hW x (fun e=>U.o.base.1 (e ▸ L)) z (fun hf=>U.o.base.2.1 x hf L)⟩;have L:=zh u;refine (hW x (fun e=>?_) (zj u) (fun hf=>?_)).trans u
  ·rw [e,zh U.o.U] at L;subst L;exact ht (by decide)
  ·have z:=U.o.ar.ah hf;rw [L] at z;simp only [zO,qU,or_false] at z ht;omega
 have m5:=hid p0;clear p0 a9 p8;by_cases e4:X=1
 ·have a4:=hid (HO.o e4);have c3:=hid e4;have y3:((X:Int) == 1)=true:=by simp;omega
  clear e4;go_upto_region 6 with fail;have q6:Zb cur r X ct=cur:=by unfold Zb;rw [if_pos c3.o]
  have e1:jn E.drew D F4 cur:=by have:=c8.o.drew;rw [q6] at this;exact this
  have r8:=zlh D r o.J o.bank o.rs o.dp F4 cur E.drew e1 hr a4.o.on a4.o.ok a4.o.cl a4.o.g0 a4.o.iy a4.o.db a4.o.ne a4.o.e8 a4.o.cu a4.o.h8;have w2:=hid r8;clear q6 e1 r8 y7 y6 l4;have a7:∀ {x t:Nat} {C:Array Value},E.heap[x]?=some (.cells C t (0,0))->t ∉ [81,118,86,120]->¬ F4 x:=fun u ht hf=>ht (by have:=c8.o.ah hf;rw [zh u] at this;exact this);refine sV [12,13] 14 (fun w'=>jK w' w.heap.size #[.pointer (some ⟨H,1+r*5,none⟩)] 76/\jK w' H (hC D Y boots) 73) ⟨e7.o,a8.o⟩ fun Z=>?_;refine cV 0 (fun _ h=>xV (Value.pointer (some ⟨H,1+r*5,none⟩)) 0 h.1) ?_;refine pV 1 ?_;refine pV 2 ?_;refine pV 3 ?_;refine cV 4 (fun _ h=>xV _ 0 h.2 (zdv D Y boots)) ?_;refine pV 5 ?_;refine oC 6 w2.o ?_;rintro z2 w7 ⟨a,b,m9,nb1,nb2,Ts,nb3,rfl,p6,p7,n8,d1,r9,q9⟩;have k4:=qJ (show E.drew.heap[_]?=_ from e7.o) d1.ad (a7 e7.o (by decide));have d0:=qJ (show E.drew.heap[_]?=_ from a8.o) d1.ad (a7 a8.o (by decide));have j5:=qJ (show E.drew.heap[_]?=_ from e0.o) d1.ad (a7 e0.o (by decide));refine eV ⟨k4,d0⟩ fun Z=>?_;refine pV 7 ?_;refine pV 8 ?_;refine pV 9 ?_;refine pV 10 ?_;refine pV 11 ?_;refine lV 12 fun K hK=>?_;refine jz 65 (.tmp 48) (.tmp 45) rfl H (1+r*5) _ 73 (.pointer (some ⟨a.S,0,none⟩)) (by rfl) (by rfl) (by kernel_rfl) d0 (by rw [KE];omega) rfl ?_;refine hK.out _ _ ?_;clear hK K;try simp only [pS]
  refine lV 13 fun K hK=>?_;refine jz 28 (.tmp 5) (.tmp 46) rfl O.heap.size 0 _ 28 (.int .i64 0) (by rfl) (by rfl) (by kernel_rfl) ((zu _ _ _ _ i2.o).trans j5) (by simp) rfl ?_;refine hK.out _ _ ?_;clear hK K;try simp only [pS]
  refine dV ?_;obtain ⟨c4,g4⟩:=ex (zV c r ⟨.pointer (some ⟨a.S,0,none⟩),.pointer none,.int .i64 X,.int .u64 ct,.bool false⟩);have p9:zV Y r { Y r with p:=.pointer (some ⟨a.S,0,none⟩) }=c4:=by rw [h8.o,g4,l9.o];funext i;by_cases e:i=r<;>simp [zV,e]
  obtain ⟨w8,d6⟩:=ex (w7.setCell ⟨H,1+r*5,none⟩ (.pointer (some ⟨a.S,0,none⟩)));obtain ⟨w9,d7⟩:=ex (w8.setCell ⟨O.heap.size,0,none⟩ (.int .i64 0));rw [<- d6,<- d7];have a5:=i2.o;have l3:w9.heap.size=w7.heap.size:=by rw [d7,d6];simp
  have r7:Zq w7 w9:=by rw [d7,d6];exact ⟨rfl,rfl,rfl,by simp⟩
  have v6:=hid r7;clear r7;have f4:∀ x,x≠H->w8.heap[x]?=w7.heap[x]?:=fun x u=>by rw [d6];exact zu _ _ _ _ u
  have f5:∀ x,x≠O.heap.size->w9.heap[x]?=w8.heap[x]?:=fun x u=>by rw [d7];exact zu _ _ _ _ u
  have o9:w8.heap[H]?=some (.cells (hC D c4 boots) 73 (0,0)):=by rw [d6,zB _ _ (1+r*5) _ _ _ d0,zrQ D Y boots r hr,p9]
  have j8:w9.heap[H]?=some (.cells (hC D c4 boots) 73 (0,0)):=(f5 H (Ne.symm a5)).trans o9;have p5:w9.heap[w.heap.size]?=some (.cells #[.pointer (some ⟨H,1+r*5,none⟩)] 76 (0,0)):=((f5 _ t8.o).trans (f4 _ i6.o)).trans k4;have o3:w9.heap[O.heap.size]?=some (.cells #[.int .i64 0] 28 (0,0)):=by rw [d7,zB _ _ 0 _ _ _ ((f4 _ a5).trans j5)];rfl
  have n6:∀ x,x≠H->x≠O.heap.size->w9.heap[x]?=w7.heap[x]?:=fun x L z=>(f5 x z).trans (f4 x L);have h4:E.heap.size<=w7.heap.size:=d1.ad.size;have q1:c4 r=⟨.pointer (some ⟨a.S,0,none⟩),.pointer none,.int .i64 X,.int .u64 ct,.bool false⟩:=by rw [g4,zk]
  have q8:=zfV H D X ct boots c4 w9.drew j8 g0.2 x9;obtain ⟨t9,t2,m0,c1,e8,i1,s7,x5,x4⟩:=zi9 q8 g4 q1 j8 p5 o3 n6 l3 h4;have a3:=hid d1;obtain ⟨d9,l5,s9,w6,v1⟩:=zi5 n8 p6 p7 r9 q9;clear g4 p9 d6 d7 a5 l3 f4 f5 o9 j8 p5 o3 n6 h4 q1 q8 k4 d0 j5 d1 n8 p6 p7 r9 q9 Z a7;go_upto_region 7 with fail;refine sV [10] 11 (fun w'=>jK w' w.heap.size #[.pointer (some ⟨H,1+r*5,none⟩)] 76/\jK w' H (hC D c4 boots) 73) ⟨e8.o,c1.o⟩ fun Z=>?_;refine cV 0 (fun _ h=>xV (Value.pointer (some ⟨H,1+r*5,none⟩)) 0 h.1) ?_;refine pV 1 ?_;refine cV 2 (fun _ h=>xV (Value.pointer (some ⟨H,1+r*5,none⟩)) 0 h.1) ?_;refine pV 3 ?_;refine pV 4 ?_;refine kV 5 rfl (Or.inl ⟨by rfl,fun _ h=>ZP 68 (.tmp 53) rfl H (1+r*5+2) (by rfl) [.int .i64 X,.int .u64 ct] _ (by have s4:=zlV h.2 hr;rw [m0.o] at s4;exact s4) underlying68 rfl (by kernel_rfl)⟩) ?_;refine oC 6 t9.o ?_;rintro y9 a1 ⟨rfl,a0⟩;refine eV ⟨zg Z.1 a0 (zj Z.1),zg Z.2 a0 (zj Z.2)⟩ fun Z=>?_;refine oC 7 (Dk.new_any (uP ct boots) a1) ?_;rintro z0 d8 ⟨rfl,q7,a6,l1⟩;refine eV ⟨zg Z.1 a6 (zj Z.1),zg Z.2 a6 (zj Z.2)⟩ fun Z=>?_;refine pV 8 ?_;refine pV 9 ?_;refine lV 10 fun K hK=>?_;have f8:=zg (zg (show w9.drew.heap[H]?=_ from c1.o) a0 (zj c1.o)) a6 (qg (zj c1.o) a0.size);refine jz 66 (.tmp 58) (.tmp 56) rfl H (1+r*5+1) _ 73 (.pointer (some ⟨a1.heap.size+1,0,none⟩)) (by rfl) (by rfl) (by kernel_rfl) f8 (by rw [KE];omega) rfl ?_;refine hK.out _ _ ?_;clear hK K;try simp only [pS]
  refine dV ?_;have f8:=zg (zg (show w9.drew.heap[H]?=_ from c1.o) a0 (zj c1.o)) a6 (qg (zj c1.o) a0.size);have p2:=zg (zg (show w9.drew.heap[_]?=_ from e8.o) a0 (zj e8.o)) a6 (qg (zj e8.o) a0.size);have o0:=zg (zg (show w9.drew.heap[_]?=_ from i1.o) a0 (zj i1.o)) a6 (qg (zj i1.o) a0.size);have h3:w9.heap.size<=a1.heap.size:=a0.size;have r1:Zq w9 d8:=(Zq.ay (Zq.ak a0)).trans (Zq.ak a6);have v2:=hid r1;clear r1;have n7:∀ x,x<w9.heap.size->d8.heap[x]?=w9.heap[x]?:=fun x u=>(a6.block x (qg u h3)).trans (a0.block x u);obtain ⟨c9,g5⟩:=ex (zV c r ⟨.pointer (some ⟨a.S,0,none⟩),.pointer (some ⟨a1.heap.size+1,0,none⟩),.int .i64 X,.int .u64 ct,.bool false⟩);have q0:zV c4 r { c4 r with k:=.pointer (some ⟨a1.heap.size+1,0,none⟩) }=c9:=by rw [m0.o,g5,t2.o];funext i;by_cases e:i=r<;>simp [zV,e]
  obtain ⟨b9,d2⟩:=ex (d8.setCell ⟨H,1+r*5+1,none⟩ (.pointer (some ⟨a1.heap.size+1,0,none⟩)));rw [<- d2];have o7:b9.heap[H]?=some (.cells (hC D c9 boots) 73 (0,0)):=by rw [d2,zB _ _ (1+r*5+1) _ _ _ f8,zrP D c4 boots r hr,q0]
  have f1:∀ x,x≠H->b9.heap[x]?=d8.heap[x]?:=fun x u=>by rw [d2];exact zu _ _ _ _ u
  have p3:=(f1 _ i6.o).trans p2;have o1:=(f1 _ i2.o).trans o0;have l2:b9.heap.size=d8.heap.size:=by rw [d2];simp
  have r2:Zq d8 b9:=by rw [d2];exact ⟨rfl,rfl,rfl,by simp⟩
  have v3:=hid r2;clear r2;have q2:c9 r=⟨.pointer (some ⟨a.S,0,none⟩),.pointer (some ⟨a1.heap.size+1,0,none⟩),.int .i64 X,.int .u64 ct,.bool false⟩:=by rw [g5,zk]
  obtain ⟨m4,v9,t7,h6,s8,x2,x1,x0,t3⟩:=zi9 o7 p3 o1 f1 n7 l2 l1 h3 g5;obtain ⟨m1,t6⟩:=zi2 q2 q7;clear d2 o7 p3 o1 f1 n7 l2 l1 h3 g5 q2 q7 f8 p2 o0 q0 a0 a6 Z;go_wp2;refine leaves_cons (f:=41) (args:=#[.pointer (some ⟨O.heap.size,0,none⟩),.pointer (some ⟨w.heap.size,0,none⟩)]) (by simp) (by simp [go_sem]) ?_;refine (zbh H D r _ _ boots c9 .returning b9 hr v9.o t7.o m4.o (by rw [m1.o])).mono ?_;rintro x6 u8 c0 ⟨rfl,rfl,rfl⟩;refine ⟨_,results_none rfl _ _ _,rfl,?_⟩;obtain ⟨c0,e5⟩:=ex (b9.setCell ⟨H,1+r*5+4,none⟩ (.bool false));rw [<- e5];have x8:c0.heap[H]?=some (.cells (hC D c9 boots) 73 (0,0)):=by rw [e5,zB _ _ (1+r*5+4) _ _ _ m4.o,zoU D c9 boots r hr (by rw [m1.o])]
  have i9:∀ x,x≠H->c0.heap[x]?=b9.heap[x]?:=fun x u=>by rw [e5];exact zu _ _ _ _ u
  have z9:c0.heap.size=b9.heap.size:=by rw [e5];simp
  have h2:=m8.o;have h4:=x4.o;have l3:=x5.o;have h3:=x0.o;have l1:=x1.o;have l2:=x2.o;have l0:=c5.o;have z4:=zj U.o.U;have n5:∀ x,x<w7.heap.size->x≠H->x≠O.heap.size->c0.heap[x]?=w7.heap[x]?:=fun x L z R=>by rw [i9 x z,h6.o x z,s8.o x (by omega),s7.o x z R]
  have o4:∀ x,x<w.heap.size->¬ F x->¬ F4 x:=fun x L z R=>(m6.o x R).elim z (fun j0=>by omega);have n3:∀ x,x≠H->x<w.heap.size->¬ F x->c0.heap[x]?=w.heap[x]?:=fun x L z R=>by rw [n5 x (by omega) L (by omega),show w7.heap[x]?=E.heap[x]? from a3.o.ad.block x (show x<E.heap.size by omega) (o4 x z R)];exact h5.o x z L R
  obtain ⟨l,hl⟩:∃ l:Tl,l=⟨a,b,(ym r o.J o.bank o.rs o.dp nb1 nb2 Ts nb3).a1,a1.heap.size+1,a1.heap.size,((uP ct boots:Nat):Int),0,[]⟩:=⟨_,rfl⟩;have x7:qO w7 O.heap.size=28:=by have L:=qJ (show E.drew.heap[_]?=_ from e0.o) a3.o.ad (fun hf=>by have:=c8.o.ah hf;rw [zh e0.o] at this;simp at this);exact zh L
  have e2:qO w7 H=73:=by have L:=qJ (show E.drew.heap[_]?=_ from a8.o) a3.o.ad (fun hf=>by have:=c8.o.ah hf;rw [zh a8.o] at this;simp at this);exact zh L
  have s0:zm c0 a b m9 (ym r o.J o.bank o.rs o.dp nb1 nb2 Ts nb3).a1:=d9.o.same (fun x u=>n5 x (d9.o.lt u) (fun e=>d9.o.b9 e2 (by decide) (e ▸ u)) (fun e=>d9.o.b9 x7 (by decide) (e ▸ u))) (by omega);have y2:Zq E c0:=((Zq.ay (Zq.ft a3.o.ad)).trans (v6.o.trans v2.o)).trans (v3.o.trans (by rw [e5];exact ⟨rfl,rfl,rfl,by simp⟩));have a9:=t0.o;refine ⟨m5.o _ y2 n3,b.F,m9,zV c r (Tn.t5 ⟨1,ct,some l⟩),⟨1,ct,some l⟩,?_,fun i q hi=>?_,?_⟩
  ·refine qs.step U.o ⟨1,ct,some l⟩ hr (fun i hi g6=>by omega) ?_ ?_ ?_ ⟨za _,g0.2⟩ ?_ (fun e=>by cases e) ?_ ?_ (by omega) ?_ (fun x u=>?_) ?_
   ·rw [x8,t3.o,c3.o,hl];rfl
   ·have:=s0.sto.ar;rw [l5.o] at this;exact this
   ·rw [a3.o.out r 0 (.inr rfl),i4.o,c3.o]
   ·intro l' e;injection e with e;subst e;refine ⟨?_,rfl⟩;rw [hl];refine ⟨s0,l5.o,s9.o,rfl,?_,?_⟩
    ·exact Dk.DeskAt.same t6.o ((i9 _ (by simp only;omega)).trans (h6.o _ (by simp only;omega))) ((i9 _ (by simp only;omega)).trans (h6.o _ (by simp only;omega)))
    ·intro u;have:=d9.o.lt u;simp only at this;omega
   ·intro i l' x hi g6 c7 u;obtain ⟨z,_⟩:=U.o.ac i l' hi c7;exact n3 x (qs.dx U.o hi c7 (.inl u)) (z.ah x u).2 (z.c9 u)
   ·intro i q hi;exact a3.o.out i q (.inl hi)
   ·intro l' x e u i y8 hi g6 c7 hy;injection e with e;subst e;obtain ⟨z,_⟩:=U.o.ac i y8 (by omega) c7;have y0:=(z.ah x hy).2;rw [hl] at u;rcases u with u | u | u
    ·rcases a3.o.new x (.inl u) with R | R
     ·exact o4 x y0 (z.c9 hy) R
     ·have j0:E.heap.size<=x:=R;omega
    ·have h9:x=a1.heap.size+1:=u;omega
    ·have h9:x=a1.heap.size:=u;omega
   ·rcases a3.o.new x (.inr u) with R | R
    ·exact h7.o x R
    ·have j0:E.heap.size<=x:=R;exact a9 x (by omega)
   ·intro l' x e u;injection e with e;subst e;rw [hl] at u;rcases u with u | u | u
    ·rcases a3.o.new x (.inl u) with R | R
     ·exact h7.o x R
     ·have j0:E.heap.size<=x:=R;exact a9 x (by omega)
    ·have h9:x=a1.heap.size+1:=u;exact a9 x (by omega)
    ·have h9:x=a1.heap.size:=u;exact a9 x (by omega)
  ·exact a3.o.out i q (.inl hi)
  ·exact ⟨by rw [<- e9.o,c3.o],i0.o,fun e=>by rw [<- e9.o,c3.o] at e;omega,fun _=>⟨l,nb1,nb2,Ts,nb3,rfl,by rw [hl],by rw [hl,i0.o],by rw [hl],by rw [hl],by rw [hl];exact w6.o,by rw [hl];exact v1.o⟩⟩
 ·have c3:=hid e4;have y3:((X:Int) == 1)=false:=by simp;omega
  clear e4;have g7:X=0:=by have:=c3.o;omega
  go_wp2;refine leaves_cons (f:=41) (args:=#[.pointer (some ⟨O.heap.size,0,none⟩),.pointer (some ⟨w.heap.size,0,none⟩)]) (by simp) (by simp [go_sem]) ?_;refine (zbh H D r _ _ boots Y .returning E hr e7.o e0.o a8.o (by rw [h8.o])).mono ?_;rintro x6 u8 w7 ⟨rfl,rfl,rfl⟩;refine ⟨_,results_none rfl _ _ _,rfl,?_⟩;obtain ⟨w7,e6⟩:=ex (E.setCell ⟨H,1+r*5+4,none⟩ (.bool false));rw [<- e6];have d0:w7.heap[H]?=some (.cells (hC D Y boots) 73 (0,0)):=by rw [e6,zB _ _ (1+r*5+4) _ _ _ a8.o,zoU D Y boots r hr (by rw [h8.o])]
  have j2:∀ x,x≠H->w7.heap[x]?=E.heap[x]?:=fun x u=>by rw [e6];exact zu _ _ _ _ u
  have h4:w7.heap.size=E.heap.size:=by rw [e6];simp
  have h2:=m8.o;refine ⟨m5.o _ (by rw [e6];exact ⟨rfl,rfl,rfl,by simp⟩) fun x L z R=>(j2 x L).trans (h5.o x z L R),F4,Zb cur r X ct,zV c r (Tn.t5 ⟨0,ct,none⟩),⟨0,ct,none⟩,?_,fun i q hi=>GV (by omega) (.inl hi),?_⟩
  ·refine qs.step U.o ⟨0,ct,none⟩ hr (fun i hi g6=>by omega) ?_ ?_ ?_ ⟨by simp,g0.2⟩ (fun l' e=>by cases e) (fun _=>⟨rfl,fun q L z=>?_⟩) ?_ (fun i q hi=>GV (by omega) (.inl hi)) (by omega) (fun l' x e=>by cases e) h7.o (fun l' x e=>by cases e)
   ·rw [d0,l9.o,g7];rfl
   ·exact zL.same c8.o (fun x u=>j2 x (fun e=>by
     have:=c8.o.ah u;rw [e,zh a8.o] at this;simp at this)) (by omega)
   ·rw [GV (by omega) (.inr rfl),i4.o,g7]
   ·unfold Zb yS;rw [g7,if_neg (by omega),if_neg (by omega),zk,if_pos ⟨L,z⟩]
   ·intro i l' x hi g6 c7 u;obtain ⟨z,_⟩:=U.o.ac i l' hi c7;have R:=qs.dx U.o hi c7 (.inl u);exact (j2 x R).trans (h5.o x (z.ah x u).2 R (z.c9 u))
  ·exact ⟨by rw [<- e9.o,g7],i0.o,fun _=>rfl,fun e=>by rw [<- e9.o] at e;omega⟩
end
section
variable {bz:Nat->Prop}
theorem qs.at {w:World} {H D:Nat} {F:Nat->Prop} {cur:Nat->Nat->List UInt8} {c:Nat->T5} {ts:Nat->Tn} {boots:Nat} (h:qs bz w H D F cur c ts boots 4):zN bz w H D F cur ts boots:=by
 refine ⟨?_,h.ar,h.c3,h.ea,fun _ _=>rfl,h.ac,h.cf,h.apart,h.base⟩;have e:hC D (fun r=>(ts r).t5) boots=hC D c boots:=by unfold hC;rw [h.cells 0 (by omega),h.cells 1 (by omega),h.cells 2 (by omega),h.cells 3 (by omega)]
 rw [e];exact h.U
theorem KI.ce {r boots:Nat} {o:zdS} {t t':Tn} (h:KI r o boots t t') (F:Nat->Prop):KI r o boots t (t'.ce F):=by refine ⟨h.st,h.ct,fun e=>by unfold Tn.ce;rw [h.cf e];rfl,fun e=>?_⟩;obtain ⟨l,U,X,Y,Z,u,z,D,E,L,O,R⟩:=h.ac e;exact ⟨l.ce F,U,X,Y,Z,by unfold Tn.ce;rw [u];rfl,z,D,E,L,O,R⟩
theorem Kq.congr {u z:Nat->List UInt8} {r:Nat} {o:zdS} (h:Kq u r o) (e:z=u):Kq z r o:=e ▸ h
theorem zhd (H D:Nat) (F:Nat->Prop) (cur:Nat->Nat->List UInt8) (c:Nat->T5) (ts:Nat->Tn) (boots:Nat) (o:Nat->zdS) (w:World) (hb:w.heap[H]?=some (.cells (hC D c boots) 73 (0,0))) (hD:jn w D F cur)
  (c7:∀ r,r<4->cur r 0=jQ (yU (ts r).st (ts r).ct)) (c6:∀ r,r<4->(ts r).st<=1/\(ts r).ct<1000000) (d9:boots+1<1000000) (ho:∀ r,r<4->(ts r).st=1->Kq (cur r) r (o r)) (c5:¬ bz H) (d7:∀ x,F x->¬ bz x) (d8:∀ x,bz x->x<w.heap.size) :
  zc 20 #[.pointer (some ⟨H,0,none⟩)] w fun e W=>e=.returned (.tuple #[])/\zw bz w W/\∃ F' cur' c9,zN bz W H D F' cur' c9 (boots+1)/\∀ r,r<4->KI r (o r) (boots+1) (ts r) (c9 r):=by
 obtain ⟨R,hR⟩:∃ R:Nat->World->Prop,R=fun k wr=>∃ (U:Nat->Prop) (E:Nat->Nat->List UInt8) (cc:Nat->T5) (tk:Nat->Tn),qs bz wr H D U E cc tk (boots+1) k/\(∀ i,k<=i->i<4->E i=cur i/\(tk i).st=(ts i).st/\(tk i).ct=(ts i).ct)/\(∀ i,i<k->KI i (o i) (boots+1) (ts i) (tk i))/\zw bz w wr:=⟨_,rfl⟩;obtain ⟨w1,z⟩:=ex (w.setCell ⟨H,21,none⟩ (.int .i64 ((boots:Int)+1)));have k0:=xV _ 21 hb (zqE D c boots);have kf:w.frozen? ⟨H,21,none⟩=false:=zH w _ _ _ _ hb;have x1:IntKind.i64.wrap ((boots:Int)+1)=(boots:Int)+1:=by rw [zv];omega
 have c2:w1.heap[H]?=some (.cells (hC D c (boots+1)) 73 (0,0)):=by rw [z,zB _ _ 21 _ _ _ hb];have:=znL D c boots (boots+1);rw [show (((boots+1:Nat):Int))=(boots:Int)+1 by omega] at this;rw [this]
 have Y:∀ x,x≠H->w1.heap[x]?=w.heap[x]?:=fun x u=>by rw [z];exact zu _ _ _ _ u
 have c1:jn w1 D F cur:=zL.same hD (fun x u=>Y x (fun e=>by
  have:=hD.ah u;rw [e,zh hb] at this;simp at this)) (by rw [z];simp)
 have c3:R 0 w1:=by rw [hR];refine ⟨F,cur,c,ts,⟨c2,c1,c7,c6,fun i h=>absurd h (Nat.not_lt_zero i),fun i l h=>absurd h (Nat.not_lt_zero i),fun i h=>absurd h (Nat.not_lt_zero i),fun i j l l' h=>absurd h (Nat.not_lt_zero i),c5,d7,fun i l h=>absurd h (Nat.not_lt_zero i),fun x u=>by rw [z];simpa using d8 x u⟩,fun i _ _=>⟨rfl,rfl,rfl⟩,fun i h=>absurd h (Nat.not_lt_zero i),?_⟩;refine ⟨fun x t C ht u=>?_,by rw [z];rfl,by rw [z];rfl,by rw [z];rfl,by rw [z];simp,fun x h1 _=>Y x (fun e=>c5 (e ▸ h1))⟩;refine (Y x (fun e=>?_)).trans u;rw [e,hb] at u;injection u with u;injection u with _ u;subst u;exact ht (by decide)
 obtain ⟨HR,d1,d3,HO⟩:=zi4 hR c3 z ho;clear hR c3 z ho c2 Y c1 hb hD c7 c6;go_enter func20,ntmps20;go_upto_region 1 with fail;rw [<- d3.o];clear k0 kf;go_upto_region 2 with fail;go_loopw [10] (fun b9 wr=>∃ k:Nat,k<=4/\b9=.int .i64 k/\R k wr) (fun b9 _=>(4-jL b9).toNat)
 case atStart=>exact ⟨0,zU _,rfl,d1.o⟩
 case round =>
  obtain ⟨k,hk,rfl,c8⟩:=hrel;rw [HR.o] at c8;obtain ⟨U,E,cc,tk,Z,a4,a3,a0⟩:=c8;by_cases a9:k<4
  ·have q1:(k:Int)<4:=by omega
   have x2:IntKind.i64.wrap ((k:Int)+1)=(k:Int)+1:=by rw [zv];omega
   obtain ⟨L,O,X⟩:=a4 k (za _) a9;have d0:=hid (zoh H D k U E cc tk (boots+1) (o k) wr Z a9 d9 (fun hs=>(HO.o k a9 (by rw [<- O];exact hs)).congr L));obtain ⟨d2,a7,a6,a5,c0⟩:=zi5 a4 a3 a0 O X;clear a4 a3 a0 Z L O X;go_wp2_with ((with_reducible refine aV 25 d0.o ?_);rintro L w2 ⟨rfl,e1,F2,d5,d4,t2,d6,e2,a1⟩);go_roundw
   case rel =>
    refine ⟨k+1,by omega,by simp,?_⟩;rw [HR.o];refine ⟨F2,d5,d4,_,d6,fun i h1 h2=>?_,fun i h=>?_,a6.o.trans e1⟩
    ·have a8:i≠k:=by omega
     obtain ⟨L,O,X⟩:=d2.o i (by omega) h2;refine ⟨(funext fun q=>e2 i q a8).trans L,?_,?_⟩
     ·rw [vN _ _ _ a8];exact O
     ·rw [vN _ _ _ a8];exact X
    ·by_cases e:i=k
     ·subst e;rw [jI];exact ⟨a1.st.trans a5.o,a1.ct.trans c0.o,fun hs=>a1.cf (a5.o.trans hs),fun hs=>by have:=a1.ac (a5.o.trans hs);rw [c0.o] at this;exact this⟩
     ·rw [vN _ _ _ e];exact (a7.o i (by omega)).ce _
   case measure=>simp [jL];omega
  ·have e0:k=4:=by omega
   subst e0;have HA:=hid Z.at;obtain ⟨a7,a6⟩:=zi2 a3 a0;clear Z a4 a3 a0;go_wp2_with fail;go_end0;exact ⟨rfl,a6.o,U,E,tk,HA.o,fun i h=>a7.o i h⟩
end
section
variable {bz:Nat->Prop}
def znj:Nat->Tn:=fun _=>⟨0,0,none⟩
def cZ:Nat->T5:=fun _=>⟨.pointer none,.pointer none,.int .i64 0,.int .u64 0,.bool false⟩
theorem zlY (w:World) :
  zc 8 #[] w fun e W=>∃ H D F cur ts,e=.returned (.pointer (some ⟨H,0,none⟩))/\zN (·<w.heap.size) W H D F cur ts 1/\(∀ r,r<4->ts r=⟨0,0,none⟩)/\zw (·<w.heap.size) w W:=by
 have b9:=hid (zny w);go_enter func8,ntmps8;go_upto_region 2 with ((with_reducible refine aV 19 b9.o ?_);rintro e1 w1 ⟨D,F,rfl,Z,U,a1⟩);obtain ⟨h,u⟩:=ex (w1.alloc (.cells (hC D cZ 0) 73));have a6:w1.alloc (.cells #[.pointer (some ⟨D,0,none⟩),.pointer none,.pointer none,.int .i64 0,.int .u64 0,.bool false,.pointer none,.pointer none,.int .i64 0,.int .u64 0,.bool false,.pointer none,.pointer none,.int .i64 0,.int .u64 0,.bool false,.pointer none,.pointer none,.int .i64 0,.int .u64 0,.bool false,.int .i64 0] 73)=h:=u.symm;have X:zd w h:=by rw [u];exact B_alloc U _
 have a3:h.heap[w1.heap.size]?=some (.cells (hC D cZ 0) 73 (0,0)):=by rw [u];exact zo _ _ rfl
 have a4:zd w1 h:=by rw [u];exact B_alloc (zf _ _) _
 have a0:jn h D F (fun _ _=>zs 64):=zL.below Z a4;have a5:=zhd (bz:=(·<w.heap.size)) w1.heap.size D F (fun _ _=>zs 64) cZ znj 0 (fun _=>⟨1,0,[],fun _=>Jf⟩) h a3 a0 (fun r z=>by
  show zs 64=jQ (yU 0 0);decide) (fun r z=>⟨by simp [znj],by simp [znj]⟩) (by omega) (fun r z c2=>by simp [znj] at c2) (Nat.not_lt.2 U.size) (fun x Y=>Nat.not_lt.2 (a1 x Y)) (fun x Y=>qg Y X.size)
 obtain ⟨a9,a8⟩:=zi2 a5 X;have c0:=hid a6;clear u a6 X a3 a4 a0 a5 Z U a1;rw [c0.o];go_wp2_with ((with_reducible refine aV 20 a9.o ?_);rintro e3 w3 ⟨rfl,c5,F3,c1,a7,c3,c6⟩);go_ret;refine ⟨w1.heap.size,D,F3,c1,a7,rfl,c3,fun r z=>?_,(zw.below a8.o).trans c5⟩;have E:=c6 r z;have L:=E.st;have O:=E.ct;have R:=E.cf rfl;cases e:a7 r with
 | mk a b c =>rw [e] at L O R;simp only [znj] at L O R;rw [L,O,R]
end
section
variable {bz:Nat->Prop}
theorem zpf (H a1 r:Nat) (c:Nat->T5) (boots:Nat) (q:Rq) (w:World) (P:An->World->Prop) (hb:w.heap[H]?=some (.cells (hC a1 c boots) 73 (0,0))) (hr:r<4) (hd:(c r).d=.bool false)
  (f1:0<=q.kd) (hk:q.kd<=17) (ht:q.tn=r)
  (hP:∀ a W h,P a W->js W h->P a h)
  (a7:∀ W,zd w W->zc 23 #[.pointer (some ⟨H,0,none⟩),.pointer (some ⟨H,1+r*5,none⟩),.agg (zK q).toArray] W fun e h=>∃ a,e=.returned (.agg (zQ a).toArray)/\a.Z≠10/\zw bz W h/\P a h) :
  zc 9 #[.pointer (some ⟨H,0,none⟩),.agg (zK q).toArray] w fun e h=>∃ a,e=.returned (.agg (zQ (if a.Z=0 then a else qo a.Z)).toArray)/\zw bz w h/\P a h:=by
 have e7:decide (q.kd<0)=false:=by simp;omega
 have e8:decide ((19:Int)<q.kd)=false:=by simp;omega
 have e9:(q.kd == 19)=false:=by simp;omega
 have f0:(q.kd == 18)=false:=by simp;omega
 have r0:(0:Int)<=(r:Int):=by omega
 have r4:(r:Int)<4:=by omega
 have f3:decide ((r:Int)<0)=false:=by simp
 have f4:decide ((4:Int)<=(r:Int))=false:=by simp;omega
 obtain ⟨kd,tn,e2,rt,rk,rv,tt,n,mask,dA,dn,dc⟩:=q;simp only at *;subst ht;obtain ⟨Q,D⟩:∃ Q:Rq,Q=⟨kd,r,e2,rt,rk,rv,tt,n,mask,dA,dn,dc⟩:=⟨_,rfl⟩;rw [<- D] at a7;obtain ⟨w1,O⟩:=ex ((w.alloc (.cells (zK Q).toArray 37)).alloc (.cells qI 31));have X:zd w w1:=by rw [O];exact B_alloc (B_alloc (zf _ _) _) _
 have Y:w1.heap[w.heap.size]?=some (.cells (zK Q).toArray 37 (0,0)):=by rw [O];exact zx (zo _ _ rfl) _
 have c6:w1.heap[w.heap.size+1]?=some (.cells qI 31 (0,0)):=by rw [O];exact zo _ _ (by simp)
 have k0:=xV (Value.int .i64 kd) 0 Y (by rw [D];rfl);have k1:=xV (Value.int .i64 r) 1 Y (by rw [D];rfl);have c7:w1.heap[H]?=some (.cells (hC a1 c boots) 73 (0,0)):=zg hb X (zj hb);have a8:=xV _ (1+r*5+4) c7 (Gn a1 c boots r hr).2.2.2.2;rw [hd] at a8;have HS:=hid (a7 w1.drew X.drew);obtain ⟨HQ,d7,d4,c0,a5,a3,e4⟩:=zi7 D O X Y c6 hP hb;rw [<- D];clear a7 O X Y c6 hP c7 hd D hb;go_enter func9,ntmps9;go_upto_region 1 with fail;rw [<- d7.o];go_upto_region 19 with fail;refine sV [] 7 (fun w'=>zI w' w.heap.size 1 (.int .i64 r)) k1 fun e1=>?_;refine pV 0 ?_;refine pV 1 ?_;refine cV 2 (fun _ e0=>e0) ?_;refine pV 3 ?_;refine pV 4 ?_;refine pV 5 ?_;refine pV 6 ?_;refine dV ?_;have f5:w1.drew.cell? ⟨H,1+r*5+4,none⟩=some (.bool false):=a8;have c5:w1.drew.heap[w.heap.size]?=some (.cells (zK Q).toArray 37 (0,0)):=c0.o;have d8:=hid c5;clear k0 k1 a8 e1 c5;go_upto_region 22 with (first|((with_reducible refine gV 84 ?_);refine rV d8.o ?_)|((with_reducible refine aV 23 HS.o ?_);rintro e6 u ⟨an,rfl,c9,L,d1⟩)|((with_reducible refine hV 7 ?_);refine nV (zQ an).toArray (Yl an) ?_));obtain ⟨z,a0⟩:=ex (u.alloc (.cells (zQ an).toArray 31));rw [<- a0];have Z:zd u z:=by rw [a0];exact B_alloc (zf _ _) _
 have a6:z.heap[u.heap.size]?=some (.cells (zQ an).toArray 31 (0,0)):=by rw [a0];exact zo _ _ rfl
 have c1:z.heap[w.heap.size+1]?=some (.cells qI 31 (0,0)):=zg (L _ _ _ (by decide) (show w1.drew.heap[_]?=_ from a5.o)) Z (zj (L _ _ _ (by decide) (show w1.drew.heap[_]?=_ from a5.o)));have d2:=a3.o _ _ _ d1 (js.below Z);have d3:w.heap.size<=u.heap.size:=Nat.le_of_lt (zj (L _ _ _ (by decide) (show w1.drew.heap[_]?=_ from c0.o)));have c8:zw bz w z:=(zw.below d4.o).trans ((zw.ay L).trans (zw.below Z));obtain ⟨d9,a9⟩:=zi2 d3 c8;clear d3 c8;have d0:w.heap.size+1≠u.heap.size:=fun e=>by have:=zj (L _ _ _ (by decide) (show w1.drew.heap[_]?=_ from a5.o));omega
 have e5:=xV (Value.int .i64 an.Z) 0 a6;have f2:(an.Z == 10)=false:=by simpa using c9
 obtain ⟨U,R,b9,d5⟩:=zi4 a6 c1 d2 d0;clear a0 Z a6 c1 d1 d2 L d0 c9;by_cases E:an.Z=0
 ·have e3:(an.Z != 0)=false:=by simpa using E
  have HE:=hid E;clear E;go_wp2_with (first|((with_reducible refine gV 98 ?_);refine rV U.o ?_)|((with_reducible refine hV 4 ?_);refine wV 0 (zQ an).toArray R.o ?_));refine zcI 4 31 rfl rfl (w.heap.size+1) 31 (zQ an).toArray (0,0) _ rfl (setRow_heap z (w.heap.size+1) _ _ 31 _ R.o) underlying31 rfl (by kernel_rfl) ⟨an,?_,a9.o.setRow (by omega) _,?_⟩
  ·rw [if_pos HE.o]
  ·exact a3.o _ _ _ b9.o (js.setRow R.o _)
 ·have e3:(an.Z != 0)=true:=by simpa using E
  have HE:=hid E;clear E;have c3:=setRow_heap z u.heap.size _ (zQ (qo an.Z)).toArray 31 _ U.o;have c2:=(setRow_other z u.heap.size (w.heap.size+1) (zQ (qo an.Z)).toArray d5.o).trans R.o;obtain ⟨d6,a4⟩:=zi2 c3 c2;clear c3 c2;go_wp2_with (first|((with_reducible refine gV 98 ?_);refine rV d6.o ?_)|((with_reducible refine hV 7 ?_);refine wV 0 (zQ (qo an.Z)).toArray U.o ?_)|((with_reducible refine hV 4 ?_);refine wV 0 (zQ (qo an.Z)).toArray a4.o ?_));refine zcI 4 31 rfl rfl (w.heap.size+1) 31 (zQ (qo an.Z)).toArray (0,0) _ rfl (setRow_heap _ (w.heap.size+1) _ _ 31 _ a4.o) underlying31 rfl (by kernel_rfl) ⟨an,?_,(a9.o.setRow d9.o _).setRow (by omega) _,?_⟩
  ·rw [if_neg HE.o]
  ·exact a3.o _ _ _ b9.o ((js.setRow U.o _).trans (js.setRow a4.o _))
theorem znz (H D:Nat) (F:Nat->Prop) (cur:Nat->Nat->List UInt8) (ts:Nat->Tn) (boots:Nat) (o:Nat->zdS) (q:Rq) (w:World) (h:zN bz w H D F cur ts boots) (d7:q.kd=19) (hn:q.n<=0) (d6:boots+1<1000000) (ho:∀ r,r<4->(ts r).st=1->Kq (cur r) r (o r)) :
  zc 9 #[.pointer (some ⟨H,0,none⟩),.agg (zK q).toArray] w fun e W=>e=.returned (.agg (zQ (qo 0)).toArray)/\zw bz w W/\∃ F' cur' c3,zN bz W H D F' cur' c3 (boots+1)/\∀ r,r<4->KI r (o r) (boots+1) (ts r) (c3 r):=by
 have d9:decide ((0:Int)<q.n)=false:=by simp;omega
 obtain ⟨w1,O⟩:=ex ((w.alloc (.cells (zK q).toArray 37)).alloc (.cells qI 31));have X:zd w w1:=by rw [O];exact B_alloc (B_alloc (zf _ _) _) _
 have Y:w1.heap[w.heap.size]?=some (.cells (zK q).toArray 37 (0,0)):=by rw [O];exact zx (zo _ _ rfl) _
 have a4:w1.heap[w.heap.size+1]?=some (.cells qI 31 (0,0)):=by rw [O];exact zo _ _ (by simp)
 have k0:=xV (Value.int .i64 q.kd) 0 Y;rw [d7] at k0;have Z:=h.below X;have a6:=zlJ D F cur (fun _=>0) q.mask w1.drew Z.ar.drew (fun _ _=>rfl);obtain ⟨d2,c5,R,a1,u,c7,HO⟩:=zi7 O X Y a4 Z a6 ho;clear O X Y a4 Z a6 ho h;go_enter func9,ntmps9;go_upto_region 1 with fail;rw [<- d2.o];go_upto_region 4 with fail;refine sV [6] 7 (fun w'=>w'.heap[w.heap.size]?=some (.cells (zK q).toArray 37 (0,0))/\jK w' H (hC D (fun r=>(ts r).t5) boots) 73) ⟨R.o,u.o.U⟩ fun d5=>?_;refine pV 0 ?_;refine pV 1 ?_;refine pV 2 ?_;refine cV 3 (fun _ h=>xV _ 0 h.2 (zdv D _ boots)) ?_;refine pV 4 ?_;refine cV 5 (fun _ h=>xV (Value.int .u64 q.mask) 8 h.1) ?_;refine lC 6 c7.o ?_;rintro e2 w2 ⟨rfl,a3,z⟩;refine eL ?_;refine dV ?_;have L:∀ {x t:Nat} {C:Array Value},w1.heap[x]?=some (.cells C t (0,0))->t ∉ [81,118,86,120]->¬ F x:=fun E ht hf=>ht (by have:=u.o.ar.ah hf;rw [zh E] at this;exact this);have b9:=qJ (show w1.drew.heap[_]?=_ from R.o) z (L R.o (by decide));have c0:=qJ (show w1.drew.heap[_]?=_ from a1.o) z (L a1.o (by decide));have c2:=qJ (show w1.drew.heap[_]?=_ from u.o.U) z (L u.o.U (by decide));have a5:=zhd H D F cur (fun r=>(ts r).t5) ts boots o w2 c2 a3 u.o.c3 u.o.ea d6 HO.o u.o.base.1 u.o.base.2.1 (fun x E=>qg (u.o.base.2.2.2 x E) z.size);have a8:zw bz w1 w2:=zw.ay (zw.ad u.o.base.2.1 (fun x t C ht E=>qJ (show w1.drew.heap[_]?=_ from E) z (L E (fun h9=>ht (by
  simp only [zO,qU,or_false] at h9 ⊢;omega)))) z)
 have kn:=xV (Value.int .i64 q.n) 7 b9;have c6:=hid a5;have d3:=hid c0;have d0:=hid a8;clear L b9 c0 c2 a5 a8 z a3 d5 k0;go_upto_region 12 with ((with_reducible refine aV 20 c6.o ?_);rintro e3 w3 ⟨rfl,a0,F3,d4,d8,a7,a9⟩);have c1:=a0 _ _ _ (by decide) d3.o;obtain ⟨U,c8,c9,d1⟩:=zi4 c1 a7 a0 a9;clear c1 a7 a0 a9;go_wp2_with ((with_reducible refine hV 4 ?_);refine wV 0 (zQ (qo 0)).toArray U.o ?_);refine jr (an:=qo 0) 4 rfl rfl rfl U.o rfl ⟨rfl,?_,F3,d4,d8,c8.o.bq (js.setRow U.o _),d1.o⟩;exact ((zw.below c5.o).trans (d0.o.trans c9.o)).setRow (by omega) _
end
end Go.Proofs.YtechnoogjhohfaaGreat
namespace Go.Proofs.YtechnoogjhohfaaGreat
theorem zhN:∀ (N:Nat) (l:List Nat),l.Nodup->(∀ x,x∈l->x<N)->l.length<=N
 | 0,[],_,_=>za _
 | 0,x::l,_,h=>absurd (h x (jj ..)) (Nat.not_lt_zero _)
 | N+1,l,u,h=>by
  have R:=zhN N (l.filter fun x=>!decide (x=N)) (u.filter _) fun x E=>by obtain ⟨z,D⟩:=List.mem_filter.1 E;have:=h x z;simp at D;omega
  have z:∀ (l:List Nat),l.Nodup->l.length<=(l.filter fun x=>!decide (x=N)).length+1:=by
   intro l;induction l with
   | nil=>intro _;simp
   | cons y l ih =>
    intro u;obtain ⟨D,L⟩:=List.nodup_cons.1 u;by_cases e:y=N
    ·subst e;have O:l.filter (fun x=>!decide (x=y))=l:=List.filter_eq_self.2 fun x E=>by simp only [Bool.not_eq_true',decide_eq_false_iff_not];exact fun e=>D (e ▸ E)
     rw [List.filter_cons_of_neg (by simp),O,zX];exact za _
    ·rw [List.filter_cons_of_pos (by simp [e]),zX,zX];have:=ih L;omega
  have:=z l u;omega
theorem zhj:∀ (N:Nat) (l:List Nat),(∀ x,x<N->x∈l)->N<=l.length
 | 0,_,_=>zU _
 | N+1,l,h=>by have z:=zhj N (l.erase N) fun x D=>(List.mem_erase_of_ne (by omega)).2 (h x (by omega));have u:=h N (by omega);rw [List.length_erase_of_mem u] at z;have:=List.length_pos_of_mem u;omega
def codes (h:List It):List Nat:=h.map fun x=>x.pg*5+x.sl
theorem Jg.dq {D:List It} {C:Nat->List (Option Rw)} (h:Jg D C) (U:∀ k,k<6->(C k).length=5) (R:∀ n i:Nat,n<6->i<5->¬ (C n)[i]?=some none):30<=D.length:=by
 have L:∀ x,x<30->x∈Go.Proofs.YtechnoogjhohfaaGreat.codes D:=fun x X=>by
  have z:x / 5<6:=by omega
  have u:x % 5<5:=by omega
  obtain ⟨o,E⟩:∃ o,(C (x / 5))[x % 5]?=some o:=⟨_,qa (by rw [U _ z];exact u)⟩;cases o with
  | none=>exact absurd E (R _ _ z u)
  | some r =>refine List.mem_map.2 ⟨⟨r,x / 5,x % 5⟩,(h.mem _).2 ⟨z,u,E⟩,?_⟩;simp only;omega
 have O:=zhj 30 _ L;simpa [Go.Proofs.YtechnoogjhohfaaGreat.codes] using O
def zir:Nat->List (Option Rw):=fun _=>List.replicate 5 none
theorem zoR:zka Za [qE] 1 zir:=by
 have E:∀ (i:Nat) (f:zy) (x:Nat × Nat × Pg),jA[i]?=some f->¬ f.pg=some x:=fun i f x D O=>by have:f∈jA:=zC D;simp [jA,zy.none] at this;subst this;cases O
 have hok:qX QQ:=⟨rfl,Nat.zero_lt_succ _,fun i j n L X=>by
  obtain ⟨f,b,p,u,z⟩:=Zx L;exact absurd z (E i f _ u),fun i f b n p D O _=>absurd O (E i f _ D),za _⟩
 have hpg:∀ n,QQ.E n=Jf:=fun n=>vn fun i L=>by obtain ⟨f,b,p,u,z⟩:=Zx L;exact absurd z (E i f _ u)
 have R:zeU QQ zir:=fun n _=>by rw [hpg];rfl
 refine ⟨⟨hok,zln.dm (s:=QQ) (by simp [qE]) (ZV qE).symm (congrArg List.length (ZV qE).symm) (fun n _=>(hpg n).symm) (fun n _=>?_) R,R,.nil,fun x=>⟨fun h=>(by cases h),fun h=>?_⟩⟩,Qy.check,Qy.check,uo.nil⟩
 ·show (QQ.E n).mark<jl QQ.J QQ.Q.length;rw [hpg];exact qg (Nat.zero_lt_succ _) (Nat.succ_le_succ (zU _))
 ·obtain ⟨u,z,U⟩:=h;have:=zC U;have:=List.eq_of_mem_replicate this;cases this
end Go.Proofs.YtechnoogjhohfaaGreat
namespace Go.Proofs.YtechnoogjhohfaaGreat
open Go.RowKit Go.Lib
open YtechnoogjhohfaaGreatW Go.Proofs.Tryz Go.Proofs.YtechnoogjhohfaaGreat.Tryz
section
variable {bz:Nat->Prop}
theorem zrS (t:Tn):t.t5.d=.bool false:=by unfold Tn.t5;cases t.ac<;>rfl
end
section
variable {bz:Nat->Prop}
end
section
variable {bz:Nat->Prop}
theorem zkT (H D r:Nat) (F:Nat->Prop) (cur:Nat->Nat->List UInt8) (ts:Nat->Tn) (boots:Nat) (q:Rq) (w:World) (P:An->World->Prop) (h:zN bz w H D F cur ts boots) (hr:r<4) (hl:(ts r).ac=none)
  (Z:q.kd≠0) (a0:q.kd≠14) (U:∀ a W u,P a W->js W u->P a u) (hend:∀ W,zd w W->P (qo 3) W) :
  zc 23 #[.pointer (some ⟨H,0,none⟩),.pointer (some ⟨H,1+r*5,none⟩),.agg (zK q).toArray] w fun e u=>∃ a,e=.returned (.agg (zQ a).toArray)/\a.Z≠10/\zw bz w u/\P a u:=by
 have d0:(q.kd == 0)=false:=by simpa using Z
 have d1:(q.kd == 14)=false:=by simpa using a0
 obtain ⟨w1,z⟩:=ex (QJ w q);have E:zd w w1:=by rw [z];exact yP w q
 have O:w1.heap[w.heap.size]?=some (.cells (zK q).toArray 37 (0,0)):=by rw [z];exact ZO w q
 have X:w1.heap[w.heap.size+1]?=some (.cells qI 31 (0,0)):=by rw [z];exact Zs w q
 have k0:=xV (Value.int .i64 q.kd) 0 O;have R:=h.below E;have Y:=Gn D (fun r=>(ts r).t5) boots r hr;obtain ⟨a1,hz⟩:=R.cf r hr hl;have a3:(ts r).t5=⟨.pointer none,.pointer none,.int .i64 0,.int .u64 (ts r).ct,.bool false⟩:=by unfold Tn.t5;rw [hl];simp only [a1];rfl
 have c2:=(ze w1 H (1+r*5+2) _ _ _ R.U).trans Y.2.2.1;simp only [a3] at c2;have a4:(w.alloc (.cells (zK q).toArray 37)).alloc (.cells qI 31)=w1:=z.symm;obtain ⟨a5,a7,L,HP,a6⟩:=zi5 E O X U a4;have HE:=hid (hend w1 E);clear z a4 E O X U R h hend hz a1 a3 Y Z a0;go_enter func23,ntmps23;go_upto_region 1 with fail;rw [a6.o];go_wp2_with ((with_reducible refine hV 6 ?_);refine wV 0 (zQ (qo 3)).toArray L.o ?_);refine jr (an:=qo 3) 6 rfl rfl rfl L.o rfl ⟨qo 3,rfl,by decide,(zw.below a5.o).setRow (by omega) _,?_⟩;exact HP.o _ _ _ HE.o (js.setRow L.o _)
end
section
variable {bz:Nat->Prop}
end
section
variable {bz:Nat->Prop}
theorem zkF (v:Value) (l:List UInt8) (w:World) (R:zi w v l) (hs:l.length<=1000000) :
  zc 40 #[v] w fun r w'=>r=.returned (.int .u32 (Zr l))/\w'=w:=by
 obtain ⟨A,cv,rfl,Z,_,_⟩:=R;have HR:=hid Z;clear Z;go_enter func40,ntmps40;go_upto_region 3 with fail;go_loopw [3,4] (fun u v wr=>∃ k:Nat,k<=l.length/\v=.int .i64 k/\u=.int .u32 (KL 4294967295 (l.take k))/\wr=w) (fun _ v _=>((l.length:Int)-jL v).toNat)
 case atStart=>exact ⟨0,by omega,rfl,rfl,rfl⟩
 case round =>
  obtain ⟨k,hk,rfl,rfl,rfl⟩:=hrel;by_cases U:k<l.length
  ·obtain ⟨ad,u,rfl,_,h,Y⟩:=HR.o.ca U;have hu:u=.int .u8 (l[k].toNat):=by
    have:(zE l)[k]?=some (.int .u8 (l[k].toNat)):=by simp [zE,U]
    rw [this] at h;injection h with h;exact h.symm
   subst hu;have L:=zfQ 4294967295 l k U;have D:=KD (l.take k) 4294967295 (by omega);generalize KL 4294967295 (l.take k)=d at L D ⊢;generalize l[k]=b at L Y;have a8:=b.toNat_lt;have hw:IntKind.u32.wrap (b.toNat:Int)=(b.toNat:Int):=by unfold IntKind.wrap;simp [IntKind.bits,IntKind.signed];omega
   have a0:=zcO d b.toNat D (by omega);obtain ⟨z,E⟩:=ex (d ^^^ b.toNat);rw [<- E] at a0;have h0:z<4294967296:=by rw [E];exact Nat.xor_lt_two_pow (n:=32) D (by omega)
   obtain ⟨a1,HS⟩:=zi2 E L;have a3:(0:Int)<=(k:Int):=by omega
   have a4:(k:Int)<(l.length:Int):=by omega
   clear L h E;go_upto_region 7 with fail;clear hw a0 a3 a4 Y;go_loopw [3,5] (fun v u a6=>∃ j:Nat,j<=8/\u=.int .i64 j/\v=.int .u32 (ZK j z)/\a6=wr) (fun _ u _=>((8:Int)-jL u).toNat)
   case atStart=>exact ⟨0,by omega,rfl,rfl,rfl⟩
   case round =>
    obtain ⟨j,hj,rfl,rfl,rfl⟩:=hrel;by_cases a9:j<8
    ·have R:=Kt z h0 j;have hs:ZK (j+1) z=JV (ZK j z):=rfl;have O:=hid hs;generalize ZK j z=e at R O ⊢;clear hs;have a5:=zcO (e / 2) 3988292384 (by omega) (by omega);have q1:(j:Int)<8:=by omega
     by_cases X:e % 2=1
     ·go_wp2;refine ⟨⟨j+1,by omega,by go_num,?_,by trivial⟩,?_⟩
      ·rw [O.o];unfold JV;rw [if_pos X,<- a5];rfl
      ·simp [jL];omega
     ·have a7:e % 2=0:=by omega
      go_wp2;refine ⟨⟨j+1,by omega,by go_num,?_,by trivial⟩,?_⟩
      ·rw [O.o];unfold JV;rw [if_neg X];rfl
      ·simp [jL];omega
    ·obtain rfl:j=8:=by omega
     go_wp2_with fail;refine ⟨⟨k+1,by omega,by go_num,by rw [HS.o,a1.o];rfl,by trivial⟩,by simp [jL];omega⟩
  ·obtain rfl:k=l.length:=by omega
   rw [qi];have D:=KD l 4294967295 (by omega);obtain ⟨d,hd⟩:=ex (KL 4294967295 l);rw [<- hd] at D ⊢;have HD:=hid hd;clear hd;go_wp2_with fail;go_ret;have h:=zcO 4294967295 d (by omega) D;refine ⟨?_,rfl⟩;show Ending.returned (.int .u32 (bits .xor .u32 ((4294967295:Nat):Int) (d:Int)))=_;rw [h];unfold Zr;rw [<- HD.o]
end
section
variable {bz:Nat->Prop}
theorem zkM (W:World):(Instr.buildSlice 29 2 #[(0,.int .u8 1),(1,.int .u8 1)]).run prog W=.ok (.slice (some ⟨W.heap.size,0,none⟩) 2 2) (W.alloc (.cells #[.int .u8 1,.int .u8 1] 5)):=by obtain ⟨D,h,u,z,E⟩:=info_parts QY;exact run_buildSlice W 29 5 2 #[(0,.int .u8 1),(1,.int .u8 1)] #[.int .u8 1,.int .u8 1] D _ underlying29 h u (by omega) (by omega) (by rw [z];kernel_rfl)
theorem zkN (W:World):(Instr.buildSlice 29 4 #[(0,.int .u8 239),(1,.int .u8 86),(2,.int .u8 195),(3,.int .u8 19)]).run prog W=.ok (.slice (some ⟨W.heap.size,0,none⟩) 4 4) (W.alloc (.cells #[.int .u8 239,.int .u8 86,.int .u8 195,.int .u8 19] 5)):=by obtain ⟨D,h,u,z,E⟩:=info_parts QY;exact run_buildSlice W 29 5 4 #[(0,.int .u8 239),(1,.int .u8 86),(2,.int .u8 195),(3,.int .u8 19)] #[.int .u8 239,.int .u8 86,.int .u8 195,.int .u8 19] D _ underlying29 h u (by omega) (by omega) (by rw [z];kernel_rfl)
theorem zjP {P:Program} {o:Oper} {a:Act} {w w1:World} {v:Value} (t n:Nat) (h:Array (Nat × Operand)) (z:o.op=.buildSlice t n h) (u:Array (Nat × Value)) (E:h.map (fun p=>(p.1,a.eval p.2))=u) (D:(Instr.buildSlice t n u).run P w=.ok v w1):(execOp a.eval o).run P w=.ok (.value v) w1:=by subst E;unfold execOp;simp only [z,Sem.run_bind,D,vk,Sem.run_pure]
theorem zal {w w':World} {B e k n:Nat} {v:Value} {xs:List Value} (h:w.ownsRow B e k v n xs) (hb:zd w w'):w'.ownsRow B e k v n xs:=own_same h fun x u=>by
 rcases h.2 with ⟨z,L⟩ | ⟨g,cap,cur,E,O,D,R⟩
 ·rw [z] at u;simp [Value.ownBlock] at u
 ·rw [E] at u;simp [Value.ownBlock] at u;subst u;exact hb.block _ (zj D)
theorem zmv {w:World} {B e k n:Nat} {v:Value} {xs:List Value} (h:w.ownsRow B e k v n xs) {g:Nat} (u:v.ownBlock=some g):B<=g:=by
 rcases h.2 with ⟨z,E⟩ | ⟨D,cap,cur,z,L,O,R⟩
 ·rw [z] at u;simp [Value.ownBlock] at u
 ·rw [z] at u;simp [Value.ownBlock] at u;omega
def JQ:Rw:=⟨1,[107],[118]⟩
def Ga:Array Value:=#[.int .i64 1,.string (zb [107]),.string (zb [118])]
theorem zig (g:Nat) (w:World) (h:w.heap[g]?=some (.cells Ga 34 (0,0))) :
  zc 24 #[.slice (some ⟨g,0,none⟩) 1 1] w fun e w'=>∃ v,e=.returned v/\w'.ownsRow w.heap.size 5 1 v 15 (zE (jG [JQ]))/\zd w w':=by
 have k0:=xV (Value.int .i64 1) 0 h;have k1:=xV (Value.string (zb [107])) 1 h;have k2:=xV (Value.string (zb [118])) 2 h;go_enter func24,ntmps24;go_upto_region 2 with fail;obtain ⟨w1,a1⟩:=ex (w.alloc (.cells #[.int .u8 84,.int .u8 78,.int .u8 77,.int .u8 49,.int .u8 0,.int .u8 1] 5));rw [<- a1];have c1:zd w w1:=by rw [a1];exact B_alloc (zf _ _) _
 have e1:w1.ownsRow w.heap.size 5 1 (.slice (some ⟨w.heap.size,0,none⟩) 6 6) 6 (zE [84,78,77,49,0,1]):=by rw [a1];exact zjJ (xs:=zE [84,78,77,49,0,1]) (by simp [zE]) (by unfold maxLen;omega)
 have d9:=zg h c1 (zj h);obtain ⟨O,d1,R⟩:=zi3 c1 e1 d9;clear a1 c1 e1 d9 k0 k1 k2;go_upto_region 3 with fail;refine wp_loop_rounds 2 ?_;rw [rounds_succ];go_upto_region 5 with fail;refine sV [14,15] 17 (fun w'=>jK w' g Ga 34) R.o fun f5=>?_;refine pV 0 ?_;refine pV 1 ?_;refine pV 2 ?_;refine pV 3 ?_;refine pV 4 ?_;refine cV 5 (fun _ h=>xV (Value.int .i64 1) 0 h) ?_;refine kV 6 rfl (ul 3 5 (.tmp 26) rfl (by rfl) (.int .i64 1) (.int .u8 1) (by rfl) (fun _ _=>by kernel_rfl)) ?_;refine pV 7 ?_;refine pV 8 ?_;refine pV 9 ?_;refine pV 10 ?_;refine cV 11 (fun _ h=>xV (Value.string (zb [107])) 1 h) ?_;refine pV 12 ?_;refine kV 13 rfl (ul 3 5 (.tmp 33) rfl (by rfl) (.int .i64 1) (.int .u8 1) (by rfl) (fun _ _=>by kernel_rfl)) ?_;refine lV 14 fun K u=>?_;refine Zj (v:=.slice (some ⟨w1.heap.size,0,none⟩) 2 2) (w1:=w1.drew.alloc (.cells #[.int .u8 1,.int .u8 1] 5)) (zjP 29 2 #[(0,.tmp 27),(1,.tmp 34)] rfl #[(0,.int .u8 1),(1,.int .u8 1)] (by kernel_rfl) (zkM w1.drew)) ?_;obtain ⟨D,a3⟩:=ex (w1.drew.alloc (.cells #[.int .u8 1,.int .u8 1] 5));rw [<- a3];have E:Below w1.heap.size w1.drew D:=by rw [a3];exact B_alloc (zf w1.drew.heap.size w1.drew) _
 have d7:D.heap[w1.heap.size]?=some (.cells #[.int .u8 1,.int .u8 1] 5 (0,0)):=by rw [a3];exact zo _ _ rfl
 have c5:D.ownsRow w.heap.size 5 1 (.slice (some ⟨w.heap.size,0,none⟩) 6 6) 6 (zE [84,78,77,49,0,1]):=zal d1.o.drew E;refine u.out _ _ ?_;clear u K;try simp only [pS]
 refine lV 15 fun K u=>?_;refine Qk (.tmp 21) (.tmp 35) 29 5 1 1 rfl underlying29 QW (by omega) _ 6 _ w.heap.size (by rfl) c5 _ 2 2 _ _ (by rfl) (zJ.ba d7 rfl) (by intro f1 z;simp at z;subst z;rfl) (by omega) (by omega) (by have:=O.o.size;have:w1.heap.size<=D.heap.size:=E.size;omega) ?_;intro v3 L e2 Z f8;refine u.out _ _ ?_;clear u K;try simp only [pS]
 refine pV 16 ?_;refine dV ?_;have h1:g<w.heap.size:=zj h;have g3:w.heap.size<=w1.heap.size:=O.o.size;have g4:w1.heap.size<=D.heap.size:=E.size;have a4:D.heap.size<=L.heap.size:=Z.size;have a9:L.heap[g]?=some (.cells Ga 34 (0,0)):=qq (zg (show w1.drew.heap[_]?=_ from R.o) E (zj R.o)) Z (by simp [Value.ownBlock];omega);have e3:L.ownsRow w.heap.size 5 1 v3 8 (zE [84,78,77,49,0,1,1,1]):=e2;have d3:zd w D:=B_call O.o (uH E);have d4:zd w L:=vp d3 c5 Z;have g6:=xV (Value.string (zb [107])) 1 a9;have c7:=hid d4;have U:=hid e3;have d0:=hid a9;have a4:w.heap.size<=L.heap.size:=by omega
 clear a3 E d7 c5 e2 Z f8 a9 e3 d3 d4 f5 d1 R O g3 g4;go_upto_region 7 with (show wpList _ _ _ (⟨some 43,_,_,_,_,_⟩::_) _ _;refine wpList_plain rfl fun K u=>zbe (.tmp 37) (.tmp 42) rfl v3 8 [84,78,77,49,0,1,1,1] w.heap.size (by rfl) U.o (zb [107]) (by rfl) (by show 8+1<=1000000;omega) a4 fun v4 w4 e4 a0=>u _ _ ?_);have b9:w4.heap[g]?=some (.cells Ga 34 (0,0)):=qq d0.o a0 (fun e=>by
  have:=zmv U.o e;omega)
 have d5:zd w w4:=vp c7.o U.o a0;have e5:w4.ownsRow w.heap.size 5 1 v4 9 (zE [84,78,77,49,0,1,1,1,107]):=e4;have g7:=xV (Value.string (zb [118])) 2 b9;have g2:(zb [118]).size=1:=rfl;have g5:w.heap.size<=w4.heap.size:=zA a4 a0.size;have c8:=hid d5;have X:=hid e5;have a5:=hid b9;clear b9 d5 e4 e5 a0 g6 a4 U d0 c7;go_upto_region 8 with (show wpList _ _ _ (⟨some 53,_,_,_,_,_⟩::_) _ _;refine wpList_plain rfl fun K u=>Qk (.tmp 44) (.tmp 52) 29 5 1 1 rfl underlying29 QW (by omega) v4 9 (zE [84,78,77,49,0,1,1,1,107]) w.heap.size (by rfl) (zal X.o (B_alloc (zf _ _) _)) (some ⟨w4.heap.size,0,none⟩) 1 1 [.int .u8 1] _ (by rfl) (zJ.ba (zo _ _ rfl) rfl) (by intro f1 z;simp at z;subst z;rfl) (by omega) (by omega) (by simp;omega) fun v5 w5 e7 c3 f9=>u _ _ ?_);have Y:zd w4 (w4.alloc (.cells #[.int .u8 1] 5)):=B_alloc (zf _ _) _;have e6:=zal X.o Y;have c0:w5.heap[g]?=some (.cells Ga 34 (0,0)):=qq (zg a5.o Y (zj a5.o)) c3 (fun e=>by
  have:=zmv X.o e;omega)
 have a7:zd w w5:=vp (B_call c8.o Y) e6 c3;have e8:w5.ownsRow w.heap.size 5 1 v5 10 (zE [84,78,77,49,0,1,1,1,107,1]):=e7;have g8:=xV (Value.string (zb [118])) 2 c0;have f0:w.heap.size<=w5.heap.size:=a7.size;have c9:=hid a7;have a6:=hid e8;have f4:=hid c0;clear Y e6 c0 a7 e7 e8 c3 f9 g7 g5 X a5 c8;go_upto_region 4 with (show wpList _ _ _ (⟨some 60,_,_,_,_,_⟩::_) _ _;refine wpList_plain rfl fun K u=>zbe (.tmp 54) (.tmp 59) rfl v5 10 [84,78,77,49,0,1,1,1,107,1] w.heap.size (by rfl) a6.o (zb [118]) (by rfl) (by show 10+1<=1000000;omega) f0 fun v6 w6 e9 e0=>u _ _ ?_);have a8:zd w w6:=vp c9.o a6.o e0;have c6:w6.ownsRow w.heap.size 5 1 v6 11 (zE [84,78,77,49,0,1,1,1,107,1,118]):=e9;have h3:w.heap.size<=w6.heap.size:=a8.size;have c2:=zkF v6 [84,78,77,49,0,1,1,1,107,1,118] w6 (zi.aj rfl c6) (by simp);have d8:Zr [84,78,77,49,0,1,1,1,107,1,118]=4015440659:=by kernel_rfl
 rw [d8] at c2;have f2:=hid a8;have d2:=hid c6;have f3:=hid c2;clear a8 e9 c6 e0 g8 f0 a6 f4 c9 c2 d8 g2;go_upto_region 9 with fail;rw [rounds_succ];go_upto_region 10 with ((with_reducible refine aV 40 f3.o ?_);rintro g9 w7 ⟨rfl,rfl⟩);go_wp2_with (first|(show wpList _ _ _ (⟨some 65,_,_,_,_,_⟩::_) _ _;refine jH rfl _ _ (zas .shr 108 110 (.tmp 64) (.const (.int .u64 24)) rfl (.int .u32 4015440659) (.int .u64 24) (.int .u32 239) (by rfl) (by rfl) (by kernel_rfl) (by kernel_rfl)) ?_)|(show wpList _ _ _ (⟨some 68,_,_,_,_,_⟩::_) _ _;refine jH rfl _ _ (zas .shr 108 110 (.tmp 67) (.const (.int .u64 16)) rfl (.int .u32 4015440659) (.int .u64 16) (.int .u32 61270) (by rfl) (by rfl) (by kernel_rfl) (by kernel_rfl)) ?_)|(show wpList _ _ _ (⟨some 71,_,_,_,_,_⟩::_) _ _;refine jH rfl _ _ (zas .shr 108 110 (.tmp 70) (.const (.int .u64 8)) rfl (.int .u32 4015440659) (.int .u64 8) (.int .u32 15685315) (by rfl) (by rfl) (by kernel_rfl) (by kernel_rfl)) ?_)|(show wpList _ _ _ (⟨some 66,_,_,_,_,_⟩::_) _ _;refine wpList_plain rfl fun K u=>ZQ 108 5 (.tmp 65) rfl (.int .u32 239) (.int .u8 239) (by rfl) (by kernel_rfl) (u _ _ ?_))|(show wpList _ _ _ (⟨some 69,_,_,_,_,_⟩::_) _ _;refine wpList_plain rfl fun K u=>ZQ 108 5 (.tmp 68) rfl (.int .u32 61270) (.int .u8 86) (by rfl) (by kernel_rfl) (u _ _ ?_))|(show wpList _ _ _ (⟨some 72,_,_,_,_,_⟩::_) _ _;refine wpList_plain rfl fun K u=>ZQ 108 5 (.tmp 71) rfl (.int .u32 15685315) (.int .u8 195) (by rfl) (by kernel_rfl) (u _ _ ?_))|(show wpList _ _ _ (⟨some 74,_,_,_,_,_⟩::_) _ _;refine wpList_plain rfl fun K u=>ZQ 108 5 (.tmp 73) rfl (.int .u32 4015440659) (.int .u8 19) (by rfl) (by kernel_rfl) (u _ _ ?_))|(show wpList _ _ _ (⟨some 75,_,_,_,_,_⟩::_) _ _;refine jH rfl _ _ (zjP 29 4 #[(0,.tmp 66),(1,.tmp 69),(2,.tmp 72),(3,.tmp 74)] rfl #[(0,.int .u8 239),(1,.int .u8 86),(2,.int .u8 195),(3,.int .u8 19)] (by kernel_rfl) (zkN _)) ?_)|(show wpList _ _ _ (⟨some 76,_,_,_,_,_⟩::_) _ _;refine wpList_plain rfl fun K u=>Qk (.tmp 63) (.tmp 75) 29 5 1 1 rfl underlying29 QW (by omega) v6 11 (zE [84,78,77,49,0,1,1,1,107,1,118]) w.heap.size (by rfl) (zal d2.o (B_alloc (zf _ _) _)) (some ⟨w7.heap.size,0,none⟩) 4 4 [.int .u8 239,.int .u8 86,.int .u8 195,.int .u8 19] _ (by rfl) (zJ.ba (zo _ _ rfl) rfl) (by intro f1 z;simp at z;rcases z with rfl | rfl | rfl | rfl<;>rfl) (by omega) (by omega) (by simp;omega) fun v8 w8 f7 f6 h2=>u _ _ ?_));go_ret;have d6:zd w7 (w7.alloc (.cells #[.int .u8 239,.int .u8 86,.int .u8 195,.int .u8 19] 5)):=B_alloc (zf _ _) _;refine ⟨v8,rfl,?_,vp (B_call f2.o d6) (zal d2.o d6) f6⟩;have g0:jG [JQ]=[84,78,77,49,0,1,1,1,107,1,118,239,86,195,19]:=by kernel_rfl
 rw [g0];exact f7
end
section
variable {bz:Nat->Prop}
section
variable {H D r boots ct G:Nat} {ep nx hd tn:Int} {its:List It} {w:World}
end
end
section
variable {bz:Nat->Prop}
end
section
variable {bz:Nat->Prop}
theorem zns:∀ i:Nat,i<64->bits .and .i64 (i:Int) 3=((i % 4:Nat):Int):=by decide
end
section
variable {bz:Nat->Prop}
end
section
variable {bz:Nat->Prop}
theorem zpJ (s:St) (txn t:Nat) (k:List UInt8):((s.cq txn t k).2:Int)≠10:=by
 unfold St.cq;split
 ·simp
 ·unfold zre;split<;>simp
end
section
variable {bz:Nat->Prop}
end
section
variable {bz:Nat->Prop}
section
variable {H D r boots ct G:Nat} {ep nx hd tn:Int} {its:List It} {w:World}
end
end
end Go.Proofs.YtechnoogjhohfaaGreat
