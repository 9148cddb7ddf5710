import Derived.Test.YtechnoogjhohfaaGreatS26
import Derived.Test.YtechnoogjhohfaaGreatS8
import Derived.Test.YtechnoogjhohfaaGreatS9
import Derived.Defers
set_option maxRecDepth 100000
set_option maxHeartbeats 6400000
set_option linter.unusedVariables false
set_option linter.unusedSimpArgs false
namespace Go.Proofs.YtechnoogjhohfaaGreat
open Go.RowKit Go.Lib
open YtechnoogjhohfaaGreatW Go.Proofs.Tryz Go.Proofs.YtechnoogjhohfaaGreat.Tryz
section
variable {bz:Nat->Prop}
theorem zbc (H D r p e boots:Nat) (c:Nat->T5) (u:FrameMode) (w:World) (O:r<4) (E:w.heap[p]?=some (.cells #[.pointer (some ⟨H,1+r*5,none⟩)] 76 (0,0))) (z:w.heap[e]?=some (.cells #[.int .i64 0] 28 (0,0))) (h:w.heap[H]?=some (.cells (hC D c boots) 73 (0,0))) (hd:(c r).d=.bool false) :
  CallsD prog 41 #[.pointer (some ⟨e,0,none⟩),.pointer (some ⟨p,0,none⟩)] u w fun L X w'=>X=u/\(L=.returned (.tuple #[])/\w'=w.setCell ⟨H,1+r*5+4,none⟩ (.bool false)):=by
 have U:=ze w p 0 _ _ _ E;have R:=ze w e 0 _ _ _ z;have Y:=xV _ (1+r*5+4) h (Gl D c boots r O).2.2.2.2;have Z:w.frozen? ⟨H,1+r*5+4,none⟩=false:=zI w _ _ _ _ h;simp only [List.getElem?_toArray,List.getElem?_cons_zero] at U R;clear E z h;go_enter_d func41,ntmps41;go_wp2;go_end0;exact ⟨rfl,rfl⟩
theorem zow (D:Nat) (c:Nat->T5) (b r:Nat) (u:r<4) (h:(c r).d=.bool false):(hC D c b).setIfInBounds (1+r*5+4) (.bool false)=hC D c b:=by
 rw [<- h];obtain rfl | rfl | rfl | rfl:r=0∨r=1∨r=2∨r=3:=by omega
 all_goals rfl
end
section
variable {bz:Nat->Prop}
structure zdG where
 J:Nat
 bank:Nat
 rs:List zQ
 dp:Nat->Pg
structure Km (cr:Nat->List UInt8) (r:Nat) (o:zdG):Prop where
 on:yW cr o.J o.bank (zq o.rs)
 ok:∀ x,x∈o.rs->x.ok
 cm:o.bank<=1
 g0:0<o.J
 i2:o.J+1<4294967296
 di:(zq o.rs).length+(yP o.rs 1+yP o.rs 2+yP o.rs 3)<=14336
 ne:0<o.rs.length
 fa:∀ n,n<6->Qu cr r n (o.dp n)
 cx:∀ n,(o.dp n).ok
 h8:∀ i,(lsr o.rs i).l.length<=8
structure KF (r:Nat) (o:zdG) (boots:Nat) (t t':Tn):Prop where
 st:t'.st=t.st
 ct:t'.ct=t.ct
 cg:t.st=0->t'.ad=none
 ad:t.st=1->∃ l nb1 nb2 Ts nb3,t'.ad=some l/\l.s=(yn r o.J o.bank o.rs o.dp nb1 nb2 Ts nb3).a1/\l.ep=((Za t.ct boots:Nat):Int)/\l.nx=0/\l.hs=[]/\qe l.s.N/\l.s.N.length<=62
structure Zm (w W:World):Prop where
 os:W.os=w.os
 tape:W.tape=w.tape
 output:W.output=w.output
 size:w.heap.size<=W.heap.size
theorem Zm.trans {a b c:World} (h:Zm a b) (k:Zm b c):Zm a c:=⟨k.os.trans h.os,k.tape.trans h.tape,k.output.trans h.output,zz h.size k.size⟩
theorem Zm.ak {n:Nat} {a b:World} (h:Below n a b):Zm a b:=⟨h.os,h.tape,h.output,h.size⟩
theorem Zm.f1 {M:Nat->Prop} {a b:World} (h:zA M a b):Zm a b:=⟨h.os,h.tape,h.output,h.size⟩
theorem Zm.ay {a b:World} (h:Zm a.drew b):Zm a b:=⟨h.os,h.tape,h.output,h.size⟩
theorem zlA {W:World} {H D r boots:Nat} {c:Nat->T5} (h:W.heap[H]?=some (.cells (hC D c boots) 73 (0,0))) (E:r<4):W.rangeAt H (1+r*5+2) [(c r).s,(c r).c]:=by
 intro n v z;have L:n<2:=(zr.1 z).1;have u:=Gl D c boots r E;rw [ze W H _ _ _ _ h,<- z];obtain rfl | rfl:n=0∨n=1:=by omega
 ·exact u.2.2.1
 ·exact u.2.2.2.1
theorem GR {cur:Nat->Nat->List UInt8} {r u ct i q:Nat} (z:u<=1) (h:i≠r∨q=0):uW cur r u ct i q=cur i q:=by
 unfold uW;split
 ·rfl
 ·rw [if_neg (by omega)];unfold yR;rcases h with h | h
  ·rw [zy _ _ h]
  ·by_cases e:i=r
   ·subst e;rw [zk,if_neg (by omega)]
   ·rw [zy _ _ e]
theorem znJ (H D r:Nat) (F:Nat->Prop) (cur:Nat->Nat->List UInt8) (c:Nat->T5) (ts:Nat->Tn) (boots:Nat) (o:zdG) (w:World) (h:qs bz w H D F cur c ts boots r) (hr:r<4) (y0:boots<1000000) (ho:(ts r).st=1->Km (cur r) r o) :
  zc 25 #[.pointer (some ⟨H,0,none⟩),.int .i64 r] w fun e W=>e=.returned (.tuple #[])/\zv bz w W/\∃ F' cur' c' t,qs bz W H D F' cur' c' (vt ts F' r t) boots (r+1)/\(∀ i q,i≠r->cur' i q=cur i q)/\KF r o boots (ts r) t:=by
 have z6:∀ (fn:Fn) (first cap:Array Value) (w:World),(Instr.makeFunc fn first cap).run prog w=.ok (.func fn first cap) w:=fun _ _ _ _=>rfl;have A1:(0:Int)<=(r:Int):=by omega
 have A2:(r:Int)<4:=by omega
 have z8:decide ((r:Int)<0)=false:=by simp
 have z9:decide ((4:Int)<=(r:Int))=false:=by simp;omega
 obtain ⟨X,h1⟩:=ex ((ts r).st);obtain ⟨ct,k9⟩:=ex ((ts r).ct);have g2:=h.ee r hr;have l0:=h.c4 r hr;rw [<- h1,<- k9] at g2 l0;rw [<- h1] at ho;obtain ⟨w1,s3⟩:=ex (w.alloc (.cells #[.pointer (some ⟨H,1+r*5,none⟩)] 76));obtain ⟨U,HO,f0,i1,i5,f1⟩:=zi6 h ho h1 k9 l0 s3;clear h ho h1 k9 l0 s3;go_enter_defers func25,ntmps25;go_upto_region 1 with fail;rw [<- f1.o];have k7:zd w w1:=by rw [f1.o];exact B_alloc (zf _ _) _
 have k1:w1.heap[w.heap.size]?=some (.cells #[.pointer (some ⟨H,1+r*5,none⟩)] 76 (0,0)):=by rw [f1.o];exact zo _ _ rfl
 have o7:=zg U.o.U k7 (zi U.o.U);have kp:=ze w1 w.heap.size 0 _ _ _ k1;simp only [List.getElem?_toArray,List.getElem?_cons_zero] at kp;have o0:=zhk D c boots r hr ⟨.pointer none,.pointer none,.int .i64 0,.int .u64 0,.bool false⟩;obtain ⟨l7,v9,m4,t2⟩:=zi4 k7 k1 o7 o0;clear k7 k1 o7 o0;go_upto_region 2 with (show wpList _ _ _ (⟨none,.store 70 (.tmp 13) _,_,_,_,_⟩::_) _ _;refine yL rfl 70 (.tmp 13) (.tmp 12) rfl H (1+r*5) 73 _ #[.pointer none,.pointer none,.int .i64 0,.int .u64 0,.bool false] (by rfl) (by rfl) m4.o (by rw [Kz];simp;omega) (by kernel_rfl) (by simp [Value.oneCell']) ?_);rw [show ((#[Value.pointer none,.pointer none,.int .i64 0,.int .u64 0,.bool false]:Array Value).size)=5 from rfl,t2.o];obtain ⟨c2,g3⟩:=ex (zZ c r ⟨.pointer none,.pointer none,.int .i64 0,.int .u64 0,.bool false⟩);rw [<- g3];have q6:c2 r=⟨.pointer none,.pointer none,.int .i64 0,.int .u64 0,.bool false⟩:=by rw [g3,zk]
 have q5:∀ Y t,zZ c2 r t=Y->zZ c r t=Y:=fun Y t e=>by rw [<- e,g3];funext i;by_cases e:i=r<;>simp [zZ,e]
 obtain ⟨l9,t5⟩:=zi2 q5 q6;clear g3 q6 q5;obtain ⟨O,d4⟩:=ex (w1.setRow H (hC D c2 boots));rw [<- d4];have e3:O.heap[H]?=some (.cells (hC D c2 boots) 73 (0,0)):=by rw [d4];exact setRow_heap w1 H _ _ 73 _ m4.o
 have i9:∀ x,x≠H->O.heap[x]?=w1.heap[x]?:=fun x u=>by rw [d4];exact setRow_other w1 H x _ u
 have s4:O.heap.size=w1.heap.size:=by rw [d4];simp
 have r4:Zm w1 O:=by rw [d4];exact ⟨rfl,rfl,rfl,by simp⟩
 have v5:=hid r4;clear r4;have k6:w.heap.size≠H:=by have:=zi U.o.U;omega
 have k2:=(i9 _ k6).trans v9.o;obtain ⟨w3,h2⟩:=ex (O.alloc (.cells #[.int .i64 0] 28));have g0:zd O w3:=by rw [h2];exact B_alloc (zf _ _) _
 have o3:w3.heap[O.heap.size]?=some (.cells #[.int .i64 0] 28 (0,0)):=by rw [h2];exact zo _ _ rfl
 have o9:=zg e3 g0 (zi e3);have p5:=zg k2 g0 (zi k2);obtain ⟨s7,x4,l8,m3,i4,i6,i7,m8⟩:=zi8 i9 s4 g0 o3 o9 p5 k6 h2;clear d4 e3 i9 s4 k2 g0 o3 o9 p5 k6 h2 kp;go_upto_region 4 with fail;rw [<- m8.o];have l1:w.heap.size+2<=w3.heap.size/\O.heap.size=w.heap.size+1:=by
  have n1:w1.heap.size=w.heap.size+1:=by rw [f1.o];simp
  have n2:=x4.o;have n3:w3.heap.size=O.heap.size+1:=by rw [m8.o];simp
  omega
 have i8:∀ x,x<w.heap.size->x≠H->w3.heap[x]?=w.heap[x]?:=fun x u hn=>by have n1:=l7.o.block x u;have n2:=s7.o x hn;have n3:=l8.o.block x (by omega);rw [n3,n2,n1]
 have o6:∀ x,F x->x≠H:=fun x u e=>by have:=U.o.ar.ah u;rw [e,zh U.o.U] at this;simp at this
 have j4:jk w3 D F cur:=zK.same U.o.ar (fun x u=>i8 x (U.o.ar.lt x u) (o6 x u)) (by omega);have g9:=zcY D F cur r X ct w3.drew j4.drew hr i5.o (by omega) (by omega);rw [show zkH X=X by unfold zkH;rw [if_neg (by omega)]] at g9;unfold zdZ at g9;obtain ⟨w2,t6,s6,c5⟩:=zi4 g9 j4 i8 l1;clear g9 j4 i8 o6 l1;have a7:∀ {x t:Nat} {C:Array Value},w3.heap[x]?=some (.cells C t (0,0))->t ∉ [81,118,86,120]->¬ F x:=fun u ht hf=>ht (by have:=t6.o.ah hf;rw [zh u] at this;exact this);refine sV [12,13] 14 (fun w'=>jJ w' w.heap.size #[.pointer (some ⟨H,1+r*5,none⟩)] 76/\jJ w' H (hC D c2 boots) 73) ⟨i6.o,i4.o⟩ fun Z=>?_;refine cV 0 (fun _ h=>xV (Value.pointer (some ⟨H,1+r*5,none⟩)) 0 h.1) ?_;refine pV 1 ?_;refine pV 2 ?_;refine pV 3 ?_;refine cV 4 (fun _ h=>xV _ 0 h.2 (zdk D c2 boots)) ?_;refine pV 5 ?_;refine oC 6 w2.o ?_;rintro z2 w4 ⟨rfl,F4,f7,c6,r1⟩;have k3:=qK (show w3.drew.heap[_]?=_ from i6.o) c6 (a7 i6.o (by decide));have e4:=qK (show w3.drew.heap[_]?=_ from i4.o) c6 (a7 i4.o (by decide));have f8:=qK (show w3.drew.heap[_]?=_ from m3.o) c6 (a7 m3.o (by decide));refine eV ⟨k3,e4⟩ fun Z=>?_;refine pV 7 ?_;refine pV 8 ?_;refine pV 9 ?_;refine pV 10 ?_;refine pV 11 ?_;refine lV 12 fun K hK=>?_;refine vV 68 (.tmp 26) (.tmp 23) rfl H (1+r*5+2) 73 _ #[.int .i64 X,.int .u64 ct] (by rfl) (by rfl) e4 (by rw [Kz];simp;omega) (by kernel_rfl) (by simp [Value.oneCell']) ?_;refine hK.out _ _ ?_;clear hK K;try simp only [pS]
 refine lV 13 fun K hK=>?_;have a5:O.heap.size≠H:=by have:=zi U.o.U;have:=c5.o;omega
 refine jz 28 (.tmp 5) (.tmp 24) rfl O.heap.size 0 _ 28 (.int .i64 0) (by rfl) (by rfl) (by kernel_rfl) ((setRow_other w4 H O.heap.size _ a5).trans f8) (by simp) rfl ?_;refine hK.out _ _ ?_;clear hK K;try simp only [pS]
 refine dV ?_;have k0:=zoP D c2 boots r hr (.int .i64 X) (.int .u64 ct);obtain ⟨Y,g4⟩:=ex (zZ c r ⟨.pointer none,.pointer none,.int .i64 X,.int .u64 ct,.bool false⟩);have q4:zZ c2 r { c2 r with s:=.int .i64 X,c:=.int .u64 ct }=Y:=by have L:=l9.o Y ⟨.pointer none,.pointer none,.int .i64 X,.int .u64 ct,.bool false⟩;rw [t5.o];refine Eq.trans ?_ g4.symm;exact (l9.o _ _ rfl).symm
 rw [q4] at k0;obtain ⟨w5,d5⟩:=ex (w4.setRow H (hC D Y boots));rw [show ((#[Value.int .i64 X,Value.int .u64 ct]:Array Value).size)=2 from rfl,k0,<- d5];obtain ⟨E,d6⟩:=ex (w5.setCell ⟨O.heap.size,0,none⟩ (.int .i64 0));rw [<- d6];have a5:O.heap.size≠H:=by have:=zi U.o.U;have:=c5.o;omega
 have j7:w.heap.size≠O.heap.size:=by have:=c5.o;omega
 have f3:∀ x,x≠H->w5.heap[x]?=w4.heap[x]?:=fun x u=>by rw [d5];exact setRow_other w4 H x _ u
 have f4:∀ x,x≠O.heap.size->E.heap[x]?=w5.heap[x]?:=fun x u=>by rw [d6];exact zt _ _ _ _ u
 have j8:E.heap[H]?=some (.cells (hC D Y boots) 73 (0,0)):=(f4 H (Ne.symm a5)).trans (by rw [d5];exact setRow_heap w4 H _ _ 73 _ e4);have k4:E.heap[w.heap.size]?=some (.cells #[.pointer (some ⟨H,1+r*5,none⟩)] 76 (0,0)):=((f4 _ j7).trans (f3 _ i7.o)).trans k3;have j5:E.heap[O.heap.size]?=some (.cells #[.int .i64 0] 28 (0,0)):=by rw [d6,zB _ _ 0 _ _ _ ((f3 _ a5).trans f8)];rfl
 have y6:E.heap.size=w4.heap.size:=by rw [d6,d5];simp
 have r6:Zm w4 E:=by rw [d6,d5];exact ⟨rfl,rfl,rfl,by simp⟩
 have r5:Zm w3 w4:=Zm.ay (Zm.f1 c6);have r7:Zm w E:=((Zm.ak l7.o).trans (v5.o.trans (Zm.ak l8.o))).trans (r5.trans r6);have v6:=hid r7;clear r6 r5 r7;have y5:w3.heap.size<=w4.heap.size:=c6.size;have j2:∀ x,x≠H->x≠O.heap.size->E.heap[x]?=w4.heap[x]?:=fun x L z=>(f4 x z).trans (f3 x L);have n5:∀ x,x<w.heap.size->x≠H->¬ F x->E.heap[x]?=w.heap[x]?:=fun x L z R=>by have z7:=c5.o;rw [j2 x z (by omega),show w4.heap[x]?=w3.heap[x]? from c6.block x (show x<w3.heap.size by omega) R];exact s6.o x L z
 have e2:jk E D F4 (uW cur r X ct):=zK.same f7 (fun x u=>j2 x (fun e=>by
  have:=f7.ah u;rw [e,zh e4] at this;simp at this) (fun e=>by
  have:=f7.ah u;rw [e,zh f8] at this;simp at this)) (by omega)
 have p2:qN w F F4:=fun x u=>(r1 x u).imp id fun h9=>by have z4:w3.heap.size<=x:=h9;have:=c5.o;omega
 have h3:w.heap.size+2<=E.heap.size:=by have:=c5.o;omega
 obtain ⟨a8,e8,e1,h6,c8,m7,m9,m0,i3⟩:=zi9 j8 k4 j5 n5 e2 p2 h3 g4 a5;have t9:=hid j7;have y8:=xV (Value.pointer (some ⟨H,1+r*5,none⟩)) 0 k4;have y7:=xV (Value.int .i64 0) 0 j5;have k8:Y r=⟨.pointer none,.pointer none,.int .i64 X,.int .u64 ct,.bool false⟩:=by rw [g4,zk]
 have l5:=xV _ (1+r*5+2) j8 (Gl D Y boots r hr).2.2.1;rw [k8] at l5;simp only at l5;have i0:=hid k8;clear k0 g4 q4 d5 d6 a5 j7 f3 f4 j8 k4 j5 y6 y5 j2 n5 e2 p2 h3 k8 Z k3 e4 f8 c6 r1 f7 a7;have a9:∀ x,w.heap.size<=x->¬ bz x:=fun x u=>U.o.ej u;have p9:∀ x,F4 x->¬ bz x:=fun x u=>(m7.o x u).elim (U.o.base.2.1 x) (fun h9=>a9 x h9);obtain ⟨t1,h8⟩:=zi2 a9 p9;have p1:∀ W:World,Zm E W->(∀ x,x≠H->x<w.heap.size->¬ F x->W.heap[x]?=w.heap[x]?)->zv bz w W:=fun W y2 hW=>by
  have ho:=v6.o.trans y2;refine ⟨fun x t C ht u=>?_,ho.os,ho.tape,ho.output,ho.size,fun x L z=>hW x (fun e=>U.o.base.1 (e ▸ L)) z (fun hf=>U.o.base.2.1 x hf L)⟩;have L:=zh u;refine (hW x (fun e=>?_) (zi u) (fun hf=>?_)).trans u
  ·rw [e,zh U.o.U] at L;subst L;exact ht (by decide)
  ·have z:=U.o.ar.ah hf;rw [L] at z;simp only [zO,qZ,or_false] at z ht;omega
 have m6:=hid p1;clear p1 a9 p9;by_cases e5:X=1
 ·have a4:=hid (HO.o e5);have c3:=hid e5;have y4:((X:Int) == 1)=true:=by simp;omega
  clear e5;go_upto_region 6 with fail;have q7:uW cur r X ct=cur:=by unfold uW;rw [if_pos c3.o]
  have e2:jk E.drew D F4 cur:=by have:=c8.o.drew;rw [q7] at this;exact this
  have r9:=zkO D r o.J o.bank o.rs o.dp F4 cur E.drew e2 hr a4.o.on a4.o.ok a4.o.cm a4.o.g0 a4.o.i2 a4.o.di a4.o.ne a4.o.fa a4.o.cx a4.o.h8;have w6:=hid r9;clear q7 e2 r9 y8 y7 l5;have a7:∀ {x t:Nat} {C:Array Value},E.heap[x]?=some (.cells C t (0,0))->t ∉ [81,118,86,120]->¬ F4 x:=fun u ht hf=>ht (by have:=c8.o.ah hf;rw [zh u] at this;exact this);refine sV [12,13] 14 (fun w'=>jJ w' w.heap.size #[.pointer (some ⟨H,1+r*5,none⟩)] 76/\jJ w' H (hC D Y boots) 73) ⟨e8.o,a8.o⟩ fun Z=>?_;refine cV 0 (fun _ h=>xV (Value.pointer (some ⟨H,1+r*5,none⟩)) 0 h.1) ?_;refine pV 1 ?_;refine pV 2 ?_;refine pV 3 ?_;refine cV 4 (fun _ h=>xV _ 0 h.2 (zdk D Y boots)) ?_;refine pV 5 ?_;refine oC 6 w6.o ?_;rintro z3 w7 ⟨a,b,n0,nb1,nb2,Ts,nb3,rfl,p7,p8,n9,d2,s0,r0⟩;have k5:=qK (show E.drew.heap[_]?=_ from e8.o) d2.ac (a7 e8.o (by decide));have d1:=qK (show E.drew.heap[_]?=_ from a8.o) d2.ac (a7 a8.o (by decide));have j6:=qK (show E.drew.heap[_]?=_ from e1.o) d2.ac (a7 e1.o (by decide));refine eV ⟨k5,d1⟩ fun Z=>?_;refine pV 7 ?_;refine pV 8 ?_;refine pV 9 ?_;refine pV 10 ?_;refine pV 11 ?_;refine lV 12 fun K hK=>?_;refine jz 65 (.tmp 48) (.tmp 45) rfl H (1+r*5) _ 73 (.pointer (some ⟨a.S,0,none⟩)) (by rfl) (by rfl) (by kernel_rfl) d1 (by rw [Kz];omega) rfl ?_;refine hK.out _ _ ?_;clear hK K;try simp only [pS]
  refine lV 13 fun K hK=>?_;refine jz 28 (.tmp 5) (.tmp 46) rfl O.heap.size 0 _ 28 (.int .i64 0) (by rfl) (by rfl) (by kernel_rfl) ((zt _ _ _ _ i3.o).trans j6) (by simp) rfl ?_;refine hK.out _ _ ?_;clear hK K;try simp only [pS]
  refine dV ?_;obtain ⟨c4,g5⟩:=ex (zZ c r ⟨.pointer (some ⟨a.S,0,none⟩),.pointer none,.int .i64 X,.int .u64 ct,.bool false⟩);have q0:zZ Y r { Y r with p:=.pointer (some ⟨a.S,0,none⟩) }=c4:=by rw [i0.o,g5,m0.o];funext i;by_cases e:i=r<;>simp [zZ,e]
  obtain ⟨w8,d7⟩:=ex (w7.setCell ⟨H,1+r*5,none⟩ (.pointer (some ⟨a.S,0,none⟩)));obtain ⟨w9,d8⟩:=ex (w8.setCell ⟨O.heap.size,0,none⟩ (.int .i64 0));rw [<- d7,<- d8];have a5:=i3.o;have l4:w9.heap.size=w7.heap.size:=by rw [d8,d7];simp
  have r8:Zm w7 w9:=by rw [d8,d7];exact ⟨rfl,rfl,rfl,by simp⟩
  have v7:=hid r8;clear r8;have f5:∀ x,x≠H->w8.heap[x]?=w7.heap[x]?:=fun x u=>by rw [d7];exact zt _ _ _ _ u
  have f6:∀ x,x≠O.heap.size->w9.heap[x]?=w8.heap[x]?:=fun x u=>by rw [d8];exact zt _ _ _ _ u
  have p0:w8.heap[H]?=some (.cells (hC D c4 boots) 73 (0,0)):=by rw [d7,zB _ _ (1+r*5) _ _ _ d1,zro D Y boots r hr,q0]
  have j9:w9.heap[H]?=some (.cells (hC D c4 boots) 73 (0,0)):=(f6 H (Ne.symm a5)).trans p0;have p6:w9.heap[w.heap.size]?=some (.cells #[.pointer (some ⟨H,1+r*5,none⟩)] 76 (0,0)):=((f6 _ t9.o).trans (f5 _ i7.o)).trans k5;have o4:w9.heap[O.heap.size]?=some (.cells #[.int .i64 0] 28 (0,0)):=by rw [d8,zB _ _ 0 _ _ _ ((f5 _ a5).trans j6)];rfl
  have n7:∀ x,x≠H->x≠O.heap.size->w9.heap[x]?=w7.heap[x]?:=fun x L z=>(f6 x z).trans (f5 x L);have h5:E.heap.size<=w7.heap.size:=d2.ac.size;have q2:c4 r=⟨.pointer (some ⟨a.S,0,none⟩),.pointer none,.int .i64 X,.int .u64 ct,.bool false⟩:=by rw [g5,zk]
  have q9:=zfH H D X ct boots c4 w9.drew j9 g2.2 y0;obtain ⟨v1,t3,m1,c1,e9,i2,s8,x6,x5⟩:=zi9 q9 g5 q2 j9 p6 o4 n7 l4 h5;have a3:=hid d2;obtain ⟨e0,l6,t0,x0,v2⟩:=zi5 n9 p7 p8 s0 r0;clear g5 q0 d7 d8 a5 l4 f5 f6 p0 j9 p6 o4 n7 h5 q2 q9 k5 d1 j6 d2 n9 p7 p8 s0 r0 Z a7;go_upto_region 7 with fail;refine sV [10] 11 (fun w'=>jJ w' w.heap.size #[.pointer (some ⟨H,1+r*5,none⟩)] 76/\jJ w' H (hC D c4 boots) 73) ⟨e9.o,c1.o⟩ fun Z=>?_;refine cV 0 (fun _ h=>xV (Value.pointer (some ⟨H,1+r*5,none⟩)) 0 h.1) ?_;refine pV 1 ?_;refine cV 2 (fun _ h=>xV (Value.pointer (some ⟨H,1+r*5,none⟩)) 0 h.1) ?_;refine pV 3 ?_;refine pV 4 ?_;refine kV 5 rfl (Or.inl ⟨by rfl,fun _ h=>us 68 (.tmp 53) rfl H (1+r*5+2) (by rfl) [.int .i64 X,.int .u64 ct] _ (by have s5:=zlA h.2 hr;rw [m1.o] at s5;exact s5) underlying68 rfl (by kernel_rfl)⟩) ?_;refine oC 6 v1.o ?_;rintro z0 a1 ⟨rfl,a0⟩;refine eV ⟨zg Z.1 a0 (zi Z.1),zg Z.2 a0 (zi Z.2)⟩ fun Z=>?_;refine oC 7 (Dk.new_any (Za ct boots) a1) ?_;rintro z1 d9 ⟨rfl,q8,a6,l2⟩;refine eV ⟨zg Z.1 a6 (zi Z.1),zg Z.2 a6 (zi Z.2)⟩ fun Z=>?_;refine pV 8 ?_;refine pV 9 ?_;refine lV 10 fun K hK=>?_;have f9:=zg (zg (show w9.drew.heap[H]?=_ from c1.o) a0 (zi c1.o)) a6 (qg (zi c1.o) a0.size);refine jz 66 (.tmp 58) (.tmp 56) rfl H (1+r*5+1) _ 73 (.pointer (some ⟨a1.heap.size+1,0,none⟩)) (by rfl) (by rfl) (by kernel_rfl) f9 (by rw [Kz];omega) rfl ?_;refine hK.out _ _ ?_;clear hK K;try simp only [pS]
  refine dV ?_;have f9:=zg (zg (show w9.drew.heap[H]?=_ from c1.o) a0 (zi c1.o)) a6 (qg (zi c1.o) a0.size);have p3:=zg (zg (show w9.drew.heap[_]?=_ from e9.o) a0 (zi e9.o)) a6 (qg (zi e9.o) a0.size);have o1:=zg (zg (show w9.drew.heap[_]?=_ from i2.o) a0 (zi i2.o)) a6 (qg (zi i2.o) a0.size);have h4:w9.heap.size<=a1.heap.size:=a0.size;have r2:Zm w9 d9:=(Zm.ay (Zm.ak a0)).trans (Zm.ak a6);have v3:=hid r2;clear r2;have n8:∀ x,x<w9.heap.size->d9.heap[x]?=w9.heap[x]?:=fun x u=>(a6.block x (qg u h4)).trans (a0.block x u);obtain ⟨d0,g6⟩:=ex (zZ c r ⟨.pointer (some ⟨a.S,0,none⟩),.pointer (some ⟨a1.heap.size+1,0,none⟩),.int .i64 X,.int .u64 ct,.bool false⟩);have q1:zZ c4 r { c4 r with k:=.pointer (some ⟨a1.heap.size+1,0,none⟩) }=d0:=by rw [m1.o,g6,t3.o];funext i;by_cases e:i=r<;>simp [zZ,e]
  obtain ⟨b9,d3⟩:=ex (d9.setCell ⟨H,1+r*5+1,none⟩ (.pointer (some ⟨a1.heap.size+1,0,none⟩)));rw [<- d3];have o8:b9.heap[H]?=some (.cells (hC D d0 boots) 73 (0,0)):=by rw [d3,zB _ _ (1+r*5+1) _ _ _ f9,zrn D c4 boots r hr,q1]
  have f2:∀ x,x≠H->b9.heap[x]?=d9.heap[x]?:=fun x u=>by rw [d3];exact zt _ _ _ _ u
  have p4:=(f2 _ i7.o).trans p3;have o2:=(f2 _ i3.o).trans o1;have l3:b9.heap.size=d9.heap.size:=by rw [d3];simp
  have r3:Zm d9 b9:=by rw [d3];exact ⟨rfl,rfl,rfl,by simp⟩
  have v4:=hid r3;clear r3;have q3:d0 r=⟨.pointer (some ⟨a.S,0,none⟩),.pointer (some ⟨a1.heap.size+1,0,none⟩),.int .i64 X,.int .u64 ct,.bool false⟩:=by rw [g6,zk]
  obtain ⟨m5,w0,t8,h7,s9,x3,x2,x1,t4⟩:=zi9 o8 p4 o2 f2 n8 l3 l2 h4 g6;obtain ⟨m2,t7⟩:=zi2 q3 q8;clear d3 o8 p4 o2 f2 n8 l3 l2 h4 g6 q3 q8 f9 p3 o1 q1 a0 a6 Z;go_wp2;refine leaves_cons (f:=41) (args:=#[.pointer (some ⟨O.heap.size,0,none⟩),.pointer (some ⟨w.heap.size,0,none⟩)]) (by simp) (by simp [go_sem]) ?_;refine (zbc H D r _ _ boots d0 .returning b9 hr w0.o t8.o m5.o (by rw [m2.o])).mono ?_;rintro x7 u8 c0 ⟨rfl,rfl,rfl⟩;refine ⟨_,results_none rfl _ _ _,rfl,?_⟩;obtain ⟨c0,e6⟩:=ex (b9.setCell ⟨H,1+r*5+4,none⟩ (.bool false));rw [<- e6];have x9:c0.heap[H]?=some (.cells (hC D d0 boots) 73 (0,0)):=by rw [e6,zB _ _ (1+r*5+4) _ _ _ m5.o,zow D d0 boots r hr (by rw [m2.o])]
  have j0:∀ x,x≠H->c0.heap[x]?=b9.heap[x]?:=fun x u=>by rw [e6];exact zt _ _ _ _ u
  have A0:c0.heap.size=b9.heap.size:=by rw [e6];simp
  have h3:=m9.o;have h5:=x5.o;have l4:=x6.o;have h4:=x1.o;have l2:=x2.o;have l3:=x3.o;have l1:=c5.o;have z5:=zi U.o.U;have n6:∀ x,x<w7.heap.size->x≠H->x≠O.heap.size->c0.heap[x]?=w7.heap[x]?:=fun x L z R=>by rw [j0 x z,h7.o x z,s9.o x (by omega),s8.o x z R]
  have o5:∀ x,x<w.heap.size->¬ F x->¬ F4 x:=fun x L z R=>(m7.o x R).elim z (fun j1=>by omega);have n4:∀ x,x≠H->x<w.heap.size->¬ F x->c0.heap[x]?=w.heap[x]?:=fun x L z R=>by rw [n6 x (by omega) L (by omega),show w7.heap[x]?=E.heap[x]? from a3.o.ac.block x (show x<E.heap.size by omega) (o5 x z R)];exact h6.o x z L R
  obtain ⟨l,hl⟩:∃ l:Tl,l=⟨a,b,(yn r o.J o.bank o.rs o.dp nb1 nb2 Ts nb3).a1,a1.heap.size+1,a1.heap.size,((Za ct boots:Nat):Int),0,[]⟩:=⟨_,rfl⟩;have x8:qP w7 O.heap.size=28:=by have L:=qK (show E.drew.heap[_]?=_ from e1.o) a3.o.ac (fun hf=>by have:=c8.o.ah hf;rw [zh e1.o] at this;simp at this);exact zh L
  have e3:qP w7 H=73:=by have L:=qK (show E.drew.heap[_]?=_ from a8.o) a3.o.ac (fun hf=>by have:=c8.o.ah hf;rw [zh a8.o] at this;simp at this);exact zh L
  have s2:zm c0 a b n0 (yn r o.J o.bank o.rs o.dp nb1 nb2 Ts nb3).a1:=e0.o.same (fun x u=>n6 x (e0.o.lt u) (fun e=>e0.o.cc e3 (by decide) (e ▸ u)) (fun e=>e0.o.cc x8 (by decide) (e ▸ u))) (by omega);have y3:Zm E c0:=((Zm.ay (Zm.f1 a3.o.ac)).trans (v7.o.trans v3.o)).trans (v4.o.trans (by rw [e6];exact ⟨rfl,rfl,rfl,by simp⟩));have a9:=t1.o;refine ⟨m6.o _ y3 n4,b.F,n0,zZ c r (Tn.t5 ⟨1,ct,some l⟩),⟨1,ct,some l⟩,?_,fun i q hi=>?_,?_⟩
  ·refine qs.step U.o ⟨1,ct,some l⟩ hr (fun i hi g7=>by omega) ?_ ?_ ?_ ⟨za _,g2.2⟩ ?_ (fun e=>by cases e) ?_ ?_ (by omega) ?_ (fun x u=>?_) ?_
   ·rw [x9,t4.o,c3.o,hl];rfl
   ·have:=s2.sto.ar;rw [l6.o] at this;exact this
   ·rw [a3.o.out r 0 (.inr rfl),i5.o,c3.o]
   ·intro l' e;injection e with e;subst e;refine ⟨?_,rfl⟩;rw [hl];refine ⟨s2,l6.o,t0.o,rfl,?_,?_⟩
    ·exact Dk.DeskAt.same t7.o ((j0 _ (by simp only;omega)).trans (h7.o _ (by simp only;omega))) ((j0 _ (by simp only;omega)).trans (h7.o _ (by simp only;omega)))
    ·intro u;have:=e0.o.lt u;simp only at this;omega
   ·intro i l' x hi g7 c7 u;obtain ⟨z,_⟩:=U.o.ad i l' hi c7;exact n4 x (qs.d4 U.o hi c7 (.inl u)) (z.ah x u).2 (z.da u)
   ·intro i q hi;exact a3.o.out i q (.inl hi)
   ·intro l' x e u i y9 hi g7 c7 hy;injection e with e;subst e;obtain ⟨z,_⟩:=U.o.ad i y9 (by omega) c7;have y1:=(z.ah x hy).2;rw [hl] at u;rcases u with u | u | u
    ·rcases a3.o.new x (.inl u) with R | R
     ·exact o5 x y1 (z.da hy) R
     ·have j1:E.heap.size<=x:=R;omega
    ·have h9:x=a1.heap.size+1:=u;omega
    ·have h9:x=a1.heap.size:=u;omega
   ·rcases a3.o.new x (.inr u) with R | R
    ·exact h8.o x R
    ·have j1:E.heap.size<=x:=R;exact a9 x (by omega)
   ·intro l' x e u;injection e with e;subst e;rw [hl] at u;rcases u with u | u | u
    ·rcases a3.o.new x (.inl u) with R | R
     ·exact h8.o x R
     ·have j1:E.heap.size<=x:=R;exact a9 x (by omega)
    ·have h9:x=a1.heap.size+1:=u;exact a9 x (by omega)
    ·have h9:x=a1.heap.size:=u;exact a9 x (by omega)
  ·exact a3.o.out i q (.inl hi)
  ·exact ⟨by rw [<- f0.o,c3.o],i1.o,fun e=>by rw [<- f0.o,c3.o] at e;omega,fun _=>⟨l,nb1,nb2,Ts,nb3,rfl,by rw [hl],by rw [hl,i1.o],by rw [hl],by rw [hl],by rw [hl];exact x0.o,by rw [hl];exact v2.o⟩⟩
 ·have c3:=hid e5;have y4:((X:Int) == 1)=false:=by simp;omega
  clear e5;have g8:X=0:=by have:=c3.o;omega
  go_wp2;refine leaves_cons (f:=41) (args:=#[.pointer (some ⟨O.heap.size,0,none⟩),.pointer (some ⟨w.heap.size,0,none⟩)]) (by simp) (by simp [go_sem]) ?_;refine (zbc H D r _ _ boots Y .returning E hr e8.o e1.o a8.o (by rw [i0.o])).mono ?_;rintro x7 u8 w7 ⟨rfl,rfl,rfl⟩;refine ⟨_,results_none rfl _ _ _,rfl,?_⟩;obtain ⟨w7,e7⟩:=ex (E.setCell ⟨H,1+r*5+4,none⟩ (.bool false));rw [<- e7];have d1:w7.heap[H]?=some (.cells (hC D Y boots) 73 (0,0)):=by rw [e7,zB _ _ (1+r*5+4) _ _ _ a8.o,zow D Y boots r hr (by rw [i0.o])]
  have j3:∀ x,x≠H->w7.heap[x]?=E.heap[x]?:=fun x u=>by rw [e7];exact zt _ _ _ _ u
  have h5:w7.heap.size=E.heap.size:=by rw [e7];simp
  have h3:=m9.o;refine ⟨m6.o _ (by rw [e7];exact ⟨rfl,rfl,rfl,by simp⟩) fun x L z R=>(j3 x L).trans (h6.o x z L R),F4,uW cur r X ct,zZ c r (Tn.t5 ⟨0,ct,none⟩),⟨0,ct,none⟩,?_,fun i q hi=>GR (by omega) (.inl hi),?_⟩
  ·refine qs.step U.o ⟨0,ct,none⟩ hr (fun i hi g7=>by omega) ?_ ?_ ?_ ⟨by simp,g2.2⟩ (fun l' e=>by cases e) (fun _=>⟨rfl,fun q L z=>?_⟩) ?_ (fun i q hi=>GR (by omega) (.inl hi)) (by omega) (fun l' x e=>by cases e) h8.o (fun l' x e=>by cases e)
   ·rw [d1,m0.o,g8];rfl
   ·exact zK.same c8.o (fun x u=>j3 x (fun e=>by
     have:=c8.o.ah u;rw [e,zh a8.o] at this;simp at this)) (by omega)
   ·rw [GR (by omega) (.inr rfl),i5.o,g8]
   ·unfold uW yR;rw [g8,if_neg (by omega),if_neg (by omega),zk,if_pos ⟨L,z⟩]
   ·intro i l' x hi g7 c7 u;obtain ⟨z,_⟩:=U.o.ad i l' hi c7;have R:=qs.d4 U.o hi c7 (.inl u);exact (j3 x R).trans (h6.o x (z.ah x u).2 R (z.da u))
  ·exact ⟨by rw [<- f0.o,g8],i1.o,fun _=>rfl,fun e=>by rw [<- f0.o] at e;omega⟩
end
section
variable {bz:Nat->Prop}
theorem qs.at {w:World} {H D:Nat} {F:Nat->Prop} {cur:Nat->Nat->List UInt8} {c:Nat->T5} {ts:Nat->Tn} {boots:Nat} (h:qs bz w H D F cur c ts boots 4):zN bz w H D F cur ts boots:=by
 refine ⟨?_,h.ar,h.c4,h.ee,fun _ _=>rfl,h.ad,h.cg,h.apart,h.base⟩;have e:hC D (fun r=>(ts r).t5) boots=hC D c boots:=by unfold hC;rw [h.cells 0 (by omega),h.cells 1 (by omega),h.cells 2 (by omega),h.cells 3 (by omega)]
 rw [e];exact h.U
theorem KF.cf {r boots:Nat} {o:zdG} {t t':Tn} (h:KF r o boots t t') (F:Nat->Prop):KF r o boots t (t'.cf F):=by refine ⟨h.st,h.ct,fun e=>by unfold Tn.cf;rw [h.cg e];rfl,fun e=>?_⟩;obtain ⟨l,U,X,Y,Z,u,z,D,E,L,O,R⟩:=h.ad e;exact ⟨l.cf F,U,X,Y,Z,by unfold Tn.cf;rw [u];rfl,z,D,E,L,O,R⟩
theorem Km.congr {u z:Nat->List UInt8} {r:Nat} {o:zdG} (h:Km u r o) (e:z=u):Km z r o:=e ▸ h
theorem zgM (H D:Nat) (F:Nat->Prop) (cur:Nat->Nat->List UInt8) (c:Nat->T5) (ts:Nat->Tn) (boots:Nat) (o:Nat->zdG) (w:World) (hb:w.heap[H]?=some (.cells (hC D c boots) 73 (0,0))) (hD:jk w D F cur)
  (c6:∀ r,r<4->cur r 0=jN (yT (ts r).st (ts r).ct)) (c5:∀ r,r<4->(ts r).st<=1/\(ts r).ct<1000000) (d9:boots+1<1000000) (ho:∀ r,r<4->(ts r).st=1->Km (cur r) r (o r)) (c4:¬ bz H) (d7:∀ x,F x->¬ bz x) (d8:∀ x,bz x->x<w.heap.size) :
  zc 20 #[.pointer (some ⟨H,0,none⟩)] w fun e W=>e=.returned (.tuple #[])/\zv bz w W/\∃ F' cur' c8,zN bz W H D F' cur' c8 (boots+1)/\∀ r,r<4->KF r (o r) (boots+1) (ts r) (c8 r):=by
 obtain ⟨R,hR⟩:∃ R:Nat->World->Prop,R=fun k wr=>∃ (U:Nat->Prop) (E:Nat->Nat->List UInt8) (cc:Nat->T5) (tk:Nat->Tn),qs bz wr H D U E cc tk (boots+1) k/\(∀ i,k<=i->i<4->E i=cur i/\(tk i).st=(ts i).st/\(tk i).ct=(ts i).ct)/\(∀ i,i<k->KF i (o i) (boots+1) (ts i) (tk i))/\zv bz w wr:=⟨_,rfl⟩;obtain ⟨w1,z⟩:=ex (w.setCell ⟨H,21,none⟩ (.int .i64 ((boots:Int)+1)));have k0:=xV _ 21 hb (zqe D c boots);have kf:w.frozen? ⟨H,21,none⟩=false:=zI w _ _ _ _ hb;have x1:IntKind.i64.wrap ((boots:Int)+1)=(boots:Int)+1:=by rw [zu];omega
 have c2:w1.heap[H]?=some (.cells (hC D c (boots+1)) 73 (0,0)):=by rw [z,zB _ _ 21 _ _ _ hb];have:=znn D c boots (boots+1);rw [show (((boots+1:Nat):Int))=(boots:Int)+1 by omega] at this;rw [this]
 have Y:∀ x,x≠H->w1.heap[x]?=w.heap[x]?:=fun x u=>by rw [z];exact zt _ _ _ _ u
 have c1:jk w1 D F cur:=zK.same hD (fun x u=>Y x (fun e=>by
  have:=hD.ah u;rw [e,zh hb] at this;simp at this)) (by rw [z];simp)
 have c3:R 0 w1:=by rw [hR];refine ⟨F,cur,c,ts,⟨c2,c1,c6,c5,fun i h=>absurd h (Nat.not_lt_zero i),fun i l h=>absurd h (Nat.not_lt_zero i),fun i h=>absurd h (Nat.not_lt_zero i),fun i j l l' h=>absurd h (Nat.not_lt_zero i),c4,d7,fun i l h=>absurd h (Nat.not_lt_zero i),fun x u=>by rw [z];simpa using d8 x u⟩,fun i _ _=>⟨rfl,rfl,rfl⟩,fun i h=>absurd h (Nat.not_lt_zero i),?_⟩;refine ⟨fun x t C ht u=>?_,by rw [z];rfl,by rw [z];rfl,by rw [z];rfl,by rw [z];simp,fun x h1 _=>Y x (fun e=>c4 (e ▸ h1))⟩;refine (Y x (fun e=>?_)).trans u;rw [e,hb] at u;injection u with u;injection u with _ u;subst u;exact ht (by decide)
 obtain ⟨HR,d1,d3,HO⟩:=zi4 hR c3 z ho;clear hR c3 z ho c2 Y c1 hb hD c6 c5;go_enter func20,ntmps20;go_upto_region 1 with fail;rw [<- d3.o];clear k0 kf;go_upto_region 2 with fail;go_loopw [10] (fun b9 wr=>∃ k:Nat,k<=4/\b9=.int .i64 k/\R k wr) (fun b9 _=>(4-jF b9).toNat)
 case atStart=>exact ⟨0,zT _,rfl,d1.o⟩
 case round =>
  obtain ⟨k,hk,rfl,c7⟩:=hrel;rw [HR.o] at c7;obtain ⟨U,E,cc,tk,Z,a4,a3,a0⟩:=c7;by_cases a9:k<4
  ·have q1:(k:Int)<4:=by omega
   have x2:IntKind.i64.wrap ((k:Int)+1)=(k:Int)+1:=by rw [zu];omega
   obtain ⟨L,O,X⟩:=a4 k (za _) a9;have d0:=hid (znJ H D k U E cc tk (boots+1) (o k) wr Z a9 d9 (fun hs=>(HO.o k a9 (by rw [<- O];exact hs)).congr L));obtain ⟨d2,a7,a6,a5,c0⟩:=zi5 a4 a3 a0 O X;clear a4 a3 a0 Z L O X;go_wp2_with ((with_reducible refine aV 25 d0.o ?_);rintro L w2 ⟨rfl,e1,F2,d5,d4,t2,d6,e2,a1⟩);go_roundw
   case rel =>
    refine ⟨k+1,by omega,by simp,?_⟩;rw [HR.o];refine ⟨F2,d5,d4,_,d6,fun i h1 h2=>?_,fun i h=>?_,a6.o.trans e1⟩
    ·have a8:i≠k:=by omega
     obtain ⟨L,O,X⟩:=d2.o i (by omega) h2;refine ⟨(funext fun q=>e2 i q a8).trans L,?_,?_⟩
     ·rw [vL _ _ _ a8];exact O
     ·rw [vL _ _ _ a8];exact X
    ·by_cases e:i=k
     ·subst e;rw [jH];exact ⟨a1.st.trans a5.o,a1.ct.trans c0.o,fun hs=>a1.cg (a5.o.trans hs),fun hs=>by have:=a1.ad (a5.o.trans hs);rw [c0.o] at this;exact this⟩
     ·rw [vL _ _ _ e];exact (a7.o i (by omega)).cf _
   case measure=>simp [jF];omega
  ·have e0:k=4:=by omega
   subst e0;have HA:=hid Z.at;obtain ⟨a7,a6⟩:=zi2 a3 a0;clear Z a4 a3 a0;go_wp2_with fail;go_end0;exact ⟨rfl,a6.o,U,E,tk,HA.o,fun i h=>a7.o i h⟩
end
section
variable {bz:Nat->Prop}
def zmL:Nat->Tn:=fun _=>⟨0,0,none⟩
def cZ:Nat->T5:=fun _=>⟨.pointer none,.pointer none,.int .i64 0,.int .u64 0,.bool false⟩
theorem zlD (w:World) :
  zc 8 #[] w fun e W=>∃ H D F cur ts,e=.returned (.pointer (some ⟨H,0,none⟩))/\zN (·<w.heap.size) W H D F cur ts 1/\(∀ r,r<4->ts r=⟨0,0,none⟩)/\zv (·<w.heap.size) w W:=by
 have b9:=hid (zna w);go_enter func8,ntmps8;go_upto_region 2 with ((with_reducible refine aV 19 b9.o ?_);rintro e1 w1 ⟨D,F,rfl,Z,U,a1⟩);obtain ⟨h,u⟩:=ex (w1.alloc (.cells (hC D cZ 0) 73));have a6:w1.alloc (.cells #[.pointer (some ⟨D,0,none⟩),.pointer none,.pointer none,.int .i64 0,.int .u64 0,.bool false,.pointer none,.pointer none,.int .i64 0,.int .u64 0,.bool false,.pointer none,.pointer none,.int .i64 0,.int .u64 0,.bool false,.pointer none,.pointer none,.int .i64 0,.int .u64 0,.bool false,.int .i64 0] 73)=h:=u.symm;have X:zd w h:=by rw [u];exact B_alloc U _
 have a3:h.heap[w1.heap.size]?=some (.cells (hC D cZ 0) 73 (0,0)):=by rw [u];exact zo _ _ rfl
 have a4:zd w1 h:=by rw [u];exact B_alloc (zf _ _) _
 have a0:jk h D F (fun _ _=>zs 64):=zK.below Z a4;have a5:=zgM (bz:=(·<w.heap.size)) w1.heap.size D F (fun _ _=>zs 64) cZ zmL 0 (fun _=>⟨1,0,[],fun _=>Jc⟩) h a3 a0 (fun r z=>by
  show zs 64=jN (yT 0 0);decide) (fun r z=>⟨by simp [zmL],by simp [zmL]⟩) (by omega) (fun r z c2=>by simp [zmL] at c2) (Nat.not_lt.2 U.size) (fun x Y=>Nat.not_lt.2 (a1 x Y)) (fun x Y=>qg Y X.size)
 obtain ⟨a9,a8⟩:=zi2 a5 X;have c0:=hid a6;clear u a6 X a3 a4 a0 a5 Z U a1;rw [c0.o];go_wp2_with ((with_reducible refine aV 20 a9.o ?_);rintro e3 w3 ⟨rfl,c4,F3,c1,a7,c3,c5⟩);go_ret;refine ⟨w1.heap.size,D,F3,c1,a7,rfl,c3,fun r z=>?_,(zv.below a8.o).trans c4⟩;have E:=c5 r z;have L:=E.st;have O:=E.ct;have R:=E.cg rfl;cases e:a7 r with
 | mk a b c =>rw [e] at L O R;simp only [zmL] at L O R;rw [L,O,R]
end
section
variable {bz:Nat->Prop}
theorem zoI (H a1 r:Nat) (c:Nat->T5) (boots:Nat) (q:Rq) (w:World) (P:An->World->Prop) (hb:w.heap[H]?=some (.cells (hC a1 c boots) 73 (0,0))) (hr:r<4) (hd:(c r).d=.bool false)
  (f1:0<=q.kd) (hk:q.kd<=17) (ht:q.tn=r)
  (hP:∀ a W h,P a W->jp W h->P a h)
  (a7:∀ W,zd w W->zc 23 #[.pointer (some ⟨H,0,none⟩),.pointer (some ⟨H,1+r*5,none⟩),.agg (zJ q).toArray] W fun e h=>∃ a,e=.returned (.agg (zV a).toArray)/\a.Z≠10/\zv bz W h/\P a h) :
  zc 9 #[.pointer (some ⟨H,0,none⟩),.agg (zJ q).toArray] w fun e h=>∃ a,e=.returned (.agg (zV (if a.Z=0 then a else qo a.Z)).toArray)/\zv bz w h/\P a h:=by
 have e7:decide (q.kd<0)=false:=by simp;omega
 have e8:decide ((19:Int)<q.kd)=false:=by simp;omega
 have e9:(q.kd == 19)=false:=by simp;omega
 have f0:(q.kd == 18)=false:=by simp;omega
 have r0:(0:Int)<=(r:Int):=by omega
 have r4:(r:Int)<4:=by omega
 have f3:decide ((r:Int)<0)=false:=by simp
 have f4:decide ((4:Int)<=(r:Int))=false:=by simp;omega
 obtain ⟨kd,tn,e2,rt,rk,rv,tt,n,mask,dA,dn,dc⟩:=q;simp only at *;subst ht;obtain ⟨Q,D⟩:∃ Q:Rq,Q=⟨kd,r,e2,rt,rk,rv,tt,n,mask,dA,dn,dc⟩:=⟨_,rfl⟩;rw [<- D] at a7;obtain ⟨w1,O⟩:=ex ((w.alloc (.cells (zJ Q).toArray 37)).alloc (.cells qJ 31));have X:zd w w1:=by rw [O];exact B_alloc (B_alloc (zf _ _) _) _
 have Y:w1.heap[w.heap.size]?=some (.cells (zJ Q).toArray 37 (0,0)):=by rw [O];exact zw (zo _ _ rfl) _
 have c5:w1.heap[w.heap.size+1]?=some (.cells qJ 31 (0,0)):=by rw [O];exact zo _ _ (by simp)
 have k0:=xV (Value.int .i64 kd) 0 Y (by rw [D];rfl);have k1:=xV (Value.int .i64 r) 1 Y (by rw [D];rfl);have c6:w1.heap[H]?=some (.cells (hC a1 c boots) 73 (0,0)):=zg hb X (zi hb);have a8:=xV _ (1+r*5+4) c6 (Gl a1 c boots r hr).2.2.2.2;rw [hd] at a8;have HS:=hid (a7 w1.drew X.drew);obtain ⟨HQ,d7,d4,c0,a5,a3,e4⟩:=zi7 D O X Y c5 hP hb;rw [<- D];clear a7 O X Y c5 hP c6 hd D hb;go_enter func9,ntmps9;go_upto_region 1 with fail;rw [<- d7.o];go_upto_region 19 with fail;refine sV [] 7 (fun w'=>zH w' w.heap.size 1 (.int .i64 r)) k1 fun e1=>?_;refine pV 0 ?_;refine pV 1 ?_;refine cV 2 (fun _ e0=>e0) ?_;refine pV 3 ?_;refine pV 4 ?_;refine pV 5 ?_;refine pV 6 ?_;refine dV ?_;have f5:w1.drew.cell? ⟨H,1+r*5+4,none⟩=some (.bool false):=a8;have c4:w1.drew.heap[w.heap.size]?=some (.cells (zJ Q).toArray 37 (0,0)):=c0.o;have d8:=hid c4;clear k0 k1 a8 e1 c4;go_upto_region 22 with (first|((with_reducible refine gV 84 ?_);refine rV d8.o ?_)|((with_reducible refine aV 23 HS.o ?_);rintro e6 u ⟨an,rfl,c8,L,d1⟩)|((with_reducible refine hV 7 ?_);refine nV (zV an).toArray (KG an) ?_));obtain ⟨z,a0⟩:=ex (u.alloc (.cells (zV an).toArray 31));rw [<- a0];have Z:zd u z:=by rw [a0];exact B_alloc (zf _ _) _
 have a6:z.heap[u.heap.size]?=some (.cells (zV an).toArray 31 (0,0)):=by rw [a0];exact zo _ _ rfl
 have c1:z.heap[w.heap.size+1]?=some (.cells qJ 31 (0,0)):=zg (L _ _ _ (by decide) (show w1.drew.heap[_]?=_ from a5.o)) Z (zi (L _ _ _ (by decide) (show w1.drew.heap[_]?=_ from a5.o)));have d2:=a3.o _ _ _ d1 (jp.below Z);have d3:w.heap.size<=u.heap.size:=Nat.le_of_lt (zi (L _ _ _ (by decide) (show w1.drew.heap[_]?=_ from c0.o)));have c7:zv bz w z:=(zv.below d4.o).trans ((zv.ay L).trans (zv.below Z));obtain ⟨d9,a9⟩:=zi2 d3 c7;clear d3 c7;have d0:w.heap.size+1≠u.heap.size:=fun e=>by have:=zi (L _ _ _ (by decide) (show w1.drew.heap[_]?=_ from a5.o));omega
 have e5:=xV (Value.int .i64 an.Z) 0 a6;have f2:(an.Z == 10)=false:=by simpa using c8
 obtain ⟨U,R,b9,d5⟩:=zi4 a6 c1 d2 d0;clear a0 Z a6 c1 d1 d2 L d0 c8;by_cases E:an.Z=0
 ·have e3:(an.Z != 0)=false:=by simpa using E
  have HE:=hid E;clear E;go_wp2_with (first|((with_reducible refine gV 98 ?_);refine rV U.o ?_)|((with_reducible refine hV 4 ?_);refine wV 0 (zV an).toArray R.o ?_));refine zcA 4 31 rfl rfl (w.heap.size+1) 31 (zV an).toArray (0,0) _ rfl (setRow_heap z (w.heap.size+1) _ _ 31 _ R.o) underlying31 rfl (by kernel_rfl) ⟨an,?_,a9.o.setRow (by omega) _,?_⟩
  ·rw [if_pos HE.o]
  ·exact a3.o _ _ _ b9.o (jp.setRow R.o _)
 ·have e3:(an.Z != 0)=true:=by simpa using E
  have HE:=hid E;clear E;have c3:=setRow_heap z u.heap.size _ (zV (qo an.Z)).toArray 31 _ U.o;have c2:=(setRow_other z u.heap.size (w.heap.size+1) (zV (qo an.Z)).toArray d5.o).trans R.o;obtain ⟨d6,a4⟩:=zi2 c3 c2;clear c3 c2;go_wp2_with (first|((with_reducible refine gV 98 ?_);refine rV d6.o ?_)|((with_reducible refine hV 7 ?_);refine wV 0 (zV (qo an.Z)).toArray U.o ?_)|((with_reducible refine hV 4 ?_);refine wV 0 (zV (qo an.Z)).toArray a4.o ?_));refine zcA 4 31 rfl rfl (w.heap.size+1) 31 (zV (qo an.Z)).toArray (0,0) _ rfl (setRow_heap _ (w.heap.size+1) _ _ 31 _ a4.o) underlying31 rfl (by kernel_rfl) ⟨an,?_,(a9.o.setRow d9.o _).setRow (by omega) _,?_⟩
  ·rw [if_neg HE.o]
  ·exact a3.o _ _ _ b9.o ((jp.setRow U.o _).trans (jp.setRow a4.o _))
theorem znb (H D:Nat) (F:Nat->Prop) (cur:Nat->Nat->List UInt8) (ts:Nat->Tn) (boots:Nat) (o:Nat->zdG) (q:Rq) (w:World) (h:zN bz w H D F cur ts boots) (d7:q.kd=19) (hn:q.n<=0) (d6:boots+1<1000000) (ho:∀ r,r<4->(ts r).st=1->Km (cur r) r (o r)) :
  zc 9 #[.pointer (some ⟨H,0,none⟩),.agg (zJ q).toArray] w fun e W=>e=.returned (.agg (zV (qo 0)).toArray)/\zv bz w W/\∃ F' cur' c3,zN bz W H D F' cur' c3 (boots+1)/\∀ r,r<4->KF r (o r) (boots+1) (ts r) (c3 r):=by
 have d9:decide ((0:Int)<q.n)=false:=by simp;omega
 obtain ⟨w1,O⟩:=ex ((w.alloc (.cells (zJ q).toArray 37)).alloc (.cells qJ 31));have X:zd w w1:=by rw [O];exact B_alloc (B_alloc (zf _ _) _) _
 have Y:w1.heap[w.heap.size]?=some (.cells (zJ q).toArray 37 (0,0)):=by rw [O];exact zw (zo _ _ rfl) _
 have a4:w1.heap[w.heap.size+1]?=some (.cells qJ 31 (0,0)):=by rw [O];exact zo _ _ (by simp)
 have k0:=xV (Value.int .i64 q.kd) 0 Y;rw [d7] at k0;have Z:=h.below X;have a6:=zlr D F cur (fun _=>0) q.mask w1.drew Z.ar.drew (fun _ _=>rfl);obtain ⟨d2,c4,R,a1,u,c6,HO⟩:=zi7 O X Y a4 Z a6 ho;clear O X Y a4 Z a6 ho h;go_enter func9,ntmps9;go_upto_region 1 with fail;rw [<- d2.o];go_upto_region 4 with fail;refine sV [6] 7 (fun w'=>w'.heap[w.heap.size]?=some (.cells (zJ q).toArray 37 (0,0))/\jJ w' H (hC D (fun r=>(ts r).t5) boots) 73) ⟨R.o,u.o.U⟩ fun d5=>?_;refine pV 0 ?_;refine pV 1 ?_;refine pV 2 ?_;refine cV 3 (fun _ h=>xV _ 0 h.2 (zdk D _ boots)) ?_;refine pV 4 ?_;refine cV 5 (fun _ h=>xV (Value.int .u64 q.mask) 8 h.1) ?_;refine lC 6 c6.o ?_;rintro e2 w2 ⟨rfl,a3,z⟩;refine eL ?_;refine dV ?_;have L:∀ {x t:Nat} {C:Array Value},w1.heap[x]?=some (.cells C t (0,0))->t ∉ [81,118,86,120]->¬ F x:=fun E ht hf=>ht (by have:=u.o.ar.ah hf;rw [zh E] at this;exact this);have b9:=qK (show w1.drew.heap[_]?=_ from R.o) z (L R.o (by decide));have c0:=qK (show w1.drew.heap[_]?=_ from a1.o) z (L a1.o (by decide));have c2:=qK (show w1.drew.heap[_]?=_ from u.o.U) z (L u.o.U (by decide));have a5:=zgM H D F cur (fun r=>(ts r).t5) ts boots o w2 c2 a3 u.o.c4 u.o.ee d6 HO.o u.o.base.1 u.o.base.2.1 (fun x E=>qg (u.o.base.2.2.2 x E) z.size);have a8:zv bz w1 w2:=zv.ay (zv.ac u.o.base.2.1 (fun x t C ht E=>qK (show w1.drew.heap[_]?=_ from E) z (L E (fun h9=>ht (by
  simp only [zO,qZ,or_false] at h9 ⊢;omega)))) z)
 have kn:=xV (Value.int .i64 q.n) 7 b9;have c5:=hid a5;have d3:=hid c0;have d0:=hid a8;clear L b9 c0 c2 a5 a8 z a3 d5 k0;go_upto_region 12 with ((with_reducible refine aV 20 c5.o ?_);rintro e3 w3 ⟨rfl,a0,F3,d4,d8,a7,a9⟩);have c1:=a0 _ _ _ (by decide) d3.o;obtain ⟨U,c7,c8,d1⟩:=zi4 c1 a7 a0 a9;clear c1 a7 a0 a9;go_wp2_with ((with_reducible refine hV 4 ?_);refine wV 0 (zV (qo 0)).toArray U.o ?_);refine jo (an:=qo 0) 4 rfl rfl rfl U.o rfl ⟨rfl,?_,F3,d4,d8,c7.o.br (jp.setRow U.o _),d1.o⟩;exact ((zv.below c4.o).trans (d0.o.trans c8.o)).setRow (by omega) _
end
end Go.Proofs.YtechnoogjhohfaaGreat
namespace Go.Proofs.YtechnoogjhohfaaGreat
theorem zhw:∀ (N:Nat) (l:List Nat),l.Nodup->(∀ x,x∈l->x<N)->l.length<=N
 | 0,[],_,_=>za _
 | 0,x::l,_,h=>absurd (h x (ji ..)) (Nat.not_lt_zero _)
 | N+1,l,u,h=>by
  have R:=zhw N (l.filter fun x=>!decide (x=N)) (u.filter _) fun x E=>by obtain ⟨z,D⟩:=List.mem_filter.1 E;have:=h x z;simp at D;omega
  have z:∀ (l:List Nat),l.Nodup->l.length<=(l.filter fun x=>!decide (x=N)).length+1:=by
   intro l;induction l with
   | nil=>intro _;simp
   | cons y l ih =>
    intro u;obtain ⟨D,L⟩:=List.nodup_cons.1 u;by_cases e:y=N
    ·subst e;have O:l.filter (fun x=>!decide (x=y))=l:=List.filter_eq_self.2 fun x E=>by simp only [Bool.not_eq_true',decide_eq_false_iff_not];exact fun e=>D (e ▸ E)
     rw [List.filter_cons_of_neg (by simp),O,qc];exact za _
    ·rw [List.filter_cons_of_pos (by simp [e]),qc,qc];have:=ih L;omega
  have:=z l u;omega
theorem zgS:∀ (N:Nat) (l:List Nat),(∀ x,x<N->x∈l)->N<=l.length
 | 0,_,_=>zT _
 | N+1,l,h=>by have z:=zgS N (l.erase N) fun x D=>(List.mem_erase_of_ne (by omega)).2 (h x (by omega));have u:=h N (by omega);rw [List.length_erase_of_mem u] at z;have:=List.length_pos_of_mem u;omega
def codes (h:List It):List Nat:=h.map fun x=>x.pg*5+x.sl
theorem Jd.dj {D:List It} {C:Nat->List (Option Rw)} (h:Jd D C) (U:∀ k,k<6->(C k).length=5) (R:∀ n i:Nat,n<6->i<5->¬ (C n)[i]?=some none):30<=D.length:=by
 have L:∀ x,x<30->x∈Go.Proofs.YtechnoogjhohfaaGreat.codes D:=fun x X=>by
  have z:x / 5<6:=by omega
  have u:x % 5<5:=by omega
  obtain ⟨o,E⟩:∃ o,(C (x / 5))[x % 5]?=some o:=⟨_,zX (by rw [U _ z];exact u)⟩;cases o with
  | none=>exact absurd E (R _ _ z u)
  | some r =>refine List.mem_map.2 ⟨⟨r,x / 5,x % 5⟩,(h.mem _).2 ⟨z,u,E⟩,?_⟩;simp only;omega
 have O:=zgS 30 _ L;simpa [Go.Proofs.YtechnoogjhohfaaGreat.codes] using O
def zhY:Nat->List (Option Rw):=fun _=>List.replicate 5 none
theorem zot:zjE Zz [qF] 1 zhY:=by
 have E:∀ (i:Nat) (f:zx) (x:Nat × Nat × Pg),jA[i]?=some f->¬ f.pg=some x:=fun i f x D O=>by have:f∈jA:=zC D;simp [jA,zx.none] at this;subst this;cases O
 have hok:qX QL:=⟨rfl,Nat.zero_lt_succ _,fun i j n L X=>by
  obtain ⟨f,b,p,u,z⟩:=Zq L;exact absurd z (E i f _ u),fun i f b n p D O _=>absurd O (E i f _ D),za _⟩
 have hpg:∀ n,QL.E n=Jc:=fun n=>vj fun i L=>by obtain ⟨f,b,p,u,z⟩:=Zq L;exact absurd z (E i f _ u)
 have R:zeD QL zhY:=fun n _=>by rw [hpg];rfl
 refine ⟨⟨hok,zkV.dq (s:=QL) (by simp [qF]) (ZN qF).symm (congrArg List.length (ZN qF).symm) (fun n _=>(hpg n).symm) (fun n _=>?_) R,R,.nil,fun x=>⟨fun h=>(by cases h),fun h=>?_⟩⟩,Qs.check,Qs.check,uk.nil⟩
 ·show (QL.E n).mark<jj QL.J QL.Q.length;rw [hpg];exact qg (Nat.zero_lt_succ _) (Nat.succ_le_succ (zT _))
 ·obtain ⟨u,z,U⟩:=h;have:=zC U;have:=List.eq_of_mem_replicate this;cases this
end Go.Proofs.YtechnoogjhohfaaGreat
namespace Go.Proofs.YtechnoogjhohfaaGreat
open Go.RowKit Go.Lib
open YtechnoogjhohfaaGreatW Go.Proofs.Tryz Go.Proofs.YtechnoogjhohfaaGreat.Tryz
section
variable {bz:Nat->Prop}
theorem zrq (t:Tn):t.t5.d=.bool false:=by unfold Tn.t5;cases t.ad<;>rfl
end
section
variable {bz:Nat->Prop}
end
section
variable {bz:Nat->Prop}
theorem zkA (H D r:Nat) (F:Nat->Prop) (cur:Nat->Nat->List UInt8) (ts:Nat->Tn) (boots:Nat) (q:Rq) (w:World) (P:An->World->Prop) (h:zN bz w H D F cur ts boots) (hr:r<4) (hl:(ts r).ad=none)
  (Z:q.kd≠0) (a0:q.kd≠14) (U:∀ a W u,P a W->jp W u->P a u) (hend:∀ W,zd w W->P (qo 3) W) :
  zc 23 #[.pointer (some ⟨H,0,none⟩),.pointer (some ⟨H,1+r*5,none⟩),.agg (zJ q).toArray] w fun e u=>∃ a,e=.returned (.agg (zV a).toArray)/\a.Z≠10/\zv bz w u/\P a u:=by
 have d0:(q.kd == 0)=false:=by simpa using Z
 have d1:(q.kd == 14)=false:=by simpa using a0
 obtain ⟨w1,z⟩:=ex (QD w q);have E:zd w w1:=by rw [z];exact yO w q
 have O:w1.heap[w.heap.size]?=some (.cells (zJ q).toArray 37 (0,0)):=by rw [z];exact ZI w q
 have X:w1.heap[w.heap.size+1]?=some (.cells qJ 31 (0,0)):=by rw [z];exact Zn w q
 have k0:=xV (Value.int .i64 q.kd) 0 O;have R:=h.below E;have Y:=Gl D (fun r=>(ts r).t5) boots r hr;obtain ⟨a1,hz⟩:=R.cg r hr hl;have a3:(ts r).t5=⟨.pointer none,.pointer none,.int .i64 0,.int .u64 (ts r).ct,.bool false⟩:=by unfold Tn.t5;rw [hl];simp only [a1];rfl
 have c2:=(ze w1 H (1+r*5+2) _ _ _ R.U).trans Y.2.2.1;simp only [a3] at c2;have a4:(w.alloc (.cells (zJ q).toArray 37)).alloc (.cells qJ 31)=w1:=z.symm;obtain ⟨a5,a7,L,HP,a6⟩:=zi5 E O X U a4;have HE:=hid (hend w1 E);clear z a4 E O X U R h hend hz a1 a3 Y Z a0;go_enter func23,ntmps23;go_upto_region 1 with fail;rw [a6.o];go_wp2_with ((with_reducible refine hV 6 ?_);refine wV 0 (zV (qo 3)).toArray L.o ?_);refine jo (an:=qo 3) 6 rfl rfl rfl L.o rfl ⟨qo 3,rfl,by decide,(zv.below a5.o).setRow (by omega) _,?_⟩;exact HP.o _ _ _ HE.o (jp.setRow L.o _)
end
section
variable {bz:Nat->Prop}
end
section
variable {bz:Nat->Prop}
theorem zkm (v:Value) (l:List UInt8) (w:World) (R:zj w v l) (hs:l.length<=1000000) :
  zc 40 #[v] w fun r w'=>r=.returned (.int .u32 (ZB l))/\w'=w:=by
 obtain ⟨A,cv,rfl,Z,_,_⟩:=R;have HR:=hid Z;clear Z;go_enter func40,ntmps40;go_upto_region 3 with fail;go_loopw [3,4] (fun u v wr=>∃ k:Nat,k<=l.length/\v=.int .i64 k/\u=.int .u32 (KJ 4294967295 (l.take k))/\wr=w) (fun _ v _=>((l.length:Int)-jF v).toNat)
 case atStart=>exact ⟨0,by omega,rfl,rfl,rfl⟩
 case round =>
  obtain ⟨k,hk,rfl,rfl,rfl⟩:=hrel;by_cases U:k<l.length
  ·obtain ⟨ad,u,rfl,_,h,Y⟩:=HR.o.cb U;have hu:u=.int .u8 (l[k].toNat):=by
    have:(zD l)[k]?=some (.int .u8 (l[k].toNat)):=by simp [zD,U]
    rw [this] at h;injection h with h;exact h.symm
   subst hu;have L:=zfC 4294967295 l k U;have D:=Ky (l.take k) 4294967295 (by omega);generalize KJ 4294967295 (l.take k)=d at L D ⊢;generalize l[k]=b at L Y;have a8:=b.toNat_lt;have hw:IntKind.u32.wrap (b.toNat:Int)=(b.toNat:Int):=by unfold IntKind.wrap;simp [IntKind.bits,IntKind.signed];omega
   have a0:=zcF d b.toNat D (by omega);obtain ⟨z,E⟩:=ex (d ^^^ b.toNat);rw [<- E] at a0;have h0:z<4294967296:=by rw [E];exact Nat.xor_lt_two_pow (n:=32) D (by omega)
   obtain ⟨a1,HS⟩:=zi2 E L;have a3:(0:Int)<=(k:Int):=by omega
   have a4:(k:Int)<(l.length:Int):=by omega
   clear L h E;go_upto_region 7 with fail;clear hw a0 a3 a4 Y;go_loopw [3,5] (fun v u a6=>∃ j:Nat,j<=8/\u=.int .i64 j/\v=.int .u32 (ZF j z)/\a6=wr) (fun _ u _=>((8:Int)-jF u).toNat)
   case atStart=>exact ⟨0,by omega,rfl,rfl,rfl⟩
   case round =>
    obtain ⟨j,hj,rfl,rfl,rfl⟩:=hrel;by_cases a9:j<8
    ·have R:=Kp z h0 j;have hs:ZF (j+1) z=JR (ZF j z):=rfl;have O:=hid hs;generalize ZF j z=e at R O ⊢;clear hs;have a5:=zcF (e / 2) 3988292384 (by omega) (by omega);have q1:(j:Int)<8:=by omega
     by_cases X:e % 2=1
     ·go_wp2;refine ⟨⟨j+1,by omega,by go_num,?_,by trivial⟩,?_⟩
      ·rw [O.o];unfold JR;rw [if_pos X,<- a5];rfl
      ·simp [jF];omega
     ·have a7:e % 2=0:=by omega
      go_wp2;refine ⟨⟨j+1,by omega,by go_num,?_,by trivial⟩,?_⟩
      ·rw [O.o];unfold JR;rw [if_neg X];rfl
      ·simp [jF];omega
    ·obtain rfl:j=8:=by omega
     go_wp2_with fail;refine ⟨⟨k+1,by omega,by go_num,by rw [HS.o,a1.o];rfl,by trivial⟩,by simp [jF];omega⟩
  ·obtain rfl:k=l.length:=by omega
   rw [qi];have D:=Ky l 4294967295 (by omega);obtain ⟨d,hd⟩:=ex (KJ 4294967295 l);rw [<- hd] at D ⊢;have HD:=hid hd;clear hd;go_wp2_with fail;go_ret;have h:=zcF 4294967295 d (by omega) D;refine ⟨?_,rfl⟩;show Ending.returned (.int .u32 (bits .xor .u32 ((4294967295:Nat):Int) (d:Int)))=_;rw [h];unfold ZB;rw [<- HD.o]
end
section
variable {bz:Nat->Prop}
theorem zkt (W:World):(Instr.buildSlice 29 2 #[(0,.int .u8 1),(1,.int .u8 1)]).run prog W=.ok (.slice (some ⟨W.heap.size,0,none⟩) 2 2) (W.alloc (.cells #[.int .u8 1,.int .u8 1] 5)):=by obtain ⟨D,h,u,z,E⟩:=info_parts QU;exact run_buildSlice W 29 5 2 #[(0,.int .u8 1),(1,.int .u8 1)] #[.int .u8 1,.int .u8 1] D _ underlying29 h u (by omega) (by omega) (by rw [z];kernel_rfl)
theorem zku (W:World):(Instr.buildSlice 29 4 #[(0,.int .u8 239),(1,.int .u8 86),(2,.int .u8 195),(3,.int .u8 19)]).run prog W=.ok (.slice (some ⟨W.heap.size,0,none⟩) 4 4) (W.alloc (.cells #[.int .u8 239,.int .u8 86,.int .u8 195,.int .u8 19] 5)):=by obtain ⟨D,h,u,z,E⟩:=info_parts QU;exact run_buildSlice W 29 5 4 #[(0,.int .u8 239),(1,.int .u8 86),(2,.int .u8 195),(3,.int .u8 19)] #[.int .u8 239,.int .u8 86,.int .u8 195,.int .u8 19] D _ underlying29 h u (by omega) (by omega) (by rw [z];kernel_rfl)
theorem zju {P:Program} {o:Oper} {a:Act} {w w1:World} {v:Value} (t n:Nat) (h:Array (Nat × Operand)) (z:o.op=.buildSlice t n h) (u:Array (Nat × Value)) (E:h.map (fun p=>(p.1,a.eval p.2))=u) (D:(Instr.buildSlice t n u).run P w=.ok v w1):(execOp a.eval o).run P w=.ok (.value v) w1:=by subst E;unfold execOp;simp only [z,Sem.run_bind,D,vi,Sem.run_pure]
theorem zah {w w':World} {B e k n:Nat} {v:Value} {xs:List Value} (h:w.ownsRow B e k v n xs) (hb:zd w w'):w'.ownsRow B e k v n xs:=own_same h fun x u=>by
 rcases h.2 with ⟨z,L⟩ | ⟨g,cap,cur,E,O,D,R⟩
 ·rw [z] at u;simp [Value.ownBlock] at u
 ·rw [E] at u;simp [Value.ownBlock] at u;subst u;exact hb.block _ (zi D)
theorem zlZ {w:World} {B e k n:Nat} {v:Value} {xs:List Value} (h:w.ownsRow B e k v n xs) {g:Nat} (u:v.ownBlock=some g):B<=g:=by
 rcases h.2 with ⟨z,E⟩ | ⟨D,cap,cur,z,L,O,R⟩
 ·rw [z] at u;simp [Value.ownBlock] at u
 ·rw [z] at u;simp [Value.ownBlock] at u;omega
def JL:Rw:=⟨1,[107],[118]⟩
def Ga:Array Value:=#[.int .i64 1,.string (zb [107]),.string (zb [118])]
theorem zhN (g:Nat) (w:World) (h:w.heap[g]?=some (.cells Ga 34 (0,0))) :
  zc 24 #[.slice (some ⟨g,0,none⟩) 1 1] w fun e w'=>∃ v,e=.returned v/\w'.ownsRow w.heap.size 5 1 v 15 (zD (Zg [JL]))/\zd w w':=by
 have k0:=xV (Value.int .i64 1) 0 h;have k1:=xV (Value.string (zb [107])) 1 h;have k2:=xV (Value.string (zb [118])) 2 h;go_enter func24,ntmps24;go_upto_region 2 with fail;obtain ⟨w1,a1⟩:=ex (w.alloc (.cells #[.int .u8 84,.int .u8 78,.int .u8 77,.int .u8 49,.int .u8 0,.int .u8 1] 5));rw [<- a1];have c1:zd w w1:=by rw [a1];exact B_alloc (zf _ _) _
 have e1:w1.ownsRow w.heap.size 5 1 (.slice (some ⟨w.heap.size,0,none⟩) 6 6) 6 (zD [84,78,77,49,0,1]):=by rw [a1];exact zjo (xs:=zD [84,78,77,49,0,1]) (by simp [zD]) (by unfold maxLen;omega)
 have d9:=zg h c1 (zi h);obtain ⟨O,d1,R⟩:=zi3 c1 e1 d9;clear a1 c1 e1 d9 k0 k1 k2;go_upto_region 3 with fail;refine wp_loop_rounds 2 ?_;rw [rounds_succ];go_upto_region 5 with fail;refine sV [14,15] 17 (fun w'=>jJ w' g Ga 34) R.o fun f5=>?_;refine pV 0 ?_;refine pV 1 ?_;refine pV 2 ?_;refine pV 3 ?_;refine pV 4 ?_;refine cV 5 (fun _ h=>xV (Value.int .i64 1) 0 h) ?_;refine kV 6 rfl (uU 3 5 (.tmp 26) rfl (by rfl) (.int .i64 1) (.int .u8 1) (by rfl) (fun _ _=>by kernel_rfl)) ?_;refine pV 7 ?_;refine pV 8 ?_;refine pV 9 ?_;refine pV 10 ?_;refine cV 11 (fun _ h=>xV (Value.string (zb [107])) 1 h) ?_;refine pV 12 ?_;refine kV 13 rfl (uU 3 5 (.tmp 33) rfl (by rfl) (.int .i64 1) (.int .u8 1) (by rfl) (fun _ _=>by kernel_rfl)) ?_;refine lV 14 fun K u=>?_;refine uL (v:=.slice (some ⟨w1.heap.size,0,none⟩) 2 2) (w1:=w1.drew.alloc (.cells #[.int .u8 1,.int .u8 1] 5)) (zju 29 2 #[(0,.tmp 27),(1,.tmp 34)] rfl #[(0,.int .u8 1),(1,.int .u8 1)] (by kernel_rfl) (zkt w1.drew)) ?_;obtain ⟨D,a3⟩:=ex (w1.drew.alloc (.cells #[.int .u8 1,.int .u8 1] 5));rw [<- a3];have E:Below w1.heap.size w1.drew D:=by rw [a3];exact B_alloc (zf w1.drew.heap.size w1.drew) _
 have d7:D.heap[w1.heap.size]?=some (.cells #[.int .u8 1,.int .u8 1] 5 (0,0)):=by rw [a3];exact zo _ _ rfl
 have c4:D.ownsRow w.heap.size 5 1 (.slice (some ⟨w.heap.size,0,none⟩) 6 6) 6 (zD [84,78,77,49,0,1]):=zah d1.o.drew E;refine u.out _ _ ?_;clear u K;try simp only [pS]
 refine lV 15 fun K u=>?_;refine Qd (.tmp 21) (.tmp 35) 29 5 1 1 rfl underlying29 QS (by omega) _ 6 _ w.heap.size (by rfl) c4 _ 2 2 _ _ (by rfl) (zL.a9 d7 rfl) (by intro f1 z;simp at z;subst z;rfl) (by omega) (by omega) (by have:=O.o.size;have:w1.heap.size<=D.heap.size:=E.size;omega) ?_;intro v3 L e2 Z f8;refine u.out _ _ ?_;clear u K;try simp only [pS]
 refine pV 16 ?_;refine dV ?_;have h1:g<w.heap.size:=zi h;have g3:w.heap.size<=w1.heap.size:=O.o.size;have g4:w1.heap.size<=D.heap.size:=E.size;have a4:D.heap.size<=L.heap.size:=Z.size;have a9:L.heap[g]?=some (.cells Ga 34 (0,0)):=qq (zg (show w1.drew.heap[_]?=_ from R.o) E (zi R.o)) Z (by simp [Value.ownBlock];omega);have e3:L.ownsRow w.heap.size 5 1 v3 8 (zD [84,78,77,49,0,1,1,1]):=e2;have d3:zd w D:=B_call O.o (uE E);have d4:zd w L:=vn d3 c4 Z;have g6:=xV (Value.string (zb [107])) 1 a9;have c6:=hid d4;have U:=hid e3;have d0:=hid a9;have a4:w.heap.size<=L.heap.size:=by omega
 clear a3 E d7 c4 e2 Z f8 a9 e3 d3 d4 f5 d1 R O g3 g4;go_upto_region 7 with (show wpList _ _ _ (⟨some 43,_,_,_,_,_⟩::_) _ _;refine wpList_plain rfl fun K u=>zaZ (.tmp 37) (.tmp 42) rfl v3 8 [84,78,77,49,0,1,1,1] w.heap.size (by rfl) U.o (zb [107]) (by rfl) (by show 8+1<=1000000;omega) a4 fun v4 w4 e4 a0=>u _ _ ?_);have b9:w4.heap[g]?=some (.cells Ga 34 (0,0)):=qq d0.o a0 (fun e=>by
  have:=zlZ U.o e;omega)
 have d5:zd w w4:=vn c6.o U.o a0;have e5:w4.ownsRow w.heap.size 5 1 v4 9 (zD [84,78,77,49,0,1,1,1,107]):=e4;have g7:=xV (Value.string (zb [118])) 2 b9;have g2:(zb [118]).size=1:=rfl;have g5:w.heap.size<=w4.heap.size:=zz a4 a0.size;have c7:=hid d5;have X:=hid e5;have a5:=hid b9;clear b9 d5 e4 e5 a0 g6 a4 U d0 c6;go_upto_region 8 with (show wpList _ _ _ (⟨some 53,_,_,_,_,_⟩::_) _ _;refine wpList_plain rfl fun K u=>Qd (.tmp 44) (.tmp 52) 29 5 1 1 rfl underlying29 QS (by omega) v4 9 (zD [84,78,77,49,0,1,1,1,107]) w.heap.size (by rfl) (zah X.o (B_alloc (zf _ _) _)) (some ⟨w4.heap.size,0,none⟩) 1 1 [.int .u8 1] _ (by rfl) (zL.a9 (zo _ _ rfl) rfl) (by intro f1 z;simp at z;subst z;rfl) (by omega) (by omega) (by simp;omega) fun v5 w5 e7 c3 f9=>u _ _ ?_);have Y:zd w4 (w4.alloc (.cells #[.int .u8 1] 5)):=B_alloc (zf _ _) _;have e6:=zah X.o Y;have c0:w5.heap[g]?=some (.cells Ga 34 (0,0)):=qq (zg a5.o Y (zi a5.o)) c3 (fun e=>by
  have:=zlZ X.o e;omega)
 have a7:zd w w5:=vn (B_call c7.o Y) e6 c3;have e8:w5.ownsRow w.heap.size 5 1 v5 10 (zD [84,78,77,49,0,1,1,1,107,1]):=e7;have g8:=xV (Value.string (zb [118])) 2 c0;have f0:w.heap.size<=w5.heap.size:=a7.size;have c8:=hid a7;have a6:=hid e8;have f4:=hid c0;clear Y e6 c0 a7 e7 e8 c3 f9 g7 g5 X a5 c7;go_upto_region 4 with (show wpList _ _ _ (⟨some 60,_,_,_,_,_⟩::_) _ _;refine wpList_plain rfl fun K u=>zaZ (.tmp 54) (.tmp 59) rfl v5 10 [84,78,77,49,0,1,1,1,107,1] w.heap.size (by rfl) a6.o (zb [118]) (by rfl) (by show 10+1<=1000000;omega) f0 fun v6 w6 e9 e0=>u _ _ ?_);have a8:zd w w6:=vn c8.o a6.o e0;have c5:w6.ownsRow w.heap.size 5 1 v6 11 (zD [84,78,77,49,0,1,1,1,107,1,118]):=e9;have h3:w.heap.size<=w6.heap.size:=a8.size;have c2:=zkm v6 [84,78,77,49,0,1,1,1,107,1,118] w6 (zj.aj rfl c5) (by simp);have d8:ZB [84,78,77,49,0,1,1,1,107,1,118]=4015440659:=by kernel_rfl
 rw [d8] at c2;have f2:=hid a8;have d2:=hid c5;have f3:=hid c2;clear a8 e9 c5 e0 g8 f0 a6 f4 c8 c2 d8 g2;go_upto_region 9 with fail;rw [rounds_succ];go_upto_region 10 with ((with_reducible refine aV 40 f3.o ?_);rintro g9 w7 ⟨rfl,rfl⟩);go_wp2_with (first|(show wpList _ _ _ (⟨some 65,_,_,_,_,_⟩::_) _ _;refine jE rfl _ _ (KC .shr 108 110 (.tmp 64) (.const (.int .u64 24)) rfl (.int .u32 4015440659) (.int .u64 24) (.int .u32 239) (by rfl) (by rfl) (by kernel_rfl) (by kernel_rfl)) ?_)|(show wpList _ _ _ (⟨some 68,_,_,_,_,_⟩::_) _ _;refine jE rfl _ _ (KC .shr 108 110 (.tmp 67) (.const (.int .u64 16)) rfl (.int .u32 4015440659) (.int .u64 16) (.int .u32 61270) (by rfl) (by rfl) (by kernel_rfl) (by kernel_rfl)) ?_)|(show wpList _ _ _ (⟨some 71,_,_,_,_,_⟩::_) _ _;refine jE rfl _ _ (KC .shr 108 110 (.tmp 70) (.const (.int .u64 8)) rfl (.int .u32 4015440659) (.int .u64 8) (.int .u32 15685315) (by rfl) (by rfl) (by kernel_rfl) (by kernel_rfl)) ?_)|(show wpList _ _ _ (⟨some 66,_,_,_,_,_⟩::_) _ _;refine wpList_plain rfl fun K u=>Qn 108 5 (.tmp 65) rfl (.int .u32 239) (.int .u8 239) (by rfl) (by kernel_rfl) (u _ _ ?_))|(show wpList _ _ _ (⟨some 69,_,_,_,_,_⟩::_) _ _;refine wpList_plain rfl fun K u=>Qn 108 5 (.tmp 68) rfl (.int .u32 61270) (.int .u8 86) (by rfl) (by kernel_rfl) (u _ _ ?_))|(show wpList _ _ _ (⟨some 72,_,_,_,_,_⟩::_) _ _;refine wpList_plain rfl fun K u=>Qn 108 5 (.tmp 71) rfl (.int .u32 15685315) (.int .u8 195) (by rfl) (by kernel_rfl) (u _ _ ?_))|(show wpList _ _ _ (⟨some 74,_,_,_,_,_⟩::_) _ _;refine wpList_plain rfl fun K u=>Qn 108 5 (.tmp 73) rfl (.int .u32 4015440659) (.int .u8 19) (by rfl) (by kernel_rfl) (u _ _ ?_))|(show wpList _ _ _ (⟨some 75,_,_,_,_,_⟩::_) _ _;refine jE rfl _ _ (zju 29 4 #[(0,.tmp 66),(1,.tmp 69),(2,.tmp 72),(3,.tmp 74)] rfl #[(0,.int .u8 239),(1,.int .u8 86),(2,.int .u8 195),(3,.int .u8 19)] (by kernel_rfl) (zku _)) ?_)|(show wpList _ _ _ (⟨some 76,_,_,_,_,_⟩::_) _ _;refine wpList_plain rfl fun K u=>Qd (.tmp 63) (.tmp 75) 29 5 1 1 rfl underlying29 QS (by omega) v6 11 (zD [84,78,77,49,0,1,1,1,107,1,118]) w.heap.size (by rfl) (zah d2.o (B_alloc (zf _ _) _)) (some ⟨w7.heap.size,0,none⟩) 4 4 [.int .u8 239,.int .u8 86,.int .u8 195,.int .u8 19] _ (by rfl) (zL.a9 (zo _ _ rfl) rfl) (by intro f1 z;simp at z;rcases z with rfl | rfl | rfl | rfl<;>rfl) (by omega) (by omega) (by simp;omega) fun v8 w8 f7 f6 h2=>u _ _ ?_));go_ret;have d6:zd w7 (w7.alloc (.cells #[.int .u8 239,.int .u8 86,.int .u8 195,.int .u8 19] 5)):=B_alloc (zf _ _) _;refine ⟨v8,rfl,?_,vn (B_call f2.o d6) (zah d2.o d6) f6⟩;have g0:Zg [JL]=[84,78,77,49,0,1,1,1,107,1,118,239,86,195,19]:=by kernel_rfl
 rw [g0];exact f7
end
section
variable {bz:Nat->Prop}
section
variable {H D r boots ct G:Nat} {ep nx hd tn:Int} {its:List It} {w:World}
end
end
section
variable {bz:Nat->Prop}
end
section
variable {bz:Nat->Prop}
end
section
variable {bz:Nat->Prop}
end
section
variable {bz:Nat->Prop}
theorem zpl (s:St) (txn t:Nat) (k:List UInt8):((s.cp txn t k).2:Int)≠10:=by
 unfold St.cp;split
 ·simp
 ·unfold zoy;split<;>simp
end
section
variable {bz:Nat->Prop}
end
section
variable {bz:Nat->Prop}
section
variable {H D r boots ct G:Nat} {ep nx hd tn:Int} {its:List It} {w:World}
end
end
end Go.Proofs.YtechnoogjhohfaaGreat
