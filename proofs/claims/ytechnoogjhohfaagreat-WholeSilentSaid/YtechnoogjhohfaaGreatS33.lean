import Derived.Test.YtechnoogjhohfaaGreatS31
import Derived.Test.YtechnoogjhohfaaGreatS8
import Derived.Test.YtechnoogjhohfaaGreatS32
import Derived.Test.YtechnoogjhohfaaGreatS9
import Derived.Test.YtechnoogjhohfaaGreatS30
import Derived.Test.YtechnoogjhohfaaGreatS25
import Derived.Test.YtechnoogjhohfaaGreatS27
import Derived.LoopN
set_option maxRecDepth 100000
set_option maxHeartbeats 6400000
set_option linter.unusedVariables false
set_option linter.unusedSimpArgs false
namespace Go.Proofs.YtechnoogjhohfaaGreat
open Go.RowKit Go.Lib
open YtechnoogjhohfaaGreatW Go.Proofs.Tryz Go.Proofs.YtechnoogjhohfaaGreat.Tryz
section
variable {bz:Nat->Prop}
theorem zv.ar {W h:World} {D:Nat} {F:Nat->Prop} {cur:Nat->Nat->List UInt8} (L:jk W D F cur) (hb:∀ x,F x->¬ bz x) (z:zA F W h):zv bz W h :=
 zv.ac hb (fun x t c R E=>qK E z (fun O=>R (by
  have u:=L.ah O;rw [zh E] at u;simp only [zO,qZ,or_false] at u ⊢;omega))) z
theorem zlB (H D r:Nat) (F:Nat->Prop) (cur:Nat->Nat->List UInt8) (ts:Nat->Tn) (boots:Nat) (l:Tl) (w:World) (h:zN bz w H D F cur ts boots) (O:r<4) (hl:(ts r).ad=some l) :
  zc 30 #[.pointer (some ⟨H,0,none⟩),.pointer (some ⟨H,1+r*5,none⟩),.int .i64 r] w fun e W=>((zF l.s.ts).length≠0/\e=.returned (.int .i64 4)/\W=w)∨((zF l.s.ts).length=0/\e=.returned (.int .i64 0)/\zv bz w W/\∃ F' cur',zN bz W H D F' cur' (vt ts F' r ⟨0,(ts r).ct,none⟩) boots):=by
 obtain ⟨hT,i5⟩:=h.ad r l O hl;obtain ⟨j1,h6,h7,h8,_⟩:=qs.b8 h (za _) O hl;have f2:zc 31 #[.pointer (some ⟨l.a.S,1,none⟩)] w fun e w'=>e=.returned (.int .i64 (zF l.s.ts).length)/\w'=w:=zdt l.a.S l.s.ts w hT.sto.aq.row hT.sto.aq.len;have c3:=hid f2;obtain ⟨n,hn⟩:=ex ((zF l.s.ts).length);rw [<- hn] at c3 ⊢;clear f2 hn;by_cases h0:n=0
 ·have q1:decide ((0:Int)<(n:Int))=false:=by rw [h0];rfl
  have q2:decide (0<n)=false:=by rw [h0];rfl
  have i2:=(h.ee r O).2;have e4:(ts r).ct<4294967296:=by omega
  obtain ⟨ct,c8⟩:=ex ((ts r).ct);have d2:=zlA h.U O;have f3:w.rangeAt H (1+r*5+2) [.int .i64 1,.int .u64 ct]:=by
   have e:[((ts r).t5).s,((ts r).t5).c]=[Value.int .i64 1,Value.int .u64 ct]:=by unfold Tn.t5;rw [hl,i5,c8];rfl
   rw [e] at d2;exact d2
  have H0:=hid h;have g7:=hid f3;obtain ⟨a7,HN⟩:=zi2 c8 h0;clear h hT h6 h7 h8 d2 f3 c8 h0;go_enter func30,ntmps30;go_upto_region 5 with (first|((with_reducible refine aV 31 c3.o ?_);rintro e1 w1 ⟨rfl,a1⟩;subst w1)|((with_reducible refine gV 21 ?_);refine mV [.int .i64 1,.int .u64 ct] g7.o ?_)|((with_reducible refine hV 7 ?_);refine nV #[.int .i64 1,.int .u64 ct] (by simp [Value.oneCell']) ?_;have h9:=zI _ w.heap.size 0 _ _ (zo w (.cells #[.int .i64 1,.int .u64 ct] 68) rfl);have k0:=ze _ w.heap.size 0 _ _ _ (zo w (.cells #[.int .i64 1,.int .u64 ct] 68) rfl)));obtain ⟨w1,a1⟩:=ex (w.alloc (.cells #[.int .i64 2,.int .u64 ct] 68));obtain ⟨X,hX⟩:=ex w.heap.size;have c7:Below w.heap.size w w1:=by rw [a1];exact B_alloc (zf _ _) _
  have d3:w1.heap[X]?=some (.cells #[.int .i64 2,.int .u64 ct] 68 (0,0)):=by rw [a1,hX];exact zo _ _ rfl
  have a9:=H0.o.below c7;have i1:w.heap.size<=X:=Nat.le_of_eq hX.symm;rw [<- a1,<- hX];have f4:=zaP D F cur r 2 ct w1.drew a9.ar.drew O (by omega) (by rw [a7.o];exact e4);have f5:zc 50 #[.pointer (some ⟨D,0,none⟩),.int .i64 r,.agg #[.int .i64 2,.int .u64 ct]] w1.drew _:=f4;have hS:w1.drew.cell? ⟨H,0,none⟩=some (.pointer (some ⟨D,0,none⟩))/\w1.drew.heap[X]?=some (.cells #[.int .i64 2,.int .u64 ct] 68 (0,0)):=⟨(xV _ 0 a9.U (zdk _ _ _)),d3⟩;have g8:=hid f5;obtain ⟨g2,c4,z⟩:=zi3 c7 d3 a9;clear a1 hX c7 d3 a9 f4 f5 h9 k0;refine sV [6] 8 (fun w'=>zH w' H 0 (.pointer (some ⟨D,0,none⟩))/\jJ w' X #[.int .i64 2,.int .u64 ct] 68) hS fun i0=>?_;refine pV 0 ?_;refine pV 1 ?_;refine pV 2 ?_;refine cV 3 (fun _ h=>h.1) ?_;refine pV 4 ?_;refine kV 5 rfl (qR 68 (.tmp 7) rfl (by rfl) X (by rfl) 68 #[.int .i64 2,.int .u64 ct] (0,0) _ (fun _ h=>h.2) underlying68 rfl (by kernel_rfl)) ?_;refine lC 6 g8.o ?_;rintro j2 w2 ⟨rfl,F2,c6,a4,d0⟩;refine eL ?_;refine pV 7 ?_;refine dV ?_;have e8:=zv.ar (bz:=bz) (z.o.ar.drew) z.o.base.2.1 a4;have d1:∀ {x t:Nat} {C:Array Value},w1.heap[x]?=some (.cells C t (0,0))->t ∉ [81,118,86,120]->¬ F x:=fun u R Y=>R (by have:=z.o.ar.ah Y;rw [zh u] at this;exact this);have d4:=qK (show w1.drew.heap[_]?=_ from z.o.U) a4 (d1 z.o.U (by decide));have f9:=qK (show w1.drew.heap[_]?=_ from c4.o) a4 (d1 c4.o (by decide));have e2:∀ x,F2 x->¬ bz x:=fun x u=>(d0 x u).elim (z.o.base.2.1 x) (fun E=>z.o.ej E);have a5:=zcY D F2 (ve cur r 0 (jN (yT 2 ct))) r 2 ct w2 c6 O (by unfold ve;rw [zk,zk]) (by omega) (by rw [a7.o];exact e4);have k0:=xV _ 0 d4 (zdk _ _ _);obtain ⟨g9,c2,c1,d6,d7,d5,g6,g5⟩:=zi8 a5 a4 c6 f9 d4 e2 d0 e8;clear a5 a4 c6 f9 d4 e2 d0 e8 hS i0 d1;go_upto_region 11 with (first|((with_reducible refine aV 42 g9.o ?_);rintro j3 w3 ⟨rfl,F3,a8,a0,f0⟩;have a6:=qK d6.o a0 (fun Y=>by have:=c1.o.ah Y;rw [zh d6.o] at this;simp at this))|(show wpList _ _ _ (⟨none,.store 68 _ _,_,_,_,_⟩::_) _ _;refine wpList_store_row rfl 68 (.tmp 7) (.tmp 40) rfl X #[.int .i64 0,.int .u64 ct] (by rfl) (by rfl) 68 _ a6 (by kernel_rfl) (by rfl) (by simp [Value.oneCell']) ?_));have b9:=qK d7.o a0 (fun Y=>by have:=c1.o.ah Y;rw [zh d7.o] at this;simp at this);obtain ⟨w4,Z⟩:=ex (w3.setRow X #[.int .i64 0,.int .u64 ct]);have e0:X≠H:=fun e=>by have E:=zh a6;rw [e,zh b9] at E;simp at E
  have g0:w4.heap[X]?=some (.cells #[.int .i64 0,.int .u64 ct] 68 (0,0)):=by rw [Z];exact setRow_heap w3 X _ _ 68 _ a6
  have c0:w4.heap[H]?=some (.cells (hC D (fun r=>(ts r).t5) boots) 73 (0,0)):=by rw [Z];exact (setRow_other w3 X H _ (Ne.symm e0)).trans b9
  have c5:∀ x,x≠X->w4.heap[x]?=w3.heap[x]?:=fun x u=>by rw [Z];exact setRow_other w3 X x _ u
  have i9:w4.heap.size=w3.heap.size:=by rw [Z];simp
  obtain ⟨w5,U⟩:=ex (w4.setRow H (hC D (zZ (fun i=>(ts i).t5) r (Tn.t5 ⟨0,ct,none⟩)) boots));have hput:=zhk D (fun i=>(ts i).t5) boots r O (Tn.t5 ⟨0,ct,none⟩);have f7:w4.setRow H (List.take (1+r*5) (hC D (fun r=>(ts r).t5) boots).toList++[Value.pointer none,Value.pointer none,Value.int .i64 0,Value.int .u64 ct,Value.bool false]++List.drop (1+r*5+5) (hC D (fun r=>(ts r).t5) boots).toList).toArray=w5:=by rw [U,<- hput];rfl
  have a3:∀ x,x≠H->w5.heap[x]?=w4.heap[x]?:=fun x u=>by rw [U];exact setRow_other w4 H x _ u
  have j0:w5.heap.size=w4.heap.size:=by rw [U];simp
  have e3:∀ x,F3 x->¬ bz x:=fun x u=>(f0 x u).elim (d5.o x) (fun E=>z.o.ej (zz c2.o.size E));have d9:∀ x,F3 x->w5.heap[x]?=w3.heap[x]?:=fun x u=>by
   have R:=a8.ah u;refine (a3 x (fun e=>?_)).trans (c5 x (fun e=>?_))
   ·rw [e,zh b9] at R;simp at R
   ·rw [e,zh a6] at R;simp at R
  have a5:uW (ve cur r 0 (jN (yT 2 ct))) r 2 ct=ve (yR (ve cur r 0 (jN (yT 2 ct))) r 1 538) r 0 (jN (yT 0 ct)):=by unfold uW;rw [if_neg (by decide),if_pos rfl]
  rw [a5] at a8;have d8:=zK.same a8 d9 (by omega);have i7:w1.heap.size<=w2.heap.size:=c2.o.size;have i8:=a0.size;have e5:zN bz w5 H D F3 (ve (yR (ve cur r 0 (jN (yT 2 ct))) r 1 538) r 0 (jN (yT 0 ct))) (vt ts F3 r ⟨0,ct,none⟩) boots:=by
   refine zN.ga (qs.step (k':=4) (boots':=boots) z.o ⟨0,ct,none⟩ O (fun i L _=>L) ?_ d8 ?_ ⟨zT _,by rw [a7.o];exact i2⟩ (fun l' e=>by cases e) (fun _=>⟨rfl,?_⟩) ?_ ?_ (by omega) (fun l' x e=>by cases e) e3 (fun l' x e=>by cases e)) ?_
   ·rw [U];exact setRow_heap w4 H _ _ 73 _ c0
   ·unfold ve;rw [zk,zk]
   ·intro q h1 h2;unfold ve yR;rw [zk,zy _ _ (by omega),zk,if_pos ⟨h1,h2⟩]
   ·intro i l2 x L j5 e9 u;obtain ⟨h2,_⟩:=z.o.ad i l2 L e9;have i3:=(h2.ah x u).2;have f6:=(h2.ah x u).1;have f1:=h2.da u;have i4:¬ F2 x:=fun Y=>(g6.o x Y).elim f1 (fun E=>by have j4:w1.heap.size<=x:=E;omega);have i6:x≠X:=fun e=>by rw [e,zh c4.o] at f6;simp at f6
    have e1:w2.heap[x]?=w1.heap[x]?:=c2.o.block x i3 f1;exact (a3 x (qs.d4 z.o L e9 (.inl u))).trans ((c5 x i6).trans ((a0.block x (by omega) i4).trans e1))
   ·intro i q L;unfold ve yR;rw [zy _ _ L,zy _ _ L,zy _ _ L]
   ·funext i;by_cases e:i=r
    ·subst e;rw [zk,jH]
    ·rw [zy _ _ e,vL _ _ _ e,Tn.en]
  have e6:zv bz w w4:=by rw [Z];exact ((zv.below g2.o).trans ((zv.ay g5.o).trans (zv.ar c1.o d5.o a0))).setRow i1 _
  have e7:zv bz w w5:=e6.trans ⟨fun x t c R u=>(a3 x (fun e=>by
   subst e;rw [c0] at u;injection u with u;injection u with _ u;subst u;exact R (by decide))).trans u,by rw [U];rfl,by rw [U];rfl,by rw [U];rfl,by omega,fun x h1 _=>a3 x (fun e=>z.o.base.1 (e ▸ h1))⟩
  have f8:w4.setRow H (List.take (1+r*5) (hC D (fun r=>(ts r).t5) boots).toList++Value.pointer none::Value.pointer none::Value.int .i64 0::Value.int .u64 ct::Value.bool false::List.drop (1+r*5+5) (hC D (fun r=>(ts r).t5) boots).toList).toArray=w5:=by rw [<- f7];simp
  obtain ⟨h4,h5,g3,g4,h3⟩:=zi5 g0 c0 e5 e7 f8;rw [<- Z];clear b9 Z g0 c0 c5 i9 U hput f7 f8 a3 j0 e3 d9 a5 a8 d8 i7 i8 e5 e6 e7 a6 a0 f0 k0 e0;go_wp2_with (first|((with_reducible refine gV 46 ?_);refine rV h4.o ?_)|(show wpList _ _ _ (⟨none,.store 70 _ _,_,_,_,_⟩::_) _ _;refine yL rfl 70 (.tmp 48) (.tmp 47) rfl H (1+r*5) 73 _ #[.pointer none,.pointer none,.int .i64 0,.int .u64 ct,.bool false] (by rfl) (by rfl) h5.o (by rw [Kz];simp;omega) (by kernel_rfl) (by simp [Value.oneCell']) ?_));go_ret;refine .inr ⟨HN.o,rfl,?_⟩;rw [h3.o,<- a7.o];exact ⟨g4.o,F3,_,g3.o⟩
 ·have q1:decide ((0:Int)<(n:Int))=true:=by simp;omega
  have q2:decide (0<n)=true:=by simp;omega
  have HN:=hid h0;clear h hT h0;go_enter func30,ntmps30;go_wp2_with ((with_reducible refine aV 31 c3.o ?_);rintro e1 w1 ⟨rfl,a1⟩;subst w1);go_ret;exact .inl ⟨HN.o,rfl,rfl⟩
end
section
variable {bz:Nat->Prop}
def zjF (s:St) (q:Rq) (s':St):Prop:=(q.kd=15/\s'={ s with sto:=s.sto.bc (zde q.n) })∨(q.kd=16/\s'=s.cj)∨(q.kd=17/\s'=s.a1)
theorem zkD (H a1 r:Nat) (F:Nat->Prop) (cur:Nat->Nat->List UInt8) (ts:Nat->Tn) (boots:Nat) (l:Tl) (q:Rq) (w:World) (P:An->World->Prop) (a0:zN bz w H a1 F cur ts boots) (hr:r<4) (hl:(ts r).ad=some l)
  (u:q.kd=1∨q.kd=15∨q.kd=16∨q.kd=17) (d9:q.tn=r) (hn:iok q.n) (hP:∀ a W W',P a W->jp W W'->P a W') (c6:jO l.s) (c0:l.s.sto.J+1<4294967296)
  (c3:q.kd=1->(zF l.s.ts).length≠0->∀ W,zN bz W H a1 F cur ts boots->P (qo 4) W)
  (c5:q.kd=1->(zF l.s.ts).length=0->∀ F' cur' W,zN bz W H a1 F' cur' (vt ts F' r ⟨0,(ts r).ct,none⟩) boots->P (qo 0) W)
  (c7:∀ s' E cur' W,zjF l.s q s'->zN bz W H a1 E.F cur' (vt ts E.F r { ts r with ad:=some { l with b:=E,s:=s' } }) boots->P (qo 0) W) :
  zc 23 #[.pointer (some ⟨H,0,none⟩),.pointer (some ⟨H,1+r*5,none⟩),.agg (zJ q).toArray] w fun e W'=>∃ a,e=.returned (.agg (zV a).toArray)/\a.Z≠10/\zv bz w W'/\P a W':=by
 obtain ⟨w1,a3⟩:=ex (QD w q);have a9:zd w w1:=by rw [a3];exact yO w q
 have a6:w1.heap[w.heap.size]?=some (.cells (zJ q).toArray 37 (0,0)):=by rw [a3];exact ZI w q
 have c2:w1.heap[w.heap.size+1]?=some (.cells qJ 31 (0,0)):=by rw [a3];exact Zn w q
 have k0:=xV (Value.int .i64 q.kd) 0 a6;have k1:=xV (Value.int .i64 r) 1 a6 (by rw [<- d9];rfl);have a7:=a0.below a9;obtain ⟨c1,e0,e1,_,_⟩:=qs.b8 a7 (by omega) hr hl;obtain ⟨hT,d8⟩:=a7.ad r l hr hl;have c8:(w.alloc (.cells (zJ q).toArray 37)).alloc (.cells qJ 31)=w1:=a3.symm;obtain ⟨a4,d7,a5,HP,d6,X,HT,d0,d1⟩:=zi9 a9 a6 c2 hP c8 a7 hT c3 c5;obtain ⟨a8,d2⟩:=zi2 c7 c6;clear a3 c8 a9 a6 c2 hP a7 a0 hT d8 c3 c5 c7 c6;go_enter func23,ntmps23;go_upto_region 1 with fail;rw [d6.o];rcases u with u | u | u | u
 ·rw [u] at k0;have L:=hid u;clear u;have U:Hid (zc 30 #[.pointer (some ⟨H,0,none⟩),.pointer (some ⟨H,1+r*5,none⟩),.int .i64 r] w1 fun e W=>∃ h:Int,e=.returned (.int .i64 h)/\h≠10/\zv bz w1 W/\P (qo h) W):=hid ((zlB H a1 r F cur ts boots l w1 X.o hr hl).mono (by
   rintro e W (⟨hb,rfl,rfl⟩ | ⟨hb,rfl,Z,F',cur',Y⟩)
   ·exact ⟨4,rfl,by decide,zv.refl _,d0.o L.o hb _ X.o⟩
   ·exact ⟨0,rfl,by decide,Z,d1.o L.o hb F' cur' W Y⟩))
  go_wp2_with (first|((with_reducible refine aV 30 U.o ?_);rintro e2 w2 ⟨h,rfl,O,D,R⟩;have z:=D _ _ _ (by decide) a5.o)|((with_reducible refine hV 6 ?_);refine wV 0 (zV (qo h)).toArray z ?_));refine jo (an:=qo h) 6 rfl rfl rfl z rfl ⟨qo h,rfl,O,((zv.below a4.o).trans D).setRow (by omega) _,?_⟩;exact HP.o _ _ _ R (jp.setRow z _)
 ·rw [u] at k0;have L:=hid u;clear u;have U:Hid (zc 35 #[.pointer (some ⟨l.a.S,0,none⟩),.int .i64 q.n] w1.drew fun e W=>∃ h:Int,e=.returned (.int .i64 h)/\h≠10/\zv bz w1.drew W/\P (qo h) W/\W.cell? ⟨H,1+r*5,none⟩=some (.pointer (some ⟨l.a.S,0,none⟩))):=hid ((zoo l.a l.b cur l.s q.n w1.drew HT.o.sto.drew hn).mono (by
   rintro e W ⟨rfl,E,cur',hA,hE⟩;obtain ⟨Z,Y⟩:=Zc X.o.drew hr hl hA hE;exact ⟨0,rfl,by decide,Z,a8.o _ E cur' W (.inl ⟨L.o,rfl⟩) Y,(yt (w:=w1.drew) (hE.ac.block H (zi X.o.U) (fun hx=>qs.d4 X.o hr hl (zap HT.o hx) rfl))).trans c1⟩))
  have hS:=And.intro c1 d7.o;go_upto_region 27 with fail;refine sV [8] 9 (fun w'=>zH w' H (1+r*5) (.pointer (some ⟨l.a.S,0,none⟩))/\w'.heap[w.heap.size]?=some (.cells (zJ q).toArray 37 (0,0))) hS fun b9=>?_;refine pV 0 ?_;refine pV 1 ?_;refine pV 2 ?_;refine cV 3 (fun _ a0=>a0.1) ?_;refine pV 4 ?_;refine cV 5 (fun _ a0=>xV (Value.int .i64 q.n) 7 a0.2) ?_;refine oC 6 U.o ?_;rintro e2 w2 ⟨h,rfl,O,D,R,c4⟩;have z:=D _ _ _ (by decide) (show w1.drew.heap[_]?=_ from a5.o);refine eV ⟨c4,D _ _ _ (by decide) b9.2⟩ fun b9=>?_;refine pV 7 ?_;refine lV 8 fun K hK=>?_;refine vV 31 (.tmp 6) (.tmp 95) rfl (w.heap.size+1) 0 31 _ (zV (qo h)).toArray (by rfl) (by rfl) z (by simp [zV]) (by kernel_rfl) (by simp [zV,Value.oneCell']) ?_;refine hK.out _ _ ?_;clear hK K;try simp only [pS]
  refine dV ?_;obtain ⟨d3,d5,HX,d4⟩:=zi4 D R z O;clear D R z O hS b9 c4;go_wp2_with fail;refine jo (an:=qo h) 6 rfl rfl rfl HX.o rfl ⟨qo h,rfl,d4.o,((zv.below a4.o).trans (zv.ay d3.o)).setRow (by omega) _,?_⟩;exact HP.o _ _ _ d5.o (jp.setRow HX.o _)
 ·rw [u] at k0;have L:=hid u;clear u;have U:Hid (zc 36 #[.pointer (some ⟨l.a.S,0,none⟩)] w1 fun e W=>∃ h:Int,e=.returned (.int .i64 h)/\h≠10/\zv bz w1 W/\P (qo h) W):=hid ((znO l.a l.b cur l.s w1 HT.o.sto c0 (zda (d2.o.c.ready c0).1.ae)).mono (by
   rintro e W ⟨rfl,E,cur',hA,hE⟩;obtain ⟨Z,Y⟩:=Zc X.o hr hl hA hE;exact ⟨0,rfl,by decide,Z,a8.o _ E cur' W (.inr (.inl ⟨L.o,rfl⟩)) Y⟩))
  go_wp2_with (first|((with_reducible refine aV 36 U.o ?_);rintro e2 w2 ⟨h,rfl,O,D,R⟩;have z:=D _ _ _ (by decide) a5.o)|((with_reducible refine hV 6 ?_);refine wV 0 (zV (qo h)).toArray z ?_));refine jo (an:=qo h) 6 rfl rfl rfl z rfl ⟨qo h,rfl,O,((zv.below a4.o).trans D).setRow (by omega) _,?_⟩;exact HP.o _ _ _ R (jp.setRow z _)
 ·rw [u] at k0;have L:=hid u;clear u;have U:Hid (zc 37 #[.pointer (some ⟨l.a.S,0,none⟩)] w1 fun e W=>∃ h:Int,e=.returned (.int .i64 h)/\h≠10/\zv bz w1 W/\P (qo h) W):=hid ((zdu l.a l.b cur l.s w1 HT.o.sto c0).mono (by
   rintro e W ⟨rfl,E,cur',hA,hE⟩;obtain ⟨Z,Y⟩:=Zc X.o hr hl hA hE;exact ⟨0,rfl,by decide,Z,a8.o _ E cur' W (.inr (.inr ⟨L.o,rfl⟩)) Y⟩))
  go_wp2_with (first|((with_reducible refine aV 37 U.o ?_);rintro e2 w2 ⟨h,rfl,O,D,R⟩;have z:=D _ _ _ (by decide) a5.o)|((with_reducible refine hV 6 ?_);refine wV 0 (zV (qo h)).toArray z ?_));refine jo (an:=qo h) 6 rfl rfl rfl z rfl ⟨qo h,rfl,O,((zv.below a4.o).trans D).setRow (by omega) _,?_⟩;exact HP.o _ _ _ R (jp.setRow z _)
end
section
variable {bz:Nat->Prop}
theorem zil (H D r:Nat) (F:Nat->Prop) (cur:Nat->Nat->List UInt8) (ts:Nat->Tn) (boots:Nat) (l:Tl) (q:Rq) (v:Value) (w:World) (h:zN bz w H D F cur ts boots) (Z:r<4) (Y:(ts r).ad=some l) :
  zc 28 #[.pointer (some ⟨H,0,none⟩),.pointer (some ⟨H,1+r*5,none⟩),.agg (zJ q).toArray,v] w fun e W=>e=.returned (.agg (zV (qo 3)).toArray)/\zv bz w W/\jp w W:=by
 obtain ⟨w1,u⟩:=ex (QD w q);have E:zd w w1:=by rw [u];exact yO w q
 have O:w1.heap[w.heap.size+1]?=some (.cells qJ 31 (0,0)):=by rw [u];exact Zn w q
 have R:=h.below E;obtain ⟨c0,c1,c2,_,_⟩:=qs.b8 R (by omega) Z Y;have U:(w.alloc (.cells (zJ q).toArray 37)).alloc (.cells qJ 31)=w1:=u.symm;obtain ⟨L,z,X⟩:=zi3 E O U;clear u U E O R h;go_enter func28,ntmps28;go_upto_region 1 with fail;rw [X.o];go_wp2_with ((with_reducible refine hV 8 ?_);refine wV 0 (zV (qo 3)).toArray z.o ?_);exact jo (an:=qo 3) 8 rfl rfl rfl z.o rfl ⟨rfl,(zv.below L.o).setRow (by omega) _,(jp.below L.o).trans (jp.setRow z.o _)⟩
theorem ziU (H D r:Nat) (F:Nat->Prop) (cur:Nat->Nat->List UInt8) (ts:Nat->Tn) (boots:Nat) (l:Tl) (q:Rq) (b:List UInt8) (w:World) (P:An->World->Prop) (a1:zN bz w H D F cur ts boots) (hr:r<4) (hl:(ts r).ad=some l)
  (h:q.kd=0∨q.kd=14) (hP:∀ a W z,P a W->jp W z->P a z) (hb:zj w (.slice q.dA q.dn q.dc) b) (b9:b.length<=100000) (hend:P (qo 3) w) :
  zc 23 #[.pointer (some ⟨H,0,none⟩),.pointer (some ⟨H,1+r*5,none⟩),.agg (zJ q).toArray] w fun e z=>∃ a,e=.returned (.agg (zV a).toArray)/\a.Z≠10/\zv bz w z/\P a z:=by
 obtain ⟨w1,L⟩:=ex (QD w q);have U:zd w w1:=by rw [L];exact yO w q
 have X:w1.heap[w.heap.size]?=some (.cells (zJ q).toArray 37 (0,0)):=by rw [L];exact ZI w q
 have a3:w1.heap[w.heap.size+1]?=some (.cells qJ 31 (0,0)):=by rw [L];exact Zn w q
 have k0:=xV (Value.int .i64 q.kd) 0 X;have k9:=xV (Value.slice q.dA q.dn q.dc) 9 X;have Z:=a1.below U;obtain ⟨c1,c2,c3,_,_⟩:=qs.b8 Z (by omega) hr hl;have a5:(w.alloc (.cells (zJ q).toArray 37)).alloc (.cells qJ 31)=w1:=L.symm;have a6:=hid (zil H D r F cur ts boots l q (.slice none 0 0) w1 Z hr hl);have a7:=hid (zcW (.slice q.dA q.dn q.dc) b w1 (hb.below U) b9);obtain ⟨O,a9,Y,R,a8,a0⟩:=zi6 U X a3 hP a5 hend;clear L a5 U X a3 hP Z a1 hend hb;go_enter func23,ntmps23;go_upto_region 1 with fail;rw [a8.o];rcases h with h | h
 ·rw [h] at k0;clear h;go_wp2_with (first|((with_reducible refine gV 23 ?_);refine rV a9.o ?_)|((with_reducible refine aV 28 a6.o ?_);rintro e2 w2 ⟨rfl,a4,E⟩;have u:=a4 _ _ _ (by decide) Y.o)|((with_reducible refine hV 6 ?_);refine wV 0 (zV (qo 3)).toArray u ?_));refine jo (an:=qo 3) 6 rfl rfl rfl u rfl ⟨qo 3,rfl,by decide,((zv.below O.o).trans a4).setRow (by omega) _,?_⟩;exact R.o _ _ _ (R.o _ _ _ a0.o ((jp.below O.o).trans E)) (jp.setRow u _)
 ·rw [h] at k0;clear h;go_wp2_with (first|((with_reducible refine aV 29 a7.o ?_);rintro e2 w2 ⟨rv,rfl,c0,E⟩;obtain ⟨A2,c4,rfl⟩:=own_slice c0;have u:=zg Y.o E (zi Y.o))|((with_reducible refine hV 6 ?_);refine wV 0 (zV (qo 3)).toArray u ?_));refine jo (an:=qo 3) 6 rfl rfl rfl u rfl ⟨qo 3,rfl,by decide,((zv.below O.o).trans (zv.below E)).setRow (by omega) _,?_⟩;exact R.o _ _ _ (R.o _ _ _ a0.o ((jp.below O.o).trans (jp.below E))) (jp.setRow u _)
end
section
variable {bz:Nat->Prop}
theorem zkG (H a0 r:Nat) (F:Nat->Prop) (cur:Nat->Nat->List UInt8) (ts:Nat->Tn) (boots:Nat) (l:Tl) (q:Rq) (w:World) (P:An->World->Prop) (h:zN bz w H a0 F cur ts boots) (hr:r<4) (hl:(ts r).ad=some l)
  (d9:q.kd=3) (a4:iok q.hd) (c2:qT l.hs q.hd=true) (hP:∀ a W E,P a W->jp W E->P a E)
  (b9:(zU l.hs q.hd).getD 0≠0->∀ W,zN bz W H a0 F cur ts boots->P (qo 4) W)
  (c1:(zU l.hs q.hd).getD 0=0->∀ W,zN bz W H a0 F cur (vt ts F r { ts r with ad:=some { l with nx:=l.nx,hs:=adel l.hs q.hd } }) boots->P (qo 0) W) :
  zc 39 #[.pointer (some ⟨H,0,none⟩),.pointer (some ⟨H,1+r*5,none⟩),.agg (zJ q).toArray] w fun e E=>∃ a,e=.returned (.agg (zV a).toArray)/\a.Z≠10/\zv bz w E/\P a E:=by
 obtain ⟨w1,U⟩:=ex (QD w q);have a1:zd w w1:=by rw [U];exact yO w q
 have Z:w1.heap[w.heap.size]?=some (.cells (zJ q).toArray 37 (0,0)):=by rw [U];exact ZI w q
 have a9:w1.heap[w.heap.size+1]?=some (.cells qJ 31 (0,0)):=by rw [U];exact Zn w q
 have k0:=xV (Value.int .i64 q.kd) 0 Z;rw [d9] at k0;have u:=h.below a1;obtain ⟨e6,L,_,_,_⟩:=qs.b8 u (by omega) hr hl;obtain ⟨Y,e1⟩:=u.ad r l hr hl;have R:Dk.DeskAt w1.drew l.kb l.km l.ep l.nx l.hs:=Y.dk.below (zf _ _).drew (DeskAt.ah Y.dk).2.2.1 (DeskAt.ah Y.dk).2.2.2;have c5:=Dk.txn_any l.kb l.km l.ep l.nx l.hs q.hd a4 w1.drew R;have D:Dk.DeskAt w1.drew.drew l.kb l.km l.ep l.nx l.hs:=R.below (zf _ _).drew (DeskAt.ah R).2.2.1 (DeskAt.ah R).2.2.2;have c4:zc 72 #[.pointer (some ⟨l.kb,0,none⟩),.int .i64 q.hd] w1.drew.drew fun e W=>∃ (X:Int) (c:Bool),((X=0/\c=true)∨(X=4/\c=false))/\e=.returned (.bool c)/\zv bz w1 W/\P (qo X) W/\W.cell? ⟨H,1+r*5+1,none⟩=some (.pointer (some ⟨l.kb,0,none⟩)):=by
  by_cases h0:(zU l.hs q.hd).getD 0=0
  ·refine (Dk.shut_free l.kb l.km l.ep l.nx l.hs q.hd a4 w1.drew.drew D c2 h0).mono ?_;rintro e W ⟨rfl,d8,e2⟩;have a6:zE (fun i=>i=l.kb∨i=l.km) w1.drew.drew W:=e2.mono (fun i _ e=>.inr e);have c0:=DeskAt.ah D;have e0:¬ (H=l.kb∨H=l.km):=fun e=>by
    rcases e with e | e
    ·have O:=zh (show w1.drew.drew.heap[H]?=_ from u.U);rw [e,c0.1] at O;simp at O
    ·have O:=zh (show w1.drew.drew.heap[H]?=_ from u.U);rw [e,c0.2.1] at O;simp at O
   exact ⟨0,true,.inl ⟨rfl,rfl⟩,rfl,zv.ay (zv.ay (zv.cq (qs.fh u hr hl) D a6)),c1 h0 W (u.drew.drew.cq hr hl d8 a6),(yt (w:=w1.drew.drew) (a6.block H (zi u.U) e0)).trans L⟩
  ·refine (Dk.shut_busy l.kb l.km l.ep l.nx l.hs q.hd a4 w1.drew.drew D c2 h0).mono ?_;rintro e W ⟨rfl,rfl⟩;exact ⟨4,false,.inr ⟨rfl,rfl⟩,rfl,zv.ay (zv.ay (zv.refl _)),b9 h0 _ u.drew.drew,L⟩
 have c6:(w.alloc (.cells (zJ q).toArray 37)).alloc (.cells qJ 31)=w1:=U.symm;have hS:=And.intro L Z;obtain ⟨d2,d1,c8,d4,d5,HP,d3,e5,e4⟩:=zi9 c5 c4 a1 Z a9 hP c6 u D;have d0:=hid L;clear U c6 a1 Z a9 hP c1 b9 c5 c4 u R D h Y e1 L;go_enter func39,ntmps39;go_upto_region 1 with fail;rw [d3.o];refine sV [6] 8 (fun w'=>zH w' H (1+r*5+1) (.pointer (some ⟨l.kb,0,none⟩))/\w'.heap[w.heap.size]?=some (.cells (zJ q).toArray 37 (0,0))) hS fun a3=>?_;refine pV 0 ?_;refine pV 1 ?_;refine pV 2 ?_;refine cV 3 (fun _ h=>h.1) ?_;refine pV 4 ?_;refine cV 5 (fun _ h=>xV (Value.int .i64 q.hd) 2 h.2) ?_;refine lC 6 d2.o ?_;rintro e7 w2 ⟨rfl,e3⟩;subst e3;refine eL ?_;refine pV 7 ?_;refine dV ?_;clear a3 hS;go_upto_region 4 with fail;refine sV [6] 8 (fun w'=>zH w' H (1+r*5+1) (.pointer (some ⟨l.kb,0,none⟩))/\w'.heap[w.heap.size]?=some (.cells (zJ q).toArray 37 (0,0))) ⟨d0.o,d4.o⟩ fun a3=>?_;refine pV 0 ?_;refine pV 1 ?_;refine pV 2 ?_;refine cV 3 (fun _ h=>h.1) ?_;refine pV 4 ?_;refine cV 5 (fun _ h=>xV (Value.int .i64 q.hd) 2 h.2) ?_;refine lC 6 d1.o ?_;rintro e8 w3 ⟨X,cb,d7,rfl,a5,c3,d6⟩;have c7:=a5 _ _ _ (by decide) d5.o;refine eL ?_;refine pV 7 ?_;refine dV ?_;obtain ⟨z,a8⟩:=zi2 c7 c3;have a7:=hid ((zv.below c8.o).trans a5);clear a5 c7 c3 d6 a3;rcases d7 with ⟨rfl,rfl⟩ | ⟨rfl,rfl⟩
 ·go_wp2_with ((with_reducible refine hV 6 ?_);refine wV 0 (zV (qo 0)).toArray z.o ?_);refine jo (an:=qo 0) 6 rfl rfl rfl z.o rfl ⟨qo 0,rfl,by decide,a7.o.setRow (by omega) _,?_⟩;exact HP.o _ _ _ a8.o (jp.setRow z.o _)
 ·go_wp2_with ((with_reducible refine hV 6 ?_);refine wV 0 (zV (qo 4)).toArray z.o ?_);refine jo (an:=qo 4) 6 rfl rfl rfl z.o rfl ⟨qo 4,rfl,by decide,a7.o.setRow (by omega) _,?_⟩;exact HP.o _ _ _ a8.o (jp.setRow z.o _)
end
section
variable {bz:Nat->Prop}
def QN (ts:qE) (n:Nat):Tx:=match ts[n]? with
 | some (some (_,x))=>x
 | _=>ud
theorem Yv {ts:qE} {n T:Nat} {x:Tx} (h:ts[n]?=some (some (T,x))):QN ts n=x:=by unfold QN;rw [h]
def Jn (s:St) (T:Nat):St:=((if (zF s.ts).length=0 then s else s.am 1 (QN s.ts 1)).an T).2
def zkX (s:St):Prop:=(zF s.ts).length≠0->∃ T x,s.ts[1]?=some (some (T,x))/\(x.I≠[]->s.sto.Q.length+395<=14336)
theorem zoZ (a:Va) (b:Vb) (cur:Nat->Nat->List UInt8) (s:St) (w:World) (h:zm w a b cur s) (R:zkX s) :
  zc 47 #[.pointer (some ⟨a.S,0,none⟩)] w fun e w'=>e=.returned (.int .i64 0)/\∃ T Y cur',zm w' a Y cur' (Jn s T)/\qv w w' (qd a b s) (qd a Y (Jn s T)) cur cur' a.r:=by
 have u:=zdt a.S s.ts w h.aq.row h.aq.len;by_cases h0:(zF s.ts).length=0
 ·have D:∀ T,Jn s T=(s.an T).2:=fun T=>by unfold Jn;rw [if_pos h0]
  rw [h0] at u;obtain ⟨O,H,z⟩:=zi3 u h D;clear u h D R h0;go_enter func47,ntmps47;go_upto_region 5 with ((with_reducible refine aV 31 O.o ?_);rintro e1 w1 ⟨rfl,U⟩;subst U);go_wp2_with ((with_reducible refine aV 73 (zdh H.o) ?_);rintro e2 w2 ⟨T,b2,rfl,E,L⟩);go_ret;exact ⟨rfl,T,b2,cur,by rw [z.o];exact E,by rw [z.o];exact L⟩
 ·obtain ⟨T1,x,X,hfit⟩:=R h0;have D:∀ T,Jn s T=((s.am 1 x).an T).2:=fun T=>by unfold Jn;rw [if_neg h0,Yv X]
  obtain ⟨n,a0⟩:=ex ((zF s.ts).length);rw [<- a0] at u h0;clear a0;cases n with
  | zero=>exact absurd rfl h0
  | succ m =>
   have q1:(0:Int)<((m:Int)+1):=by omega
   obtain ⟨O,H,z⟩:=zi3 u h D;have Z:zc 49 #[.pointer (some ⟨a.S,0,none⟩),.int .i64 1] w _:=zbB a b cur s 1 T1 x w h (by omega) (by omega) X hfit;have a3:=hid Z;clear Z u h D R h0 X hfit;go_enter func47,ntmps47;go_upto_region 5 with (first|((with_reducible refine aV 31 O.o ?_);rintro e1 w1 ⟨rfl,U⟩;subst U)|((with_reducible refine aV 49 a3.o ?_);rintro e2 w2 ⟨rfl,b2,a5,E,L⟩));obtain ⟨a1,a4⟩:=zi2 E L;clear E L;go_wp2_with ((with_reducible refine aV 73 (zdh a1.o) ?_);rintro e3 w3 ⟨T,b3,rfl,a6,a7⟩);go_ret;exact ⟨rfl,T,b3,a5,by rw [z.o];exact a6,by rw [z.o];exact a4.o.trans a7⟩
end
section
variable {bz:Nat->Prop}
def jZ (s:St) (T k:Nat):St:=if k % 8=0 then Jn s T else s
def uy (r k T:Nat) (nbs:Nat->Nat) (nb:Nat) (rw:Rw) (s:St):Nat × St:=(jZ s T k).put r nbs nb 1 (QN (jZ s T k).ts 1).ops rw
def uX (r:Nat):List Rw->Nat->St->St->Prop
 | [],_,s,s'=>s'=s
 | rw::l,k,s,s'=>∃ T nbs nb,uX r l (k+1) (uy r k T nbs nb rw s).2 s'
theorem uX.hz {r:Nat} {rw:Rw} {T:Nat} {nbs:Nat->Nat} {nb:Nat}:∀ {l:List Rw} {k:Nat} {s s':St},uX r l k s s'->uX r (l++[rw]) k s (uy r (k+l.length) T nbs nb rw s').2
 | [],k,s,s',h=>by have u:s'=s:=h;subst u;exact ⟨T,nbs,nb,rfl⟩
 | x::l,k,s,s',⟨T',nbs',nb',h⟩=>⟨T',nbs',nb',by
  have:=uX.hz (rw:=rw) (T:=T) (nbs:=nbs) (nb:=nb) h;rw [show k+1+l.length=k+(x::l).length by simp;omega] at this;exact this⟩
structure zcp (r:Nat) (rows:List Rw) (G:Nat->St->Prop):Prop where
 zero:G 0 Zz
 next:∀ k s,G k s->k<rows.length->k % 8=0->zkX s
 put:∀ k s T,G k s->k<rows.length->∃ T' x,(jZ s T k).ts[1]?=some (some (T',x))/\WF (jZ s T k).lk/\qe (jZ s T k).N/\(jZ s T k).N.length<=900/\(∀ y,y∈(jZ s T k).N->y.pg<6/\y.sl<5)/\(jZ s T k).sto.J+1<4294967296
 step:∀ k s T nbs nb rw,G k s->rows[k]?=some rw->rw.ok/\(uy r k T nbs nb rw s).1=0/\G (k+1) (uy r k T nbs nb rw s).2
 i6:∀ s,G rows.length s->rows≠[]->∃ T x,s.ts[1]?=some (some (T,x))/\(x.I≠[]->s.sto.Q.length+395<=14336)
def zau (r:Nat) (h:List Rw) (s':St):Prop:=∃ s,uX r h 0 Zz s/\s'=if h=[] then s else s.am 1 (QN s.ts 1)
theorem zcO (H D r:Nat) (F:Nat->Prop) (cur:Nat->Nat->List UInt8) (ts:Nat->Tn) (boots:Nat) (q:Rq) (v:Value) (O:List Rw) (B:Nat) (G:Nat->St->Prop) (w:World) (P:An->World->Prop) (h:zN bz w H D F cur ts boots) (hr:r<4) (hl:(ts r).ad=none) (p6:q.tn=r)
  (hv:w.ownsRow B 34 3 v O.length (jn O)) (y6:O.length<=1000) (hC:zcp r O G) (hP:∀ a W W',P a W->jp W W'->P a W') (g9:(ts r).ct+1<1000000) (x9:boots<1000000)
  (hend:∀ l F' cur' W,zau r O l.s->l.ep=((Za ((ts r).ct+1) boots:Nat):Int)->l.nx=0->l.hs=[]->zN bz W H D F' cur' (vt ts F' r ⟨1,(ts r).ct+1,some l⟩) boots->P (qo 0) W) :
  zc 28 #[.pointer (some ⟨H,0,none⟩),.pointer (some ⟨H,1+r*5,none⟩),.agg (zJ q).toArray,v] w fun e W'=>∃ a,e=.returned (.agg (zV a).toArray)/\a.Z≠10/\zv bz w W'/\P a W':=by
 obtain ⟨vA,vc,rfl⟩:=own_slice hv;obtain ⟨f0,HC⟩:=zi2 hv hC;clear hv hC;obtain ⟨w1,e2⟩:=ex (QD w q);have g3:zd w w1:=by rw [e2];exact yO w q
 have g6:w1.heap[w.heap.size]?=some (.cells (zJ q).toArray 37 (0,0)):=by rw [e2];exact ZI w q
 have l5:w1.heap[w.heap.size+1]?=some (.cells qJ 31 (0,0)):=by rw [e2];exact Zn w q
 have q2:(w.alloc (.cells (zJ q).toArray 37)).alloc (.cells qJ 31)=w1:=e2.symm;have b9:=h.below g3;obtain ⟨o7,hz⟩:=b9.cg r hr hl;have hc:=Gl D (fun r=>(ts r).t5) boots r hr;have p0:(ts r).t5=⟨.pointer none,.pointer none,.int .i64 0,.int .u64 (ts r).ct,.bool false⟩:=by unfold Tn.t5;rw [hl];simp only [o7];rfl
 have k2:=(ze w1 H (1+r*5+2) _ _ _ b9.U).trans hc.2.2.1;have f9:=(ze w1 H (1+r*5+3) _ _ _ b9.U).trans hc.2.2.2.1;simp only [p0] at k2 f9;have cD:=xV _ 0 b9.U (zdk D (fun r=>(ts r).t5) boots);have o6:=zmG D r F cur w1.drew b9.ar.drew hr (fun q h1 h2=>hz q (by omega) h2);have hS:=And.intro cD g6;obtain ⟨E,a5⟩:=ex ((ts r).ct+1);have A2:IntKind.u64.wrap ((((ts r).ct:Nat):Int)+1)=(E:Int):=by rw [show ((((ts r).ct:Nat):Int)+1)=(E:Int) by omega];exact vG _ (by omega)
 rw [<- a5] at g9 hend;have z8:=hid a5;clear a5;obtain ⟨t9,d4,j5,j7,HP,s2,v3,R⟩:=zi8 o6 g3 g6 l5 hP hend q2 b9;have A0:=hid (zi b9.U);clear e2 q2 g3 g6 l5 hP hend b9 h o6 hz o7 hc p0 cD;go_enter func28,ntmps28;go_upto_region 1 with fail;rw [v3.o];go_upto_region 3 with fail;refine sV [6] 12 (fun w'=>zH w' H 0 (.pointer (some ⟨D,0,none⟩))/\w'.heap[w.heap.size]?=some (.cells (zJ q).toArray 37 (0,0))) hS fun U=>?_;refine pV 0 ?_;refine pV 1 ?_;refine pV 2 ?_;refine cV 3 (fun _ h=>h.1) ?_;refine pV 4 ?_;refine cV 5 (fun _ h=>xV (Value.int .i64 r) 1 h.2 (by rw [<- p6];rfl)) ?_;refine lC 6 t9.o ?_;rintro k4 w2 ⟨a,b,f3,rfl,l6,l7,k5,n7,d9,n0,n9⟩;refine eL ?_;refine pV 7 ?_;refine pV 8 ?_;refine pV 9 ?_;refine pV 10 ?_;refine pV 11 ?_;refine dV ?_;have q5:=qK (show w1.drew.heap[_]?=_ from j5.o) d9 (fun X=>by have:=R.o.ar.ah X;rw [zh j5.o] at this;simp at this);have q8:=qK (show w1.drew.heap[_]?=_ from j7.o) d9 (fun X=>by have:=R.o.ar.ah X;rw [zh j7.o] at this;simp at this);have i2:=qK (show w1.drew.heap[_]?=_ from R.o.U) d9 (fun X=>by have:=R.o.ar.ah X;rw [zh R.o.U] at this;simp at this);have k3:=xV _ (1+r*5+3) i2 ((ze w1 H (1+r*5+3) _ _ _ R.o.U).symm.trans f9);have f1:=hid q5;have f2:=hid q8;obtain ⟨d6,c1,j1,c8,j0,j2,e6,d3⟩:=zi8 i2 k5 n7 d9 n0 n9 l6 l7;clear q5 q8 i2 k5 n7 d9 n0 n9 U hS k2 f9 l6 l7;have p9:w2.ownsRow B 34 3 (.slice vA O.length vc) O.length (jn O):=own_same f0.o fun x u=>by have Z:=(f0.o.lt x u).2;have y4:x<w1.heap.size:=qg Z d4.o.size;refine (c8.o.block x y4 (fun X=>?_)).trans (d4.o.block x Z);have:=R.o.ar.ah X;rw [show qP w1 x=34 from (jW (d4.o.block x Z)).trans (own_tag f0.o u)] at this;simp at this
 have e9:=hid p9;clear p9;obtain ⟨d7,hR⟩:∃ d7:Nat->World->Prop,d7=fun k wr=>∃ b' cur' s',zm wr a b' cur' s'/\qv w2 wr (qd a b Zz) (qd a b' s') f3 cur' a.r/\uX a.r (O.take k) 0 Zz s'/\G k s':=⟨_,rfl⟩;have l3:d7 0 w2:=by rw [hR];exact ⟨b,f3,Zz,c1.o,qv.refl _ _ _ _,rfl,HC.o.zero⟩
 obtain ⟨HR,j3⟩:=zi2 hR l3;clear hR l3;go_upto_region 5 with fail;go_loopw [10,33] (fun v i7 wr=>∃ k:Nat,k<=O.length/\v=.int .i64 0/\i7=.int .i64 k/\d7 k wr) (fun _ i7 _=>(O.length-jF i7).toNat)
 case atStart=>exact ⟨0,zT _,rfl,rfl,j3.o⟩
 case round =>
  obtain ⟨k,hk,rfl,rfl,o2⟩:=hrel;rw [HR.o] at o2;obtain ⟨b',cur',s',hA,hE,e1,hG⟩:=o2;by_cases Z:k<O.length
  ·obtain ⟨x,u⟩:∃ x,O[k]?=some x:=⟨_,zX Z⟩;have q1:wr.ownsRow B 34 3 (.slice vA O.length vc) O.length (jn O):=own_same e9.o fun q0 hq=>hE.ac.block q0 (e9.o.lt q0 hq).2 (c1.o.cc (own_tag e9.o hq) (by decide));obtain ⟨gv,rfl,y1,y0,o3⟩:=YW q1 u;have q0:(0:Int)<=(k:Int):=by omega
   have z6:(k:Int)<(O.length:Int):=by omega
   have A3:IntKind.i64.wrap ((k:Int)+1)=(k:Int)+1:=by rw [zu];omega
   obtain ⟨L,a7⟩:=ex (wr.alloc (.cells (qB x).toArray 34));have a3:zd wr L:=by rw [a7];exact B_alloc (zf _ _) _
   have q4:L.heap[wr.heap.size]?=some (.cells (qB x).toArray 34 (0,0)):=by rw [a7];exact zo _ _ rfl
   obtain ⟨HX,t7,v4,c7,f7,HA,HE,e8,HG⟩:=zi9 u o3 a7 a3 q4 hA hE e1 hG;clear u q1 o3 a7 a3 q4 hA hE e1 hG y1 y0;go_upto_if 44 with (first|((with_reducible refine gV 37 ?_);refine mV (qB x) t7.o ?_)|((with_reducible refine hV 12 ?_);refine nV (qB x).toArray (by simp [qB,Value.oneCell']) ?_));rw [show wr.alloc (.cells (qB x).toArray 34)=L from v4.o.symm];have d1:=HA.o.below c7.o;have c2:=hid d1;clear d1;go_cut [10] from 38 to 46 (fun i6 wc=>i6=.int .i64 0/\∃ T b4 c3,zm wc a b4 c3 (jZ s' T k)/\qv L wc (qd a b' s') (qd a b4 (jZ s' T k)) cur' c3 a.r)
   case first =>
    by_cases h8:k % 8=0
    ·have z7:(((k:Int) % 8 == 0):Bool)=true:=by simp;omega
     have a5:∀ T,jZ s' T k=Jn s' T:=fun T=>if_pos h8;have n5:zc 47 #[.pointer (some ⟨a.S,0,none⟩)] L _:=zoZ a b' cur' s' L c2.o (HC.o.next k s' HG.o Z h8);obtain ⟨t1,d5⟩:=zi2 n5 a5;clear n5 a5;go_wp2_with ((with_reducible refine aV 47 t1.o ?_);rintro x0 w4 ⟨rfl,T,b4,c3,a8,d2⟩);go_meet
     case rel=>exact ⟨rfl,T,b4,c3,by rw [d5.o];exact a8,by rw [d5.o];exact d2⟩
    ·have z7:(((k:Int) % 8 == 0):Bool)=false:=by simp;omega
     have a5:jZ s' 0 k=s':=if_neg h8;have d5:=hid a5;clear a5;go_wp2_with fail;go_meet
     case rel=>exact ⟨rfl,0,b',cur',by rw [d5.o];exact c2.o,by rw [d5.o];exact qv.refl _ _ _ _⟩
   case rest =>
    obtain ⟨rfl,T,b4,c3,a8,d2⟩:=hcut;obtain ⟨T4,x4,e3,p1,p2,p3,p4,p5⟩:=HC.o.put k s' T HG.o Z;obtain ⟨s4,h9⟩:=ex (jZ s' T k);have f4:=fun nbs nb=>HC.o.step k s' T nbs nb x HG.o HX.o;have r3:=(f4 (fun _=>0) 0).1;have g8:∀ nbs nb,uy a.r k T nbs nb x s'=s4.put a.r nbs nb 1 x4.ops x:=fun nbs nb=>by unfold uy;rw [<- h9] at e3 ⊢;rw [Yv e3]
    have m0:∀ nbs nb,uy r k T nbs nb x s'=s4.put a.r nbs nb 1 x4.ops x:=fun nbs nb=>by rw [<- d3.o];exact g8 nbs nb
    rw [<- h9] at a8 d2 e3 p1 p2 p3 p4 p5;have r4:=(d2.ac.block wr.heap.size (zi f7.o) (c2.o.cc (zh f7.o) (by decide))).trans f7.o;have o1:zc 48 #[.pointer (some ⟨a.S,0,none⟩),.int .i64 1,.agg (qB x).toArray] wc _:=zmj a b4 c3 s4 1 T4 x4 x wc a8 (by omega) (by omega) e3 r3 p1 p2 p3 p4 p5;have k9:qv w2 wc (qd a b Zz) (qd a b4 s4) f3 c3 a.r:=(HE.o.trans ⟨vq.refl _ _,(zA.ak c7.o),qN.refl _ _⟩).trans d2;obtain ⟨t5,r9,v7⟩:=zi3 o1 g8 r4;have o8:=fun nbs nb=>And.intro (f4 nbs nb).2.1 (f4 nbs nb).2.2;have o9:∀ nbs nb,(s4.put a.r nbs nb 1 x4.ops x).1=0/\G (k+1) (s4.put a.r nbs nb 1 x4.ops x).2:=fun nbs nb=>by rw [<- m0 nbs nb];exact o8 nbs nb
    obtain ⟨j4,s0⟩:=zi2 o9 k9;clear o1 g8 m0 f4 o8 o9 k9 r4 h9 e3 p1 p2 p3 p4 p5 a8 d2 r3;go_upto_region 11 with (first|((with_reducible refine gV 50 ?_);refine rV v7.o ?_)|((with_reducible refine aV 48 t5.o ?_);rintro x1 w5 ⟨nbs,nb,b5,w0,rfl,k6,l0⟩;rw [(j4.o nbs nb).1]));have l4:d7 (k+1) w5:=by rw [HR.o];refine ⟨b5,w0,_,k6,s0.o.trans l0,?_,(j4.o nbs nb).2⟩;rw [yH Z,show O[k]=x by have:=HX.o;rw [zX Z] at this;injection this];have z:=uX.hz (rw:=x) (T:=T) (nbs:=nbs) (nb:=nb) e8.o;rw [qf,Nat.min_eq_left hk,qy,r9.o] at z;exact z
    have t6:=hid l4;clear l4 k6 l0;go_wp2_with fail;go_roundw
    case rel=>exact ⟨k+1,by omega,rfl,by simp,t6.o⟩
    case measure=>simp [jF];omega
  ·have y3:k=O.length:=by omega
   subst y3;rw [qi] at e1;obtain ⟨HA,HE,e8,HG⟩:=zi4 hA hE e1 hG;clear hA hE e1 hG hk;obtain ⟨n,hn⟩:=ex O.length;have HN:=hid hn;rw [<- hn] at Z y6 ⊢;clear hn;go_upto_if 59 with fail;go_cut [10] from 53 to 61 (fun i6 wc=>i6=.int .i64 0/\∃ Y a0 s9,zm wc a Y a0 s9/\qv w2 wc (qd a b Zz) (qd a Y s9) f3 a0 a.r/\zau a.r O s9)
   case first =>
    cases n with
    | zero =>
     have n4:O=[]:=yd HN.o.symm;have t0:=hid n4;clear n4;go_wp2_with fail;go_meet
     case rel=>exact ⟨rfl,b',cur',s',HA.o,HE.o,s',e8.o,by rw [if_pos t0.o]⟩
    | succ m =>
     have h7:O≠[]:=fun e=>by have:=HN.o;rw [e] at this;simp at this
     obtain ⟨T5,x5,i1,m4⟩:=HC.o.i6 s' HG.o h7;have l9:zc 49 #[.pointer (some ⟨a.S,0,none⟩),.int .i64 1] wr _:=zbB a b' cur' s' 1 T5 x5 wr HA.o (by omega) (by omega) i1 m4;have p7:zau a.r O (s'.am 1 x5):=⟨s',e8.o,by rw [if_neg h7,Yv i1]⟩;have z6:(0:Int)<((m:Int)+1):=by omega
     obtain ⟨r8,v1⟩:=zi2 l9 p7;clear l9 p7 h7 i1 m4;go_wp2_with ((with_reducible refine aV 49 r8.o ?_);rintro x2 w6 ⟨rfl,b6,w3,x3,x6⟩);go_meet
     case rel=>exact ⟨rfl,b6,w3,_,x3,HE.o.trans x6,v1.o⟩
   case rest =>
    obtain ⟨rfl,Y,a0,s9,k7,a9,p8⟩:=hcut;have q7:=(a9.ac.block _ (zi f1.o) (c1.o.cc (zh f1.o) (by decide))).trans f1.o;have r2:=(a9.ac.block _ (zi f2.o) (c1.o.cc (zh f2.o) (by decide))).trans f2.o;have i5:=(a9.ac.block _ (zi d6.o) (c1.o.cc (zh d6.o) (by decide))).trans d6.o;have v9:=xV _ (1+r*5+3) i5 ((ze w2 H (1+r*5+3) _ _ _ d6.o).symm.trans k3);have y8:w1.heap.size<=w2.heap.size:=c8.o.size;have f5:∀ x,qd a b Zz x->F x∨w1.heap.size<=x:=fun x u=>u.elim (fun z=>.inr (j2.o x z)) fun z=>j0.o x z;have n3:∀ x,qd a Y s9 x->F x∨w1.heap.size<=x:=fun x u=>(a9.new x u).elim (f5 x) fun z=>.inr (zz y8 z);have n6:∀ x,x<w1.heap.size->¬ F x->wc.heap[x]?=w1.heap[x]?:=fun x h1 h2=>(a9.ac.block x (by omega) (fun z=>(f5 x z).elim h2 (by omega))).trans (c8.o.block x h1 h2);have n8:vq cur a0 r:=j1.o.trans (by rw [<- d3.o];exact a9.out);have h6:zv bz w1 wc:=(zv.ay (zv.ac R.o.base.2.1 (fun x t c ht u=>qK u c8.o (fun X=>ht (by
     have z:=R.o.ar.ah X;rw [zh (show w1.heap[x]?=_ from u)] at z;simp only [zO,qZ,or_false] at z ⊢;omega))) c8.o)).trans (zv.store (fun x u=>(f5 x u).elim (R.o.base.2.1 x) (fun z=>R.o.ej z)) c1.o a9)
    have z5:w1.heap.size<=wc.heap.size:=h6.size;obtain ⟨j6,j9,k1,r7,e7,t2,t3,s6,v2⟩:=zi9 q7 r2 i5 k7 n3 n6 n8 h6 p8;clear q7 r2 i5 k7 f5 n3 n6 n8 h6 p8 a9 k3 f1 f2 d6 c1 j1 c8 j0 j2 e9 HR j3 f0;go_upto_region 16 with ((with_reducible refine hV 13 ?_);refine nV #[.int .i64 1,.int .u64 E] (by simp [Value.oneCell']) ?_);obtain ⟨L,a7⟩:=ex (wc.alloc (.cells #[.int .i64 1,.int .u64 E] 68));rw [<- a7];have a3:zd wc L:=by rw [a7];exact B_alloc (zf _ _) _
    have g5:L.heap[wc.heap.size]?=some (.cells #[.int .i64 1,.int .u64 E] 68 (0,0)):=by rw [a7];exact zo _ _ rfl
    have q6:=zg j6.o a3 (zi j6.o);have q9:=zg j9.o a3 (zi j9.o);have i3:=zg k1.o a3 (zi k1.o);have d1:=r7.o.below a3;have h3:jk L D Y.F a0:=by have:=d1.sto.ar;rw [e6.o] at this;exact this
    have o4:=zaP D Y.F a0 r 1 E L.drew h3.drew hr (by omega) (by omega);have o5:zc 50 #[.pointer (some ⟨D,0,none⟩),.int .i64 r,.agg #[.int .i64 1,.int .u64 E]] L.drew _:=o4;have hS:L.drew.cell? ⟨H,0,none⟩=some (.pointer (some ⟨D,0,none⟩))/\L.drew.heap[w.heap.size]?=some (.cells (zJ q).toArray 37 (0,0))/\L.drew.heap[wc.heap.size]?=some (.cells #[.int .i64 1,.int .u64 E] 68 (0,0)):=⟨(xV _ 0 i3 (zdk _ _ _)),q6,g5⟩;have t8:=hid o5;obtain ⟨c7,i9,j8,k0,c2,i8⟩:=zi6 a3 g5 q9 i3 d1 h3;clear a7 a3 g5 q6 q9 i3 d1 h3 o4 o5 v9;refine sV [7] 9 (fun w'=>zH w' H 0 (.pointer (some ⟨D,0,none⟩))/\w'.heap[w.heap.size]?=some (.cells (zJ q).toArray 37 (0,0))/\jJ w' wc.heap.size #[.int .i64 1,.int .u64 E] 68) hS fun U=>?_;refine pV 0 ?_;refine pV 1 ?_;refine pV 2 ?_;refine cV 3 (fun _ h=>h.1) ?_;refine pV 4 ?_;refine cV 5 (fun _ h=>xV (Value.int .i64 r) 1 h.2.1 (by rw [<- p6];rfl)) ?_;refine kV 6 rfl (qR 68 (.tmp 13) rfl (by rfl) wc.heap.size (by rfl) 68 #[.int .i64 1,.int .u64 E] (0,0) _ (fun _ h=>h.2.2) underlying68 rfl (by kernel_rfl)) ?_;refine lC 7 t8.o ?_;rintro x0 w4 ⟨rfl,F4,g4,c5,n1⟩;refine eL ?_;refine pV 8 ?_;refine dV ?_;have c6:∀ {x t:Nat} {C:Array Value},L.heap[x]?=some (.cells C t (0,0))->t ∉ [81,118,86,120]->¬ Y.F x:=fun u ht X=>ht (by have:=i8.o.ah X;rw [zh u] at this;exact this);have l1:=qK (show L.drew.heap[_]?=_ from i9.o) c5 (c6 i9.o (by decide));have r0:=qK (show L.drew.heap[_]?=_ from j8.o) c5 (c6 j8.o (by decide));have i4:=qK (show L.drew.heap[_]?=_ from k0.o) c5 (c6 k0.o (by decide));have a8:zm w4 a { Y with F:=F4 } (ve a0 r 0 (jN (yT 1 E))) s9:=c2.o.drew.c4 (fun x u=>c5.block x (c2.o.lt (.inl u)) (c2.o.da u)) c5.size (by rw [e6.o];exact g4) (fun q0 hq=>by
     unfold ve;rw [d3.o,zk,zy _ _ (by omega)])
    have m2:=zfH H D 1 E boots _ w4.drew (show w4.drew.heap[_]?=_ from i4) g9 x9;have m3:zc 45 #[.pointer (some ⟨H,0,none⟩),.agg #[.int .i64 1,.int .u64 E]] w4.drew _:=m2;have s3:=hid m3;obtain ⟨s7,v6,a1,e5,z9,f6,s8⟩:=zi7 l1 r0 i4 a8 g4 c5 n1;clear c6 l1 r0 i4 a8 m2 m3 g4 c5 n1 hS U;go_upto_region 19 with fail;refine sV [9] 10 (fun w'=>jJ w' wc.heap.size #[.int .i64 1,.int .u64 E] 68/\jJ w' H (hC D (fun r=>(ts r).t5) boots) 73) ⟨s7.o,a1.o⟩ fun U=>?_;refine pV 0 ?_;refine pV 1 ?_;refine pV 2 ?_;refine kV 3 rfl (qR 68 (.tmp 13) rfl (by rfl) wc.heap.size (by rfl) 68 #[.int .i64 1,.int .u64 E] (0,0) _ (fun _ h=>h.1) underlying68 rfl (by kernel_rfl)) ?_;refine kV 6 rfl (qR 68 (.tmp 13) rfl (by rfl) wc.heap.size (by rfl) 68 #[.int .i64 1,.int .u64 E] (0,0) _ (fun _ h=>h.1) underlying68 rfl (by kernel_rfl)) ?_;refine oC 4 s3.o ?_;rintro x1 w5 ⟨rfl,a4⟩;refine eV ⟨zg U.1 a4 (zi U.1),zg U.2 a4 (zi U.2)⟩ fun U=>?_;refine oC 5 (Dk.new_any (Za E boots) w5) ?_;rintro x2 w6 ⟨rfl,m1,c4,z2⟩;refine eV ⟨zg U.1 c4 (zi U.1),zg U.2 c4 (zi U.2)⟩ fun U=>?_;refine pV 7 ?_;refine pV 8 ?_;refine lV 9 fun K hK=>?_;have e4:=zg (zg (show w4.drew.heap[H]?=_ from a1.o) a4 (zi a1.o)) c4 (qg (zi a1.o) a4.size);refine vV 70 (.tmp 91) (.tmp 90) rfl H (1+r*5) 73 _ #[.pointer (some ⟨a.S,0,none⟩),.pointer (some ⟨w5.heap.size+1,0,none⟩),.int .i64 1,.int .u64 E,.bool false] (by rfl) (by rfl) e4 (by rw [Kz];simp;omega) (by kernel_rfl) (by simp [Value.oneCell']) ?_;refine hK.out _ _ ?_;clear hK K;try simp only [pS]
    refine dV ?_;obtain ⟨l,a6⟩:∃ l:Tl,l=⟨a,{ Y with F:=F4 },s9,w5.heap.size+1,w5.heap.size,((Za E boots:Nat):Int),0,[]⟩:=⟨_,rfl⟩;obtain ⟨w7,c0⟩:=ex (w6.setRow H (hC D (zZ (fun i=>(ts i).t5) r (Tn.t5 ⟨1,E,some l⟩)) boots));have hput:=zhk D (fun i=>(ts i).t5) boots r hr (Tn.t5 ⟨1,E,some l⟩);have q3:w6.setRow H (List.take (1+r*5) (hC D (fun r=>(ts r).t5) boots).toList++[Value.pointer (some ⟨a.S,0,none⟩),Value.pointer (some ⟨w5.heap.size+1,0,none⟩),Value.int .i64 1,Value.int .u64 E,Value.bool false]++List.drop (1+r*5+5) (hC D (fun r=>(ts r).t5) boots).toList).toArray=w7:=by rw [c0,<- hput,a6];rfl
    have e4:=zg (zg (show w4.drew.heap[H]?=_ from a1.o) a4 (zi a1.o)) c4 (qg (zi a1.o) a4.size);have r5:w4.heap.size<=w5.heap.size:=a4.size;have z3:=c4.size;have z1:L.heap.size<=w4.heap.size:=f6.o.size;have z0:=c7.o.size;have y9:w1.heap.size<=wc.heap.size:=z5;have y7:=d4.o.size;have z4:w7.heap.size=w6.heap.size:=by rw [c0];simp
    have g7:Below w4.heap.size w4.drew w6:=a4.trans (c4.mono r5);have d0:∀ x,x≠H->w7.heap[x]?=w6.heap[x]?:=fun x u=>by rw [c0];exact setRow_other w6 H x _ u
    have n2:∀ x,qd a { Y with F:=F4 } s9 x->x≠H:=fun x u e=>by subst e;exact e5.o.cc (zh a1.o) (by decide) u
    have g2:∀ x,x<w4.heap.size->x≠H->w7.heap[x]?=w4.heap[x]?:=fun x u hn=>(d0 x hn).trans (g7.block x u);have i0:zm w7 a { Y with F:=F4 } (ve a0 r 0 (jN (yT 1 E))) s9:=e5.o.same (fun x u=>g2 x (e5.o.lt u) (n2 x u)) (by omega);have k8:jk w7 D F4 (ve a0 r 0 (jN (yT 1 E))):=by have:=i0.sto.ar;rw [e6.o] at this;exact this
    have d8:∀ x,w1.heap.size<=x->¬ bz x:=fun x u=>R.o.ej u;have l8:∀ x,Y.F x->¬ bz x:=fun x u=>(e7.o x (.inr u)).elim (R.o.base.2.1 x) (fun z=>by have g0:w1.heap.size<=x:=z;exact d8 x g0);have x7:∀ x,F4 x->¬ bz x:=fun x u=>(s8.o x u).elim (l8 x) (fun z=>by have g0:L.heap.size<=x:=z;exact d8 x (by omega));have x8:∀ (l':Tl) (x:Nat),(some l:Option Tl)=some l'->YY l' x->¬ bz x:=fun l' x e u=>by
     injection e with e;subst e;rw [a6] at u;rcases u with u | u | u
     ·exact (e7.o x (.inl u)).elim (R.o.base.2.1 x) (d8 x)
     ·have z:x=w5.heap.size+1:=u;exact d8 x (by omega)
     ·have z:x=w5.heap.size:=u;exact d8 x (by omega)
    have m5:zN bz w7 H D F4 (ve a0 r 0 (jN (yT 1 E))) (vt ts F4 r ⟨1,E,some l⟩) boots:=by
     refine zN.ga (qs.step (k':=4) (boots':=boots) R.o ⟨1,E,some l⟩ hr (fun i hi _=>hi) ?_ k8 ?_ ⟨za _,g9⟩ ?_ (fun e=>by cases e) ?_ ?_ (by omega) ?_ x7 x8) ?_
     ·rw [c0];exact setRow_heap w6 H _ _ 73 _ e4
     ·unfold ve;rw [zk,zk]
     ·intro l2 e;injection e with e;subst e;refine ⟨?_,rfl⟩;rw [a6];refine ⟨i0,e6.o,d3.o,rfl,?_,?_⟩
      ·have A1:=zi a1.o;exact Dk.DeskAt.same m1 (d0 _ (by simp only;omega)) (d0 _ (by simp only;omega))
      ·intro u;have:=e5.o.lt u;simp only at this;omega
     ·intro i l2 x hi y2 e0 u;obtain ⟨h2,_⟩:=R.o.ad i l2 hi e0;have Z:=(h2.ah x u).2;have c6:=h2.da u;have y5:¬ Y.F x:=fun X=>(e7.o x (.inr X)).elim c6 (fun z=>by have g0:w1.heap.size<=x:=z;omega);have w8:wc.heap[x]?=w1.heap[x]?:=t2.o x Z c6;have k4:L.heap[x]?=wc.heap[x]?:=c7.o.block x (by omega);have w9:w4.heap[x]?=L.heap[x]?:=f6.o.block x (show x<L.heap.size by omega) y5;rw [g2 x (by omega) (qs.d4 R.o hi e0 (.inl u)),w9,k4,w8]
     ·intro i q0 hi;unfold ve;rw [zy _ _ hi];exact t3.o i q0 (.inl hi)
     ·intro l2 x e u i r6 hi y2 e0 hy;injection e with e;subst e;have Z:=((R.o.ad i r6 hi e0).1.ah x hy).2;rw [a6] at u;rcases u with u | u | u
      ·rcases e7.o x (.inl u) with z | z
       ·exact ((R.o.ad i r6 hi e0).1).da hy z
       ·omega
      ·have z:x=w5.heap.size+1:=u;omega
      ·have z:x=w5.heap.size:=u;omega
     ·funext i;by_cases e:i=r
      ·subst e;rw [zk,jH]
      ·rw [zy _ _ e,vL _ _ _ e,Tn.en]
    have m9:∀ {W W':World} {G:Nat->Prop},(∀ x,G x->¬ bz x)->(∀ x,G x->qP W x∈[81,118,86,120])->zA G W W'->zv bz W W':=fun hb hG hk=>zv.ac hb (fun x t c ht u=>qK u hk (fun X=>ht (by
     have z:=hG x X;rw [zh u] at z;simp only [zO,qZ,or_false] at z ⊢;omega))) hk
    have m6:zv bz w1 wc:=s6.o;have m7:zv bz L w4:=zv.ay (m9 (W:=L.drew) l8 (fun x u=>i8.o.ah u) f6.o);have h4:zv bz w4 w6:=zv.ay (zv.below (A:=w4.drew) g7);have h5:zv bz w6 w7:=⟨fun x t c ht u=>(d0 x (fun e=>by
     subst e;rw [e4] at u;injection u with u;injection u with _ u;subst u;exact ht (by decide))).trans u,by rw [c0];rfl,by rw [c0];rfl,by rw [c0];rfl,by omega,fun x h1 _=>d0 x (fun e=>R.o.base.1 (e ▸ h1))⟩
    have m8:zv bz w w7:=(zv.below d4.o).trans (m6.trans ((zv.below c7.o).trans (m7.trans (h4.trans h5))));have r1:=h5 _ _ _ (by decide) (h4 _ _ _ (by decide) v6.o);have o0:=s2.o l F4 _ w7 (by rw [a6,<- d3.o];exact v2.o) (by rw [a6]) (by rw [a6]) (by rw [a6]) m5;obtain ⟨v5,s5,f8,t4⟩:=zi4 q3 m8 r1 o0;clear a6 c0 hput q3 e4 r5 z3 z1 z0 y9 y7 z4 g7 d0 n2 g2 i0 k8 m5 m9 m6 m7 h4 h5 m8 r1 o0 a4 m1 c4 z2 U;refine (by assumption:∀ a w,Code.wp prog (Code.seq _ _) _ a w->_) _ _ ?_;rw [show ((#[Value.pointer (some ⟨a.S,0,none⟩),Value.pointer (some ⟨w5.heap.size+1,0,none⟩),Value.int .i64 1,Value.int .u64 E,Value.bool false]:Array Value).size)=5 from rfl,v5.o];go_wp2_with ((with_reducible refine hV 8 ?_);refine wV 0 (zV (qo 0)).toArray f8.o ?_);refine jo (an:=qo 0) 8 rfl rfl rfl f8.o rfl ⟨qo 0,rfl,by decide,s5.o.setRow (by omega) _,?_⟩;exact HP.o _ _ _ t4.o (jp.setRow f8.o _)
end
section
variable {bz:Nat->Prop}
theorem zki (b:List UInt8):(jb b).1=0∨(jb b).1=9∨(jb b).1=7:=by
 unfold jb;split
 ·exact .inr (.inl rfl)
 ·split
  ·exact .inr (.inl rfl)
  ·split
   ·exact .inr (.inl rfl)
   ·split
    ·exact .inr (.inl rfl)
    ·split
     ·exact .inr (.inr rfl)
     ·exact .inl rfl
theorem zcp.nil (r:Nat):zcp r [] fun _ s=>s=Zz:=⟨rfl,fun k s _ h=>absurd h (Nat.not_lt_zero k),fun k s T _ h=>absurd h (Nat.not_lt_zero k),fun k s T nbs nb rw _ h=>(by simp at h),fun s _ h=>absurd rfl h⟩
theorem zkB (H D r:Nat) (F:Nat->Prop) (cur:Nat->Nat->List UInt8) (ts:Nat->Tn) (boots:Nat) (q:Rq) (b:List UInt8) (G:Nat->St->Prop) (w:World) (P:An->World->Prop) (c6:zN bz w H D F cur ts boots) (hr:r<4) (hl:(ts r).ad=none) (d5:q.tn=r)
  (h:q.kd=0∨q.kd=14) (hP:∀ a W U,P a W->jp W U->P a U) (hb:zj w (.slice q.dA q.dn q.dc) b) (e0:b.length<=100000) (d1:(ts r).ct+1<1000000) (c8:boots<1000000)
  (hC:(jb b).1=0->(jb b).2.length<=30/\zcp r (jb b).2 G)
  (d2:q.kd=14->(jb b).1≠0->∀ W,zN bz W H D F cur ts boots->P (qo (jb b).1) W)
  (hend:(q.kd=14->(jb b).1=0)->∀ l F' cur' W,zau r (if q.kd=0 then [] else (jb b).2) l.s->l.ep=((Za ((ts r).ct+1) boots:Nat):Int)->l.nx=0->l.hs=[]->zN bz W H D F' cur' (vt ts F' r ⟨1,(ts r).ct+1,some l⟩) boots->P (qo 0) W) :
  zc 23 #[.pointer (some ⟨H,0,none⟩),.pointer (some ⟨H,1+r*5,none⟩),.agg (zJ q).toArray] w fun e U=>∃ a,e=.returned (.agg (zV a).toArray)/\a.Z≠10/\zv bz w U/\P a U:=by
 obtain ⟨w1,Y⟩:=ex (QD w q);have a1:zd w w1:=by rw [Y];exact yO w q
 have a3:w1.heap[w.heap.size]?=some (.cells (zJ q).toArray 37 (0,0)):=by rw [Y];exact ZI w q
 have c7:w1.heap[w.heap.size+1]?=some (.cells qJ 31 (0,0)):=by rw [Y];exact Zn w q
 have k0:=xV (Value.int .i64 q.kd) 0 a3;have k9:=xV (Value.slice q.dA q.dn q.dc) 9 a3;have a4:=c6.below a1;have hc:=Gl D (fun r=>(ts r).t5) boots r hr;obtain ⟨d3,hz⟩:=a4.cg r hr hl;have d4:(ts r).t5=⟨.pointer none,.pointer none,.int .i64 0,.int .u64 (ts r).ct,.bool false⟩:=by unfold Tn.t5;rw [hl];simp only [d3];rfl
 have d8:=(ze w1 H (1+r*5+2) _ _ _ a4.U).trans hc.2.2.1;simp only [d4] at d8;have d6:(w.alloc (.cells (zJ q).toArray 37)).alloc (.cells qJ 31)=w1:=Y.symm;have a0:=hid (zcW (.slice q.dA q.dn q.dc) b w1 (hb.below a1) e0);obtain ⟨a6,c0,O,L,d7,b9,c5,a9,a7⟩:=zi9 a1 a3 c7 hP d6 a4 d2 hend hC;clear Y d6 a1 a3 c7 hP a4 c6 hb hz d3 d4 hc hend d2 hC;go_enter func23,ntmps23;go_upto_region 1 with fail;rw [d7.o];rcases h with h | h
 ·have d0:=zcO H D r F cur ts boots q (.slice none 0 0) [] 0 (fun _ s=>s=Zz) w1 P b9.o hr hl d5 (ql _ _ _ _) (by simp) (zcp.nil r) L.o d1 c8 (fun l F' cur' W c3=>a9.o (fun h9=>by omega) l F' cur' W (by rw [if_pos h];exact c3));have a8:=hid d0;rw [h] at k0;clear h d0;go_wp2_with (first|((with_reducible refine gV 23 ?_);refine rV c0.o ?_)|((with_reducible refine aV 28 a8.o ?_);rintro e2 w2 ⟨an,rfl,c2,X,e3⟩;have u:=X _ _ _ (by decide) O.o)|((with_reducible refine hV 6 ?_);refine wV 0 (zV an).toArray u ?_));refine jo (an:=an) 6 rfl rfl rfl u rfl ⟨an,rfl,c2,((zv.below a6.o).trans X).setRow (by omega) _,?_⟩;exact L.o _ _ _ e3 (jp.setRow u _)
 ·have HK:=hid h;rw [h] at k0;clear h;obtain ⟨E,c1⟩:=ex ((jb b).1);have e1:(E:Int)≠10:=by have:=zki b;rw [<- c1] at this;omega
  rw [<- c1] at a0 a7 c5 a9;clear c1;by_cases Z:E=0
  ·have R:=hid Z;rw [Z] at a0;clear Z;go_wp2_with (first|((with_reducible refine aV 29 a0.o ?_);rintro e2 w2 ⟨rv,rfl,a5,z⟩;obtain ⟨A2,d9,rfl⟩:=own_slice a5;have u:=zg O.o z (zi O.o);have e5:=zg c0.o z (zi c0.o);have a8:=hid (zcO H D r F cur ts boots q _ _ _ G w2 P (b9.o.below z) hr hl d5 a5 (by have:=(a7.o R.o).1;omega) (a7.o R.o).2 L.o d1 c8 (fun l F' cur' W c3=>a9.o (fun _=>R.o) l F' cur' W (by rw [if_neg (by rw [HK.o];decide)];exact c3))))|((with_reducible refine gV 40 ?_);refine rV e5 ?_)|((with_reducible refine aV 28 a8.o ?_);rintro e6 w3 ⟨an,rfl,c2,X,e4⟩;have c4:=X _ _ _ (by decide) u)|((with_reducible refine hV 6 ?_);refine wV 0 (zV an).toArray c4 ?_));refine jo (an:=an) 6 rfl rfl rfl c4 rfl ⟨an,rfl,c2,(((zv.below a6.o).trans (zv.below z)).trans X).setRow (by omega) _,?_⟩;exact L.o _ _ _ e4 (jp.setRow c4 _)
  ·have q5:((E:Int) == 0)=false:=by simp;omega
   have R:=hid Z;clear Z;go_wp2_with (first|((with_reducible refine aV 29 a0.o ?_);rintro e2 w2 ⟨rv,rfl,a5,z⟩;obtain ⟨A2,d9,rfl⟩:=own_slice a5;have u:=zg O.o z (zi O.o))|((with_reducible refine hV 6 ?_);refine wV 0 (zV (qo E)).toArray u ?_));refine jo (an:=qo E) 6 rfl rfl rfl u rfl ⟨qo E,rfl,e1,((zv.below a6.o).trans (zv.below z)).setRow (by omega) _,?_⟩;exact L.o _ _ _ (c5.o HK.o R.o _ (b9.o.below z)) (jp.setRow u _)
end
structure ua (s:St) (rs:List zQ):Prop where
 ne:rs≠[]
 Q:s.sto.Q=zq rs
 dj:∀ n,n<6->rp (qL s.sto.J 0 rs) n (s.sto.dp n)=s.sto.E n
 mark:∀ n,n<6->(s.sto.E n).mark<jj s.sto.J s.sto.Q.length
 N:Jd s.N fun n=>(s.sto.E n).ap
 lk:uk s.lk
 ok:∀ x,x∈rs->x.ok
 k7:∀ x,x∈rs->x.kind≠7
 h5:∀ i,i≠1->uh rs i=⟨[],false⟩
 ts:s.ts=uT∨∃ T x,s.ts=one T x/\∀ c,c∈x.I->c.aa=none
theorem ua.kept {s:St} {rs:List zQ} (h:ua s rs) (k:Nat):yB (zF s.ts) k=[]:=by
 rcases h.ts with e | ⟨T,x,e,D⟩
 ·rw [e];rfl
 ·rw [e,zbT];simp only [yB,qC,List.flatMap_nil,List.append_nil,ZT];rw [List.filterMap_eq_nil_iff];intro c z;rw [if_neg];exact fun u=>u.2 (D c z)
theorem ua.bx {s s':St} {rs:List zQ} (h:ua s rs) (hs:uF s.sto s'.sto) (O:s'.N=s.N) (R:uk s'.lk) (U:s'.ts=s.ts):ua s' rs:=by
 have hd:∀ n,s'.sto.dp n=s.sto.dp n∨s'.sto.dp n=s.sto.E n:=fun n=>by
  rcases hs.cy with ⟨_,u⟩ | ⟨_,u⟩
  ·exact .inl (by rw [u])
  ·exact u n
 refine ⟨h.ne,hs.Q.trans h.Q,fun n z=>?_,fun n z=>by rw [hs.E n,hs.J,hs.Q];exact h.mark n z,by rw [O];exact h.N.congr fun n _=>by simp only [hs.E],R,h.ok,h.k7,h.h5,by rw [U];exact h.ts⟩;rw [hs.J,hs.E n];rcases hd n with e | e
 ·rw [e];exact h.dj n z
 ·rw [e];refine zjt _ n _ fun D L E u=>?_;rw [<- h.dj n z];exact (zfj _ n _).2 D L E u
theorem zmq {n:Nat}:∀ (es:List (Nat × zQ)) (p:Pg),(∀ e,e∈es->e.2.kind≠3/\e.2.kind≠4)->rp es n p=p
 | [],p,_=>rfl
 | e::es,p,h=>by show rp es n (Qc n p e)=p;rw [show Qc n p e=p from zcB (h e (ji ..))];exact zmq es p fun u z=>h u (jh _ z)
theorem zmb {ts:qE}:∀ x,x∈qV ts->x.kind=1∨x.kind=2:=fun x h=>by
 rcases zO.1 h with rfl | h
 ·exact .inl rfl
 ·obtain ⟨p,_,h⟩:=List.mem_flatMap.1 h;obtain ⟨c,_,rfl⟩:=List.mem_map.1 h;exact .inr rfl
theorem zfM (i:Nat):∀ (l:List Chg) (s:JC),i≠1->(l.map (yQ 1)).foldl (fun s x=>if x.txn=i/\x.kind≠7 then s.step x else s) s=s
 | [],s,_=>rfl
 | c::l,s,h=>by rw [List.map_cons,jM,if_neg (fun u=>h (u.1.symm.trans rfl))];exact zfM i l s h
theorem ua.ready {s:St} {rs:List zQ} (h:ua s rs) (D:jO s):∃ a3,ua s.ready a3:=by
 unfold St.ready;split
 ·exact ⟨rs,h⟩
 ·have u:=ZL D.c.i0.ab s.ts;have hpg:∀ n,(s.sto.bb s.ts).E n=s.sto.E n:=u.E;have R:=zmb (ts:=s.ts);refine ⟨qV s.ts,by simp [qV],u.Q,fun n E=>?_,fun n E=>?_,h.N.congr fun n _=>by simp only [hpg],h.lk,fun x O=>(YF D.c.tx x O).1,fun x O=>by have:=R x O;omega,fun i a1=>?_,h.ts⟩
  ·rw [zmq _ _ (fun e he=>by have:=R e.2 (zaD _ _ _ e he);omega)];exact (u.dp n E).trans (u.E n).symm
  ·show ((s.sto.bb s.ts).E n).mark<jj (s.sto.bb s.ts).J (s.sto.bb s.ts).Q.length;rw [hpg,u.J];have z:=h.mark n E;have U:=D.c.i0.Q;generalize (s.sto.E n).mark=M at z;generalize (s.sto.bb s.ts).Q.length=L;have X:jj s.sto.J s.sto.Q.length=s.sto.J*1048576+s.sto.Q.length+1:=rfl;have Y:jj (s.sto.J+1) L=(s.sto.J+1)*1048576+L+1:=rfl;rw [X] at z;rw [Y];generalize s.sto.Q.length=K at z U;exact zfR z U
  ·have Z:JC.step ⟨[],false⟩ qF=⟨[],false⟩:=rfl;have a0:∀ l:List zQ,uh (qF::l) i=l.foldl (fun s x=>if x.txn=i/\x.kind≠7 then s.step x else s) ⟨[],false⟩:=fun l=>by
    unfold uh;rw [jM];split
    ·rw [Z]
    ·rfl
   unfold qV;rw [a0];rcases h.ts with e | ⟨T,x,e,_⟩
   ·rw [e];rfl
   ·rw [e,zbT];simp only [vo,qC,List.flatMap_nil,List.append_nil];exact zfM i _ _ a1
theorem ziC {rs:List zQ} {x:zQ} {i:Nat} (h:x.txn≠i):uh (rs++[x]) i=uh rs i:=by rw [zfQ,jM,List.foldl_nil,if_neg (fun u=>h u.1)]
theorem ua.bp {s s':St} {rs:List zQ} (h:ua s rs) (x:zQ) (E:s'.sto.Q=s.sto.Q++qG x) (D:s'.sto.J=s.sto.J) (R:s'.sto.dp=s.sto.dp) (L:∀ n,n<6->s'.sto.E n=Qc n (s.sto.E n) (jj s.sto.J s.sto.Q.length,x))
  (X:Jd s'.N fun n=>(s'.sto.E n).ap) (Z:uk s'.lk) (hx:x.ok) (O:x.kind≠7) (h1:x.txn=1) (ht:s'.ts=uT∨∃ T x,s'.ts=one T x/\∀ c,c∈x.I->c.aa=none):ua s' (rs++[x]):=by
 have Y:s'.sto.Q.length=s.sto.Q.length+(qG x).length:=by rw [E,zl]
 have a0:=Jx x;refine ⟨by simp,by rw [E,h.Q,YU,ZN],fun n z=>?_,fun n z=>?_,X,Z,fun y u=>?_,fun y u=>?_,fun i U=>by rw [ziC (by omega)];exact h.h5 i U,ht⟩
 ·rw [D,GD,zmp,R,h.dj n z,qy,<- h.Q];exact (L n z).symm
 ·rw [L n z,D,Y];have:=h.mark n z;unfold Qc;split
  ·simp only [jj];omega
  ·simp only [jj] at this ⊢;omega
 ·rcases ja.1 u with u | u
  ·exact h.ok y u
  ·simp at u;subst u;exact hx
 ·rcases ja.1 u with u | u
  ·exact h.k7 y u
  ·simp at u;subst u;exact O
theorem ua.al {s:St} {rs:List zQ} {r nb n i T:Nat} {x:Tx} {rw:Rw} (h:ua s rs) (L:jO s) (ht:s.ts=one T x) (hb:∀ c,c∈x.I->c.aa=none) (hok:rw.ok) (O:n<6) (Y:i<5) (X:(s.sto.E n).ap[i]?=some none) (a3:∀ y,y∈s.N->¬ Zp y.rw rw) :
  (∃ a4,ua (s.al r nb 3 1 n i (some rw)) a4)/\(s.al r nb 3 1 n i (some rw)).N=uC s.N (jv s.N rw) ⟨rw,n,i⟩/\(s.al r nb 3 1 n i (some rw)).ts=one T ⟨x.I++[⟨n,i,none⟩],x.ag,x.ops+1⟩:=by
 have u:=Ym L.c.i0.ab r nb 3 1 n i (some rw);have R:=h.bx (s':={ s with sto:=s.sto.get nb n }) u.bx rfl h.lk rfl;have U:yy (s.sto.E n) i=none:=by unfold yy;rw [X];rfl
 have a0:(s.al r nb 3 1 n i (some rw)).ts=one T ⟨x.I++[⟨n,i,none⟩],x.ag,x.ops+1⟩:=by show Jo s.ts 1 ⟨n,i,yy (s.sto.E n) i⟩=_;rw [U,ht];rfl
 have hlen:∀ k,k<6->(s.sto.E k).ap.length=5:=fun k hk=>(L.c.i0.ok k hk).b5;have Z:(s.al r nb 3 1 n i (some rw)).N=uC s.N (jv s.N rw) ⟨rw,n,i⟩:=by show ug (jQ s.N (yy (s.sto.E n) i)) (some rw) n i=_;rw [U];rfl
 refine ⟨⟨rs++[yk r 3 1 n i (s.sto.get nb n) (s.sto.E n) (some rw)],?_⟩,Z,a0⟩;refine R.bp _ (by show (s.sto.al r nb 3 1 n i (some rw)).Q=_;rw [u.Q,u.bx.Q]) (u.J.trans u.bx.J.symm) u.dp (fun z a1=>?_) ?_ h.lk (zbz (L.c.i0.ok n O) (.inl rfl) (by omega) O Y hok) (by show (3:Nat)≠7;omega) rfl (.inr ⟨T,_,a0,fun c D=>?_⟩)
 ·show (s.sto.al r nb 3 1 n i (some rw)).E z=Qc z ((s.sto.get nb n).E z) _;by_cases e:z=n
  ·subst e;have hm:=R.mark z a1;rw [u.E];unfold Qc;rw [if_pos ⟨.inl rfl,rfl,hm⟩];show _={ ((s.sto.get nb z).E z).set i (some rw) with mark:=jj (s.sto.get nb z).J (s.sto.get nb z).Q.length };rw [u.bx.E,u.bx.J,u.bx.Q]
  ·rw [u.b9 z e,u.bx.E z];unfold Qc;rw [if_neg];rintro ⟨_,h2,_⟩;exact e (h2.symm.trans rfl)
 ·have D:=h.N.al (n:=n) (i:=i) (o:=some rw) O Y hlen fun b E y hy hs=>by injection E with E;subst E;exact absurd hs (a3 y hy)
  rw [X] at D;rw [Z];refine Jd.congr (C:=zZ (fun n=>(s.sto.E n).ap) n ((s.sto.E n).ap.set i (some rw))) D fun k hk=>?_;show ((s.sto.al r nb 3 1 n i (some rw)).E k).ap=_;by_cases e:k=n
  ·subst e;rw [u.E,zk];rfl
  ·rw [u.b9 k e,zy _ _ e]
 ·rcases ja.1 D with D | D
  ·exact hb c D
  ·simp at D;subst D;rfl
theorem ua.put {s:St} {rs:List zQ} {r nb T:Nat} {nbs:Nat->Nat} {x:Tx} {rw:Rw} (h:ua s rs) (u:jO s) (E:s.ts=one T x) (h8:x.ops<8) (hok:rw.ok) (hg:s.sto.J+1<4294967296) (c0:s.N.length<30) (U:∀ y,y∈s.N->¬ Zp y.rw rw) :
  (s.put r nbs nb 1 x.ops rw).1=0/\(∃ b9,ua (s.put r nbs nb 1 x.ops rw).2 b9)/\(∃ y,(s.put r nbs nb 1 x.ops rw).2.ts=one T ⟨x.I++[y],x.ag,x.ops+1⟩)/\∃ n i,(s.put r nbs nb 1 x.ops rw).2.N=uC s.N (jv s.N rw) ⟨rw,n,i⟩:=by
 have a5:Go.Proofs.YtechnoogjhohfaaGreat.keyB s.lk ((1:Nat):Int) rw.t (zb rw.k)=true:=h.lk.keyB _ _;have R:uk (Go.Proofs.YtechnoogjhohfaaGreat.keyS s.lk ((1:Nat):Int) rw.t (zb rw.k)):=h.lk.keyS _ _;have hb:∀ c,c∈x.I->c.aa=none:=by
  rcases h.ts with e | ⟨T',x',e,hx⟩
  ·rw [E] at e;simp [one,uT] at e
  ·rw [E] at e;simp only [one,List.cons.injEq,jd,Prod.mk.injEq] at e;rw [e.2.1.2];exact hx
 have hf:=ziq h.N.so ⟨rw.t,rw.k,[]⟩;unfold St.put;rw [if_neg (by rw [a5];simp),if_neg (by omega)];cases e:yX s.N ⟨rw.t,rw.k,[]⟩ with
 | some y =>obtain ⟨Y,Z⟩:=hf.1 y e;exact absurd Z (U y Y)
 | none =>
  obtain ⟨z,a9,a6⟩:=zal (nbs:=nbs) h.kept 6 0 u.c.i0.ab;have a8:=GS (ts:=s.ts) (nbs:=nbs) 6 0 u.c.ae;cases L:(zY s.ts nbs 6 0 s.sto).2 with
  | none =>have a0:=a6 L;have:=h.N.dj (fun k hk=>(u.c.i0.ok k hk).b5) fun n i hn u=>a0 n i (zT _) (by omega) u;omega
  | some p =>
   obtain ⟨n,i⟩:=p;obtain ⟨_,h3,h4,h5⟩:=a9 n i L;have hw:WF (Go.Proofs.YtechnoogjhohfaaGreat.keyS s.lk ((1:Nat):Int) rw.t (zb rw.k)):=R.1;have X:jO { s with lk:=keyS s.lk ((1:Nat):Int) rw.t (zb rw.k),sto:=(zY s.ts nbs 6 0 s.sto).1 }:=⟨u.c.bx z a8 rfl rfl hw,u.sv⟩;have a3:=h.bx (s':={ s with lk:=keyS s.lk ((1:Nat):Int) rw.t (zb rw.k),sto:=(zY s.ts nbs 6 0 s.sto).1 }) z rfl R rfl;have a1:(zY s.ts nbs 6 0 s.sto).1.J+1<4294967296:=by rw [z.J];exact hg
   obtain ⟨c1,a4⟩:=a3.ready X;have D:=Zv ({ s with lk:=keyS s.lk ((1:Nat):Int) rw.t (zb rw.k),sto:=(zY s.ts nbs 6 0 s.sto).1 }:St);have a7:=X.ready a1;have hpg:∀ k,(({ s with lk:=keyS s.lk ((1:Nat):Int) rw.t (zb rw.k),sto:=(zY s.ts nbs 6 0 s.sto).1 }:St).ready.sto.E k)=s.sto.E k:=fun k=>by
    refine Eq.trans ?_ (z.E k);unfold St.ready;split
    ·rfl
    ·exact (ZL z.ok _).E k
   obtain ⟨h6,O,h9⟩:=a4.al (r:=r) (nb:=nb) (n:=n) (i:=i) (T:=T) (x:=x) (rw:=rw) a7 (D.2.1.trans E) hb hok (by omega) h4 (by rw [hpg];exact h5) (by rw [D.1];exact U);refine ⟨rfl,h6,⟨_,h9⟩,n,i,?_⟩;rw [D.1] at O;exact O
theorem ua.am {s:St} {rs:List zQ} {T:Nat} {x:Tx} (h:ua s rs) (D:jO s) (ht:s.ts=one T x) (hx:x.I≠[]) :
  ua (s.am 1 x) (rs++[yw 1])/\zjE (s.am 1 x) (rs++[yw 1]) (rs++[yw 1]).length (fun n=>(s.sto.E n).ap)/\(s.am 1 x).ts=uT:=by
 have R:(s.am 1 x).ts=uT:=by show s.ts.set 1 none=uT;rw [ht];rfl
 have z:(s.am 1 x).sto=(s.sto.au (yw 1)).bo:=by unfold St.am;simp only;rw [if_neg hx]
 have Z:(s.am 1 x).sto.Q=s.sto.Q++qG (yw 1):=by rw [z];rfl
 have X:(s.am 1 x).sto.dp=s.sto.dp:=by rw [z];rfl
 have Y:(s.am 1 x).sto.J=s.sto.J:=by rw [z];rfl
 have hpg:∀ n,(s.am 1 x).sto.E n=s.sto.E n:=fun n=>by rw [z];rfl
 have L:uk (s.am 1 x).lk:=h.lk.dropM 1;have U:(yw 1).ok:=Ko (by omega);have u:ua (s.am 1 x) (rs++[yw 1]):=h.bp (yw 1) Z Y X (fun n O=>by rw [hpg];exact (zcB (by simp [yw])).symm) (by show Jd s.N _;exact h.N.congr fun n _=>by simp only [hpg]) L U (by simp [yw]) rfl (.inl R);have E:Qs (rs++[yw 1]):=⟨u.ok,u.k7,fun i=>by
  by_cases e:i=1
  ·subst e;rw [zfQ,jM,List.foldl_nil,if_pos ⟨rfl,by simp [yw]⟩];rfl
  ·exact u.h5 i e⟩
 have a0:qX (s.am 1 x).sto:=by rw [z];exact ⟨D.c.i0.ab.a5,D.c.i0.ab.hand,D.c.i0.ab.cu,D.c.i0.ab.ce,za _⟩
 refine ⟨u,⟨⟨a0,⟨u.Q,by simp,za _,?_,u.dj,fun n O=>?_,u.mark⟩,fun n _=>by rw [hpg],by show Jd s.N _;exact h.N⟩,E,by rw [qi];exact E,L⟩,R⟩
 ·rw [qi,<- u.Q,z];rfl
 ·rw [qi,u.dj n O,hpg]
theorem ua.an {s:St} {rs:List zQ} (h:ua s rs) (z:s.ts=uT) (T:Nat):ua (s.an T).2 rs/\(s.an T).2.ts=one T ud/\(s.an T).1=1/\(s.an T).2.N=s.N/\(s.an T).2.sto=s.sto:=by
 have e:s.an T=(1,{ s with ts:=one T ud }):=by unfold St.an;rw [z];rfl
 rw [e];exact ⟨⟨h.ne,h.Q,h.dj,h.mark,h.N,h.lk,h.ok,h.k7,h.h5,.inr ⟨T,ud,rfl,fun c u=>by cases u⟩⟩,rfl,rfl,rfl,rfl⟩
theorem zov:ua Zz [qF]:=by have h:=zot;refine ⟨by simp,h.cy.Q,h.cy.dj,h.cy.mark,h.N.congr fun n u=>h.it n u,h.lk,h.dx.ok,h.dx.k7,fun i _=>h.dx.done i,.inl rfl⟩
structure GW (rows:List Rw):Prop where
 so:rows.Pairwise yi
 ok:∀ r,r∈rows->r.ok
 le:rows.length<=30
structure GI (rows:List Rw) (k:Nat) (s:St):Prop where
 bv:jO s
 h0:∃ rs,ua s rs
 J:s.sto.J<=1+k
 len:s.N.length=k
 sub:∀ y,y∈s.N->y.rw∈rows.take k
 iy:∀ r,r∈rows.take k->∃ y,y∈s.N/\y.rw=r
 ts:(k=0/\s.ts=uT)∨(0<k/\∃ T x,s.ts=one T x/\x.ops=(k-1) % 8+1/\x.I≠[])
theorem JW (T:Nat) (x:Tx):(one T x)[1]?=some (some (T,x)):=rfl
theorem GI.di {E:List Rw} {k:Nat} {s:St} (h:GI E k s) {T:Nat} {x:Tx} (z:s.ts=one T x) (D:x.I≠[]):s.sto.Q.length+395<=14336:=by have u:=zgR h.bv.c.l h.bv.c.tx (txn:=1) (by omega) (by omega) (by rw [z];exact JW T x);unfold yN at u;rw [if_neg D] at u;omega
theorem GI.next {a0:List Rw} {k:Nat} {s:St} (h:GI a0 k s) (T:Nat):jO (jZ s T k)/\(∃ rs,ua (jZ s T k) rs)/\(jZ s T k).sto.J=s.sto.J/\(jZ s T k).N=s.N/\∃ U x,(jZ s T k).ts=one U x/\x.ops=k % 8:=by
 unfold jZ;split
 ·rename_i L;unfold Jn;obtain ⟨rs,R⟩:=h.h0;rcases h.ts with ⟨_,e⟩ | ⟨h0,u,x,e,_,hl⟩
  ·rw [if_pos (by rw [e];rfl)];obtain ⟨g1,z,Z,D,E⟩:=R.an e T;exact ⟨(h.bv.an T).1,⟨rs,g1⟩,by rw [E],D,T,ud,z,by rw [L];rfl⟩
  ·rw [if_neg (by rw [e];simp [zbT]),Yv (by rw [e];exact JW u x)];obtain ⟨X,c2,Y⟩:=R.am h.bv e hl;have O:=h.bv.am (txn:=1) (T:=u) (x:=x) (by omega) (by omega) (by rw [e];exact JW u x);obtain ⟨g1,z,Z,D,E⟩:=X.an Y T;exact ⟨(O.1.an T).1,⟨_,g1⟩,by rw [E];exact O.2,D,T,ud,z,by rw [L];rfl⟩
 ·rename_i L;rcases h.ts with ⟨h0,_⟩ | ⟨h0,u,x,e,ho,_⟩
  ·subst h0;omega
  ·exact ⟨h.bv,h.h0,rfl,rfl,u,x,e,by omega⟩
theorem zgj {u:List Rw} {k:Nat} {rw:Rw} (h:u[k]?=some rw):u.take (k+1)=u.take k++[rw]:=by obtain ⟨z,e⟩:=zr.1 h;rw [yH z,e]
theorem zpv {u:List Rw} (hs:u.Pairwise yi) {k:Nat} {rw r:Rw} (h:u[k]?=some rw) (E:r∈u.take k):yi r rw:=by obtain ⟨D,e⟩:=zr.1 h;obtain ⟨i,z,rfl⟩:=List.mem_iff_getElem.1 E;rw [qf] at z;rw [List.getElem_take,<- e];exact List.pairwise_iff_getElem.1 hs i k (by omega) D (by omega)
theorem GI.step {U:List Rw} (Y:GW U) {r k T nb:Nat} {nbs:Nat->Nat} {rw:Rw} {s:St} (h:GI U k s) (D:U[k]?=some rw):(uy r k T nbs nb rw s).1=0/\GI U (k+1) (uy r k T nbs nb rw s).2:=by
 obtain ⟨L,⟨rs,n2⟩,n3,O,X,x,n5,n6⟩:=h.next T;have a5:=(zr.1 D).1;have a4:=Y.le;have a3:=h.J;have hlen:=h.len;have hok:=Y.ok rw (zC D);have E:∀ y,y∈(jZ s T k).N->¬ Zp y.rw rw:=fun y hy=>by rw [O] at hy;exact zdo (zpv Y.so D (h.sub y hy))
 have a0:(jZ s T k).ts[1]?=some (some (X,x)):=by rw [n5];exact JW X x
 unfold uy;rw [Yv a0];obtain ⟨p1,⟨a1,p2⟩,⟨y,p3⟩,n,i,R⟩:=n2.put (r:=r) (nb:=nb) (nbs:=nbs) L n5 (by rw [n6];omega) hok (by omega) (by rw [O];omega) E;obtain ⟨q1,q2⟩:=L.put (r:=r) (nb:=nb) (nbs:=nbs) (txn:=1) (by omega) (by omega) a0 hok (by omega);have hm:=fun z=>YS L.c.i0.cl.so ⟨rw,n,i⟩ z;rw [O] at R hm E;refine ⟨p1,⟨q1,⟨a1,p2⟩,by omega,?_,fun z u=>?_,fun z u=>?_,.inr ⟨by omega,X,_,p3,by simp only;omega,by simp⟩⟩⟩
 ·rw [R];have:=L.c.i0.cl.so;rw [O] at this;rw [zgw this ⟨rw,n,i⟩ E,h.len]
 ·rw [R] at u;rw [zgj D];rcases (hm z).1 u with rfl | ⟨u,_⟩
  ·simp
  ·exact List.mem_append_left _ (h.sub z u)
 ·rw [zgj D] at u;rw [R];rcases ja.1 u with u | u
  ·obtain ⟨Z,h1,h2⟩:=h.iy z u;exact ⟨Z,(hm Z).2 (.inr ⟨h1,E Z h1⟩),h2⟩
  ·simp at u;exact ⟨_,(hm _).2 (.inl rfl),u.symm⟩
theorem GI.zero (z:List Rw):GI z 0 Zz:=⟨znp,⟨_,zov⟩,by decide,rfl,fun y u=>(by cases u),fun r h=>(by simp at h),.inl ⟨rfl,rfl⟩⟩
theorem zra {D:List Rw} (E:GW D) (r:Nat):zcp r D (GI D):=by
 refine ⟨GI.zero D,fun k s h u Y R=>?_,fun k s T h u=>?_,fun k s T nbs nb rw h u=>⟨E.ok rw (zC u),h.step E u⟩,fun s h U=>?_⟩
 ·rcases h.ts with ⟨_,e⟩ | ⟨_,T,x,e,_,L⟩
  ·rw [e] at R;exact absurd rfl R
  ·exact ⟨T,x,by rw [e];exact JW T x,fun _=>h.di e L⟩
 ·obtain ⟨z,n2,n3,n4,O,x,X,n6⟩:=h.next T;have:=h.J;have Z:=E.le;exact ⟨O,x,by rw [X];exact JW O x,z.c.wf,z.c.i0.cl.so,by have:=z.c.i0.cl.he;omega,z.c.i0.cl.pg,by omega⟩
 ·rcases h.ts with ⟨e,_⟩ | ⟨_,T,x,e,_,L⟩
  ·exact absurd (yd e) U
  ·exact ⟨T,x,by rw [e];exact JW T x,fun _=>h.di e L⟩
theorem uX.gi {u:List Rw} (D:GW u) {r:Nat}:∀ (l:List Rw) (k:Nat) {s s':St},u.drop k=l->k<=u.length->GI u k s->uX r l k s s'->GI u u.length s'
 | [],k,s,s',hd,hk,h,z=>by
  have O:s'=s:=z;subst O;have:u.length<=k:=by have:=congrArg List.length hd;simp at this;omega
  rw [show u.length=k by omega];exact h
 | rw::l,k,s,s',hd,hk,h,z=>by
  obtain ⟨T,nbs,nb,z⟩:=z;have L:k<u.length:=by have:=congrArg List.length hd;simp at this;omega
  have R:u[k]?=some rw:=by have:=congrArg (·[0]?) hd;simpa using this
  have E:u.drop (k+1)=l:=by rw [<- List.drop_drop,hd];rfl
  exact uX.gi D l (k+1) E L (h.step D R).2 z
theorem znq {z:List Rw} (hs:z.Pairwise yi) {u:List It} (R:qe u) (E:∀ y,y∈u->y.rw∈z) (L:∀ r,r∈z->∃ y,y∈u/\y.rw=r):u.map (·.rw)=z:=by
 have h:u.map (fun y=>(⟨y.rw,0,0⟩:It))=z.map (fun r=>(⟨r,0,0⟩:It)):=by
  refine zaU (List.pairwise_map.2 R) (List.pairwise_map.2 hs) fun x=>?_;simp only [List.mem_map];constructor
  ·rintro ⟨y,D,rfl⟩;exact ⟨_,E y D,rfl⟩
  ·rintro ⟨r,U,rfl⟩;obtain ⟨y,D,rfl⟩:=L r U;exact ⟨y,D,rfl⟩
 have O:=congrArg (List.map (·.rw)) h;simpa [List.map_map,Function.comp_def] using O
structure zrm (rows:List Rw) (s:St):Prop where
 bv:jO s
 ts:s.ts=uT
 J:s.sto.J<=31
 N:s.N.map (·.rw)=rows
 base:∃ rs C,zjE s rs rs.length C
theorem zjK {z:List Rw} (D:GW z) {r:Nat} {s':St} (h:zau r z s'):zrm z s':=by
 obtain ⟨s,U,rfl⟩:=h;by_cases e:z=[]
 ·subst e;rw [if_pos rfl];have Z:s=Zz:=U;subst Z;exact ⟨znp,rfl,by decide,rfl,[qF],zhY,zot⟩
 ·rw [if_neg e];have u:=uX.gi D z 0 (List.drop_zero) (zT _) (GI.zero z) U;rcases u.ts with ⟨h0,_⟩ | ⟨_,T,x,E,_,hl⟩
  ·exact absurd (yd h0) e
  ·rw [Yv (by rw [E];exact JW T x)];obtain ⟨rs,a0⟩:=u.h0;obtain ⟨c1,X,Y⟩:=a0.am u.bv E hl;have L:=u.bv.am (txn:=1) (T:=T) (x:=x) (by omega) (by omega) (by rw [E];exact JW T x);have O:=u.sub;have R:=u.iy;rw [qi] at O R;exact ⟨L.1,Y,by rw [L.2];have:=u.J;have:=D.le;omega,znq D.so u.bv.c.i0.cl.so O R,_,_,X⟩
theorem zgW:∀ (n:Nat) (s:List UInt8 × Bool) (acc:List Rw) {l:List Rw} {s':List UInt8 × Bool},acc.Pairwise yi->(∀ r,r∈acc->r.ok)->QR n s acc=some (l,s')->l.Pairwise yi/\∀ r,r∈l->r.ok
 | 0,s,acc,l,s',hs,ho,h=>by unfold QR at h;injection h with h;injection h with h1 h2;subst h1;exact ⟨hs,ho⟩
 | n+1,s,acc,l,s',hs,ho,h=>by
  unfold QR at h;split at h
  ·cases h
  ·rename_i hb;unfold Jq at hb;simp only [Bool.or_eq_true,Bool.not_eq_true',not_or,Bool.not_eq_true,Bool.not_eq_false] at hb;obtain ⟨a1,a0,R⟩:=hb;obtain ⟨rw,hok,e1,Y,Z⟩:=zgf a0;have U:(KZ s).1=rw:=by
    have L:=congrArg (fun b:ByteArray=>b.data.toList) Y;have O:=congrArg (fun b:ByteArray=>b.data.toList) Z;have E:(KZ s).1.t=rw.t:=by omega
    cases hq:(KZ s).1;rw [hq] at E L O;cases rw;simp only [Qm] at E L O;subst E L O;rfl
   refine zgW n _ _ ?_ ?_ h
   ·rw [U];refine List.pairwise_append.2 ⟨hs,List.pairwise_singleton _ _,fun a u b hb=>?_⟩;rw [List.mem_singleton.1 hb];cases D:acc.getLast? with
    | none=>rw [List.getLast?_eq_none_iff] at D;subst D;cases u
    | some y =>
     rw [D,U] at R;simp only [Bool.not_eq_eq_eq_not,Bool.not_false,Bool.not_true] at R;have X:yi y rw:=(QZ y rw).1 (by unfold Yc;simpa using R);obtain ⟨a3,rfl⟩:=List.getLast?_eq_some_iff.1 D;rcases ja.1 u with u | u
     ·exact YE ((List.pairwise_append.1 hs).2.2 a u y (by simp)) X
     ·simp at u;subst u;exact X
   ·rw [U];intro r z;rcases ja.1 z with z | z
    ·exact ho r z
    ·simp at z;subst z;exact hok
theorem zaK {b:List UInt8} (h:(jb b).1=0):GW (jb b).2:=by
 unfold jb at h ⊢;split
 ·rename_i z;rw [if_pos z] at h;cases h
 ·rename_i z;rw [if_neg z] at h;split
  ·rename_i D;rw [if_pos D] at h;cases h
  ·rename_i D;rw [if_neg D] at h;split
   ·rename_i u;rw [u] at h;cases h
   ·rename_i l s u;rw [u] at h;simp only at h;split
    ·rename_i E;rw [if_pos E] at h;cases h
    ·rename_i E;rw [if_neg E] at h;split
     ·rename_i L;rw [if_pos L] at h;cases h
     ·rename_i L;obtain ⟨O,a2⟩:=zgW _ _ _ .nil (fun r R=>by cases R) u;exact ⟨O,a2,by show l.length<=30;omega⟩
def z1:Nat->Nat:=fun _=>0
theorem zcu (ts:qE) (i:Nat):QN (ZK ts) i=QN ts i:=by
 unfold QN;rw [zdP];cases ts[i]? with
 | none=>rfl
 | some o =>
  cases o with
  | none=>rfl
  | some p=>rfl
theorem zhc (ts:qE):(zF (ZK ts)).length=(zF ts).length:=by unfold zF;rw [JF];simp [zlx]
theorem St.gy (s:St) (r nb txn:Nat):(s.az r nb txn).Z=s.Z.az r 0 txn:=by
 unfold St.az;rw [show s.Z.ts=ZK s.ts from rfl,zdP];cases s.ts[txn]? with
 | none=>rfl
 | some o =>
  cases o with
  | none=>rfl
  | some p =>
   obtain ⟨T,x⟩:=p;simp only [qk];cases x.I.getLast? with
   | none=>rfl
   | some c =>have h:=St.df s r nb 4 txn c.pg c.sl c.aa;have u:=congrArg St.sto h;have z:=congrArg St.N h;have D:=congrArg St.lk h;simp only;show St.mk _ _ _ _=St.mk _ _ _ _;rw [St.mk.injEq];exact ⟨u,z,JG _ _ _,D⟩
theorem St.eh (r txn:Nat) (nbs:Nat->Nat):∀ (m j:Nat) (s:St),(St.ai r txn nbs j m s).Z=St.ai r txn z1 j m s.Z
 | 0,_,_=>rfl
 | m+1,j,s=>by show (St.ai r txn nbs (j+1) m (s.az r (nbs j) txn)).Z=St.ai r txn z1 (j+1) m (s.Z.az r 0 txn);rw [St.eh r txn nbs m (j+1),St.gy]
theorem St.fm (s:St) (r txn:Nat) (nbs:Nat->Nat) (x:Tx):(s.be r txn nbs x).Z=s.Z.be r txn z1 x:=by have h:=St.eh r txn nbs x.I.length 0 s;unfold St.be;rw [<- h];unfold St.Z;simp only [JG,Option.map_none];split<;>rfl
theorem St.fb (s:St) (r txn T:Nat) (nbs:Nat->Nat) (x:Tx) (n:Int):(s.a4 r txn nbs T x n).1=(s.Z.a4 r txn z1 0 x n).1/\(s.a4 r txn nbs T x n).2.Z=(s.Z.a4 r txn z1 0 x n).2:=by
 unfold St.a4;cases x.b6 n with
 | none=>exact ⟨rfl,rfl⟩
 | some p =>refine ⟨rfl,?_⟩;simp only;rw [St.eh];show St.ai r txn z1 0 _ { s.Z with ts:=ZK (s.ts.set txn (some (T,p.2))) }=_;rw [JG];rfl
theorem St.gk (s:St) (r nb txn ops t:Nat) (k:List UInt8):(s.bs r nb txn ops t k).1=(s.Z.bs r 0 txn ops t k).1/\(s.bs r nb txn ops t k).2.Z=(s.Z.bs r 0 txn ops t k).2:=by
 unfold St.bs;rw [show s.Z.lk=s.lk from rfl,show s.Z.N=s.N from rfl];split
 ·exact ⟨rfl,rfl⟩
 ·cases yX s.N ⟨t,k,[]⟩ with
  | none=>exact ⟨rfl,rfl⟩
  | some x =>
   unfold St.db;by_cases h:8<=ops
   ·simp only [if_pos h];exact ⟨by trivial,rfl⟩
   ·simp only [if_neg h];refine ⟨by trivial,?_⟩;rw [St.df,St.dr];rfl
theorem St.hk (s:St) (txn t:Nat) (f:List UInt8) (z:ByteArray):(s.bi txn t f z).1=(s.Z.bi txn t f z).1/\(s.bi txn t f z).2.1=(s.Z.bi txn t f z).2.1/\(s.bi txn t f z).2.2.Z=(s.Z.bi txn t f z).2.2:=by unfold St.bi;rw [show s.Z.lk=s.lk from rfl,show s.Z.N=s.N from rfl];split<;>exact ⟨rfl,rfl,rfl⟩
theorem zng (fs:List zx) (k:Nat):yx (fs.map zx.Z) k=yx fs k:=by
 unfold yx;rw [<- List.map_take,List.foldl_map];congr 1;funext l f;unfold uR zx.Z;cases f.pg with
 | none=>rfl
 | some x=>rfl
theorem St.g9 (s:St):s.cj.Z=s.Z.cj:=by
 unfold St.cj;have h:=St.dr s;have hm:ZC s.Z.ready.sto=ZC s.ready.sto:=by rw [<- h];unfold ZC;rw [show s.ready.Z.sto.fs=s.ready.sto.fs.map zx.Z from rfl,zng]
 rw [hm,<- h];rfl
theorem St.e4 (s:St) (nb fr h:Nat) (x:zQ):(s.ax nb fr h x).Z=s.Z.ax 0 fr h x:=by
 unfold St.ax;split
 ·unfold St.Z;simp only [zn.e4]
 ·rfl
theorem zbH (nbs:Nat->Nat) (fr:Nat) (es:List (Nat × zQ)):∀ (j:Nat) (s:St),(redoTo nbs fr es j s).Z=redoTo z1 fr es j s.Z
 | 0,_=>rfl
 | j+1,s=>by
  simp only [redoTo];cases es[j]? with
  | none=>exact zbH nbs fr es j s
  | some e=>simp only;rw [St.e4,zbH nbs fr es j s];rfl
theorem zdQ (nbs:Nat->Nat):∀ (k:Nat) (s:St),(qa nbs k s).Z=qa z1 k s.Z
 | 0,_=>rfl
 | k+1,s=>by show (zad (qa nbs k s) (nbs k) k).Z=zad (qa z1 k s.Z) 0 k;rw [<- zdQ nbs k s];unfold zad;rw [show ((qa nbs k s).Z).sto.E k=(qa nbs k s).sto.E k from zn.dd _ _];unfold St.Z;simp only [zn.dg]
theorem zoM (r:Nat) (rs:List zQ) (n T:Nat) (nbs:Nat->Nat) (s:St):(lose r rs n T nbs s).Z=lose r rs n 0 z1 s.Z:=by
 unfold lose;split
 ·rw [St.fm];show St.be { s.Z with ts:=ZK (s.ts.set n _) } _ _ _ _=_;rw [JG];rfl
 ·rfl
theorem zfI (r:Nat) (rs:List zQ) (Ts:Nat->Nat) (nbs:Nat->Nat->Nat):∀ (k:Nat) (s:St),(yb r rs Ts nbs k s).Z=yb r rs z1 (fun _=>z1) k s.Z
 | 0,_=>rfl
 | k+1,s=>by show (lose r rs k (Ts k) (nbs k) (yb r rs Ts nbs k s)).Z=lose r rs k 0 z1 (yb r rs z1 (fun _=>z1) k s.Z);rw [zoM,zfI r rs Ts nbs k s]
theorem zly (r h bank:Nat) (rs:List zQ) (dp:Nat->Pg) (nb1 nb2 Ts:Nat->Nat) (nb3:Nat->Nat->Nat):(yn r h bank rs dp nb1 nb2 Ts nb3).Z=yn r h bank rs dp z1 z1 z1 fun _=>z1:=by unfold yn;rw [zfI,zdQ,zbH];rfl
theorem znh (s:St) (T:Nat):(Jn s T).Z=Jn s.Z 0:=by
 unfold Jn;rw [show s.Z.ts=ZK s.ts from rfl,zhc,zcu];split
 ·exact (St.ds _ _).2
 ·rw [(St.ds _ _).2,St.dw]
theorem zjN (r k T:Nat) (nbs:Nat->Nat) (nb:Nat) (rw:Rw) (s:St):(uy r k T nbs nb rw s).2.Z=(uy r k 0 z1 0 rw s.Z).2:=by
 have h:(jZ s T k).Z=jZ s.Z 0 k:=by
  unfold jZ;split
  ·exact znh s T
  ·rfl
 unfold uy;rw [(St.d9 _ _ _ _ _ _ _).2,h,<- h,show (jZ s T k).Z.ts=ZK (jZ s T k).ts from rfl,zcu];rfl
def zgT (r:Nat):List Rw->Nat->St->St
 | [],_,s=>s
 | rw::l,k,s=>zgT r l (k+1) (uy r k 0 z1 0 rw s).2
theorem uX.Z {r:Nat}:∀ {l:List Rw} {k:Nat} {s s':St},uX r l k s s'->s'.Z=zgT r l k s.Z
 | [],k,s,s',h=>by have u:s'=s:=h;subst u;rfl
 | rw::l,k,s,s',⟨T,nbs,nb,h⟩=>by rw [uX.Z h,zjN];rfl
def zjY (r:Nat) (h:List Rw):St:=if h=[] then zgT r h 0 Zz.Z else (zgT r h 0 Zz.Z).am 1 (QN (zgT r h 0 Zz.Z).ts 1)
theorem zau.Z {r:Nat} {u:List Rw} {s':St} (h:zau r u s'):s'.Z=zjY r u:=by
 obtain ⟨s,h,rfl⟩:=h;unfold zjY;rw [<- h.Z];split
 ·rfl
 ·rw [St.dw,show s.Z.ts=ZK s.ts from rfl,zcu]
def Jr (r:Nat) (s:St) (txn:Nat) (x:Tx) (q:Rq) (rw:Rw):ui × Bool × St :=
 if q.kd=5 then (⟨(s.cp txn rw.t rw.k).2,0,(s.cp txn rw.t rw.k).1,[],[]⟩,false,zfb s txn rw.t rw.k)
 else if q.kd=6 then (yj (s.put r z1 0 txn x.ops rw).1,false,(s.put r z1 0 txn x.ops rw).2)
 else if q.kd=7 then (yj (s.bs r 0 txn x.ops rw.t rw.k).1,false,(s.bs r 0 txn x.ops rw.t rw.k).2)
 else if q.kd=8 then (⟨(s.bi txn rw.t rw.k q.tt).1,0,[],(s.bi txn rw.t rw.k q.tt).2.1.map (·.rw),[]⟩,false,(s.bi txn rw.t rw.k q.tt).2.2)
 else if q.kd=9 then (⟨if x.bt.1=0 then 8 else 0,x.bt.1,[],[],[]⟩,false,{ s with ts:=s.ts.set txn (some (0,x.bt.2)) })
 else if q.kd=10 then (yj (s.a4 r txn z1 0 x q.n).1,false,(s.a4 r txn z1 0 x q.n).2)
 else if q.kd=11 then (yj 0,true,s.am txn x)
 else (yj 0,true,s.be r txn z1 x)
theorem Ge.Z {r:Nat} {s s':St} {txn T:Nat} {x:Tx} {q:Rq} {rw:Rw} {v:ui} {e:Bool} (h:Ge r s txn T x q rw v e s'):(v,e,s'.Z)=Jr r s.Z txn x q rw:=by
 unfold Jr;rcases h with ⟨u,rfl,rfl,rfl⟩ | ⟨u,nbs,nb,rfl,rfl,rfl⟩ | ⟨u,nb,rfl,rfl,rfl⟩ | ⟨u,rfl,rfl,rfl⟩ | ⟨u,rfl,rfl,rfl⟩ | ⟨u,nbs,rfl,rfl,rfl,_⟩ | ⟨u,rfl,rfl,rfl⟩ | ⟨u,nbs,rfl,rfl,rfl,_⟩
 ·rw [if_pos u];rfl
 ·rw [if_neg (by omega),if_pos u,(St.d9 s r nbs nb txn x.ops rw).1,(St.d9 s r nbs nb txn x.ops rw).2];rfl
 ·rw [if_neg (by omega),if_neg (by omega),if_pos u,(St.gk s r nb txn x.ops rw.t rw.k).1,(St.gk s r nb txn x.ops rw.t rw.k).2]
 ·obtain ⟨z,D,E⟩:=St.hk s txn rw.t rw.k q.tt;rw [if_neg (by omega),if_neg (by omega),if_neg (by omega),if_pos u,z,D,E]
 ·rw [if_neg (show ¬ q.kd=5 by omega),if_neg (show ¬ q.kd=6 by omega),if_neg (show ¬ q.kd=7 by omega),if_neg (show ¬ q.kd=8 by omega),if_pos u];show (_,_,({ s.Z with ts:=ZK (s.ts.set txn (some (T,x.bt.2))) }:St))=_;rw [JG];rfl
 ·rw [if_neg (by omega),if_neg (by omega),if_neg (by omega),if_neg (by omega),if_neg (by omega),if_pos u,(St.fb s r txn T nbs x q.n).1,(St.fb s r txn T nbs x q.n).2]
 ·rw [if_neg (by omega),if_neg (by omega),if_neg (by omega),if_neg (by omega),if_neg (by omega),if_neg (by omega),if_pos u,St.dw]
 ·rw [if_neg (by omega),if_neg (by omega),if_neg (by omega),if_neg (by omega),if_neg (by omega),if_neg (by omega),if_neg (by omega),St.fm]
def zkz (s:St) (q:Rq):St:=if q.kd=15 then { s with sto:=s.sto.bc (zde q.n) } else if q.kd=16 then s.cj else s.a1
theorem zjF.Z {s s':St} {q:Rq} (h:zjF s q s'):s'.Z=zkz s.Z q:=by
 unfold zkz;rcases h with ⟨u,rfl⟩ | ⟨u,rfl⟩ | ⟨u,rfl⟩
 ·rw [if_pos u];unfold St.Z;simp only [zn.fo]
 ·rw [if_neg (by omega),if_pos u,St.g9]
 ·rw [if_neg (by omega),if_neg (by omega),St.d5]
section
def oT (ts:qE) (k:Nat):Bool:=match ts[k]? with
 | some (some _)=>true
 | _=>false
theorem zee {ts:qE} {k:Nat}:oT ts k=true↔∃ T x,ts[k]?=some (some (T,x)):=by
 unfold oT;constructor
 ·intro h;split at h
  ·rename_i p u;exact ⟨p.1,p.2,u⟩
  ·cases h
 ·rintro ⟨T,x,h⟩;rw [h]
theorem zef {ts:qE} {i:Nat} {o:Option (Nat × Tx)} (u:i<ts.length):oT (ts.set i o)=fun k=>if k=i then o.isSome else oT ts k:=by
 funext k;unfold oT;by_cases e:k=i
 ·subst e;rw [qw u,if_pos rfl];cases o<;>rfl
 ·rw [qY (fun h=>e h.symm),if_neg e]
theorem zcy {ts:qE} {i T:Nat} {x:Tx} (h:ts[i]?=some (some (T,x))) (p:Nat × Tx):oT (ts.set i (some p))=oT ts:=by
 rw [zef (zr.1 h).1];funext k;split
 ·rename_i e;subst e;exact (zee.2 ⟨T,x,h⟩).symm
 ·rfl
theorem zpd (ts:qE) (txn:Nat) (c:Chg):oT (Jo ts txn c)=oT ts:=by
 unfold Jo;split
 ·rename_i h;exact zcy h _
 ·rfl
theorem znH (s:St) (r nb txn:Nat):oT (s.az r nb txn).ts=oT s.ts:=by
 unfold St.az;split
 ·rename_i h;split
  ·exact zcy h _
  ·rfl
 ·rfl
theorem zds (r txn:Nat) (nbs:Nat->Nat):∀ (m j:Nat) (s:St),oT (St.ai r txn nbs j m s).ts=oT s.ts
 | 0,_,_=>rfl
 | m+1,j,s=>by show oT (St.ai r txn nbs (j+1) m (s.az r (nbs j) txn)).ts=_;rw [zds r txn nbs m (j+1),znH]
theorem zhy (s:St) (r nb txn n slot:Nat) (o:Option Rw):oT (s.al r nb 3 txn n slot o).ts=oT s.ts:=zpd _ _ _
theorem zqv (s:St) (r:Nat) (nbs:Nat->Nat) (nb txn ops:Nat) (rw:Rw):oT (s.put r nbs nb txn ops rw).2.ts=oT s.ts:=by
 unfold St.put;split
 ·rfl
 ·split
  ·rfl
  ·split
   ·rw [zhy,(Zv _).2.1]
   ·split
    ·rfl
    ·rw [zhy,(Zv _).2.1]
theorem zqu (s:St) (r nb txn ops t:Nat) (k:List UInt8):oT (s.bs r nb txn ops t k).2.ts=oT s.ts:=by
 unfold St.bs;split
 ·rfl
 ·unfold St.db;split
  ·rfl
  ·split
   ·rfl
   ·rw [zhy,(Zv _).2.1]
theorem zpc {s:St} {r txn T:Nat} {nbs:Nat->Nat} {x:Tx} {n:Int} (h:s.ts[txn]?=some (some (T,x))):oT (s.a4 r txn nbs T x n).2.ts=oT s.ts:=by
 unfold St.a4;split
 ·rfl
 ·rw [zds];exact zcy h _
theorem zpe {s s':St} {r txn T:Nat} {x:Tx} {q:Rq} {rw:Rw} {v:ui} {e:Bool} (R:s.ts.length=4) (O:txn<=3) (u:s.ts[txn]?=some (some (T,x))) (L:Ge r s txn T x q rw v e s'):oT s'.ts=if e then fun k=>if k=txn then false else oT s.ts k else oT s.ts:=by
 have D:txn<s.ts.length:=by omega
 rcases L with ⟨_,_,rfl,rfl⟩ | ⟨_,nbs,nb,_,rfl,rfl⟩ | ⟨_,nb,_,rfl,rfl⟩ | ⟨_,_,rfl,rfl⟩ | ⟨_,_,rfl,rfl⟩ | ⟨_,nbs,_,rfl,rfl,_⟩ | ⟨_,_,rfl,rfl⟩ | ⟨_,nbs,_,rfl,rfl,_⟩
 ·rfl
 ·exact zqv ..
 ·exact zqu ..
 ·unfold St.bi;split<;>rfl
 ·exact zcy u _
 ·exact zpc u
 ·exact zef D
 ·show oT ((St.ai r txn nbs 0 x.I.length s).ts.set txn none)=_;have z:=zds r txn nbs x.I.length 0 s;have E:txn<(St.ai r txn nbs 0 x.I.length s).ts.length:=by have:=zee.1 ((congrFun z txn).trans (zee.2 ⟨T,x,u⟩));obtain ⟨_,_,h⟩:=this;exact (zr.1 h).1
  rw [zef E,z];rfl
structure ub (o:Nat->Bool) (hs:List (Int × Int)):Prop where
 len:hs.length<=6
 pos:∀ h n,zU hs h=some n->n≠0->∃ k:Nat,n=k/\1<=k/\k<=3/\o k=true
 inj:∀ h h' n,n≠0->zU hs h=some n->zU hs h'=some n->h=h'
theorem ub.nil (o:Nat->Bool):ub o []:=⟨by simp,fun h n e=>(by cases e),fun h u n _ e=>(by cases e)⟩
theorem ub.iw {o:Nat->Bool} {hs:List (Int × Int)} (h:ub o hs) (E:hs.length≠6) (x:Int):ub o (aput hs x 0):=by
 refine ⟨by have:=zeU hs x (0:Int);have:=h.len;omega,fun y n e z=>?_,fun y D n z e u=>?_⟩
 ·rw [ul] at e;split at e
  ·injection e with e;exact absurd e.symm z
  ·exact h.pos y n e z
 ·rw [ul] at e u;split at e
  ·injection e with e;exact absurd e.symm z
  ·split at u
   ·injection u with u;exact absurd u.symm z
   ·exact h.inj y D n z e u
theorem ub.ij {o:Nat->Bool} {hs:List (Int × Int)} (h:ub o hs) (x:Int):ub o (adel hs x):=by
 refine ⟨by have:=zeT hs x;have:=h.len;omega,fun y n e z=>?_,fun y D n z e u=>?_⟩
 ·rw [zbt] at e;split at e
  ·cases e
  ·exact h.pos y n e z
 ·rw [zbt] at e u;split at e
  ·cases e
  ·split at u
   ·cases u
   ·exact h.inj y D n z e u
theorem ub.an {o o':Nat->Bool} {hs:List (Int × Int)} (h:ub o hs) {x:Int} {n:Nat} (hx:qT hs x=true) (O:1<=n) (R:n<=3) (Y:o n=false) (Z:o'=fun k=>if k=n then true else o k):ub o' (aput hs x n):=by
 subst Z;refine ⟨by rw [GJ,if_pos hx];exact h.len,fun y m e hm=>?_,fun y L m hm e u=>?_⟩
 ·rw [ul] at e;split at e
  ·injection e with e;exact ⟨n,e.symm,O,R,if_pos rfl⟩
  ·obtain ⟨k,E,U,X,D⟩:=h.pos y m e hm;refine ⟨k,E,U,X,?_⟩;show (if k=n then true else o k)=true;split
   ·rfl
   ·exact D
 ·have key:∀ z m,m≠0->zU hs z=some m->m≠(n:Int):=fun z m hm e en=>by
   obtain ⟨k,E,_,_,D⟩:=h.pos z m e hm;have:k=n:=by omega
   rw [this,Y] at D;cases D
  rw [ul] at e u;split at e
  ·split at u
   ·rename_i a b;rw [a,b]
   ·injection e with e;exact absurd e.symm (key L m hm u)
  ·split at u
   ·injection u with u;exact absurd u.symm (key y m hm e)
   ·exact h.inj y L m hm e u
theorem ub.gc {o o':Nat->Bool} {hs:List (Int × Int)} (h:ub o hs) {x:Int} {n:Nat} (D:zU hs x=some (n:Int)) (h1:1<=n) (Y:o'=fun k=>if k=n then false else o k):ub o' (aput hs x 0):=by
 subst Y;have U:qT hs x=true:=by rw [yF,D];rfl
 refine ⟨by rw [GJ,if_pos U];exact h.len,fun y m e hm=>?_,fun y Z m hm e u=>?_⟩
 ·rw [ul] at e;split at e
  ·injection e with e;exact absurd e.symm hm
  ·rename_i X;obtain ⟨k,z,L,O,R⟩:=h.pos y m e hm;refine ⟨k,z,L,O,?_⟩;show (if k=n then false else o k)=true;split
   ·rename_i E;subst E;rw [z] at e;exact absurd (h.inj y x k (by omega) e D) X
   ·exact R
 ·rw [ul] at e u;split at e
  ·injection e with e;exact absurd e.symm hm
  ·split at u
   ·injection u with u;exact absurd u.symm hm
   ·exact h.inj y Z m hm e u
def zdy (q:Rq):Rw:=⟨q.rt.toNat,q.rk.data.toList,q.rv.data.toList⟩
theorem zpx {q:Rq} {rw:Rw} (h:q.rt=rw.t) (u:q.rk=zb rw.k) (z:q.rv=zb rw.v):zdy q=rw:=by unfold zdy;rw [h,u,z,Qm,Qm];rfl
def zcR (d:DL) (q:Rq):Int:=(zU d.hs q.hd).getD 0
def Yd (r:Nat) (d:DL) (q:Rq):ui × DL :=
 if zcR d q=0 then
  if q.kd=3 then (yj 0,{ d with hs:=adel d.hs q.hd })
  else if q.kd=4 then
   if (d.s.an 0).1=0 then (yj 8,d) else (yj 0,{ d with s:=(d.s.an 0).2,hs:=aput d.hs q.hd (d.s.an 0).1 })
  else (yj 4,d)
 else if q.kd=3∨q.kd=4 then (yj 4,d)
 else if (vK q.rt q.rk q.rv && decide (q.tt.size<=15))=false then (yj 1,d)
 else ((Jr r d.s (zcR d q).toNat (QN d.s.ts (zcR d q).toNat) q (zdy q)).1,
  { d with s:=(Jr r d.s (zcR d q).toNat (QN d.s.ts (zcR d q).toNat) q (zdy q)).2.2,hs:=if (Jr r d.s (zcR d q).toNat (QN d.s.ts (zcR d q).toNat) q (zdy q)).2.1 then aput d.hs q.hd 0 else d.hs })
def zjZ (boots r ct:Nat) (h:List Rw):DT:=⟨1,ct+1,some ⟨zjY r h,((Za (ct+1) boots:Nat):Int),0,[]⟩⟩
def uQ (boots r:Nat) (t:DT) (q:Rq) (b:List UInt8):ui × DT :=
 match t.ad with
 | none =>
  if q.kd=0 then (yj 0,zjZ boots r t.ct [])
  else if q.kd=14 then if (jb b).1=0 then (yj 0,zjZ boots r t.ct (jb b).2) else (yj (jb b).1,t)
  else (yj 3,t)
 | some d =>
  if q.kd=0∨q.kd=14 then (yj 3,t)
  else if q.kd=1 then if (zF d.s.ts).length=0 then (yj 0,⟨0,t.ct,none⟩) else (yj 4,t)
  else if q.kd=2 then if d.hs.length=6 then (yj 8,t) else (⟨0,d.ep*1048576+(d.nx+1),[],[],[]⟩,{ t with ad:=some { d with nx:=d.nx+1,hs:=aput d.hs (d.ep*1048576+(d.nx+1)) 0 } })
  else if q.kd=13 then if (zF d.s.ts).length=0 then (⟨0,0,[],[],Zg (d.s.N.map (·.rw))⟩,t) else (yj 4,t)
  else if 15<=q.kd then (yj 0,{ t with ad:=some { d with s:=zkz d.s q } })
  else if qT d.hs q.hd=false then (yj 2,t)
  else ((Yd r d q).1,{ t with ad:=some (Yd r d q).2 })
def zce (b:List UInt8) (rs:List zQ):Prop:=zq rs=b/\(∀ x,x∈rs->x.ok)/\zav rs/\0<rs.length
open Classical in
noncomputable def recsOf (b:List UInt8):List zQ:=if h:∃ rs,zce b rs then Classical.choose h else []
theorem zgc {b:List UInt8} (h:∃ rs,zce b rs):zce b (recsOf b):=by unfold recsOf;rw [dif_pos h];exact Classical.choose_spec h
noncomputable def openD (r:Nat) (s:St):St:=(yn r s.sto.J s.sto.bank (recsOf (s.sto.Q.take s.sto.av)) s.sto.dp z1 z1 z1 fun _=>z1).a1
noncomputable def crashD (boots r:Nat) (t:DT):DT:=match t.ad with
 | none=>t
 | some d=>⟨t.st,t.ct,some ⟨openD r d.s,((Za t.ct boots:Nat):Int),0,[]⟩⟩
def zbv (v:ui):ui:=if v.Z=0 then v else yj v.Z
theorem zoD (v:ui):(zbv v).Z=v.Z:=by unfold zbv;split<;>rfl
noncomputable def stepD (boots:Nat) (A:Nat->DT) (q:Rq) (b:List UInt8):ui × Nat × (Nat->DT) :=
 if q.kd=19 then (yj 0,boots+1,fun r=>crashD (boots+1) r (A r))
 else if 0<=q.kd/\q.kd<=17/\0<=q.tn/\q.tn<4 then
  (zbv (uQ boots q.tn.toNat (A q.tn.toNat) q b).1,boots,zZ A q.tn.toNat (uQ boots q.tn.toNat (A q.tn.toNat) q b).2)
 else (yj 1,boots,A)
def KE (h:Int):Prop:=h=0∨h=5∨h=7∨h=8
theorem ziY {r txn:Nat} {s:St} {x:Tx} {q:Rq} {rw:Rw} (h:¬ KE (Jr r s txn x q rw).1.Z):(Jr r s txn x q rw).2=(false,s):=by
 unfold Jr at h ⊢;split at h
 ·rename_i u;rw [if_pos u];unfold St.cp at h;have hb:takeB s.lk txn (rw.t,zb rw.k,false) 1=false:=by
   cases hb:takeB s.lk txn (rw.t,zb rw.k,false) 1 with
   | false=>rfl
   | true =>
    exfalso;apply h;rw [if_neg (by rw [hb];decide)];unfold zoy;split
    ·exact .inl rfl
    ·exact .inr (.inl rfl)
  unfold zfb takeS;rw [if_neg (by rw [hb];decide)]
 ·rename_i z;rw [if_neg z];split at h
  ·rename_i u;rw [if_pos u];unfold St.put at h ⊢;split at h
   ·rename_i hb;rw [if_pos hb]
   ·exfalso;apply h;split
    ·exact .inr (.inr (.inr rfl))
    ·split
     ·exact .inl rfl
     ·split
      ·exact .inr (.inr (.inl rfl))
      ·exact .inl rfl
  ·rename_i D;rw [if_neg D];split at h
   ·rename_i u;rw [if_pos u];unfold St.bs at h ⊢;split at h
    ·rename_i hb;rw [if_pos hb]
    ·exfalso;apply h;unfold St.db;split
     ·exact .inr (.inl rfl)
     ·split
      ·exact .inr (.inr (.inr rfl))
      ·exact .inl rfl
   ·rename_i E;rw [if_neg E];split at h
    ·rename_i u;rw [if_pos u];unfold St.bi at h ⊢;split at h
     ·rename_i hb;rw [if_pos hb];unfold takeS;rw [if_neg (by rw [hb];decide)]
     ·exact absurd (.inl rfl) h
    ·rename_i L;rw [if_neg L];split at h
     ·exfalso;apply h;dsimp only;split
      ·exact .inr (.inr (.inr rfl))
      ·exact .inl rfl
     ·split at h
      ·exfalso;apply h;unfold St.a4;split
       ·exact .inr (.inl rfl)
       ·exact .inl rfl
      ·split at h
       ·exact absurd (.inl rfl) h
       ·exact absurd (.inl rfl) h
theorem ziV {r:Nat} {d:DL} {q:Rq} (h:¬ KE (Yd r d q).1.Z):(Yd r d q).2=d:=by
 unfold Yd at h ⊢;split at h
 ·rename_i h0;rw [if_pos h0];split at h
  ·exact absurd (.inl rfl) h
  ·rename_i u;rw [if_neg u];split at h
   ·split at h
    ·exact absurd (.inr (.inr (.inr rfl))) h
    ·exact absurd (.inl rfl) h
   ·rename_i z;rw [if_neg z]
 ·rename_i h0;rw [if_neg h0];split at h
  ·rename_i u;rw [if_pos u]
  ·rename_i u;rw [if_neg u];split at h
   ·rename_i z;rw [if_pos z]
   ·rename_i z;rw [if_neg z];have:=ziY h;rw [this];rfl
theorem zkQ {boots r:Nat} {t:DT} {q:Rq} {b:List UInt8} (h:¬ KE (uQ boots r t q b).1.Z):(uQ boots r t q b).2=t:=by
 unfold uQ at h ⊢;cases O:t.ad with
 | none =>
  rw [O] at h;dsimp only at h ⊢;split at h
  ·exact absurd (.inl rfl) h
  ·rename_i h0;rw [if_neg h0];split at h
   ·rename_i u;rw [if_pos u];split at h
    ·exact absurd (.inl rfl) h
    ·rename_i z;rw [if_neg z]
   ·rename_i u;rw [if_neg u]
 | some d =>
  rw [O] at h;dsimp only at h ⊢;split at h
  ·rename_i h0;rw [if_pos h0]
  ·rename_i h0;rw [if_neg h0];split at h
   ·rename_i u;rw [if_pos u];split at h
    ·exact absurd (.inl rfl) h
    ·rename_i z;rw [if_neg z]
   ·rename_i u;rw [if_neg u];split at h
    ·rename_i z;rw [if_pos z];split at h
     ·rename_i D;rw [if_pos D]
     ·exact absurd (.inl rfl) h
    ·rename_i z;rw [if_neg z];split at h
     ·rename_i D;rw [if_pos D];split at h
      ·exact absurd (.inl rfl) h
      ·rename_i E;rw [if_neg E]
     ·rename_i D;rw [if_neg D];split at h
      ·exact absurd (.inl rfl) h
      ·rename_i E;rw [if_neg E];split at h
       ·rename_i L;rw [if_pos L]
       ·rename_i L;rw [if_neg L,ziV h,<- O]
theorem ziX {boots:Nat} {A:Nat->DT} {q:Rq} {b:List UInt8} (h:¬ KE (stepD boots A q b).1.Z):(stepD boots A q b).2=(boots,A):=by
 unfold stepD at h ⊢;split at h
 ·exact absurd (.inl rfl) h
 ·rename_i h0;rw [if_neg h0];split at h
  ·rename_i u;rw [if_pos u];rw [zoD] at h;rw [zkQ h,ZO]
  ·rename_i u;rw [if_neg u]
end
end Go.Proofs.YtechnoogjhohfaaGreat
