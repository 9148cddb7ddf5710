import Derived.Test.YtechnoogjhohfaaGreatM33
import Derived.Test.YtechnoogjhohfaaGreatM8
import Derived.Test.YtechnoogjhohfaaGreatM34
import Derived.Test.YtechnoogjhohfaaGreatM9
import Derived.Test.YtechnoogjhohfaaGreatM32
import Derived.Test.YtechnoogjhohfaaGreatM25
import Derived.Test.YtechnoogjhohfaaGreatM27
import Derived.LoopN
set_option maxRecDepth 100000
set_option maxHeartbeats 6400000
set_option linter.unusedVariables false
set_option linter.unusedSimpArgs false
namespace Go.Proofs.YtechnoogjhohfaaGreat
open Go.RowKit Go.Lib
open YtechnoogjhohfaaGreatW Go.Proofs.Tryz Go.Proofs.YtechnoogjhohfaaGreat.Tryz
section
variable {bz:Nat->Prop}
theorem zw.ar {W h:World} {D:Nat} {F:Nat->Prop} {cur:Nat->Nat->List UInt8} (L:jn W D F cur) (hb:∀ x,F x->¬ bz x) (z:zz F W h):zw bz W h :=
 zw.ad hb (fun x t c R E=>qJ E z (fun O=>R (by
  have u:=L.ah O;rw [zh E] at u;simp only [zO,qU,or_false] at u ⊢;omega))) z
theorem zlW (H D r:Nat) (F:Nat->Prop) (cur:Nat->Nat->List UInt8) (ts:Nat->Tn) (boots:Nat) (l:Tl) (w:World) (h:zN bz w H D F cur ts boots) (O:r<4) (hl:(ts r).ac=some l) :
  zc 30 #[.pointer (some ⟨H,0,none⟩),.pointer (some ⟨H,1+r*5,none⟩),.int .i64 r] w fun e W=>((zF l.s.ts).length≠0/\e=.returned (.int .i64 4)/\W=w)∨((zF l.s.ts).length=0/\e=.returned (.int .i64 0)/\zw bz w W/\∃ F' cur',zN bz W H D F' cur' (vz ts F' r ⟨0,(ts r).ct,none⟩) boots):=by
 obtain ⟨hT,i5⟩:=h.ac r l O hl;obtain ⟨j1,h6,h7,h8,_⟩:=qs.b6 h (za _) O hl;have f2:zc 31 #[.pointer (some ⟨l.a.S,1,none⟩)] w fun e w'=>e=.returned (.int .i64 (zF l.s.ts).length)/\w'=w:=zdD l.a.S l.s.ts w hT.sto.aq.row hT.sto.aq.len;have c3:=hid f2;obtain ⟨n,hn⟩:=ex ((zF l.s.ts).length);rw [<- hn] at c3 ⊢;clear f2 hn;by_cases h0:n=0
 ·have q1:decide ((0:Int)<(n:Int))=false:=by rw [h0];rfl
  have q2:decide (0<n)=false:=by rw [h0];rfl
  have i2:=(h.ea r O).2;have e4:(ts r).ct<4294967296:=by omega
  obtain ⟨ct,c9⟩:=ex ((ts r).ct);have d2:=zlV h.U O;have f3:w.rangeAt H (1+r*5+2) [.int .i64 1,.int .u64 ct]:=by
   have e:[((ts r).t5).s,((ts r).t5).c]=[Value.int .i64 1,Value.int .u64 ct]:=by unfold Tn.t5;rw [hl,i5,c9];rfl
   rw [e] at d2;exact d2
  have H0:=hid h;have g7:=hid f3;obtain ⟨a7,HN⟩:=zi2 c9 h0;clear h hT h6 h7 h8 d2 f3 c9 h0;go_enter func30,ntmps30;go_upto_region 5 with (first|((with_reducible refine aV 31 c3.o ?_);rintro e1 w1 ⟨rfl,a1⟩;subst w1)|((with_reducible refine gV 21 ?_);refine mV [.int .i64 1,.int .u64 ct] g7.o ?_)|((with_reducible refine hV 7 ?_);refine nV #[.int .i64 1,.int .u64 ct] (by simp [Value.oneCell']) ?_;have h9:=zH _ w.heap.size 0 _ _ (zo w (.cells #[.int .i64 1,.int .u64 ct] 68) rfl);have k0:=ze _ w.heap.size 0 _ _ _ (zo w (.cells #[.int .i64 1,.int .u64 ct] 68) rfl)));obtain ⟨w1,a1⟩:=ex (w.alloc (.cells #[.int .i64 2,.int .u64 ct] 68));obtain ⟨X,hX⟩:=ex w.heap.size;have c8:Below w.heap.size w w1:=by rw [a1];exact B_alloc (zf _ _) _
  have d3:w1.heap[X]?=some (.cells #[.int .i64 2,.int .u64 ct] 68 (0,0)):=by rw [a1,hX];exact zo _ _ rfl
  have a9:=H0.o.below c8;have i1:w.heap.size<=X:=Nat.le_of_eq hX.symm;rw [<- a1,<- hX];have f4:=zaU D F cur r 2 ct w1.drew a9.ar.drew O (by omega) (by rw [a7.o];exact e4);have f5:zc 50 #[.pointer (some ⟨D,0,none⟩),.int .i64 r,.agg #[.int .i64 2,.int .u64 ct]] w1.drew _:=f4;have hS:w1.drew.cell? ⟨H,0,none⟩=some (.pointer (some ⟨D,0,none⟩))/\w1.drew.heap[X]?=some (.cells #[.int .i64 2,.int .u64 ct] 68 (0,0)):=⟨(xV _ 0 a9.U (zdv _ _ _)),d3⟩;have g8:=hid f5;obtain ⟨g2,c5,z⟩:=zi3 c8 d3 a9;clear a1 hX c8 d3 a9 f4 f5 h9 k0;refine sV [6] 8 (fun w'=>zI w' H 0 (.pointer (some ⟨D,0,none⟩))/\jK w' X #[.int .i64 2,.int .u64 ct] 68) hS fun i0=>?_;refine pV 0 ?_;refine pV 1 ?_;refine pV 2 ?_;refine cV 3 (fun _ h=>h.1) ?_;refine pV 4 ?_;refine kV 5 rfl (qQ 68 (.tmp 7) rfl (by rfl) X (by rfl) 68 #[.int .i64 2,.int .u64 ct] (0,0) _ (fun _ h=>h.2) underlying68 rfl (by kernel_rfl)) ?_;refine lC 6 g8.o ?_;rintro j2 w2 ⟨rfl,F2,c7,a4,d0⟩;refine eL ?_;refine pV 7 ?_;refine dV ?_;have e8:=zw.ar (bz:=bz) (z.o.ar.drew) z.o.base.2.1 a4;have d1:∀ {x t:Nat} {C:Array Value},w1.heap[x]?=some (.cells C t (0,0))->t ∉ [81,118,86,120]->¬ F x:=fun u R Y=>R (by have:=z.o.ar.ah Y;rw [zh u] at this;exact this);have d4:=qJ (show w1.drew.heap[_]?=_ from z.o.U) a4 (d1 z.o.U (by decide));have f9:=qJ (show w1.drew.heap[_]?=_ from c5.o) a4 (d1 c5.o (by decide));have e2:∀ x,F2 x->¬ bz x:=fun x u=>(d0 x u).elim (z.o.base.2.1 x) (fun E=>z.o.eg E);have a5:=zdh D F2 (vg cur r 0 (jQ (yU 2 ct))) r 2 ct w2 c7 O (by unfold vg;rw [zk,zk]) (by omega) (by rw [a7.o];exact e4);have k0:=xV _ 0 d4 (zdv _ _ _);obtain ⟨g9,c2,c1,d6,d7,d5,g6,g5⟩:=zi8 a5 a4 c7 f9 d4 e2 d0 e8;clear a5 a4 c7 f9 d4 e2 d0 e8 hS i0 d1;go_upto_region 11 with (first|((with_reducible refine aV 42 g9.o ?_);rintro j3 w3 ⟨rfl,F3,a8,a0,f0⟩;have a6:=qJ d6.o a0 (fun Y=>by have:=c1.o.ah Y;rw [zh d6.o] at this;simp at this))|(show wpList _ _ _ (⟨none,.store 68 _ _,_,_,_,_⟩::_) _ _;refine wpList_store_row rfl 68 (.tmp 7) (.tmp 40) rfl X #[.int .i64 0,.int .u64 ct] (by rfl) (by rfl) 68 _ a6 (by kernel_rfl) (by rfl) (by simp [Value.oneCell']) ?_));have b9:=qJ d7.o a0 (fun Y=>by have:=c1.o.ah Y;rw [zh d7.o] at this;simp at this);obtain ⟨w4,Z⟩:=ex (w3.setRow X #[.int .i64 0,.int .u64 ct]);have e0:X≠H:=fun e=>by have E:=zh a6;rw [e,zh b9] at E;simp at E
  have g0:w4.heap[X]?=some (.cells #[.int .i64 0,.int .u64 ct] 68 (0,0)):=by rw [Z];exact setRow_heap w3 X _ _ 68 _ a6
  have c0:w4.heap[H]?=some (.cells (hC D (fun r=>(ts r).t5) boots) 73 (0,0)):=by rw [Z];exact (setRow_other w3 X H _ (Ne.symm e0)).trans b9
  have c6:∀ x,x≠X->w4.heap[x]?=w3.heap[x]?:=fun x u=>by rw [Z];exact setRow_other w3 X x _ u
  have i9:w4.heap.size=w3.heap.size:=by rw [Z];simp
  obtain ⟨w5,U⟩:=ex (w4.setRow H (hC D (zV (fun i=>(ts i).t5) r (Tn.t5 ⟨0,ct,none⟩)) boots));have hput:=zhB D (fun i=>(ts i).t5) boots r O (Tn.t5 ⟨0,ct,none⟩);have f7:w4.setRow H (List.take (1+r*5) (hC D (fun r=>(ts r).t5) boots).toList++[Value.pointer none,Value.pointer none,Value.int .i64 0,Value.int .u64 ct,Value.bool false]++List.drop (1+r*5+5) (hC D (fun r=>(ts r).t5) boots).toList).toArray=w5:=by rw [U,<- hput];rfl
  have a3:∀ x,x≠H->w5.heap[x]?=w4.heap[x]?:=fun x u=>by rw [U];exact setRow_other w4 H x _ u
  have j0:w5.heap.size=w4.heap.size:=by rw [U];simp
  have e3:∀ x,F3 x->¬ bz x:=fun x u=>(f0 x u).elim (d5.o x) (fun E=>z.o.eg (zA c2.o.size E));have d9:∀ x,F3 x->w5.heap[x]?=w3.heap[x]?:=fun x u=>by
   have R:=a8.ah u;refine (a3 x (fun e=>?_)).trans (c6 x (fun e=>?_))
   ·rw [e,zh b9] at R;simp at R
   ·rw [e,zh a6] at R;simp at R
  have a5:Zb (vg cur r 0 (jQ (yU 2 ct))) r 2 ct=vg (yS (vg cur r 0 (jQ (yU 2 ct))) r 1 538) r 0 (jQ (yU 0 ct)):=by unfold Zb;rw [if_neg (by decide),if_pos rfl]
  rw [a5] at a8;have d8:=zL.same a8 d9 (by omega);have i7:w1.heap.size<=w2.heap.size:=c2.o.size;have i8:=a0.size;have e5:zN bz w5 H D F3 (vg (yS (vg cur r 0 (jQ (yU 2 ct))) r 1 538) r 0 (jQ (yU 0 ct))) (vz ts F3 r ⟨0,ct,none⟩) boots:=by
   refine zN.gb (qs.step (k':=4) (boots':=boots) z.o ⟨0,ct,none⟩ O (fun i L _=>L) ?_ d8 ?_ ⟨zU _,by rw [a7.o];exact i2⟩ (fun l' e=>by cases e) (fun _=>⟨rfl,?_⟩) ?_ ?_ (by omega) (fun l' x e=>by cases e) e3 (fun l' x e=>by cases e)) ?_
   ·rw [U];exact setRow_heap w4 H _ _ 73 _ c0
   ·unfold vg;rw [zk,zk]
   ·intro q h1 h2;unfold vg yS;rw [zk,zt _ _ (by omega),zk,if_pos ⟨h1,h2⟩]
   ·intro i l2 x L j5 e9 u;obtain ⟨h2,_⟩:=z.o.ac i l2 L e9;have i3:=(h2.ah x u).2;have f6:=(h2.ah x u).1;have f1:=h2.c9 u;have i4:¬ F2 x:=fun Y=>(g6.o x Y).elim f1 (fun E=>by have j4:w1.heap.size<=x:=E;omega);have i6:x≠X:=fun e=>by rw [e,zh c5.o] at f6;simp at f6
    have e1:w2.heap[x]?=w1.heap[x]?:=c2.o.block x i3 f1;exact (a3 x (qs.dx z.o L e9 (.inl u))).trans ((c6 x i6).trans ((a0.block x (by omega) i4).trans e1))
   ·intro i q L;unfold vg yS;rw [zt _ _ L,zt _ _ L,zt _ _ L]
   ·funext i;by_cases e:i=r
    ·subst e;rw [zk,jI]
    ·rw [zt _ _ e,vN _ _ _ e,Tn.et]
  have e6:zw bz w w4:=by rw [Z];exact ((zw.below g2.o).trans ((zw.ay g5.o).trans (zw.ar c1.o d5.o a0))).setRow i1 _
  have e7:zw bz w w5:=e6.trans ⟨fun x t c R u=>(a3 x (fun e=>by
   subst e;rw [c0] at u;injection u with u;injection u with _ u;subst u;exact R (by decide))).trans u,by rw [U];rfl,by rw [U];rfl,by rw [U];rfl,by omega,fun x h1 _=>a3 x (fun e=>z.o.base.1 (e ▸ h1))⟩
  have f8:w4.setRow H (List.take (1+r*5) (hC D (fun r=>(ts r).t5) boots).toList++Value.pointer none::Value.pointer none::Value.int .i64 0::Value.int .u64 ct::Value.bool false::List.drop (1+r*5+5) (hC D (fun r=>(ts r).t5) boots).toList).toArray=w5:=by rw [<- f7];simp
  obtain ⟨h4,h5,g3,g4,h3⟩:=zi5 g0 c0 e5 e7 f8;rw [<- Z];clear b9 Z g0 c0 c6 i9 U hput f7 f8 a3 j0 e3 d9 a5 a8 d8 i7 i8 e5 e6 e7 a6 a0 f0 k0 e0;go_wp2_with (first|((with_reducible refine gV 46 ?_);refine rV h4.o ?_)|(show wpList _ _ _ (⟨none,.store 70 _ _,_,_,_,_⟩::_) _ _;refine yM rfl 70 (.tmp 48) (.tmp 47) rfl H (1+r*5) 73 _ #[.pointer none,.pointer none,.int .i64 0,.int .u64 ct,.bool false] (by rfl) (by rfl) h5.o (by rw [KE];simp;omega) (by kernel_rfl) (by simp [Value.oneCell']) ?_));go_ret;refine .inr ⟨HN.o,rfl,?_⟩;rw [h3.o,<- a7.o];exact ⟨g4.o,F3,_,g3.o⟩
 ·have q1:decide ((0:Int)<(n:Int))=true:=by simp;omega
  have q2:decide (0<n)=true:=by simp;omega
  have HN:=hid h0;clear h hT h0;go_enter func30,ntmps30;go_wp2_with ((with_reducible refine aV 31 c3.o ?_);rintro e1 w1 ⟨rfl,a1⟩;subst w1);go_ret;exact .inl ⟨HN.o,rfl,rfl⟩
end
section
variable {bz:Nat->Prop}
def zkb (s:St) (q:Rq) (s':St):Prop:=(q.kd=15/\s'={ s with sto:=s.sto.bc (zdn q.n) })∨(q.kd=16/\s'=s.cj)∨(q.kd=17/\s'=s.a1)
theorem zkW (H a1 r:Nat) (F:Nat->Prop) (cur:Nat->Nat->List UInt8) (ts:Nat->Tn) (boots:Nat) (l:Tl) (q:Rq) (w:World) (P:An->World->Prop) (a0:zN bz w H a1 F cur ts boots) (hr:r<4) (hl:(ts r).ac=some l)
  (u:q.kd=1∨q.kd=15∨q.kd=16∨q.kd=17) (d9:q.tn=r) (hn:iok q.n) (hP:∀ a W W',P a W->js W W'->P a W') (c7:jR l.s) (c0:l.s.sto.J+1<4294967296)
  (c3:q.kd=1->(zF l.s.ts).length≠0->∀ W,zN bz W H a1 F cur ts boots->P (qo 4) W)
  (c6:q.kd=1->(zF l.s.ts).length=0->∀ F' cur' W,zN bz W H a1 F' cur' (vz ts F' r ⟨0,(ts r).ct,none⟩) boots->P (qo 0) W)
  (c8:∀ s' E cur' W,zkb l.s q s'->zN bz W H a1 E.F cur' (vz ts E.F r { ts r with ac:=some { l with b:=E,s:=s' } }) boots->P (qo 0) W) :
  zc 23 #[.pointer (some ⟨H,0,none⟩),.pointer (some ⟨H,1+r*5,none⟩),.agg (zK q).toArray] w fun e W'=>∃ a,e=.returned (.agg (zQ a).toArray)/\a.Z≠10/\zw bz w W'/\P a W':=by
 obtain ⟨w1,a3⟩:=ex (QJ w q);have a9:zd w w1:=by rw [a3];exact yP w q
 have a6:w1.heap[w.heap.size]?=some (.cells (zK q).toArray 37 (0,0)):=by rw [a3];exact ZO w q
 have c2:w1.heap[w.heap.size+1]?=some (.cells qI 31 (0,0)):=by rw [a3];exact Zs w q
 have k0:=xV (Value.int .i64 q.kd) 0 a6;have k1:=xV (Value.int .i64 r) 1 a6 (by rw [<- d9];rfl);have a7:=a0.below a9;obtain ⟨c1,e0,e1,_,_⟩:=qs.b6 a7 (by omega) hr hl;obtain ⟨hT,d8⟩:=a7.ac r l hr hl;have c9:(w.alloc (.cells (zK q).toArray 37)).alloc (.cells qI 31)=w1:=a3.symm;obtain ⟨a4,d7,a5,HP,d6,X,HT,d0,d1⟩:=zi9 a9 a6 c2 hP c9 a7 hT c3 c6;obtain ⟨a8,d2⟩:=zi2 c8 c7;clear a3 c9 a9 a6 c2 hP a7 a0 hT d8 c3 c6 c8 c7;go_enter func23,ntmps23;go_upto_region 1 with fail;rw [d6.o];rcases u with u | u | u | u
 ·rw [u] at k0;have L:=hid u;clear u;have U:Hid (zc 30 #[.pointer (some ⟨H,0,none⟩),.pointer (some ⟨H,1+r*5,none⟩),.int .i64 r] w1 fun e W=>∃ h:Int,e=.returned (.int .i64 h)/\h≠10/\zw bz w1 W/\P (qo h) W):=hid ((zlW H a1 r F cur ts boots l w1 X.o hr hl).mono (by
   rintro e W (⟨hb,rfl,rfl⟩ | ⟨hb,rfl,Z,F',cur',Y⟩)
   ·exact ⟨4,rfl,by decide,zw.refl _,d0.o L.o hb _ X.o⟩
   ·exact ⟨0,rfl,by decide,Z,d1.o L.o hb F' cur' W Y⟩))
  go_wp2_with (first|((with_reducible refine aV 30 U.o ?_);rintro e2 w2 ⟨h,rfl,O,D,R⟩;have z:=D _ _ _ (by decide) a5.o)|((with_reducible refine hV 6 ?_);refine wV 0 (zQ (qo h)).toArray z ?_));refine jr (an:=qo h) 6 rfl rfl rfl z rfl ⟨qo h,rfl,O,((zw.below a4.o).trans D).setRow (by omega) _,?_⟩;exact HP.o _ _ _ R (js.setRow z _)
 ·rw [u] at k0;have L:=hid u;clear u;have U:Hid (zc 35 #[.pointer (some ⟨l.a.S,0,none⟩),.int .i64 q.n] w1.drew fun e W=>∃ h:Int,e=.returned (.int .i64 h)/\h≠10/\zw bz w1.drew W/\P (qo h) W/\W.cell? ⟨H,1+r*5,none⟩=some (.pointer (some ⟨l.a.S,0,none⟩))):=hid ((zoM l.a l.b cur l.s q.n w1.drew HT.o.sto.drew hn).mono (by
   rintro e W ⟨rfl,E,cur',hA,hE⟩;obtain ⟨Z,Y⟩:=Zg X.o.drew hr hl hA hE;exact ⟨0,rfl,by decide,Z,a8.o _ E cur' W (.inl ⟨L.o,rfl⟩) Y,(yI (w:=w1.drew) (hE.ad.block H (zj X.o.U) (fun hx=>qs.dx X.o hr hl (zau HT.o hx) rfl))).trans c1⟩))
  have hS:=And.intro c1 d7.o;go_upto_region 27 with fail;refine sV [8] 9 (fun w'=>zI w' H (1+r*5) (.pointer (some ⟨l.a.S,0,none⟩))/\w'.heap[w.heap.size]?=some (.cells (zK q).toArray 37 (0,0))) hS fun b9=>?_;refine pV 0 ?_;refine pV 1 ?_;refine pV 2 ?_;refine cV 3 (fun _ a0=>a0.1) ?_;refine pV 4 ?_;refine cV 5 (fun _ a0=>xV (Value.int .i64 q.n) 7 a0.2) ?_;refine oC 6 U.o ?_;rintro e2 w2 ⟨h,rfl,O,D,R,c5⟩;have z:=D _ _ _ (by decide) (show w1.drew.heap[_]?=_ from a5.o);refine eV ⟨c5,D _ _ _ (by decide) b9.2⟩ fun b9=>?_;refine pV 7 ?_;refine lV 8 fun K hK=>?_;refine vY 31 (.tmp 6) (.tmp 95) rfl (w.heap.size+1) 0 31 _ (zQ (qo h)).toArray (by rfl) (by rfl) z (by simp [zQ]) (by kernel_rfl) (by simp [zQ,Value.oneCell']) ?_;refine hK.out _ _ ?_;clear hK K;try simp only [pS]
  refine dV ?_;obtain ⟨d3,d5,HX,d4⟩:=zi4 D R z O;clear D R z O hS b9 c5;go_wp2_with fail;refine jr (an:=qo h) 6 rfl rfl rfl HX.o rfl ⟨qo h,rfl,d4.o,((zw.below a4.o).trans (zw.ay d3.o)).setRow (by omega) _,?_⟩;exact HP.o _ _ _ d5.o (js.setRow HX.o _)
 ·rw [u] at k0;have L:=hid u;clear u;have U:Hid (zc 36 #[.pointer (some ⟨l.a.S,0,none⟩)] w1 fun e W=>∃ h:Int,e=.returned (.int .i64 h)/\h≠10/\zw bz w1 W/\P (qo h) W):=hid ((zom l.a l.b cur l.s w1 HT.o.sto c0 (zdj (d2.o.c.ready c0).1.ae)).mono (by
   rintro e W ⟨rfl,E,cur',hA,hE⟩;obtain ⟨Z,Y⟩:=Zg X.o hr hl hA hE;exact ⟨0,rfl,by decide,Z,a8.o _ E cur' W (.inr (.inl ⟨L.o,rfl⟩)) Y⟩))
  go_wp2_with (first|((with_reducible refine aV 36 U.o ?_);rintro e2 w2 ⟨h,rfl,O,D,R⟩;have z:=D _ _ _ (by decide) a5.o)|((with_reducible refine hV 6 ?_);refine wV 0 (zQ (qo h)).toArray z ?_));refine jr (an:=qo h) 6 rfl rfl rfl z rfl ⟨qo h,rfl,O,((zw.below a4.o).trans D).setRow (by omega) _,?_⟩;exact HP.o _ _ _ R (js.setRow z _)
 ·rw [u] at k0;have L:=hid u;clear u;have U:Hid (zc 37 #[.pointer (some ⟨l.a.S,0,none⟩)] w1 fun e W=>∃ h:Int,e=.returned (.int .i64 h)/\h≠10/\zw bz w1 W/\P (qo h) W):=hid ((zdE l.a l.b cur l.s w1 HT.o.sto c0).mono (by
   rintro e W ⟨rfl,E,cur',hA,hE⟩;obtain ⟨Z,Y⟩:=Zg X.o hr hl hA hE;exact ⟨0,rfl,by decide,Z,a8.o _ E cur' W (.inr (.inr ⟨L.o,rfl⟩)) Y⟩))
  go_wp2_with (first|((with_reducible refine aV 37 U.o ?_);rintro e2 w2 ⟨h,rfl,O,D,R⟩;have z:=D _ _ _ (by decide) a5.o)|((with_reducible refine hV 6 ?_);refine wV 0 (zQ (qo h)).toArray z ?_));refine jr (an:=qo h) 6 rfl rfl rfl z rfl ⟨qo h,rfl,O,((zw.below a4.o).trans D).setRow (by omega) _,?_⟩;exact HP.o _ _ _ R (js.setRow z _)
end
section
variable {bz:Nat->Prop}
theorem ziE (H D r:Nat) (F:Nat->Prop) (cur:Nat->Nat->List UInt8) (ts:Nat->Tn) (boots:Nat) (l:Tl) (q:Rq) (v:Value) (w:World) (h:zN bz w H D F cur ts boots) (Z:r<4) (Y:(ts r).ac=some l) :
  zc 28 #[.pointer (some ⟨H,0,none⟩),.pointer (some ⟨H,1+r*5,none⟩),.agg (zK q).toArray,v] w fun e W=>e=.returned (.agg (zQ (qo 3)).toArray)/\zw bz w W/\js w W:=by
 obtain ⟨w1,u⟩:=ex (QJ w q);have E:zd w w1:=by rw [u];exact yP w q
 have O:w1.heap[w.heap.size+1]?=some (.cells qI 31 (0,0)):=by rw [u];exact Zs w q
 have R:=h.below E;obtain ⟨c0,c1,c2,_,_⟩:=qs.b6 R (by omega) Z Y;have U:(w.alloc (.cells (zK q).toArray 37)).alloc (.cells qI 31)=w1:=u.symm;obtain ⟨L,z,X⟩:=zi3 E O U;clear u U E O R h;go_enter func28,ntmps28;go_upto_region 1 with fail;rw [X.o];go_wp2_with ((with_reducible refine hV 8 ?_);refine wV 0 (zQ (qo 3)).toArray z.o ?_);exact jr (an:=qo 3) 8 rfl rfl rfl z.o rfl ⟨rfl,(zw.below L.o).setRow (by omega) _,(js.below L.o).trans (js.setRow z.o _)⟩
theorem zjo (H D r:Nat) (F:Nat->Prop) (cur:Nat->Nat->List UInt8) (ts:Nat->Tn) (boots:Nat) (l:Tl) (q:Rq) (b:List UInt8) (w:World) (P:An->World->Prop) (a1:zN bz w H D F cur ts boots) (hr:r<4) (hl:(ts r).ac=some l)
  (h:q.kd=0∨q.kd=14) (hP:∀ a W z,P a W->js W z->P a z) (hb:zi w (.slice q.dA q.dn q.dc) b) (b9:b.length<=100000) (hend:P (qo 3) w) :
  zc 23 #[.pointer (some ⟨H,0,none⟩),.pointer (some ⟨H,1+r*5,none⟩),.agg (zK q).toArray] w fun e z=>∃ a,e=.returned (.agg (zQ a).toArray)/\a.Z≠10/\zw bz w z/\P a z:=by
 obtain ⟨w1,L⟩:=ex (QJ w q);have U:zd w w1:=by rw [L];exact yP w q
 have X:w1.heap[w.heap.size]?=some (.cells (zK q).toArray 37 (0,0)):=by rw [L];exact ZO w q
 have a3:w1.heap[w.heap.size+1]?=some (.cells qI 31 (0,0)):=by rw [L];exact Zs w q
 have k0:=xV (Value.int .i64 q.kd) 0 X;have k9:=xV (Value.slice q.dA q.dn q.dc) 9 X;have Z:=a1.below U;obtain ⟨c1,c2,c3,_,_⟩:=qs.b6 Z (by omega) hr hl;have a5:(w.alloc (.cells (zK q).toArray 37)).alloc (.cells qI 31)=w1:=L.symm;have a6:=hid (ziE H D r F cur ts boots l q (.slice none 0 0) w1 Z hr hl);have a7:=hid (zdf (.slice q.dA q.dn q.dc) b w1 (hb.below U) b9);obtain ⟨O,a9,Y,R,a8,a0⟩:=zi6 U X a3 hP a5 hend;clear L a5 U X a3 hP Z a1 hend hb;go_enter func23,ntmps23;go_upto_region 1 with fail;rw [a8.o];rcases h with h | h
 ·rw [h] at k0;clear h;go_wp2_with (first|((with_reducible refine gV 23 ?_);refine rV a9.o ?_)|((with_reducible refine aV 28 a6.o ?_);rintro e2 w2 ⟨rfl,a4,E⟩;have u:=a4 _ _ _ (by decide) Y.o)|((with_reducible refine hV 6 ?_);refine wV 0 (zQ (qo 3)).toArray u ?_));refine jr (an:=qo 3) 6 rfl rfl rfl u rfl ⟨qo 3,rfl,by decide,((zw.below O.o).trans a4).setRow (by omega) _,?_⟩;exact R.o _ _ _ (R.o _ _ _ a0.o ((js.below O.o).trans E)) (js.setRow u _)
 ·rw [h] at k0;clear h;go_wp2_with (first|((with_reducible refine aV 29 a7.o ?_);rintro e2 w2 ⟨rv,rfl,c0,E⟩;obtain ⟨A2,c5,rfl⟩:=own_slice c0;have u:=zg Y.o E (zj Y.o))|((with_reducible refine hV 6 ?_);refine wV 0 (zQ (qo 3)).toArray u ?_));refine jr (an:=qo 3) 6 rfl rfl rfl u rfl ⟨qo 3,rfl,by decide,((zw.below O.o).trans (zw.below E)).setRow (by omega) _,?_⟩;exact R.o _ _ _ (R.o _ _ _ a0.o ((js.below O.o).trans (js.below E))) (js.setRow u _)
end
section
variable {bz:Nat->Prop}
theorem zkZ (H a0 r:Nat) (F:Nat->Prop) (cur:Nat->Nat->List UInt8) (ts:Nat->Tn) (boots:Nat) (l:Tl) (q:Rq) (w:World) (P:An->World->Prop) (h:zN bz w H a0 F cur ts boots) (hr:r<4) (hl:(ts r).ac=some l)
  (d9:q.kd=3) (a4:iok q.hd) (c2:qS l.hs q.hd=true) (hP:∀ a W E,P a W->js W E->P a E)
  (b9:(zW l.hs q.hd).getD 0≠0->∀ W,zN bz W H a0 F cur ts boots->P (qo 4) W)
  (c1:(zW l.hs q.hd).getD 0=0->∀ W,zN bz W H a0 F cur (vz ts F r { ts r with ac:=some { l with nx:=l.nx,hs:=adel l.hs q.hd } }) boots->P (qo 0) W) :
  zc 39 #[.pointer (some ⟨H,0,none⟩),.pointer (some ⟨H,1+r*5,none⟩),.agg (zK q).toArray] w fun e E=>∃ a,e=.returned (.agg (zQ a).toArray)/\a.Z≠10/\zw bz w E/\P a E:=by
 obtain ⟨w1,U⟩:=ex (QJ w q);have a1:zd w w1:=by rw [U];exact yP w q
 have Z:w1.heap[w.heap.size]?=some (.cells (zK q).toArray 37 (0,0)):=by rw [U];exact ZO w q
 have a9:w1.heap[w.heap.size+1]?=some (.cells qI 31 (0,0)):=by rw [U];exact Zs w q
 have k0:=xV (Value.int .i64 q.kd) 0 Z;rw [d9] at k0;have u:=h.below a1;obtain ⟨e6,L,_,_,_⟩:=qs.b6 u (by omega) hr hl;obtain ⟨Y,e1⟩:=u.ac r l hr hl;have R:Dk.DeskAt w1.drew l.kb l.km l.ep l.nx l.hs:=Y.dk.below (zf _ _).drew (DeskAt.ah Y.dk).2.2.1 (DeskAt.ah Y.dk).2.2.2;have c6:=Dk.txn_any l.kb l.km l.ep l.nx l.hs q.hd a4 w1.drew R;have D:Dk.DeskAt w1.drew.drew l.kb l.km l.ep l.nx l.hs:=R.below (zf _ _).drew (DeskAt.ah R).2.2.1 (DeskAt.ah R).2.2.2;have c5:zc 72 #[.pointer (some ⟨l.kb,0,none⟩),.int .i64 q.hd] w1.drew.drew fun e W=>∃ (X:Int) (c:Bool),((X=0/\c=true)∨(X=4/\c=false))/\e=.returned (.bool c)/\zw bz w1 W/\P (qo X) W/\W.cell? ⟨H,1+r*5+1,none⟩=some (.pointer (some ⟨l.kb,0,none⟩)):=by
  by_cases h0:(zW l.hs q.hd).getD 0=0
  ·refine (Dk.shut_free l.kb l.km l.ep l.nx l.hs q.hd a4 w1.drew.drew D c2 h0).mono ?_;rintro e W ⟨rfl,d8,e2⟩;have a6:zG (fun i=>i=l.kb∨i=l.km) w1.drew.drew W:=e2.mono (fun i _ e=>.inr e);have c0:=DeskAt.ah D;have e0:¬ (H=l.kb∨H=l.km):=fun e=>by
    rcases e with e | e
    ·have O:=zh (show w1.drew.drew.heap[H]?=_ from u.U);rw [e,c0.1] at O;simp at O
    ·have O:=zh (show w1.drew.drew.heap[H]?=_ from u.U);rw [e,c0.2.1] at O;simp at O
   exact ⟨0,true,.inl ⟨rfl,rfl⟩,rfl,zw.ay (zw.ay (zw.cv (qs.fb u hr hl) D a6)),c1 h0 W (u.drew.drew.cv hr hl d8 a6),(yI (w:=w1.drew.drew) (a6.block H (zj u.U) e0)).trans L⟩
  ·refine (Dk.shut_busy l.kb l.km l.ep l.nx l.hs q.hd a4 w1.drew.drew D c2 h0).mono ?_;rintro e W ⟨rfl,rfl⟩;exact ⟨4,false,.inr ⟨rfl,rfl⟩,rfl,zw.ay (zw.ay (zw.refl _)),b9 h0 _ u.drew.drew,L⟩
 have c7:(w.alloc (.cells (zK q).toArray 37)).alloc (.cells qI 31)=w1:=U.symm;have hS:=And.intro L Z;obtain ⟨d2,d1,c9,d4,d5,HP,d3,e5,e4⟩:=zi9 c6 c5 a1 Z a9 hP c7 u D;have d0:=hid L;clear U c7 a1 Z a9 hP c1 b9 c6 c5 u R D h Y e1 L;go_enter func39,ntmps39;go_upto_region 1 with fail;rw [d3.o];refine sV [6] 8 (fun w'=>zI w' H (1+r*5+1) (.pointer (some ⟨l.kb,0,none⟩))/\w'.heap[w.heap.size]?=some (.cells (zK q).toArray 37 (0,0))) hS fun a3=>?_;refine pV 0 ?_;refine pV 1 ?_;refine pV 2 ?_;refine cV 3 (fun _ h=>h.1) ?_;refine pV 4 ?_;refine cV 5 (fun _ h=>xV (Value.int .i64 q.hd) 2 h.2) ?_;refine lC 6 d2.o ?_;rintro e7 w2 ⟨rfl,e3⟩;subst e3;refine eL ?_;refine pV 7 ?_;refine dV ?_;clear a3 hS;go_upto_region 4 with fail;refine sV [6] 8 (fun w'=>zI w' H (1+r*5+1) (.pointer (some ⟨l.kb,0,none⟩))/\w'.heap[w.heap.size]?=some (.cells (zK q).toArray 37 (0,0))) ⟨d0.o,d4.o⟩ fun a3=>?_;refine pV 0 ?_;refine pV 1 ?_;refine pV 2 ?_;refine cV 3 (fun _ h=>h.1) ?_;refine pV 4 ?_;refine cV 5 (fun _ h=>xV (Value.int .i64 q.hd) 2 h.2) ?_;refine lC 6 d1.o ?_;rintro e8 w3 ⟨X,cb,d7,rfl,a5,c3,d6⟩;have c8:=a5 _ _ _ (by decide) d5.o;refine eL ?_;refine pV 7 ?_;refine dV ?_;obtain ⟨z,a8⟩:=zi2 c8 c3;have a7:=hid ((zw.below c9.o).trans a5);clear a5 c8 c3 d6 a3;rcases d7 with ⟨rfl,rfl⟩ | ⟨rfl,rfl⟩
 ·go_wp2_with ((with_reducible refine hV 6 ?_);refine wV 0 (zQ (qo 0)).toArray z.o ?_);refine jr (an:=qo 0) 6 rfl rfl rfl z.o rfl ⟨qo 0,rfl,by decide,a7.o.setRow (by omega) _,?_⟩;exact HP.o _ _ _ a8.o (js.setRow z.o _)
 ·go_wp2_with ((with_reducible refine hV 6 ?_);refine wV 0 (zQ (qo 4)).toArray z.o ?_);refine jr (an:=qo 4) 6 rfl rfl rfl z.o rfl ⟨qo 4,rfl,by decide,a7.o.setRow (by omega) _,?_⟩;exact HP.o _ _ _ a8.o (js.setRow z.o _)
end
section
variable {bz:Nat->Prop}
def QS (ts:qC) (n:Nat):Tx:=match ts[n]? with
 | some (some (_,x))=>x
 | _=>uh
theorem Yy {ts:qC} {n T:Nat} {x:Tx} (h:ts[n]?=some (some (T,x))):QS ts n=x:=by unfold QS;rw [h]
def Jt (s:St) (T:Nat):St:=((if (zF s.ts).length=0 then s else s.am 1 (QS s.ts 1)).an T).2
def zlp (s:St):Prop:=(zF s.ts).length≠0->∃ T x,s.ts[1]?=some (some (T,x))/\(x.I≠[]->s.sto.Q.length+395<=14336)
theorem zpw (a:Va) (b:Vb) (cur:Nat->Nat->List UInt8) (s:St) (w:World) (h:zm w a b cur s) (R:zlp s) :
  zc 47 #[.pointer (some ⟨a.S,0,none⟩)] w fun e w'=>e=.returned (.int .i64 0)/\∃ T Y cur',zm w' a Y cur' (Jt s T)/\qv w w' (qd a b s) (qd a Y (Jt s T)) cur cur' a.r:=by
 have u:=zdD a.S s.ts w h.aq.row h.aq.len;by_cases h0:(zF s.ts).length=0
 ·have D:∀ T,Jt s T=(s.an T).2:=fun T=>by unfold Jt;rw [if_pos h0]
  rw [h0] at u;obtain ⟨O,H,z⟩:=zi3 u h D;clear u h D R h0;go_enter func47,ntmps47;go_upto_region 5 with ((with_reducible refine aV 31 O.o ?_);rintro e1 w1 ⟨rfl,U⟩;subst U);go_wp2_with ((with_reducible refine aV 73 (zdr H.o) ?_);rintro e2 w2 ⟨T,b2,rfl,E,L⟩);go_ret;exact ⟨rfl,T,b2,cur,by rw [z.o];exact E,by rw [z.o];exact L⟩
 ·obtain ⟨T1,x,X,hfit⟩:=R h0;have D:∀ T,Jt s T=((s.am 1 x).an T).2:=fun T=>by unfold Jt;rw [if_neg h0,Yy X]
  obtain ⟨n,a0⟩:=ex ((zF s.ts).length);rw [<- a0] at u h0;clear a0;cases n with
  | zero=>exact absurd rfl h0
  | succ m =>
   have q1:(0:Int)<((m:Int)+1):=by omega
   obtain ⟨O,H,z⟩:=zi3 u h D;have Z:zc 49 #[.pointer (some ⟨a.S,0,none⟩),.int .i64 1] w _:=zbF a b cur s 1 T1 x w h (by omega) (by omega) X hfit;have a3:=hid Z;clear Z u h D R h0 X hfit;go_enter func47,ntmps47;go_upto_region 5 with (first|((with_reducible refine aV 31 O.o ?_);rintro e1 w1 ⟨rfl,U⟩;subst U)|((with_reducible refine aV 49 a3.o ?_);rintro e2 w2 ⟨rfl,b2,a5,E,L⟩));obtain ⟨a1,a4⟩:=zi2 E L;clear E L;go_wp2_with ((with_reducible refine aV 73 (zdr a1.o) ?_);rintro e3 w3 ⟨T,b3,rfl,a6,a7⟩);go_ret;exact ⟨rfl,T,b3,a5,by rw [z.o];exact a6,by rw [z.o];exact a4.o.trans a7⟩
end
section
variable {bz:Nat->Prop}
def yc (s:St) (T k:Nat):St:=if k % 8=0 then Jt s T else s
def uB (r k T:Nat) (nbs:Nat->Nat) (nb:Nat) (rw:Rw) (s:St):Nat × St:=(yc s T k).put r nbs nb 1 (QS (yc s T k).ts 1).ops rw
def uN (r:Nat):List Rw->Nat->St->St->Prop
 | [],_,s,s'=>s'=s
 | rw::l,k,s,s'=>∃ T nbs nb,uN r l (k+1) (uB r k T nbs nb rw s).2 s'
theorem uN.hv {r:Nat} {rw:Rw} {T:Nat} {nbs:Nat->Nat} {nb:Nat}:∀ {l:List Rw} {k:Nat} {s s':St},uN r l k s s'->uN r (l++[rw]) k s (uB r (k+l.length) T nbs nb rw s').2
 | [],k,s,s',h=>by have u:s'=s:=h;subst u;exact ⟨T,nbs,nb,rfl⟩
 | x::l,k,s,s',⟨T',nbs',nb',h⟩=>⟨T',nbs',nb',by
  have:=uN.hv (rw:=rw) (T:=T) (nbs:=nbs) (nb:=nb) h;rw [show k+1+l.length=k+(x::l).length by simp;omega] at this;exact this⟩
structure zcw (r:Nat) (rows:List Rw) (G:Nat->St->Prop):Prop where
 zero:G 0 Za
 next:∀ k s,G k s->k<rows.length->k % 8=0->zlp s
 put:∀ k s T,G k s->k<rows.length->∃ T' x,(yc s T k).ts[1]?=some (some (T',x))/\WF (yc s T k).lk/\qe (yc s T k).N/\(yc s T k).N.length<=900/\(∀ y,y∈(yc s T k).N->y.pg<6/\y.sl<5)/\(yc s T k).sto.J+1<4294967296
 step:∀ k s T nbs nb rw,G k s->rows[k]?=some rw->rw.ok/\(uB r k T nbs nb rw s).1=0/\G (k+1) (uB r k T nbs nb rw s).2
 i3:∀ s,G rows.length s->rows≠[]->∃ T x,s.ts[1]?=some (some (T,x))/\(x.I≠[]->s.sto.Q.length+395<=14336)
def zaz (r:Nat) (h:List Rw) (s':St):Prop:=∃ s,uN r h 0 Za s/\s'=if h=[] then s else s.am 1 (QS s.ts 1)
theorem zcX (H D r:Nat) (F:Nat->Prop) (cur:Nat->Nat->List UInt8) (ts:Nat->Tn) (boots:Nat) (q:Rq) (v:Value) (O:List Rw) (B:Nat) (G:Nat->St->Prop) (w:World) (P:An->World->Prop) (h:zN bz w H D F cur ts boots) (hr:r<4) (hl:(ts r).ac=none) (p6:q.tn=r)
  (hv:w.ownsRow B 34 3 v O.length (jq O)) (y6:O.length<=1000) (hC:zcw r O G) (hP:∀ a W W',P a W->js W W'->P a W') (g9:(ts r).ct+1<1000000) (x9:boots<1000000)
  (hend:∀ l F' cur' W,zaz r O l.s->l.ep=((uP ((ts r).ct+1) boots:Nat):Int)->l.nx=0->l.hs=[]->zN bz W H D F' cur' (vz ts F' r ⟨1,(ts r).ct+1,some l⟩) boots->P (qo 0) W) :
  zc 28 #[.pointer (some ⟨H,0,none⟩),.pointer (some ⟨H,1+r*5,none⟩),.agg (zK q).toArray,v] w fun e W'=>∃ a,e=.returned (.agg (zQ a).toArray)/\a.Z≠10/\zw bz w W'/\P a W':=by
 obtain ⟨vA,vc,rfl⟩:=own_slice hv;obtain ⟨f0,HC⟩:=zi2 hv hC;clear hv hC;obtain ⟨w1,e2⟩:=ex (QJ w q);have g3:zd w w1:=by rw [e2];exact yP w q
 have g6:w1.heap[w.heap.size]?=some (.cells (zK q).toArray 37 (0,0)):=by rw [e2];exact ZO w q
 have l5:w1.heap[w.heap.size+1]?=some (.cells qI 31 (0,0)):=by rw [e2];exact Zs w q
 have q2:(w.alloc (.cells (zK q).toArray 37)).alloc (.cells qI 31)=w1:=e2.symm;have b9:=h.below g3;obtain ⟨o7,hz⟩:=b9.cf r hr hl;have hc:=Gn D (fun r=>(ts r).t5) boots r hr;have p0:(ts r).t5=⟨.pointer none,.pointer none,.int .i64 0,.int .u64 (ts r).ct,.bool false⟩:=by unfold Tn.t5;rw [hl];simp only [o7];rfl
 have k2:=(ze w1 H (1+r*5+2) _ _ _ b9.U).trans hc.2.2.1;have f9:=(ze w1 H (1+r*5+3) _ _ _ b9.U).trans hc.2.2.2.1;simp only [p0] at k2 f9;have cD:=xV _ 0 b9.U (zdv D (fun r=>(ts r).t5) boots);have o6:=zne D r F cur w1.drew b9.ar.drew hr (fun q h1 h2=>hz q (by omega) h2);have hS:=And.intro cD g6;obtain ⟨E,a5⟩:=ex ((ts r).ct+1);have A2:IntKind.u64.wrap ((((ts r).ct:Nat):Int)+1)=(E:Int):=by rw [show ((((ts r).ct:Nat):Int)+1)=(E:Int) by omega];exact vJ _ (by omega)
 rw [<- a5] at g9 hend;have z8:=hid a5;clear a5;obtain ⟨t9,d4,j5,j7,HP,s2,v3,R⟩:=zi8 o6 g3 g6 l5 hP hend q2 b9;have A0:=hid (zj b9.U);clear e2 q2 g3 g6 l5 hP hend b9 h o6 hz o7 hc p0 cD;go_enter func28,ntmps28;go_upto_region 1 with fail;rw [v3.o];go_upto_region 3 with fail;refine sV [6] 12 (fun w'=>zI w' H 0 (.pointer (some ⟨D,0,none⟩))/\w'.heap[w.heap.size]?=some (.cells (zK q).toArray 37 (0,0))) hS fun U=>?_;refine pV 0 ?_;refine pV 1 ?_;refine pV 2 ?_;refine cV 3 (fun _ h=>h.1) ?_;refine pV 4 ?_;refine cV 5 (fun _ h=>xV (Value.int .i64 r) 1 h.2 (by rw [<- p6];rfl)) ?_;refine lC 6 t9.o ?_;rintro k4 w2 ⟨a,b,f3,rfl,l6,l7,k5,n7,d9,n0,n9⟩;refine eL ?_;refine pV 7 ?_;refine pV 8 ?_;refine pV 9 ?_;refine pV 10 ?_;refine pV 11 ?_;refine dV ?_;have q5:=qJ (show w1.drew.heap[_]?=_ from j5.o) d9 (fun X=>by have:=R.o.ar.ah X;rw [zh j5.o] at this;simp at this);have q8:=qJ (show w1.drew.heap[_]?=_ from j7.o) d9 (fun X=>by have:=R.o.ar.ah X;rw [zh j7.o] at this;simp at this);have i2:=qJ (show w1.drew.heap[_]?=_ from R.o.U) d9 (fun X=>by have:=R.o.ar.ah X;rw [zh R.o.U] at this;simp at this);have k3:=xV _ (1+r*5+3) i2 ((ze w1 H (1+r*5+3) _ _ _ R.o.U).symm.trans f9);have f1:=hid q5;have f2:=hid q8;obtain ⟨d6,c1,j1,c9,j0,j2,e6,d3⟩:=zi8 i2 k5 n7 d9 n0 n9 l6 l7;clear q5 q8 i2 k5 n7 d9 n0 n9 U hS k2 f9 l6 l7;have p9:w2.ownsRow B 34 3 (.slice vA O.length vc) O.length (jq O):=own_same f0.o fun x u=>by have Z:=(f0.o.lt x u).2;have y4:x<w1.heap.size:=qg Z d4.o.size;refine (c9.o.block x y4 (fun X=>?_)).trans (d4.o.block x Z);have:=R.o.ar.ah X;rw [show qO w1 x=34 from (ya (d4.o.block x Z)).trans (own_tag f0.o u)] at this;simp at this
 have e9:=hid p9;clear p9;obtain ⟨d7,hR⟩:∃ d7:Nat->World->Prop,d7=fun k wr=>∃ b' cur' s',zm wr a b' cur' s'/\qv w2 wr (qd a b Za) (qd a b' s') f3 cur' a.r/\uN a.r (O.take k) 0 Za s'/\G k s':=⟨_,rfl⟩;have l3:d7 0 w2:=by rw [hR];exact ⟨b,f3,Za,c1.o,qv.refl _ _ _ _,rfl,HC.o.zero⟩
 obtain ⟨HR,j3⟩:=zi2 hR l3;clear hR l3;go_upto_region 5 with fail;go_loopw [10,33] (fun v i7 wr=>∃ k:Nat,k<=O.length/\v=.int .i64 0/\i7=.int .i64 k/\d7 k wr) (fun _ i7 _=>(O.length-jL i7).toNat)
 case atStart=>exact ⟨0,zU _,rfl,rfl,j3.o⟩
 case round =>
  obtain ⟨k,hk,rfl,rfl,o2⟩:=hrel;rw [HR.o] at o2;obtain ⟨b',cur',s',hA,hE,e1,hG⟩:=o2;by_cases Z:k<O.length
  ·obtain ⟨x,u⟩:∃ x,O[k]?=some x:=⟨_,qa Z⟩;have q1:wr.ownsRow B 34 3 (.slice vA O.length vc) O.length (jq O):=own_same e9.o fun q0 hq=>hE.ad.block q0 (e9.o.lt q0 hq).2 (c1.o.b9 (own_tag e9.o hq) (by decide));obtain ⟨gv,rfl,y1,y0,o3⟩:=zcn q1 u;have q0:(0:Int)<=(k:Int):=by omega
   have z6:(k:Int)<(O.length:Int):=by omega
   have A3:IntKind.i64.wrap ((k:Int)+1)=(k:Int)+1:=by rw [zv];omega
   obtain ⟨L,a7⟩:=ex (wr.alloc (.cells (qZ x).toArray 34));have a3:zd wr L:=by rw [a7];exact B_alloc (zf _ _) _
   have q4:L.heap[wr.heap.size]?=some (.cells (qZ x).toArray 34 (0,0)):=by rw [a7];exact zo _ _ rfl
   obtain ⟨HX,t7,v4,c8,f7,HA,HE,e8,HG⟩:=zi9 u o3 a7 a3 q4 hA hE e1 hG;clear u q1 o3 a7 a3 q4 hA hE e1 hG y1 y0;go_upto_if 44 with (first|((with_reducible refine gV 37 ?_);refine mV (qZ x) t7.o ?_)|((with_reducible refine hV 12 ?_);refine nV (qZ x).toArray (by simp [qZ,Value.oneCell']) ?_));rw [show wr.alloc (.cells (qZ x).toArray 34)=L from v4.o.symm];have d1:=HA.o.below c8.o;have c2:=hid d1;clear d1;go_cut [10] from 38 to 46 (fun i6 wc=>i6=.int .i64 0/\∃ T b4 c3,zm wc a b4 c3 (yc s' T k)/\qv L wc (qd a b' s') (qd a b4 (yc s' T k)) cur' c3 a.r)
   case first =>
    by_cases h8:k % 8=0
    ·have z7:(((k:Int) % 8 == 0):Bool)=true:=by simp;omega
     have a5:∀ T,yc s' T k=Jt s' T:=fun T=>if_pos h8;have n5:zc 47 #[.pointer (some ⟨a.S,0,none⟩)] L _:=zpw a b' cur' s' L c2.o (HC.o.next k s' HG.o Z h8);obtain ⟨t1,d5⟩:=zi2 n5 a5;clear n5 a5;go_wp2_with ((with_reducible refine aV 47 t1.o ?_);rintro x0 w4 ⟨rfl,T,b4,c3,a8,d2⟩);go_meet
     case rel=>exact ⟨rfl,T,b4,c3,by rw [d5.o];exact a8,by rw [d5.o];exact d2⟩
    ·have z7:(((k:Int) % 8 == 0):Bool)=false:=by simp;omega
     have a5:yc s' 0 k=s':=if_neg h8;have d5:=hid a5;clear a5;go_wp2_with fail;go_meet
     case rel=>exact ⟨rfl,0,b',cur',by rw [d5.o];exact c2.o,by rw [d5.o];exact qv.refl _ _ _ _⟩
   case rest =>
    obtain ⟨rfl,T,b4,c3,a8,d2⟩:=hcut;obtain ⟨T4,x4,e3,p1,p2,p3,p4,p5⟩:=HC.o.put k s' T HG.o Z;obtain ⟨s4,h9⟩:=ex (yc s' T k);have f4:=fun nbs nb=>HC.o.step k s' T nbs nb x HG.o HX.o;have r3:=(f4 (fun _=>0) 0).1;have g8:∀ nbs nb,uB a.r k T nbs nb x s'=s4.put a.r nbs nb 1 x4.ops x:=fun nbs nb=>by unfold uB;rw [<- h9] at e3 ⊢;rw [Yy e3]
    have m0:∀ nbs nb,uB r k T nbs nb x s'=s4.put a.r nbs nb 1 x4.ops x:=fun nbs nb=>by rw [<- d3.o];exact g8 nbs nb
    rw [<- h9] at a8 d2 e3 p1 p2 p3 p4 p5;have r4:=(d2.ad.block wr.heap.size (zj f7.o) (c2.o.b9 (zh f7.o) (by decide))).trans f7.o;have o1:zc 48 #[.pointer (some ⟨a.S,0,none⟩),.int .i64 1,.agg (qZ x).toArray] wc _:=zmG a b4 c3 s4 1 T4 x4 x wc a8 (by omega) (by omega) e3 r3 p1 p2 p3 p4 p5;have k9:qv w2 wc (qd a b Za) (qd a b4 s4) f3 c3 a.r:=(HE.o.trans ⟨vt.refl _ _,(zz.ak c8.o),qM.refl _ _⟩).trans d2;obtain ⟨t5,r9,v7⟩:=zi3 o1 g8 r4;have o8:=fun nbs nb=>And.intro (f4 nbs nb).2.1 (f4 nbs nb).2.2;have o9:∀ nbs nb,(s4.put a.r nbs nb 1 x4.ops x).1=0/\G (k+1) (s4.put a.r nbs nb 1 x4.ops x).2:=fun nbs nb=>by rw [<- m0 nbs nb];exact o8 nbs nb
    obtain ⟨j4,s0⟩:=zi2 o9 k9;clear o1 g8 m0 f4 o8 o9 k9 r4 h9 e3 p1 p2 p3 p4 p5 a8 d2 r3;go_upto_region 11 with (first|((with_reducible refine gV 50 ?_);refine rV v7.o ?_)|((with_reducible refine aV 48 t5.o ?_);rintro x1 w5 ⟨nbs,nb,b5,w0,rfl,k6,l0⟩;rw [(j4.o nbs nb).1]));have l4:d7 (k+1) w5:=by rw [HR.o];refine ⟨b5,w0,_,k6,s0.o.trans l0,?_,(j4.o nbs nb).2⟩;rw [yH Z,show O[k]=x by have:=HX.o;rw [qa Z] at this;injection this];have z:=uN.hv (rw:=x) (T:=T) (nbs:=nbs) (nb:=nb) e8.o;rw [qf,Nat.min_eq_left hk,qz,r9.o] at z;exact z
    have t6:=hid l4;clear l4 k6 l0;go_wp2_with fail;go_roundw
    case rel=>exact ⟨k+1,by omega,rfl,by simp,t6.o⟩
    case measure=>simp [jL];omega
  ·have y3:k=O.length:=by omega
   subst y3;rw [qi] at e1;obtain ⟨HA,HE,e8,HG⟩:=zi4 hA hE e1 hG;clear hA hE e1 hG hk;obtain ⟨n,hn⟩:=ex O.length;have HN:=hid hn;rw [<- hn] at Z y6 ⊢;clear hn;go_upto_if 59 with fail;go_cut [10] from 53 to 61 (fun i6 wc=>i6=.int .i64 0/\∃ Y a0 s9,zm wc a Y a0 s9/\qv w2 wc (qd a b Za) (qd a Y s9) f3 a0 a.r/\zaz a.r O s9)
   case first =>
    cases n with
    | zero =>
     have n4:O=[]:=yh HN.o.symm;have t0:=hid n4;clear n4;go_wp2_with fail;go_meet
     case rel=>exact ⟨rfl,b',cur',s',HA.o,HE.o,s',e8.o,by rw [if_pos t0.o]⟩
    | succ m =>
     have h7:O≠[]:=fun e=>by have:=HN.o;rw [e] at this;simp at this
     obtain ⟨T5,x5,i1,m4⟩:=HC.o.i3 s' HG.o h7;have l9:zc 49 #[.pointer (some ⟨a.S,0,none⟩),.int .i64 1] wr _:=zbF a b' cur' s' 1 T5 x5 wr HA.o (by omega) (by omega) i1 m4;have p7:zaz a.r O (s'.am 1 x5):=⟨s',e8.o,by rw [if_neg h7,Yy i1]⟩;have z6:(0:Int)<((m:Int)+1):=by omega
     obtain ⟨r8,v1⟩:=zi2 l9 p7;clear l9 p7 h7 i1 m4;go_wp2_with ((with_reducible refine aV 49 r8.o ?_);rintro x2 w6 ⟨rfl,b6,w3,x3,x6⟩);go_meet
     case rel=>exact ⟨rfl,b6,w3,_,x3,HE.o.trans x6,v1.o⟩
   case rest =>
    obtain ⟨rfl,Y,a0,s9,k7,a9,p8⟩:=hcut;have q7:=(a9.ad.block _ (zj f1.o) (c1.o.b9 (zh f1.o) (by decide))).trans f1.o;have r2:=(a9.ad.block _ (zj f2.o) (c1.o.b9 (zh f2.o) (by decide))).trans f2.o;have i5:=(a9.ad.block _ (zj d6.o) (c1.o.b9 (zh d6.o) (by decide))).trans d6.o;have v9:=xV _ (1+r*5+3) i5 ((ze w2 H (1+r*5+3) _ _ _ d6.o).symm.trans k3);have y8:w1.heap.size<=w2.heap.size:=c9.o.size;have f5:∀ x,qd a b Za x->F x∨w1.heap.size<=x:=fun x u=>u.elim (fun z=>.inr (j2.o x z)) fun z=>j0.o x z;have n3:∀ x,qd a Y s9 x->F x∨w1.heap.size<=x:=fun x u=>(a9.new x u).elim (f5 x) fun z=>.inr (zA y8 z);have n6:∀ x,x<w1.heap.size->¬ F x->wc.heap[x]?=w1.heap[x]?:=fun x h1 h2=>(a9.ad.block x (by omega) (fun z=>(f5 x z).elim h2 (by omega))).trans (c9.o.block x h1 h2);have n8:vt cur a0 r:=j1.o.trans (by rw [<- d3.o];exact a9.out);have h6:zw bz w1 wc:=(zw.ay (zw.ad R.o.base.2.1 (fun x t c ht u=>qJ u c9.o (fun X=>ht (by
     have z:=R.o.ar.ah X;rw [zh (show w1.heap[x]?=_ from u)] at z;simp only [zO,qU,or_false] at z ⊢;omega))) c9.o)).trans (zw.store (fun x u=>(f5 x u).elim (R.o.base.2.1 x) (fun z=>R.o.eg z)) c1.o a9)
    have z5:w1.heap.size<=wc.heap.size:=h6.size;obtain ⟨j6,j9,k1,r7,e7,t2,t3,s6,v2⟩:=zi9 q7 r2 i5 k7 n3 n6 n8 h6 p8;clear q7 r2 i5 k7 f5 n3 n6 n8 h6 p8 a9 k3 f1 f2 d6 c1 j1 c9 j0 j2 e9 HR j3 f0;go_upto_region 16 with ((with_reducible refine hV 13 ?_);refine nV #[.int .i64 1,.int .u64 E] (by simp [Value.oneCell']) ?_);obtain ⟨L,a7⟩:=ex (wc.alloc (.cells #[.int .i64 1,.int .u64 E] 68));rw [<- a7];have a3:zd wc L:=by rw [a7];exact B_alloc (zf _ _) _
    have g5:L.heap[wc.heap.size]?=some (.cells #[.int .i64 1,.int .u64 E] 68 (0,0)):=by rw [a7];exact zo _ _ rfl
    have q6:=zg j6.o a3 (zj j6.o);have q9:=zg j9.o a3 (zj j9.o);have i3:=zg k1.o a3 (zj k1.o);have d1:=r7.o.below a3;have h3:jn L D Y.F a0:=by have:=d1.sto.ar;rw [e6.o] at this;exact this
    have o4:=zaU D Y.F a0 r 1 E L.drew h3.drew hr (by omega) (by omega);have o5:zc 50 #[.pointer (some ⟨D,0,none⟩),.int .i64 r,.agg #[.int .i64 1,.int .u64 E]] L.drew _:=o4;have hS:L.drew.cell? ⟨H,0,none⟩=some (.pointer (some ⟨D,0,none⟩))/\L.drew.heap[w.heap.size]?=some (.cells (zK q).toArray 37 (0,0))/\L.drew.heap[wc.heap.size]?=some (.cells #[.int .i64 1,.int .u64 E] 68 (0,0)):=⟨(xV _ 0 i3 (zdv _ _ _)),q6,g5⟩;have t8:=hid o5;obtain ⟨c8,i9,j8,k0,c2,i8⟩:=zi6 a3 g5 q9 i3 d1 h3;clear a7 a3 g5 q6 q9 i3 d1 h3 o4 o5 v9;refine sV [7] 9 (fun w'=>zI w' H 0 (.pointer (some ⟨D,0,none⟩))/\w'.heap[w.heap.size]?=some (.cells (zK q).toArray 37 (0,0))/\jK w' wc.heap.size #[.int .i64 1,.int .u64 E] 68) hS fun U=>?_;refine pV 0 ?_;refine pV 1 ?_;refine pV 2 ?_;refine cV 3 (fun _ h=>h.1) ?_;refine pV 4 ?_;refine cV 5 (fun _ h=>xV (Value.int .i64 r) 1 h.2.1 (by rw [<- p6];rfl)) ?_;refine kV 6 rfl (qQ 68 (.tmp 13) rfl (by rfl) wc.heap.size (by rfl) 68 #[.int .i64 1,.int .u64 E] (0,0) _ (fun _ h=>h.2.2) underlying68 rfl (by kernel_rfl)) ?_;refine lC 7 t8.o ?_;rintro x0 w4 ⟨rfl,F4,g4,c6,n1⟩;refine eL ?_;refine pV 8 ?_;refine dV ?_;have c7:∀ {x t:Nat} {C:Array Value},L.heap[x]?=some (.cells C t (0,0))->t ∉ [81,118,86,120]->¬ Y.F x:=fun u ht X=>ht (by have:=i8.o.ah X;rw [zh u] at this;exact this);have l1:=qJ (show L.drew.heap[_]?=_ from i9.o) c6 (c7 i9.o (by decide));have r0:=qJ (show L.drew.heap[_]?=_ from j8.o) c6 (c7 j8.o (by decide));have i4:=qJ (show L.drew.heap[_]?=_ from k0.o) c6 (c7 k0.o (by decide));have a8:zm w4 a { Y with F:=F4 } (vg a0 r 0 (jQ (yU 1 E))) s9:=c2.o.drew.c3 (fun x u=>c6.block x (c2.o.lt (.inl u)) (c2.o.c9 u)) c6.size (by rw [e6.o];exact g4) (fun q0 hq=>by
     unfold vg;rw [d3.o,zk,zt _ _ (by omega)])
    have m2:=zfV H D 1 E boots _ w4.drew (show w4.drew.heap[_]?=_ from i4) g9 x9;have m3:zc 45 #[.pointer (some ⟨H,0,none⟩),.agg #[.int .i64 1,.int .u64 E]] w4.drew _:=m2;have s3:=hid m3;obtain ⟨s7,v6,a1,e5,z9,f6,s8⟩:=zi7 l1 r0 i4 a8 g4 c6 n1;clear c7 l1 r0 i4 a8 m2 m3 g4 c6 n1 hS U;go_upto_region 19 with fail;refine sV [9] 10 (fun w'=>jK w' wc.heap.size #[.int .i64 1,.int .u64 E] 68/\jK w' H (hC D (fun r=>(ts r).t5) boots) 73) ⟨s7.o,a1.o⟩ fun U=>?_;refine pV 0 ?_;refine pV 1 ?_;refine pV 2 ?_;refine kV 3 rfl (qQ 68 (.tmp 13) rfl (by rfl) wc.heap.size (by rfl) 68 #[.int .i64 1,.int .u64 E] (0,0) _ (fun _ h=>h.1) underlying68 rfl (by kernel_rfl)) ?_;refine kV 6 rfl (qQ 68 (.tmp 13) rfl (by rfl) wc.heap.size (by rfl) 68 #[.int .i64 1,.int .u64 E] (0,0) _ (fun _ h=>h.1) underlying68 rfl (by kernel_rfl)) ?_;refine oC 4 s3.o ?_;rintro x1 w5 ⟨rfl,a4⟩;refine eV ⟨zg U.1 a4 (zj U.1),zg U.2 a4 (zj U.2)⟩ fun U=>?_;refine oC 5 (Dk.new_any (uP E boots) w5) ?_;rintro x2 w6 ⟨rfl,m1,c5,z2⟩;refine eV ⟨zg U.1 c5 (zj U.1),zg U.2 c5 (zj U.2)⟩ fun U=>?_;refine pV 7 ?_;refine pV 8 ?_;refine lV 9 fun K hK=>?_;have e4:=zg (zg (show w4.drew.heap[H]?=_ from a1.o) a4 (zj a1.o)) c5 (qg (zj a1.o) a4.size);refine vY 70 (.tmp 91) (.tmp 90) rfl H (1+r*5) 73 _ #[.pointer (some ⟨a.S,0,none⟩),.pointer (some ⟨w5.heap.size+1,0,none⟩),.int .i64 1,.int .u64 E,.bool false] (by rfl) (by rfl) e4 (by rw [KE];simp;omega) (by kernel_rfl) (by simp [Value.oneCell']) ?_;refine hK.out _ _ ?_;clear hK K;try simp only [pS]
    refine dV ?_;obtain ⟨l,a6⟩:∃ l:Tl,l=⟨a,{ Y with F:=F4 },s9,w5.heap.size+1,w5.heap.size,((uP E boots:Nat):Int),0,[]⟩:=⟨_,rfl⟩;obtain ⟨w7,c0⟩:=ex (w6.setRow H (hC D (zV (fun i=>(ts i).t5) r (Tn.t5 ⟨1,E,some l⟩)) boots));have hput:=zhB D (fun i=>(ts i).t5) boots r hr (Tn.t5 ⟨1,E,some l⟩);have q3:w6.setRow H (List.take (1+r*5) (hC D (fun r=>(ts r).t5) boots).toList++[Value.pointer (some ⟨a.S,0,none⟩),Value.pointer (some ⟨w5.heap.size+1,0,none⟩),Value.int .i64 1,Value.int .u64 E,Value.bool false]++List.drop (1+r*5+5) (hC D (fun r=>(ts r).t5) boots).toList).toArray=w7:=by rw [c0,<- hput,a6];rfl
    have e4:=zg (zg (show w4.drew.heap[H]?=_ from a1.o) a4 (zj a1.o)) c5 (qg (zj a1.o) a4.size);have r5:w4.heap.size<=w5.heap.size:=a4.size;have z3:=c5.size;have z1:L.heap.size<=w4.heap.size:=f6.o.size;have z0:=c8.o.size;have y9:w1.heap.size<=wc.heap.size:=z5;have y7:=d4.o.size;have z4:w7.heap.size=w6.heap.size:=by rw [c0];simp
    have g7:Below w4.heap.size w4.drew w6:=a4.trans (c5.mono r5);have d0:∀ x,x≠H->w7.heap[x]?=w6.heap[x]?:=fun x u=>by rw [c0];exact setRow_other w6 H x _ u
    have n2:∀ x,qd a { Y with F:=F4 } s9 x->x≠H:=fun x u e=>by subst e;exact e5.o.b9 (zh a1.o) (by decide) u
    have g2:∀ x,x<w4.heap.size->x≠H->w7.heap[x]?=w4.heap[x]?:=fun x u hn=>(d0 x hn).trans (g7.block x u);have i0:zm w7 a { Y with F:=F4 } (vg a0 r 0 (jQ (yU 1 E))) s9:=e5.o.same (fun x u=>g2 x (e5.o.lt u) (n2 x u)) (by omega);have k8:jn w7 D F4 (vg a0 r 0 (jQ (yU 1 E))):=by have:=i0.sto.ar;rw [e6.o] at this;exact this
    have d8:∀ x,w1.heap.size<=x->¬ bz x:=fun x u=>R.o.eg u;have l8:∀ x,Y.F x->¬ bz x:=fun x u=>(e7.o x (.inr u)).elim (R.o.base.2.1 x) (fun z=>by have g0:w1.heap.size<=x:=z;exact d8 x g0);have x7:∀ x,F4 x->¬ bz x:=fun x u=>(s8.o x u).elim (l8 x) (fun z=>by have g0:L.heap.size<=x:=z;exact d8 x (by omega));have x8:∀ (l':Tl) (x:Nat),(some l:Option Tl)=some l'->Kc l' x->¬ bz x:=fun l' x e u=>by
     injection e with e;subst e;rw [a6] at u;rcases u with u | u | u
     ·exact (e7.o x (.inl u)).elim (R.o.base.2.1 x) (d8 x)
     ·have z:x=w5.heap.size+1:=u;exact d8 x (by omega)
     ·have z:x=w5.heap.size:=u;exact d8 x (by omega)
    have m5:zN bz w7 H D F4 (vg a0 r 0 (jQ (yU 1 E))) (vz ts F4 r ⟨1,E,some l⟩) boots:=by
     refine zN.gb (qs.step (k':=4) (boots':=boots) R.o ⟨1,E,some l⟩ hr (fun i hi _=>hi) ?_ k8 ?_ ⟨za _,g9⟩ ?_ (fun e=>by cases e) ?_ ?_ (by omega) ?_ x7 x8) ?_
     ·rw [c0];exact setRow_heap w6 H _ _ 73 _ e4
     ·unfold vg;rw [zk,zk]
     ·intro l2 e;injection e with e;subst e;refine ⟨?_,rfl⟩;rw [a6];refine ⟨i0,e6.o,d3.o,rfl,?_,?_⟩
      ·have A1:=zj a1.o;exact Dk.DeskAt.same m1 (d0 _ (by simp only;omega)) (d0 _ (by simp only;omega))
      ·intro u;have:=e5.o.lt u;simp only at this;omega
     ·intro i l2 x hi y2 e0 u;obtain ⟨h2,_⟩:=R.o.ac i l2 hi e0;have Z:=(h2.ah x u).2;have c7:=h2.c9 u;have y5:¬ Y.F x:=fun X=>(e7.o x (.inr X)).elim c7 (fun z=>by have g0:w1.heap.size<=x:=z;omega);have w8:wc.heap[x]?=w1.heap[x]?:=t2.o x Z c7;have k4:L.heap[x]?=wc.heap[x]?:=c8.o.block x (by omega);have w9:w4.heap[x]?=L.heap[x]?:=f6.o.block x (show x<L.heap.size by omega) y5;rw [g2 x (by omega) (qs.dx R.o hi e0 (.inl u)),w9,k4,w8]
     ·intro i q0 hi;unfold vg;rw [zt _ _ hi];exact t3.o i q0 (.inl hi)
     ·intro l2 x e u i r6 hi y2 e0 hy;injection e with e;subst e;have Z:=((R.o.ac i r6 hi e0).1.ah x hy).2;rw [a6] at u;rcases u with u | u | u
      ·rcases e7.o x (.inl u) with z | z
       ·exact ((R.o.ac i r6 hi e0).1).c9 hy z
       ·omega
      ·have z:x=w5.heap.size+1:=u;omega
      ·have z:x=w5.heap.size:=u;omega
     ·funext i;by_cases e:i=r
      ·subst e;rw [zk,jI]
      ·rw [zt _ _ e,vN _ _ _ e,Tn.et]
    have m9:∀ {W W':World} {G:Nat->Prop},(∀ x,G x->¬ bz x)->(∀ x,G x->qO W x∈[81,118,86,120])->zz G W W'->zw bz W W':=fun hb hG hk=>zw.ad hb (fun x t c ht u=>qJ u hk (fun X=>ht (by
     have z:=hG x X;rw [zh u] at z;simp only [zO,qU,or_false] at z ⊢;omega))) hk
    have m6:zw bz w1 wc:=s6.o;have m7:zw bz L w4:=zw.ay (m9 (W:=L.drew) l8 (fun x u=>i8.o.ah u) f6.o);have h4:zw bz w4 w6:=zw.ay (zw.below (A:=w4.drew) g7);have h5:zw bz w6 w7:=⟨fun x t c ht u=>(d0 x (fun e=>by
     subst e;rw [e4] at u;injection u with u;injection u with _ u;subst u;exact ht (by decide))).trans u,by rw [c0];rfl,by rw [c0];rfl,by rw [c0];rfl,by omega,fun x h1 _=>d0 x (fun e=>R.o.base.1 (e ▸ h1))⟩
    have m8:zw bz w w7:=(zw.below d4.o).trans (m6.trans ((zw.below c8.o).trans (m7.trans (h4.trans h5))));have r1:=h5 _ _ _ (by decide) (h4 _ _ _ (by decide) v6.o);have o0:=s2.o l F4 _ w7 (by rw [a6,<- d3.o];exact v2.o) (by rw [a6]) (by rw [a6]) (by rw [a6]) m5;obtain ⟨v5,s5,f8,t4⟩:=zi4 q3 m8 r1 o0;clear a6 c0 hput q3 e4 r5 z3 z1 z0 y9 y7 z4 g7 d0 n2 g2 i0 k8 m5 m9 m6 m7 h4 h5 m8 r1 o0 a4 m1 c5 z2 U;refine (by assumption:∀ a w,Code.wp prog (Code.seq _ _) _ a w->_) _ _ ?_;rw [show ((#[Value.pointer (some ⟨a.S,0,none⟩),Value.pointer (some ⟨w5.heap.size+1,0,none⟩),Value.int .i64 1,Value.int .u64 E,Value.bool false]:Array Value).size)=5 from rfl,v5.o];go_wp2_with ((with_reducible refine hV 8 ?_);refine wV 0 (zQ (qo 0)).toArray f8.o ?_);refine jr (an:=qo 0) 8 rfl rfl rfl f8.o rfl ⟨qo 0,rfl,by decide,s5.o.setRow (by omega) _,?_⟩;exact HP.o _ _ _ t4.o (js.setRow f8.o _)
end
section
variable {bz:Nat->Prop}
theorem zkB (b:List UInt8):(qY b).1=0∨(qY b).1=9∨(qY b).1=7:=by
 unfold qY;split
 ·exact .inr (.inl rfl)
 ·split
  ·exact .inr (.inl rfl)
  ·split
   ·exact .inr (.inl rfl)
   ·split
    ·exact .inr (.inl rfl)
    ·split
     ·exact .inr (.inr rfl)
     ·exact .inl rfl
theorem zcw.nil (r:Nat):zcw r [] fun _ s=>s=Za:=⟨rfl,fun k s _ h=>absurd h (Nat.not_lt_zero k),fun k s T _ h=>absurd h (Nat.not_lt_zero k),fun k s T nbs nb rw _ h=>(by simp at h),fun s _ h=>absurd rfl h⟩
theorem zkU (H D r:Nat) (F:Nat->Prop) (cur:Nat->Nat->List UInt8) (ts:Nat->Tn) (boots:Nat) (q:Rq) (b:List UInt8) (G:Nat->St->Prop) (w:World) (P:An->World->Prop) (c7:zN bz w H D F cur ts boots) (hr:r<4) (hl:(ts r).ac=none) (d5:q.tn=r)
  (h:q.kd=0∨q.kd=14) (hP:∀ a W U,P a W->js W U->P a U) (hb:zi w (.slice q.dA q.dn q.dc) b) (e0:b.length<=100000) (d1:(ts r).ct+1<1000000) (c9:boots<1000000)
  (hC:(qY b).1=0->(qY b).2.length<=30/\zcw r (qY b).2 G)
  (d2:q.kd=14->(qY b).1≠0->∀ W,zN bz W H D F cur ts boots->P (qo (qY b).1) W)
  (hend:(q.kd=14->(qY b).1=0)->∀ l F' cur' W,zaz r (if q.kd=0 then [] else (qY b).2) l.s->l.ep=((uP ((ts r).ct+1) boots:Nat):Int)->l.nx=0->l.hs=[]->zN bz W H D F' cur' (vz ts F' r ⟨1,(ts r).ct+1,some l⟩) boots->P (qo 0) W) :
  zc 23 #[.pointer (some ⟨H,0,none⟩),.pointer (some ⟨H,1+r*5,none⟩),.agg (zK q).toArray] w fun e U=>∃ a,e=.returned (.agg (zQ a).toArray)/\a.Z≠10/\zw bz w U/\P a U:=by
 obtain ⟨w1,Y⟩:=ex (QJ w q);have a1:zd w w1:=by rw [Y];exact yP w q
 have a3:w1.heap[w.heap.size]?=some (.cells (zK q).toArray 37 (0,0)):=by rw [Y];exact ZO w q
 have c8:w1.heap[w.heap.size+1]?=some (.cells qI 31 (0,0)):=by rw [Y];exact Zs w q
 have k0:=xV (Value.int .i64 q.kd) 0 a3;have k9:=xV (Value.slice q.dA q.dn q.dc) 9 a3;have a4:=c7.below a1;have hc:=Gn D (fun r=>(ts r).t5) boots r hr;obtain ⟨d3,hz⟩:=a4.cf r hr hl;have d4:(ts r).t5=⟨.pointer none,.pointer none,.int .i64 0,.int .u64 (ts r).ct,.bool false⟩:=by unfold Tn.t5;rw [hl];simp only [d3];rfl
 have d8:=(ze w1 H (1+r*5+2) _ _ _ a4.U).trans hc.2.2.1;simp only [d4] at d8;have d6:(w.alloc (.cells (zK q).toArray 37)).alloc (.cells qI 31)=w1:=Y.symm;have a0:=hid (zdf (.slice q.dA q.dn q.dc) b w1 (hb.below a1) e0);obtain ⟨a6,c0,O,L,d7,b9,c6,a9,a7⟩:=zi9 a1 a3 c8 hP d6 a4 d2 hend hC;clear Y d6 a1 a3 c8 hP a4 c7 hb hz d3 d4 hc hend d2 hC;go_enter func23,ntmps23;go_upto_region 1 with fail;rw [d7.o];rcases h with h | h
 ·have d0:=zcX H D r F cur ts boots q (.slice none 0 0) [] 0 (fun _ s=>s=Za) w1 P b9.o hr hl d5 (qj _ _ _ _) (by simp) (zcw.nil r) L.o d1 c9 (fun l F' cur' W c3=>a9.o (fun h9=>by omega) l F' cur' W (by rw [if_pos h];exact c3));have a8:=hid d0;rw [h] at k0;clear h d0;go_wp2_with (first|((with_reducible refine gV 23 ?_);refine rV c0.o ?_)|((with_reducible refine aV 28 a8.o ?_);rintro e2 w2 ⟨an,rfl,c2,X,e3⟩;have u:=X _ _ _ (by decide) O.o)|((with_reducible refine hV 6 ?_);refine wV 0 (zQ an).toArray u ?_));refine jr (an:=an) 6 rfl rfl rfl u rfl ⟨an,rfl,c2,((zw.below a6.o).trans X).setRow (by omega) _,?_⟩;exact L.o _ _ _ e3 (js.setRow u _)
 ·have HK:=hid h;rw [h] at k0;clear h;obtain ⟨E,c1⟩:=ex ((qY b).1);have e1:(E:Int)≠10:=by have:=zkB b;rw [<- c1] at this;omega
  rw [<- c1] at a0 a7 c6 a9;clear c1;by_cases Z:E=0
  ·have R:=hid Z;rw [Z] at a0;clear Z;go_wp2_with (first|((with_reducible refine aV 29 a0.o ?_);rintro e2 w2 ⟨rv,rfl,a5,z⟩;obtain ⟨A2,d9,rfl⟩:=own_slice a5;have u:=zg O.o z (zj O.o);have e5:=zg c0.o z (zj c0.o);have a8:=hid (zcX H D r F cur ts boots q _ _ _ G w2 P (b9.o.below z) hr hl d5 a5 (by have:=(a7.o R.o).1;omega) (a7.o R.o).2 L.o d1 c9 (fun l F' cur' W c3=>a9.o (fun _=>R.o) l F' cur' W (by rw [if_neg (by rw [HK.o];decide)];exact c3))))|((with_reducible refine gV 40 ?_);refine rV e5 ?_)|((with_reducible refine aV 28 a8.o ?_);rintro e6 w3 ⟨an,rfl,c2,X,e4⟩;have c5:=X _ _ _ (by decide) u)|((with_reducible refine hV 6 ?_);refine wV 0 (zQ an).toArray c5 ?_));refine jr (an:=an) 6 rfl rfl rfl c5 rfl ⟨an,rfl,c2,(((zw.below a6.o).trans (zw.below z)).trans X).setRow (by omega) _,?_⟩;exact L.o _ _ _ e4 (js.setRow c5 _)
  ·have q5:((E:Int) == 0)=false:=by simp;omega
   have R:=hid Z;clear Z;go_wp2_with (first|((with_reducible refine aV 29 a0.o ?_);rintro e2 w2 ⟨rv,rfl,a5,z⟩;obtain ⟨A2,d9,rfl⟩:=own_slice a5;have u:=zg O.o z (zj O.o))|((with_reducible refine hV 6 ?_);refine wV 0 (zQ (qo E)).toArray u ?_));refine jr (an:=qo E) 6 rfl rfl rfl u rfl ⟨qo E,rfl,e1,((zw.below a6.o).trans (zw.below z)).setRow (by omega) _,?_⟩;exact L.o _ _ _ (c6.o HK.o R.o _ (b9.o.below z)) (js.setRow u _)
end
structure ud (s:St) (rs:List zS):Prop where
 ne:rs≠[]
 Q:s.sto.Q=zq rs
 dq:∀ n,n<6->rp (qK s.sto.J 0 rs) n (s.sto.dp n)=s.sto.E n
 mark:∀ n,n<6->(s.sto.E n).mark<jl s.sto.J s.sto.Q.length
 N:Jg s.N fun n=>(s.sto.E n).ap
 lk:uo s.lk
 ok:∀ x,x∈rs->x.ok
 k7:∀ x,x∈rs->x.kind≠7
 hy:∀ i,i≠1->uk rs i=⟨[],false⟩
 ts:s.ts=uR∨∃ T x,s.ts=one T x/\∀ c,c∈x.I->c.aa=none
theorem ud.kept {s:St} {rs:List zS} (h:ud s rs) (k:Nat):yC (zF s.ts) k=[]:=by
 rcases h.ts with e | ⟨T,x,e,D⟩
 ·rw [e];rfl
 ·rw [e,zbY];simp only [yC,qy,List.flatMap_nil,List.append_nil,Qa];rw [List.filterMap_eq_nil_iff];intro c z;rw [if_neg];exact fun u=>u.2 (D c z)
theorem ud.bx {s s':St} {rs:List zS} (h:ud s rs) (hs:uI s.sto s'.sto) (O:s'.N=s.N) (R:uo s'.lk) (U:s'.ts=s.ts):ud s' rs:=by
 have hd:∀ n,s'.sto.dp n=s.sto.dp n∨s'.sto.dp n=s.sto.E n:=fun n=>by
  rcases hs.cw with ⟨_,u⟩ | ⟨_,u⟩
  ·exact .inl (by rw [u])
  ·exact u n
 refine ⟨h.ne,hs.Q.trans h.Q,fun n z=>?_,fun n z=>by rw [hs.E n,hs.J,hs.Q];exact h.mark n z,by rw [O];exact h.N.congr fun n _=>by simp only [hs.E],R,h.ok,h.k7,h.hy,by rw [U];exact h.ts⟩;rw [hs.J,hs.E n];rcases hd n with e | e
 ·rw [e];exact h.dq n z
 ·rw [e];refine zjO _ n _ fun D L E u=>?_;rw [<- h.dq n z];exact (zfy _ n _).2 D L E u
theorem zmO {n:Nat}:∀ (es:List (Nat × zS)) (p:Pg),(∀ e,e∈es->e.2.kind≠3/\e.2.kind≠4)->rp es n p=p
 | [],p,_=>rfl
 | e::es,p,h=>by show rp es n (Qj n p e)=p;rw [show Qj n p e=p from zcJ (h e (jj ..))];exact zmO es p fun u z=>h u (ji _ z)
theorem zmx {ts:qC}:∀ x,x∈qV ts->x.kind=1∨x.kind=2:=fun x h=>by
 rcases zO.1 h with rfl | h
 ·exact .inl rfl
 ·obtain ⟨p,_,h⟩:=List.mem_flatMap.1 h;obtain ⟨c,_,rfl⟩:=List.mem_map.1 h;exact .inr rfl
theorem zga (i:Nat):∀ (l:List Chg) (s:JH),i≠1->(l.map (yR 1)).foldl (fun s x=>if x.txn=i/\x.kind≠7 then s.step x else s) s=s
 | [],s,_=>rfl
 | c::l,s,h=>by rw [List.map_cons,jP,if_neg (fun u=>h (u.1.symm.trans rfl))];exact zga i l s h
theorem ud.ready {s:St} {rs:List zS} (h:ud s rs) (D:jR s):∃ a3,ud s.ready a3:=by
 unfold St.ready;split
 ·exact ⟨rs,h⟩
 ·have u:=ZT D.c.i0.ab s.ts;have hpg:∀ n,(s.sto.bb s.ts).E n=s.sto.E n:=u.E;have R:=zmx (ts:=s.ts);refine ⟨qV s.ts,by simp [qV],u.Q,fun n E=>?_,fun n E=>?_,h.N.congr fun n _=>by simp only [hpg],h.lk,fun x O=>(YI D.c.tx x O).1,fun x O=>by have:=R x O;omega,fun i a1=>?_,h.ts⟩
  ·rw [zmO _ _ (fun e he=>by have:=R e.2 (zaI _ _ _ e he);omega)];exact (u.dp n E).trans (u.E n).symm
  ·show ((s.sto.bb s.ts).E n).mark<jl (s.sto.bb s.ts).J (s.sto.bb s.ts).Q.length;rw [hpg,u.J];have z:=h.mark n E;have U:=D.c.i0.Q;generalize (s.sto.E n).mark=M at z;generalize (s.sto.bb s.ts).Q.length=L;have X:jl s.sto.J s.sto.Q.length=s.sto.J*1048576+s.sto.Q.length+1:=rfl;have Y:jl (s.sto.J+1) L=(s.sto.J+1)*1048576+L+1:=rfl;rw [X] at z;rw [Y];generalize s.sto.Q.length=K at z U;exact zgg z U
  ·have Z:JH.step ⟨[],false⟩ qE=⟨[],false⟩:=rfl;have a0:∀ l:List zS,uk (qE::l) i=l.foldl (fun s x=>if x.txn=i/\x.kind≠7 then s.step x else s) ⟨[],false⟩:=fun l=>by
    unfold uk;rw [jP];split
    ·rw [Z]
    ·rfl
   unfold qV;rw [a0];rcases h.ts with e | ⟨T,x,e,_⟩
   ·rw [e];rfl
   ·rw [e,zbY];simp only [vq,qy,List.flatMap_nil,List.append_nil];exact zga i _ _ a1
theorem ziU {rs:List zS} {x:zS} {i:Nat} (h:x.txn≠i):uk (rs++[x]) i=uk rs i:=by rw [zgf,jP,List.foldl_nil,if_neg (fun u=>h u.1)]
theorem ud.bu {s s':St} {rs:List zS} (h:ud s rs) (x:zS) (E:s'.sto.Q=s.sto.Q++qF x) (D:s'.sto.J=s.sto.J) (R:s'.sto.dp=s.sto.dp) (L:∀ n,n<6->s'.sto.E n=Qj n (s.sto.E n) (jl s.sto.J s.sto.Q.length,x))
  (X:Jg s'.N fun n=>(s'.sto.E n).ap) (Z:uo s'.lk) (hx:x.ok) (O:x.kind≠7) (h1:x.txn=1) (ht:s'.ts=uR∨∃ T x,s'.ts=one T x/\∀ c,c∈x.I->c.aa=none):ud s' (rs++[x]):=by
 have Y:s'.sto.Q.length=s.sto.Q.length+(qF x).length:=by rw [E,zl]
 have a0:=JC x;refine ⟨by simp,by rw [E,h.Q,YY,ZV],fun n z=>?_,fun n z=>?_,X,Z,fun y u=>?_,fun y u=>?_,fun i U=>by rw [ziU (by omega)];exact h.hy i U,ht⟩
 ·rw [D,GH,zmN,R,h.dq n z,qz,<- h.Q];exact (L n z).symm
 ·rw [L n z,D,Y];have:=h.mark n z;unfold Qj;split
  ·simp only [jl];omega
  ·simp only [jl] at this ⊢;omega
 ·rcases ja.1 u with u | u
  ·exact h.ok y u
  ·simp at u;subst u;exact hx
 ·rcases ja.1 u with u | u
  ·exact h.k7 y u
  ·simp at u;subst u;exact O
theorem ud.al {s:St} {rs:List zS} {r nb n i T:Nat} {x:Tx} {rw:Rw} (h:ud s rs) (L:jR s) (ht:s.ts=one T x) (hb:∀ c,c∈x.I->c.aa=none) (hok:rw.ok) (O:n<6) (Y:i<5) (X:(s.sto.E n).ap[i]?=some none) (a3:∀ y,y∈s.N->¬ Zw y.rw rw) :
  (∃ a4,ud (s.al r nb 3 1 n i (some rw)) a4)/\(s.al r nb 3 1 n i (some rw)).N=uF s.N (jv s.N rw) ⟨rw,n,i⟩/\(s.al r nb 3 1 n i (some rw)).ts=one T ⟨x.I++[⟨n,i,none⟩],x.ag,x.ops+1⟩:=by
 have u:=Yp L.c.i0.ab r nb 3 1 n i (some rw);have R:=h.bx (s':={ s with sto:=s.sto.get nb n }) u.bx rfl h.lk rfl;have U:yz (s.sto.E n) i=none:=by unfold yz;rw [X];rfl
 have a0:(s.al r nb 3 1 n i (some rw)).ts=one T ⟨x.I++[⟨n,i,none⟩],x.ag,x.ops+1⟩:=by show Ju s.ts 1 ⟨n,i,yz (s.sto.E n) i⟩=_;rw [U,ht];rfl
 have hlen:∀ k,k<6->(s.sto.E k).ap.length=5:=fun k hk=>(L.c.i0.ok k hk).b3;have Z:(s.al r nb 3 1 n i (some rw)).N=uF s.N (jv s.N rw) ⟨rw,n,i⟩:=by show uj (jT s.N (yz (s.sto.E n) i)) (some rw) n i=_;rw [U];rfl
 refine ⟨⟨rs++[yl r 3 1 n i (s.sto.get nb n) (s.sto.E n) (some rw)],?_⟩,Z,a0⟩;refine R.bu _ (by show (s.sto.al r nb 3 1 n i (some rw)).Q=_;rw [u.Q,u.bx.Q]) (u.J.trans u.bx.J.symm) u.dp (fun z a1=>?_) ?_ h.lk (zbD (L.c.i0.ok n O) (.inl rfl) (by omega) O Y hok) (by show (3:Nat)≠7;omega) rfl (.inr ⟨T,_,a0,fun c D=>?_⟩)
 ·show (s.sto.al r nb 3 1 n i (some rw)).E z=Qj z ((s.sto.get nb n).E z) _;by_cases e:z=n
  ·subst e;have hm:=R.mark z a1;rw [u.E];unfold Qj;rw [if_pos ⟨.inl rfl,rfl,hm⟩];show _={ ((s.sto.get nb z).E z).set i (some rw) with mark:=jl (s.sto.get nb z).J (s.sto.get nb z).Q.length };rw [u.bx.E,u.bx.J,u.bx.Q]
  ·rw [u.b7 z e,u.bx.E z];unfold Qj;rw [if_neg];rintro ⟨_,h2,_⟩;exact e (h2.symm.trans rfl)
 ·have D:=h.N.al (n:=n) (i:=i) (o:=some rw) O Y hlen fun b E y hy hs=>by injection E with E;subst E;exact absurd hs (a3 y hy)
  rw [X] at D;rw [Z];refine Jg.congr (C:=zV (fun n=>(s.sto.E n).ap) n ((s.sto.E n).ap.set i (some rw))) D fun k hk=>?_;show ((s.sto.al r nb 3 1 n i (some rw)).E k).ap=_;by_cases e:k=n
  ·subst e;rw [u.E,zk];rfl
  ·rw [u.b7 k e,zt _ _ e]
 ·rcases ja.1 D with D | D
  ·exact hb c D
  ·simp at D;subst D;rfl
theorem ud.put {s:St} {rs:List zS} {r nb T:Nat} {nbs:Nat->Nat} {x:Tx} {rw:Rw} (h:ud s rs) (u:jR s) (E:s.ts=one T x) (h8:x.ops<8) (hok:rw.ok) (hg:s.sto.J+1<4294967296) (c0:s.N.length<30) (U:∀ y,y∈s.N->¬ Zw y.rw rw) :
  (s.put r nbs nb 1 x.ops rw).1=0/\(∃ b9,ud (s.put r nbs nb 1 x.ops rw).2 b9)/\(∃ y,(s.put r nbs nb 1 x.ops rw).2.ts=one T ⟨x.I++[y],x.ag,x.ops+1⟩)/\∃ n i,(s.put r nbs nb 1 x.ops rw).2.N=uF s.N (jv s.N rw) ⟨rw,n,i⟩:=by
 have a5:Go.Proofs.YtechnoogjhohfaaGreat.keyB s.lk ((1:Nat):Int) rw.t (zb rw.k)=true:=h.lk.keyB _ _;have R:uo (Go.Proofs.YtechnoogjhohfaaGreat.keyS s.lk ((1:Nat):Int) rw.t (zb rw.k)):=h.lk.keyS _ _;have hb:∀ c,c∈x.I->c.aa=none:=by
  rcases h.ts with e | ⟨T',x',e,hx⟩
  ·rw [E] at e;simp [one,uR] at e
  ·rw [E] at e;simp only [one,List.cons.injEq,je,Prod.mk.injEq] at e;rw [e.2.1.2];exact hx
 have hf:=ziI h.N.so ⟨rw.t,rw.k,[]⟩;unfold St.put;rw [if_neg (by rw [a5];simp),if_neg (by omega)];cases e:yY s.N ⟨rw.t,rw.k,[]⟩ with
 | some y =>obtain ⟨Y,Z⟩:=hf.1 y e;exact absurd Z (U y Y)
 | none =>
  obtain ⟨z,a9,a6⟩:=zap (nbs:=nbs) h.kept 6 0 u.c.i0.ab;have a8:=GW (ts:=s.ts) (nbs:=nbs) 6 0 u.c.ae;cases L:(zZ s.ts nbs 6 0 s.sto).2 with
  | none =>have a0:=a6 L;have:=h.N.dq (fun k hk=>(u.c.i0.ok k hk).b3) fun n i hn u=>a0 n i (zU _) (by omega) u;omega
  | some p =>
   obtain ⟨n,i⟩:=p;obtain ⟨_,h3,h4,h5⟩:=a9 n i L;have hw:WF (Go.Proofs.YtechnoogjhohfaaGreat.keyS s.lk ((1:Nat):Int) rw.t (zb rw.k)):=R.1;have X:jR { s with lk:=keyS s.lk ((1:Nat):Int) rw.t (zb rw.k),sto:=(zZ s.ts nbs 6 0 s.sto).1 }:=⟨u.c.bx z a8 rfl rfl hw,u.sv⟩;have a3:=h.bx (s':={ s with lk:=keyS s.lk ((1:Nat):Int) rw.t (zb rw.k),sto:=(zZ s.ts nbs 6 0 s.sto).1 }) z rfl R rfl;have a1:(zZ s.ts nbs 6 0 s.sto).1.J+1<4294967296:=by rw [z.J];exact hg
   obtain ⟨c1,a4⟩:=a3.ready X;have D:=ZB ({ s with lk:=keyS s.lk ((1:Nat):Int) rw.t (zb rw.k),sto:=(zZ s.ts nbs 6 0 s.sto).1 }:St);have a7:=X.ready a1;have hpg:∀ k,(({ s with lk:=keyS s.lk ((1:Nat):Int) rw.t (zb rw.k),sto:=(zZ s.ts nbs 6 0 s.sto).1 }:St).ready.sto.E k)=s.sto.E k:=fun k=>by
    refine Eq.trans ?_ (z.E k);unfold St.ready;split
    ·rfl
    ·exact (ZT z.ok _).E k
   obtain ⟨h6,O,h9⟩:=a4.al (r:=r) (nb:=nb) (n:=n) (i:=i) (T:=T) (x:=x) (rw:=rw) a7 (D.2.1.trans E) hb hok (by omega) h4 (by rw [hpg];exact h5) (by rw [D.1];exact U);refine ⟨rfl,h6,⟨_,h9⟩,n,i,?_⟩;rw [D.1] at O;exact O
theorem ud.am {s:St} {rs:List zS} {T:Nat} {x:Tx} (h:ud s rs) (D:jR s) (ht:s.ts=one T x) (hx:x.I≠[]) :
  ud (s.am 1 x) (rs++[yx 1])/\zka (s.am 1 x) (rs++[yx 1]) (rs++[yx 1]).length (fun n=>(s.sto.E n).ap)/\(s.am 1 x).ts=uR:=by
 have R:(s.am 1 x).ts=uR:=by show s.ts.set 1 none=uR;rw [ht];rfl
 have z:(s.am 1 x).sto=(s.sto.au (yx 1)).bo:=by unfold St.am;simp only;rw [if_neg hx]
 have Z:(s.am 1 x).sto.Q=s.sto.Q++qF (yx 1):=by rw [z];rfl
 have X:(s.am 1 x).sto.dp=s.sto.dp:=by rw [z];rfl
 have Y:(s.am 1 x).sto.J=s.sto.J:=by rw [z];rfl
 have hpg:∀ n,(s.am 1 x).sto.E n=s.sto.E n:=fun n=>by rw [z];rfl
 have L:uo (s.am 1 x).lk:=h.lk.dropM 1;have U:(yx 1).ok:=Ks (by omega);have u:ud (s.am 1 x) (rs++[yx 1]):=h.bu (yx 1) Z Y X (fun n O=>by rw [hpg];exact (zcJ (by simp [yx])).symm) (by show Jg s.N _;exact h.N.congr fun n _=>by simp only [hpg]) L U (by simp [yx]) rfl (.inl R);have E:Qy (rs++[yx 1]):=⟨u.ok,u.k7,fun i=>by
  by_cases e:i=1
  ·subst e;rw [zgf,jP,List.foldl_nil,if_pos ⟨rfl,by simp [yx]⟩];rfl
  ·exact u.hy i e⟩
 have a0:qX (s.am 1 x).sto:=by rw [z];exact ⟨D.c.i0.ab.a3,D.c.i0.ab.hand,D.c.i0.ab.cs,D.c.i0.ab.cc,za _⟩
 refine ⟨u,⟨⟨a0,⟨u.Q,by simp,za _,?_,u.dq,fun n O=>?_,u.mark⟩,fun n _=>by rw [hpg],by show Jg s.N _;exact h.N⟩,E,by rw [qi];exact E,L⟩,R⟩
 ·rw [qi,<- u.Q,z];rfl
 ·rw [qi,u.dq n O,hpg]
theorem ud.an {s:St} {rs:List zS} (h:ud s rs) (z:s.ts=uR) (T:Nat):ud (s.an T).2 rs/\(s.an T).2.ts=one T uh/\(s.an T).1=1/\(s.an T).2.N=s.N/\(s.an T).2.sto=s.sto:=by
 have e:s.an T=(1,{ s with ts:=one T uh }):=by unfold St.an;rw [z];rfl
 rw [e];exact ⟨⟨h.ne,h.Q,h.dq,h.mark,h.N,h.lk,h.ok,h.k7,h.hy,.inr ⟨T,uh,rfl,fun c u=>by cases u⟩⟩,rfl,rfl,rfl,rfl⟩
theorem zoT:ud Za [qE]:=by have h:=zoR;refine ⟨by simp,h.cw.Q,h.cw.dq,h.cw.mark,h.N.congr fun n u=>h.ir n u,h.lk,h.dz.ok,h.dz.k7,fun i _=>h.dz.done i,.inl rfl⟩
structure Zd (rows:List Rw):Prop where
 so:rows.Pairwise ye
 ok:∀ r,r∈rows->r.ok
 le:rows.length<=30
structure GI (rows:List Rw) (k:Nat) (s:St):Prop where
 br:jR s
 h4:∃ rs,ud s rs
 J:s.sto.J<=1+k
 len:s.N.length=k
 sub:∀ y,y∈s.N->y.rw∈rows.take k
 iv:∀ r,r∈rows.take k->∃ y,y∈s.N/\y.rw=r
 ts:(k=0/\s.ts=uR)∨(0<k/\∃ T x,s.ts=one T x/\x.ops=(k-1) % 8+1/\x.I≠[])
theorem Ya (T:Nat) (x:Tx):(one T x)[1]?=some (some (T,x)):=rfl
theorem GI.db {E:List Rw} {k:Nat} {s:St} (h:GI E k s) {T:Nat} {x:Tx} (z:s.ts=one T x) (D:x.I≠[]):s.sto.Q.length+395<=14336:=by have u:=zhi h.br.c.l h.br.c.tx (txn:=1) (by omega) (by omega) (by rw [z];exact Ya T x);unfold yO at u;rw [if_neg D] at u;omega
theorem GI.next {a0:List Rw} {k:Nat} {s:St} (h:GI a0 k s) (T:Nat):jR (yc s T k)/\(∃ rs,ud (yc s T k) rs)/\(yc s T k).sto.J=s.sto.J/\(yc s T k).N=s.N/\∃ U x,(yc s T k).ts=one U x/\x.ops=k % 8:=by
 unfold yc;split
 ·rename_i L;unfold Jt;obtain ⟨rs,R⟩:=h.h4;rcases h.ts with ⟨_,e⟩ | ⟨h0,u,x,e,_,hl⟩
  ·rw [if_pos (by rw [e];rfl)];obtain ⟨g1,z,Z,D,E⟩:=R.an e T;exact ⟨(h.br.an T).1,⟨rs,g1⟩,by rw [E],D,T,uh,z,by rw [L];rfl⟩
  ·rw [if_neg (by rw [e];simp [zbY]),Yy (by rw [e];exact Ya u x)];obtain ⟨X,c2,Y⟩:=R.am h.br e hl;have O:=h.br.am (txn:=1) (T:=u) (x:=x) (by omega) (by omega) (by rw [e];exact Ya u x);obtain ⟨g1,z,Z,D,E⟩:=X.an Y T;exact ⟨(O.1.an T).1,⟨_,g1⟩,by rw [E];exact O.2,D,T,uh,z,by rw [L];rfl⟩
 ·rename_i L;rcases h.ts with ⟨h0,_⟩ | ⟨h0,u,x,e,ho,_⟩
  ·subst h0;omega
  ·exact ⟨h.br,h.h4,rfl,rfl,u,x,e,by omega⟩
theorem zgA {u:List Rw} {k:Nat} {rw:Rw} (h:u[k]?=some rw):u.take (k+1)=u.take k++[rw]:=by obtain ⟨z,e⟩:=zr.1 h;rw [yH z,e]
theorem zpT {u:List Rw} (hs:u.Pairwise ye) {k:Nat} {rw r:Rw} (h:u[k]?=some rw) (E:r∈u.take k):ye r rw:=by obtain ⟨D,e⟩:=zr.1 h;obtain ⟨i,z,rfl⟩:=List.mem_iff_getElem.1 E;rw [qf] at z;rw [List.getElem_take,<- e];exact List.pairwise_iff_getElem.1 hs i k (by omega) D (by omega)
theorem GI.step {U:List Rw} (Y:Zd U) {r k T nb:Nat} {nbs:Nat->Nat} {rw:Rw} {s:St} (h:GI U k s) (D:U[k]?=some rw):(uB r k T nbs nb rw s).1=0/\GI U (k+1) (uB r k T nbs nb rw s).2:=by
 obtain ⟨L,⟨rs,n2⟩,n3,O,X,x,n5,n6⟩:=h.next T;have a5:=(zr.1 D).1;have a4:=Y.le;have a3:=h.J;have hlen:=h.len;have hok:=Y.ok rw (zC D);have E:∀ y,y∈(yc s T k).N->¬ Zw y.rw rw:=fun y hy=>by rw [O] at hy;exact zdz (zpT Y.so D (h.sub y hy))
 have a0:(yc s T k).ts[1]?=some (some (X,x)):=by rw [n5];exact Ya X x
 unfold uB;rw [Yy a0];obtain ⟨p1,⟨a1,p2⟩,⟨y,p3⟩,n,i,R⟩:=n2.put (r:=r) (nb:=nb) (nbs:=nbs) L n5 (by rw [n6];omega) hok (by omega) (by rw [O];omega) E;obtain ⟨q1,q2⟩:=L.put (r:=r) (nb:=nb) (nbs:=nbs) (txn:=1) (by omega) (by omega) a0 hok (by omega);have hm:=fun z=>YV L.c.i0.cd.so ⟨rw,n,i⟩ z;rw [O] at R hm E;refine ⟨p1,⟨q1,⟨a1,p2⟩,by omega,?_,fun z u=>?_,fun z u=>?_,.inr ⟨by omega,X,_,p3,by simp only;omega,by simp⟩⟩⟩
 ·rw [R];have:=L.c.i0.cd.so;rw [O] at this;rw [zgN this ⟨rw,n,i⟩ E,h.len]
 ·rw [R] at u;rw [zgA D];rcases (hm z).1 u with rfl | ⟨u,_⟩
  ·simp
  ·exact List.mem_append_left _ (h.sub z u)
 ·rw [zgA D] at u;rw [R];rcases ja.1 u with u | u
  ·obtain ⟨Z,h1,h2⟩:=h.iv z u;exact ⟨Z,(hm Z).2 (.inr ⟨h1,E Z h1⟩),h2⟩
  ·simp at u;exact ⟨_,(hm _).2 (.inl rfl),u.symm⟩
theorem GI.zero (z:List Rw):GI z 0 Za:=⟨znN,⟨_,zoT⟩,by decide,rfl,fun y u=>(by cases u),fun r h=>(by simp at h),.inl ⟨rfl,rfl⟩⟩
theorem zrC {D:List Rw} (E:Zd D) (r:Nat):zcw r D (GI D):=by
 refine ⟨GI.zero D,fun k s h u Y R=>?_,fun k s T h u=>?_,fun k s T nbs nb rw h u=>⟨E.ok rw (zC u),h.step E u⟩,fun s h U=>?_⟩
 ·rcases h.ts with ⟨_,e⟩ | ⟨_,T,x,e,_,L⟩
  ·rw [e] at R;exact absurd rfl R
  ·exact ⟨T,x,by rw [e];exact Ya T x,fun _=>h.db e L⟩
 ·obtain ⟨z,n2,n3,n4,O,x,X,n6⟩:=h.next T;have:=h.J;have Z:=E.le;exact ⟨O,x,by rw [X];exact Ya O x,z.c.wf,z.c.i0.cd.so,by have:=z.c.i0.cd.f3;omega,z.c.i0.cd.pg,by omega⟩
 ·rcases h.ts with ⟨e,_⟩ | ⟨_,T,x,e,_,L⟩
  ·exact absurd (yh e) U
  ·exact ⟨T,x,by rw [e];exact Ya T x,fun _=>h.db e L⟩
theorem uN.gi {u:List Rw} (D:Zd u) {r:Nat}:∀ (l:List Rw) (k:Nat) {s s':St},u.drop k=l->k<=u.length->GI u k s->uN r l k s s'->GI u u.length s'
 | [],k,s,s',hd,hk,h,z=>by
  have O:s'=s:=z;subst O;have:u.length<=k:=by have:=congrArg List.length hd;simp at this;omega
  rw [show u.length=k by omega];exact h
 | rw::l,k,s,s',hd,hk,h,z=>by
  obtain ⟨T,nbs,nb,z⟩:=z;have L:k<u.length:=by have:=congrArg List.length hd;simp at this;omega
  have R:u[k]?=some rw:=by have:=congrArg (·[0]?) hd;simpa using this
  have E:u.drop (k+1)=l:=by rw [<- List.drop_drop,hd];rfl
  exact uN.gi D l (k+1) E L (h.step D R).2 z
theorem znO {z:List Rw} (hs:z.Pairwise ye) {u:List It} (R:qe u) (E:∀ y,y∈u->y.rw∈z) (L:∀ r,r∈z->∃ y,y∈u/\y.rw=r):u.map (·.rw)=z:=by
 have h:u.map (fun y=>(⟨y.rw,0,0⟩:It))=z.map (fun r=>(⟨r,0,0⟩:It)):=by
  refine zaZ (List.pairwise_map.2 R) (List.pairwise_map.2 hs) fun x=>?_;simp only [List.mem_map];constructor
  ·rintro ⟨y,D,rfl⟩;exact ⟨_,E y D,rfl⟩
  ·rintro ⟨r,U,rfl⟩;obtain ⟨y,D,rfl⟩:=L r U;exact ⟨y,D,rfl⟩
 have O:=congrArg (List.map (·.rw)) h;simpa [List.map_map,Function.comp_def] using O
structure zqo (rows:List Rw) (s:St):Prop where
 br:jR s
 ts:s.ts=uR
 J:s.sto.J<=31
 N:s.N.map (·.rw)=rows
 base:∃ rs C,zka s rs rs.length C
theorem zeb {z:List Rw} (D:Zd z) {r:Nat} {s':St} (h:zaz r z s'):zqo z s':=by
 obtain ⟨s,U,rfl⟩:=h;by_cases e:z=[]
 ·subst e;rw [if_pos rfl];have Z:s=Za:=U;subst Z;exact ⟨znN,rfl,by decide,rfl,[qE],zir,zoR⟩
 ·rw [if_neg e];have u:=uN.gi D z 0 (List.drop_zero) (zU _) (GI.zero z) U;rcases u.ts with ⟨h0,_⟩ | ⟨_,T,x,E,_,hl⟩
  ·exact absurd (yh h0) e
  ·rw [Yy (by rw [E];exact Ya T x)];obtain ⟨rs,a0⟩:=u.h4;obtain ⟨c1,X,Y⟩:=a0.am u.br E hl;have L:=u.br.am (txn:=1) (T:=T) (x:=x) (by omega) (by omega) (by rw [E];exact Ya T x);have O:=u.sub;have R:=u.iv;rw [qi] at O R;exact ⟨L.1,Y,by rw [L.2];have:=u.J;have:=D.le;omega,znO D.so u.br.c.i0.cd.so O R,_,_,X⟩
theorem zho:∀ (n:Nat) (s:List UInt8 × Bool) (acc:List Rw) {l:List Rw} {s':List UInt8 × Bool},acc.Pairwise ye->(∀ r,r∈acc->r.ok)->ZG n s acc=some (l,s')->l.Pairwise ye/\∀ r,r∈l->r.ok
 | 0,s,acc,l,s',hs,ho,h=>by unfold ZG at h;injection h with h;injection h with h1 h2;subst h1;exact ⟨hs,ho⟩
 | n+1,s,acc,l,s',hs,ho,h=>by
  unfold ZG at h;split at h
  ·cases h
  ·rename_i hb;unfold Qw at hb;simp only [Bool.or_eq_true,Bool.not_eq_true',not_or,Bool.not_eq_true,Bool.not_eq_false] at hb;obtain ⟨a1,a0,R⟩:=hb;obtain ⟨rw,hok,e1,Y,Z⟩:=zgu a0;have U:(Ka s).1=rw:=by
    have L:=congrArg (fun b:ByteArray=>b.data.toList) Y;have O:=congrArg (fun b:ByteArray=>b.data.toList) Z;have E:(Ka s).1.t=rw.t:=by omega
    cases hq:(Ka s).1;rw [hq] at E L O;cases rw;simp only [Qs] at E L O;subst E L O;rfl
   refine zho n _ _ ?_ ?_ h
   ·rw [U];refine List.pairwise_append.2 ⟨hs,List.pairwise_singleton _ _,fun a u b hb=>?_⟩;rw [List.mem_singleton.1 hb];cases D:acc.getLast? with
    | none=>rw [List.getLast?_eq_none_iff] at D;subst D;cases u
    | some y =>
     rw [D,U] at R;simp only [Bool.not_eq_eq_eq_not,Bool.not_false,Bool.not_true] at R;have X:ye y rw:=(Qd y rw).1 (by unfold Jp;simpa using R);obtain ⟨a3,rfl⟩:=List.getLast?_eq_some_iff.1 D;rcases ja.1 u with u | u
     ·exact YH ((List.pairwise_append.1 hs).2.2 a u y (by simp)) X
     ·simp at u;subst u;exact X
   ·rw [U];intro r z;rcases ja.1 z with z | z
    ·exact ho r z
    ·simp at z;subst z;exact hok
theorem zaQ {b:List UInt8} (h:(qY b).1=0):Zd (qY b).2:=by
 unfold qY at h ⊢;split
 ·rename_i z;rw [if_pos z] at h;cases h
 ·rename_i z;rw [if_neg z] at h;split
  ·rename_i D;rw [if_pos D] at h;cases h
  ·rename_i D;rw [if_neg D] at h;split
   ·rename_i u;rw [u] at h;cases h
   ·rename_i l s u;rw [u] at h;simp only at h;split
    ·rename_i E;rw [if_pos E] at h;cases h
    ·rename_i E;rw [if_neg E] at h;split
     ·rename_i L;rw [if_pos L] at h;cases h
     ·rename_i L;obtain ⟨O,a2⟩:=zho _ _ _ .nil (fun r R=>by cases R) u;exact ⟨O,a2,by show l.length<=30;omega⟩
def z1:Nat->Nat:=fun _=>0
theorem zcC (ts:qC) (i:Nat):QS (ZS ts) i=QS ts i:=by
 unfold QS;rw [zed];cases ts[i]? with
 | none=>rfl
 | some o =>
  cases o with
  | none=>rfl
  | some p=>rfl
theorem zht (ts:qC):(zF (ZS ts)).length=(zF ts).length:=by unfold zF;rw [JK];simp [zlR]
theorem St.g5 (s:St) (r nb txn:Nat):(s.az r nb txn).Z=s.Z.az r 0 txn:=by
 unfold St.az;rw [show s.Z.ts=ZS s.ts from rfl,zed];cases s.ts[txn]? with
 | none=>rfl
 | some o =>
  cases o with
  | none=>rfl
  | some p =>
   obtain ⟨T,x⟩:=p;simp only [ql];cases x.I.getLast? with
   | none=>rfl
   | some c =>have h:=St.dg s r nb 4 txn c.pg c.sl c.aa;have u:=congrArg St.sto h;have z:=congrArg St.N h;have D:=congrArg St.lk h;simp only;show St.mk _ _ _ _=St.mk _ _ _ _;rw [St.mk.injEq];exact ⟨u,z,JL _ _ _,D⟩
theorem St.ec (r txn:Nat) (nbs:Nat->Nat):∀ (m j:Nat) (s:St),(St.ai r txn nbs j m s).Z=St.ai r txn z1 j m s.Z
 | 0,_,_=>rfl
 | m+1,j,s=>by show (St.ai r txn nbs (j+1) m (s.az r (nbs j) txn)).Z=St.ai r txn z1 (j+1) m (s.Z.az r 0 txn);rw [St.ec r txn nbs m (j+1),St.g5]
theorem St.fh (s:St) (r txn:Nat) (nbs:Nat->Nat) (x:Tx):(s.be r txn nbs x).Z=s.Z.be r txn z1 x:=by have h:=St.ec r txn nbs x.I.length 0 s;unfold St.be;rw [<- h];unfold St.Z;simp only [JL,Option.map_none];split<;>rfl
theorem St.e6 (s:St) (r txn T:Nat) (nbs:Nat->Nat) (x:Tx) (n:Int):(s.a5 r txn nbs T x n).1=(s.Z.a5 r txn z1 0 x n).1/\(s.a5 r txn nbs T x n).2.Z=(s.Z.a5 r txn z1 0 x n).2:=by
 unfold St.a5;cases x.b5 n with
 | none=>exact ⟨rfl,rfl⟩
 | some p =>refine ⟨rfl,?_⟩;simp only;rw [St.ec];show St.ai r txn z1 0 _ { s.Z with ts:=ZS (s.ts.set txn (some (T,p.2))) }=_;rw [JL];rfl
theorem St.gk (s:St) (r nb txn ops t:Nat) (k:List UInt8):(s.bt r nb txn ops t k).1=(s.Z.bt r 0 txn ops t k).1/\(s.bt r nb txn ops t k).2.Z=(s.Z.bt r 0 txn ops t k).2:=by
 unfold St.bt;rw [show s.Z.lk=s.lk from rfl,show s.Z.N=s.N from rfl];split
 ·exact ⟨rfl,rfl⟩
 ·cases yY s.N ⟨t,k,[]⟩ with
  | none=>exact ⟨rfl,rfl⟩
  | some x =>
   unfold St.ds;by_cases h:8<=ops
   ·simp only [if_pos h];exact ⟨by trivial,rfl⟩
   ·simp only [if_neg h];refine ⟨by trivial,?_⟩;rw [St.dg,St.dh];rfl
theorem St.hl (s:St) (txn t:Nat) (f:List UInt8) (z:ByteArray):(s.bk txn t f z).1=(s.Z.bk txn t f z).1/\(s.bk txn t f z).2.1=(s.Z.bk txn t f z).2.1/\(s.bk txn t f z).2.2.Z=(s.Z.bk txn t f z).2.2:=by unfold St.bk;rw [show s.Z.lk=s.lk from rfl,show s.Z.N=s.N from rfl];split<;>exact ⟨rfl,rfl,rfl⟩
theorem znE (fs:List zy) (k:Nat):yy (fs.map zy.Z) k=yy fs k:=by
 unfold yy;rw [<- List.map_take,List.foldl_map];congr 1;funext l f;unfold uY zy.Z;cases f.pg with
 | none=>rfl
 | some x=>rfl
theorem St.gv (s:St):s.cj.Z=s.Z.cj:=by
 unfold St.cj;have h:=St.dh s;have hm:ZH s.Z.ready.sto=ZH s.ready.sto:=by rw [<- h];unfold ZH;rw [show s.ready.Z.sto.fs=s.ready.sto.fs.map zy.Z from rfl,znE]
 rw [hm,<- h];rfl
theorem St.e3 (s:St) (nb fr h:Nat) (x:zS):(s.ax nb fr h x).Z=s.Z.ax 0 fr h x:=by
 unfold St.ax;split
 ·unfold St.Z;simp only [zn.e3]
 ·rfl
theorem zbL (nbs:Nat->Nat) (fr:Nat) (es:List (Nat × zS)):∀ (j:Nat) (s:St),(redoTo nbs fr es j s).Z=redoTo z1 fr es j s.Z
 | 0,_=>rfl
 | j+1,s=>by
  simp only [redoTo];cases es[j]? with
  | none=>exact zbL nbs fr es j s
  | some e=>simp only;rw [St.e3,zbL nbs fr es j s];rfl
theorem zee (nbs:Nat->Nat):∀ (k:Nat) (s:St),(qb nbs k s).Z=qb z1 k s.Z
 | 0,_=>rfl
 | k+1,s=>by show (zah (qb nbs k s) (nbs k) k).Z=zah (qb z1 k s.Z) 0 k;rw [<- zee nbs k s];unfold zah;rw [show ((qb nbs k s).Z).sto.E k=(qb nbs k s).sto.E k from zn.df _ _];unfold St.Z;simp only [zn.de]
theorem zpj (r:Nat) (rs:List zS) (n T:Nat) (nbs:Nat->Nat) (s:St):(lose r rs n T nbs s).Z=lose r rs n 0 z1 s.Z:=by
 unfold lose;split
 ·rw [St.fh];show St.be { s.Z with ts:=ZS (s.ts.set n _) } _ _ _ _=_;rw [JL];rfl
 ·rfl
theorem zfW (r:Nat) (rs:List zS) (Ts:Nat->Nat) (nbs:Nat->Nat->Nat):∀ (k:Nat) (s:St),(jU r rs Ts nbs k s).Z=jU r rs z1 (fun _=>z1) k s.Z
 | 0,_=>rfl
 | k+1,s=>by show (lose r rs k (Ts k) (nbs k) (jU r rs Ts nbs k s)).Z=lose r rs k 0 z1 (jU r rs z1 (fun _=>z1) k s.Z);rw [zpj,zfW r rs Ts nbs k s]
theorem zlS (r h bank:Nat) (rs:List zS) (dp:Nat->Pg) (nb1 nb2 Ts:Nat->Nat) (nb3:Nat->Nat->Nat):(ym r h bank rs dp nb1 nb2 Ts nb3).Z=ym r h bank rs dp z1 z1 z1 fun _=>z1:=by unfold ym;rw [zfW,zee,zbL];rfl
theorem znF (s:St) (T:Nat):(Jt s T).Z=Jt s.Z 0:=by
 unfold Jt;rw [show s.Z.ts=ZS s.ts from rfl,zht,zcC];split
 ·exact (St.dr _ _).2
 ·rw [(St.dr _ _).2,St.d0]
theorem zki (r k T:Nat) (nbs:Nat->Nat) (nb:Nat) (rw:Rw) (s:St):(uB r k T nbs nb rw s).2.Z=(uB r k 0 z1 0 rw s.Z).2:=by
 have h:(yc s T k).Z=yc s.Z 0 k:=by
  unfold yc;split
  ·exact znF s T
  ·rfl
 unfold uB;rw [(St.dy _ _ _ _ _ _ _).2,h,<- h,show (yc s T k).Z.ts=ZS (yc s T k).ts from rfl,zcC];rfl
def zdt (r:Nat):List Rw->Nat->St->St
 | [],_,s=>s
 | rw::l,k,s=>zdt r l (k+1) (uB r k 0 z1 0 rw s).2
theorem uN.Z {r:Nat}:∀ {l:List Rw} {k:Nat} {s s':St},uN r l k s s'->s'.Z=zdt r l k s.Z
 | [],k,s,s',h=>by have u:s'=s:=h;subst u;rfl
 | rw::l,k,s,s',⟨T,nbs,nb,h⟩=>by rw [uN.Z h,zki];rfl
def Gt (r:Nat) (h:List Rw):St:=if h=[] then zdt r h 0 Za.Z else (zdt r h 0 Za.Z).am 1 (QS (zdt r h 0 Za.Z).ts 1)
theorem zaz.Z {r:Nat} {u:List Rw} {s':St} (h:zaz r u s'):s'.Z=Gt r u:=by
 obtain ⟨s,h,rfl⟩:=h;unfold Gt;rw [<- h.Z];split
 ·rfl
 ·rw [St.d0,show s.Z.ts=ZS s.ts from rfl,zcC]
def KA (r:Nat) (s:St) (txn:Nat) (x:Tx) (q:Rq) (rw:Rw):um × Bool × St :=
 if q.kd=5 then (⟨(s.cq txn rw.t rw.k).2,0,(s.cq txn rw.t rw.k).1,[],[]⟩,false,zie s txn rw.t rw.k)
 else if q.kd=6 then (jD (s.put r z1 0 txn x.ops rw).1,false,(s.put r z1 0 txn x.ops rw).2)
 else if q.kd=7 then (jD (s.bt r 0 txn x.ops rw.t rw.k).1,false,(s.bt r 0 txn x.ops rw.t rw.k).2)
 else if q.kd=8 then (⟨(s.bk txn rw.t rw.k q.tt).1,0,[],(s.bk txn rw.t rw.k q.tt).2.1.map (·.rw),[]⟩,false,(s.bk txn rw.t rw.k q.tt).2.2)
 else if q.kd=9 then (⟨if x.bs.1=0 then 8 else 0,x.bs.1,[],[],[]⟩,false,{ s with ts:=s.ts.set txn (some (0,x.bs.2)) })
 else if q.kd=10 then (jD (s.a5 r txn z1 0 x q.n).1,false,(s.a5 r txn z1 0 x q.n).2)
 else if q.kd=11 then (jD 0,true,s.am txn x)
 else (jD 0,true,s.be r txn z1 x)
theorem Gg.Z {r:Nat} {s s':St} {txn T:Nat} {x:Tx} {q:Rq} {rw:Rw} {v:um} {e:Bool} (h:Gg r s txn T x q rw v e s'):(v,e,s'.Z)=KA r s.Z txn x q rw:=by
 unfold KA;rcases h with ⟨u,rfl,rfl,rfl⟩ | ⟨u,nbs,nb,rfl,rfl,rfl⟩ | ⟨u,nb,rfl,rfl,rfl⟩ | ⟨u,rfl,rfl,rfl⟩ | ⟨u,rfl,rfl,rfl⟩ | ⟨u,nbs,rfl,rfl,rfl,_⟩ | ⟨u,rfl,rfl,rfl⟩ | ⟨u,nbs,rfl,rfl,rfl,_⟩
 ·rw [if_pos u];rfl
 ·rw [if_neg (by omega),if_pos u,(St.dy s r nbs nb txn x.ops rw).1,(St.dy s r nbs nb txn x.ops rw).2];rfl
 ·rw [if_neg (by omega),if_neg (by omega),if_pos u,(St.gk s r nb txn x.ops rw.t rw.k).1,(St.gk s r nb txn x.ops rw.t rw.k).2]
 ·obtain ⟨z,D,E⟩:=St.hl s txn rw.t rw.k q.tt;rw [if_neg (by omega),if_neg (by omega),if_neg (by omega),if_pos u,z,D,E]
 ·rw [if_neg (show ¬ q.kd=5 by omega),if_neg (show ¬ q.kd=6 by omega),if_neg (show ¬ q.kd=7 by omega),if_neg (show ¬ q.kd=8 by omega),if_pos u];show (_,_,({ s.Z with ts:=ZS (s.ts.set txn (some (T,x.bs.2))) }:St))=_;rw [JL];rfl
 ·rw [if_neg (by omega),if_neg (by omega),if_neg (by omega),if_neg (by omega),if_neg (by omega),if_pos u,(St.e6 s r txn T nbs x q.n).1,(St.e6 s r txn T nbs x q.n).2]
 ·rw [if_neg (by omega),if_neg (by omega),if_neg (by omega),if_neg (by omega),if_neg (by omega),if_neg (by omega),if_pos u,St.d0]
 ·rw [if_neg (by omega),if_neg (by omega),if_neg (by omega),if_neg (by omega),if_neg (by omega),if_neg (by omega),if_neg (by omega),St.fh]
def zkS (s:St) (q:Rq):St:=if q.kd=15 then { s with sto:=s.sto.bc (zdn q.n) } else if q.kd=16 then s.cj else s.a1
theorem zkb.Z {s s':St} {q:Rq} (h:zkb s q s'):s'.Z=zkS s.Z q:=by
 unfold zkS;rcases h with ⟨u,rfl⟩ | ⟨u,rfl⟩ | ⟨u,rfl⟩
 ·rw [if_pos u];unfold St.Z;simp only [zn.fl]
 ·rw [if_neg (by omega),if_pos u,St.gv]
 ·rw [if_neg (by omega),if_neg (by omega),St.d2]
section
def oT (ts:qC) (k:Nat):Bool:=match ts[k]? with
 | some (some _)=>true
 | _=>false
theorem zeu {ts:qC} {k:Nat}:oT ts k=true↔∃ T x,ts[k]?=some (some (T,x)):=by
 unfold oT;constructor
 ·intro h;split at h
  ·rename_i p u;exact ⟨p.1,p.2,u⟩
  ·cases h
 ·rintro ⟨T,x,h⟩;rw [h]
theorem zbW {ts:qC} {i:Nat} {o:Option (Nat × Tx)} (u:i<ts.length):oT (ts.set i o)=fun k=>if k=i then o.isSome else oT ts k:=by
 funext k;unfold oT;by_cases e:k=i
 ·subst e;rw [qw u,if_pos rfl];cases o<;>rfl
 ·rw [qT (fun h=>e h.symm),if_neg e]
theorem zcG {ts:qC} {i T:Nat} {x:Tx} (h:ts[i]?=some (some (T,x))) (p:Nat × Tx):oT (ts.set i (some p))=oT ts:=by
 rw [zbW (zr.1 h).1];funext k;split
 ·rename_i e;subst e;exact (zeu.2 ⟨T,x,h⟩).symm
 ·rfl
theorem zpB (ts:qC) (txn:Nat) (c:Chg):oT (Ju ts txn c)=oT ts:=by
 unfold Ju;split
 ·rename_i h;exact zcG h _
 ·rfl
theorem zof (s:St) (r nb txn:Nat):oT (s.az r nb txn).ts=oT s.ts:=by
 unfold St.az;split
 ·rename_i h;split
  ·exact zcG h _
  ·rfl
 ·rfl
theorem zaO (r txn:Nat) (nbs:Nat->Nat):∀ (m j:Nat) (s:St),oT (St.ai r txn nbs j m s).ts=oT s.ts
 | 0,_,_=>rfl
 | m+1,j,s=>by show oT (St.ai r txn nbs (j+1) m (s.az r (nbs j) txn)).ts=_;rw [zaO r txn nbs m (j+1),zof]
theorem zhQ (s:St) (r nb txn n slot:Nat) (o:Option Rw):oT (s.al r nb 3 txn n slot o).ts=oT s.ts:=zpB _ _ _
theorem zqV (s:St) (r:Nat) (nbs:Nat->Nat) (nb txn ops:Nat) (rw:Rw):oT (s.put r nbs nb txn ops rw).2.ts=oT s.ts:=by
 unfold St.put;split
 ·rfl
 ·split
  ·rfl
  ·split
   ·rw [zhQ,(ZB _).2.1]
   ·split
    ·rfl
    ·rw [zhQ,(ZB _).2.1]
theorem zqU (s:St) (r nb txn ops t:Nat) (k:List UInt8):oT (s.bt r nb txn ops t k).2.ts=oT s.ts:=by
 unfold St.bt;split
 ·rfl
 ·unfold St.ds;split
  ·rfl
  ·split
   ·rfl
   ·rw [zhQ,(ZB _).2.1]
theorem zpz {s:St} {r txn T:Nat} {nbs:Nat->Nat} {x:Tx} {n:Int} (h:s.ts[txn]?=some (some (T,x))):oT (s.a5 r txn nbs T x n).2.ts=oT s.ts:=by
 unfold St.a5;split
 ·rfl
 ·rw [zaO];exact zcG h _
theorem zpC {s s':St} {r txn T:Nat} {x:Tx} {q:Rq} {rw:Rw} {v:um} {e:Bool} (R:s.ts.length=4) (O:txn<=3) (u:s.ts[txn]?=some (some (T,x))) (L:Gg r s txn T x q rw v e s'):oT s'.ts=if e then fun k=>if k=txn then false else oT s.ts k else oT s.ts:=by
 have D:txn<s.ts.length:=by omega
 rcases L with ⟨_,_,rfl,rfl⟩ | ⟨_,nbs,nb,_,rfl,rfl⟩ | ⟨_,nb,_,rfl,rfl⟩ | ⟨_,_,rfl,rfl⟩ | ⟨_,_,rfl,rfl⟩ | ⟨_,nbs,_,rfl,rfl,_⟩ | ⟨_,_,rfl,rfl⟩ | ⟨_,nbs,_,rfl,rfl,_⟩
 ·rfl
 ·exact zqV ..
 ·exact zqU ..
 ·unfold St.bk;split<;>rfl
 ·exact zcG u _
 ·exact zpz u
 ·exact zbW D
 ·show oT ((St.ai r txn nbs 0 x.I.length s).ts.set txn none)=_;have z:=zaO r txn nbs x.I.length 0 s;have E:txn<(St.ai r txn nbs 0 x.I.length s).ts.length:=by have:=zeu.1 ((congrFun z txn).trans (zeu.2 ⟨T,x,u⟩));obtain ⟨_,_,h⟩:=this;exact (zr.1 h).1
  rw [zbW E,z];rfl
structure uf (o:Nat->Bool) (hs:List (Int × Int)):Prop where
 len:hs.length<=6
 pos:∀ h n,zW hs h=some n->n≠0->∃ k:Nat,n=k/\1<=k/\k<=3/\o k=true
 inj:∀ h h' n,n≠0->zW hs h=some n->zW hs h'=some n->h=h'
theorem uf.nil (o:Nat->Bool):uf o []:=⟨by simp,fun h n e=>(by cases e),fun h u n _ e=>(by cases e)⟩
theorem uf.ip {o:Nat->Bool} {hs:List (Int × Int)} (h:uf o hs) (E:hs.length≠6) (x:Int):uf o (aput hs x 0):=by
 refine ⟨by have:=zfl hs x (0:Int);have:=h.len;omega,fun y n e z=>?_,fun y D n z e u=>?_⟩
 ·rw [uq] at e;split at e
  ·injection e with e;exact absurd e.symm z
  ·exact h.pos y n e z
 ·rw [uq] at e u;split at e
  ·injection e with e;exact absurd e.symm z
  ·split at u
   ·injection u with u;exact absurd u.symm z
   ·exact h.inj y D n z e u
theorem uf.it {o:Nat->Bool} {hs:List (Int × Int)} (h:uf o hs) (x:Int):uf o (adel hs x):=by
 refine ⟨by have:=zfk hs x;have:=h.len;omega,fun y n e z=>?_,fun y D n z e u=>?_⟩
 ·rw [zby] at e;split at e
  ·cases e
  ·exact h.pos y n e z
 ·rw [zby] at e u;split at e
  ·cases e
  ·split at u
   ·cases u
   ·exact h.inj y D n z e u
theorem uf.an {o o':Nat->Bool} {hs:List (Int × Int)} (h:uf o hs) {x:Int} {n:Nat} (hx:qS hs x=true) (O:1<=n) (R:n<=3) (Y:o n=false) (Z:o'=fun k=>if k=n then true else o k):uf o' (aput hs x n):=by
 subst Z;refine ⟨by rw [GN,if_pos hx];exact h.len,fun y m e hm=>?_,fun y L m hm e u=>?_⟩
 ·rw [uq] at e;split at e
  ·injection e with e;exact ⟨n,e.symm,O,R,if_pos rfl⟩
  ·obtain ⟨k,E,U,X,D⟩:=h.pos y m e hm;refine ⟨k,E,U,X,?_⟩;show (if k=n then true else o k)=true;split
   ·rfl
   ·exact D
 ·have key:∀ z m,m≠0->zW hs z=some m->m≠(n:Int):=fun z m hm e en=>by
   obtain ⟨k,E,_,_,D⟩:=h.pos z m e hm;have:k=n:=by omega
   rw [this,Y] at D;cases D
  rw [uq] at e u;split at e
  ·split at u
   ·rename_i a b;rw [a,b]
   ·injection e with e;exact absurd e.symm (key L m hm u)
  ·split at u
   ·injection u with u;exact absurd u.symm (key y m hm e)
   ·exact h.inj y L m hm e u
theorem uf.f2 {o o':Nat->Bool} {hs:List (Int × Int)} (h:uf o hs) {x:Int} {n:Nat} (D:zW hs x=some (n:Int)) (h1:1<=n) (Y:o'=fun k=>if k=n then false else o k):uf o' (aput hs x 0):=by
 subst Y;have U:qS hs x=true:=by rw [yF,D];rfl
 refine ⟨by rw [GN,if_pos U];exact h.len,fun y m e hm=>?_,fun y Z m hm e u=>?_⟩
 ·rw [uq] at e;split at e
  ·injection e with e;exact absurd e.symm hm
  ·rename_i X;obtain ⟨k,z,L,O,R⟩:=h.pos y m e hm;refine ⟨k,z,L,O,?_⟩;show (if k=n then false else o k)=true;split
   ·rename_i E;subst E;rw [z] at e;exact absurd (h.inj y x k (by omega) e D) X
   ·exact R
 ·rw [uq] at e u;split at e
  ·injection e with e;exact absurd e.symm hm
  ·split at u
   ·injection u with u;exact absurd u.symm hm
   ·exact h.inj y Z m hm e u
def zdK (q:Rq):Rw:=⟨q.rt.toNat,q.rk.data.toList,q.rv.data.toList⟩
theorem zpW {q:Rq} {rw:Rw} (h:q.rt=rw.t) (u:q.rk=zb rw.k) (z:q.rv=zb rw.v):zdK q=rw:=by unfold zdK;rw [h,u,z,Qs,Qs];rfl
def zda (d:DL) (q:Rq):Int:=(zW d.hs q.hd).getD 0
def GD (r:Nat) (d:DL) (q:Rq):um × DL :=
 if zda d q=0 then
  if q.kd=3 then (jD 0,{ d with hs:=adel d.hs q.hd })
  else if q.kd=4 then
   if (d.s.an 0).1=0 then (jD 8,d) else (jD 0,{ d with s:=(d.s.an 0).2,hs:=aput d.hs q.hd (d.s.an 0).1 })
  else (jD 4,d)
 else if q.kd=3∨q.kd=4 then (jD 4,d)
 else if (yZ q.rt q.rk q.rv && decide (q.tt.size<=15))=false then (jD 1,d)
 else ((KA r d.s (zda d q).toNat (QS d.s.ts (zda d q).toNat) q (zdK q)).1,
  { d with s:=(KA r d.s (zda d q).toNat (QS d.s.ts (zda d q).toNat) q (zdK q)).2.2,hs:=if (KA r d.s (zda d q).toNat (QS d.s.ts (zda d q).toNat) q (zdK q)).2.1 then aput d.hs q.hd 0 else d.hs })
def zaN (boots r ct:Nat) (h:List Rw):DT:=⟨1,ct+1,some ⟨Gt r h,((uP (ct+1) boots:Nat):Int),0,[]⟩⟩
def vw (boots r:Nat) (t:DT) (q:Rq) (b:List UInt8):um × DT :=
 match t.ac with
 | none =>
  if q.kd=0 then (jD 0,zaN boots r t.ct [])
  else if q.kd=14 then if (qY b).1=0 then (jD 0,zaN boots r t.ct (qY b).2) else (jD (qY b).1,t)
  else (jD 3,t)
 | some d =>
  if q.kd=0∨q.kd=14 then (jD 3,t)
  else if q.kd=1 then if (zF d.s.ts).length=0 then (jD 0,⟨0,t.ct,none⟩) else (jD 4,t)
  else if q.kd=2 then if d.hs.length=6 then (jD 8,t) else (⟨0,d.ep*1048576+(d.nx+1),[],[],[]⟩,{ t with ac:=some { d with nx:=d.nx+1,hs:=aput d.hs (d.ep*1048576+(d.nx+1)) 0 } })
  else if q.kd=13 then if (zF d.s.ts).length=0 then (⟨0,0,[],[],jG (d.s.N.map (·.rw))⟩,t) else (jD 4,t)
  else if 15<=q.kd then (jD 0,{ t with ac:=some { d with s:=zkS d.s q } })
  else if qS d.hs q.hd=false then (jD 2,t)
  else ((GD r d q).1,{ t with ac:=some (GD r d q).2 })
def zcj (b:List UInt8) (rs:List zS):Prop:=zq rs=b/\(∀ x,x∈rs->x.ok)/\zaA rs/\0<rs.length
open Classical in
noncomputable def recsOf (b:List UInt8):List zS:=if h:∃ rs,zcj b rs then Classical.choose h else []
theorem zgr {b:List UInt8} (h:∃ rs,zcj b rs):zcj b (recsOf b):=by unfold recsOf;rw [dif_pos h];exact Classical.choose_spec h
noncomputable def openD (r:Nat) (s:St):St:=(ym r s.sto.J s.sto.bank (recsOf (s.sto.Q.take s.sto.av)) s.sto.dp z1 z1 z1 fun _=>z1).a1
noncomputable def crashD (boots r:Nat) (t:DT):DT:=match t.ac with
 | none=>t
 | some d=>⟨t.st,t.ct,some ⟨openD r d.s,((uP t.ct boots:Nat):Int),0,[]⟩⟩
def zdp (v:um):um:=if v.Z=0 then v else jD v.Z
noncomputable def stepD (boots:Nat) (A:Nat->DT) (q:Rq) (b:List UInt8):um × Nat × (Nat->DT) :=
 if q.kd=19 then (jD 0,boots+1,fun r=>crashD (boots+1) r (A r))
 else if 0<=q.kd/\q.kd<=17/\0<=q.tn/\q.tn<4 then
  (zdp (vw boots q.tn.toNat (A q.tn.toNat) q b).1,boots,zV A q.tn.toNat (vw boots q.tn.toNat (A q.tn.toNat) q b).2)
 else (jD 1,boots,A)
end
end Go.Proofs.YtechnoogjhohfaaGreat
