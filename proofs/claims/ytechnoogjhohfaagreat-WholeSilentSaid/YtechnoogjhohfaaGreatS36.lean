import Derived.Test.YtechnoogjhohfaaGreatS29
import Derived.Test.YtechnoogjhohfaaGreatS34
import Derived.Test.YtechnoogjhohfaaGreatS8
import Derived.Test.YtechnoogjhohfaaGreatS9
import Derived.Test.YtechnoogjhohfaaGreatS30
set_option maxRecDepth 100000
set_option maxHeartbeats 6400000
set_option linter.unusedVariables false
set_option linter.unusedSimpArgs false
namespace Go.Proofs.YtechnoogjhohfaaGreat
open Go.RowKit Go.Lib
open YtechnoogjhohfaaGreatW Go.Proofs.Tryz Go.Proofs.YtechnoogjhohfaaGreat.Tryz
def ZQ (q:Rq):Rq:=if q.kd=19 then { q with n:=0 } else q
theorem zqF (q:Rq) (n:Int):(zJ q).toArray.setIfInBounds 7 (.int .i64 n)=(zJ { q with n:=n }).toArray:=rfl
theorem zpp (q:Rq) (n:Int):(zJ q).toArray.setIfInBounds 2 (.int .i64 n)=(zJ { q with hd:=n }).toArray:=rfl
def zhT:Rq:=⟨0,0,0,0,{ data:=#[] },{ data:=#[] },{ data:=#[] },0,0,none,0,0⟩
theorem zfv {w W:World} (h:zd w W) {g o:Nat} (z:w.heap.size<=g) (v:Value):zd w (W.setCell ⟨g,o,none⟩ v) :=
 ⟨h.os,h.tape,h.output,by have:=h.size;simpa using this,fun x u=>(zt _ _ _ _ (by simp only;omega)).trans (h.block x u)⟩
theorem zmV (q:Rq) (w:World) :
  zc 14 #[.agg (zJ q).toArray] w fun e W=>e=.returned (.tuple #[.agg (zJ (ZQ q)).toArray,.bool (decide (q.kd≠18))])/\zd w W:=by
 obtain ⟨w1,E⟩:=ex ((w.alloc (.cells (zJ q).toArray 37)).alloc (.cells (zJ zhT).toArray 37));have Y:zd w w1:=by rw [E];exact B_alloc (B_alloc (zf _ _) _) _
 have D:w1.heap[w.heap.size]?=some (.cells (zJ q).toArray 37 (0,0)):=by rw [E];exact zw (zo _ _ rfl) _
 have Z:w1.heap[w.heap.size+1]?=some (.cells (zJ zhT).toArray 37 (0,0)):=by rw [E];exact zo _ _ (by simp)
 have k0:=xV (Value.int .i64 q.kd) 0 D;have a3:(w.alloc (.cells (zJ q).toArray 37)).alloc (.cells #[.int .i64 0,.int .i64 0,.int .i64 0,.int .i64 0,.string { data:=#[] },.string { data:=#[] },.string { data:=#[] },.int .i64 0,.int .u64 0,.slice none 0 0] 37)=w1:=E.symm;have kf:=zI w1 w.heap.size 7 _ _ D;have k7:=xV (Value.int .i64 q.n) 7 D;have a4:=hid a3;by_cases u:q.kd=19
 ·have q1:(q.kd == 19)=true:=by simpa using u
  have q3:(q.kd != 18)=true:=by rw [u];rfl
  have X:decide (q.kd≠18)=true:=by rw [u];rfl
  have R:ZQ q={ q with n:=0 }:=by unfold ZQ;rw [if_pos u]
  obtain ⟨w2,U⟩:=ex (w1.setCell ⟨w.heap.size,7,none⟩ (.int .i64 0));have a6:w2.heap[w.heap.size]?=some (.cells (zJ { q with n:=0 }).toArray 37 (0,0)):=by rw [U,zB _ _ 7 _ _ _ D,zqF]
  have a7:w2.heap[w.heap.size+1]?=some (.cells (zJ zhT).toArray 37 (0,0)):=by rw [U];exact (zt _ _ _ _ (by simp)).trans Z
  have a5:zd w w2:=by rw [U];exact zfv Y (za _) _
  rw [R,X];have a8:=hid U.symm;obtain ⟨a1,L,a0⟩:=zi3 a6 a7 a5;clear E a3 U a6 a7 a5 Y D Z u R X;go_enter func14,ntmps14;go_upto_region 1 with fail;rw [a4.o];go_upto_region 3 with fail;rw [a8.o];clear k0 k7 kf;refine sV [] 6 (fun w'=>w'.heap[w.heap.size]?=some (.cells (zJ { q with n:=0 }).toArray 37 (0,0))) a1.o fun z=>?_;refine kV 0 rfl (qR 37 (.tmp 1) rfl (by rfl) w.heap.size (by rfl) 37 (zJ { q with n:=0 }).toArray (0,0) _ (fun _ h=>h) underlying37 rfl (by kernel_rfl)) ?_;refine pV 1 ?_;refine cV 2 (fun _ h=>xV (Value.int .i64 q.kd) 0 h) ?_;refine pV 3 ?_;refine oV 4 fun K O=>?_;refine vV 37 (.tmp 2) (.tmp 8) rfl (w.heap.size+1) 0 37 _ (zJ { q with n:=0 }).toArray (by rfl) (by rfl) (show w2.drew.heap[_]?=_ from L.o) (by simp [zJ]) (by kernel_rfl) (by simp [zJ,Value.oneCell']) ?_;refine O.out _ _ (Gn z (by omega) _) (fun z=>?_);clear O K;try simp only [pS]
  refine pV 5 ?_;refine dV ?_;clear z;go_wp2_with fail;exact yG 2 3 37 rfl rfl (w.heap.size+1) 37 (zJ { q with n:=0 }).toArray (0,0) _ _ rfl rfl (setRow_heap _ (w.heap.size+1) _ _ 37 _ L.o) underlying37 rfl (by kernel_rfl) ⟨rfl,Yg a0.o.drew (Nat.le_succ _) _⟩
 ·have q1:(q.kd == 19)=false:=by simpa using u
  obtain ⟨o,q3⟩:∃ o,(q.kd != 18)=o:=⟨_,rfl⟩;have X:decide (q.kd≠18)=o:=by rw [<- q3];by_cases h:q.kd=18<;>simp [h]
  have R:ZQ q=q:=by unfold ZQ;rw [if_neg u]
  rw [R,X];obtain ⟨a1,L,a0⟩:=zi3 D Z Y;clear E a3 Y D Z u R X k7 kf;go_enter func14,ntmps14;go_upto_region 1 with fail;rw [a4.o];go_upto_region 3 with fail;clear k0;refine sV [] 6 (fun w'=>w'.heap[w.heap.size]?=some (.cells (zJ q).toArray 37 (0,0))) a1.o fun z=>?_;refine kV 0 rfl (qR 37 (.tmp 1) rfl (by rfl) w.heap.size (by rfl) 37 (zJ q).toArray (0,0) _ (fun _ h=>h) underlying37 rfl (by kernel_rfl)) ?_;refine pV 1 ?_;refine cV 2 (fun _ h=>xV (Value.int .i64 q.kd) 0 h) ?_;refine pV 3 ?_;refine oV 4 fun K O=>?_;refine vV 37 (.tmp 2) (.tmp 8) rfl (w.heap.size+1) 0 37 _ (zJ q).toArray (by rfl) (by rfl) (show w1.drew.heap[_]?=_ from L.o) (by simp [zJ]) (by kernel_rfl) (by simp [zJ,Value.oneCell']) ?_;refine O.out _ _ (Gn z (by omega) _) (fun z=>?_);clear O K;try simp only [pS]
  refine pV 5 ?_;refine dV ?_;clear z;go_wp2_with fail;exact yG 2 3 37 rfl rfl (w.heap.size+1) 37 (zJ q).toArray (0,0) _ _ rfl rfl (setRow_heap _ (w.heap.size+1) _ _ 37 _ L.o) underlying37 rfl (by kernel_rfl) ⟨rfl,Yg a0.o.drew (Nat.le_succ _) _⟩
def Gm (l:List Int):List Value:=l.map (.int .i64 ·)
def yE (w:World) (X:Nat) (h:Nat->List Int) (G:Nat->Prop):Prop :=
 ∃ v:Nat->Value,w.heap[X]?=some (.cells #[v 0,v 1,v 2,v 3] 54 (0,0))/\(∀ i,i<4->w.ownsRow 0 3 1 (v i) (h i).length (Gm (h i)))/\(∀ i j k,i<4->j<4->i≠j->(v i).ownBlock=some k->(v j).ownBlock≠some k)/\∀ x,G x↔x=X∨∃ i,i<4/\(v i).ownBlock=some x
theorem yE.lt {w:World} {X:Nat} {R:Nat->List Int} {G:Nat->Prop} (h:yE w X R G) {x:Nat} (O:G x):x<w.heap.size:=by
 obtain ⟨v,u,z,U,D⟩:=h;rcases (D x).1 O with rfl | ⟨i,E,L⟩
 ·exact zi u
 ·exact ((z i E).lt x L).2
theorem yE.same {w W:World} {X:Nat} {D:Nat->List Int} {G:Nat->Prop} (h:yE w X D G) (hs:∀ x,G x->W.heap[x]?=w.heap[x]?):yE W X D G:=by obtain ⟨v,E,L,O,u⟩:=h;exact ⟨v,(hs X ((u X).2 (.inl rfl))).trans E,fun i z=>own_same (L i z) fun k R=>hs k ((u k).2 (.inr ⟨i,z,R⟩)),O,u⟩
theorem yE.below {w W:World} {X:Nat} {u:Nat->List Int} {G:Nat->Prop} (h:yE w X u G) (hb:zd w W):yE W X u G:=h.same fun x z=>hb.block x (h.lt z)
theorem yE.new (w:World):yE (w.alloc (.cells #[.slice none 0 0,.slice none 0 0,.slice none 0 0,.slice none 0 0] 54)) w.heap.size (fun _=>[]) (fun x=>x=w.heap.size) :=
 ⟨fun _=>.slice none 0 0,zo _ _ rfl,fun i _=>ql _ _ _ _,fun i j k _ _ _ h=>(by cases h),fun x=>⟨.inl,fun h=>by
  rcases h with h | ⟨i,_,h⟩
  ·exact h
  ·cases h⟩⟩
theorem zhj (v:Nat->Value) {j:Nat} (h:j<4):(#[v 0,v 1,v 2,v 3]:Array Value)[j]?=some (v j):=by
 obtain rfl | rfl | rfl | rfl:j=0∨j=1∨j=2∨j=3:=by omega
 all_goals rfl
theorem zlz (v:Nat->Value) {j:Nat} (h:j<4) (x:Value):(#[v 0,v 1,v 2,v 3]:Array Value).setIfInBounds j x=#[zZ v j x 0,zZ v j x 1,zZ v j x 2,zZ v j x 3]:=by
 obtain rfl | rfl | rfl | rfl:j=0∨j=1∨j=2∨j=3:=by omega
 all_goals rfl
def uN (q:Rq) (h:Int) (u:Bool):List Value:=[.int .i64 q.kd,.int .i64 q.tn,.int .i64 q.hd,.int .i64 q.rt,.string q.rk,.string q.rv,.string q.tt,.int .i64 q.n,.int .u64 q.mask,.slice q.dA q.dn q.dc,.int .i64 h,.bool u]
def Qq (x:Int):Nat:=(bits .and .i64 x 3).toNat
theorem zdp (x:Int):bits .and .i64 x 3=(Qq x:Int)/\Qq x<4:=by have:=Dk.and_mask x 2 (by omega);simp only [Nat.reducePow,Nat.add_one_sub_one] at this;unfold Qq;have h:(((3:Nat)):Int)=3:=rfl;rw [h] at this;omega
theorem zfd {z:Func} {R:Ending->World->Prop} {a:Act} {u:World} {g:Nat} {X C:Array Value} {q:Rq} (p:Tmp) (h:z.results=#[.cell p 37]) (hd:a.defers=[]) (O:a.tmps.getD p undef=.pointer (some ⟨g,0,none⟩)) (L:u.heap[g]?=some (.cells C 37 (0,0))) (E:X=(zJ q).toArray)
  (D:R (.returned (.agg (zJ q).toArray)) (u.setRow g (zJ q).toArray)):bodyPost prog z R .ret a (u.setRow g X):=by
 subst E;exact zcA p 37 h hd g 37 (zJ q).toArray (0,0) _ O (setRow_heap u g _ _ 37 _ L) underlying37 rfl (by kernel_rfl) D
def Zw (u:Nat->List Int) (q:Rq) (h:Int) (z:Bool):Rq :=
 if z=false/\u (Qq q.tn)≠[] then { q with hd:=((u (Qq q.tn))[(u (Qq q.tn)).length-1-Qq h % (u (Qq q.tn)).length]?).getD 0 } else q
theorem zpq (X:Nat) (D:Nat->List Int) (G:Nat->Prop) (q:Rq) (h:Int) (u:Bool) (w:World) (hH:yE w X D G) (hl:∀ i,i<4->(D i).length<=1000) :
  zc 15 #[.pointer (some ⟨X,0,none⟩),.agg (uN q h u).toArray] w fun e W=>e=.returned (.agg (zJ (Zw D q h u)).toArray)/\zd w W:=by
 obtain ⟨v,hX,e0,_,_⟩:=hH;obtain ⟨hj,E⟩:=zdp q.tn;obtain ⟨hm,f1⟩:=zdp h;obtain ⟨j,d6⟩:=ex (Qq q.tn);obtain ⟨m,d8⟩:=ex (Qq h);unfold Zw;rw [<- d6] at hj E ⊢;rw [<- d8] at hm f1 ⊢;have a5:=e0 j E;have f0:=hl j E;obtain ⟨A,c,hv⟩:=own_slice a5;have a1:=zhj v E;rw [hv] at a1 a5;obtain ⟨w1,L⟩:=ex ((w.alloc (.cells (uN q h u).toArray 56)).alloc (.cells (zJ zhT).toArray 37));have a9:zd w w1:=by rw [L];exact B_alloc (B_alloc (zf _ _) _) _
 have c0:w1.heap[w.heap.size]?=some (.cells (uN q h u).toArray 56 (0,0)):=by rw [L];exact zw (zo _ _ rfl) _
 have d2:w1.heap[w.heap.size+1]?=some (.cells (zJ zhT).toArray 37 (0,0)):=by rw [L];exact zo _ _ (by simp)
 have e1:(w.alloc (.cells (uN q h u).toArray 56)).alloc (.cells #[.int .i64 0,.int .i64 0,.int .i64 0,.int .i64 0,.string { data:=#[] },.string { data:=#[] },.string { data:=#[] },.int .i64 0,.int .u64 0,.slice none 0 0] 37)=w1:=L.symm;obtain ⟨z,O⟩:=ex (w1.alloc (.cells (zJ q).toArray 37));have e2:w1.heap.size=w.heap.size+2:=by rw [L];simp
 have b9:zd w z:=by rw [O];exact B_alloc a9 _
 have c2:z.heap[w1.heap.size]?=some (.cells (zJ q).toArray 37 (0,0)):=by rw [O];exact zo _ _ rfl
 have c1:z.heap[w.heap.size]?=some (.cells (uN q h u).toArray 56 (0,0)):=by rw [O];exact zw c0 _
 have d3:z.heap[w.heap.size+1]?=some (.cells (zJ zhT).toArray 37 (0,0)):=by rw [O];exact zw d2 _
 have c3:=zg hX b9 (zi hX);have d9:w1.rangeAt w.heap.size 0 (zJ q):=fun i f8 hi=>by
  have e9:i<10:=(zr.1 hi).1;refine (ze w1 w.heap.size _ _ _ _ c0).trans ?_;rw [qy,List.getElem?_toArray];have:(uN q h u)[i]?=(zJ q)[i]?:=by have e:uN q h u=zJ q++[.int .i64 h,.bool u]:=rfl;rw [e,vZ (by exact e9)]
  rw [this];exact hi
 have kT:=xV (Value.int .i64 q.tn) 1 c2;have kX:=(ze z X j _ _ _ c3).trans a1;have kR:=xV (Value.bool u) 11 c1;have r0:(0:Int)<=(j:Int):=by omega
 have r4:(j:Int)<4:=by omega
 have a7:=hid e1;have a8:=hid O.symm;obtain ⟨a6,a0,R,e5,Z,f5,e7,c6,c8⟩:=zi9 d9 c2 d3 c1 b9 c3 a1 a5 e2;obtain ⟨f4,f2⟩:=zi2 E a9;clear L e1 O d9 c2 d3 c1 b9 a9 c3 c0 d2 hX e0 a1 a5 e2 hv d6 d8 E;obtain ⟨n,hn⟩:=ex ((D j).length);rw [<- hn] at c6 e7 kX f0;have HN:=hid hn;clear hn;have key:∀ b:Bool,(u=true∨b=true)->(decide ((0:Int)<(n:Int))=!b)->zc 15 #[.pointer (some ⟨X,0,none⟩),.agg (uN q h u).toArray] w fun e W=>e=.returned (.agg (zJ q).toArray)/\zd w W:=by
  intro b hb Y;cases u with
  | true =>go_enter func15,ntmps15;go_upto_region 1 with fail;rw [a7.o];go_upto_region 2 with (first|((with_reducible refine gV 9 ?_);refine mV (zJ q) a6.o ?_)|((with_reducible refine hV 5 ?_);refine nV (zJ q).toArray (zaO q) ?_));rw [a8.o];go_wp2_with (first|((with_reducible refine gV 44 ?_);refine rV a0.o ?_)|((with_reducible refine hV 4 ?_);refine wV 0 (zJ q).toArray R.o ?_));exact zfd (q:=q) 4 rfl rfl rfl R.o rfl ⟨rfl,Yg Z.o (Nat.le_succ _) _⟩
  | false =>
   obtain rfl:b=true:=by rcases hb with h | h;cases h;exact h
   replace Y:decide ((0:Int)<(n:Int))=false:=Y;have a4:n=0:=by simp at Y;omega
   subst a4;clear Y;go_enter func15,ntmps15;go_upto_region 1 with fail;rw [a7.o];go_upto_region 2 with (first|((with_reducible refine gV 9 ?_);refine mV (zJ q) a6.o ?_)|((with_reducible refine hV 5 ?_);refine nV (zJ q).toArray (zaO q) ?_));rw [a8.o];go_wp2_with (first|((with_reducible refine gV 44 ?_);refine rV a0.o ?_)|((with_reducible refine hV 4 ?_);refine wV 0 (zJ q).toArray R.o ?_));exact zfd (q:=q) 4 rfl rfl rfl R.o rfl ⟨rfl,Yg Z.o (Nat.le_succ _) _⟩
 by_cases U:u=true∨D j=[]
 ·rw [if_neg (fun h9=>by rcases U with e | e;exact absurd (h9.1.symm.trans e) (by decide);exact h9.2 e)];refine key (decide (D j=[])) (U.imp id fun e=>by simpa using e) ?_;rw [HN.o];cases D j with
  | nil=>rfl
  | cons a l=>simp
 clear key;obtain ⟨hr,c5⟩:u=false/\D j≠[]:=⟨by cases u;rfl;exact absurd (.inl rfl) U,fun e=>U (.inr e)⟩;subst hr;rw [if_pos ⟨rfl,c5⟩];clear U;have a4:0<n:=by rw [HN.o];exact List.length_pos_iff.2 c5
 rw [<- HN.o];have Y:decide ((0:Int)<(n:Int))=true:=by simp;omega
 obtain ⟨k,hk⟩:=ex (n-1-m % n);rw [<- hk];have d7:k<(D j).length:=by have:=HN.o;have:=Nat.mod_lt m a4;omega
 obtain ⟨hd,a3⟩:∃ hd,(D j)[k]?=some hd:=⟨_,zX d7⟩;obtain ⟨g,hA,hg,f6,c4⟩:=zlY c6.o (k:=k) (v:=.int .i64 hd) (by unfold Gm;rw [List.getElem?_map,a3];rfl);subst hA;rw [a3,Option.getD_some];have d5:=qU c4 Z.o (ZR c4);have f7:=Nat.mod_lt m a4;have t1:IntKind.i64.wrap ((n:Int)-1)=(n:Int)-1:=by rw [zu];omega
 have t2:(m:Int).tmod (n:Int)=((m % n:Nat):Int):=rfl;have t3:IntKind.i64.wrap ((n:Int)-1-(m:Int) % (n:Int))=(k:Int):=by rw [zu];omega
 have t4:(n=0)=False:=by simp;omega
 have t5:(0:Int)<=(k:Int):=by omega
 have t6:(k:Int)<(n:Int):=by omega
 obtain ⟨f3,e4⟩:=zi2 a3 d5;clear a3 c4 d5 c5 hg hk d7;go_enter func15,ntmps15;go_upto_region 1 with fail;rw [a7.o];go_upto_region 2 with (first|((with_reducible refine gV 9 ?_);refine mV (zJ q) a6.o ?_)|((with_reducible refine hV 5 ?_);refine nV (zJ q).toArray (zaO q) ?_));rw [a8.o];go_upto_region 5 with fail;have hS:z.cell? ⟨X,j,none⟩=some (.slice (some ⟨g,0,none⟩) n c)/\z.cell? ⟨w.heap.size,10,none⟩=some (.int .i64 h)/\z.cell? ⟨g,k,none⟩=some (.int .i64 hd):=⟨kX,(ze z w.heap.size 10 _ _ _ e5.o).trans rfl,e4.o⟩;clear kT kX kR;refine sV [17] 18 (fun w'=>zH w' X j (.slice (some ⟨g,0,none⟩) n c)/\zH w' w.heap.size 10 (.int .i64 h)/\zH w' g k (.int .i64 hd)) hS fun e8=>?_;refine pV 0 ?_;refine pV 1 ?_;refine pV 2 ?_;refine pV 3 ?_;refine pV 4 ?_;refine cV 5 (fun _ h=>h.1) ?_;refine pV 6 ?_;refine pV 7 ?_;refine pV 8 ?_;refine cV 9 (fun _ h=>h.2.1) ?_;refine pV 10 ?_;refine pV 11 ?_;refine pV 12 ?_;refine pV 13 ?_;refine pV 14 ?_;refine cV 15 (fun _ h=>h.2.2) ?_;refine pV 16 ?_;refine lV 17 fun K hK=>?_;refine jz 3 (.tmp 43) (.tmp 42) rfl w1.heap.size 2 _ 37 (.int .i64 hd) (by rfl) (by rfl) (by kernel_rfl) (show z.drew.heap[_]?=_ from a0.o) (by simp [zJ]) rfl ?_;refine hK.out _ _ ?_;clear hK K;try simp only [pS]
 refine dV ?_;have d1:(z.drew.setCell ⟨w1.heap.size,2,none⟩ (.int .i64 hd)).heap[w1.heap.size]?=some (.cells (zJ { q with hd:=hd }).toArray 37 (0,0)):=by rw [zB _ _ 2 _ _ _ (show z.drew.heap[_]?=_ from a0.o),zpp]
 have d4:(z.drew.setCell ⟨w1.heap.size,2,none⟩ (.int .i64 hd)).heap[w.heap.size+1]?=some (.cells (zJ zhT).toArray 37 (0,0)):=(zt _ _ _ _ (by have:=c8.o;simp only;omega)).trans R.o;have d0:zd w (z.drew.setCell ⟨w1.heap.size,2,none⟩ (.int .i64 hd)):=zfv Z.o.drew (by have:=c8.o;omega) _;obtain ⟨e6,c7,e3⟩:=zi3 d1 d4 d0;clear d1 d4 d0 hS e8;go_wp2_with (first|((with_reducible refine gV 44 ?_);refine rV e6.o ?_)|((with_reducible refine hV 4 ?_);refine wV 0 (zJ { q with hd:=hd }).toArray c7.o ?_));exact zfd (q:={ q with hd:=hd }) 4 rfl rfl rfl c7.o rfl ⟨rfl,Yg e3.o (Nat.le_succ _) _⟩
def ZD (h:Nat->List Int) (kd tn u hd:Int):Nat->List Int:=if kd=2/\u=0/\0<=tn/\tn<4 then zZ h tn.toNat (h tn.toNat++[hd]) else h
theorem zjO (l:List Int) (x:Int):Gm (l++[x])=Gm l++[.int .i64 x]:=by simp [Gm]
theorem zjP {w w7 E:World} {X j m:Nat} {O:Nat->List Int} {G:Nat->Prop} {v:Nat->Value} {x:Int} {v8:Value} (hj:j<4) (hX:w.heap[X]?=some (.cells #[v 0,v 1,v 2,v 3] 54 (0,0))) (a5:∀ i,i<4->w.ownsRow 0 3 1 (v i) (O i).length (Gm (O i))) (a0:∀ i j k,i<4->j<4->i≠j->(v i).ownBlock=some k->(v j).ownBlock≠some k) (R:∀ x,G x↔x=X∨∃ i,i<4/\(v i).ownBlock=some x)
  (L:zd w w7) (U:w7.grownBy E (v j).ownBlock) (ho:v8.ownBlock=(v j).ownBlock∨v8.ownBlock=some m) (hm:w.heap.size<=m) (h8:E.ownsRow 0 3 1 v8 ((O j).length+1) (Gm (O j)++[.int .i64 x])) :
  ∃ G',yE (E.setCell ⟨X,j,none⟩ v8) X (zZ O j (O j++[x])) G'/\zA G w (E.setCell ⟨X,j,none⟩ v8)/\∀ y,G' y->G y∨w.heap.size<=y:=by
 have Y:∀ i,i<4->∀ k,(v i).ownBlock=some k->k<w.heap.size/\k≠X:=fun i z k u=>by have h1:=(a5 i z).lt k u;refine ⟨h1.2,fun e=>?_⟩;subst e;exact own_ne (a5 i z) hX (by decide) u
 have a4:∀ k,k<w.heap.size->some k≠(v j).ownBlock->E.heap[k]?=w.heap[k]?:=fun k u hn=>(U.block k (qg u L.size) hn).trans (L.block k u);have a7:=(a4 X (zi hX) (fun e=>(Y j hj X e.symm).2 rfl)).trans hX;have a6:∀ k,k≠X->(E.setCell ⟨X,j,none⟩ v8).heap[k]?=E.heap[k]?:=fun k u=>zt _ _ _ _ u;have a8:∀ k,v8.ownBlock=some k->k≠X:=fun k u e=>by subst e;exact own_ne h8 a7 (by decide) u
 refine ⟨fun y=>y=X∨∃ i,i<4/\(zZ v j v8 i).ownBlock=some y,⟨zZ v j v8,?_,fun i z=>?_,fun i i' k z a1 a3 u D=>?_,fun _=>Iff.rfl⟩,⟨U.os.trans L.os,U.tape.trans L.tape,U.output.trans L.output,by have:=U.size;have:=L.size;simp;omega,fun k u hn=>?_⟩,fun y hy=>?_⟩
 ·rw [zB _ _ j _ _ _ a7,zlz v hj]
 ·by_cases e:i=j
  ·subst e;rw [zk,zk,zjO,zl];exact own_same h8 fun k u=>a6 k (a8 k u)
  ·rw [zy _ _ e,zy _ _ e];exact own_same (a5 i z) fun k u=>(a6 k (Y i z k u).2).trans (a4 k (Y i z k u).1 (fun Z=>a0 i j k z hj e u Z.symm))
 ·by_cases e:i=j
  ·subst e;rw [zk] at u;rw [zy _ _ (Ne.symm a3)] at D;rcases ho with h | h
   ·rw [h] at u;exact a0 _ _ k z a1 a3 u D
   ·rw [h] at u;injection u with u;have:=(Y i' a1 k D).1;omega
  ·rw [zy _ _ e] at u;by_cases Z:i'=j
   ·subst Z;rw [zk] at D;rcases ho with h | h
    ·rw [h] at D;exact a0 _ _ k z a1 a3 u D
    ·rw [h] at D;injection D with D;have:=(Y i z k u).1;omega
   ·rw [zy _ _ Z] at D;exact a0 _ _ k z a1 a3 u D
 ·have h1:k≠X:=fun e=>hn ((R k).2 (.inl e));exact (a6 k h1).trans (a4 k u (fun e=>hn ((R k).2 (.inr ⟨j,hj,e.symm⟩))))
 ·rcases hy with rfl | ⟨i,z,u⟩
  ·exact .inl ((R _).2 (.inl rfl))
  ·by_cases e:i=j
   ·subst e;rw [zk] at u;rcases ho with h | h
    ·rw [h] at u;exact .inl ((R y).2 (.inr ⟨i,z,u⟩))
    ·rw [h] at u;injection u with u;exact .inr (by omega)
   ·rw [zy _ _ e] at u;exact .inl ((R y).2 (.inr ⟨i,z,u⟩))
theorem znD (X:Nat) (u:Nat->List Int) (G:Nat->Prop) (q:Rq) (an:An) (w:World) (hH:yE w X u G) (hl:∀ i,i<4->(u i).length<=1000) :
  zc 16 #[.pointer (some ⟨X,0,none⟩),.agg (zJ q).toArray,.agg (zV an).toArray] w fun e W=>e=.returned (.tuple #[])/\∃ G',yE W X (ZD u q.kd q.tn an.Z an.hd) G'/\zA G w W/\∀ x,G' x->G x∨w.heap.size<=x:=by
 obtain ⟨w1,a6⟩:=ex ((w.alloc (.cells (zJ q).toArray 37)).alloc (.cells (zV an).toArray 31));have c5:zd w w1:=by rw [a6];exact B_alloc (B_alloc (zf _ _) _) _
 have hQ:w1.heap[w.heap.size]?=some (.cells (zJ q).toArray 37 (0,0)):=by rw [a6];exact zw (zo _ _ rfl) _
 have hA:w1.heap[w.heap.size+1]?=some (.cells (zV an).toArray 31 (0,0)):=by rw [a6];exact zo _ _ (by simp)
 have k0:=xV (Value.int .i64 q.kd) 0 hQ;have k1:=xV (Value.int .i64 q.tn) 1 hQ;have k2:=xV (Value.int .i64 an.Z) 0 hA;have d2:∀ W,zd w W->(ZD u q.kd q.tn an.Z an.hd)=u->∃ G',yE W X (ZD u q.kd q.tn an.Z an.hd) G'/\zA G w W/\∀ x,G' x->G x∨w.heap.size<=x:=fun W hW e=>by rw [e];exact ⟨G,hH.below hW,zA.ak hW,fun x hx=>.inl hx⟩
 have a4:=hid a6.symm;obtain ⟨HQ,HA,R,a3⟩:=zi4 hQ hA c5 d2;clear a6 hQ hA c5 d2;by_cases D:¬ (q.kd=2)
 ·have q1:(q.kd == 2)=false:=by simpa using D
  have z:ZD u q.kd q.tn an.Z an.hd=u:=by unfold ZD;rw [if_neg (fun h=>D h.1)]
  have O:=hid z;clear z D;go_enter func16,ntmps16;go_upto_region 1 with fail;rw [a4.o];go_wp2_with fail;go_end0;exact ⟨rfl,a3.o _ R.o O.o⟩
 replace D:=Classical.not_not.1 D;have q1:(q.kd == 2)=true:=by simpa using D
 by_cases E:¬ (an.Z=0)
 ·have q2:(an.Z == 0)=false:=by simpa using E
  have z:ZD u q.kd q.tn an.Z an.hd=u:=by unfold ZD;rw [if_neg (fun h=>E h.2.1)]
  have O:=hid z;clear z D E;go_enter func16,ntmps16;go_upto_region 1 with fail;rw [a4.o];go_wp2_with fail;go_end0;exact ⟨rfl,a3.o _ R.o O.o⟩
 replace E:=Classical.not_not.1 E;have q2:(an.Z == 0)=true:=by simpa using E
 by_cases Y:¬ (0<=q.tn)
 ·have q3:decide ((0:Int)<=q.tn)=false:=by simp;omega
  have z:ZD u q.kd q.tn an.Z an.hd=u:=by unfold ZD;rw [if_neg (fun h=>Y h.2.2.1)]
  have O:=hid z;clear z D E Y;go_enter func16,ntmps16;go_upto_region 1 with fail;rw [a4.o];go_wp2_with fail;go_end0;exact ⟨rfl,a3.o _ R.o O.o⟩
 replace Y:=Classical.not_not.1 Y;have q3:decide ((0:Int)<=q.tn)=true:=by simp;omega
 by_cases Z:¬ (q.tn<4)
 ·have q4:decide (q.tn<4)=false:=by simp;omega
  have z:ZD u q.kd q.tn an.Z an.hd=u:=by unfold ZD;rw [if_neg (fun h=>Z h.2.2.2)]
  have O:=hid z;clear z D E Y Z;go_enter func16,ntmps16;go_upto_region 1 with fail;rw [a4.o];go_wp2_with fail;go_end0;exact ⟨rfl,a3.o _ R.o O.o⟩
 replace Z:=Classical.not_not.1 Z;have q4:decide (q.tn<4)=true:=by simp;omega
 obtain ⟨j,hj⟩:∃ j:Nat,q.tn=j:=⟨q.tn.toNat,by omega⟩;have a7:j<4:=by omega
 have z:ZD u q.kd q.tn an.Z an.hd=zZ u j (u j++[an.hd]):=by unfold ZD;rw [if_pos ⟨D,E,Y,Z⟩,hj];rfl
 have O:=hid z;rw [hj] at k1 q3 q4;have HJ:=hid hj;clear z D E Y Z hj a3;obtain ⟨v,hX,c2,c7,hG⟩:=hH;have a0:=c2 j a7;have d8:=hl j a7;obtain ⟨A,c,hv⟩:=own_slice a0;have c6:=zg hX R.o (zi hX);have a9:=own_same a0 fun k hk=>R.o.block k (a0.lt k hk).2;have a8:=own_ne a0 hX (by decide);have r0:(0:Int)<=(j:Int):=by omega
 have r4:(j:Int)<4:=by omega
 have c3:(#[v 0,v 1,v 2,v 3]:Array Value)[j]?=some (.slice A (u j).length c):=(zhj v a7).trans (by rw [hv]);rw [hv] at a9 a8;have e2:w.heap.size<w1.heap.size:=zi HQ.o;have e1:w.heap.size+1<w1.heap.size:=zi HA.o;obtain ⟨n,c0⟩:=ex ((u j).length);rw [<- c0] at a9 d8 c3 a8;obtain ⟨d6,d3,d5,HV,HX,c4,e0,a1,d9⟩:=zi9 c2 c7 hG hv hX c6 a0 a9 a8;obtain ⟨d7,b9⟩:=zi2 c3 c0;clear c2 c7 hG hv hX c6 a0 a9 a8 c3 c0;go_enter func16,ntmps16;go_upto_region 1 with fail;rw [a4.o];go_upto_region 2 with fail;clear k0 k1 k2;refine sV [17] 18 (fun w'=>w'.heap[w.heap.size]?=some (.cells (zJ q).toArray 37 (0,0))/\w'.heap[w.heap.size+1]?=some (.cells (zV an).toArray 31 (0,0))/\jJ w' X #[v 0,v 1,v 2,v 3] 54) ⟨HQ.o,HA.o,c4.o⟩ fun L=>?_;refine pV 0 ?_;refine pV 1 ?_;refine cV 2 (fun _ h=>xV _ 1 h.1 (show _=some (Value.int .i64 j) from congrArg (fun x:Int=>some (Value.int .i64 x)) HJ.o)) ?_;refine pV 3 ?_;refine pV 4 ?_;refine cV 5 (fun _ h=>xV _ 1 h.1 (show _=some (Value.int .i64 j) from congrArg (fun x:Int=>some (Value.int .i64 x)) HJ.o)) ?_;refine pV 6 ?_;refine pV 7 ?_;refine pV 8 ?_;refine cV 9 (fun _ h=>(ze _ X j _ _ _ h.2.2).trans d7.o) ?_;refine pV 10 ?_;refine cV 11 (fun _ h=>xV (Value.int .i64 an.hd) 1 h.2.1) ?_;refine pV 14 ?_;refine pV 15 ?_;refine oV 12 fun K U=>?_;refine yv 51 3 1 8 (.tmp 35) rfl (.int .i64 an.hd) (by rfl) underlying51 zct (by rfl) (by omega) (by omega) ?_;refine U.out _ _ ⟨zw L.1 _,zw L.2.1 _,zw L.2.2 _⟩ (fun L=>?_);clear U K;try simp only [pS]
 refine oV 13 fun K U=>?_;refine Qd (.tmp 33) (.tmp 36) 51 3 1 8 rfl underlying51 zct (by omega) (.slice A n c) n (Gm (u j)) 0 (by rfl) (own_same a1.o fun q hq=>qb w1.drew _ q (a1.o.lt q hq).2) _ 1 1 [.int .i64 an.hd] _ (by rfl) (zL.bk (zo _ _ rfl) rfl) (by intro e3 hu;simp at hu;subst hu;rfl) (by omega) (by omega) (zT _) ?_;intro v8 w8 c1 a5 d1;refine U.out _ _ ⟨qq L.1 a5 (own_ne a1.o HQ.o (by decide)),qq L.2.1 a5 (own_ne a1.o HA.o (by decide)),qq L.2.2 a5 (own_ne a1.o c4.o (by decide))⟩ (fun L=>?_);clear U K;try simp only [pS]
 refine pV 16 ?_;refine lV 17 fun K U=>?_;obtain ⟨A8,c8,rfl⟩:=own_slice c1;refine jz 51 (.tmp 40) (.tmp 37) rfl X j _ 54 (.slice A8 (n+1) c8) (by rfl) (by rfl) (by kernel_rfl) L.2.2 (by simp;omega) rfl ?_;refine U.out _ _ ?_;clear U K;try simp only [pS]
 refine dV ?_;have hz:=(B_alloc R.o.drew (.cells #[.int .i64 an.hd] 3)).size;have d0:=zjP (x:=an.hd) (m:=(w1.drew.alloc (.cells #[.int .i64 an.hd] 3)).heap.size) (v8:=.slice A8 (n+1) c8) a7 HX.o d6.o d3.o d5.o (w7:=w1.drew.alloc (.cells #[.int .i64 an.hd] 3)) (B_alloc R.o.drew _) (by rw [HV.o,<- b9.o];exact a5) (by rw [HV.o,<- b9.o];exact d1) hz (by rw [<- b9.o];exact c1);have d4:=hid d0;clear d0 c1 a5 d1 L;go_end0;rw [O.o];exact ⟨rfl,d4.o⟩
structure GU (w:World) (g o:Nat) (q:Rq) (h:Int) (raw:Bool) (b:List UInt8):Prop where
 row:w.rangeAt g o (uN q h raw)
 hd:iok q.hd
 n:iok q.n
 data:zj w (.slice q.dA q.dn q.dc) b
 sz:q.rk.size<140737488355328/\q.rv.size<140737488355328/\q.tt.size<140737488355328/\b.length<140737488355328
structure zdE where
 q:Nat->Rq
 h:Nat->Int
 ih:Nat->Bool
 b:Nat->List UInt8
def Kx (w:World) (A:Option Addr) (n:Nat) (d:zdE):Prop:=n=0∨∃ g off,A=some ⟨g,off,none⟩/\g<w.heap.size/\∀ i,i<n->GU w g (off+i*12) (d.q i) (d.h i) (d.ih i) (d.b i)
theorem GU.below {w W:World} {g o:Nat} {q:Rq} {h:Int} {u:Bool} {b:List UInt8} (hd:GU w g o q h u b) (z:g<w.heap.size) (hb:zd w W):GU W g o q h u b :=
 ⟨fun j v D=>(yt (w:=w) (hb.block g z)).trans (hd.row j v D),hd.hd,hd.n,hd.data.below hb,hd.sz⟩
theorem zj.dn {w:World} {A:Option Addr} {n c:Nat} {b:List UInt8} (h:zj w (.slice A n c) b):n=b.length/\n<=maxLen:=by obtain ⟨L,O,e,_,D,E⟩:=h;injection e with _ u z;subst u z;exact ⟨rfl,zz D E⟩
theorem zfD (q:Rq) (h:Int) (u:Bool):(uN q h u).toArray.all (·.oneCell')=true:=by simp [uN,Value.oneCell']
def zkW (n:Nat) (d:zdE) (w:World) (e:Ending) (W:World):Prop:=∃ b,e=.returned (.bool b)/\zd w W/\(b=true->n<=150/\∀ i,i<n->(d.b i).length<=2000)
theorem zlQ (A:Option Addr) (n c:Nat) (d:zdE) (w:World) (h:Kx w A n d) :
  zc 11 #[.slice A n c] w (zkW n d w):=by
 by_cases c0:150<n
 ·have d1:decide ((150:Int)<(n:Int))=true:=by simp;omega
  go_enter func11,ntmps11;go_wp2_with fail;go_ret;exact ⟨false,rfl,zf _ _,fun h=>(by cases h)⟩
 have d1:decide ((150:Int)<(n:Int))=false:=by simp;omega
 go_enter func11,ntmps11;go_upto_region 3 with fail;clear d1;go_upto_region 4 with fail;go_loopw [10] (fun u wr=>∃ i:Nat,i<=n/\u=.int .i64 i/\zd w wr/\∀ k,k<i->(d.b k).length<=2000) (fun u _=>((n:Int)-jF u).toNat)
 case atStart=>exact ⟨0,zT _,rfl,zf _ _,fun k z=>absurd z (Nat.not_lt_zero k)⟩
 case round =>
  obtain ⟨i,hi,rfl,hb,z⟩:=hrel;by_cases a9:i<n
  ·rcases h with rfl | ⟨g,off,rfl,hg,a5⟩
   ·omega
   have hd:=(a5 i a9).below hg hb;have q1:(i:Int)<(n:Int):=by omega
   have q0:(0:Int)<=(i:Int):=by omega
   obtain ⟨z1,z2,z3,z4⟩:=hd.sz;have a1:=hd.data.dn;obtain ⟨q,Z⟩:=ex (d.q i);obtain ⟨L,a3⟩:=ex (d.h i);obtain ⟨O,a4⟩:=ex (d.ih i);rw [<- Z,<- a3,<- a4] at hd;rw [<- Z] at z1 z2 z3 a1;obtain ⟨w1,U⟩:=ex (wr.alloc (.cells (uN q L O).toArray 56));have D:w1.heap[wr.heap.size]?=some (.cells (uN q L O).toArray 56 (0,0)):=by rw [U];exact zo _ _ rfl
   have a0:zd w w1:=by rw [U];exact B_alloc hb _
   obtain ⟨b9,Y⟩:=ex wr.heap.size;have y4:=xV (Value.string q.rk) 4 D;have y5:=xV (Value.string q.rv) 5 D;have y6:=xV (Value.string q.tt) 6 D;have y9:=xV (Value.slice q.dA q.dn q.dc) 9 D;rw [<- Y] at y4 y5 y6 y9;have s1:IntKind.i64.wrap ((q.rk.size:Int)+(q.rv.size:Int))=(q.rk.size:Int)+(q.rv.size:Int):=by rw [zu];omega
   have s2:IntKind.i64.wrap ((q.rk.size:Int)+(q.rv.size:Int)+(q.tt.size:Int))=(q.rk.size:Int)+(q.rv.size:Int)+(q.tt.size:Int):=by rw [zu];omega
   have s3:IntKind.i64.wrap ((q.rk.size:Int)+(q.rv.size:Int)+(q.tt.size:Int)+(q.dn:Int))=(q.rk.size:Int)+(q.rv.size:Int)+(q.tt.size:Int)+(q.dn:Int):=by rw [zu];omega
   have hlen:¬ (2000:Int)<(q.rk.size:Int)+(q.rv.size:Int)+(q.tt.size:Int)+(q.dn:Int)->(d.b i).length<=2000:=fun h9=>by omega
   have a7:=hid hd.row;obtain ⟨X,R⟩:=zi2 z a0;have a8:=hid U.symm;obtain ⟨HX,HL⟩:=zi2 Y hlen;clear a5 hd z hb z1 z2 z3 z4 a1 Z a3 a4 U D a0 Y hlen;go_upto_region 6 with (first|((with_reducible refine gV 13 ?_);refine mV (uN q L O) a7.o ?_)|((with_reducible refine hV 4 ?_);refine nV (uN q L O).toArray (zfD q L O) ?_));rw [a8.o,<- HX.o];by_cases E:(2000:Int)<(q.rk.size:Int)+(q.rv.size:Int)+(q.tt.size:Int)+(q.dn:Int)
   ·have t1:decide ((2000:Int)<(q.rk.size:Int)+(q.rv.size:Int)+(q.tt.size:Int)+(q.dn:Int))=true:=by simpa using E
    clear E;go_wp2_with fail;go_ret;exact ⟨false,rfl,R.o,fun h=>(by cases h)⟩
   ·have t1:decide ((2000:Int)<(q.rk.size:Int)+(q.rv.size:Int)+(q.tt.size:Int)+(q.dn:Int))=false:=by simpa using E
    have a6:=hid (HL.o E);clear E;have x2:IntKind.i64.wrap ((i:Int)+1)=(i:Int)+1:=by rw [zu];omega
    go_wp2_with fail;go_roundw
    case rel =>
     refine ⟨i+1,by omega,by simp,R.o,fun k z=>?_⟩;by_cases e:k=i
     ·subst e;exact a6.o
     ·exact X.o k (by omega)
    case measure=>simp [jF];omega
  ·have q1:decide ((i:Int)<(n:Int))=false:=by simp;omega
   obtain ⟨R,X⟩:=zi2 hb z;clear hb z;go_wp2_with fail;go_ret;exact ⟨true,rfl,R.o,fun _=>⟨by omega,fun k c1=>X.o k (by omega)⟩⟩
structure zpP (W:World) (a:An) (v:ui):Prop where
 Z:a.Z=v.Z
 hd:a.hd=v.hd
 vl:a.vl=zb v.vl
 a7:W.ownsRow 0 34 3 (.slice a.rA a.rn a.rc) v.a7.length (jn v.a7)
 data:zj W (.slice a.dA a.dn a.dc) v.data
theorem zjv {o:Oper} {a:Act} {w:World} (s d:TypeId) (x:Operand) (h:o.op=.convert s d x) (v v':Value) (z:a.eval x=v) (u:(convert s d v).run prog w=.ok v' w):(execOp a.eval o).run prog w=.ok (.value v') w:=by unfold execOp;simp [h,z,u]
theorem zoN:prog.eqGuardType prog.depth 34=false:=by kernel_rfl
theorem zrd (x:Rw) (W:World):(binOp .neq 34 (.agg (qB x).toArray) (.agg (qB x).toArray)).run prog W=.ok (.bool false) W:=by unfold qB;go_simp
theorem zoc (a b:An) (v:ui) (w:World) (ha:zpP w a v) (hb:zpP w b v) :
  zc 17 #[.agg (zV a).toArray,.agg (zV b).toArray] w fun e W=>e=.returned (.bool true)/\zd w W:=by
 obtain ⟨e1,e2,e3,E,e5⟩:=ha;obtain ⟨f1,f2,f3,O,f5⟩:=hb;obtain ⟨er,hd,vl,rA,n,X,dA,dn,dc⟩:=a;obtain ⟨e0,e6,e9,a8,d9,Y,a0,a3,a1⟩:=b;simp only at e1 e2 e3 E e5 f1 f2 f3 O f5;subst e1 e2 e3 f1 f2 f3;obtain ⟨m,hn⟩:=ex v.a7.length;rw [<- hn] at E O;have h1:n=m:=by obtain ⟨_,_,h⟩:=own_slice E;injection h
 have R:d9=m:=by obtain ⟨_,_,h⟩:=own_slice O;injection h
 subst h1;replace R:=R.symm;subst R;obtain ⟨B,c1⟩:=ex (zb v.data);obtain ⟨V,c2⟩:=ex (zb v.vl);obtain ⟨w1,U⟩:=ex ((w.alloc (.cells #[.int .i64 v.Z,.int .i64 v.hd,.string V,.slice rA n X,.slice dA dn dc] 31)).alloc (.cells #[.int .i64 v.Z,.int .i64 v.hd,.string V,.slice a8 n Y,.slice a0 a3 a1] 31));have Z:zd w w1:=by rw [U];exact B_alloc (B_alloc (zf _ _) _) _
 have z:w1.heap[w.heap.size]?=some (.cells #[.int .i64 v.Z,.int .i64 v.hd,.string V,.slice rA n X,.slice dA dn dc] 31 (0,0)):=by rw [U];exact zw (zo _ _ rfl) _
 have D:w1.heap[w.heap.size+1]?=some (.cells #[.int .i64 v.Z,.int .i64 v.hd,.string V,.slice a8 n Y,.slice a0 a3 a1] 31 (0,0)):=by rw [U];exact zo _ _ (by simp)
 have a6:=um (e5.below Z);have a7:=um (f5.below Z);rw [<- c1] at a6 a7;unfold zV;dsimp only;rw [<- c2];have x0:=xV (Value.int .i64 v.Z) 0 z;have x1:=xV (Value.int .i64 v.hd) 1 z;have x2:=xV (Value.string V) 2 z;have x3:=xV (Value.slice rA n X) 3 z;have x4:=xV (Value.slice dA dn dc) 4 z;have y0:=xV (Value.int .i64 v.Z) 0 D;have y1:=xV (Value.int .i64 v.hd) 1 D;have y2:=xV (Value.string V) 2 D;have y3:=xV (Value.slice a8 n Y) 3 D;have y4:=xV (Value.slice a0 a3 a1) 4 D;have c4:n<9223372036854775808:=by
  rcases E.2 with ⟨_,h⟩ | ⟨_,cap,_,_,_,_,h1,R,_⟩
  ·omega
  ·unfold maxLen at R;omega
 have E4:=hid E;have F4:=hid O;obtain ⟨b9,c0⟩:=zi2 a6 a7;have d4:=hid U.symm;obtain ⟨a9,HX,HY,HN,d2⟩:=zi5 Z z D hn c4;clear E O a6 a7 U Z z D c1 c2 e5 f5 hn c4;go_enter func17,ntmps17;go_upto_region 1 with fail;rw [d4.o];go_upto_region 3 with (first|(show wpList _ _ _ (⟨some 28,_,_,_,_,_⟩::_) _ _;refine Ye (by rfl) _ _ (zjv 29 9 (.tmp 27) rfl _ _ (by rfl) b9.o) ?_)|(show wpList _ _ _ (⟨some 31,_,_,_,_,_⟩::_) _ _;refine Ye (by rfl) _ _ (zjv 29 9 (.tmp 30) rfl _ _ (by rfl) c0.o) ?_));go_upto_region 4 with fail;obtain ⟨d5,d6⟩:=zi2 x3 y3;clear x0 x1 x2 x3 x4 y0 y1 y2 y3 y4 b9 c0;go_loopw [46] (fun u wr=>∃ i:Nat,i<=n/\u=.int .i64 i/\zd w1 wr) (fun u _=>((n:Int)-jF u).toNat)
 case atStart=>exact ⟨0,zT _,rfl,zf _ _⟩
 case round =>
  obtain ⟨i,hi,rfl,hb⟩:=hrel;have e4:=d2.o;by_cases d8:i<n
  ·have q1:(i:Int)<(n:Int):=by omega
   have q0:(0:Int)<=(i:Int):=by omega
   have x2:IntKind.i64.wrap ((i:Int)+1)=(i:Int)+1:=by rw [zu];omega
   obtain ⟨x,hx⟩:∃ x,v.a7[i]?=some x:=⟨_,zX (by rw [<- HN.o];exact d8)⟩;obtain ⟨g,hA,hg,e7,hr⟩:=YW E4.o hx;obtain ⟨L,d7,c3,e8,c7⟩:=YW F4.o hx;subst hA d7;have a5:=B_call a9.o hb;have c6:wr.drew.rangeAt g (i*3) (qB x):=fun j u hj=>(yt (w:=w) (a5.block g hg)).trans (hr j u hj);have c8:wr.drew.rangeAt L (i*3) (qB x):=fun j u hj=>(yt (w:=w) (a5.block L c3)).trans (c7 j u hj);have d0:wr.drew.cell? ⟨w.heap.size,3,none⟩=some (.slice (some ⟨g,0,none⟩) n X):=qU d5.o hb.drew (zi HX.o);have d1:wr.drew.cell? ⟨w.heap.size+1,3,none⟩=some (.slice (some ⟨L,0,none⟩) n Y):=qU d6.o hb.drew (zi HY.o);have HB:=hid hb;have c5:=zrd x;have d3:=hid c5;clear hb hr c7 hx a5 hg c3 c5;go_upto_region 6 with fail;have hS:=And.intro c6 (And.intro c8 (And.intro d0 d1));clear c6 c8 d0 d1;refine sV [] 11 (fun w'=>w'.rangeAt g (i*3) (qB x)/\w'.rangeAt L (i*3) (qB x)/\zH w' w.heap.size 3 (.slice (some ⟨g,0,none⟩) n X)/\zH w' (w.heap.size+1) 3 (.slice (some ⟨L,0,none⟩) n Y)) hS fun a4=>?_;refine pV 0 ?_;refine cV 1 (fun _ h=>h.2.2.1) ?_;refine pV 2 ?_;refine pV 3 ?_;refine kV 4 rfl (Or.inl ⟨by rfl,fun _ h=>us 34 (.tmp 52) rfl g (i*3) (by rfl) (qB x) _ h.1 underlying34 rfl (by kernel_rfl)⟩) ?_;refine pV 5 ?_;refine cV 6 (fun _ h=>h.2.2.2) ?_;refine pV 7 ?_;refine pV 8 ?_;refine kV 9 rfl (Or.inl ⟨by rfl,fun _ h=>us 34 (.tmp 57) rfl L (i*3) (by rfl) (qB x) _ h.2.1 underlying34 rfl (by kernel_rfl)⟩) ?_;refine oV 10 fun K hK=>?_;refine uL (KC .neq 34 34 (.tmp 53) (.tmp 58) rfl _ _ _ (by rfl) (by rfl) (zfk _ .neq 34 _ _ _ _ zoN) (d3.o _)) ?_;refine hK.out _ _ a4 (fun a4=>?_);clear hK K;try simp only [pS]
   refine dV ?_;clear hS a4;go_wp2_with fail;go_roundw
   case rel=>exact ⟨i+1,by omega,by simp,HB.o.drew⟩
   case measure=>simp [jF];omega
  ·have q1:decide ((i:Int)<(n:Int))=false:=by simp;omega
   have HB:=hid hb;clear hb;go_wp2_with fail;go_ret;exact ⟨rfl,B_call a9.o HB.o⟩
end Go.Proofs.YtechnoogjhohfaaGreat
