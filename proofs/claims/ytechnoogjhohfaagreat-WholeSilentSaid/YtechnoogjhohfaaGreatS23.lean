import Derived.Test.YtechnoogjhohfaaGreatS15
import Derived.Test.YtechnoogjhohfaaGreatS20
import Derived.Test.YtechnoogjhohfaaGreatS22
import Derived.Test.YtechnoogjhohfaaGreatS8
import Derived.LoopIn
import Derived.LoopNIn
import Derived.OwnWalkIn
import Derived.Sort.CutIn
import Derived.TacticsInMore
set_option maxRecDepth 100000
set_option maxHeartbeats 6400000
set_option linter.unusedVariables false
set_option linter.unusedSimpArgs false
namespace Go.Proofs.YtechnoogjhohfaaGreat
open Go.RowKit Go.Lib
open YtechnoogjhohfaaGreatW Go.Proofs.Tryz Go.Proofs.YtechnoogjhohfaaGreat.Tryz
section
structure Va where
 S:Nat
 K:Nat
 bm:Nat
 LB:Nat
 L:Nat
 B:Nat
 D:Nat
 r:Nat
structure Vb where
 FL:Nat->Prop
 F:Nat->Prop
 G:Nat->Nat->Prop
 v:Value
 T:Tb
structure St where
 sto:zn
 N:List It
 ts:qE
 lk:Lk
def ut (a:Va) (ts:qE) (v:Value):List Value:=.pointer (some ⟨a.K,0,none⟩)::(vF ts++[.pointer (some ⟨a.L,0,none⟩),.pointer (some ⟨a.B,0,none⟩),v,.int .i64 a.r])
structure zm (w:World) (a:Va) (b:Vb) (cur:Nat->Nat->List UInt8) (s:St):Prop where
 row:w.heap[a.S]?=some (.cells (ut a s.ts b.v).toArray 103 (0,0))
 sto:qQ w a.B a.D a.L a.r b.FL b.F cur s.sto
 N:qW w b.v s.N
 aq:vM w a.S s.ts b.G
 lk:qh w a.LB a.K a.bm b.T
 c8:s.lk=zp b.T
def zbV (a:Va) (b:Vb) (s:St) (x:Nat):Prop:=x=a.S∨x=a.K∨uj a.bm b.T x∨b.v.ownBlock=some x∨(∃ i,b.G i x)∨b.FL x∨vN a.B s.sto.fs x
def qd (a:Va) (b:Vb) (s:St):Nat->Prop:=zcJ (zbV a b s) b.F
theorem zao {a:Va} {b:Vb} {s:St} {x:Nat} (h:jL a.B b.FL b.F s.sto x):qd a b s x:=by
 rcases h with (h | h) | h
 ·exact .inl (.inr (.inr (.inr (.inr (.inr (.inl h))))))
 ·exact .inr h
 ·exact .inl (.inr (.inr (.inr (.inr (.inr (.inr h))))))
theorem zob (a:Va) (ts:qE) (v:Value):(ut a ts v).toArray[0]?=some (.pointer (some ⟨a.K,0,none⟩)):=by simp [ut]
theorem Gz {a:Va} {ts:qE} {v:Value} (h:ts.length=4):(ut a ts v).toArray[5]?=some (.pointer (some ⟨a.L,0,none⟩))/\(ut a ts v).toArray[6]?=some (.pointer (some ⟨a.B,0,none⟩))/\(ut a ts v).toArray[7]?=some v/\(ut a ts v).toArray[8]?=some (.int .i64 a.r):=by
 match ts,h with
 | [_,_,_,_],_=>exact ⟨rfl,rfl,rfl,rfl⟩
theorem zaQ {a:Va} {ts:qE} {v:Value} {i:Nat} (h:i<ts.length):(ut a ts v).toArray[1+i]?=(vF ts)[i]?:=by rw [List.getElem?_toArray,ut,Nat.add_comm,List.getElem?_cons_succ,vZ (by rw [zaX];exact h)]
section
variable {w w':World} {a:Va} {b:Vb} {cur cur':Nat->Nat->List UInt8} {s:St}
theorem zm.c0 (h:zm w a b cur s):w.cell? ⟨a.S,0,none⟩=some (.pointer (some ⟨a.K,0,none⟩)):=xV _ 0 h.row (zob _ _ _)
theorem zm.c5 (h:zm w a b cur s):w.cell? ⟨a.S,5,none⟩=some (.pointer (some ⟨a.L,0,none⟩)):=xV _ 5 h.row (Gz h.aq.len).1
theorem zm.c6 (h:zm w a b cur s):w.cell? ⟨a.S,6,none⟩=some (.pointer (some ⟨a.B,0,none⟩)):=xV _ 6 h.row (Gz h.aq.len).2.1
theorem zm.c7 (h:zm w a b cur s):w.cell? ⟨a.S,7,none⟩=some b.v:=xV _ 7 h.row (Gz h.aq.len).2.2.1
theorem uj.a3 (h:qh w a.LB a.K a.bm b.T) {x:Nat} (L:uj a.bm b.T x):qP w x=100001/\x<w.heap.size:=by
 rcases L with rfl | ⟨p,D,rfl⟩
 ·have z:=h.a8.lt;obtain ⟨es,E,u,_⟩:=h.a8;exact ⟨by simp [qP,u],z⟩
 ·have z:=(h.b3 p D).lt;obtain ⟨es,E,u,_⟩:=h.b3 p D;exact ⟨by simp [qP,u],z⟩
theorem vM.a3 (h:vM w a.S s.ts b.G) {i x:Nat} (u:b.G i x):qP w x∈[208,150,3]:=by
 by_cases e:∃ p,s.ts[i]?=some (some p)
 ·obtain ⟨⟨c,y⟩,e⟩:=e;exact (h.tx i c y e).1.a3 x u
 ·exact (h.gh i (fun p z=>e ⟨p,z⟩) x u).elim
theorem qQ.a3 {B D L r:Nat} {FL F:Nat->Prop} {z:zn} (h:qQ w B D L r FL F cur z) {x:Nat} (u:jL B FL F z x):qP w x∈[200,204,194,5,81,118,86,120]:=by
 rcases u with (u | u) | u
 ·have:=h.bg.a3 x u;simp at this ⊢;omega
 ·have:=h.ar.ah u;simp at this ⊢;omega
 ·have:=h.ab.a3 u;simp at this ⊢;omega
theorem qQ.lt {B D L r:Nat} {FL F:Nat->Prop} {z:zn} (h:qQ w B D L r FL F cur z) {x:Nat} (u:jL B FL F z x):x<w.heap.size:=by
 rcases u with (u | u) | u
 ·exact h.bg.lt x u
 ·exact h.ar.lt x u
 ·exact h.ab.lt u
theorem zm.ah (h:zm w a b cur s):qP w a.S=103/\qP w a.K=222/\(∀ x,uj a.bm b.T x->qP w x=100001)/\(∀ x,b.v.ownBlock=some x->qP w x=136)/\(∀ i x,b.G i x->qP w x∈[208,150,3])/\∀ x,jL a.B b.FL b.F s.sto x->qP w x∈[200,204,194,5,81,118,86,120] :=
 ⟨zh h.row,zh h.lk.U,fun _ u=>(uj.a3 h.lk u).1,fun _ u=>own_tag h.N u,fun _ _ u=>h.aq.a3 u,fun _ u=>h.sto.a3 u⟩
theorem zm.below (h:zm w a b cur s) (hb:zd w w'):zm w' a b cur s :=
 ⟨zg h.row hb (zi h.row),h.sto.below hb,own_same h.N fun q u=>hb.block q (h.N.lt q u).2,h.aq.below hb,h.lk.below hb,h.c8⟩
theorem zm.drew (h:zm w a b cur s):zm w.drew a b cur s:=h.below (zf _ _).drew
theorem zm.lt (h:zm w a b cur s) {x:Nat} (u:qd a b s x):x<w.heap.size:=by
 rcases u with (rfl | rfl | u | u | ⟨i,u⟩ | u | u) | u
 ·exact zi h.row
 ·exact zi h.lk.U
 ·exact (uj.a3 h.lk u).2
 ·exact (h.N.lt x u).2
 ·exact h.aq.lt u
 ·exact h.sto.bg.lt x u
 ·exact h.sto.ab.lt u
 ·exact h.sto.ar.lt x u
theorem qh.same {L K u:Nat} {T:Tb} (h:qh w L K u T) (R:w'.heap[K]?=w.heap[K]?) (hs:∀ x,uj u T x->w'.heap[x]?=w.heap[x]?) (U:w.heap.size<=w'.heap.size):qh w' L K u T:=by
 refine ⟨R.trans h.U,?_,fun p O=>?_,h.base,h.apart,h.dh,h.ek,zz h.size U⟩
 ·obtain ⟨es,z,D,E⟩:=h.a8;exact ⟨es,z,(hs _ (.inl rfl)).trans D,E⟩
 ·obtain ⟨es,z,D,E⟩:=h.b3 p O;exact ⟨es,z,(hs _ (.inr ⟨p,O,rfl⟩)).trans D,E⟩
theorem zm.bu (h:zm w a b cur s) {E F':Nat->Prop} {O:zn} (hs:qQ w' a.B a.D a.L a.r E F' cur' O) (z:qv w w' (jL a.B b.FL b.F s.sto) (jL a.B E F' O) cur cur' a.r) :
  zm w' a { b with FL:=E,F:=F' } cur' { s with sto:=O }/\qv w w' (qd a b s) (qd a { b with FL:=E,F:=F' } { s with sto:=O }) cur cur' a.r:=by
 obtain ⟨t1,t2,t3,t4,t5,U⟩:=h.ah;have L:∀ x,jL a.B b.FL b.F s.sto x->∀ t,qP w x=t->t∈[200,204,194,5,81,118,86,120]:=fun x u t e=>e ▸ U x u;have R:w'.heap[a.S]?=w.heap[a.S]?:=z.ac.block _ (zi h.row) (fun u=>by have:=L _ u _ t1;simp at this);have hK:w'.heap[a.K]?=w.heap[a.K]?:=z.ac.block _ (zi h.lk.U) (fun u=>by have:=L _ u _ t2;simp at this);have hT:∀ x,uj a.bm b.T x->w'.heap[x]?=w.heap[x]?:=fun x u=>z.ac.block _ (uj.a3 h.lk u).2 (fun D=>by have:=L _ D _ (t3 x u);simp at this);have hV:∀ x,b.v.ownBlock=some x->w'.heap[x]?=w.heap[x]?:=fun x u=>z.ac.block _ (h.N.lt x u).2 (fun D=>by have:=L _ D _ (t4 x u);simp at this);have Z:∀ i x,b.G i x->w'.heap[x]?=w.heap[x]?:=fun i x u=>z.ac.block _ (h.aq.lt u) (fun D=>by have X:=U x D;have Y:=t5 i x u;simp at X Y;omega);refine ⟨⟨R.trans h.row,hs,own_same h.N hV,h.aq.same R Z z.ac.size,h.lk.same hK hT z.ac.size,h.c8⟩,z.out,⟨z.ac.os,z.ac.tape,z.ac.output,z.ac.size,fun k hk hn=>z.ac.block k hk (fun u=>hn (zao u))⟩,?_⟩;intro x u;rcases u with (rfl | rfl | u | u | ⟨i,u⟩ | u | u) | u
 ·exact .inl (.inl (.inl rfl))
 ·exact .inl (.inl (.inr (.inl rfl)))
 ·exact .inl (.inl (.inr (.inr (.inl u))))
 ·exact .inl (.inl (.inr (.inr (.inr (.inl u)))))
 ·exact .inl (.inl (.inr (.inr (.inr (.inr (.inl ⟨i,u⟩))))))
 ·exact (z.new x (.inl (.inl u))).imp zao id
 ·exact (z.new x (.inr u)).imp zao id
 ·exact (z.new x (.inl (.inr u))).imp zao id
end
end
section
section
variable {w w':World} {a:Va} {b:Vb} {cur cur':Nat->Nat->List UInt8} {s:St}
theorem qQ.same {B D L r:Nat} {FL F:Nat->Prop} {z:zn} (h:qQ w B D L r FL F cur z) (hs:∀ x,jL B FL F z x->w'.heap[x]?=w.heap[x]?) (E:w.heap.size<=w'.heap.size):qQ w' B D L r FL F cur z :=
 { h with ab:=h.ab.same fun x u=>hs x (.inr u),bg:=h.bg.same (fun x u=>hs x (.inl (.inl u))) E,ar:=h.ar.same (fun x u=>hs x (.inl (.inr u))) E }
theorem zgE {ts:qE} {i T:Nat} {x x':Tx} (h:ts[i]?=some (some (T,x))):vF (ts.set i (some (T,x')))=vF ts:=by
 apply List.ext_getElem?;intro j;by_cases e:j=i
 ·subst e;obtain ⟨u,_⟩:=zr.1 h;simp only [vF,List.getElem?_map,h,qw u,qk]
 ·simp only [vF,List.getElem?_map,qY (Ne.symm e)]
theorem zm.d6 (h:zm w a b cur s) {i T:Nat} {x x':Tx} {G':Nat->Prop} (O:s.ts[i]?=some (some (T,x))) (ht:vz w' T x' G') (Z:x'.ok) (D:zA (b.G i) w w') (R:qN w (b.G i) G') :
  zm w' a { b with G:=zZ b.G i G' } cur { s with ts:=s.ts.set i (some (T,x')) }/\qv w w' (qd a b s) (qd a { b with G:=zZ b.G i G' } { s with ts:=s.ts.set i (some (T,x')) }) cur cur a.r:=by
 obtain ⟨t1,t2,t3,t4,t5,t6⟩:=h.ah;have a0:i<s.ts.length:=(zr.1 O).1;have U:∀ x,b.G i x->∀ t,qP w x=t->t∈[208,150,3]:=fun x u t e=>e ▸ t5 i x u;have hS:w'.heap[a.S]?=w.heap[a.S]?:=D.block _ (zi h.row) (fun u=>by have:=U _ u _ t1;simp at this);have hK:w'.heap[a.K]?=w.heap[a.K]?:=D.block _ (zi h.lk.U) (fun u=>by have:=U _ u _ t2;simp at this);have hT:∀ x,uj a.bm b.T x->w'.heap[x]?=w.heap[x]?:=fun x u=>D.block _ (uj.a3 h.lk u).2 (fun z=>by have:=U _ z _ (t3 x u);simp at this);have hV:∀ x,b.v.ownBlock=some x->w'.heap[x]?=w.heap[x]?:=fun x u=>D.block _ (h.N.lt x u).2 (fun z=>by have:=U _ z _ (t4 x u);simp at this);have hO:∀ x,jL a.B b.FL b.F s.sto x->w'.heap[x]?=w.heap[x]?:=fun x u=>D.block _ (h.sto.lt u) (fun z=>by have L:=t6 x u;have X:=t5 i x z;simp at L X;omega);have hG:∀ j x,j≠i->b.G j x->w'.heap[x]?=w.heap[x]?:=fun j x E u=>D.block _ (h.aq.lt u) (fun z=>h.aq.gq j i x E u z);have a1:vF (s.ts.set i (some (T,x')))=vF s.ts:=zgE O;have a4:w'.heap[a.S]?=some (.cells (ut a (s.ts.set i (some (T,x'))) b.v).toArray 103 (0,0)):=by unfold ut;rw [a1];exact hS.trans h.row
 refine ⟨⟨a4,h.sto.same hO D.size,own_same h.N hV,?_,h.lk.same hK hT D.size,h.c8⟩,vq.refl _ _,⟨D.os,D.tape,D.output,D.size,fun k a3 R=>D.block k a3 (fun u=>R (.inl (.inr (.inr (.inr (.inr (.inl ⟨i,u⟩)))))))⟩,?_⟩
 ·show vM w' a.S (s.ts.set i (some (T,x'))) (zZ b.G i G');refine ⟨by simp [h.aq.len],?_,?_,?_,?_,?_⟩
  ·rw [qY (fun e=>by subst e;rw [h.aq.zero] at O;cases O)];exact h.aq.zero
  ·obtain ⟨C,L,X⟩:=h.aq.row;exact ⟨C,hS.trans L,fun j E=>by rw [a1];exact X j E⟩
  ·intro j c y E;by_cases e:j=i
   ·subst e;rw [qw a0] at E;cases E;simp only [zk];exact ⟨ht,Z⟩
   ·rw [qY (Ne.symm e)] at E;rw [zy _ _ e];exact ⟨(h.aq.tx j c y E).1.same (fun k D=>hG j k e D) D.size,(h.aq.tx j c y E).2⟩
  ·have key:∀ j x,j≠i->b.G j x->¬ G' x:=fun j x E u Z=>by
    rcases R x Z with L | L
    ·exact h.aq.gq j i x E u L
    ·have:=h.aq.lt u;omega
   intro j k x Y u;by_cases e:j=i
   ·subst e;rw [zk] at u;rw [zy _ _ (Ne.symm Y)];exact fun z=>key k x (Ne.symm Y) z u
   ·rw [zy _ _ e] at u;by_cases e2:k=i
    ·subst e2;rw [zk];exact key j x e u
    ·rw [zy _ _ e2];exact h.aq.gq j k x Y u
  ·intro j E x;by_cases e:j=i
   ·subst e;exact (E (T,x') (qw a0)).elim
   ·rw [zy _ _ e];exact h.aq.gh j (fun p hp=>E p (by rw [qY (Ne.symm e)];exact hp)) x
 ·intro y z;rcases z with (rfl | rfl | z | z | ⟨j,z⟩ | z | z) | z
  ·exact .inl (.inl (.inl rfl))
  ·exact .inl (.inl (.inr (.inl rfl)))
  ·exact .inl (.inl (.inr (.inr (.inl z))))
  ·exact .inl (.inl (.inr (.inr (.inr (.inl z)))))
  ·by_cases e:j=i
   ·subst e;simp only [zk] at z;exact (R y z).imp (fun L=>.inl (.inr (.inr (.inr (.inr (.inl ⟨j,L⟩)))))) id
   ·simp only [zy _ _ e] at z;exact .inl (.inl (.inr (.inr (.inr (.inr (.inl ⟨j,z⟩))))))
  ·exact .inl (.inl (.inr (.inr (.inr (.inr (.inr (.inl z)))))))
  ·exact .inl (.inl (.inr (.inr (.inr (.inr (.inr (.inr z)))))))
  ·exact .inl (.inr z)
theorem zm.ez (h:zm w a b cur s) {E:Tb} {a0:Nat->Prop} (a1:qh w' a.LB a.K a.bm E) (X:jm w w' a.bm b.T E) (L:zE a0 w w') :
  zm w' a { b with T:=E } cur { s with lk:=zp E }/\qv w w' (qd a b s) (qd a { b with T:=E } { s with lk:=zp E }) cur cur a.r:=by
 obtain ⟨t1,t2,Z,t4,t5,t6⟩:=h.ah;have key:∀ x,x<w.heap.size->qP w x≠100001->w'.heap[x]?=w.heap[x]?:=fun x z O=>(X x z (fun e=>O (by rw [e];exact Z _ (.inl rfl))) (fun p D e=>O (by rw [<- e];exact Z _ (.inr ⟨p,D,rfl⟩)))).1;have Y:=key _ (zi h.row) (by rw [t1];decide);have hV:∀ x,b.v.ownBlock=some x->w'.heap[x]?=w.heap[x]?:=fun x z=>key _ (h.N.lt x z).2 (by rw [t4 x z];decide);have hO:∀ x,jL a.B b.FL b.F s.sto x->w'.heap[x]?=w.heap[x]?:=fun x z=>key _ (h.sto.lt z) (by have U:=t6 x z;simp at U;omega);have hG:∀ j x,b.G j x->w'.heap[x]?=w.heap[x]?:=fun j x z=>key _ (h.aq.lt z) (by have U:=t5 j x z;simp at U;omega);refine ⟨⟨Y.trans h.row,h.sto.same hO L.size,own_same h.N hV,h.aq.same Y hG L.size,a1,rfl⟩,vq.refl _ _,⟨L.os,L.tape,L.output,L.size,fun k a3 O=>(X k a3 (fun e=>O (.inl (.inr (.inr (.inl (.inl e)))))) (fun p D e=>O (.inl (.inr (.inr (.inl (.inr ⟨p,D,e⟩))))))).1⟩,?_⟩;intro y u;rcases u with (rfl | rfl | u | u | ⟨j,u⟩ | u | u) | u
 ·exact .inl (.inl (.inl rfl))
 ·exact .inl (.inl (.inr (.inl rfl)))
 ·by_cases a4:y<w.heap.size
  ·by_cases R:uj a.bm b.T y
   ·exact .inl (.inl (.inr (.inr (.inl R))))
   ·have h2:=(X y a4 (fun e=>R (.inl e)) (fun p D e=>R (.inr ⟨p,D,e⟩))).2;rcases u with e | ⟨p,D,e⟩
    ·exact (R (.inl e)).elim
    ·exact (h2 p D e).elim
  ·exact .inr (by omega)
 ·exact .inl (.inl (.inr (.inr (.inr (.inl u)))))
 ·exact .inl (.inl (.inr (.inr (.inr (.inr (.inl ⟨j,u⟩))))))
 ·exact .inl (.inl (.inr (.inr (.inr (.inr (.inr (.inl u)))))))
 ·exact .inl (.inl (.inr (.inr (.inr (.inr (.inr (.inr u)))))))
 ·exact .inl (.inr u)
theorem zm.e3 (h:zm w a b cur s) {R:World} {v':Value} {a0:List It} (L:w'=R/\v'=b.v∨w'=R.setCell ⟨a.S,7,none⟩ v') (E:zA (fun x=>b.v.ownBlock=some x) w R) (hv:∀ x,v'.ownBlock=some x->b.v.ownBlock=some x∨w.heap.size<=x) (X:qW R v' a0) :
  zm w' a { b with v:=v' } cur { s with N:=a0 }/\qv w w' (qd a b s) (qd a { b with v:=v' } { s with N:=a0 }) cur cur a.r:=by
 obtain ⟨Y,t2,t3,t4,t5,t6⟩:=h.ah;have a5:=zi h.row;have key:∀ x,x<w.heap.size->qP w x≠136->R.heap[x]?=w.heap[x]?:=fun x u O=>E.block _ u (fun e=>O (t4 x e));have a1:R.heap[a.S]?=some (.cells (ut a s.ts b.v).toArray 103 (0,0)):=(key _ a5 (by rw [Y];decide)).trans h.row;have Z:∀ x,x<w.heap.size->qP w x≠136->x≠a.S->w'.heap[x]?=w.heap[x]?:=fun x u O b9=>by
  rcases L with ⟨rfl,_⟩ | rfl
  ·exact key x u O
  ·exact (zt _ _ _ _ b9).trans (key x u O)
 have hz:w.heap.size<=w'.heap.size:=by
  rcases L with ⟨rfl,_⟩ | rfl
  ·exact E.size
  ·have:=E.size;simpa using this
 have a4:w'.heap[a.S]?=some (.cells (ut a s.ts v').toArray 103 (0,0)):=by
  rcases L with ⟨rfl,rfl⟩ | rfl
  ·exact a1
  ·rw [zB _ _ 7 _ _ _ a1];have h4:=h.aq.len;generalize s.ts=ts at h4
   match ts,h4 with
   | [_,_,_,_],_=>rfl
 have a6:qW w' v' a0:=by
  rcases L with ⟨rfl,_⟩ | rfl
  ·exact X
  ·exact own_set1 X (own_ne X a1 (by decide)) _ _
 have hT:∀ x,uj a.bm b.T x->w'.heap[x]?=w.heap[x]?:=fun x u=>Z _ (uj.a3 h.lk u).2 (by rw [t3 x u];decide) (fun e=>by have D:=t3 x u;rw [e,Y] at D;cases D);have hO:∀ x,jL a.B b.FL b.F s.sto x->w'.heap[x]?=w.heap[x]?:=fun x u=>Z _ (h.sto.lt u) (by have U:=t6 x u;simp at U;omega) (fun e=>by have D:=t6 x u;rw [e,Y] at D;simp at D);have hG:∀ j x,b.G j x->w'.heap[x]?=w.heap[x]?:=fun j x u=>Z _ (h.aq.lt u) (by have U:=t5 j x u;simp at U;omega) (fun e=>by have D:=t5 j x u;rw [e,Y] at D;simp at D);have hK:w'.heap[a.K]?=w.heap[a.K]?:=Z _ (zi h.lk.U) (by rw [t2];decide) (fun e=>by have D:=t2;rw [e,Y] at D;cases D);have a9:vR w' a.S s.ts:=⟨_,a4,fun i X=>zaQ (by rw [h.aq.len];exact X)⟩;refine ⟨⟨a4,h.sto.same hO hz,a6,⟨h.aq.len,h.aq.zero,a9,fun i c x u=>⟨(h.aq.tx i c x u).1.same (fun k E=>hG i k E) hz,(h.aq.tx i c x u).2⟩,h.aq.gq,h.aq.gh⟩,h.lk.same hK hT hz,h.c8⟩,vq.refl _ _,?_,?_⟩
 ·refine ⟨?_,?_,?_,hz,fun k a7 O=>?_⟩
  ·rcases L with ⟨rfl,_⟩ | rfl<;>exact E.os
  ·rcases L with ⟨rfl,_⟩ | rfl<;>exact E.tape
  ·rcases L with ⟨rfl,_⟩ | rfl<;>exact E.output
  ·have a8:k≠a.S:=fun e=>O (.inl (.inl e));have a3:=E.block k a7 (fun e=>O (.inl (.inr (.inr (.inr (.inl e))))));rcases L with ⟨rfl,_⟩ | rfl
   ·exact a3
   ·exact (zt _ _ _ _ a8).trans a3
 ·intro y z;rcases z with (rfl | rfl | z | z | ⟨j,z⟩ | z | z) | z
  ·exact .inl (.inl (.inl rfl))
  ·exact .inl (.inl (.inr (.inl rfl)))
  ·exact .inl (.inl (.inr (.inr (.inl z))))
  ·exact (hv y z).imp (fun U=>.inl (.inr (.inr (.inr (.inl U))))) id
  ·exact .inl (.inl (.inr (.inr (.inr (.inr (.inl ⟨j,z⟩))))))
  ·exact .inl (.inl (.inr (.inr (.inr (.inr (.inr (.inl z)))))))
  ·exact .inl (.inl (.inr (.inr (.inr (.inr (.inr (.inr z)))))))
  ·exact .inl (.inr z)
end
end
section
theorem zkx {a:Va} {ts:qE} {v:Value} {n:Nat} {o:Option (Nat × Tx)} (h:ts.length=4) (u:1<=n) (z:n<=3):(ut a ts v).toArray.setIfInBounds (1+n) (.pointer (o.map fun p=>⟨p.1,0,none⟩))=(ut a (ts.set n o) v).toArray:=by
 match ts,h with
 | [_,_,_,_],_ =>
  obtain rfl | rfl | rfl:n=1∨n=2∨n=3:=by omega
  ·rfl
  ·rfl
  ·rfl
section
variable {w w':World} {a:Va} {b:Vb} {cur cur':Nat->Nat->List UInt8} {s:St}
theorem zm.e1 (h:zm w a b cur s) {w1:World} {n:Nat} {o:Option (Nat × Tx)} {G':Nat->Prop} (hb:zd w w1) (h1:1<=n) (h3:n<=3) (X:∀ x,G' x->w.heap.size<=x) (u:∀ c y,o=some (c,y)->vz w1 c y G'/\y.ok) (he:o=none->∀ x,¬ G' x) :
  zm (w1.setCell ⟨a.S,1+n,none⟩ (.pointer (o.map fun p=>⟨p.1,0,none⟩))) a { b with G:=zZ b.G n G' } cur { s with ts:=s.ts.set n o } /\
   qv w (w1.setCell ⟨a.S,1+n,none⟩ (.pointer (o.map fun p=>⟨p.1,0,none⟩))) (qd a b s) (qd a { b with G:=zZ b.G n G' } { s with ts:=s.ts.set n o }) cur cur a.r:=by
 obtain ⟨O,t2,t3,t4,t5,t6⟩:=h.ah;have a5:=zi h.row;have U:=h.aq.len;have key:∀ x,x<w.heap.size->x≠a.S->(w1.setCell ⟨a.S,1+n,none⟩ (.pointer (o.map fun p=>⟨p.1,0,none⟩))).heap[x]?=w.heap[x]?:=fun x u Y=>(zt _ _ _ _ Y).trans (hb.block x u);have R:w.heap.size<=(w1.setCell ⟨a.S,1+n,none⟩ (.pointer (o.map fun p=>⟨p.1,0,none⟩))).heap.size:=by have:=hb.size;simpa using this
 have a4:(w1.setCell ⟨a.S,1+n,none⟩ (.pointer (o.map fun p=>⟨p.1,0,none⟩))).heap[a.S]?=some (.cells (ut a (s.ts.set n o) b.v).toArray 103 (0,0)):=by rw [zB _ _ (1+n) _ _ _ (zg h.row hb a5),zkx U h1 h3]
 have hT:=fun x u=>key x (uj.a3 h.lk u).2 (fun e=>by have D:=t3 x u;rw [e,O] at D;cases D);have hV:∀ x,b.v.ownBlock=some x->_:=fun x u=>key x (h.N.lt x u).2 (fun e=>by have D:=t4 x u;rw [e,O] at D;cases D);have hO:∀ x,jL a.B b.FL b.F s.sto x->_:=fun x u=>key x (h.sto.lt u) (fun e=>by have D:=t6 x u;rw [e,O] at D;simp at D);have hG:∀ j x,b.G j x->_:=fun j x u=>key x (h.aq.lt u) (fun e=>by have D:=t5 j x u;rw [e,O] at D;simp at D);have hK:=key a.K (zi h.lk.U) (fun e=>by have D:=t2;rw [e,O] at D;cases D);have a3:n<s.ts.length:=by omega
 refine ⟨⟨a4,h.sto.same hO R,own_same h.N hV,?_,h.lk.same hK hT R,h.c8⟩,vq.refl _ _,⟨hb.os,hb.tape,hb.output,R,fun k L Y=>key k L (fun e=>Y (.inl (.inl e)))⟩,?_⟩
 ·show vM _ a.S (s.ts.set n o) (zZ b.G n G');refine ⟨by simp [U],?_,⟨_,a4,fun i hi=>zaQ (by simp [U];exact hi)⟩,?_,?_,?_⟩
  ·rw [qY (by omega)];exact h.aq.zero
  ·intro j c y E;by_cases e:j=n
   ·subst e;rw [qw a3] at E;injection E with E;obtain ⟨h5,h6⟩:=u c y E;rw [zk];refine ⟨h5.same (fun k L=>zt _ _ _ _ (fun e=>?_)) (by simp),h6⟩;have e':k=a.S:=e;have:=X k L;omega
   ·rw [qY (Ne.symm e)] at E;rw [zy _ _ e];exact ⟨(h.aq.tx j c y E).1.same (fun k L=>hG j k L) R,(h.aq.tx j c y E).2⟩
  ·have a0:∀ j x,b.G j x->¬ G' x:=fun j x u z=>by have:=X x z;have:=h.aq.lt u;omega
   intro j k x a1 u;by_cases e:j=n
   ·subst e;rw [zk] at u;rw [zy _ _ (Ne.symm a1)];exact fun z=>a0 k x z u
   ·rw [zy _ _ e] at u;by_cases Z:k=n
    ·subst Z;rw [zk];exact a0 j x u
    ·rw [zy _ _ Z];exact h.aq.gq j k x a1 u
  ·intro j E x;by_cases e:j=n
   ·subst e;rw [zk];cases o with
    | none=>exact he rfl x
    | some p=>exact (E p (qw a3)).elim
   ·rw [zy _ _ e];exact h.aq.gh j (fun p hp=>E p (by rw [qY (Ne.symm e)];exact hp)) x
 ·intro y z;rcases z with (rfl | rfl | z | z | ⟨j,z⟩ | z | z) | z
  ·exact .inl (.inl (.inl rfl))
  ·exact .inl (.inl (.inr (.inl rfl)))
  ·exact .inl (.inl (.inr (.inr (.inl z))))
  ·exact .inl (.inl (.inr (.inr (.inr (.inl z)))))
  ·by_cases e:j=n
   ·subst e;simp only [zk] at z;exact .inr (X y z)
   ·simp only [zy _ _ e] at z;exact .inl (.inl (.inr (.inr (.inr (.inr (.inl ⟨j,z⟩))))))
  ·exact .inl (.inl (.inr (.inr (.inr (.inr (.inr (.inl z)))))))
  ·exact .inl (.inl (.inr (.inr (.inr (.inr (.inr (.inr z)))))))
  ·exact .inl (.inr z)
end
def uA (ts:qE):Nat:=(2+jS (zF ts))*395+1185
theorem znC (a:Va) (b:Vb) (cur:Nat->Nat->List UInt8) (s:St) (w:World) (h:zm w a b cur s) :
  zc 105 #[.pointer (some ⟨a.S,0,none⟩)] w fun e w'=>e=.returned (.int .i64 (uA s.ts))/\zd w w':=by
 have E:=hid (zij a.S s.ts b.G w h.aq);have D:=h.aq.cw (zF s.ts).length (za _);have z:=vw s.ts 0;rw [qi] at D;have hlen:(zF s.ts).length<=4:=by rw [h.aq.len] at z;exact z
 have u:uA s.ts=(2+jS (zF s.ts))*395+1185:=rfl;generalize jS (zF s.ts)=n at E D u;generalize uA s.ts=m at u ⊢;have R:IntKind.i64.wrap (2+(n:Int))=2+(n:Int):=by rw [zu];omega
 have U:IntKind.i64.wrap ((2+(n:Int))*395)=(2+(n:Int))*395:=by rw [zu];omega
 have X:IntKind.i64.wrap ((2+(n:Int))*395+1185)=(m:Int):=by rw [u,zu];omega
 clear h u z D;go_enter func105,ntmps105;go_wp2_with ((with_reducible refine aV 141 E.o ?_);rintro O w1 ⟨rfl,L⟩);go_ret;exact ⟨rfl,L⟩
end
section
attribute [local go_sem] Oper.semAt_some
def yQ (i:Nat) (c:Chg):zQ:=⟨2,i,c.pg,c.sl,c.aa,none,[],[]⟩
def vo (l:List (Nat × Nat × Tx)):List zQ:=l.flatMap fun p=>p.2.2.I.map (yQ p.1)
def qV (ts:qE):List zQ:=qF::vo (zF ts)
theorem zgO {l:List (Nat × Nat × Tx)} {k i b:Nat} {x:Tx} (h:l[k]?=some (i,b,x)):vo (l.take (k+1))=vo (l.take k)++x.I.map (yQ i):=by obtain ⟨u,z⟩:=zr.1 h;rw [yH u,z];simp [vo]
theorem Yz:∀ (l:List (Nat × Nat × Tx)),(vo l).length=jS l
 | []=>rfl
 | p::l=>by have:=Yz l;simp only [vo,jS,qC,zl,List.length_map,List.map_cons,List.sum_cons] at *;omega
theorem znB {l:List Chg} {j i:Nat} {c:Chg} (h:l[j]?=some c):(l.take (j+1)).map (yQ i)=(l.take j).map (yQ i)++[yQ i c]:=by obtain ⟨u,z⟩:=zr.1 h;rw [yH u,z];simp
theorem zeI:ue prog 144 8 104:=ue.of (by kernel_rfl)
theorem zhM (r:zQ):∀ u∈jR r,u.oneCell'=true:=by intro u h;simp only [jR,zO,qZ,or_false] at h;rcases h with rfl | rfl | rfl | rfl | rfl | rfl | rfl | rfl<;>rfl
theorem zgB (a b:List zQ):yu (a++b)=yu a++yu b:=by simp [yu]
theorem World.ei (w:World) (e s:Nat) (cs:List Value) (hs:cs.length=s) (h0:1<=maxLen:=by decide):(w.alloc (.cells cs.toArray e)).ownsRow w.heap.size e s (.slice (some ⟨w.heap.size,0,none⟩) 1 1) 1 cs:=by refine ⟨by omega,.inr ⟨w.heap.size,1,cs.toArray,rfl,za _,zo _ _ rfl,za _,h0,by simp [hs],?_⟩⟩;rw [jG (by simp;omega)]
def zn.bb (s:zn) (ts:qE):zn:={ s.a6 6 with J:=s.J+1,bank:=1-s.bank,Q:=zq (qV ts),av:=(zq (qV ts)).length }
theorem YB (s:zn):∀ k,(s.a6 k).J=s.J/\(s.a6 k).bank=s.bank/\(s.a6 k).Q=s.Q
 | 0=>⟨rfl,rfl,rfl⟩
 | k+1=>by
  rw [zn.b4];have h:=YB s k;generalize s.a6 k=t at h;unfold zn.bc;split
  ·exact h
  ·unfold zn.a0;split
   ·exact h
   ·split
    ·exact h
    ·split
     ·exact h
     ·exact h
section
variable {w w':World} {a:Va} {b:Vb} {cur cur':Nat->Nat->List UInt8} {s:St}
theorem zm.same (h:zm w a b cur s) (hs:∀ x,qd a b s x->w'.heap[x]?=w.heap[x]?) (z:w.heap.size<=w'.heap.size):zm w' a b cur s :=
 ⟨(hs _ (.inl (.inl rfl))).trans h.row,h.sto.same (fun x u=>hs x (zao u)) z,own_same h.N fun x u=>hs x (.inl (.inr (.inr (.inr (.inl u))))),
  h.aq.same (hs _ (.inl (.inl rfl))) (fun i x u=>hs x (.inl (.inr (.inr (.inr (.inr (.inl ⟨i,u⟩))))))) z,h.lk.same (hs _ (.inl (.inr (.inl rfl)))) (fun x u=>hs x (.inl (.inr (.inr (.inl u))))) z,h.c8⟩
theorem zm.eu (h:zm w a b cur s) {x:Nat} {d:Option (List Deferred)} (E:w.heap[x]?=some (.deferred d)):¬ qd a b s x:=fun u=>by
 obtain ⟨L,O,R,U,X,D⟩:=h.ah;have z:qP w x=100002:=by simp [qP,E]
 rcases u with (rfl | rfl | u | u | ⟨i,u⟩ | u | u) | u
 ·rw [L] at z;cases z
 ·rw [O] at z;cases z
 ·rw [R x u] at z;cases z
 ·rw [U x u] at z;cases z
 ·have:=X i x u;rw [z] at this;simp at this
 ·have:=D x (.inl (.inl u));rw [z] at this;simp at this
 ·have:=D x (.inr u);rw [z] at this;simp at this
 ·have:=D x (.inl (.inr u));rw [z] at this;simp at this
theorem zA.wide {M N:Nat->Prop} (h:zA M w w') (hm:∀ x,M x->N x):zA N w w':=⟨h.os,h.tape,h.output,h.size,fun k u z=>h.block k u (fun D=>z (hm k D))⟩
theorem qv.put {M u:Nat->Prop} {r l:Nat} (h:qv w w' M u cur cur' r) (E:w.heap.size<=l) (o:Obj):qv w (w'.putObj l o) M u cur cur' r :=
 ⟨h.out,⟨h.ac.os,h.ac.tape,h.ac.output,by rw [World.putObj_size];exact h.ac.size,fun k z D=>(World.putObj_heap_other (by omega)).trans (h.ac.block k z D)⟩,h.new⟩
end
theorem zdw {rs:List zQ} (h:∀ r,r∈rs->r.ok):(zq rs).length<=rs.length*395:=by
 induction rs with
 | nil=>simp [zq]
 | cons r rs ih =>have z:=yU (h r (by simp));have D:=ih (fun x u=>h x (by simp [u]));simp only [zq,qC,zl,qc] at *;omega
theorem zmW {i:Nat} {c:Chg} (u:i<4) (h:c.pg<6/\c.sl<5/\js c.aa):(yQ i c).ok:=⟨by simp [yQ],by simp [yQ],by simp [yQ];omega,h.1,h.2.1,h.2.2,trivial,.inl rfl,.inl rfl,by simp [yQ]⟩
theorem vM.eo {w:World} {S:Nat} {ts:qE} {G:Nat->Nat->Prop} (h:vM w S ts G):∀ x,x∈qV ts->x.ok/\x.Y=[]:=by
 intro x u;rcases zO.1 u with rfl | u
 ·exact ⟨YN,rfl⟩
 ·obtain ⟨⟨i,b,y⟩,L,D⟩:=List.mem_flatMap.1 u;obtain ⟨c,E,rfl⟩:=List.mem_map.1 D;obtain ⟨k,O,z⟩:=ZZ L;have R:=(zr.1 z).1;have:=h.len;exact ⟨zmW (by simp only;omega) ((h.tx k b y z).2.al c E),rfl⟩
theorem vM.eb {w:World} {S:Nat} {ts:qE} {G:Nat->Nat->Prop} (h:vM w S ts G):(qV ts).length<=33:=by
 have u:=h.cw _ (za _);have z:(zF ts).length<=4:=by have:=vw ts 0;rw [h.len] at this;exact this
 rw [qi] at u;simp only [qV,qc,Yz];omega
theorem zdu (a:Va) (b:Vb) (cur:Nat->Nat->List UInt8) (s:St) (w:World) (h:zm w a b cur s) (f0:s.sto.J+1<4294967296) :
  zc 37 #[.pointer (some ⟨a.S,0,none⟩)] w fun e w'=>e=.returned (.int .i64 0)/\∃ b' cur',zm w' a b' cur' { s with sto:=s.sto.bb s.ts }/\qv w w' (qd a b s) (qd a b' { s with sto:=s.sto.bb s.ts }) cur cur' a.r:=by
 have k6:=h.c6;have HF:=hid (zhi a.B a.D a.L a.r b.FL b.F cur s.sto w h.sto);have H:=hid h;clear h;refine Qg func37 rfl ?_;simp only [ntmps37,qH,qc,jr,Nat.reduceAdd,Nat.reduceSub,Array.replicate_succ,Array.replicate_zero,List.push_toArray,List.append_toArray,List.nil_append,List.cons_append];go_upto_region 4 with ((with_reducible refine aV 67 HF.o ?_);rintro j8 w1 ⟨rfl,F1,e0,g3,e8⟩);obtain ⟨e1,e4⟩:=H.o.bu g3 e8;obtain ⟨d8,d9⟩:=zi2 e1 e4;clear g3 e8 e1 e4 k6;go_wp2_with (show wpList _ _ _ (⟨some 18,_,_,_,_,_⟩::_) _ _;refine wpList_plain rfl fun _ hK=>yv 145 144 8 104 (.tmp 17) rfl (.agg (jR qF).toArray) (by rfl) underlying145 zeI (by rfl) (by omega) (by omega) (hK _ _ ?_));have HT:=hid d8.o.aq;obtain ⟨ts,d6⟩:=ex s.ts;have E:Hid (vM w1 a.S ts b.G):=by rw [d6];exact hid HT.o
 have i6:=hid d6;clear HT d6;refine Yw (gf:=68) (bound:=#[.pointer (some ⟨a.S,1,none⟩)]) (caps:=#[]) (by rfl) (by kernel_rfl) (zF ts).length (Zt ts) (Kf ts) (fun k W=>zd w1 W/\w1.heap.size+4<=W.heap.size/\∃ v,W.heap[w1.heap.size+1]?=some (.cells #[v] 145 (0,0))/\W.ownsRow w1.heap.size 144 8 v (qF::vo ((zF ts).take k)).length (yu (qF::vo ((zF ts).take k)))/\∀ q,v.ownBlock=some q->q=w1.heap.size∨w1.heap.size+4<=q) ?h0 ?hput ?hbel (zeF a.S ts _ E.o.len (fun W hW=>E.o.row.same (hW.1.block a.S E.o.row.lt))) ?hround ?hend
 case h0 =>intro l6;refine ⟨B_alloc (B_alloc (B_alloc (B_alloc (zf _ _) _) _) _) _,by simp,_,zw (zw (zo _ _ (by simp)) _) _,?_,fun q u=>.inl (by injection u with u;exact u.symm)⟩;refine own_same (World.ei w1 144 8 (jR qF) rfl) (fun q u=>?_);injection u with u;subst u;exact (qb _ _ _ (by simp<;>omega)).trans ((qb _ _ _ (by simp<;>omega)).trans (qb _ _ _ (by simp)))
 case hput =>rintro k W o ⟨O,h2,v,U,L,X⟩ hl;refine ⟨Below.put O (by simp<;>omega) o,by simpa using h2,v,(World.putObj_heap_other (by simp<;>omega)).trans U,own_same L fun q u=>World.putObj_heap_other (by rcases X q u with h | h<;>simp<;>omega),X⟩
 case hbel =>rintro k W W' ⟨O,h2,v,U,L,X⟩ hb;exact ⟨B_call O hb,zz h2 hb.size,v,zg U hb (zi U),own_same L fun q u=>hb.block q (L.lt q u).2,X⟩
 case hround =>
  rintro k W hk ⟨O,h2,v,U,L,X⟩ hl;obtain ⟨⟨i,c,x⟩,D⟩:∃ p,(zF ts)[k]?=some p:=⟨_,zX hk⟩;obtain ⟨g9,hok⟩:=E.o.tx i c x (E.o.fg D);rw [GL D];simp only [List.zip_toArray,List.zip_cons_cons,List.zip_nil_right,List.foldl_toArray,jM,List.foldl_nil,List.setIfInBounds_toArray,List.set_cons_succ,List.set_cons_zero];refine wpIn_seq ?_;refine vk (uv _) 0 rfl (fun _ _ h=>h) ?_;go_wp2_with fail;refine vk (uv _) 0 rfl (fun _ _ h=>h) ?_;go_wp2_with fail;refine ⟨Jb.refl _ _,fun o=>?_⟩;refine wpIn_block ?_;obtain ⟨R,a1⟩:∃ R,W.putObj (((w1.alloc (.cells (jR qF).toArray 144)).alloc (.cells #[.slice (some ⟨w1.heap.size,0,none⟩) 1 1] 145)).heap.size+1) o=R:=⟨_,rfl⟩;rw [a1];simp only [World.size_alloc] at a1 ⊢;have c4:zd w1 R:=by rw [<- a1];exact Below.put O (by omega) o
  have l0:w1.heap.size+4<=R.heap.size:=by rw [<- a1];simpa using h2
  have d3:R.heap[w1.heap.size+1]?=some (.cells #[v] 145 (0,0)):=by rw [<- a1];exact (World.putObj_heap_other (by omega)).trans U
  have d7:R.ownsRow w1.heap.size 144 8 v (qF::vo ((zF ts).take k)).length (yu (qF::vo ((zF ts).take k))):=by rw [<- a1];exact own_same L fun q u=>World.putObj_heap_other (by rcases X q u with h | h<;>omega)
  have i7:=hid (g9.below c4);obtain ⟨HX,j7,a6⟩:=zi3 D a1 hok;have h7:=hid (zjk c x (b.G i) R i7.o (by have:=hok.len;have:=hok.n8;omega));clear D a1 hok g9 O h2 U L
  gi_upto_region 8 with fail
  refine vk (uv _) 0 rfl (fun _ _ h=>h) ?_;go_wp2_with ((with_reducible refine aV 69 h7.o ?_);rintro i8 w3 ⟨c0,rfl,hu,a3⟩;obtain ⟨A,cu,rfl⟩:=own_slice hu);refine (by assumption:∀ a w,Code.wpIn _ 0 prog _ _ a w->_) _ _ ?_;obtain ⟨a4,hR⟩:∃ a4:Nat->World->Prop,a4=fun j W=>Jb (w1.heap.size+2) R W/\zd w1 W/\R.heap.size<=W.heap.size/\W.ownsRow R.heap.size 150 3 (.slice A x.I.length cu) x.I.length (qD x.I)/\∃ v,W.heap[w1.heap.size+1]?=some (.cells #[v] 145 (0,0))/\W.ownsRow w1.heap.size 144 8 v ((qF::vo ((zF ts).take k))++(x.I.take j).map (yQ i)).length (yu ((qF::vo ((zF ts).take k))++(x.I.take j).map (yQ i)))/\∀ q,v.ownBlock=some q->q=w1.heap.size∨w1.heap.size+4<=q:=⟨_,rfl⟩;have e7:a4 0 w3:=by rw [hR];exact ⟨Jb.below a3 (by omega),B_call c4 a3,a3.size,hu,v,zg d3 a3 (zi d3),by simpa using own_same d7 fun q u=>a3.block q (d7.lt q u).2,X⟩
  obtain ⟨i2,HR⟩:=zi2 e7 hR;clear hR e7 c4 d3 d7 X hu a3
  gi_wp2
  gi_loopw [28] (fun c0 wr=>∃ j:Nat,j<=x.I.length/\c0=.int .i64 j/\a4 j wr) (fun c0 _=>(x.I.length-jF c0).toNat)
  case atStart=>exact ⟨0,zT _,rfl,i2.o⟩
  case round =>
   obtain ⟨j,hj,rfl,f8⟩:=hrel;have f9:=f8;rw [HR.o] at f9;obtain ⟨g1,g2,k7,hu,v',g5,g6,g7⟩:=f9;by_cases j5:j<x.I.length
   ·obtain ⟨z,d0⟩:∃ z,x.I[j]?=some z:=⟨_,zX j5⟩;have q0:(0:Int)<=(j:Int):=by omega
    have q1:(j:Int)<(x.I.length:Int):=by omega
    have x2:IntKind.i64.wrap ((j:Int)+1)=(j:Int)+1:=by have:=a6.o.len;have:=a6.o.n8;rw [zu];omega
    obtain ⟨g,rfl,hg,k8,g0⟩:=Gs hu d0;obtain ⟨A5,c5,rfl⟩:=own_slice g6;obtain ⟨Z,a5⟩:=ex (((qF::vo ((zF ts).take k))++(x.I.take j).map (yQ i)).length);obtain ⟨l5,d2⟩:=ex (yu ((qF::vo ((zF ts).take k))++(x.I.take j).map (yQ i)));rw [<- a5,<- d2] at g6;rw [<- a5] at g5 g7;have k1:=xV (Value.int .i64 z.pg) 0 (zo wr (.cells (zS z).toArray 150) rfl);have k2:=xV (Value.int .i64 z.sl) 1 (zo wr (.cells (zS z).toArray 150) rfl);have k3:=xV (Value.string (zb (zM z.aa))) 2 (zo wr (.cells (zS z).toArray 150) rfl);have k4:=yK ((xV (Value.slice A5 Z c5) 0 g5)) (.cells (zS z).toArray 150);have k9:Z<=1000:=by
     rw [a5,zl,List.length_map,qc,Yz];have j9:=E.o.cw k (by omega);have i8:(zF ts).length<=4:=by have:=vw ts 0;rw [E.o.len] at this;exact this
     have i9:(x.I.take j).length<=j:=by rw [qf];omega
     have:=a6.o.len;have:=a6.o.n8;omega
    have e6:((wr.alloc (.cells (zS z).toArray 150)).alloc (.cells (jR (yQ i z)).toArray 144)).ownsRow w1.heap.size 144 8 (.slice A5 Z c5) Z l5:=own_same g6 fun q u=>(qb _ _ q (by have:=(g6.lt q u).2;simp;omega)).trans (qb wr _ q (g6.lt q u).2);have f7:=zL.bk (zo (wr.alloc (.cells (zS z).toArray 150)) (.cells (jR (yQ i z)).toArray 144) rfl) (size:=8) (n:=1) rfl;obtain ⟨i3,h5,i0,h6,i4,HU⟩:=zi6 f7 e6 a5 d2 g0 hu;have g8:=znB (i:=i) d0;have i5:=hid g8;clear g0 g8 f8 d0 a5 d2 e6 hu f7
    gi_upto_region 10 with fail
    refine vk (uv _) 0 rfl (fun _ _ h=>h) ?_;go_wp2_with (first|((with_reducible refine gV 31 ?_);refine mV (zS z) i4.o ?_)|((with_reducible refine hV 8 ?_);refine nV (zS z).toArray (by simp [zS,Value.oneCell']) ?_));refine (by assumption:∀ a w,Code.wpIn _ 0 prog _ _ a w->_) _ _ ?_
    gi_upto_region 11 with fail
    refine vk (uv _) 0 rfl (fun _ _ h=>h) ?_;go_wp2_with (first|(show wpList _ _ _ (⟨some 41,_,_,_,_,_⟩::_) _ _;refine wpList_plain rfl fun _ hK=>yv 145 144 8 104 (.tmp 40) rfl (.agg (jR (yQ i z)).toArray) (by rfl) underlying145 zeI (by rfl) (by omega) (by omega) (hK _ _ ?_))|(show wpList _ _ _ (⟨some 42,_,_,_,_,_⟩::_) _ _;refine jX rfl (.tmp 32) (.tmp 41) 145 144 8 104 rfl underlying145 zeI (by omega) _ _ _ w1.heap.size (by rfl) h5.o _ 1 _ _ _ (by rfl) i3.o (zhM _) (by omega) (by omega) (by simp;omega) ?_;intro v8 w8 f5 a8 f4;obtain ⟨A8,c8,rfl⟩:=own_slice f5;have c2:=qq (zw (zw g5 _) _) a8 (fun e=>by rcases g7 _ e with h | h<;>omega);have l3:=zI w8 (w1.heap.size+1) 0 _ _ c2;have l4:=ze w8 (w1.heap.size+1) 0 _ _ _ c2));have j6:(w8.setCell ⟨w1.heap.size+1,0,none⟩ (.slice A8 (Z+1) c8)).heap[w1.heap.size+1]?=some (.cells #[.slice A8 (Z+1) c8] 145 (0,0)):=by rw [zB _ _ 0 _ _ _ c2];rfl
    have j2:a4 (j+1) (w8.setCell ⟨w1.heap.size+1,0,none⟩ (.slice A8 (Z+1) c8)):=by
     have j3:zd wr ((wr.alloc (.cells (zS z).toArray 150)).alloc (.cells (jR (yQ i z)).toArray 144)):=B_alloc (B_alloc (zf _ _) _) _;have d1:∀ q,q<wr.heap.size->(Value.slice A5 Z c5).ownBlock≠some q->q≠w1.heap.size+1->(w8.setCell ⟨w1.heap.size+1,0,none⟩ (.slice A8 (Z+1) c8)).heap[q]?=wr.heap[q]?:=fun q O h2 j0 =>
      (zt _ _ _ _ j0).trans ((a8.block q (by simp;omega) (fun e=>h2 e.symm)).trans (j3.block q O))
     have l2:wr.heap.size+2<=w8.heap.size:=by have:=a8.size;simpa using this
     rw [HR.o];refine ⟨g1.trans ⟨by simp;omega,d1 _ (by omega) (fun e=>by rcases g7 _ e with h | h<;>omega) (by omega),d1 _ (by omega) (fun e=>by rcases g7 _ e with h | h<;>omega) (by omega)⟩,?_,by simp;omega,?_,_,j6,?_,?_⟩
     ·exact B_set ((B_alloc (B_alloc g2 _) _).grown a8 (by simp;omega) (fun q e=>by rcases g7 q e with h | h<;>omega)) (by show w1.heap.size<=w1.heap.size+1;omega) _
     ·refine own_same HU.o fun q u=>d1 q (HU.o.lt q u).2 (zeZ HU.o g6 (by decide) u) ?_;have:=(HU.o.lt q u).1;omega
     ·rw [i5.o,<- jq,zl,<- i0.o,List.length_singleton,zgB,<- h6.o];refine own_set1 (by rw [show yu [yQ i z]=jR (yQ i z) by simp [yu]];exact f5) (fun e=>?_) _ _;rcases f4 with h8 | h8
      ·rw [h8] at e;rcases g7 _ e with h | h<;>omega
      ·rw [h8] at e;injection e with e;simp at e;omega
     ·intro q u;rcases f4 with h8 | h8
      ·exact g7 q (by rw [<- h8];exact u)
      ·have b9:(Value.slice A8 (Z+1) c8).ownBlock=some q:=u;rw [h8] at b9;injection b9 with b9;simp at b9;omega
    refine (by assumption:∀ a w,Code.wpIn _ 0 prog _ _ a w->_) _ _ ?_
    gi_wp2
    exact ⟨⟨j+1,by omega,by simp,j2⟩,by simp [jF];omega⟩
   ·have j4:j=x.I.length:=by omega
    have q1:¬ ((j:Int)<(x.I.length:Int)):=by omega
    subst j4
    gi_wp2
    rw [qi] at g6;have l1:=g1.size;refine ⟨⟨g2,by omega,v',g5,?_,g7⟩,g1⟩;rw [zgO HX.o];exact g6
 case hend =>
  rintro W ⟨O,h2,v,U,L,X⟩ hD;rw [qi] at L;change W.ownsRow w1.heap.size 144 8 v (qV ts).length (yu (qV ts)) at L;obtain ⟨A,c,rfl⟩:=own_slice L;have k0:=xV (Value.slice A _ c) 0 U;simp only [World.size_alloc] at hD;have HD:=hid hD;have a0:=hid (d8.o.below O);obtain ⟨H5,H1⟩:=zi2 L O;have k5:=a0.o.c5;clear hD U L X O;have hS:=And.intro k5 k0;clear k5 k0;have h3:=hid (zfP a.D F1 b.FL e0 a.L a.r (s.sto.a6 6).J (s.sto.a6 6).bank (s.sto.a6 6).Q (s.sto.a6 6).av (.slice A (qV ts).length c) (qV ts) W.drew a0.o.drew.sto.bg a0.o.drew.sto.ar (jK (own_same H5.o fun _ _=>rfl) (zT _)) ?hok ?hlen ?hfit a0.o.sto.r4 a0.o.sto.cm (by rw [(YB s.sto 6).1];exact f0))
  case hok=>exact E.o.eo
  case hlen=>have:=E.o.eb;omega
  case hfit=>have:=E.o.eb;have:=zdw (fun r hr=>(E.o.eo r hr).1);omega
  refine (by assumption:∀ a w,Code.wp prog (Code.seq _ _) _ a w->_) _ _ ?_;go_upto_region 13 with fail;refine sV [5] 7 (fun w'=>zH w' a.S 5 (.pointer (some ⟨a.L,0,none⟩))/\zH w' (w1.heap.size+1) 0 (.slice A (qV ts).length c)) hS fun j1=>?_;refine pV 0 ?_;refine pV 1 ?_;refine pV 2 ?_;refine tV 3 ?_;refine tV 4 ?_;refine lC 5 h3.o ?_;rintro i9 w5 ⟨rfl,F5,c1,a7,c7,e2,d4,d5,a9,f1,f2⟩;refine eL ?_;refine pV 6 ?_;refine dV ?_;have Y:=a0.o.drew.sto;rw [(YB s.sto 6).1,(YB s.sto 6).2.1] at c7 d4;have f6:∀ x,vN a.B (s.sto.a6 6).fs x->w5.heap[x]?=W.drew.heap[x]?:=fun x D=>a9.block x (Y.ab.lt D) (fun hy=>by
   have h9:=Y.ab.a3 D;rcases hy with hy | hy
   ·have:=Y.bg.a3 x hy;simp at h9 this;omega
   ·have:=Y.ar.ah hy;simp at h9 this;omega)
  have hfit:(zq (qV ts)).length<=14336:=by have:=E.o.eb;have:=zdw (fun r hr=>(E.o.eo r hr).1);omega
  have g4:qQ w5 a.B a.D a.L a.r c1 F5 a7 (s.sto.bb s.ts):=by
   rw [<- i6.o];refine ⟨Y.ab.same f6,c7,e2,?_,fun n hn i hi=>?_,Y.r4,by show 1-s.sto.bank<=1;omega,f0,hfit,za _,Y.cx,Y.co⟩
   ·show yW (a7 a.r) (s.sto.J+1) (1-s.sto.bank) ((zq (qV ts)).take (zq (qV ts)).length);rw [qi];exact d4
   ·have h9:=Y.fa n hn i hi;exact (d5 a.r _ (.inr (.inr (by omega)))).trans h9
  have e9:qv W.drew w5 (jL a.B b.FL F1 (s.sto.a6 6)) (jL a.B c1 F5 (s.sto.bb s.ts)) e0 a7 a.r:=by
   refine ⟨fun r' q h=>d5 r' q (h.imp id .inl),a9.wide (fun x D=>D.elim (fun h=>.inl (.inl h)) (fun h=>.inl (.inr h))),fun x D=>?_⟩;rcases D with (D | D) | D
   ·exact (f2 x D).imp (fun h=>.inl (.inl h)) id
   ·exact (f1 x D).imp (fun h=>.inl (.inr h)) id
   ·exact .inl (.inr D)
  obtain ⟨c3,e5⟩:=a0.o.drew.bu g4 e9;have e3:=a0.o.drew.eu (show W.drew.heap[w1.heap.size+1+1]?=_ from HD.o);have c6:w5.heap[w1.heap.size+1+1]?=some (.deferred (some [])):=(a9.block _ (YP (show W.drew.heap[w1.heap.size+1+1]?=_ from HD.o)) (fun hy=>e3 (hy.elim (fun h=>.inl (.inr (.inr (.inr (.inr (.inr (.inl h))))))) (fun h=>.inr h)))).trans HD.o;have f3:=c3.eu c6;have hE:qv w w5 (qd a b s) (qd a { FL:=c1,F:=F5,G:=b.G,v:=b.v,T:=b.T } { s with sto:=s.sto.bb s.ts }) cur a7 a.r:=(d9.o.call H1.o.drew).trans e5;obtain ⟨h1,HE,i1⟩:=zi3 c3 hE f3;have h4:=hid c6;clear Y c7 d4 f6 g4 e9 c3 e5 e3 c6 f3 hE d5 a9 f1 f2 e2 hfit j1 hS;go_wp2_with fail;refine ⟨by simp,.inl ⟨_,_,rfl,run_takeDeferred h4.o,?_⟩⟩;refine ⟨_,results_tmp rfl _ _ _,rfl,_,_,h1.o.same (fun x D=>World.putObj_heap_other (fun e=>i1.o (e ▸ D))) (by simp),HE.o.put ?_ _⟩;have:=d9.o.ac.size;omega
end
def zn.E (s:zn) (n:Nat):Pg:=match (jT s.fs n).bind fun k=>(s.fs[k]?).bind zx.pg with
 | some x=>x.2.2
 | none=>s.dp n
theorem Yn {fs u:List zx} {n:Nat} (h:∀ i:Nat,(fs[i]?.bind zx.aw)=(u[i]?.bind zx.aw)):∀ k i,yA fs n k i=yA u n k i
 | 0,_=>rfl
 | k+1,i=>by unfold yA;rw [h i,Yn h k (i+1)]
theorem zaf {fs:List zx} {k:Nat} {f f':zx} (h:fs[k]?=some f) (u:f'.aw=f.aw) (i:Nat):((fs.set k f')[i]?.bind zx.aw)=(fs[i]?.bind zx.aw):=by
 by_cases e:i=k
 ·subst e;rw [qw (zr.1 h).1,h];exact u
 ·rw [qY (Ne.symm e)]
theorem zfJ {fs:List zx} {k n:Nat} {f f':zx} (h:fs[k]?=some f) (u:f'.aw=f.aw):jT (fs.set k f') n=jT fs n:=Yn (zaf h u) 3 0
theorem zbd {fs:List zx} {n:Nat}:∀ {k i:Nat},yA fs n k i=none->∀ j,i<=j->j<i+k->¬ (fs[j]?.bind zx.aw)=some n
 | 0,i,_,j,h1,h2=>by omega
 | k+1,i,h,j,h1,h2=>by
  unfold yA at h;split at h
  ·cases h
  ·rename_i u;by_cases e:j=i
   ·subst e;exact u
   ·exact zbd h j (by omega) (by omega)
theorem GE {fs:List zx} {n j:Nat} (h:(fs[j]?.bind zx.aw)=some n):∀ {k i:Nat},i<=j->j<i+k->(∀ l,i<=l->l<j->¬ (fs[l]?.bind zx.aw)=some n)->yA fs n k i=some j
 | 0,i,h1,h2,_=>by omega
 | k+1,i,h1,h2,h3=>by
  unfold yA;by_cases e:i=j
  ·subst e;rw [if_pos h]
  ·rw [if_neg (h3 i (za _) (by omega))];exact GE h (by omega) (by omega) (fun l z u=>h3 l (by omega) u)
structure uf (s s':zn):Prop where
 len:s'.fs.length=s.fs.length
 aw:∀ i n:Nat,(s'.fs[i]?.bind zx.aw)=some n->(s.fs[i]?.bind zx.aw)=some n
 Q:s'.Q=s.Q
 J:s'.J=s.J
 bank:s'.bank=s.bank
theorem uf.refl (s:zn):uf s s:=⟨rfl,fun _ _ h=>h,rfl,rfl,rfl⟩
theorem uf.trans {a b c:zn} (h:uf a b) (k:uf b c):uf a c:=⟨k.len.trans h.len,fun i n u=>h.aw i n (k.aw i n u),k.Q.trans h.Q,k.J.trans h.J,k.bank.trans h.bank⟩
theorem uf.set {s:zn} {k:Nat} {f f':zx} (z:s.fs[k]?=some f) (u:f'.aw=f.aw∨f'.aw=none) (hand:Nat):uf s { s with fs:=s.fs.set k f',hand:=hand }:=by
 refine ⟨by simp,fun i n h=>?_,rfl,rfl,rfl⟩;by_cases e:i=k
 ·subst e;simp only [qw (zr.1 z).1,Option.bind_some] at h;rcases u with u | u
  ·rw [z];simp only [Option.bind_some];rw [<- u];exact h
  ·rw [u] at h;cases h
 ·simp only [qY (Ne.symm e)] at h;exact h
theorem uf.a0 (s:zn) (k:Nat):uf s (s.a0 k):=by
 unfold zn.a0;split
 ·exact .refl s
 ·rename_i f u;split
  ·exact .refl s
  ·split
   ·exact .refl s
   ·refine ⟨by simp,fun i n h=>?_,rfl,rfl,rfl⟩;simp only at h;exact (zaf u (f':={ f with ae:=0 }) rfl i).symm.trans h
theorem uf.bd:∀ (g:Nat) (s:zn),uf s (s.bd g).2
 | 0,s=>.refl s
 | g+1,s=>by
  unfold zn.bd;split
  ·exact .refl s
  ·rename_i f z;split
   ·exact (uf.set z (f':={ f with a2:=false }) (.inl rfl) ((s.hand+1) % 3)).trans (uf.bd g _)
   ·have u:=uf.a0 ({ s with hand:=(s.hand+1) % 3 }:zn) s.hand;refine ⟨by simp [u.len],fun i n h=>?_,u.Q,u.J,u.bank⟩;by_cases e:i=s.hand
    ·subst e;by_cases D:s.hand<(zn.a0 { s with hand:=(s.hand+1) % 3 } s.hand).fs.length
     ·simp only [qw D,Option.bind_some] at h;cases h
     ·simp only [List.getElem?_eq_none (show (((zn.a0 { s with hand:=(s.hand+1) % 3 } s.hand).fs.set s.hand zx.none).length<=s.hand) by simp;omega)] at h;cases h
    ·simp only [qY (Ne.symm e)] at h;exact u.aw i n h
theorem uf.room (s:zn):uf s s.room.2:=by
 unfold zn.room;split
 ·exact .refl s
 ·exact .bd 4 s
theorem ZG (s:zn) (nb n:Nat):(s.get nb n).Q=s.Q/\(s.get nb n).J=s.J/\(s.get nb n).bank=s.bank:=by
 unfold zn.get;split
 ·split<;>exact ⟨rfl,rfl,rfl⟩
 ·have h:=uf.room s;unfold zn.put zn.ck;split<;>exact ⟨h.Q,h.J,h.bank⟩
theorem Jv {s:zn} (nb n:Nat) (O:s.fs.length=3) (X:s.hand<3):∃ k f,jT (s.get nb n).fs n=some k/\(s.get nb n).fs[k]?=some f/\f.pg=some (s.U nb n,n,s.E n):=by
 cases u:jT s.fs n with
 | some k =>
  obtain ⟨f,b,p,z,U⟩:=Qy u;have D:=(zr.1 z).1;refine ⟨k,{ f with a2:=true },?_,?_,?_⟩
  ·simp only [zn.get,u,z];exact (zfJ z (f':={ f with a2:=true }) rfl).trans u
  ·simp only [zn.get,u,z];rw [qw D]
  ·simp only [zn.U,zn.E,u,z,U,Option.bind_some]
 | none =>
  have R:=uf.room s;have Z:=zn.e2 O X;have Y:=zbd (show yA s.fs n 3 0=none from u);obtain ⟨E,L⟩:∃ E,s.room.2.fs[s.room.1]?=some E:=⟨_,zX (by rw [R.len,O];exact Z)⟩;have D:=(zr.1 L).1;refine ⟨s.room.1,⟨some (nb,n,s.dp n),E.ae,true⟩,?_,?_,?_⟩
  ·simp only [zn.get,u,zn.put,zn.ck,L];refine GE ?_ (zT _) (by omega) ?_
   ·rw [qw D];rfl
   ·intro l _ hl h;rw [qY (by omega)] at h;exact Y l (zT _) (by omega) (R.aw l n h)
  ·simp only [zn.get,u,zn.put,zn.ck,L];rw [qw D]
  ·simp only [zn.U,zn.E,u,Option.bind_none]
def St.ready (s:St):St:=if uA s.ts+s.sto.Q.length<=14336 then s else { s with sto:=s.sto.bb s.ts }
theorem zbY (a:Va) (b:Vb) (cur:Nat->Nat->List UInt8) (s:St) (w:World) (h:zm w a b cur s) (a4:s.sto.J+1<4294967296) :
  zc 63 #[.pointer (some ⟨a.S,0,none⟩)] w fun e w'=>e=.returned (.int .i64 0)/\∃ X cur',zm w' a X cur' s.ready/\qv w w' (qd a b s) (qd a X s.ready) cur cur' a.r:=by
 have k5:=h.c5;have D:=hid (zhP a.L a.D a.r s.sto.J s.sto.bank s.sto.Q s.sto.av b.FL w h.sto.bg h.sto.len);have z:=hid (znC a b cur s w h);have H:=hid h;have hlen:=h.sto.len;obtain ⟨m,hm⟩:=ex (uA s.ts);obtain ⟨l,L⟩:=ex s.sto.Q.length;rw [<- L] at D hlen;rw [<- hm] at z;obtain ⟨U,R⟩:=zi2 hm L;clear h hm L;by_cases Y:m+l<=14336
 ·have E:s.ready=s:=by unfold St.ready;rw [if_pos (by rw [<- U.o,<- R.o];exact Y)]
  rw [E];have q1:(m:Int)<=14336-(l:Int):=by omega
  go_enter func63,ntmps63;go_wp2_with (first|((with_reducible refine aV 104 D.o ?_);rintro e1 w1 ⟨rfl,a5⟩;subst w1)|((with_reducible refine aV 105 z.o ?_);rintro e2 Z ⟨rfl,u⟩));go_ret;exact ⟨rfl,b,cur,H.o.below u,(qv.refl _ _ _ _).call u⟩
 ·have E:s.ready={ s with sto:=s.sto.bb s.ts }:=by unfold St.ready;rw [if_neg (by rw [<- U.o,<- R.o];exact Y)]
  rw [E];have q1:¬ ((m:Int)<=14336-(l:Int)):=by omega
  go_enter func63,ntmps63;go_wp2_with (first|((with_reducible refine aV 104 D.o ?_);rintro e1 w1 ⟨rfl,a5⟩;subst w1)|((with_reducible refine aV 105 z.o ?_);rintro e2 Z ⟨rfl,u⟩;have O:=hid u;clear u)|((with_reducible refine aV 37 (zdu a b cur s Z (H.o.below O.o) a4) ?_);rintro e3 w3 ⟨rfl,b3,a0,a1,a3⟩));go_ret;exact ⟨rfl,b3,a0,a1,((qv.refl _ _ _ _).call O.o).trans a3⟩
section
def zn.setRow (s:zn) (n slot:Nat) (o:Option Rw) (m:Nat):zn:=match jT s.fs n with
 | none=>s
 | some k=>match s.fs[k]? with
  | none=>s
  | some f=>match f.pg with
   | none=>s
   | some (b,n',p)=>{ s with fs:=s.fs.set k ⟨some (b,n',{ p.set slot o with mark:=m }),if f.ae=0 then m else f.ae,f.a2⟩ }
def yy (p:Pg) (slot:Nat):Option Rw:=(p.ap[slot]?).getD none
def yk (r kind txn n slot:Nat) (s1:zn) (p:Pg) (o:Option Rw):zQ:=⟨kind,txn,n,slot,yy p slot,o,if Qx s1.fs n then jD r n p else [],[]⟩
def zn.au (s:zn) (x:zQ):zn:={ s with Q:=s.Q++qG x }
def zn.al (s:zn) (r nb kind txn n slot:Nat) (o:Option Rw):zn :=
 ((s.get nb n).au (yk r kind txn n slot (s.get nb n) (s.E n) o)).setRow n slot o (jj s.J s.Q.length)
def jQ (h:List It) (u:Option Rw):List It:=match u with
 | none=>h
 | some b=>QY h (jv h ⟨b.t,b.k,[]⟩) ⟨b.t,b.k,[]⟩
def ug (h:List It) (u:Option Rw) (n slot:Nat):List It:=match u with
 | none=>h
 | some x=>uC h (jv h x) ⟨x,n,slot⟩
def Jo (ts:qE) (txn:Nat) (c:Chg):qE:=match ts[txn]? with
 | some (some (T,x))=>ts.set txn (some (T,⟨x.I++[c],x.ag,x.ops+1⟩))
 | _=>ts
def St.al (s:St) (r nb kind txn n slot:Nat) (o:Option Rw):St :=
 { sto:=s.sto.al r nb kind txn n slot o,N:=ug (jQ s.N (yy (s.sto.E n) slot)) o n slot,ts:=if kind=3 then Jo s.ts txn ⟨n,slot,yy (s.sto.E n) slot⟩ else s.ts,lk:=s.lk }
theorem zfm {p:Pg} {slot m:Nat} {o:Option Rw} (z:p.ok) (E:js o) (D:m≠0) (hm:m<18446744073709551616):({ p.set slot o with mark:=m }:Pg).ok:=by
 refine ⟨by simp [Pg.set,z.b5],fun x u=>?_,hm,fun h=>(D h).elim⟩;rcases vf u with u | rfl
 ·exact z.a7 x u
 ·exact E
section
variable {w w':World} {B D L r:Nat} {FL F:Nat->Prop} {cur:Nat->Nat->List UInt8} {s:zn}
theorem qQ.fy (h:qQ w B D L r FL F cur s) {z:Nat->Prop} {x:zQ} (O:jP w' L D r s.J s.bank (s.Q++qG x) s.av z) (E:zA FL w w') (R:qN w FL z) (hfit:s.Q.length+(qG x).length<=14336) :
  qQ w' B D L r z F cur (s.au x)/\qv w w' (jL B FL F s) (jL B z F (s.au x)) cur cur r:=by
 refine ⟨⟨h.ab.same (fun x u=>E.block x (h.ab.lt u) (h.ab.bg h.bg x u)),O,zK.ac h.ar E (fun x u U=>QC h.bg h.ar x U u),?_,h.fa,h.r4,h.cm,h.c3,by simp only [zn.au,zl];exact hfit,?_,h.cx,h.co⟩,vq.refl _ _,E.wide fun x u=>.inl (.inl u),fun x u=>?_⟩
 ·show yW (cur r) s.J s.bank ((s.Q++qG x).take s.av);rw [List.take_append_of_le_length h.dm];exact h.on
 ·have:=h.dm;simp only [zn.au,zl];omega
 ·rcases u with (u | u) | u
  ·exact (R x u).imp (fun h=>.inl (.inl h)) id
  ·exact .inl (.inl (.inr u))
  ·exact .inl (.inr u)
theorem qQ.f2 {w3 w4 Y:World} (h:qQ w3 B D L r FL F cur s) {k b n slot m:Nat} {f:zx} {p:Pg} {o:Option Rw} (a1:jT s.fs n=some k) (Z:s.fs[k]?=some f) (R:f.pg=some (b,n,p)) (c1:qS w4 b r n (p.set slot o)) (a4:zA (fun x=>x=b) w3 w4)
  (ht:qr Y B D r L (YZ (s.fs.set k ⟨some (b,n,p.set slot o),f.ae,f.a2⟩) n m) s.hand) (a5:zA (vN B (s.fs.set k ⟨some (b,n,p.set slot o),f.ae,f.a2⟩)) w4 Y) (a7:m≠0) (hm:m<18446744073709551616) (ho:js o) :
  qQ Y B D L r FL F cur (s.setRow n slot o m)/\qv w3 Y (jL B FL F s) (jL B FL F (s.setRow n slot o m)) cur cur r:=by
 have a0:=zC Z;have a6:=(zr.1 Z).1;obtain ⟨a8,c0⟩:=h.co f a0 b n p R;have hS:s.setRow n slot o m={ s with fs:=s.fs.set k ⟨some (b,n,{ p.set slot o with mark:=m }),if f.ae=0 then m else f.ae,f.a2⟩ }:=by simp only [zn.setRow,a1,Z,R]
 have a3:jT (s.fs.set k ⟨some (b,n,p.set slot o),f.ae,f.a2⟩) n=some k:=(zfJ Z (by simp [zx.aw,R])).trans a1;have hT:YZ (s.fs.set k ⟨some (b,n,p.set slot o),f.ae,f.a2⟩) n m=s.fs.set k ⟨some (b,n,{ p.set slot o with mark:=m }),if f.ae=0 then m else f.ae,f.a2⟩:=by simp only [YZ,a3,qw a6,List.set_set,zx.dt,qk]
 rw [hT] at ht;have a9:∀ x,vN B (s.fs.set k ⟨some (b,n,p.set slot o),f.ae,f.a2⟩) x->vN B s.fs x:=fun x u=>by
  rcases u with O | ⟨g,E,U,X,z⟩
  ·exact .inl O
  ·rcases vf E with E | rfl
   ·exact .inr ⟨g,E,U,X,z⟩
   ·injection z with z;cases z;exact .inr ⟨f,a0,_,_,R⟩
 have b9:∀ x,vN B (s.setRow n slot o m).fs x->vN B s.fs x:=fun x u=>by
  rw [hS] at u;rcases u with O | ⟨g,E,U,X,z⟩
  ·exact .inl O
  ·rcases vf E with E | rfl
   ·exact .inr ⟨g,E,U,X,z⟩
   ·injection z with z;cases z;exact .inr ⟨f,a0,_,_,R⟩
 have hK:zA (vN B s.fs) w3 Y:=(a4.wide fun x u=>u ▸ .inr ⟨f,a0,_,_,R⟩).trans a5 fun x u=>.inl (a9 x u);refine ⟨?_,vq.refl _ _,hK.wide fun x u=>.inr u,fun x u=>?_⟩
 ·rw [hS];have:=h.ey _ s.hand ht (fun x u=>hK.block x (u.elim (fun O=>h.bg.lt x O) (fun O=>h.ar.lt x O)) (fun hy=>u.elim (h.ab.bg h.bg x hy) (h.ab.ar h.ar x hy))) hK.size ?_
  ·exact this
  ·intro g E b' U X z;rcases vf E with E | rfl
   ·exact h.co g E b' U X z
   ·injection z with z;cases z;exact ⟨a8,zfm c0 ho a7 hm⟩
 ·rcases u with u | u
  ·exact .inl (.inl u)
  ·exact .inl (.inr (b9 x u))
end
def zgV:Option Rw->Int
 | none=>9
 | some _=>0
def Kc:Option Rw->Array Value
 | none=>#[.int .i64 0,.string (zb []),.string (zb [])]
 | some r=>#[.int .i64 r.t,.string (zb r.k),.string (zb r.v)]
def zmZ (o:Option Rw):Value:=.agg (Kc o)
theorem Gj (o:Option Rw):(Kc o).size=3:=by cases o<;>rfl
theorem zgU (o:Option Rw):(Kc o).all (·.oneCell')=true:=by cases o<;>simp [Kc,Value.oneCell']
theorem zm.ef {w:World} {a:Va} {b:Vb} {cur:Nat->Nat->List UInt8} {s:St} (h:zm w a b cur s):Yy w a.S 7 b.v s.N :=
 ⟨⟨_,103,h.row,(Gz h.aq.len).2.2.1⟩,h.N,own_ne h.N h.row (by decide)⟩
theorem Gv (v:Value) (o:Option Rw) (u:js o) (w:World) (h:zj w v (zM o)) :
  zc 137 #[v] w fun e w'=>e=.returned (.tuple #[zmZ o,.int .i64 (zgV o)])/\zd w w':=by
 cases o with
 | none=>exact zfh v [] w h (by simp) (by simp)
 | some r=>exact Jp v r u w h
theorem qv.ay {w w':World} {M u:Nat->Prop} {cur cur':Nat->Nat->List UInt8} {r:Nat} (h:qv w.drew w' M u cur cur' r):qv w w' M u cur cur' r :=
 ⟨h.out,⟨h.ac.os,h.ac.tape,h.ac.output,h.ac.size,h.ac.block⟩,h.new⟩
theorem zm.hx {w:World} {a:Va} {b:Vb} {cur:Nat->Nat->List UInt8} {s:St} (h:zm w a b cur s) {x:Nat} {C:Array Value} (E:w.heap[x]?=some (.cells C 144 (0,0))):¬ qd a b s x:=fun u=>by
 obtain ⟨L,O,R,U,X,D⟩:=h.ah;have z:=zh E;rcases u with (rfl | rfl | u | u | ⟨i,u⟩ | u | u) | u
 ·rw [L] at z;cases z
 ·rw [O] at z;cases z
 ·rw [R x u] at z;cases z
 ·rw [U x u] at z;cases z
 ·have:=X i x u;rw [z] at this;simp at this
 ·have:=D x (.inl (.inl u));rw [z] at this;simp at this
 ·have:=D x (.inr u);rw [z] at this;simp at this
 ·have:=D x (.inl (.inr u));rw [z] at this;simp at this
theorem zm.box {w w':World} {a:Va} {b:Vb} {cur cur':Nat->Nat->List UInt8} {s:St} {M:Nat->Prop} {r:Nat} (h:zm w a b cur s) {x:Nat} {C:Array Value} (u:w.heap[x]?=some (.cells C 144 (0,0))) (z:qv w w' (qd a b s) M cur cur' r):w'.heap[x]?=some (.cells C 144 (0,0)) :=
 (z.ac.block x (zi u) (h.hx u)).trans u
end
end Go.Proofs.YtechnoogjhohfaaGreat
