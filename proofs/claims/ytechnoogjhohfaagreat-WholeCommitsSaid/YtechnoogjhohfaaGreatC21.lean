/-
  Joined by a program from texts written one by one: part 21 of the walk through the program and of the law behind it.
-/
import Derived.Test.YtechnoogjhohfaaGreatC15
import Derived.Test.YtechnoogjhohfaaGreatC19
import Derived.Test.YtechnoogjhohfaaGreatC20
import Derived.LoopIn
import Derived.LoopNIn
import Derived.OwnWalkIn
import Derived.Sort.CutIn
import Derived.TacticsInMore
set_option maxRecDepth 100000
set_option maxHeartbeats 6400000
set_option linter.unusedVariables false
set_option linter.unusedSimpArgs false
namespace Go.Proofs.YtechnoogjhohfaaGreat
open Go.RowKit Go.Lib
open YtechnoogjhohfaaGreatW
section
structure Va where
 S:Nat
 K:Nat
 bm:Nat
 LB:Nat
 L:Nat
 B:Nat
 D:Nat
 r:Nat
structure Vb where
 FL:Nat->Prop
 F:Nat->Prop
 G:Nat->Nat->Prop
 v:Value
 T:Tb
structure St where
 sto:zl
 its:List It
 ts:qL
 lk:Lk
def yG (a:Va) (ts:qL) (v:Value):List Value:=.pointer (some ⟨a.K,0,none⟩)::(jV ts++[.pointer (some ⟨a.L,0,none⟩),.pointer (some ⟨a.B,0,none⟩),v,.int .i64 a.r])
structure zg (w:World) (a:Va) (b:Vb) (cur:Nat->Nat->List UInt8) (s:St):Prop where
 row:w.heap[a.S]?=some (.cells (yG a s.ts b.v).toArray 103 (0,0))
 sto:qc w a.B a.D a.L a.r b.FL b.F cur s.sto
 its:qg w b.v s.its
 tab:jZ w a.S s.ts b.G
 lk:zM w a.LB a.K a.bm b.T
 lkM:s.lk=zh b.T
def KF (a:Va) (b:Vb) (s:St) (x:Nat):Prop:=x=a.S∨x=a.K∨yy a.bm b.T x∨b.v.ownBlock=some x∨(∃ i,b.G i x)∨b.FL x∨ya a.B s.sto.fs x
def zS (a:Va) (b:Vb) (s:St):Nat->Prop:=Gn (KF a b s) b.F
theorem Yt {a:Va} {b:Vb} {s:St} {x:Nat} (h:qG a.B b.FL b.F s.sto x):zS a b s x:=by
 rcases h with (h | h) | h
 ·exact .inl (.inr (.inr (.inr (.inr (.inr (.inl h))))))
 ·exact .inr h
 ·exact .inl (.inr (.inr (.inr (.inr (.inr (.inr h))))))
theorem ziU (a:Va) (ts:qL) (v:Value):(yG a ts v).toArray[0]?=some (.pointer (some ⟨a.K,0,none⟩)):=by simp [yG]
theorem JG {a:Va} {ts:qL} {v:Value} (h4:ts.length=4):(yG a ts v).toArray[5]?=some (.pointer (some ⟨a.L,0,none⟩))/\(yG a ts v).toArray[6]?=some (.pointer (some ⟨a.B,0,none⟩))/\(yG a ts v).toArray[7]?=some v/\(yG a ts v).toArray[8]?=some (.int .i64 a.r):=by
 match ts,h4 with
 | [_,_,_,_],_=>exact ⟨rfl,rfl,rfl,rfl⟩
theorem YO {a:Va} {ts:qL} {v:Value} {i:Nat} (hi:i<ts.length):(yG a ts v).toArray[1+i]?=(jV ts)[i]?:=by
 rw [List.getElem?_toArray,yG,Nat.add_comm,List.getElem?_cons_succ,List.getElem?_append_left (by rw [YQ];exact hi)]
section
variable {w w':World} {a:Va} {b:Vb} {cur cur':Nat->Nat->List UInt8} {s:St}
theorem zg.c0 (h:zg w a b cur s):w.cell? ⟨a.S,0,none⟩=some (.pointer (some ⟨a.K,0,none⟩)):=(cell_of_row w a.S 0 _ _ _ h.row).trans (ziU _ _ _)
theorem zg.c5 (h:zg w a b cur s):w.cell? ⟨a.S,5,none⟩=some (.pointer (some ⟨a.L,0,none⟩)):=(cell_of_row w a.S 5 _ _ _ h.row).trans (JG h.tab.len).1
theorem zg.c6 (h:zg w a b cur s):w.cell? ⟨a.S,6,none⟩=some (.pointer (some ⟨a.B,0,none⟩)):=(cell_of_row w a.S 6 _ _ _ h.row).trans (JG h.tab.len).2.1
theorem zg.c7 (h:zg w a b cur s):w.cell? ⟨a.S,7,none⟩=some b.v:=(cell_of_row w a.S 7 _ _ _ h.row).trans (JG h.tab.len).2.2.1
theorem yy.tag (h:zM w a.LB a.K a.bm b.T) {x:Nat} (hx:yy a.bm b.T x):qp w x=100001/\x<w.heap.size:=by
 rcases hx with rfl | ⟨p,hp,rfl⟩
 ·have hlt:=h.outer.lt
  obtain ⟨es,cl,h1,_⟩:=h.outer
  exact ⟨by simp [qp,h1],hlt⟩
 ·have hlt:=(h.inner p hp).lt
  obtain ⟨es,cl,h1,_⟩:=h.inner p hp
  exact ⟨by simp [qp,h1],hlt⟩
theorem jZ.tag (h:jZ w a.S s.ts b.G) {i x:Nat} (hx:b.G i x):qp w x∈[208,150,3]:=by
 by_cases e:∃ p,s.ts[i]?=some (some p)
 ·obtain ⟨⟨c,y⟩,e⟩:=e
  exact (h.tx i c y e).1.tag x hx
 ·exact (h.emp i (fun p hp=>e ⟨p,hp⟩) x hx).elim
theorem qc.tag {B D L r:Nat} {FL F:Nat->Prop} {st:zl} (h:qc w B D L r FL F cur st) {x:Nat} (hx:qG B FL F st x):qp w x∈[200,204,194,5,81,118,86,120]:=by
 rcases hx with (hx | hx) | hx
 ·have:=h.lane.tag x hx;simp at this ⊢;omega
 ·have:=h.disk.tags hx;simp at this ⊢;omega
 ·have:=h.pool.tag hx;simp at this ⊢;omega
theorem qc.lt {B D L r:Nat} {FL F:Nat->Prop} {st:zl} (h:qc w B D L r FL F cur st) {x:Nat} (hx:qG B FL F st x):x<w.heap.size:=by
 rcases hx with (hx | hx) | hx
 ·exact h.lane.lt x hx
 ·exact h.disk.lt x hx
 ·exact h.pool.lt hx
theorem zg.tags (h:zg w a b cur s):qp w a.S=103/\qp w a.K=222/\(∀ x,yy a.bm b.T x->qp w x=100001)/\(∀ x,b.v.ownBlock=some x->qp w x=136)/\(∀ i x,b.G i x->qp w x∈[208,150,3])/\∀ x,qG a.B b.FL b.F s.sto x->qp w x∈[200,204,194,5,81,118,86,120] :=
 ⟨zc h.row,zc h.lk.blk,fun _ hx=>(yy.tag h.lk hx).1,fun _ hx=>own_tag h.its hx,fun _ _ hx=>h.tab.tag hx,fun _ hx=>h.sto.tag hx⟩
theorem zg.below (h:zg w a b cur s) (hb:Below w.heap.size w w'):zg w' a b cur s :=
 ⟨zb h.row hb (zd h.row),h.sto.below hb,zi h.its fun q hq=>hb.block q (h.its.lt q hq).2,h.tab.below hb,h.lk.below hb,h.lkM⟩
theorem zg.drew (h:zg w a b cur s):zg w.drew a b cur s:=h.below (Below.refl _ _).drew
theorem zg.lt (h:zg w a b cur s) {x:Nat} (hx:zS a b s x):x<w.heap.size:=by
 rcases hx with (rfl | rfl | hx | hx | ⟨i,hx⟩ | hx | hx) | hx
 ·exact zd h.row
 ·exact zd h.lk.blk
 ·exact (yy.tag h.lk hx).2
 ·exact (h.its.lt x hx).2
 ·exact h.tab.lt hx
 ·exact h.sto.lane.lt x hx
 ·exact h.sto.pool.lt hx
 ·exact h.sto.disk.lt x hx
theorem zM.same {LB K bm:Nat} {T:Tb} (h:zM w LB K bm T) (hK:w'.heap[K]?=w.heap[K]?) (hs:∀ x,yy bm T x->w'.heap[x]?=w.heap[x]?) (hz:w.heap.size<=w'.heap.size):zM w' LB K bm T:=by
 refine ⟨hK.trans h.blk,?_,fun p hp=>?_,h.base,h.apart,h.low,h.blow,Nat.le_trans h.size hz⟩
 ·obtain ⟨es,cl,h1,h2⟩:=h.outer
  exact ⟨es,cl,(hs _ (.inl rfl)).trans h1,h2⟩
 ·obtain ⟨es,cl,h1,h2⟩:=h.inner p hp
  exact ⟨es,cl,(hs _ (.inr ⟨p,hp,rfl⟩)).trans h1,h2⟩
theorem zg.stoStep (h:zg w a b cur s) {FL' F':Nat->Prop} {st':zl} (hs:qc w' a.B a.D a.L a.r FL' F' cur' st') (he:qa w w' (qG a.B b.FL b.F s.sto) (qG a.B FL' F' st') cur cur' a.r) :
  zg w' a { b with FL:=FL',F:=F' } cur' { s with sto:=st' }/\qa w w' (zS a b s) (zS a { b with FL:=FL',F:=F' } { s with sto:=st' }) cur cur' a.r:=by
 obtain ⟨t1,t2,t3,t4,t5,t6⟩:=h.tags
 have hne:∀ x,qG a.B b.FL b.F s.sto x->∀ t,qp w x=t->t∈[200,204,194,5,81,118,86,120]:=fun x hx t e=>e ▸ t6 x hx
 have hS:w'.heap[a.S]?=w.heap[a.S]?:=he.keep.block _ (zd h.row) (fun hx=>by have:=hne _ hx _ t1;simp at this)
 have hK:w'.heap[a.K]?=w.heap[a.K]?:=he.keep.block _ (zd h.lk.blk) (fun hx=>by have:=hne _ hx _ t2;simp at this)
 have hT:∀ x,yy a.bm b.T x->w'.heap[x]?=w.heap[x]?:=fun x hx=>he.keep.block _ (yy.tag h.lk hx).2 (fun hy=>by have:=hne _ hy _ (t3 x hx);simp at this)
 have hV:∀ x,b.v.ownBlock=some x->w'.heap[x]?=w.heap[x]?:=fun x hx=>he.keep.block _ (h.its.lt x hx).2 (fun hy=>by have:=hne _ hy _ (t4 x hx);simp at this)
 have hG:∀ i x,b.G i x->w'.heap[x]?=w.heap[x]?:=fun i x hx=>he.keep.block _ (h.tab.lt hx) (fun hy=>by have h1:=t6 x hy;have h2:=t5 i x hx;simp at h1 h2;omega)
 refine ⟨⟨hS.trans h.row,hs,zi h.its hV,h.tab.same hS hG he.keep.size,h.lk.same hK hT he.keep.size,h.lkM⟩,he.out,⟨he.keep.os,he.keep.tape,he.keep.output,he.keep.size,fun k hk hn=>he.keep.block k hk (fun hx=>hn (Yt hx))⟩,?_⟩
 intro x hx
 rcases hx with (rfl | rfl | hx | hx | ⟨i,hx⟩ | hx | hx) | hx
 ·exact .inl (.inl (.inl rfl))
 ·exact .inl (.inl (.inr (.inl rfl)))
 ·exact .inl (.inl (.inr (.inr (.inl hx))))
 ·exact .inl (.inl (.inr (.inr (.inr (.inl hx)))))
 ·exact .inl (.inl (.inr (.inr (.inr (.inr (.inl ⟨i,hx⟩))))))
 ·exact (he.new x (.inl (.inl hx))).imp Yt id
 ·exact (he.new x (.inr hx)).imp Yt id
 ·exact (he.new x (.inl (.inr hx))).imp Yt id
end
end
section
section
variable {w w':World} {a:Va} {b:Vb} {cur cur':Nat->Nat->List UInt8} {s:St}
theorem qc.same {B D L r:Nat} {FL F:Nat->Prop} {st:zl} (h:qc w B D L r FL F cur st) (hs:∀ x,qG B FL F st x->w'.heap[x]?=w.heap[x]?) (hz:w.heap.size<=w'.heap.size):qc w' B D L r FL F cur st :=
 { h with pool:=h.pool.same fun x hx=>hs x (.inr hx),lane:=h.lane.same (fun x hx=>hs x (.inl (.inl hx))) hz,disk:=h.disk.same (fun x hx=>hs x (.inl (.inr hx))) hz }
theorem zch {ts:qL} {i T:Nat} {x x':Tx} (hi:ts[i]?=some (some (T,x))):jV (ts.set i (some (T,x')))=jV ts:=by
 apply List.ext_getElem?
 intro j
 by_cases e:j=i
 ·subst e
  obtain ⟨hl,_⟩:=List.getElem?_eq_some_iff.1 hi
  simp only [jV,List.getElem?_map,hi,List.getElem?_set_self hl,Option.map_some]
 ·simp only [jV,List.getElem?_map,List.getElem?_set_ne (Ne.symm e)]
theorem zg.txStep (h:zg w a b cur s) {i T:Nat} {x x':Tx} {G':Nat->Prop} (hi:s.ts[i]?=some (some (T,x))) (ht:vn w' T x' G') (hx':x'.ok) (hk:zr (b.G i) w w') (hn:qh w (b.G i) G') :
  zg w' a { b with G:=zE b.G i G' } cur { s with ts:=s.ts.set i (some (T,x')) }/\qa w w' (zS a b s) (zS a { b with G:=zE b.G i G' } { s with ts:=s.ts.set i (some (T,x')) }) cur cur a.r:=by
 obtain ⟨t1,t2,t3,t4,t5,t6⟩:=h.tags
 have hil:i<s.ts.length:=(List.getElem?_eq_some_iff.1 hi).1
 have hne:∀ x,b.G i x->∀ t,qp w x=t->t∈[208,150,3]:=fun x hx t e=>e ▸ t5 i x hx
 have hS:w'.heap[a.S]?=w.heap[a.S]?:=hk.block _ (zd h.row) (fun hx=>by have:=hne _ hx _ t1;simp at this)
 have hK:w'.heap[a.K]?=w.heap[a.K]?:=hk.block _ (zd h.lk.blk) (fun hx=>by have:=hne _ hx _ t2;simp at this)
 have hT:∀ x,yy a.bm b.T x->w'.heap[x]?=w.heap[x]?:=fun x hx=>hk.block _ (yy.tag h.lk hx).2 (fun hy=>by have:=hne _ hy _ (t3 x hx);simp at this)
 have hV:∀ x,b.v.ownBlock=some x->w'.heap[x]?=w.heap[x]?:=fun x hx=>hk.block _ (h.its.lt x hx).2 (fun hy=>by have:=hne _ hy _ (t4 x hx);simp at this)
 have hO:∀ x,qG a.B b.FL b.F s.sto x->w'.heap[x]?=w.heap[x]?:=fun x hx=>hk.block _ (h.sto.lt hx) (fun hy=>by have h1:=t6 x hx;have h2:=t5 i x hy;simp at h1 h2;omega)
 have hG:∀ j x,j≠i->b.G j x->w'.heap[x]?=w.heap[x]?:=fun j x hj hx=>hk.block _ (h.tab.lt hx) (fun hy=>h.tab.sep j i x hj hx hy)
 have htv:jV (s.ts.set i (some (T,x')))=jV s.ts:=zch hi
 have hrow:w'.heap[a.S]?=some (.cells (yG a (s.ts.set i (some (T,x'))) b.v).toArray 103 (0,0)):=by
  unfold yG;rw [htv];exact hS.trans h.row
 refine ⟨⟨hrow,h.sto.same hO hk.size,zi h.its hV,?_,h.lk.same hK hT hk.size,h.lkM⟩,yd.refl _ _,⟨hk.os,hk.tape,hk.output,hk.size,fun k hk1 hn=>hk.block k hk1 (fun hx=>hn (.inl (.inr (.inr (.inr (.inr (.inl ⟨i,hx⟩)))))))⟩,?_⟩
 ·show jZ w' a.S (s.ts.set i (some (T,x'))) (zE b.G i G')
  refine ⟨by simp [h.tab.len],?_,?_,?_,?_,?_⟩
  ·rw [List.getElem?_set_ne (fun e=>by subst e;rw [h.tab.zero] at hi;cases hi)];exact h.tab.zero
  ·obtain ⟨C,h1,h2⟩:=h.tab.row
   exact ⟨C,hS.trans h1,fun j hj=>by rw [htv];exact h2 j hj⟩
  ·intro j c y hj
   by_cases e:j=i
   ·subst e
    rw [List.getElem?_set_self hil] at hj
    cases hj
    simp only [zf]
    exact ⟨ht,hx'⟩
   ·rw [List.getElem?_set_ne (Ne.symm e)] at hj
    rw [zm _ _ e]
    exact ⟨(h.tab.tx j c y hj).1.same (fun k hk=>hG j k e hk) hk.size,(h.tab.tx j c y hj).2⟩
  ·have key:∀ j x,j≠i->b.G j x->¬ G' x:=fun j x hj hx hx'=>by
    rcases hn x hx' with h1 | h1
    ·exact h.tab.sep j i x hj hx h1
    ·have:=h.tab.lt hx;omega
   intro j k x hjk hx
   by_cases e:j=i
   ·subst e
    rw [zf] at hx
    rw [zm _ _ (Ne.symm hjk)]
    exact fun hy=>key k x (Ne.symm hjk) hy hx
   ·rw [zm _ _ e] at hx
    by_cases e2:k=i
    ·subst e2;rw [zf];exact key j x e hx
    ·rw [zm _ _ e2];exact h.tab.sep j k x hjk hx
  ·intro j hj x
   by_cases e:j=i
   ·subst e
    exact (hj (T,x') (List.getElem?_set_self hil)).elim
   ·rw [zm _ _ e]
    exact h.tab.emp j (fun p hp=>hj p (by rw [List.getElem?_set_ne (Ne.symm e)];exact hp)) x
 ·intro y hy
  rcases hy with (rfl | rfl | hy | hy | ⟨j,hy⟩ | hy | hy) | hy
  ·exact .inl (.inl (.inl rfl))
  ·exact .inl (.inl (.inr (.inl rfl)))
  ·exact .inl (.inl (.inr (.inr (.inl hy))))
  ·exact .inl (.inl (.inr (.inr (.inr (.inl hy)))))
  ·by_cases e:j=i
   ·subst e
    simp only [zf] at hy
    exact (hn y hy).imp (fun h1=>.inl (.inr (.inr (.inr (.inr (.inl ⟨j,h1⟩)))))) id
   ·simp only [zm _ _ e] at hy
    exact .inl (.inl (.inr (.inr (.inr (.inr (.inl ⟨j,hy⟩))))))
  ·exact .inl (.inl (.inr (.inr (.inr (.inr (.inr (.inl hy)))))))
  ·exact .inl (.inl (.inr (.inr (.inr (.inr (.inr (.inr hy)))))))
  ·exact .inl (.inr hy)
theorem zg.lkStep (h:zg w a b cur s) {T':Tb} {X:Nat->Prop} (hT':zM w' a.LB a.K a.bm T') (hk:qw w w' a.bm b.T T') (ht:zn X w w') :
  zg w' a { b with T:=T' } cur { s with lk:=zh T' }/\qa w w' (zS a b s) (zS a { b with T:=T' } { s with lk:=zh T' }) cur cur a.r:=by
 obtain ⟨t1,t2,t3,t4,t5,t6⟩:=h.tags
 have key:∀ x,x<w.heap.size->qp w x≠100001->w'.heap[x]?=w.heap[x]?:=fun x hx hn=>(hk x hx (fun e=>hn (by rw [e];exact t3 _ (.inl rfl))) (fun p hp e=>hn (by rw [<- e];exact t3 _ (.inr ⟨p,hp,rfl⟩)))).1
 have hS:=key _ (zd h.row) (by rw [t1];decide)
 have hV:∀ x,b.v.ownBlock=some x->w'.heap[x]?=w.heap[x]?:=fun x hx=>key _ (h.its.lt x hx).2 (by rw [t4 x hx];decide)
 have hO:∀ x,qG a.B b.FL b.F s.sto x->w'.heap[x]?=w.heap[x]?:=fun x hx=>key _ (h.sto.lt hx) (by have h1:=t6 x hx;simp at h1;omega)
 have hG:∀ j x,b.G j x->w'.heap[x]?=w.heap[x]?:=fun j x hx=>key _ (h.tab.lt hx) (by have h1:=t5 j x hx;simp at h1;omega)
 refine ⟨⟨hS.trans h.row,h.sto.same hO ht.size,zi h.its hV,h.tab.same hS hG ht.size,hT',rfl⟩,yd.refl _ _,⟨ht.os,ht.tape,ht.output,ht.size,fun k hk1 hn=>(hk k hk1 (fun e=>hn (.inl (.inr (.inr (.inl (.inl e)))))) (fun p hp e=>hn (.inl (.inr (.inr (.inl (.inr ⟨p,hp,e⟩))))))).1⟩,?_⟩
 intro y hy
 rcases hy with (rfl | rfl | hy | hy | ⟨j,hy⟩ | hy | hy) | hy
 ·exact .inl (.inl (.inl rfl))
 ·exact .inl (.inl (.inr (.inl rfl)))
 ·by_cases hlt:y<w.heap.size
  ·by_cases ho:yy a.bm b.T y
   ·exact .inl (.inl (.inr (.inr (.inl ho))))
   ·have h2:=(hk y hlt (fun e=>ho (.inl e)) (fun p hp e=>ho (.inr ⟨p,hp,e⟩))).2
    rcases hy with e | ⟨p,hp,e⟩
    ·exact (ho (.inl e)).elim
    ·exact (h2 p hp e).elim
  ·exact .inr (by omega)
 ·exact .inl (.inl (.inr (.inr (.inr (.inl hy)))))
 ·exact .inl (.inl (.inr (.inr (.inr (.inr (.inl ⟨j,hy⟩))))))
 ·exact .inl (.inl (.inr (.inr (.inr (.inr (.inr (.inl hy)))))))
 ·exact .inl (.inl (.inr (.inr (.inr (.inr (.inr (.inr hy)))))))
 ·exact .inl (.inr hy)
theorem zg.idxStep (h:zg w a b cur s) {w0:World} {v':Value} {its':List It} (hw:w'=w0/\v'=b.v∨w'=w0.setCell ⟨a.S,7,none⟩ v') (hk:zr (fun x=>b.v.ownBlock=some x) w w0) (hv:∀ x,v'.ownBlock=some x->b.v.ownBlock=some x∨w.heap.size<=x) (hi:qg w0 v' its') :
  zg w' a { b with v:=v' } cur { s with its:=its' }/\qa w w' (zS a b s) (zS a { b with v:=v' } { s with its:=its' }) cur cur a.r:=by
 obtain ⟨t1,t2,t3,t4,t5,t6⟩:=h.tags
 have hSl:=zd h.row
 have key:∀ x,x<w.heap.size->qp w x≠136->w0.heap[x]?=w.heap[x]?:=fun x hx hn=>hk.block _ hx (fun e=>hn (t4 x e))
 have hS0:w0.heap[a.S]?=some (.cells (yG a s.ts b.v).toArray 103 (0,0)):=(key _ hSl (by rw [t1];decide)).trans h.row
 have hkw:∀ x,x<w.heap.size->qp w x≠136->x≠a.S->w'.heap[x]?=w.heap[x]?:=fun x hx hn hxs=>by
  rcases hw with ⟨rfl,_⟩ | rfl
  ·exact key x hx hn
  ·exact (heap_setCell_other _ _ _ _ hxs).trans (key x hx hn)
 have hz:w.heap.size<=w'.heap.size:=by
  rcases hw with ⟨rfl,_⟩ | rfl
  ·exact hk.size
  ·have:=hk.size;simpa using this
 have hrow:w'.heap[a.S]?=some (.cells (yG a s.ts v').toArray 103 (0,0)):=by
  rcases hw with ⟨rfl,rfl⟩ | rfl
  ·exact hS0
  ·rw [heap_setCell_same _ _ 7 _ _ _ hS0]
   have h4:=h.tab.len
   generalize s.ts=ts at h4
   match ts,h4 with
   | [_,_,_,_],_=>rfl
 have hi':qg w' v' its':=by
  rcases hw with ⟨rfl,_⟩ | rfl
  ·exact hi
  ·exact own_set1 hi (own_ne hi hS0 (by decide)) _ _
 have hT:∀ x,yy a.bm b.T x->w'.heap[x]?=w.heap[x]?:=fun x hx=>hkw _ (yy.tag h.lk hx).2 (by rw [t3 x hx];decide) (fun e=>by have h9:=t3 x hx;rw [e,t1] at h9;cases h9)
 have hO:∀ x,qG a.B b.FL b.F s.sto x->w'.heap[x]?=w.heap[x]?:=fun x hx=>hkw _ (h.sto.lt hx) (by have h1:=t6 x hx;simp at h1;omega) (fun e=>by have h9:=t6 x hx;rw [e,t1] at h9;simp at h9)
 have hG:∀ j x,b.G j x->w'.heap[x]?=w.heap[x]?:=fun j x hx=>hkw _ (h.tab.lt hx) (by have h1:=t5 j x hx;simp at h1;omega) (fun e=>by have h9:=t5 j x hx;rw [e,t1] at h9;simp at h9)
 have hK:w'.heap[a.K]?=w.heap[a.K]?:=hkw _ (zd h.lk.blk) (by rw [t2];decide) (fun e=>by have h9:=t2;rw [e,t1] at h9;cases h9)
 have htab:yg w' a.S s.ts:=⟨_,hrow,fun i hi=>YO (by rw [h.tab.len];exact hi)⟩
 refine ⟨⟨hrow,h.sto.same hO hz,hi',⟨h.tab.len,h.tab.zero,htab,fun i c x hx=>⟨(h.tab.tx i c x hx).1.same (fun k hk=>hG i k hk) hz,(h.tab.tx i c x hx).2⟩,h.tab.sep,h.tab.emp⟩,h.lk.same hK hT hz,h.lkM⟩,yd.refl _ _,?_,?_⟩
 ·refine ⟨?_,?_,?_,hz,fun k hk1 hn=>?_⟩
  ·rcases hw with ⟨rfl,_⟩ | rfl<;>exact hk.os
  ·rcases hw with ⟨rfl,_⟩ | rfl<;>exact hk.tape
  ·rcases hw with ⟨rfl,_⟩ | rfl<;>exact hk.output
  ·have hkS:k≠a.S:=fun e=>hn (.inl (.inl e))
   have hk0:=hk.block k hk1 (fun e=>hn (.inl (.inr (.inr (.inr (.inl e))))))
   rcases hw with ⟨rfl,_⟩ | rfl
   ·exact hk0
   ·exact (heap_setCell_other _ _ _ _ hkS).trans hk0
 ·intro y hy
  rcases hy with (rfl | rfl | hy | hy | ⟨j,hy⟩ | hy | hy) | hy
  ·exact .inl (.inl (.inl rfl))
  ·exact .inl (.inl (.inr (.inl rfl)))
  ·exact .inl (.inl (.inr (.inr (.inl hy))))
  ·exact (hv y hy).imp (fun h1=>.inl (.inr (.inr (.inr (.inl h1))))) id
  ·exact .inl (.inl (.inr (.inr (.inr (.inr (.inl ⟨j,hy⟩))))))
  ·exact .inl (.inl (.inr (.inr (.inr (.inr (.inr (.inl hy)))))))
  ·exact .inl (.inl (.inr (.inr (.inr (.inr (.inr (.inr hy)))))))
  ·exact .inl (.inr hy)
end
end
section
theorem zfz {a:Va} {ts:qL} {v:Value} {n:Nat} {o:Option (Nat × Tx)} (h4:ts.length=4) (h1:1<=n) (h3:n<=3):(yG a ts v).toArray.setIfInBounds (1+n) (.pointer (o.map fun p=>⟨p.1,0,none⟩))=(yG a (ts.set n o) v).toArray:=by
 match ts,h4 with
 | [_,_,_,_],_ =>
  obtain rfl | rfl | rfl:n=1∨n=2∨n=3:=by omega
  ·rfl
  ·rfl
  ·rfl
section
variable {w w':World} {a:Va} {b:Vb} {cur cur':Nat->Nat->List UInt8} {s:St}
theorem zg.tabStep (h:zg w a b cur s) {w1:World} {n:Nat} {o:Option (Nat × Tx)} {G':Nat->Prop} (hb:Below w.heap.size w w1) (h1:1<=n) (h3:n<=3) (hG':∀ x,G' x->w.heap.size<=x) (hx:∀ c y,o=some (c,y)->vn w1 c y G'/\y.ok) (he:o=none->∀ x,¬ G' x) :
  zg (w1.setCell ⟨a.S,1+n,none⟩ (.pointer (o.map fun p=>⟨p.1,0,none⟩))) a { b with G:=zE b.G n G' } cur { s with ts:=s.ts.set n o } /\
   qa w (w1.setCell ⟨a.S,1+n,none⟩ (.pointer (o.map fun p=>⟨p.1,0,none⟩))) (zS a b s) (zS a { b with G:=zE b.G n G' } { s with ts:=s.ts.set n o }) cur cur a.r:=by
 obtain ⟨t1,t2,t3,t4,t5,t6⟩:=h.tags
 have hSl:=zd h.row
 have h4:=h.tab.len
 have key:∀ x,x<w.heap.size->x≠a.S->(w1.setCell ⟨a.S,1+n,none⟩ (.pointer (o.map fun p=>⟨p.1,0,none⟩))).heap[x]?=w.heap[x]?:=fun x hx hn=>(heap_setCell_other _ _ _ _ hn).trans (hb.block x hx)
 have hz:w.heap.size<=(w1.setCell ⟨a.S,1+n,none⟩ (.pointer (o.map fun p=>⟨p.1,0,none⟩))).heap.size:=by have:=hb.size;simpa using this
 have hrow:(w1.setCell ⟨a.S,1+n,none⟩ (.pointer (o.map fun p=>⟨p.1,0,none⟩))).heap[a.S]?=some (.cells (yG a (s.ts.set n o) b.v).toArray 103 (0,0)):=by
  rw [heap_setCell_same _ _ (1+n) _ _ _ (zb h.row hb hSl),zfz h4 h1 h3]
 have hT:=fun x hx=>key x (yy.tag h.lk hx).2 (fun e=>by have h9:=t3 x hx;rw [e,t1] at h9;cases h9)
 have hV:∀ x,b.v.ownBlock=some x->_:=fun x hx=>key x (h.its.lt x hx).2 (fun e=>by have h9:=t4 x hx;rw [e,t1] at h9;cases h9)
 have hO:∀ x,qG a.B b.FL b.F s.sto x->_:=fun x hx=>key x (h.sto.lt hx) (fun e=>by have h9:=t6 x hx;rw [e,t1] at h9;simp at h9)
 have hG:∀ j x,b.G j x->_:=fun j x hx=>key x (h.tab.lt hx) (fun e=>by have h9:=t5 j x hx;rw [e,t1] at h9;simp at h9)
 have hK:=key a.K (zd h.lk.blk) (fun e=>by have h9:=t2;rw [e,t1] at h9;cases h9)
 have hnl:n<s.ts.length:=by omega
 refine ⟨⟨hrow,h.sto.same hO hz,zi h.its hV,?_,h.lk.same hK hT hz,h.lkM⟩,yd.refl _ _,⟨hb.os,hb.tape,hb.output,hz,fun k hk hn=>key k hk (fun e=>hn (.inl (.inl e)))⟩,?_⟩
 ·show jZ _ a.S (s.ts.set n o) (zE b.G n G')
  refine ⟨by simp [h4],?_,⟨_,hrow,fun i hi=>YO (by simp [h4];exact hi)⟩,?_,?_,?_⟩
  ·rw [List.getElem?_set_ne (by omega)];exact h.tab.zero
  ·intro j c y hj
   by_cases e:j=n
   ·subst e
    rw [List.getElem?_set_self hnl] at hj
    injection hj with hj
    obtain ⟨h5,h6⟩:=hx c y hj
    rw [zf]
    refine ⟨h5.same (fun k hk=>heap_setCell_other _ _ _ _ (fun e=>?_)) (by simp),h6⟩
    have e':k=a.S:=e
    have:=hG' k hk;omega
   ·rw [List.getElem?_set_ne (Ne.symm e)] at hj
    rw [zm _ _ e]
    exact ⟨(h.tab.tx j c y hj).1.same (fun k hk=>hG j k hk) hz,(h.tab.tx j c y hj).2⟩
  ·have fresh:∀ j x,b.G j x->¬ G' x:=fun j x hx hy=>by have:=hG' x hy;have:=h.tab.lt hx;omega
   intro j k x hjk hx
   by_cases e:j=n
   ·subst e
    rw [zf] at hx
    rw [zm _ _ (Ne.symm hjk)]
    exact fun hy=>fresh k x hy hx
   ·rw [zm _ _ e] at hx
    by_cases e2:k=n
    ·subst e2;rw [zf];exact fresh j x hx
    ·rw [zm _ _ e2];exact h.tab.sep j k x hjk hx
  ·intro j hj x
   by_cases e:j=n
   ·subst e
    rw [zf]
    cases o with
    | none=>exact he rfl x
    | some p=>exact (hj p (List.getElem?_set_self hnl)).elim
   ·rw [zm _ _ e]
    exact h.tab.emp j (fun p hp=>hj p (by rw [List.getElem?_set_ne (Ne.symm e)];exact hp)) x
 ·intro y hy
  rcases hy with (rfl | rfl | hy | hy | ⟨j,hy⟩ | hy | hy) | hy
  ·exact .inl (.inl (.inl rfl))
  ·exact .inl (.inl (.inr (.inl rfl)))
  ·exact .inl (.inl (.inr (.inr (.inl hy))))
  ·exact .inl (.inl (.inr (.inr (.inr (.inl hy)))))
  ·by_cases e:j=n
   ·subst e
    simp only [zf] at hy
    exact .inr (hG' y hy)
   ·simp only [zm _ _ e] at hy
    exact .inl (.inl (.inr (.inr (.inr (.inr (.inl ⟨j,hy⟩))))))
  ·exact .inl (.inl (.inr (.inr (.inr (.inr (.inr (.inl hy)))))))
  ·exact .inl (.inl (.inr (.inr (.inr (.inr (.inr (.inr hy)))))))
  ·exact .inl (.inr hy)
end
def Jx (ts:qL):Nat:=(2+jK (zH ts))*395+1185
theorem ziu (a:Va) (b:Vb) (cur:Nat->Nat->List UInt8) (s:St) (w:World) (h:zg w a b cur s) :
  Calls Tryz.prog 105 #[.pointer (some ⟨a.S,0,none⟩)] w fun e w'=>e=.returned (.int .i64 (Jx s.ts))/\Below w.heap.size w w':=by
 have HC:=hid (zdw a.S s.ts b.G w h.tab)
 have hle:=h.tab.chgs_le (zH s.ts).length (Nat.le_refl _)
 have h4:=jP s.ts 0
 rw [List.take_length] at hle
 have hlen:(zH s.ts).length<=4:=by rw [h.tab.len] at h4;exact h4
 have hN:Jx s.ts=(2+jK (zH s.ts))*395+1185:=rfl
 generalize jK (zH s.ts)=n at HC hle hN
 generalize Jx s.ts=m at hN ⊢
 have x1:IntKind.i64.wrap (2+(n:Int))=2+(n:Int):=by rw [IntKind.wrap_i64];omega
 have x2:IntKind.i64.wrap ((2+(n:Int))*395)=(2+(n:Int))*395:=by rw [IntKind.wrap_i64];omega
 have x3:IntKind.i64.wrap ((2+(n:Int))*395+1185)=(m:Int):=by rw [hN,IntKind.wrap_i64];omega
 clear h hN h4 hle
 go_enter Tryz.func105,Tryz.ntmps105
 go_wp2_with (go_at_call 141;(with_reducible refine HC.out.mono ?_);rintro e1 w1 ⟨rfl,hb1⟩)
 go_ret
 exact ⟨rfl,hb1⟩
end
section
attribute [local go_sem] Oper.semAt_some
def yJ (i:Nat) (c:Chg):zI:=⟨2,i,c.pg,c.sl,c.before,none,[],[]⟩
def yr (l:List (Nat × Nat × Tx)):List zI:=l.flatMap fun p=>p.2.2.list.map (yJ p.1)
def qY (ts:qL):List zI:=qo::yr (zH ts)
theorem zcr {l:List (Nat × Nat × Tx)} {k i b:Nat} {x:Tx} (h:l[k]?=some (i,b,x)):yr (l.take (k+1))=yr (l.take k)++x.list.map (yJ i):=by
 obtain ⟨hl,hx⟩:=List.getElem?_eq_some_iff.1 h
 rw [List.take_succ_eq_append_getElem hl,hx]
 simp [yr]
theorem JK:∀ (l:List (Nat × Nat × Tx)),(yr l).length=jK l
 | []=>rfl
 | p::l=>by
  have:=JK l
  simp only [yr,jK,List.flatMap_cons,List.length_append,List.length_map,List.map_cons,List.sum_cons] at *
  omega
theorem zit {l:List Chg} {j i:Nat} {c:Chg} (h:l[j]?=some c):(l.take (j+1)).map (yJ i)=(l.take j).map (yJ i)++[yJ i c]:=by
 obtain ⟨hl,hx⟩:=List.getElem?_eq_some_iff.1 h
 rw [List.take_succ_eq_append_getElem hl,hx]
 simp
theorem zaG:yU Tryz.prog 144 8 104:=yU.of (by kernel_rfl)
theorem zdd (r:zI):∀ u∈qI r,u.oneCell'=true:=by
 intro u hu;simp only [qI,List.mem_cons,List.not_mem_nil,or_false] at hu
 rcases hu with rfl | rfl | rfl | rfl | rfl | rfl | rfl | rfl<;>rfl
theorem zcd (a b:List zI):jf (a++b)=jf a++jf b:=by simp [jf]
theorem World.ownsRow_one_new_ (w:World) (e s:Nat) (cs:List Value) (hs:cs.length=s) (h0:1<=maxLen:=by decide):(w.alloc (.cells cs.toArray e)).ownsRow w.heap.size e s (.slice (some ⟨w.heap.size,0,none⟩) 1 1) 1 cs:=by
 refine ⟨by omega,.inr ⟨w.heap.size,1,cs.toArray,rfl,Nat.le_refl _,zk _ _ rfl,Nat.le_refl _,h0,by simp [hs],?_⟩⟩
 rw [List.take_of_length_le (by simp;omega)]
def zl.pack (s:zl) (ts:qL):zl:={ s.flushTo 6 with gen:=s.gen+1,bank:=1-s.bank,log:=zp (qY ts),sure:=(zp (qY ts)).length }
theorem Qc (s:zl):∀ k,(s.flushTo k).gen=s.gen/\(s.flushTo k).bank=s.bank/\(s.flushTo k).log=s.log
 | 0=>⟨rfl,rfl,rfl⟩
 | k+1=>by
  rw [zl.flushTo_step]
  have h:=Qc s k
  generalize s.flushTo k=t at h
  unfold zl.flush
  split
  ·exact h
  ·unfold zl.write
   split
   ·exact h
   ·split
    ·exact h
    ·split
     ·exact h
     ·exact h
section
variable {w w':World} {a:Va} {b:Vb} {cur cur':Nat->Nat->List UInt8} {s:St}
theorem zg.same (h:zg w a b cur s) (hs:∀ x,zS a b s x->w'.heap[x]?=w.heap[x]?) (hz:w.heap.size<=w'.heap.size):zg w' a b cur s :=
 ⟨(hs _ (.inl (.inl rfl))).trans h.row,h.sto.same (fun x hx=>hs x (Yt hx)) hz,zi h.its fun x hx=>hs x (.inl (.inr (.inr (.inr (.inl hx))))),
  h.tab.same (hs _ (.inl (.inl rfl))) (fun i x hx=>hs x (.inl (.inr (.inr (.inr (.inr (.inl ⟨i,hx⟩))))))) hz,h.lk.same (hs _ (.inl (.inr (.inl rfl)))) (fun x hx=>hs x (.inl (.inr (.inr (.inl hx))))) hz,h.lkM⟩
theorem zg.notDef (h:zg w a b cur s) {x:Nat} {d:Option (List Deferred)} (hx:w.heap[x]?=some (.deferred d)):¬ zS a b s x:=fun hy=>by
 obtain ⟨t1,t2,t3,t4,t5,t6⟩:=h.tags
 have ht:qp w x=100002:=by simp [qp,hx]
 rcases hy with (rfl | rfl | hy | hy | ⟨i,hy⟩ | hy | hy) | hy
 ·rw [t1] at ht;cases ht
 ·rw [t2] at ht;cases ht
 ·rw [t3 x hy] at ht;cases ht
 ·rw [t4 x hy] at ht;cases ht
 ·have:=t5 i x hy;rw [ht] at this;simp at this
 ·have:=t6 x (.inl (.inl hy));rw [ht] at this;simp at this
 ·have:=t6 x (.inr hy);rw [ht] at this;simp at this
 ·have:=t6 x (.inl (.inr hy));rw [ht] at this;simp at this
theorem zr.wide {M N:Nat->Prop} (h:zr M w w') (hm:∀ x,M x->N x):zr N w w':=⟨h.os,h.tape,h.output,h.size,fun k hk hn=>h.block k hk (fun hx=>hn (hm k hx))⟩
theorem qa.put {M M':Nat->Prop} {r l:Nat} (h:qa w w' M M' cur cur' r) (hl:w.heap.size<=l) (o:Obj):qa w (w'.putObj l o) M M' cur cur' r :=
 ⟨h.out,⟨h.keep.os,h.keep.tape,h.keep.output,by rw [World.putObj_size];exact h.keep.size,fun k hk hn=>(World.putObj_heap_other (by omega)).trans (h.keep.block k hk hn)⟩,h.new⟩
end
theorem GQ {rs:List zI} (h:∀ r,r∈rs->r.ok):(zp rs).length<=rs.length*395:=by
 induction rs with
 | nil=>simp [zp]
 | cons r rs ih =>
  have h1:=yM (h r (by simp))
  have h2:=ih (fun x hx=>h x (by simp [hx]))
  simp only [zp,List.flatMap_cons,List.length_append,List.length_cons] at *
  omega
theorem zhP {i:Nat} {c:Chg} (hi:i<4) (h:c.pg<6/\c.sl<5/\qX c.before):(yJ i c).ok:=⟨by simp [yJ],by simp [yJ],by simp [yJ];omega,h.1,h.2.1,h.2.2,trivial,.inl rfl,.inl rfl,by simp [yJ]⟩
theorem jZ.packOk {w:World} {S:Nat} {ts:qL} {G:Nat->Nat->Prop} (h:jZ w S ts G):∀ x,x∈qY ts->x.ok/\x.dirty=[]:=by
 intro x hx
 rcases List.mem_cons.1 hx with rfl | hx
 ·exact ⟨vT,rfl⟩
 ·obtain ⟨⟨i,b,y⟩,hp,hc⟩:=List.mem_flatMap.1 hx
  obtain ⟨c,hc2,rfl⟩:=List.mem_map.1 hc
  obtain ⟨k,h1,h2⟩:=Zc hp
  have hlt:=(List.getElem?_eq_some_iff.1 h2).1
  have:=h.len
  exact ⟨zhP (by simp only;omega) ((h.tx k b y h2).2.chg c hc2),rfl⟩
theorem jZ.packLen {w:World} {S:Nat} {ts:qL} {G:Nat->Nat->Prop} (h:jZ w S ts G):(qY ts).length<=33:=by
 have e2:=h.chgs_le _ (Nat.le_refl _)
 have e3:(zH ts).length<=4:=by have:=jP ts 0;rw [h.len] at this;exact this
 rw [List.take_length] at e2
 simp only [qY,List.length_cons,JK]
 omega
theorem zcW (a:Va) (b:Vb) (cur:Nat->Nat->List UInt8) (s:St) (w:World) (h:zg w a b cur s) (hgen:s.sto.gen+1<4294967296) :
  Calls Tryz.prog 37 #[.pointer (some ⟨a.S,0,none⟩)] w fun e w'=>e=.returned (.int .i64 0)/\∃ b' cur',zg w' a b' cur' { s with sto:=s.sto.pack s.ts }/\qa w w' (zS a b s) (zS a b' { s with sto:=s.sto.pack s.ts }) cur cur' a.r:=by
 have k6:=h.c6
 have HF:=hid (zcE a.B a.D a.L a.r b.FL b.F cur s.sto w h.sto)
 have H:=hid h
 clear h
 refine uQ Tryz.func37 rfl ?_
 simp only [Tryz.ntmps37,List.size_toArray,List.length_cons,List.length_nil,Nat.reduceAdd,Nat.reduceSub,Array.replicate_succ,Array.replicate_zero,List.push_toArray,List.append_toArray,List.nil_append,List.cons_append]
 go_upto_region 4 with (go_at_call 67;(with_reducible refine HF.out.mono ?_);rintro e1 w1 ⟨rfl,F1,cur1,hs1,he1⟩)
 obtain ⟨hA1,hE1⟩:=H.out.stoStep hs1 he1
 obtain ⟨HA1,HE1⟩:=zi2 hA1 hE1
 clear hs1 he1 hA1 hE1 k6
 go_wp2_with (show wpList _ _ _ (⟨some 18,_,_,_,_,_⟩::_) _ _;refine wpList_plain rfl fun _ hK=>vf 145 144 8 104 (.tmp 17) rfl (.agg (qI qo).toArray) (by rfl) Tryz.underlying145 zaG (by rfl) (by omega) (by omega) (hK _ _ ?_))
 have HT:=hid HA1.out.tab
 obtain ⟨ts,hts⟩:∃ ts,ts=s.ts:=⟨_,rfl⟩
 have HT2:Hid (jZ w1 a.S ts b.G):=by rw [hts];exact hid HT.out
 have HTS:=hid hts
 clear HT hts
 refine Jp (gf:=68) (bound:=#[.pointer (some ⟨a.S,1,none⟩)]) (caps:=#[]) (by rfl) (by kernel_rfl) (zH ts).length (vH ts) (QA ts) (fun k W=>Below w1.heap.size w1 W/\w1.heap.size+4<=W.heap.size/\∃ v,W.heap[w1.heap.size+1]?=some (.cells #[v] 145 (0,0))/\W.ownsRow w1.heap.size 144 8 v (qo::yr ((zH ts).take k)).length (jf (qo::yr ((zH ts).take k)))/\∀ q,v.ownBlock=some q->q=w1.heap.size∨w1.heap.size+4<=q) ?h0 ?hput ?hbel (zaD a.S ts _ HT2.out.len (fun W hW=>HT2.out.row.same (hW.1.block a.S HT2.out.row.lt))) ?hround ?hend
 case h0 =>
  intro rec
  refine ⟨B_alloc (B_alloc (B_alloc (B_alloc (Below.refl _ _) _) _) _) _,by simp,_,zy (zy (zk _ _ (by simp)) _) _,?_,fun q hq=>.inl (by injection hq with hq;exact hq.symm)⟩
  refine zi (World.ownsRow_one_new_ w1 144 8 (qI qo) rfl) (fun q hq=>?_)
  injection hq with hq
  subst hq
  exact (Below.heap_alloc _ _ _ (by simp<;>omega)).trans ((Below.heap_alloc _ _ _ (by simp<;>omega)).trans (Below.heap_alloc _ _ _ (by simp)))
 case hput =>
  rintro k W o ⟨h1,h2,v,h4,h5,h6⟩ hl
  refine ⟨Below.put h1 (by simp<;>omega) o,by simpa using h2,v,(World.putObj_heap_other (by simp<;>omega)).trans h4,zi h5 fun q hq=>World.putObj_heap_other (by rcases h6 q hq with h | h<;>simp<;>omega),h6⟩
 case hbel =>
  rintro k W W' ⟨h1,h2,v,h4,h5,h6⟩ hb
  exact ⟨B_call h1 hb,Nat.le_trans h2 hb.size,v,zb h4 hb (zd h4),zi h5 fun q hq=>hb.block q (h5.lt q hq).2,h6⟩
 case hround =>
  rintro k W hk ⟨h1,h2,v,h4,h5,h6⟩ hl
  obtain ⟨⟨i,c,x⟩,hx⟩:∃ p,(zH ts)[k]?=some p:=⟨_,List.getElem?_eq_getElem hk⟩
  obtain ⟨htx,hok⟩:=HT2.out.tx i c x (HT2.out.open_ hx)
  rw [JT hx]
  simp only [List.zip_toArray,List.zip_cons_cons,List.zip_nil_right,List.foldl_toArray,List.foldl_cons,List.foldl_nil,List.setIfInBounds_toArray,List.set_cons_succ,List.set_cons_zero]
  refine wpIn_seq ?_
  refine ym (vr _) 0 rfl (fun _ _ h=>h) ?_
  go_wp2_with fail
  refine ym (vr _) 0 rfl (fun _ _ h=>h) ?_
  go_wp2_with fail
  refine ⟨uP.refl _ _,fun o=>?_⟩
  refine wpIn_block ?_
  obtain ⟨W2,hW2⟩:∃ W2,W.putObj (((w1.alloc (.cells (qI qo).toArray 144)).alloc (.cells #[.slice (some ⟨w1.heap.size,0,none⟩) 1 1] 145)).heap.size+1) o=W2:=⟨_,rfl⟩
  rw [hW2]
  simp only [World.size_alloc] at hW2 ⊢
  have hB2:Below w1.heap.size w1 W2:=by rw [<- hW2];exact Below.put h1 (by omega) o
  have hz2:w1.heap.size+4<=W2.heap.size:=by rw [<- hW2];simpa using h2
  have ho2:W2.heap[w1.heap.size+1]?=some (.cells #[v] 145 (0,0)):=by rw [<- hW2];exact (World.putObj_heap_other (by omega)).trans h4
  have hv2:W2.ownsRow w1.heap.size 144 8 v (qo::yr ((zH ts).take k)).length (jf (qo::yr ((zH ts).take k))):=by rw [<- hW2];exact zi h5 fun q hq=>World.putObj_heap_other (by rcases h6 q hq with h | h<;>omega)
  have HTX:=hid (htx.below hB2)
  obtain ⟨HX,HW2,HOK⟩:=zi3 hx hW2 hok
  have HLI:=hid (zet c x (b.G i) W2 HTX.out (by have:=hok.len;have:=hok.n8;omega))
  clear hx hW2 hok htx h1 h2 h4 h5
  gi_upto_region 8 with fail
  refine ym (vr _) 0 rfl (fun _ _ h=>h) ?_
  go_wp2_with (go_at_call 69;(with_reducible refine HLI.out.mono ?_);rintro e3 w3 ⟨u,rfl,hu,hb3⟩;obtain ⟨A,cu,rfl⟩:=own_slice hu)
  refine (by assumption:∀ a w,Code.wpIn _ 0 Tryz.prog _ _ a w->_) _ _ ?_
  obtain ⟨R,hR⟩:∃ R:Nat->World->Prop,R=fun j W=>uP (w1.heap.size+2) W2 W/\Below w1.heap.size w1 W/\W2.heap.size<=W.heap.size/\W.ownsRow W2.heap.size 150 3 (.slice A x.list.length cu) x.list.length (zY x.list)/\∃ v,W.heap[w1.heap.size+1]?=some (.cells #[v] 145 (0,0))/\W.ownsRow w1.heap.size 144 8 v ((qo::yr ((zH ts).take k))++(x.list.take j).map (yJ i)).length (jf ((qo::yr ((zH ts).take k))++(x.list.take j).map (yJ i)))/\∀ q,v.ownBlock=some q->q=w1.heap.size∨w1.heap.size+4<=q:=⟨_,rfl⟩
  have hR0:R 0 w3:=by
   rw [hR]
   exact ⟨uP.below hb3 (by omega),B_call hB2 hb3,hb3.size,hu,v,zb ho2 hb3 (zd ho2),by simpa using zi hv2 fun q hq=>hb3.block q (hv2.lt q hq).2,h6⟩
  obtain ⟨HR0,HR⟩:=zi2 hR0 hR
  clear hR hR0 hB2 ho2 hv2 h6 hu hb3
  gi_wp2
  gi_loopw [28] (fun u wr=>∃ j:Nat,j<=x.list.length/\u=.int .i64 j/\R j wr) (fun u _=>(x.list.length-jl u).toNat)
  case atStart=>exact ⟨0,Nat.zero_le _,rfl,HR0.out⟩
  case round =>
   obtain ⟨j,hj,rfl,hrj⟩:=hrel
   have hrj':=hrj
   rw [HR.out] at hrj'
   obtain ⟨g1,g2,g3,hu,v',g5,g6,g7⟩:=hrj'
   by_cases hlt:j<x.list.length
   ·obtain ⟨ch,hch⟩:∃ ch,x.list[j]?=some ch:=⟨_,List.getElem?_eq_getElem hlt⟩
    have q0:(0:Int)<=(j:Int):=by omega
    have q1:(j:Int)<(x.list.length:Int):=by omega
    have x2:IntKind.i64.wrap ((j:Int)+1)=(j:Int)+1:=by have:=HOK.out.len;have:=HOK.out.n8;rw [IntKind.wrap_i64];omega
    obtain ⟨g,rfl,hg,hgc,hrng⟩:=Jz hu hch
    obtain ⟨A5,c5,rfl⟩:=own_slice g6
    obtain ⟨n5,hn5⟩:∃ n5,n5=((qo::yr ((zH ts).take k))++(x.list.take j).map (yJ i)).length:=⟨_,rfl⟩
    obtain ⟨l5,hl5⟩:∃ l5,l5=jf ((qo::yr ((zH ts).take k))++(x.list.take j).map (yJ i)):=⟨_,rfl⟩
    rw [<- hn5,<- hl5] at g6
    rw [<- hn5] at g5 g7
    have f1:=(cell_of_row _ wr.heap.size 0 _ _ _ (zk wr (.cells (zw ch).toArray 150) rfl)).trans (show _=some (Value.int .i64 ch.pg) from rfl)
    have f2:=(cell_of_row _ wr.heap.size 1 _ _ _ (zk wr (.cells (zw ch).toArray 150) rfl)).trans (show _=some (Value.int .i64 ch.sl) from rfl)
    have f3:=(cell_of_row _ wr.heap.size 2 _ _ _ (zk wr (.cells (zw ch).toArray 150) rfl)).trans (show _=some (Value.string (za (zt ch.before))) from rfl)
    have f5:=jI ((cell_of_row wr (w1.heap.size+1) 0 _ _ _ g5).trans (show _=some (Value.slice A5 n5 c5) from rfl)) (.cells (zw ch).toArray 150)
    have hnn:n5<=1000:=by
     rw [hn5,List.length_append,List.length_map,List.length_cons,JK]
     have e2:=HT2.out.chgs_le k (by omega)
     have e3:(zH ts).length<=4:=by have:=jP ts 0;rw [HT2.out.len] at this;exact this
     have e5:(x.list.take j).length<=j:=by rw [List.length_take];omega
     have:=HOK.out.len;have:=HOK.out.n8
     omega
    have hG6:((wr.alloc (.cells (zw ch).toArray 150)).alloc (.cells (qI (yJ i ch)).toArray 144)).ownsRow w1.heap.size 144 8 (.slice A5 n5 c5) n5 l5:=zi g6 fun q hq=>(Below.heap_alloc _ _ q (by have:=(g6.lt q hq).2;simp;omega)).trans (Below.heap_alloc wr _ q (g6.lt q hq).2)
    have hrd:=zx.of_list (zk (wr.alloc (.cells (zw ch).toArray 150)) (.cells (qI (yJ i ch)).toArray 144) rfl) (size:=8) (n:=1) rfl
    obtain ⟨HRD,HG6,HN5,HL5,HRNG,HU⟩:=zi6 hrd hG6 hn5 hl5 hrng hu
    have hstep:=zit (i:=i) hch
    have HSTEP:=hid hstep
    clear hrng hstep hrj hch hn5 hl5 hG6 hu hrd
    gi_upto_region 10 with fail
    refine ym (vr _) 0 rfl (fun _ _ h=>h) ?_
    go_wp2_with (first
     | (show wpList _ _ _ (⟨some 31,_,_,_,_,_⟩::_) _ _;refine zZ rfl _ _ (qy 150 (.tmp 30) rfl g (j*3) (by rfl) (zw ch) _ HRNG.out Tryz.underlying150 rfl (by kernel_rfl)) ?_)
     | (show wpList _ _ _ (⟨none,.store 150 _ _,_,_,_,_⟩::_) _ _;refine zN rfl 150 (.tmp 8) (.tmp 31) rfl wr.heap.size rfl _ (zw ch).toArray (by rfl) (by rfl) (by kernel_rfl) (by rfl) (by simp [zw,Value.oneCell']) ?_))
    refine (by assumption:∀ a w,Code.wpIn _ 0 Tryz.prog _ _ a w->_) _ _ ?_
    gi_upto_region 11 with fail
    refine ym (vr _) 0 rfl (fun _ _ h=>h) ?_
    go_wp2_with (first
     | (show wpList _ _ _ (⟨some 41,_,_,_,_,_⟩::_) _ _;refine wpList_plain rfl fun _ hK=>vf 145 144 8 104 (.tmp 40) rfl (.agg (qI (yJ i ch)).toArray) (by rfl) Tryz.underlying145 zaG (by rfl) (by omega) (by omega) (hK _ _ ?_))
     | (show wpList _ _ _ (⟨some 42,_,_,_,_,_⟩::_) _ _;refine qW rfl (.tmp 32) (.tmp 41) 145 144 8 104 rfl Tryz.underlying145 zaG (by omega) _ _ _ w1.heap.size (by rfl) HG6.out _ 1 _ _ _ (by rfl) HRD.out (zdd _) (by omega) (by omega) (by simp;omega) ?_;intro v8 w8 hown8 hg8 ho8;obtain ⟨A8,c8,rfl⟩:=own_slice hown8;have g58:=zX (zy (zy g5 _) _) hg8 (fun e=>by rcases g7 _ e with h | h<;>omega);have k58:=frozen_of_row w8 (w1.heap.size+1) 0 _ _ g58;have k59:=cell_of_row w8 (w1.heap.size+1) 0 _ _ _ g58))
    have hst8:(w8.setCell ⟨w1.heap.size+1,0,none⟩ (.slice A8 (n5+1) c8)).heap[w1.heap.size+1]?=some (.cells #[.slice A8 (n5+1) c8] 145 (0,0)):=by rw [heap_setCell_same _ _ 0 _ _ _ g58];rfl
    have hRn:R (j+1) (w8.setCell ⟨w1.heap.size+1,0,none⟩ (.slice A8 (n5+1) c8)):=by
     have hb8:Below wr.heap.size wr ((wr.alloc (.cells (zw ch).toArray 150)).alloc (.cells (qI (yJ i ch)).toArray 144)):=B_alloc (B_alloc (Below.refl _ _) _) _
     have hgo:∀ q,q<wr.heap.size->(Value.slice A5 n5 c5).ownBlock≠some q->q≠w1.heap.size+1->(w8.setCell ⟨w1.heap.size+1,0,none⟩ (.slice A8 (n5+1) c8)).heap[q]?=wr.heap[q]?:=fun q h1 h2 h3 =>
      (heap_setCell_other _ _ _ _ h3).trans ((hg8.block q (by simp;omega) (fun e=>h2 e.symm)).trans (hb8.block q h1))
     have hz8:wr.heap.size+2<=w8.heap.size:=by have:=hg8.size;simpa using this
     rw [HR.out]
     refine ⟨g1.trans ⟨by simp;omega,hgo _ (by omega) (fun e=>by rcases g7 _ e with h | h<;>omega) (by omega),hgo _ (by omega) (fun e=>by rcases g7 _ e with h | h<;>omega) (by omega)⟩,?_,by simp;omega,?_,_,hst8,?_,?_⟩
     ·exact B_set ((B_alloc (B_alloc g2 _) _).grown hg8 (by simp;omega) (fun q e=>by rcases g7 q e with h | h<;>omega)) (by show w1.heap.size<=w1.heap.size+1;omega) _
     ·refine zi HU.out fun q hq=>hgo q (HU.out.lt q hq).2 (zew HU.out g6 (by decide) hq) ?_
      have:=(HU.out.lt q hq).1;omega
     ·rw [HSTEP.out,<- List.append_assoc,List.length_append,<- HN5.out,List.length_singleton,zcd,<- HL5.out]
      refine own_set1 (by rw [show jf [yJ i ch]=qI (yJ i ch) by simp [jf]];exact hown8) (fun e=>?_) _ _
      rcases ho8 with h8 | h8
      ·rw [h8] at e;rcases g7 _ e with h | h<;>omega
      ·rw [h8] at e;injection e with e;simp at e;omega
     ·intro q hq
      rcases ho8 with h8 | h8
      ·exact g7 q (by rw [<- h8];exact hq)
      ·have hq':(Value.slice A8 (n5+1) c8).ownBlock=some q:=hq
       rw [h8] at hq';injection hq' with hq';simp at hq';omega
    refine (by assumption:∀ a w,Code.wpIn _ 0 Tryz.prog _ _ a w->_) _ _ ?_
    gi_wp2
    exact ⟨⟨j+1,by omega,by simp,hRn⟩,by simp [jl];omega⟩
   ·have hje:j=x.list.length:=by omega
    have q1:¬ ((j:Int)<(x.list.length:Int)):=by omega
    subst hje
    gi_wp2
    rw [List.take_length] at g6
    have hz2':=g1.size
    refine ⟨⟨g2,by omega,v',g5,?_,g7⟩,g1⟩
    rw [zcr HX.out]
    exact g6
 case hend =>
  rintro W ⟨h1,h2,v,h4,h5,h6⟩ hD
  rw [List.take_length] at h5
  change W.ownsRow w1.heap.size 144 8 v (qY ts).length (jf (qY ts)) at h5
  obtain ⟨A,c,rfl⟩:=own_slice h5
  have k0:=(cell_of_row W (w1.heap.size+1) 0 _ _ _ h4).trans (show _=some (Value.slice A _ c) from rfl)
  simp only [World.size_alloc] at hD
  have HD:=hid hD
  have HAW:=hid (HA1.out.below h1)
  obtain ⟨H5,H1⟩:=zi2 h5 h1
  have k5:=HAW.out.c5
  clear hD h4 h5 h6 h1
  have hS:W.drew.cell? ⟨a.S,5,none⟩=some (.pointer (some ⟨a.L,0,none⟩))/\W.drew.cell? ⟨w1.heap.size+1,0,none⟩=some (.slice A (qY ts).length c):=⟨k5,k0⟩
  clear k5 k0
  have HAN:=hid (zbt a.D F1 b.FL cur1 a.L a.r (s.sto.flushTo 6).gen (s.sto.flushTo 6).bank (s.sto.flushTo 6).log (s.sto.flushTo 6).sure (.slice A (qY ts).length c) (qY ts) W.drew HAW.out.drew.sto.lane HAW.out.drew.sto.disk (qT (zi H5.out fun _ _=>rfl) (Nat.zero_le _)) ?hok ?hlen ?hfit HAW.out.sto.r4 HAW.out.sto.bank1 (by rw [(Qc s.sto 6).1];exact hgen))
  case hok=>exact HT2.out.packOk
  case hlen=>have:=HT2.out.packLen;omega
  case hfit=>have:=HT2.out.packLen;have:=GQ (fun r hr=>(HT2.out.packOk r hr).1);omega
  refine (by assumption:∀ a w,Code.wp Tryz.prog (Code.seq _ _) _ a w->_) _ _ ?_
  go_upto_region 13 with fail
  refine wp_region_noPanic ?_
  refine PrintLast.start_ (n:=7) (S:=(fun w'=>w'.cell? ⟨a.S,5,none⟩=some (.pointer (some ⟨a.L,0,none⟩))/\w'.cell? ⟨w1.heap.size+1,0,none⟩=some (.slice A (qY ts).length c))) (ds:=[5]) (bA 7 0) (by kernel_rfl) rfl (by kernel_rfl) hS (fun hHeld=>?_)
  refine pu 0 44 7 1 rfl rfl ?_
  refine pu 1 45 7 3 rfl rfl ?_
  refine pu 2 46 7 7 rfl rfl ?_
  refine tq 3 47 7 15 rfl rfl ?_
  refine tq 4 48 7 31 rfl rfl ?_
  refine la 5 7 63 (some 49) rfl rfl (fun K hK=>?_)
  show Oper.wp _ ⟨some 49,_,_,_,_,_⟩ _ _ _ _
  refine zq 70 _ _ [.pointer (some ⟨a.L,0,none⟩),.slice A (qY ts).length c] rfl (by kernel_rfl) (by rfl) (HAN.out.mono ?_)
  rintro e5 w5 ⟨rfl,F5,FL5,cur5,hL5,hD5,hon5,hso5,hk5,hnF5,hnL5⟩
  refine ⟨_,rfl,?_⟩
  refine hK.out _ _ ?_
  clear hK K
  try simp only [pS]
  refine pu 6 2 7 127 rfl rfl ?_
  refine PrintLast.done_ (by kernel_rfl) ?_
  refine NoPanic.normal ?_
  have hst:=HAW.out.drew.sto
  rw [(Qc s.sto 6).1,(Qc s.sto 6).2.1] at hL5 hon5
  have hpl:∀ x,ya a.B (s.sto.flushTo 6).fs x->w5.heap[x]?=W.drew.heap[x]?:=fun x hx=>hk5.block x (hst.pool.lt hx) (fun hy=>by
   have h9:=hst.pool.tag hx
   rcases hy with hy | hy
   ·have:=hst.lane.tag x hy;simp at h9 this;omega
   ·have:=hst.disk.tags hy;simp at h9 this;omega)
  have hfit:(zp (qY ts)).length<=14336:=by have:=HT2.out.packLen;have:=GQ (fun r hr=>(HT2.out.packOk r hr).1);omega
  have hst5:qc w5 a.B a.D a.L a.r FL5 F5 cur5 (s.sto.pack s.ts):=by
   rw [<- HTS.out]
   refine ⟨hst.pool.same hpl,hL5,hD5,?_,fun n hn i hi=>?_,hst.r4,by show 1-s.sto.bank<=1;omega,hgen,hfit,Nat.le_refl _,hst.dpok,hst.fok⟩
   ·show jN (cur5 a.r) (s.sto.gen+1) (1-s.sto.bank) ((zp (qY ts)).take (zp (qY ts)).length)
    rw [List.take_length];exact hon5
   ·have h9:=hst.pgs n hn i hi
    exact (hso5 a.r _ (.inr (.inr (by omega)))).trans h9
  have he5:qa W.drew w5 (qG a.B b.FL F1 (s.sto.flushTo 6)) (qG a.B FL5 F5 (s.sto.pack s.ts)) cur1 cur5 a.r:=by
   refine ⟨fun r' q h=>hso5 r' q (h.imp id .inl),hk5.wide (fun x hx=>hx.elim (fun h=>.inl (.inl h)) (fun h=>.inl (.inr h))),fun x hx=>?_⟩
   rcases hx with (hx | hx) | hx
   ·exact (hnL5 x hx).imp (fun h=>.inl (.inl h)) id
   ·exact (hnF5 x hx).imp (fun h=>.inl (.inr h)) id
   ·exact .inl (.inr hx)
  obtain ⟨hA5,hE5⟩:=HAW.out.drew.stoStep hst5 he5
  have hDne:=HAW.out.drew.notDef (show W.drew.heap[w1.heap.size+1+1]?=_ from HD.out)
  have hD5':w5.heap[w1.heap.size+1+1]?=some (.deferred (some [])):=(hk5.block _ (Qn (show W.drew.heap[w1.heap.size+1+1]?=_ from HD.out)) (fun hy=>hDne (hy.elim (fun h=>.inl (.inr (.inr (.inr (.inr (.inr (.inl h))))))) (fun h=>.inr h)))).trans HD.out
  have hne5:=hA5.notDef hD5'
  have hE:qa w w5 (zS a b s) (zS a { FL:=FL5,F:=F5,G:=b.G,v:=b.v,T:=b.T } { s with sto:=s.sto.pack s.ts }) cur cur5 a.r:=(HE1.out.call H1.out.drew).trans hE5
  obtain ⟨HA5,HE,HNE⟩:=zi3 hA5 hE hne5
  have HD5:=hid hD5'
  clear hst hL5 hon5 hpl hst5 he5 hA5 hE5 hDne hD5' hne5 hE hso5 hk5 hnF5 hnL5 hD5 hfit hHeld hS
  go_wp2_with fail
  refine ⟨by simp,.inl ⟨_,_,rfl,run_takeDeferred HD5.out,?_⟩⟩
  refine ⟨_,results_tmp rfl _ _ _,rfl,_,_,HA5.out.same (fun x hx=>World.putObj_heap_other (fun e=>HNE.out (e ▸ hx))) (by simp),HE.out.put ?_ _⟩
  have:=HE1.out.keep.size;omega
end
def zl.page (s:zl) (n:Nat):Pg:=match (qU s.fs n).bind fun k=>(s.fs[k]?).bind zu.pg with
 | some x=>x.2.2
 | none=>s.dp n
theorem Ye {fs fs':List zu} {n:Nat} (h:∀ i:Nat,(fs[i]?.bind zu.num)=(fs'[i]?.bind zu.num)):∀ k i,jk fs n k i=jk fs' n k i
 | 0,_=>rfl
 | k+1,i=>by unfold jk;rw [h i,Ye h k (i+1)]
theorem Yl {fs:List zu} {k:Nat} {f f':zu} (hf:fs[k]?=some f) (hn:f'.num=f.num) (i:Nat):((fs.set k f')[i]?.bind zu.num)=(fs[i]?.bind zu.num):=by
 by_cases e:i=k
 ·subst e
  rw [List.getElem?_set_self (List.getElem?_eq_some_iff.1 hf).1,hf]
  exact hn
 ·rw [List.getElem?_set_ne (Ne.symm e)]
theorem zbn {fs:List zu} {k n:Nat} {f f':zu} (hf:fs[k]?=some f) (hn:f'.num=f.num):qU (fs.set k f') n=qU fs n:=Ye (Yl hf hn) 3 0
theorem YZ {fs:List zu} {n:Nat}:∀ {k i:Nat},jk fs n k i=none->∀ j,i<=j->j<i+k->¬ (fs[j]?.bind zu.num)=some n
 | 0,i,_,j,h1,h2=>by omega
 | k+1,i,h,j,h1,h2=>by
  unfold jk at h
  split at h
  ·cases h
  ·rename_i hne
   by_cases e:j=i
   ·subst e;exact hne
   ·exact YZ h j (by omega) (by omega)
theorem JN {fs:List zu} {n j:Nat} (hj:(fs[j]?.bind zu.num)=some n):∀ {k i:Nat},i<=j->j<i+k->(∀ l,i<=l->l<j->¬ (fs[l]?.bind zu.num)=some n)->jk fs n k i=some j
 | 0,i,h1,h2,_=>by omega
 | k+1,i,h1,h2,h3=>by
  unfold jk
  by_cases e:i=j
  ·subst e;rw [if_pos hj]
  ·rw [if_neg (h3 i (Nat.le_refl _) (by omega))]
   exact JN hj (by omega) (by omega) (fun l h4 h5=>h3 l (by omega) h5)
structure yv (s s':zl):Prop where
 len:s'.fs.length=s.fs.length
 num:∀ i n:Nat,(s'.fs[i]?.bind zu.num)=some n->(s.fs[i]?.bind zu.num)=some n
 log:s'.log=s.log
 gen:s'.gen=s.gen
 bank:s'.bank=s.bank
theorem yv.refl (s:zl):yv s s:=⟨rfl,fun _ _ h=>h,rfl,rfl,rfl⟩
theorem yv.trans {a b c:zl} (h:yv a b) (k:yv b c):yv a c:=⟨k.len.trans h.len,fun i n hn=>h.num i n (k.num i n hn),k.log.trans h.log,k.gen.trans h.gen,k.bank.trans h.bank⟩
theorem yv.set {s:zl} {k:Nat} {f f':zu} (hf:s.fs[k]?=some f) (hn:f'.num=f.num∨f'.num=none) (hand:Nat):yv s { s with fs:=s.fs.set k f',hand:=hand }:=by
 refine ⟨by simp,fun i n h=>?_,rfl,rfl,rfl⟩
 by_cases e:i=k
 ·subst e
  simp only [List.getElem?_set_self (List.getElem?_eq_some_iff.1 hf).1,Option.bind_some] at h
  rcases hn with hn | hn
  ·rw [hf];simp only [Option.bind_some];rw [<- hn];exact h
  ·rw [hn] at h;cases h
 ·simp only [List.getElem?_set_ne (Ne.symm e)] at h
  exact h
theorem yv.write (s:zl) (k:Nat):yv s (s.write k):=by
 unfold zl.write
 split
 ·exact .refl s
 ·rename_i f hf
  split
  ·exact .refl s
  ·split
   ·exact .refl s
   ·refine ⟨by simp,fun i n h=>?_,rfl,rfl,rfl⟩
    simp only at h
    exact (Yl hf (f':={ f with since:=0 }) rfl i).symm.trans h
theorem yv.clock:∀ (g:Nat) (s:zl),yv s (s.clock g).2
 | 0,s=>.refl s
 | g+1,s=>by
  unfold zl.clock
  split
  ·exact .refl s
  ·rename_i f hf
   split
   ·exact (yv.set hf (f':={ f with again:=false }) (.inl rfl) ((s.hand+1) % 3)).trans (yv.clock g _)
   ·have h1:=yv.write ({ s with hand:=(s.hand+1) % 3 }:zl) s.hand
    refine ⟨by simp [h1.len],fun i n h=>?_,h1.log,h1.gen,h1.bank⟩
    by_cases e:i=s.hand
    ·subst e
     by_cases hlt:s.hand<(zl.write { s with hand:=(s.hand+1) % 3 } s.hand).fs.length
     ·simp only [List.getElem?_set_self hlt,Option.bind_some] at h
      cases h
     ·simp only [List.getElem?_eq_none (show (((zl.write { s with hand:=(s.hand+1) % 3 } s.hand).fs.set s.hand zu.none).length<=s.hand) by simp;omega)] at h
      cases h
    ·simp only [List.getElem?_set_ne (Ne.symm e)] at h
     exact h1.num i n h
theorem yv.room (s:zl):yv s s.room.2:=by
 unfold zl.room
 split
 ·exact .refl s
 ·exact .clock 4 s
theorem vM (s:zl) (nb n:Nat):(s.get nb n).log=s.log/\(s.get nb n).gen=s.gen/\(s.get nb n).bank=s.bank:=by
 unfold zl.get
 split
 ·split<;>exact ⟨rfl,rfl,rfl⟩
 ·have h:=yv.room s
  unfold zl.put zl.setPg
  split<;>exact ⟨h.log,h.gen,h.bank⟩
theorem ZQ {s:zl} (nb n:Nat) (h3:s.fs.length=3) (hh:s.hand<3):∃ k f,qU (s.get nb n).fs n=some k/\(s.get nb n).fs[k]?=some f/\f.pg=some (s.blk nb n,n,s.page n):=by
 cases hf:qU s.fs n with
 | some k =>
  obtain ⟨f,b,p,h1,h2⟩:=vX hf
  have hk:=(List.getElem?_eq_some_iff.1 h1).1
  refine ⟨k,{ f with again:=true },?_,?_,?_⟩
  ·simp only [zl.get,hf,h1]
   exact (zbn h1 (f':={ f with again:=true }) rfl).trans hf
  ·simp only [zl.get,hf,h1]
   rw [List.getElem?_set_self hk]
  ·simp only [zl.blk,zl.page,hf,h1,h2,Option.bind_some]
 | none =>
  have hfew:=yv.room s
  have hrl:=zl.room_lt h3 hh
  have hnum:=YZ (show jk s.fs n 3 0=none from hf)
  obtain ⟨f0,hf0⟩:∃ f0,s.room.2.fs[s.room.1]?=some f0:=⟨_,List.getElem?_eq_getElem (by rw [hfew.len,h3];exact hrl)⟩
  have hk:=(List.getElem?_eq_some_iff.1 hf0).1
  refine ⟨s.room.1,⟨some (nb,n,s.dp n),f0.since,true⟩,?_,?_,?_⟩
  ·simp only [zl.get,hf,zl.put,zl.setPg,hf0]
   refine JN ?_ (Nat.zero_le _) (by omega) ?_
   ·rw [List.getElem?_set_self hk];rfl
   ·intro l _ hl h
    rw [List.getElem?_set_ne (by omega)] at h
    exact hnum l (Nat.zero_le _) (by omega) (hfew.num l n h)
  ·simp only [zl.get,hf,zl.put,zl.setPg,hf0]
   rw [List.getElem?_set_self hk]
  ·simp only [zl.blk,zl.page,hf,Option.bind_none]
def St.ready (s:St):St:=if Jx s.ts+s.sto.log.length<=14336 then s else { s with sto:=s.sto.pack s.ts }
theorem zgV (a:Va) (b:Vb) (cur:Nat->Nat->List UInt8) (s:St) (w:World) (h:zg w a b cur s) (hgen:s.sto.gen+1<4294967296) :
  Calls Tryz.prog 63 #[.pointer (some ⟨a.S,0,none⟩)] w fun e w'=>e=.returned (.int .i64 0)/\∃ b' cur',zg w' a b' cur' s.ready/\qa w w' (zS a b s) (zS a b' s.ready) cur cur' a.r:=by
 have k5:=h.c5
 have HR:=hid (zdg a.L a.D a.r s.sto.gen s.sto.bank s.sto.log s.sto.sure b.FL w h.sto.lane h.sto.len)
 have HN:=hid (ziu a b cur s w h)
 have H:=hid h
 have hlen:=h.sto.len
 obtain ⟨m,hm⟩:∃ m,m=Jx s.ts:=⟨_,rfl⟩
 obtain ⟨l,hl⟩:∃ l,l=s.sto.log.length:=⟨_,rfl⟩
 rw [<- hl] at HR hlen
 rw [<- hm] at HN
 obtain ⟨HM,HL⟩:=zi2 hm hl
 clear h hm hl
 by_cases hle:m+l<=14336
 ·have hS:s.ready=s:=by unfold St.ready;rw [if_pos (by rw [<- HM.out,<- HL.out];exact hle)]
  rw [hS]
  have q1:(m:Int)<=14336-(l:Int):=by omega
  go_enter Tryz.func63,Tryz.ntmps63
  go_wp2_with (first
   | (go_at_call 104;(with_reducible refine HR.out.mono ?_);rintro e1 w1 ⟨rfl,hw1⟩;subst w1)
   | (go_at_call 105;(with_reducible refine HN.out.mono ?_);rintro e2 w2 ⟨rfl,hb2⟩))
  go_ret
  exact ⟨rfl,b,cur,H.out.below hb2,(qa.refl _ _ _ _).call hb2⟩
 ·have hS:s.ready={ s with sto:=s.sto.pack s.ts }:=by unfold St.ready;rw [if_neg (by rw [<- HM.out,<- HL.out];exact hle)]
  rw [hS]
  have q1:¬ ((m:Int)<=14336-(l:Int)):=by omega
  go_enter Tryz.func63,Tryz.ntmps63
  go_wp2_with (first
   | (go_at_call 104;(with_reducible refine HR.out.mono ?_);rintro e1 w1 ⟨rfl,hw1⟩;subst w1)
   | (go_at_call 105;(with_reducible refine HN.out.mono ?_);rintro e2 w2 ⟨rfl,hb2⟩;have HB:=hid hb2;clear hb2)
   | (go_at_call 37;(with_reducible refine (zcW a b cur s w2 (H.out.below HB.out) hgen).mono ?_);rintro e3 w3 ⟨rfl,b3,cur3,hA3,hE3⟩))
  go_ret
  exact ⟨rfl,b3,cur3,hA3,((qa.refl _ _ _ _).call HB.out).trans hE3⟩
section
def zl.setRow (s:zl) (n slot:Nat) (o:Option Rw) (m:Nat):zl:=match qU s.fs n with
 | none=>s
 | some k=>match s.fs[k]? with
  | none=>s
  | some f=>match f.pg with
   | none=>s
   | some (b,n',p)=>{ s with fs:=s.fs.set k ⟨some (b,n',{ p.set slot o with mark:=m }),if f.since=0 then m else f.since,f.again⟩ }
def ji (p:Pg) (slot:Nat):Option Rw:=(p.slots[slot]?).getD none
def jH (r kind txn n slot:Nat) (s1:zl) (p:Pg) (o:Option Rw):zI:=⟨kind,txn,n,slot,ji p slot,o,if Ql s1.fs n then qz r n p else [],[]⟩
def zl.logged (s:zl) (x:zI):zl:={ s with log:=s.log++qu x }
def zl.chg (s:zl) (r nb kind txn n slot:Nat) (o:Option Rw):zl :=
 ((s.get nb n).logged (jH r kind txn n slot (s.get nb n) (s.page n) o)).setRow n slot o (qD s.gen s.log.length)
def qR (its:List It) (bf:Option Rw):List It:=match bf with
 | none=>its
 | some b=>uI its (qF its ⟨b.t,b.k,[]⟩) ⟨b.t,b.k,[]⟩
def yp (its:List It) (af:Option Rw) (n slot:Nat):List It:=match af with
 | none=>its
 | some x=>yZ its (qF its x) ⟨x,n,slot⟩
def zfj (ts:qL) (txn:Nat) (c:Chg):qL:=match ts[txn]? with
 | some (some (T,x))=>ts.set txn (some (T,⟨x.list++[c],x.saves,x.ops+1⟩))
 | _=>ts
def St.chg (s:St) (r nb kind txn n slot:Nat) (o:Option Rw):St :=
 { sto:=s.sto.chg r nb kind txn n slot o,its:=yp (qR s.its (ji (s.sto.page n) slot)) o n slot,ts:=if kind=3 then zfj s.ts txn ⟨n,slot,ji (s.sto.page n) slot⟩ else s.ts,lk:=s.lk }
theorem zkf {p:Pg} {slot m:Nat} {o:Option Rw} (hp:p.ok) (ho:qX o) (hm0:m≠0) (hm:m<18446744073709551616):({ p.set slot o with mark:=m }:Pg).ok:=by
 refine ⟨by simp [Pg.set,hp.five],fun x hx=>?_,hm,fun h=>(hm0 h).elim⟩
 rcases List.mem_or_eq_of_mem_set hx with hx | rfl
 ·exact hp.rows x hx
 ·exact ho
section
variable {w w':World} {B D L r:Nat} {FL F:Nat->Prop} {cur:Nat->Nat->List UInt8} {s:zl}
theorem qc.logStep (h:qc w B D L r FL F cur s) {FL':Nat->Prop} {x:zI} (hL:qH w' L D r s.gen s.bank (s.log++qu x) s.sure FL') (hk:zr FL w w') (hn:qh w FL FL') (hfit:s.log.length+(qu x).length<=14336) :
  qc w' B D L r FL' F cur (s.logged x)/\qa w w' (qG B FL F s) (qG B FL' F (s.logged x)) cur cur r:=by
 refine ⟨⟨h.pool.same (fun x hx=>hk.block x (h.pool.lt hx) (h.pool.lane h.lane x hx)),hL,zv.keep h.disk hk (fun x hx hy=>uv h.lane h.disk x hy hx),?_,h.pgs,h.r4,h.bank1,h.gen32,by simp only [zl.logged,List.length_append];exact hfit,?_,h.dpok,h.fok⟩,yd.refl _ _,hk.wide fun x hx=>.inl (.inl hx),fun x hx=>?_⟩
 ·show jN (cur r) s.gen s.bank ((s.log++qu x).take s.sure)
  rw [List.take_append_of_le_length h.sure_];exact h.on
 ·have:=h.sure_;simp only [zl.logged,List.length_append];omega
 ·rcases hx with (hx | hx) | hx
  ·exact (hn x hx).imp (fun h=>.inl (.inl h)) id
  ·exact .inl (.inl (.inr hx))
  ·exact .inl (.inr hx)
theorem qc.rowStep {w3 w4 w5:World} (h:qc w3 B D L r FL F cur s) {k b n slot m:Nat} {f:zu} {p:Pg} {o:Option Rw} (hfd:qU s.fs n=some k) (hf:s.fs[k]?=some f) (hp:f.pg=some (b,n,p)) (hset:qf w4 b r n (p.set slot o)) (hk4:zr (fun x=>x=b) w3 w4)
  (ht:zQ w5 B D r L (Qv (s.fs.set k ⟨some (b,n,p.set slot o),f.since,f.again⟩) n m) s.hand) (hk5:zr (ya B (s.fs.set k ⟨some (b,n,p.set slot o),f.since,f.again⟩)) w4 w5) (hm0:m≠0) (hm:m<18446744073709551616) (ho:qX o) :
  qc w5 B D L r FL F cur (s.setRow n slot o m)/\qa w3 w5 (qG B FL F s) (qG B FL F (s.setRow n slot o m)) cur cur r:=by
 have hmem:=List.mem_of_getElem? hf
 have hkl:=(List.getElem?_eq_some_iff.1 hf).1
 obtain ⟨hn6,hpok⟩:=h.fok f hmem b n p hp
 have hS:s.setRow n slot o m={ s with fs:=s.fs.set k ⟨some (b,n,{ p.set slot o with mark:=m }),if f.since=0 then m else f.since,f.again⟩ }:=by
  simp only [zl.setRow,hfd,hf,hp]
 have hfd2:qU (s.fs.set k ⟨some (b,n,p.set slot o),f.since,f.again⟩) n=some k:=(zbn hf (by simp [zu.num,hp])).trans hfd
 have hT:Qv (s.fs.set k ⟨some (b,n,p.set slot o),f.since,f.again⟩) n m=s.fs.set k ⟨some (b,n,{ p.set slot o with mark:=m }),if f.since=0 then m else f.since,f.again⟩:=by
  simp only [Qv,hfd2,List.getElem?_set_self hkl,List.set_set,zu.touch,Option.map_some]
 rw [hT] at ht
 have hpf:∀ x,ya B (s.fs.set k ⟨some (b,n,p.set slot o),f.since,f.again⟩) x->ya B s.fs x:=fun x hx=>by
  rcases hx with h1 | ⟨g,hg,n',p',hgp⟩
  ·exact .inl h1
  ·rcases List.mem_or_eq_of_mem_set hg with hg | rfl
   ·exact .inr ⟨g,hg,n',p',hgp⟩
   ·injection hgp with hgp;cases hgp;exact .inr ⟨f,hmem,_,_,hp⟩
 have hpf2:∀ x,ya B (s.setRow n slot o m).fs x->ya B s.fs x:=fun x hx=>by
  rw [hS] at hx
  rcases hx with h1 | ⟨g,hg,n',p',hgp⟩
  ·exact .inl h1
  ·rcases List.mem_or_eq_of_mem_set hg with hg | rfl
   ·exact .inr ⟨g,hg,n',p',hgp⟩
   ·injection hgp with hgp;cases hgp;exact .inr ⟨f,hmem,_,_,hp⟩
 have hK:zr (ya B s.fs) w3 w5:=(hk4.wide fun x hx=>hx ▸ .inr ⟨f,hmem,_,_,hp⟩).trans hk5 fun x hx=>.inl (hpf x hx)
 refine ⟨?_,yd.refl _ _,hK.wide fun x hx=>.inr hx,fun x hx=>?_⟩
 ·rw [hS]
  have:=h.repool _ s.hand ht (fun x hx=>hK.block x (hx.elim (fun h1=>h.lane.lt x h1) (fun h1=>h.disk.lt x h1)) (fun hy=>hx.elim (h.pool.lane h.lane x hy) (h.pool.disk h.disk x hy))) hK.size ?_
  ·exact this
  ·intro g hg b' n' p' hgp
   rcases List.mem_or_eq_of_mem_set hg with hg | rfl
   ·exact h.fok g hg b' n' p' hgp
   ·injection hgp with hgp;cases hgp
    exact ⟨hn6,zkf hpok ho hm0 hm⟩
 ·rcases hx with hx | hx
  ·exact .inl (.inl hx)
  ·exact .inl (.inr (hpf2 x hx))
end
def zcw:Option Rw->Int
 | none=>9
 | some _=>0
def Qy:Option Rw->Array Value
 | none=>#[.int .i64 0,.string (za []),.string (za [])]
 | some r=>#[.int .i64 r.t,.string (za r.k),.string (za r.v)]
def zhS (o:Option Rw):Value:=.agg (Qy o)
theorem Ju (o:Option Rw):(Qy o).size=3:=by cases o<;>rfl
theorem zcv (o:Option Rw):(Qy o).all (·.oneCell')=true:=by cases o<;>simp [Qy,Value.oneCell']
theorem zg.idx {w:World} {a:Va} {b:Vb} {cur:Nat->Nat->List UInt8} {s:St} (h:zg w a b cur s):QG w a.S 7 b.v s.its :=
 ⟨⟨_,103,h.row,(JG h.tab.len).2.2.1⟩,h.its,own_ne h.its h.row (by decide)⟩
theorem JB (v:Value) (o:Option Rw) (ho:qX o) (w:World) (h:ze w v (zt o)) :
  Calls Tryz.prog 137 #[v] w fun e w'=>e=.returned (.tuple #[zhS o,.int .i64 (zcw o)])/\Below w.heap.size w w':=by
 cases o with
 | none=>exact zaT v [] w h (by simp) (by simp)
 | some r=>exact Ze v r ho w h
theorem qa.of_drew {w w':World} {M M':Nat->Prop} {cur cur':Nat->Nat->List UInt8} {r:Nat} (h:qa w.drew w' M M' cur cur' r):qa w w' M M' cur cur' r :=
 ⟨h.out,⟨h.keep.os,h.keep.tape,h.keep.output,h.keep.size,h.keep.block⟩,h.new⟩
theorem zg.not144 {w:World} {a:Va} {b:Vb} {cur:Nat->Nat->List UInt8} {s:St} (h:zg w a b cur s) {x:Nat} {C:Array Value} (hx:w.heap[x]?=some (.cells C 144 (0,0))):¬ zS a b s x:=fun hy=>by
 obtain ⟨t1,t2,t3,t4,t5,t6⟩:=h.tags
 have ht:=zc hx
 rcases hy with (rfl | rfl | hy | hy | ⟨i,hy⟩ | hy | hy) | hy
 ·rw [t1] at ht;cases ht
 ·rw [t2] at ht;cases ht
 ·rw [t3 x hy] at ht;cases ht
 ·rw [t4 x hy] at ht;cases ht
 ·have:=t5 i x hy;rw [ht] at this;simp at this
 ·have:=t6 x (.inl (.inl hy));rw [ht] at this;simp at this
 ·have:=t6 x (.inr hy);rw [ht] at this;simp at this
 ·have:=t6 x (.inl (.inr hy));rw [ht] at this;simp at this
theorem zg.box {w w':World} {a:Va} {b:Vb} {cur cur':Nat->Nat->List UInt8} {s:St} {M:Nat->Prop} {r:Nat} (h:zg w a b cur s) {x:Nat} {C:Array Value} (hx:w.heap[x]?=some (.cells C 144 (0,0))) (he:qa w w' (zS a b s) M cur cur' r):w'.heap[x]?=some (.cells C 144 (0,0)) :=
 (he.keep.block x (zd hx) (h.not144 hx)).trans hx
end
end Go.Proofs.YtechnoogjhohfaaGreat
