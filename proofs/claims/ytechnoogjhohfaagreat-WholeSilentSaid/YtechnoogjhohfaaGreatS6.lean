import Derived.Test.YtechnoogjhohfaaGreatS5
import Derived.Deep.MidRow
set_option maxRecDepth 100000
set_option maxHeartbeats 6400000
set_option linter.unusedVariables false
set_option linter.unusedSimpArgs false
namespace Go.Proofs.YtechnoogjhohfaaGreat
open Go.RowKit Go.Lib
structure zA (M:Nat->Prop) (w w':World):Prop where
 os:w'.os=w.os
 tape:w'.tape=w.tape
 output:w'.output=w.output
 size:w.heap.size<=w'.heap.size
 block:∀ k,k<w.heap.size->¬ M k->w'.heap[k]?=w.heap[k]?
theorem zA.refl (M:Nat->Prop) (w:World):zA M w w:=⟨rfl,rfl,rfl,za _,fun _ _ _=>rfl⟩
theorem zA.trans {M N:Nat->Prop} {a b c:World} (h:zA M a b) (k:zA N b c) (D:∀ x,N x->M x∨a.heap.size<=x):zA M a c :=
 ⟨k.os.trans h.os,k.tape.trans h.tape,k.output.trans h.output,zz h.size k.size,fun x u hm =>
  (k.block x (qg u h.size) (fun z=>(D x z).elim hm (fun h=>by omega))).trans (h.block x u hm)⟩
theorem zA.mono {M N:Nat->Prop} {a b:World} (h:zA M a b) (D:∀ x,M x->N x∨a.heap.size<=x):zA N a b :=
 ⟨h.os,h.tape,h.output,h.size,fun x E z=>h.block x E (fun u=>(D x u).elim z (fun h=>by omega))⟩
theorem zA.ak {M:Nat->Prop} {w w':World} (h:zd w w'):zA M w w':=⟨h.os,h.tape,h.output,h.size,fun k u _=>h.block k u⟩
theorem zA.call {M:Nat->Prop} {a b c:World} (h:zA M a b) (k:zd b c):zA M a c:=h.trans (zA.ak (M:=fun _=>False) k) (fun _ h=>h.elim)
theorem zA.drew {M:Nat->Prop} {a b:World} (h:zA M a b):zA M a b.drew:=⟨h.os,h.tape,h.output,h.size,h.block⟩
theorem zA.set {M:Nat->Prop} {a b:World} (h:zA M a b) {p:Addr} (z:M p.block∨a.heap.size<=p.block) (u:Value):zA M a (b.setCell p u) :=
 ⟨h.os,h.tape,h.output,by simpa using h.size,fun x D hm=>(heap_setCell_other _ _ _ _ (fun e=>z.elim (fun h=>hm (by rw [e];exact h)) (fun h=>by omega))).trans (h.block x D hm)⟩
theorem zA.grown {M:Nat->Prop} {a b c:World} {row:Option Nat} (h:zA M a b) (u:b.grownBy c row) (D:∀ k,row=some k->M k∨a.heap.size<=k):zA M a c :=
 ⟨u.os.trans h.os,u.tape.trans h.tape,u.output.trans h.output,zz h.size u.size,fun x z hm =>
  (u.block x (qg z h.size) (fun e=>(D x e.symm).elim hm (fun h=>by omega))).trans (h.block x z hm)⟩
theorem own_same {w w':World} {B:Nat} {e:TypeId} {s:Nat} {v:Value} {n:Nat} {xs:List Value} (h:w.ownsRow B e s v n xs) (hb:∀ k,v.ownBlock=some k->w'.heap[k]?=w.heap[k]?):w'.ownsRow B e s v n xs :=
 ⟨h.1,h.2.imp_right fun ⟨g,cap,cur,z,D,u⟩=>⟨g,cap,cur,z,D,(hb g (by rw [z];rfl)).trans u.1,u.2⟩⟩
def qP (w:World) (k:Nat):Nat :=
 match w.heap[k]? with
 | some (.cells _ e _)=>e
 | some (.map _ _)=>100001
 | _=>100002
theorem zh {w:World} {k:Nat} {c:Array Value} {e:Nat} {f:Nat × Nat} (h:w.heap[k]?=some (.cells c e f)):qP w k=e:=by simp [qP,h]
theorem jW {w w':World} {k:Nat} (h:w'.heap[k]?=w.heap[k]?):qP w' k=qP w k:=by simp [qP,h]
structure uw where
 DD:Nat
 DR:Nat
 n:Int
 V:Nat->Value
 ws:Nat->List (Nat × List UInt8)
 c9:Nat->List UInt8
def vU (ws:List (Nat × List UInt8)):List Value:=ws.flatMap fun p=>.int .i64 p.1::zD p.2
def Qa (V:Nat->Value):Array Value:=#[V 0,.bool false,.int .i64 0,V 1,.bool false,.int .i64 0,V 2,.bool false,.int .i64 0,V 3,.bool false,.int .i64 0]
def QV (ws:List (Nat × List UInt8)) (s:Nat) (d:List UInt8):List UInt8:=ws.foldl (fun a p=>if p.1=s then p.2 else a) d
theorem Kr (ws:List (Nat × List UInt8)) (p:Nat × List UInt8) (s:Nat) (d:List UInt8):QV (ws++[p]) s d=if p.1=s then p.2 else QV ws s d:=by simp [QV,List.foldl_append]
structure jg (w:World) (D:Nat) (F:Nat->Prop) (g:uw):Prop where
 U:w.heap[D]?=some (.cells #[.int .i64 538,.slice (some ⟨g.DD,0,none⟩) 2152 2152,.slice (some ⟨g.DR,0,none⟩) 4 4,.int .i64 g.n] 81 (0,0))
 data:∃ c,w.heap[g.DD]?=some (.cells c 118 (0,0))/\c.size=137728
 c9:∀ i,i<2152->w.rangeAt g.DD (i*64) (zD (g.c9 i))
 len:∀ i,i<2152->(g.c9 i).length=64
 bn:w.heap[g.DR]?=some (.cells (Qa g.V) 86 (0,0))
 ba:∀ r,r<4->w.ownsRow 0 120 65 (g.V r) (g.ws r).length (vU (g.ws r))
 d0:∀ r,r<4->∀ p,p∈g.ws r->p.1<538/\p.2.length=64
 dy:∀ r q k,r<4->q<4->r≠q->(g.V r).ownBlock=some k->(g.V q).ownBlock≠some k
 fD:F D
 ew:F g.DD
 de:F g.DR
 fV:∀ r k,r<4->(g.V r).ownBlock=some k->F k
 lt:∀ k,F k->k<w.heap.size
 a3:∀ k,F k->qP w k∈[81,118,86,120]
theorem KV {w w':World} {b o:Nat} {cs:List Value} (h:w.rangeAt b o cs) (hb:w'.heap[b]?=w.heap[b]?):w'.rangeAt b o cs:=fun j v u=>(World.cell?_of_block (a:=⟨b,o+j,none⟩) hb).trans (h j v u)
theorem jg.same {w w':World} {D:Nat} {F:Nat->Prop} {g:uw} (h:jg w D F g) (hs:∀ k,F k->w'.heap[k]?=w.heap[k]?) (R:w.heap.size<=w'.heap.size):jg w' D F g :=
 ⟨(hs _ h.fD).trans h.U,by obtain ⟨c,E,O⟩:=h.data;exact ⟨c,(hs _ h.ew).trans E,O⟩,fun i L=>KV (h.c9 i L) (hs _ h.ew),h.len,(hs _ h.de).trans h.bn,
  fun r z=>own_same (h.ba r z) fun k u=>hs k (h.fV r k z u),h.d0,h.dy,h.fD,h.ew,h.de,h.fV,fun k u=>qg (h.lt k u) R,fun k u=>by rw [jW (hs k u)];exact h.a3 k u⟩
def zK (w:World) (D:Nat) (F:Nat->Prop) (cur:Nat->Nat->List UInt8) (h:Nat->Nat):Prop :=
 ∃ g,jg w D F g/\(∀ r s,r<4->s<538->cur r s=QV (g.ws r) s (g.c9 (r*538+s)))/\∀ r,r<4->(g.ws r).length<=h r
theorem zK.same {w w':World} {D:Nat} {F:Nat->Prop} {cur:Nat->Nat->List UInt8} {u:Nat->Nat} (h:zK w D F cur u) (hs:∀ k,F k->w'.heap[k]?=w.heap[k]?) (L:w.heap.size<=w'.heap.size):zK w' D F cur u:=by obtain ⟨g,E,z⟩:=h;exact ⟨g,E.same hs L,z⟩
theorem zK.ac {w w':World} {D:Nat} {F M:Nat->Prop} {cur:Nat->Nat->List UInt8} {u:Nat->Nat} (h:zK w D F cur u) (k:zA M w w') (hm:∀ k,F k->¬ M k):zK w' D F cur u:=by refine h.same (fun x z=>k.block x ?_ (hm x z)) k.size;obtain ⟨g,E,_⟩:=h;exact E.lt x z
theorem zK.below {w w':World} {D:Nat} {F:Nat->Prop} {cur:Nat->Nat->List UInt8} {u:Nat->Nat} (h:zK w D F cur u) (b:zd w w'):zK w' D F cur u :=
 h.ac (zA.ak (M:=fun _=>False) b) (fun _ _ h=>h)
theorem zK.lt {w:World} {D:Nat} {F:Nat->Prop} {cur:Nat->Nat->List UInt8} {u:Nat->Nat} (h:zK w D F cur u):∀ k,F k->k<w.heap.size:=by obtain ⟨g,z,_⟩:=h;exact z.lt
theorem zdH (D:Nat) (F:Nat->Prop) (g:uw) (r s:Int) (w:World) (h:jg w D F g) (X:0<=r) (U:r<4) (Y:0<=s) (hs:s<538) :
  Calls Tryz.prog 27 #[.pointer (some ⟨D,0,none⟩),.int .i64 r,.int .i64 s] w fun e w'=>e=.returned (.int .i64 (r*538+s))/\w'=w:=by
 have u:=(cell_of_row w D 0 _ _ _ h.U).trans (show _=some (Value.int .i64 538) from rfl);have z:=(cell_of_row w D 2 _ _ _ h.U).trans (show _=some (Value.slice (some ⟨g.DR,0,none⟩) 4 4) from rfl);have E:decide (r<0)=false:=by simp;omega
 have L:decide ((4:Int)<=r)=false:=by simp;omega
 have O:decide (s<0)=false:=by simp;omega
 have R:decide ((538:Int)<=s)=false:=by simp;omega
 have w1:IntKind.i64.wrap (r*538)=r*538:=by rw [IntKind.wrap_i64];omega
 have Z:IntKind.i64.wrap (r*538+s)=r*538+s:=by rw [IntKind.wrap_i64];omega
 clear h;go_enter Tryz.func27,Tryz.ntmps27;go_wp2;go_ret;exact ⟨rfl,rfl⟩
theorem zgZ (D:Nat) (F:Nat->Prop) (g:uw) (r:Int) (w:World) (h:jg w D F g) (E:0<=r) (z:r<4) :
  Calls Tryz.prog 140 #[.pointer (some ⟨D,0,none⟩),.int .i64 r] w fun e w'=>e=.returned (.bool false)/\w'=w:=by
 have L:=(cell_of_row w D 2 _ _ _ h.U).trans (show _=some (Value.slice (some ⟨g.DR,0,none⟩) 4 4) from rfl);obtain ⟨k,rfl⟩:∃ k:Nat,r=(k:Int):=⟨r.toNat,by omega⟩;have O:w.cell? ⟨g.DR,k*3+1,none⟩=some (.bool false):=by
  rw [cell_of_row w g.DR _ _ _ _ h.bn];have:k<4:=by omega
  rcases k with _ | _ | _ | _ | k<;>first | rfl | omega
 have R:decide ((0:Int)<=(k:Int)*538+0)=true:=by simp;omega
 have U:decide ((0:Int)<=(k:Int)*538)=true:=by simp;omega
 have u:=hid h;clear h;go_enter Tryz.func140,Tryz.ntmps140;go_wp2_with (go_at_call 27;(with_reducible refine (zdH D F g k 0 w u.o E z (by omega) (by omega)).mono ?_);rintro r w1 ⟨rfl,rfl⟩);go_ret;exact ⟨rfl,rfl⟩
theorem zez:∀ (ws:List (Nat × List UInt8)),(∀ p,p∈ws->p.2.length=64)->(vU ws).length=ws.length*65
 | [],_=>rfl
 | p::ws,h=>by have:=zez ws (fun q u=>h q (by simp [u]));have z:=h p (by simp);simp only [vU,qC,zl,qc,jf] at this ⊢;omega
theorem zey (a b:List (Nat × List UInt8)):vU (a++b)=vU a++vU b:=by simp [vU]
theorem zgn (ws:List (Nat × List UInt8)) (h:∀ p,p∈ws->p.2.length=64) (k:Nat) (p:Nat × List UInt8) (z:ws[k]?=some p) :
  (vU ws)[k*65]?=some (.int .i64 p.1)/\∀ j u,(zD p.2)[j]?=some u->(vU ws)[k*65+1+j]?=some u:=by
 have O:=(zr.1 z).1;have hlen:(vU (ws.take k)).length=k*65:=by rw [zez _ (fun q U=>h q (List.mem_of_mem_take U)),qf,Nat.min_eq_left (by omega)]
 have E:vU ws=vU (ws.take k)++(.int .i64 p.1::zD p.2++vU (ws.drop (k+1))):=by
  have R:ws.drop k=p::ws.drop (k+1):=by rw [List.drop_eq_getElem_cons O];congr 1;exact (zr.1 z).2
  conv=>lhs;rw [<- List.take_append_drop k ws,zey,R]
  rfl
 have X:=h p (zC z);rw [E];refine ⟨by rw [vg (by omega),hlen];simp,fun j u D=>?_⟩;have L:=(zr.1 D).1;rw [vg (by omega),hlen,show k*65+1+j-k*65=j+1 by omega,List.cons_append,List.getElem?_cons_succ,vZ L,D]
theorem zL.cd {w:World} {b o:Nat} {l:List UInt8} (h:w.rangeAt b o (zD l)) (hb:b<w.heap.size):zL w w.heap.size 1 (some ⟨b,o,none⟩) l.length (zD l) :=
 ⟨by simp [jf],fun _=>⟨_,rfl,hb,fun j u z=>by rw [Addr.add_mid];exact h j u z⟩⟩
theorem KW {V:Nat->Value} {k:Nat} (h:k<4):(Qa V)[k*3]?=some (V k):=by rcases k with _ | _ | _ | _ | k<;>first | rfl | omega
theorem zhL {V:Nat->Value} {k:Nat} (h:k<4):(Qa V)[k*3+1]?=some (.bool false):=by rcases k with _ | _ | _ | _ | k<;>first | rfl | omega
theorem zqA {w:World} {B:Nat} {e:TypeId} {s:Nat} {v:Value} {n:Nat} {xs:List Value} (h:w.ownsRow B e s v n xs):n<=maxLen:=by
 rcases h.2 with ⟨_,h0⟩ | ⟨u,cap,cur,_,_,_,z,D,_⟩
 ·omega
 ·omega
theorem Ys (D:Nat) (F:Nat->Prop) (cur:Nat->Nat->List UInt8) (c5:Nat->Nat) (r s:Int) (w:World) (c6:zK w D F cur c5) (d6:0<=r) (hr:r<4) (d7:0<=s) (hs:s<538) :
  Calls Tryz.prog 117 #[.pointer (some ⟨D,0,none⟩),.int .i64 r,.int .i64 s] w fun e w'=>∃ v,e=.returned (.tuple #[v,.int .i64 0])/\w'.ownsRow w.heap.size 5 1 v 64 (zD (cur r.toNat s.toNat))/\zd w w':=by
 obtain ⟨k,rfl⟩:∃ k:Nat,r=(k:Int):=⟨r.toNat,by omega⟩;obtain ⟨q,rfl⟩:∃ q:Nat,s=(q:Int):=⟨s.toNat,by omega⟩;obtain ⟨i0,hi,c1,c2,c3⟩:=info_parts QU;obtain ⟨g,h,a6,_⟩:=c6;have Y:k<4:=by omega
 have hq:q<538:=by omega
 have a5:=a6 k q Y hq;simp only [qp];rw [a5];have O:=h.ba k Y;obtain ⟨A,cw,hV⟩:=own_slice O;rw [hV] at O;have d8:=(cell_of_row w D 1 _ _ _ h.U).trans (show _=some (Value.slice (some ⟨g.DD,0,none⟩) 2152 2152) from rfl);have d9:=(cell_of_row w D 2 _ _ _ h.U).trans (show _=some (Value.slice (some ⟨g.DR,0,none⟩) 4 4) from rfl);have e0:w.cell? ⟨g.DR,k*3,none⟩=some (.slice A (g.ws k).length cw):=by rw [cell_of_row w g.DR _ _ _ _ h.bn,<- hV];exact KW Y
 have d1:(g.ws k).length<=maxLen:=zqA O;unfold maxLen at d1;have e2:decide ((k:Int)*538+(q:Int)<0)=false:=by simp;omega
 have e9:(0:Int)<=(k:Int):=by omega
 have f0:(k:Int)<4:=by omega
 have c0:∀ p,p∈g.ws k->p.2.length=64:=fun p R=>(h.d0 k Y p R).2;have f1:IntKind.i64.wrap (((g.ws k).length:Int)-1)=((g.ws k).length:Int)-1:=by rw [IntKind.wrap_i64];omega
 have a7:=h.c9 (k*538+q) (by omega);have d0:=h.len (k*538+q) (by omega);have e4:(0:Int)<=(k:Int)*538+(q:Int):=by omega
 have e6:(k:Int)*538+(q:Int)<2152:=by omega
 have e8:((k:Int)*538+(q:Int)).toNat=k*538+q:=by omega
 have c7:=h.lt _ h.ew;generalize f3:g.ws k=ws at *;generalize e3:g.c9 (k*538+q)=z at *;obtain ⟨HR,HO,HW,HD⟩:=zi4 h O c0 a7;clear h a6 a5 O c0 a7 hV;go_enter Tryz.func117,Tryz.ntmps117;go_wp2_with (go_at_call 27;(with_reducible refine (zdH D F g k q w HR.o d6 hr d7 hs).mono ?_);rintro e1 w1 ⟨rfl,f2⟩;subst w1);go_loopw [10] (fun u wr=>∃ j:Nat,j<=ws.length/\u=.int .i64 ((j:Int)-1)/\QV ws q z=QV (ws.take j) q z/\wr=w) (fun u _=>(intOf u+1).toNat)
 case atStart=>exact ⟨ws.length,za _,by go_num,by rw [qi],rfl⟩
 case round =>
  obtain ⟨j,hj,rfl,L,rfl⟩:=hrel;by_cases h0:j=0
  ·subst h0;simp only [List.take_zero] at L;have d3:QV ws q z=z:=L;have U:=zL.cd HD.o c7;rw [d0] at U;go_wp2_with (at_builtin;refine uK _ rfl _ _ _ rfl wr.heap.size 5 i0 _ 1 1 Tryz.underlying29 hi c1 c2 c3 rfl (by omega) (.slice none 0 0) 0 [] rfl (World.ownsRow_nil _ _ _ _) wr.heap.size (some ⟨g.DD,(k*538+q)*64,none⟩) 64 64 (zD z) rfl U (yp _) (by unfold maxLen;omega) (by omega) (za _) ?_;intro v2 w2 a3 a1 c8);go_ret2;exact ⟨_,rfl,by rw [d3];simpa using a3,(Below.refl _ _).grown a1 (za _) (by simp [Value.ownBlock])⟩
  ·obtain ⟨i,rfl⟩:∃ i,j=i+1:=⟨j-1,by omega⟩;obtain ⟨p,R⟩:∃ p,ws[i]?=some p:=⟨_,zX (by omega)⟩;have a8:QV (ws.take (i+1)) q z=if p.1=q then p.2 else QV (ws.take i) q z:=by rw [List.take_add_one,R];exact Kr _ _ _ _
   rw [a8] at L;obtain ⟨X,cA,a4,_,d2⟩:=HO.o.form (by omega);obtain rfl:A=some ⟨X,0,none⟩:=by injection a4
   have a0:=zgn ws HW.o i p R;have Z:=HO.o.cells (g:=X) rfl;have cs:=Z _ _ a0.1;rw [Addr.add_mid,qy] at cs;have b9:wr.rangeAt X (i*65+1) (zD p.2):=fun j u hu=>by have:=Z _ _ (a0.2 j u hu);rw [Addr.add_mid,qy] at this;exact this
   have d4:=HW.o p (zC R);have e1:((i:Int)+1-1)=(i:Int):=by omega
   have e5:(0:Int)<=(i:Int):=by omega
   have e7:(i:Int)<(ws.length:Int):=by omega
   obtain ⟨c4,HL⟩:=zi2 b9 L;clear b9 a0 Z L a8 a4;by_cases a9:p.1=q
   ·have d5:decide ((p.1:Int)=(q:Int))=true:=by simp;omega
    have U:=zL.cd c4.o d2;rw [d4] at U;go_wp2_with (at_builtin;refine uK _ rfl _ _ _ rfl wr.heap.size 5 i0 _ 1 1 Tryz.underlying29 hi c1 c2 c3 rfl (by omega) (.slice none 0 0) 0 [] rfl (World.ownsRow_nil _ _ _ _) wr.heap.size (some ⟨X,i*65+1,none⟩) 64 64 (zD p.2) rfl U (yp _) (by unfold maxLen;omega) (by omega) (za _) ?_;intro v2 w2 a3 a1 c8);go_ret2;have E:=HL.o;rw [if_pos a9] at E;exact ⟨_,rfl,by rw [E];simpa using a3,(Below.refl _ _).grown a1 (za _) (by simp [Value.ownBlock])⟩
   ·have d5:decide ((p.1:Int)=(q:Int))=false:=by simp;omega
    go_wp2_with fail;refine ⟨⟨i,by omega,by go_num,?_,by trivial⟩,?_⟩
    ·have E:=HL.o;rw [if_neg a9] at E;exact E
    ·simp [intOf]
end Go.Proofs.YtechnoogjhohfaaGreat
