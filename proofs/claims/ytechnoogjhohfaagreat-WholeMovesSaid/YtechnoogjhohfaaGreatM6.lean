import Derived.Test.YtechnoogjhohfaaGreatM5
import Derived.Deep.MidRow
set_option maxRecDepth 100000
set_option maxHeartbeats 6400000
set_option linter.unusedVariables false
set_option linter.unusedSimpArgs false
namespace Go.Proofs.YtechnoogjhohfaaGreat
open Go.RowKit Go.Lib
structure zz (M:Nat->Prop) (w w':World):Prop where
 os:w'.os=w.os
 tape:w'.tape=w.tape
 output:w'.output=w.output
 size:w.heap.size<=w'.heap.size
 block:∀ k,k<w.heap.size->¬ M k->w'.heap[k]?=w.heap[k]?
theorem zz.refl (M:Nat->Prop) (w:World):zz M w w:=⟨rfl,rfl,rfl,za _,fun _ _ _=>rfl⟩
theorem zz.trans {M N:Nat->Prop} {a b c:World} (h:zz M a b) (k:zz N b c) (D:∀ x,N x->M x∨a.heap.size<=x):zz M a c :=
 ⟨k.os.trans h.os,k.tape.trans h.tape,k.output.trans h.output,zA h.size k.size,fun x u hm =>
  (k.block x (qg u h.size) (fun z=>(D x z).elim hm (fun h=>by omega))).trans (h.block x u hm)⟩
theorem zz.mono {M N:Nat->Prop} {a b:World} (h:zz M a b) (D:∀ x,M x->N x∨a.heap.size<=x):zz N a b :=
 ⟨h.os,h.tape,h.output,h.size,fun x E z=>h.block x E (fun u=>(D x u).elim z (fun h=>by omega))⟩
theorem zz.ak {M:Nat->Prop} {w w':World} (h:zd w w'):zz M w w':=⟨h.os,h.tape,h.output,h.size,fun k u _=>h.block k u⟩
theorem zz.g3 {M:Nat->Prop} {w w':World} {row:Option Nat} (h:w.grownBy w' row) (z:∀ k,row=some k->M k∨w.heap.size<=k):zz M w w' :=
 ⟨h.os,h.tape,h.output,h.size,fun k u hm=>h.block k u (fun e=>(z k e.symm).elim hm (fun h=>by omega))⟩
theorem zz.call {M:Nat->Prop} {a b c:World} (h:zz M a b) (k:zd b c):zz M a c:=h.trans (zz.ak (M:=fun _=>False) k) (fun _ h=>h.elim)
theorem zz.drew {M:Nat->Prop} {a b:World} (h:zz M a b):zz M a b.drew:=⟨h.os,h.tape,h.output,h.size,h.block⟩
theorem zz.set {M:Nat->Prop} {a b:World} (h:zz M a b) {p:Addr} (z:M p.block∨a.heap.size<=p.block) (u:Value):zz M a (b.setCell p u) :=
 ⟨h.os,h.tape,h.output,by simpa using h.size,fun x D hm=>(heap_setCell_other _ _ _ _ (fun e=>z.elim (fun h=>hm (by rw [e];exact h)) (fun h=>by omega))).trans (h.block x D hm)⟩
theorem zz.grown {M:Nat->Prop} {a b c:World} {row:Option Nat} (h:zz M a b) (u:b.grownBy c row) (D:∀ k,row=some k->M k∨a.heap.size<=k):zz M a c :=
 ⟨u.os.trans h.os,u.tape.trans h.tape,u.output.trans h.output,zA h.size u.size,fun x z hm =>
  (u.block x (qg z h.size) (fun e=>(D x e.symm).elim hm (fun h=>by omega))).trans (h.block x z hm)⟩
theorem own_same {w w':World} {B:Nat} {e:TypeId} {s:Nat} {v:Value} {n:Nat} {xs:List Value} (h:w.ownsRow B e s v n xs) (hb:∀ k,v.ownBlock=some k->w'.heap[k]?=w.heap[k]?):w'.ownsRow B e s v n xs :=
 ⟨h.1,h.2.imp_right fun ⟨g,cap,cur,z,D,u⟩=>⟨g,cap,cur,z,D,(hb g (by rw [z];rfl)).trans u.1,u.2⟩⟩
def qO (w:World) (k:Nat):Nat :=
 match w.heap[k]? with
 | some (.cells _ e _)=>e
 | some (.map _ _)=>100001
 | _=>100002
theorem zh {w:World} {k:Nat} {c:Array Value} {e:Nat} {f:Nat × Nat} (h:w.heap[k]?=some (.cells c e f)):qO w k=e:=by simp [qO,h]
theorem ya {w w':World} {k:Nat} (h:w'.heap[k]?=w.heap[k]?):qO w' k=qO w k:=by simp [qO,h]
structure uz where
 DD:Nat
 DR:Nat
 n:Int
 V:Nat->Value
 ws:Nat->List (Nat × List UInt8)
 c4:Nat->List UInt8
def vX (ws:List (Nat × List UInt8)):List Value:=ws.flatMap fun p=>.int .i64 p.1::zE p.2
def Qh (V:Nat->Value):Array Value:=#[V 0,.bool false,.int .i64 0,V 1,.bool false,.int .i64 0,V 2,.bool false,.int .i64 0,V 3,.bool false,.int .i64 0]
def QZ (ws:List (Nat × List UInt8)) (s:Nat) (d:List UInt8):List UInt8:=ws.foldl (fun a p=>if p.1=s then p.2 else a) d
theorem Kv (ws:List (Nat × List UInt8)) (p:Nat × List UInt8) (s:Nat) (d:List UInt8):QZ (ws++[p]) s d=if p.1=s then p.2 else QZ ws s d:=by simp [QZ,List.foldl_append]
structure jh (w:World) (D:Nat) (F:Nat->Prop) (g:uz):Prop where
 U:w.heap[D]?=some (.cells #[.int .i64 538,.slice (some ⟨g.DD,0,none⟩) 2152 2152,.slice (some ⟨g.DR,0,none⟩) 4 4,.int .i64 g.n] 81 (0,0))
 data:∃ c,w.heap[g.DD]?=some (.cells c 118 (0,0))/\c.size=137728
 c4:∀ i,i<2152->w.rangeAt g.DD (i*64) (zE (g.c4 i))
 len:∀ i,i<2152->(g.c4 i).length=64
 bn:w.heap[g.DR]?=some (.cells (Qh g.V) 86 (0,0))
 a9:∀ r,r<4->w.ownsRow 0 120 65 (g.V r) (g.ws r).length (vX (g.ws r))
 d3:∀ r,r<4->∀ p,p∈g.ws r->p.1<538/\p.2.length=64
 dt:∀ r q k,r<4->q<4->r≠q->(g.V r).ownBlock=some k->(g.V q).ownBlock≠some k
 fD:F D
 ei:F g.DD
 da:F g.DR
 fV:∀ r k,r<4->(g.V r).ownBlock=some k->F k
 lt:∀ k,F k->k<w.heap.size
 a6:∀ k,F k->qO w k∈[81,118,86,120]
theorem KW {w w':World} {b o:Nat} {cs:List Value} (h:w.rangeAt b o cs) (hb:w'.heap[b]?=w.heap[b]?):w'.rangeAt b o cs:=fun j v u=>(World.cell?_of_block (a:=⟨b,o+j,none⟩) hb).trans (h j v u)
theorem jh.same {w w':World} {D:Nat} {F:Nat->Prop} {g:uz} (h:jh w D F g) (hs:∀ k,F k->w'.heap[k]?=w.heap[k]?) (R:w.heap.size<=w'.heap.size):jh w' D F g :=
 ⟨(hs _ h.fD).trans h.U,by obtain ⟨c,E,O⟩:=h.data;exact ⟨c,(hs _ h.ei).trans E,O⟩,fun i L=>KW (h.c4 i L) (hs _ h.ei),h.len,(hs _ h.da).trans h.bn,
  fun r z=>own_same (h.a9 r z) fun k u=>hs k (h.fV r k z u),h.d3,h.dt,h.fD,h.ei,h.da,h.fV,fun k u=>qg (h.lt k u) R,fun k u=>by rw [ya (hs k u)];exact h.a6 k u⟩
def zL (w:World) (D:Nat) (F:Nat->Prop) (cur:Nat->Nat->List UInt8) (h:Nat->Nat):Prop :=
 ∃ g,jh w D F g/\(∀ r s,r<4->s<538->cur r s=QZ (g.ws r) s (g.c4 (r*538+s)))/\∀ r,r<4->(g.ws r).length<=h r
theorem zL.same {w w':World} {D:Nat} {F:Nat->Prop} {cur:Nat->Nat->List UInt8} {u:Nat->Nat} (h:zL w D F cur u) (hs:∀ k,F k->w'.heap[k]?=w.heap[k]?) (L:w.heap.size<=w'.heap.size):zL w' D F cur u:=by obtain ⟨g,E,z⟩:=h;exact ⟨g,E.same hs L,z⟩
theorem zL.ad {w w':World} {D:Nat} {F M:Nat->Prop} {cur:Nat->Nat->List UInt8} {u:Nat->Nat} (h:zL w D F cur u) (k:zz M w w') (hm:∀ k,F k->¬ M k):zL w' D F cur u:=by refine h.same (fun x z=>k.block x ?_ (hm x z)) k.size;obtain ⟨g,E,_⟩:=h;exact E.lt x z
theorem zL.below {w w':World} {D:Nat} {F:Nat->Prop} {cur:Nat->Nat->List UInt8} {u:Nat->Nat} (h:zL w D F cur u) (b:zd w w'):zL w' D F cur u :=
 h.ad (zz.ak (M:=fun _=>False) b) (fun _ _ h=>h)
theorem zL.lt {w:World} {D:Nat} {F:Nat->Prop} {cur:Nat->Nat->List UInt8} {u:Nat->Nat} (h:zL w D F cur u):∀ k,F k->k<w.heap.size:=by obtain ⟨g,z,_⟩:=h;exact z.lt
theorem zdT (D:Nat) (F:Nat->Prop) (g:uz) (r s:Int) (w:World) (h:jh w D F g) (X:0<=r) (U:r<4) (Y:0<=s) (hs:s<538) :
  Calls Tryz.prog 27 #[.pointer (some ⟨D,0,none⟩),.int .i64 r,.int .i64 s] w fun e w'=>e=.returned (.int .i64 (r*538+s))/\w'=w:=by
 have u:=(cell_of_row w D 0 _ _ _ h.U).trans (show _=some (Value.int .i64 538) from rfl);have z:=(cell_of_row w D 2 _ _ _ h.U).trans (show _=some (Value.slice (some ⟨g.DR,0,none⟩) 4 4) from rfl);have E:decide (r<0)=false:=by simp;omega
 have L:decide ((4:Int)<=r)=false:=by simp;omega
 have O:decide (s<0)=false:=by simp;omega
 have R:decide ((538:Int)<=s)=false:=by simp;omega
 have w1:IntKind.i64.wrap (r*538)=r*538:=by rw [IntKind.wrap_i64];omega
 have Z:IntKind.i64.wrap (r*538+s)=r*538+s:=by rw [IntKind.wrap_i64];omega
 clear h;go_enter Tryz.func27,Tryz.ntmps27;go_wp2;go_ret;exact ⟨rfl,rfl⟩
theorem zhq (D:Nat) (F:Nat->Prop) (g:uz) (r:Int) (w:World) (h:jh w D F g) (E:0<=r) (z:r<4) :
  Calls Tryz.prog 140 #[.pointer (some ⟨D,0,none⟩),.int .i64 r] w fun e w'=>e=.returned (.bool false)/\w'=w:=by
 have L:=(cell_of_row w D 2 _ _ _ h.U).trans (show _=some (Value.slice (some ⟨g.DR,0,none⟩) 4 4) from rfl);obtain ⟨k,rfl⟩:∃ k:Nat,r=(k:Int):=⟨r.toNat,by omega⟩;have O:w.cell? ⟨g.DR,k*3+1,none⟩=some (.bool false):=by
  rw [cell_of_row w g.DR _ _ _ _ h.bn];have:k<4:=by omega
  rcases k with _ | _ | _ | _ | k<;>first | rfl | omega
 have R:decide ((0:Int)<=(k:Int)*538+0)=true:=by simp;omega
 have U:decide ((0:Int)<=(k:Int)*538)=true:=by simp;omega
 have u:=hid h;clear h;go_enter Tryz.func140,Tryz.ntmps140;go_wp2_with (go_at_call 27;(with_reducible refine (zdT D F g k 0 w u.o E z (by omega) (by omega)).mono ?_);rintro r w1 ⟨rfl,rfl⟩);go_ret;exact ⟨rfl,rfl⟩
theorem zeQ:∀ (ws:List (Nat × List UInt8)),(∀ p,p∈ws->p.2.length=64)->(vX ws).length=ws.length*65
 | [],_=>rfl
 | p::ws,h=>by have:=zeQ ws (fun q u=>h q (by simp [u]));have z:=h p (by simp);simp only [vX,qy,zl,zX,jg] at this ⊢;omega
theorem zeP (a b:List (Nat × List UInt8)):vX (a++b)=vX a++vX b:=by simp [vX]
theorem zgE (ws:List (Nat × List UInt8)) (h:∀ p,p∈ws->p.2.length=64) (k:Nat) (p:Nat × List UInt8) (z:ws[k]?=some p) :
  (vX ws)[k*65]?=some (.int .i64 p.1)/\∀ j u,(zE p.2)[j]?=some u->(vX ws)[k*65+1+j]?=some u:=by
 have O:=(zr.1 z).1;have hlen:(vX (ws.take k)).length=k*65:=by rw [zeQ _ (fun q U=>h q (List.mem_of_mem_take U)),qf,Nat.min_eq_left (by omega)]
 have E:vX ws=vX (ws.take k)++(.int .i64 p.1::zE p.2++vX (ws.drop (k+1))):=by
  have R:ws.drop k=p::ws.drop (k+1):=by rw [List.drop_eq_getElem_cons O];congr 1;exact (zr.1 z).2
  conv=>lhs;rw [<- List.take_append_drop k ws,zeP,R]
  rfl
 have X:=h p (zC z);rw [E];refine ⟨by rw [vj (by omega),hlen];simp,fun j u D=>?_⟩;have L:=(zr.1 D).1;rw [vj (by omega),hlen,show k*65+1+j-k*65=j+1 by omega,List.cons_append,List.getElem?_cons_succ,uc L,D]
theorem zJ.cb {w:World} {b o:Nat} {l:List UInt8} (h:w.rangeAt b o (zE l)) (hb:b<w.heap.size):zJ w w.heap.size 1 (some ⟨b,o,none⟩) l.length (zE l) :=
 ⟨by simp [jg],fun _=>⟨_,rfl,hb,fun j u z=>by rw [Addr.add_mid];exact h j u z⟩⟩
theorem KX {V:Nat->Value} {k:Nat} (h:k<4):(Qh V)[k*3]?=some (V k):=by rcases k with _ | _ | _ | _ | k<;>first | rfl | omega
theorem zid {V:Nat->Value} {k:Nat} (h:k<4):(Qh V)[k*3+1]?=some (.bool false):=by rcases k with _ | _ | _ | _ | k<;>first | rfl | omega
theorem zra {w:World} {B:Nat} {e:TypeId} {s:Nat} {v:Value} {n:Nat} {xs:List Value} (h:w.ownsRow B e s v n xs):n<=maxLen:=by
 rcases h.2 with ⟨_,h0⟩ | ⟨u,cap,cur,_,_,_,z,D,_⟩
 ·omega
 ·omega
theorem Yv (D:Nat) (F:Nat->Prop) (cur:Nat->Nat->List UInt8) (c6:Nat->Nat) (r s:Int) (w:World) (c7:zL w D F cur c6) (d6:0<=r) (hr:r<4) (d7:0<=s) (hs:s<538) :
  Calls Tryz.prog 117 #[.pointer (some ⟨D,0,none⟩),.int .i64 r,.int .i64 s] w fun e w'=>∃ v,e=.returned (.tuple #[v,.int .i64 0])/\w'.ownsRow w.heap.size 5 1 v 64 (zE (cur r.toNat s.toNat))/\zd w w':=by
 obtain ⟨k,rfl⟩:∃ k:Nat,r=(k:Int):=⟨r.toNat,by omega⟩;obtain ⟨q,rfl⟩:∃ q:Nat,s=(q:Int):=⟨s.toNat,by omega⟩;obtain ⟨i0,hi,c1,c2,c3⟩:=info_parts QY;obtain ⟨g,h,a6,_⟩:=c7;have Y:k<4:=by omega
 have hq:q<538:=by omega
 have a5:=a6 k q Y hq;simp only [qp];rw [a5];have O:=h.a9 k Y;obtain ⟨A,cw,hV⟩:=own_slice O;rw [hV] at O;have d8:=(cell_of_row w D 1 _ _ _ h.U).trans (show _=some (Value.slice (some ⟨g.DD,0,none⟩) 2152 2152) from rfl);have d9:=(cell_of_row w D 2 _ _ _ h.U).trans (show _=some (Value.slice (some ⟨g.DR,0,none⟩) 4 4) from rfl);have e0:w.cell? ⟨g.DR,k*3,none⟩=some (.slice A (g.ws k).length cw):=by rw [cell_of_row w g.DR _ _ _ _ h.bn,<- hV];exact KX Y
 have d1:(g.ws k).length<=maxLen:=zra O;unfold maxLen at d1;have e2:decide ((k:Int)*538+(q:Int)<0)=false:=by simp;omega
 have e9:(0:Int)<=(k:Int):=by omega
 have f0:(k:Int)<4:=by omega
 have c0:∀ p,p∈g.ws k->p.2.length=64:=fun p R=>(h.d3 k Y p R).2;have f1:IntKind.i64.wrap (((g.ws k).length:Int)-1)=((g.ws k).length:Int)-1:=by rw [IntKind.wrap_i64];omega
 have a7:=h.c4 (k*538+q) (by omega);have d0:=h.len (k*538+q) (by omega);have e4:(0:Int)<=(k:Int)*538+(q:Int):=by omega
 have e6:(k:Int)*538+(q:Int)<2152:=by omega
 have e8:((k:Int)*538+(q:Int)).toNat=k*538+q:=by omega
 have c8:=h.lt _ h.ei;generalize f3:g.ws k=ws at *;generalize e3:g.c4 (k*538+q)=z at *;obtain ⟨HR,HO,HW,HD⟩:=zi4 h O c0 a7;clear h a6 a5 O c0 a7 hV;go_enter Tryz.func117,Tryz.ntmps117;go_wp2_with (go_at_call 27;(with_reducible refine (zdT D F g k q w HR.o d6 hr d7 hs).mono ?_);rintro e1 w1 ⟨rfl,f2⟩;subst w1);go_loopw [10] (fun u wr=>∃ j:Nat,j<=ws.length/\u=.int .i64 ((j:Int)-1)/\QZ ws q z=QZ (ws.take j) q z/\wr=w) (fun u _=>(intOf u+1).toNat)
 case atStart=>exact ⟨ws.length,za _,by go_num,by rw [qi],rfl⟩
 case round =>
  obtain ⟨j,hj,rfl,L,rfl⟩:=hrel;by_cases h0:j=0
  ·subst h0;simp only [List.take_zero] at L;have d3:QZ ws q z=z:=L;have U:=zJ.cb HD.o c8;rw [d0] at U;go_wp2_with (at_builtin;refine uS _ rfl _ _ _ rfl wr.heap.size 5 i0 _ 1 1 Tryz.underlying29 hi c1 c2 c3 rfl (by omega) (.slice none 0 0) 0 [] rfl (World.ownsRow_nil _ _ _ _) wr.heap.size (some ⟨g.DD,(k*538+q)*64,none⟩) 64 64 (zE z) rfl U (yr _) (by unfold maxLen;omega) (by omega) (za _) ?_;intro v2 w2 a3 a1 c9);go_ret2;exact ⟨_,rfl,by rw [d3];simpa using a3,(Below.refl _ _).grown a1 (za _) (by simp [Value.ownBlock])⟩
  ·obtain ⟨i,rfl⟩:∃ i,j=i+1:=⟨j-1,by omega⟩;obtain ⟨p,R⟩:∃ p,ws[i]?=some p:=⟨_,qa (by omega)⟩;have a8:QZ (ws.take (i+1)) q z=if p.1=q then p.2 else QZ (ws.take i) q z:=by rw [List.take_add_one,R];exact Kv _ _ _ _
   rw [a8] at L;obtain ⟨X,cA,a4,_,d2⟩:=HO.o.form (by omega);obtain rfl:A=some ⟨X,0,none⟩:=by injection a4
   have a0:=zgE ws HW.o i p R;have Z:=HO.o.cells (g:=X) rfl;have cs:=Z _ _ a0.1;rw [Addr.add_mid,qz] at cs;have b9:wr.rangeAt X (i*65+1) (zE p.2):=fun j u hu=>by have:=Z _ _ (a0.2 j u hu);rw [Addr.add_mid,qz] at this;exact this
   have d4:=HW.o p (zC R);have e1:((i:Int)+1-1)=(i:Int):=by omega
   have e5:(0:Int)<=(i:Int):=by omega
   have e7:(i:Int)<(ws.length:Int):=by omega
   obtain ⟨c5,HL⟩:=zi2 b9 L;clear b9 a0 Z L a8 a4;by_cases a9:p.1=q
   ·have d5:decide ((p.1:Int)=(q:Int))=true:=by simp;omega
    have U:=zJ.cb c5.o d2;rw [d4] at U;go_wp2_with (at_builtin;refine uS _ rfl _ _ _ rfl wr.heap.size 5 i0 _ 1 1 Tryz.underlying29 hi c1 c2 c3 rfl (by omega) (.slice none 0 0) 0 [] rfl (World.ownsRow_nil _ _ _ _) wr.heap.size (some ⟨X,i*65+1,none⟩) 64 64 (zE p.2) rfl U (yr _) (by unfold maxLen;omega) (by omega) (za _) ?_;intro v2 w2 a3 a1 c9);go_ret2;have E:=HL.o;rw [if_pos a9] at E;exact ⟨_,rfl,by rw [E];simpa using a3,(Below.refl _ _).grown a1 (za _) (by simp [Value.ownBlock])⟩
   ·have d5:decide ((p.1:Int)=(q:Int))=false:=by simp;omega
    go_wp2_with fail;refine ⟨⟨i,by omega,by go_num,?_,by trivial⟩,?_⟩
    ·have E:=HL.o;rw [if_neg a9] at E;exact E
    ·simp [intOf]
end Go.Proofs.YtechnoogjhohfaaGreat
