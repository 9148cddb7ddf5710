/-
  Joined by a program from texts written one by one: part 6 of the walk through the program and of the law behind it.
-/
import Derived.Test.YtechnoogjhohfaaGreatC5
import Derived.Deep.MidRow
set_option maxRecDepth 100000
set_option maxHeartbeats 6400000
set_option linter.unusedVariables false
set_option linter.unusedSimpArgs false
namespace Go.Proofs.YtechnoogjhohfaaGreat
open Go.RowKit Go.Lib
structure zr (M:Nat->Prop) (w w':World):Prop where
 os:w'.os=w.os
 tape:w'.tape=w.tape
 output:w'.output=w.output
 size:w.heap.size<=w'.heap.size
 block:∀ k,k<w.heap.size->¬ M k->w'.heap[k]?=w.heap[k]?
theorem zr.refl (M:Nat->Prop) (w:World):zr M w w:=⟨rfl,rfl,rfl,Nat.le_refl _,fun _ _ _=>rfl⟩
theorem zr.trans {M N:Nat->Prop} {a b c:World} (h:zr M a b) (k:zr N b c) (hn:∀ x,N x->M x∨a.heap.size<=x):zr M a c :=
 ⟨k.os.trans h.os,k.tape.trans h.tape,k.output.trans h.output,Nat.le_trans h.size k.size,fun x hx hm =>
  (k.block x (Nat.lt_of_lt_of_le hx h.size) (fun hN=>(hn x hN).elim hm (fun h=>by omega))).trans (h.block x hx hm)⟩
theorem zr.mono {M N:Nat->Prop} {a b:World} (h:zr M a b) (hn:∀ x,M x->N x∨a.heap.size<=x):zr N a b :=
 ⟨h.os,h.tape,h.output,h.size,fun x hx hN=>h.block x hx (fun hM=>(hn x hM).elim hN (fun h=>by omega))⟩
theorem zr.of_below {M:Nat->Prop} {w w':World} (h:Below w.heap.size w w'):zr M w w':=⟨h.os,h.tape,h.output,h.size,fun k hk _=>h.block k hk⟩
theorem zr.call {M:Nat->Prop} {a b c:World} (h:zr M a b) (k:Below b.heap.size b c):zr M a c:=h.trans (zr.of_below (M:=fun _=>False) k) (fun _ h=>h.elim)
theorem zr.drew {M:Nat->Prop} {a b:World} (h:zr M a b):zr M a b.drew:=⟨h.os,h.tape,h.output,h.size,h.block⟩
theorem zr.set {M:Nat->Prop} {a b:World} (h:zr M a b) {p:Addr} (hp:M p.block∨a.heap.size<=p.block) (u:Value):zr M a (b.setCell p u) :=
 ⟨h.os,h.tape,h.output,by simpa using h.size,fun x hx hm=>(heap_setCell_other _ _ _ _ (fun e=>hp.elim (fun h=>hm (by rw [e];exact h)) (fun h=>by omega))).trans (h.block x hx hm)⟩
theorem zr.grown {M:Nat->Prop} {a b c:World} {row:Option Nat} (h:zr M a b) (hg:b.grownBy c row) (hr:∀ k,row=some k->M k∨a.heap.size<=k):zr M a c :=
 ⟨hg.os.trans h.os,hg.tape.trans h.tape,hg.output.trans h.output,Nat.le_trans h.size hg.size,fun x hx hm =>
  (hg.block x (Nat.lt_of_lt_of_le hx h.size) (fun e=>(hr x e.symm).elim hm (fun h=>by omega))).trans (h.block x hx hm)⟩
theorem zi {w w':World} {B:Nat} {e:TypeId} {s:Nat} {v:Value} {n:Nat} {xs:List Value} (h:w.ownsRow B e s v n xs) (hb:∀ k,v.ownBlock=some k->w'.heap[k]?=w.heap[k]?):w'.ownsRow B e s v n xs :=
 ⟨h.1,h.2.imp_right fun ⟨g,cap,cur,hv,hg,hr⟩=>⟨g,cap,cur,hv,hg,(hb g (by rw [hv];rfl)).trans hr.1,hr.2⟩⟩
def qp (w:World) (k:Nat):Nat :=
 match w.heap[k]? with
 | some (.cells _ e _)=>e
 | some (.map _ _)=>100001
 | _=>100002
theorem zc {w:World} {k:Nat} {c:Array Value} {e:Nat} {f:Nat × Nat} (h:w.heap[k]?=some (.cells c e f)):qp w k=e:=by simp [qp,h]
theorem jm {w w':World} {k:Nat} (h:w'.heap[k]?=w.heap[k]?):qp w' k=qp w k:=by simp [qp,h]
structure yI where
 DD:Nat
 DR:Nat
 n:Int
 V:Nat->Value
 ws:Nat->List (Nat × List UInt8)
 dat:Nat->List UInt8
def yi (ws:List (Nat × List UInt8)):List Value:=ws.flatMap fun p=>.int .i64 p.1::zo p.2
def uc (V:Nat->Value):Array Value:=#[V 0,.bool false,.int .i64 0,V 1,.bool false,.int .i64 0,V 2,.bool false,.int .i64 0,V 3,.bool false,.int .i64 0]
def uF (ws:List (Nat × List UInt8)) (s:Nat) (d:List UInt8):List UInt8:=ws.foldl (fun a p=>if p.1=s then p.2 else a) d
theorem QL (ws:List (Nat × List UInt8)) (p:Nat × List UInt8) (s:Nat) (d:List UInt8):uF (ws++[p]) s d=if p.1=s then p.2 else uF ws s d:=by
 simp [uF,List.foldl_append]
structure qq (w:World) (D:Nat) (F:Nat->Prop) (g:yI):Prop where
 blk:w.heap[D]?=some (.cells #[.int .i64 538,.slice (some ⟨g.DD,0,none⟩) 2152 2152,.slice (some ⟨g.DR,0,none⟩) 4 4,.int .i64 g.n] 81 (0,0))
 data:∃ c,w.heap[g.DD]?=some (.cells c 118 (0,0))/\c.size=137728
 dat:∀ i,i<2152->w.rangeAt g.DD (i*64) (zo (g.dat i))
 len:∀ i,i<2152->(g.dat i).length=64
 regs:w.heap[g.DR]?=some (.cells (uc g.V) 86 (0,0))
 own:∀ r,r<4->w.ownsRow 0 120 65 (g.V r) (g.ws r).length (yi (g.ws r))
 sect:∀ r,r<4->∀ p,p∈g.ws r->p.1<538/\p.2.length=64
 dist:∀ r q k,r<4->q<4->r≠q->(g.V r).ownBlock=some k->(g.V q).ownBlock≠some k
 fD:F D
 fDD:F g.DD
 fDR:F g.DR
 fV:∀ r k,r<4->(g.V r).ownBlock=some k->F k
 lt:∀ k,F k->k<w.heap.size
 tag:∀ k,F k->qp w k∈[81,118,86,120]
theorem Jh {w w':World} {b o:Nat} {cs:List Value} (h:w.rangeAt b o cs) (hb:w'.heap[b]?=w.heap[b]?):w'.rangeAt b o cs:=fun j v hv=>(World.cell?_of_block (a:=⟨b,o+j,none⟩) hb).trans (h j v hv)
theorem qq.same {w w':World} {D:Nat} {F:Nat->Prop} {g:yI} (h:qq w D F g) (hs:∀ k,F k->w'.heap[k]?=w.heap[k]?) (hz:w.heap.size<=w'.heap.size):qq w' D F g :=
 ⟨(hs _ h.fD).trans h.blk,by obtain ⟨c,hc,hn⟩:=h.data;exact ⟨c,(hs _ h.fDD).trans hc,hn⟩,fun i hi=>Jh (h.dat i hi) (hs _ h.fDD),h.len,(hs _ h.fDR).trans h.regs,
  fun r hr=>zi (h.own r hr) fun k hk=>hs k (h.fV r k hr hk),h.sect,h.dist,h.fD,h.fDD,h.fDR,h.fV,fun k hk=>Nat.lt_of_lt_of_le (h.lt k hk) hz,fun k hk=>by rw [jm (hs k hk)];exact h.tag k hk⟩
def zv (w:World) (D:Nat) (F:Nat->Prop) (cur:Nat->Nat->List UInt8) (cnt:Nat->Nat):Prop :=
 ∃ g,qq w D F g/\(∀ r s,r<4->s<538->cur r s=uF (g.ws r) s (g.dat (r*538+s)))/\∀ r,r<4->(g.ws r).length<=cnt r
theorem zv.same {w w':World} {D:Nat} {F:Nat->Prop} {cur:Nat->Nat->List UInt8} {cnt:Nat->Nat} (h:zv w D F cur cnt) (hs:∀ k,F k->w'.heap[k]?=w.heap[k]?) (hz:w.heap.size<=w'.heap.size):zv w' D F cur cnt:=by
 obtain ⟨g,hr,hc⟩:=h
 exact ⟨g,hr.same hs hz,hc⟩
theorem zv.keep {w w':World} {D:Nat} {F M:Nat->Prop} {cur:Nat->Nat->List UInt8} {cnt:Nat->Nat} (h:zv w D F cur cnt) (k:zr M w w') (hm:∀ k,F k->¬ M k):zv w' D F cur cnt:=by
 refine h.same (fun x hx=>k.block x ?_ (hm x hx)) k.size
 obtain ⟨g,hr,_⟩:=h
 exact hr.lt x hx
theorem zv.below {w w':World} {D:Nat} {F:Nat->Prop} {cur:Nat->Nat->List UInt8} {cnt:Nat->Nat} (h:zv w D F cur cnt) (b:Below w.heap.size w w'):zv w' D F cur cnt :=
 h.keep (zr.of_below (M:=fun _=>False) b) (fun _ _ h=>h)
theorem zv.lt {w:World} {D:Nat} {F:Nat->Prop} {cur:Nat->Nat->List UInt8} {cnt:Nat->Nat} (h:zv w D F cur cnt):∀ k,F k->k<w.heap.size:=by
 obtain ⟨g,hr,_⟩:=h
 exact hr.lt
theorem GU (D:Nat) (F:Nat->Prop) (g:yI) (r s:Int) (w:World) (h:qq w D F g) (hr0:0<=r) (hr:r<4) (hs0:0<=s) (hs:s<538) :
  Calls Tryz.prog 27 #[.pointer (some ⟨D,0,none⟩),.int .i64 r,.int .i64 s] w fun e w'=>e=.returned (.int .i64 (r*538+s))/\w'=w:=by
 have c0:=(cell_of_row w D 0 _ _ _ h.blk).trans (show _=some (Value.int .i64 538) from rfl)
 have c2:=(cell_of_row w D 2 _ _ _ h.blk).trans (show _=some (Value.slice (some ⟨g.DR,0,none⟩) 4 4) from rfl)
 have d1:decide (r<0)=false:=by simp;omega
 have d2:decide ((4:Int)<=r)=false:=by simp;omega
 have d3:decide (s<0)=false:=by simp;omega
 have d4:decide ((538:Int)<=s)=false:=by simp;omega
 have w1:IntKind.i64.wrap (r*538)=r*538:=by rw [IntKind.wrap_i64];omega
 have w2:IntKind.i64.wrap (r*538+s)=r*538+s:=by rw [IntKind.wrap_i64];omega
 clear h
 go_enter Tryz.func27,Tryz.ntmps27
 go_wp2
 go_ret
 exact ⟨rfl,rfl⟩
theorem zcy (D:Nat) (F:Nat->Prop) (g:yI) (r:Int) (w:World) (h:qq w D F g) (hr0:0<=r) (hr:r<4) :
  Calls Tryz.prog 140 #[.pointer (some ⟨D,0,none⟩),.int .i64 r] w fun e w'=>e=.returned (.bool false)/\w'=w:=by
 have c2:=(cell_of_row w D 2 _ _ _ h.blk).trans (show _=some (Value.slice (some ⟨g.DR,0,none⟩) 4 4) from rfl)
 obtain ⟨k,rfl⟩:∃ k:Nat,r=(k:Int):=⟨r.toNat,by omega⟩
 have ca:w.cell? ⟨g.DR,k*3+1,none⟩=some (.bool false):=by
  rw [cell_of_row w g.DR _ _ _ _ h.regs]
  have:k<4:=by omega
  rcases k with _ | _ | _ | _ | k<;>first | rfl | omega
 have d1:decide ((0:Int)<=(k:Int)*538+0)=true:=by simp;omega
 have d2:decide ((0:Int)<=(k:Int)*538)=true:=by simp;omega
 have HH:=hid h
 clear h
 go_enter Tryz.func140,Tryz.ntmps140
 go_wp2_with (go_at_call 27;(with_reducible refine (GU D F g k 0 w HH.out hr0 hr (by omega) (by omega)).mono ?_);rintro r w1 ⟨rfl,rfl⟩)
 go_ret
 exact ⟨rfl,rfl⟩
theorem zay:∀ (ws:List (Nat × List UInt8)),(∀ p,p∈ws->p.2.length=64)->(yi ws).length=ws.length*65
 | [],_=>rfl
 | p::ws,h=>by
  have:=zay ws (fun q hq=>h q (by simp [hq]))
  have h1:=h p (by simp)
  simp only [yi,List.flatMap_cons,List.length_append,List.length_cons,qm] at this ⊢
  omega
theorem zax (a b:List (Nat × List UInt8)):yi (a++b)=yi a++yi b:=by simp [yi]
theorem zbR (ws:List (Nat × List UInt8)) (h:∀ p,p∈ws->p.2.length=64) (k:Nat) (p:Nat × List UInt8) (hk:ws[k]?=some p) :
  (yi ws)[k*65]?=some (.int .i64 p.1)/\∀ j u,(zo p.2)[j]?=some u->(yi ws)[k*65+1+j]?=some u:=by
 have hlt:=(List.getElem?_eq_some_iff.1 hk).1
 have hlen:(yi (ws.take k)).length=k*65:=by
  rw [zay _ (fun q hq=>h q (List.mem_of_mem_take hq)),List.length_take,Nat.min_eq_left (by omega)]
 have he:yi ws=yi (ws.take k)++(.int .i64 p.1::zo p.2++yi (ws.drop (k+1))):=by
  have hp:ws.drop k=p::ws.drop (k+1):=by
   rw [List.drop_eq_getElem_cons hlt]
   congr 1
   exact (List.getElem?_eq_some_iff.1 hk).2
  conv=>lhs;rw [<- List.take_append_drop k ws,zax,hp]
  rfl
 have h64:=h p (List.mem_of_getElem? hk)
 rw [he]
 refine ⟨by rw [List.getElem?_append_right (by omega),hlen];simp,fun j u hu=>?_⟩
 have hj:=(List.getElem?_eq_some_iff.1 hu).1
 rw [List.getElem?_append_right (by omega),hlen,show k*65+1+j-k*65=j+1 by omega,List.cons_append,List.getElem?_cons_succ,List.getElem?_append_left hj,hu]
theorem zx.of_range {w:World} {b o:Nat} {l:List UInt8} (h:w.rangeAt b o (zo l)) (hb:b<w.heap.size):zx w w.heap.size 1 (some ⟨b,o,none⟩) l.length (zo l) :=
 ⟨by simp [qm],fun _=>⟨_,rfl,hb,fun j u hu=>by rw [Addr.add_mid];exact h j u hu⟩⟩
theorem Ji {V:Nat->Value} {k:Nat} (hk:k<4):(uc V)[k*3]?=some (V k):=by
 rcases k with _ | _ | _ | _ | k<;>first | rfl | omega
theorem zdc {V:Nat->Value} {k:Nat} (hk:k<4):(uc V)[k*3+1]?=some (.bool false):=by
 rcases k with _ | _ | _ | _ | k<;>first | rfl | omega
theorem zkO {w:World} {B:Nat} {e:TypeId} {s:Nat} {v:Value} {n:Nat} {xs:List Value} (h:w.ownsRow B e s v n xs):n<=maxLen:=by
 rcases h.2 with ⟨_,h0⟩ | ⟨g',cap,cur,_,_,_,h1,h2,_⟩
 ·omega
 ·omega
theorem ZV (D:Nat) (F:Nat->Prop) (cur:Nat->Nat->List UInt8) (cnt:Nat->Nat) (r s:Int) (w:World) (h:zv w D F cur cnt) (hr0:0<=r) (hr:r<4) (hs0:0<=s) (hs:s<538) :
  Calls Tryz.prog 117 #[.pointer (some ⟨D,0,none⟩),.int .i64 r,.int .i64 s] w fun e w'=>∃ v,e=.returned (.tuple #[v,.int .i64 0])/\w'.ownsRow w.heap.size 5 1 v 64 (zo (cur r.toNat s.toNat))/\Below w.heap.size w w':=by
 obtain ⟨k,rfl⟩:∃ k:Nat,r=(k:Int):=⟨r.toNat,by omega⟩
 obtain ⟨q,rfl⟩:∃ q:Nat,s=(q:Int):=⟨s.toNat,by omega⟩
 obtain ⟨i0,hi,hz0,hz1,hz2⟩:=info_parts uE
 obtain ⟨g,hR,hcur,_⟩:=h
 have hk:k<4:=by omega
 have hq:q<538:=by omega
 have hcu:=hcur k q hk hq
 simp only [Int.toNat_natCast]
 rw [hcu]
 have hown:=hR.own k hk
 obtain ⟨A,cw,hV⟩:=own_slice hown
 rw [hV] at hown
 have c1:=(cell_of_row w D 1 _ _ _ hR.blk).trans (show _=some (Value.slice (some ⟨g.DD,0,none⟩) 2152 2152) from rfl)
 have c2:=(cell_of_row w D 2 _ _ _ hR.blk).trans (show _=some (Value.slice (some ⟨g.DR,0,none⟩) 4 4) from rfl)
 have cw':w.cell? ⟨g.DR,k*3,none⟩=some (.slice A (g.ws k).length cw):=by
  rw [cell_of_row w g.DR _ _ _ _ hR.regs,<- hV];exact Ji hk
 have hfew:(g.ws k).length<=maxLen:=zkO hown
 unfold maxLen at hfew
 have d1:decide ((k:Int)*538+(q:Int)<0)=false:=by simp;omega
 have hka:(0:Int)<=(k:Int):=by omega
 have hkb:(k:Int)<4:=by omega
 have hws:∀ p,p∈g.ws k->p.2.length=64:=fun p hp=>(hR.sect k hk p hp).2
 have hn1:IntKind.i64.wrap (((g.ws k).length:Int)-1)=((g.ws k).length:Int)-1:=by rw [IntKind.wrap_i64];omega
 have hdat:=hR.dat (k*538+q) (by omega)
 have hdl:=hR.len (k*538+q) (by omega)
 have hia:(0:Int)<=(k:Int)*538+(q:Int):=by omega
 have hib:(k:Int)*538+(q:Int)<2152:=by omega
 have hit:((k:Int)*538+(q:Int)).toNat=k*538+q:=by omega
 have hDD:=hR.lt _ hR.fDD
 generalize hws0:g.ws k=ws at *
 generalize hdt:g.dat (k*538+q)=dt at *
 obtain ⟨HR,HO,HW,HD⟩:=zi4 hR hown hws hdat
 clear hR hcur hcu hown hws hdat hV
 go_enter Tryz.func117,Tryz.ntmps117
 go_wp2_with (go_at_call 27;(with_reducible refine (GU D F g k q w HR.out hr0 hr hs0 hs).mono ?_);rintro e1 w1 ⟨rfl,hw1⟩;subst w1)
 go_loopw [10] (fun u wr=>∃ j:Nat,j<=ws.length/\u=.int .i64 ((j:Int)-1)/\uF ws q dt=uF (ws.take j) q dt/\wr=w) (fun u _=>(intOf u+1).toNat)
 case atStart=>exact ⟨ws.length,Nat.le_refl _,by go_num,by rw [List.take_length],rfl⟩
 case round =>
  obtain ⟨j,hj,rfl,hl,rfl⟩:=hrel
  by_cases h0:j=0
  ·subst h0
   simp only [List.take_zero] at hl
   have hl':uF ws q dt=dt:=hl
   have hrd:=zx.of_range HD.out hDD
   rw [hdl] at hrd
   go_wp2_with (at_builtin;refine yT _ rfl _ _ _ rfl wr.heap.size 5 i0 _ 1 1 Tryz.underlying29 hi hz0 hz1 hz2 rfl (by omega) (.slice none 0 0) 0 [] rfl (World.ownsRow_nil _ _ _ _) wr.heap.size (some ⟨g.DD,(k*538+q)*64,none⟩) 64 64 (zo dt) rfl hrd (jb _) (by unfold maxLen;omega) (by omega) (Nat.le_refl _) ?_;intro v2 w2 hown2 hg2 hat2)
   go_ret2
   exact ⟨_,rfl,by rw [hl'];simpa using hown2,(Below.refl _ _).grown hg2 (Nat.le_refl _) (by simp [Value.ownBlock])⟩
  ·obtain ⟨i,rfl⟩:∃ i,j=i+1:=⟨j-1,by omega⟩
   obtain ⟨p,hp⟩:∃ p,ws[i]?=some p:=⟨_,List.getElem?_eq_getElem (by omega)⟩
   have hlast:uF (ws.take (i+1)) q dt=if p.1=q then p.2 else uF (ws.take i) q dt:=by
    rw [List.take_add_one,hp]
    exact QL _ _ _ _
   rw [hlast] at hl
   obtain ⟨gA,cA,hAv,_,hgA⟩:=HO.out.form (by omega)
   obtain rfl:A=some ⟨gA,0,none⟩:=by injection hAv
   have hcells:=zbR ws HW.out i p hp
   have hcc:=HO.out.cells (g:=gA) rfl
   have cs:=hcc _ _ hcells.1
   rw [Addr.add_mid,Nat.zero_add] at cs
   have hrange:wr.rangeAt gA (i*65+1) (zo p.2):=fun j u hu=>by
    have:=hcc _ _ (hcells.2 j u hu)
    rw [Addr.add_mid,Nat.zero_add] at this
    exact this
   have hp64:=HW.out p (List.mem_of_getElem? hp)
   have e1:((i:Int)+1-1)=(i:Int):=by omega
   have hia2:(0:Int)<=(i:Int):=by omega
   have hib2:(i:Int)<(ws.length:Int):=by omega
   obtain ⟨HR2,HL⟩:=zi2 hrange hl
   clear hrange hcells hcc hl hlast hAv
   by_cases hpq:p.1=q
   ·have d5:decide ((p.1:Int)=(q:Int))=true:=by simp;omega
    have hrd:=zx.of_range HR2.out hgA
    rw [hp64] at hrd
    go_wp2_with (at_builtin;refine yT _ rfl _ _ _ rfl wr.heap.size 5 i0 _ 1 1 Tryz.underlying29 hi hz0 hz1 hz2 rfl (by omega) (.slice none 0 0) 0 [] rfl (World.ownsRow_nil _ _ _ _) wr.heap.size (some ⟨gA,i*65+1,none⟩) 64 64 (zo p.2) rfl hrd (jb _) (by unfold maxLen;omega) (by omega) (Nat.le_refl _) ?_;intro v2 w2 hown2 hg2 hat2)
    go_ret2
    have hL:=HL.out
    rw [if_pos hpq] at hL
    exact ⟨_,rfl,by rw [hL];simpa using hown2,(Below.refl _ _).grown hg2 (Nat.le_refl _) (by simp [Value.ownBlock])⟩
   ·have d5:decide ((p.1:Int)=(q:Int))=false:=by simp;omega
    go_wp2_with fail
    refine ⟨⟨i,by omega,by go_num,?_,by trivial⟩,?_⟩
    ·have hL:=HL.out
     rw [if_neg hpq] at hL
     exact hL
    ·simp [intOf]
end Go.Proofs.YtechnoogjhohfaaGreat
