/-
  Joined by a program from texts written one by one: part 17 of the walk through the program and of the law behind it.
-/
import Derived.Test.YtechnoogjhohfaaGreatC16
import Derived.Test.YtechnoogjhohfaaGreatC1
import Derived.BigQuiet
import Derived.Deep.QuietTactic
set_option maxRecDepth 100000
set_option maxHeartbeats 6400000
set_option linter.unusedVariables false
set_option linter.unusedSimpArgs false
namespace Go.Proofs.YtechnoogjhohfaaGreat
open Go.RowKit Go.Maps Go.MapKept
open Go.ChangeMaps (setBlock)
section
structure zn (S:Nat->Prop) (w w':World):Prop where
 os:w'.os=w.os
 tape:w'.tape=w.tape
 output:w'.output=w.output
 size:w.heap.size<=w'.heap.size
 block:∀ i,i<w.heap.size->¬ S i->w'.heap[i]?=w.heap[i]?
section
variable {S S':Nat->Prop} {w w' w'':World}
theorem zn.refl (S:Nat->Prop) (w:World):zn S w w:=⟨rfl,rfl,rfl,Nat.le_refl _,fun _ _ _=>rfl⟩
theorem zn.trans (h:zn S w w') (k:zn S w' w''):zn S w w'' :=
 ⟨k.os.trans h.os,k.tape.trans h.tape,k.output.trans h.output,Nat.le_trans h.size k.size,fun i hi hs=>(k.block i (Nat.lt_of_lt_of_le hi h.size) hs).trans (h.block i hi hs)⟩
theorem zn.mono (h:zn S w w') (hs:∀ i,i<w.heap.size->S i->S' i):zn S' w w':=⟨h.os,h.tape,h.output,h.size,fun i hi hn=>h.block i hi fun hS=>hn (hs i hi hS)⟩
theorem zn.drew (h:zn S w w'):zn S w w'.drew:=⟨h.os,h.tape,h.output,h.size,h.block⟩
theorem zn.drewN (h:zn S w w') (n:Nat):zn S w (w'.drewN n):=⟨h.os,h.tape,h.output,h.size,h.block⟩
theorem zn.alloc (h:zn S w w') (o:Obj):zn S w (w'.alloc o) :=
 ⟨h.os,h.tape,h.output,Nat.le_trans h.size (by simp),fun i hi hs=>(Below.heap_alloc w' o i (Nat.lt_of_lt_of_le hi h.size)).trans (h.block i hi hs)⟩
theorem zn.setCell (h:zn S w w') {p:Addr} (hp:w.heap.size<=p.block∨S p.block) (u:Value):zn S w (w'.setCell p u) :=
 ⟨h.os,h.tape,h.output,Nat.le_trans h.size (by simp [World.setCell]),fun i hi hs=>(Below.heap_setCell w' p u i (by
  rintro rfl
  rcases hp with hp | hp
  ·omega
  ·exact hs hp)).trans (h.block i hi hs)⟩
theorem zn.turned {b:Nat} (h:zn S w w') (k:w'.mapTurned w'' b) (hb:w.heap.size<=b∨S b):zn S w w'':=by
 have hg:=k.grown
 refine ⟨hg.os.trans h.os,hg.tape.trans h.tape,hg.output.trans h.output,Nat.le_trans h.size hg.size,fun i hi hs=>(hg.block i (Nat.lt_of_lt_of_le hi h.size) (fun e=>?_)).trans (h.block i hi hs)⟩
 have e:i=b:=by simpa using e
 subst e
 rcases hb with hb | hb
 ·omega
 ·exact hs hb
theorem zn.below {B:Nat} (h:zn S w w') (hB:B<=w.heap.size) (hS:∀ i,i<B->¬ S i):Below B w w' :=
 ⟨h.os,h.tape,h.output,h.size,fun i hi=>h.block i (by omega) (hS i hi)⟩
theorem zn.of_below (h:Below w.heap.size w w'):zn S w w':=⟨h.os,h.tape,h.output,h.size,fun i hi _=>h.block i hi⟩
theorem zU.turns {K V:Type} {f:K->Value} {ok:K->Prop} {g:V->Value} {b:Nat} {l:List (K × V)} (h:zU w f ok g b l) (k:zn S w w') (hb:¬ S b):zU w' f ok g b l:=h.of_block (k.block b h.lt hb)
end
theorem Yk {w w':World} {b:Nat} (t:w.mapTurned w' b):zn (fun i=>i=b) w w':=(zn.refl _ _).turned t (.inr rfl)
theorem zU.drewN {K V:Type} {f:K->Value} {ok:K->Prop} {g:V->Value} {w:World} {b:Nat} {l:List (K × V)} (h:zU w f ok g b l) (n:Nat):zU (w.drewN n) f ok g b l:=h
theorem Qb {α β γ:Type} {a:α->γ} {b:β->γ} {p:α->Bool} {q:β->Bool}:∀ {L:List α} {M:List β},L.map a=M.map b->(∀ x∈L,∀ y∈M,a x=b y->p x=q y)->(L.filter p).map a=(M.filter q).map b
 | [],[],_,_=>rfl
 | [],_::_,h,_=>by cases h
 | _::_,[],h,_=>by cases h
 | x::L,y::M,h,hc=>by
  simp only [List.map_cons,List.cons.injEq] at h
  have h1:=hc x (by simp) y (by simp) h.1
  have ih:=Qb h.2 (fun x hx y hy=>hc x (List.mem_cons_of_mem _ hx) y (List.mem_cons_of_mem _ hy))
  rw [List.filter_cons,List.filter_cons,h1]
  cases hq:q y
  ·simp [ih]
  ·simp [ih,h.1]
theorem zgg {α β γ:Type} {a:α->γ} {b:β->γ} {L:List α} {M:List β} (h:L.map a=M.map b) {x:α} (hx:x∈L):∃ y∈M,b y=a x:=by
 have:a x∈M.map b:=by rw [<- h];exact List.mem_map.2 ⟨x,hx,rfl⟩
 obtain ⟨y,hy,e⟩:=List.mem_map.1 this
 exact ⟨y,hy,e⟩
def qV {K V:Type} (w:World) (f:K->Value) (ok:K->Prop) (g:V->Value) (b r:Nat) (l left:List (K × V)):Prop :=
 ∃ es clock since seen c0,w.heap[b]?=some (.map es clock)/\Stamped es clock/\es.toList.map (fun e=>(e.key,e.val))=l.map (fun p=>(f p.1,g p.2))/\(∀ p∈l,ok p.1) /\
  w.heap[r]?=some (.mapIter (some b) since seen c0)/\(∀ x∈es.toList,x.born<since)/\since<=c0/\since<=clock /\
  (leftOf es seen).toList.map (fun e=>(e.key,e.val))=left.map (fun p=>(f p.1,g p.2))/\left.Sublist l
section
variable {P:Program} {k:TypeId} {K V:Type} {f:K->Value} {ok:K->Prop} {g:V->Value} {w w':World} {b r:Nat} {l left:List (K × V)}
theorem qV.map (h:qV w f ok g b r l left):zU w f ok g b l:=by
 obtain ⟨es,clock,_,_,_,h1,h2,h3,h4,_⟩:=h;exact ⟨es,clock,h1,h2,h3,h4⟩
theorem qV.ne (h:qV w f ok g b r l left):r≠b:=by
 obtain ⟨es,clock,since,seen,c0,hb,_,_,_,hr,_⟩:=h
 intro e;rw [e,hb] at hr;cases hr
theorem qV.lt (h:qV w f ok g b r l left):r<w.heap.size:=by
 obtain ⟨es,clock,since,seen,c0,_,_,_,_,hr,_⟩:=h
 exact (Array.getElem?_eq_some_iff.1 hr).1
theorem qV.sub (h:qV w f ok g b r l left):left.Sublist l:=by
 obtain ⟨_,_,_,_,_,_,_,_,_,_,_,_,_,_,h⟩:=h;exact h
theorem qV.turns {S:Nat->Prop} (h:qV w f ok g b r l left) (t:zn S w w') (hb:¬ S b) (hr:¬ S r):qV w' f ok g b r l left:=by
 have h1:=h.map.lt
 have h2:=h.lt
 obtain ⟨es,clock,since,seen,c0,e1,e2,e3,e4,e5,rest⟩:=h
 exact ⟨es,clock,since,seen,c0,(t.block b h1 hb).trans e1,e2,e3,e4,(t.block r h2 hr).trans e5,rest⟩
theorem zU.range (h:zU w f ok g b l) {t e:TypeId} (ht:P.underlying t=some (.map k e)) :
  ∃ w',(Instr.range t (.map (some b))).run P w=.ok (.pointer (some ⟨w.heap.size,0,none⟩)) w'/\qV w' f ok g b w.heap.size l l/\zn (fun _=>False) w w'/\w'.heap.size=w.heap.size+1:=by
 have hlt:=h.lt
 obtain ⟨es,clock,hb,hs,hm,ho⟩:=h
 refine ⟨_,run_range_map w t k e b es clock ht hb,⟨es,clock,clock,#[],clock,((MapKept.heap_alloc w _).2 b hlt).trans hb,hs,hm,ho,(MapKept.heap_alloc w _).1,hs.1,Nat.le_refl _,Nat.le_refl _,?_,List.Sublist.refl _⟩,(zn.refl _ _).alloc _,by simp⟩
 rw [show leftOf es #[]=es by simp [leftOf]]
 exact hm
theorem zcK {es:Array MapEntry} {clock:Nat} (hs:Stamped es clock) {x y:MapEntry} (hx:x∈es.toList) (hy:y∈es.toList):x.key=y.key↔x.born=y.born:=by
 have hst:=(stamped_iff es clock).1 hs
 constructor
 ·intro h;exact congrArg MapEntry.born (entry_eq_of_key hst.2.2 hx hy h)
 ·intro h;obtain rfl:=born_inj hst.2.1 hx hy h;rfl
theorem zdM (es:Array MapEntry) (seen:Array Nat) (n:Nat):(leftOf es (seen.push n)).toList=(leftOf es seen).toList.filter fun e=>!(e.born == n):=by
 simp only [leftOf,Array.toList_filter,List.filter_filter]
 refine List.filter_congr fun x _=>?_
 rw [contains_push]
 cases seen.contains x.born<;>cases (x.born == n)<;>rfl
theorem qV.next [DecidableEq K] (hinj:∀ x y,f x=f y->x=y) (h:qV w f ok g b r l left) (ty:TypeId) :
  (left=[]/\(Instr.next (.pointer (some ⟨r,0,none⟩)) false ty).run P w=.ok (.tuple #[.bool false]) w) ∨
  ∃ p∈left,∃ w',(Instr.next (.pointer (some ⟨r,0,none⟩)) false ty).run P w=.ok (.tuple #[.bool true,f p.1,g p.2]) w'/\qV w' f ok g b r l (adel left p.1)/\zn (fun i=>i=r) w w'/\w'.heap.size=w.heap.size /\
   (Instr.entry (.pointer (some ⟨r,0,none⟩))).run P w'=.ok (.tuple #[f p.1,g p.2]) w':=by
 have hne:=h.ne
 obtain ⟨es,clock,since,seen,c0,hb,hs,hm,ho,hr,hold,hsc,hsk,hl,hsub⟩:=h
 rcases run_next_at (P:=P) w ty r b since c0 seen es clock hr hb hold hsc with ⟨h0,hrun⟩ | ⟨e,he,w1,hal,hrun⟩
 ·refine .inl ⟨?_,hrun⟩
  have:=congrArg List.length hl
  simp only [List.length_map,Array.length_toList,h0] at this
  exact List.eq_nil_of_length_eq_zero this.symm
 ·obtain ⟨hem,hes⟩:=mem_left he
  obtain ⟨p,hp,hpe⟩:=zgg hl he
  simp only [Prod.mk.injEq] at hpe
  have hr1:w1.heap[r]?=some (.mapIter (some b) since seen c0):=by rcases hal with rfl | rfl<;>exact hr
  have hb1:w1.heap[b]?=some (.map es clock):=by rcases hal with rfl | rfl<;>exact hb
  have hset:=MapKept.heap_set (o':=.mapIter (some b) since (seen.push e.born) clock) hr1
  have hb':(setBlock w1 r (.mapIter (some b) since (seen.push e.born) clock)).heap[b]?=some (.map es clock):=(hset.2 b (fun e1=>hne e1.symm)).trans hb1
  refine .inr ⟨p,hp,_,by rw [hpe.1,hpe.2];exact hrun,⟨es,clock,since,seen.push e.born,clock,hb',hs,hm,ho,hset.1,hold,hsk,hsk,?_,List.Sublist.trans List.filter_sublist hsub⟩,?_,?_,?_⟩
  ·rw [zdM]
   refine Qb hl fun x hx y hy hxy=>?_
   simp only [Prod.mk.injEq] at hxy
   have hxm:x∈es.toList:=(mem_left hx).1
   have h1:=zcK hs hxm hem
   by_cases hyp:y.1=p.1
   ·have:x.key=e.key:=by rw [hxy.1,hyp,hpe.1]
    simp [h1.1 this,hyp]
   ·have:¬ x.born=e.born:=fun hb=>hyp (hinj _ _ (by rw [<- hxy.1,h1.2 hb,hpe.1]))
    simp [this,hyp]
  ·rcases hal with rfl | rfl<;>exact ⟨rfl,rfl,rfl,by simp [setBlock],fun i _ hi=>hset.2 i hi⟩
  ·rcases hal with rfl | rfl<;>simp [setBlock]
  ·rw [hpe.1,hpe.2]
   exact run_entry_at _ r b since seen es clock e hset.1 hb' hem ((stamped_iff es clock).1 hs).2.1
theorem zcB {es:Array MapEntry} {clock:Nat} (hs:Stamped es clock) {j:Nat} {e0:MapEntry} (hj:es.toList[j]?=some e0):(es.eraseIdxIfInBounds j).toList=es.toList.filter fun e=>!(e.born == e0.born):=by
 have hjl:j<es.toList.length:=(List.getElem?_eq_some_iff.1 hj).1
 have hjs:j<es.size:=by simpa using hjl
 have hsub:(es.eraseIdxIfInBounds j).toList=es.toList.eraseIdx j:=by
  unfold Array.eraseIdxIfInBounds
  rw [dif_pos hjs]
  simp
 rw [hsub]
 have hn:=hs.2.1
 generalize es.toList=L at hj hn
 clear hsub hjl hjs
 induction L generalizing j with
 | nil=>simp at hj
 | cons x L ih =>
  simp only [List.map_cons,List.nodup_cons] at hn
  cases j with
  | zero =>
   simp at hj;subst hj
   rw [List.filter_cons]
   simp only [beq_self_eq_true,Bool.not_true,Bool.false_eq_true,if_false,List.eraseIdx_zero,List.tail_cons]
   symm
   rw [List.filter_eq_self]
   intro y hy
   have:¬ y.born=x.born:=fun e=>hn.1 (List.mem_map.2 ⟨y,hy,e⟩)
   simp [this]
  | succ j =>
   simp at hj
   have hm:e0∈L:=List.mem_of_getElem? hj
   have:¬ x.born=e0.born:=fun e=>hn.1 (List.mem_map.2 ⟨e0,hm,e.symm⟩)
   rw [List.filter_cons]
   simp only [this,not_false_eq_true,if_true,List.eraseIdx_cons_succ,Bool.not_eq_true',beq_eq_false_iff_ne,ne_eq]
   rw [ih hj hn.2]
theorem zcN {es es':Array MapEntry} {n:Nat} (h:es'.toList=es.toList.filter fun e=>!(e.born == n)) (seen:Array Nat):(leftOf es' seen).toList=(leftOf es seen).toList.filter fun e=>!(e.born == n):=by
 simp only [leftOf,Array.toList_filter,h,List.filter_filter]
 refine List.filter_congr fun x _=>?_
 cases seen.contains x.born<;>cases (x.born == n)<;>rfl
theorem qV.delete [DecidableEq K] (E:Zq P k f ok) (h:qV w f ok g b r l left) {t e ty:TypeId} (ht:P.underlying t=some (.map k e)) {x:K} (hx:ok x) :
  ∃ w',(Builtin.delete_ #[t,k] ty #[.map (some b),f x]).run P w=.ok (.tuple #[]) w'/\qV w' f ok g b r (adel l x) (adel left x)/\w.mapTurned w' b:=by
 have hne:=h.ne
 have hap:=h.map.apart
 obtain ⟨es0,clock0,hb0,hs0,hm0,ho0,hck,hf⟩:=h.map.finds E hx
 obtain ⟨es,clock,since,seen,c0,hb,hs,hm,ho,hr,hold,hsc,hsk,hl,hsub⟩:=h
 rw [hb0] at hb
 cases hb
 rcases hf with ⟨h1,h2,h3⟩ | ⟨j,e0,p,h1,hj,hk,hp,hpx,hv⟩
 ·have h4:adel left x=left:=yk (jB.2 fun q hq=>jB.1 h2 q (hsub.subset hq))
  have hset:=MapKept.heap_set (o':=.map es0 clock0) hb0
  refine ⟨setBlock w b (.map es0 clock0),?_,⟨es0,clock0,since,seen,c0,hset.1,hs0,?_,?_,(hset.2 r hne).trans hr,hold,hsc,hsk,?_,?_⟩,⟨es0,clock0,_,_,hb0,rfl⟩⟩
  ·simp [Builtin.delete_,run_underlying ht,MapKept.run_getObj_map hb0,hck,h1,MapKept.run_setObj_map _ hb0,Result.andThen,setBlock]
  ·rw [yk h2];exact hm0
  ·rw [yk h2];exact ho
  ·rw [h4];exact hl
  ·rw [h4,yk h2];exact hsub
 ·have hfil:=zcB hs0 hj
  have hem:e0∈es0.toList:=List.mem_of_getElem? hj
  subst hpx
  have corr:∀ y∈es0.toList,∀ q:K × V,(fun e:MapEntry=>(e.key,e.val)) y=(fun p:K × V=>(f p.1,g p.2)) q->(!(y.born == e0.born))=!decide (q.1=p.1):=by
   intro y hy q hyq
   simp only [Prod.mk.injEq] at hyq
   have h1:=zcK hs0 hy hem
   by_cases hyp:q.1=p.1
   ·have:y.key=e0.key:=by rw [hyq.1,hyp,hk]
    simp [h1.1 this,hyp]
   ·have:¬ y.born=e0.born:=fun hb=>hyp (E.inj _ _ (by rw [<- hyq.1,h1.2 hb,hk]))
    simp [this,hyp]
  have hset:=MapKept.heap_set (o':=.map (es0.eraseIdxIfInBounds j) clock0) hb0
  refine ⟨setBlock w b (.map (es0.eraseIdxIfInBounds j) clock0),?_,⟨_,clock0,since,seen,c0,hset.1,stamped_erase hs0 j,?_,?_,(hset.2 r hne).trans hr,?_,hsc,hsk,?_,?_⟩,⟨es0,clock0,_,_,hb0,rfl⟩⟩
  ·simp [Builtin.delete_,run_underlying ht,MapKept.run_getObj_map hb0,hck,h1,MapKept.run_setObj_map _ hb0,Result.andThen,setBlock]
  ·rw [hfil];exact Qb hm0 fun y hy q _ hyq=>corr y hy q hyq
  ·intro q hq;exact ho q (List.filter_sublist.subset hq)
  ·intro y hy;rw [hfil] at hy;exact hold y (List.filter_sublist.subset hy)
  ·rw [zcN hfil];exact Qb hl fun y hy q _ hyq=>corr y (mem_left hy).1 q hyq
  ·exact hsub.filter _
end
section
variable {P:Program} {k:TypeId} {K V:Type} {f:K->Value} {ok:K->Prop} {g:V->Value} (w:World) {b r:Nat} {l left:List (K × V)}
variable {ops:Array Oper} {rest:List Oper} {o:Oper} {a:Act} {Q:Exit->Act->World->Prop}
theorem ZG (hw:Region.wanted o (yielded ops a.tmps)=true) (m:Operand) (t e:TypeId) (hop:o.op=Op.range t m) (ht:P.underlying t=some (.map k e)) (hm:a.eval m=.map (some b)) (h:zU w f ok g b l)
  (hK:∀ w',qV w' f ok g b w.heap.size l l->zn (fun _=>False) w w'->w'.heap.size=w.heap.size+1->wpList P ops Q rest (a.put o.dst (.pointer (some ⟨w.heap.size,0,none⟩))) w'):wpList P ops Q (o::rest) a w:=by
 refine wpList_step fun K' hK'=>?_
 rw [if_pos hw]
 obtain ⟨w',hrun,r1,r2,r3⟩:=h.range ht
 unfold Oper.wp
 simp [execOp,hop,hm,hrun,Result.andThen]
 exact hK' _ _ (hK w' r1 r2 r3)
theorem Yv [DecidableEq K] (hw:Region.wanted o (yielded ops a.tmps)=true) (it:Operand) (hop:o.op=Op.next it false) (hinj:∀ x y,f x=f y->x=y) (hit:a.eval it=.pointer (some ⟨r,0,none⟩)) (h:qV w f ok g b r l left)
  (hDone:left=[]->wpList P ops Q rest (a.put o.dst (.tuple #[.bool false])) w)
  (hMore:∀ p∈left,∀ w',qV w' f ok g b r l (adel left p.1)->zn (fun i=>i=r) w w'->w'.heap.size=w.heap.size->(Instr.entry (.pointer (some ⟨r,0,none⟩))).run P w'=.ok (.tuple #[f p.1,g p.2]) w' ->
   wpList P ops Q rest (a.put o.dst (.tuple #[.bool true,f p.1,g p.2])) w'):wpList P ops Q (o::rest) a w:=by
 refine wpList_step fun K' hK'=>?_
 rw [if_pos hw]
 unfold Oper.wp
 rcases h.next (P:=P) hinj o.type with ⟨h0,hrun⟩ | ⟨p,hp,w',hrun,r1,r2,r3,r4⟩
 ·have hx:(execOp a.eval o).run P w=.ok (.value (.tuple #[.bool false])) w:=by simp [execOp,hop,hit,hrun,Result.andThen]
  rw [hx]
  exact hK' _ _ (hDone h0)
 ·have hx:(execOp a.eval o).run P w=.ok (.value (.tuple #[.bool true,f p.1,g p.2])) w':=by simp [execOp,hop,hit,hrun,Result.andThen]
  rw [hx]
  exact hK' _ _ (hMore p hp w' r1 r2 r3 r4)
theorem Gm [DecidableEq K] (hw:Region.wanted o (yielded ops a.tmps)=true) (m x:Operand) (t e:TypeId) (hop:o.op=Op.call { callee:=Callee.builtin Builtin.delete,args:=#[m,x],argTypes:=#[t,k] }) (E:Zq P k f ok) (ht:P.underlying t=some (.map k e))
  (hm:a.eval m=.map (some b)) (h:qV w f ok g b r l left) (y:K) (hx:a.eval x=f y) (hy:ok y)
  (hK:∀ w',qV w' f ok g b r (adel l y) (adel left y)->w.mapTurned w' b->wpList P ops Q rest (a.put o.dst (.tuple #[])) w'):wpList P ops Q (o::rest) a w:=by
 refine wpList_step fun K' hK'=>?_
 rw [if_pos hw]
 obtain ⟨w',hrun,r1,r2⟩:=h.delete E ht (ty:=o.type) hy
 unfold Oper.wp
 simp [execOp,hop,resolve,invoke,builtin,hm,hx,hrun,Result.andThen]
 exact hK' _ _ (hK w' r1 r2)
end
theorem zcf {P:Program} {t k e:TypeId} (ht:P.underlying t=some (.map k e)) (w:World):(Instr.range t (.map none)).run P w=.ok (.pointer (some ⟨w.heap.size,0,none⟩)) (w.alloc (.mapIter none 0 #[] 0)):=by
 simp [Instr.range,run_underlying ht,newObj,Sem.run,Result.andThen]
theorem zdj {P:Program} {ty:TypeId} {r s c:Nat} {seen:Array Nat} {w:World} (hr:w.heap[r]?=some (.mapIter none s seen c)):(Instr.next (.pointer (some ⟨r,0,none⟩)) false ty).run P w=.ok (.tuple #[.bool false]) w:=by
 simp [Instr.next,getObj,Sem.run,hr,Result.andThen]
end
end Go.Proofs.YtechnoogjhohfaaGreat
