import Derived.Test.YtechnoogjhohfaaGreatS16
import Derived.Test.YtechnoogjhohfaaGreatS1
import Derived.BigQuiet
import Derived.Deep.QuietTactic
set_option maxRecDepth 100000
set_option maxHeartbeats 6400000
set_option linter.unusedVariables false
set_option linter.unusedSimpArgs false
namespace Go.Proofs.YtechnoogjhohfaaGreat
open Go.RowKit Go.Maps Go.MapKept
open Go.ChangeMaps (setBlock)
section
structure zE (S:Nat->Prop) (w w':World):Prop where
 os:w'.os=w.os
 tape:w'.tape=w.tape
 output:w'.output=w.output
 size:w.heap.size<=w'.heap.size
 block:∀ i,i<w.heap.size->¬ S i->w'.heap[i]?=w.heap[i]?
section
variable {S S':Nat->Prop} {w w' w'':World}
theorem zE.refl (S:Nat->Prop) (w:World):zE S w w:=⟨rfl,rfl,rfl,za _,fun _ _ _=>rfl⟩
theorem zE.trans (h:zE S w w') (k:zE S w' w''):zE S w w'' :=
 ⟨k.os.trans h.os,k.tape.trans h.tape,k.output.trans h.output,zz h.size k.size,fun i u hs=>(k.block i (qg u h.size) hs).trans (h.block i u hs)⟩
theorem zE.mono (h:zE S w w') (hs:∀ i,i<w.heap.size->S i->S' i):zE S' w w':=⟨h.os,h.tape,h.output,h.size,fun i u D=>h.block i u fun z=>D (hs i u z)⟩
theorem zE.drew (h:zE S w w'):zE S w w'.drew:=⟨h.os,h.tape,h.output,h.size,h.block⟩
theorem zE.drewN (h:zE S w w') (n:Nat):zE S w (w'.drewN n):=⟨h.os,h.tape,h.output,h.size,h.block⟩
theorem zE.alloc (h:zE S w w') (o:Obj):zE S w (w'.alloc o) :=
 ⟨h.os,h.tape,h.output,zz h.size (by simp),fun i u hs=>(Below.heap_alloc w' o i (qg u h.size)).trans (h.block i u hs)⟩
theorem zE.setCell (h:zE S w w') {p:Addr} (z:w.heap.size<=p.block∨S p.block) (u:Value):zE S w (w'.setCell p u) :=
 ⟨h.os,h.tape,h.output,zz h.size (by simp [World.setCell]),fun i D hs=>(Below.heap_setCell w' p u i (by
  rintro rfl;rcases z with z | z
  ·omega
  ·exact hs z)).trans (h.block i D hs)⟩
theorem zE.bw {b:Nat} (h:zE S w w') (k:w'.mapTurned w'' b) (hb:w.heap.size<=b∨S b):zE S w w'':=by
 have u:=k.grown;refine ⟨u.os.trans h.os,u.tape.trans h.tape,u.output.trans h.output,zz h.size u.size,fun i z hs=>(u.block i (qg z h.size) (fun e=>?_)).trans (h.block i z hs)⟩;have e:i=b:=by simpa using e
 subst e;rcases hb with hb | hb
 ·omega
 ·exact hs hb
theorem zE.below {B:Nat} (h:zE S w w') (D:B<=w.heap.size) (u:∀ i,i<B->¬ S i):Below B w w' :=
 ⟨h.os,h.tape,h.output,h.size,fun i z=>h.block i (by omega) (u i z)⟩
theorem zE.ak (h:zd w w'):zE S w w':=⟨h.os,h.tape,h.output,h.size,fun i u _=>h.block i u⟩
theorem qz.bl {K V:Type} {f:K->Value} {u:K->Prop} {g:V->Value} {b:Nat} {l:List (K × V)} (h:qz w f u g b l) (k:zE S w w') (hb:¬ S b):qz w' f u g b l:=h.a9 (k.block b h.lt hb)
end
theorem zeb {w w':World} {b:Nat} (t:w.mapTurned w' b):zE (fun i=>i=b) w w':=(zE.refl _ _).bw t (.inr rfl)
theorem qz.drewN {K V:Type} {f:K->Value} {u:K->Prop} {g:V->Value} {w:World} {b:Nat} {l:List (K × V)} (h:qz w f u g b l) (n:Nat):qz (w.drewN n) f u g b l:=h
theorem YA {α β γ:Type} {a:α->γ} {b:β->γ} {p:α->Bool} {q:β->Bool}:∀ {L:List α} {M:List β},L.map a=M.map b->(∀ x∈L,∀ y∈M,a x=b y->p x=q y)->(L.filter p).map a=(M.filter q).map b
 | [],[],_,_=>rfl
 | [],_::_,h,_=>by cases h
 | _::_,[],h,_=>by cases h
 | x::L,y::M,h,hc=>by
  simp only [List.map_cons,List.cons.injEq] at h;have z:=hc x (by simp) y (by simp) h.1;have u:=YA h.2 (fun x D y E=>hc x (jh _ D) y (jh _ E));rw [List.filter_cons,List.filter_cons,z];cases O:q y
  ·simp [u]
  ·simp [u,h.1]
theorem zlo {α β γ:Type} {a:α->γ} {b:β->γ} {L:List α} {M:List β} (h:L.map a=M.map b) {x:α} (u:x∈L):∃ y∈M,b y=a x:=by
 have:a x∈M.map b:=by rw [<- h];exact List.mem_map.2 ⟨x,u,rfl⟩
 obtain ⟨y,z,e⟩:=List.mem_map.1 this;exact ⟨y,z,e⟩
def yq {K V:Type} (w:World) (f:K->Value) (L:K->Prop) (g:V->Value) (b r:Nat) (l D:List (K × V)):Prop :=
 ∃ es u h E z,w.heap[b]?=some (.map es u)/\Stamped es u/\es.toList.map (fun e=>(e.key,e.val))=l.map (fun p=>(f p.1,g p.2))/\(∀ p∈l,L p.1) /\
  w.heap[r]?=some (.mapIter (some b) h E z)/\(∀ x∈es.toList,x.born<h)/\h<=z/\h<=u /\
  (leftOf es E).toList.map (fun e=>(e.key,e.val))=D.map (fun p=>(f p.1,g p.2))/\D.Sublist l
section
variable {P:Program} {k:TypeId} {K V:Type} {f:K->Value} {ok:K->Prop} {g:V->Value} {w w':World} {b r:Nat} {l left:List (K × V)}
theorem yq.map (h:yq w f ok g b r l left):qz w f ok g b l:=by obtain ⟨es,u,_,_,_,z,D,E,L,_⟩:=h;exact ⟨es,u,z,D,E,L⟩
theorem yq.ne (h:yq w f ok g b r l left):r≠b:=by obtain ⟨es,D,L,E,z,hb,_,_,_,u,_⟩:=h;intro e;rw [e,hb] at u;cases u
theorem yq.lt (h:yq w f ok g b r l left):r<w.heap.size:=by obtain ⟨es,D,L,E,z,_,_,_,_,u,_⟩:=h;exact (qu.1 u).1
theorem yq.sub (h:yq w f ok g b r l left):left.Sublist l:=by obtain ⟨_,_,_,_,_,_,_,_,_,_,_,_,_,_,h⟩:=h;exact h
theorem yq.bl {S:Nat->Prop} (h:yq w f ok g b r l left) (t:zE S w w') (hb:¬ S b) (Y:¬ S r):yq w' f ok g b r l left:=by have U:=h.map.lt;have X:=h.lt;obtain ⟨es,z,a0,Z,u,D,E,L,O,R,rest⟩:=h;exact ⟨es,z,a0,Z,u,(t.block b U hb).trans D,E,L,O,(t.block r X Y).trans R,rest⟩
theorem qz.range (h:qz w f ok g b l) {t e:TypeId} (E:P.underlying t=some (.map k e)) :
  ∃ w',(Instr.range t (.map (some b))).run P w=.ok (.pointer (some ⟨w.heap.size,0,none⟩)) w'/\yq w' f ok g b w.heap.size l l/\zE (fun _=>False) w w'/\w'.heap.size=w.heap.size+1:=by
 have z:=h.lt;obtain ⟨es,u,hb,hs,hm,D⟩:=h;refine ⟨_,run_range_map w t k e b es u E hb,⟨es,u,u,#[],u,((MapKept.heap_alloc w _).2 b z).trans hb,hs,hm,D,(MapKept.heap_alloc w _).1,hs.1,za _,za _,?_,List.Sublist.refl _⟩,(zE.refl _ _).alloc _,by simp⟩;rw [show leftOf es #[]=es by simp [leftOf]];exact hm
theorem zho {es:Array MapEntry} {u:Nat} (hs:Stamped es u) {x y:MapEntry} (D:x∈es.toList) (E:y∈es.toList):x.key=y.key↔x.born=y.born:=by
 have z:=(stamped_iff es u).1 hs;constructor
 ·intro h;exact congrArg MapEntry.born (entry_eq_of_key z.2.2 D E h)
 ·intro h;obtain rfl:=born_inj z.2.1 D E h;rfl
theorem ziB (es:Array MapEntry) (h:Array Nat) (n:Nat):(leftOf es (h.push n)).toList=(leftOf es h).toList.filter fun e=>!(e.born == n):=by simp only [leftOf,Array.toList_filter,List.filter_filter];refine List.filter_congr fun x _=>?_;rw [contains_push];cases h.contains x.born<;>cases (x.born == n)<;>rfl
theorem yq.next [DecidableEq K] (a6:∀ x y,f x=f y->x=y) (h:yq w f ok g b r l left) (ty:TypeId) :
  (left=[]/\(Instr.next (.pointer (some ⟨r,0,none⟩)) false ty).run P w=.ok (.tuple #[.bool false]) w) ∨
  ∃ p∈left,∃ w',(Instr.next (.pointer (some ⟨r,0,none⟩)) false ty).run P w=.ok (.tuple #[.bool true,f p.1,g p.2]) w'/\yq w' f ok g b r l (adel left p.1)/\zE (fun i=>i=r) w w'/\w'.heap.size=w.heap.size /\
   (Instr.entry (.pointer (some ⟨r,0,none⟩))).run P w'=.ok (.tuple #[f p.1,g p.2]) w':=by
 have a7:=h.ne;obtain ⟨es,u,E,D,Z,hb,hs,hm,ho,hr,a3,a9,a4,U,b9⟩:=h;rcases run_next_at (P:=P) w ty r b E Z D es u hr hb a3 a9 with ⟨h0,X⟩ | ⟨e,he,w1,L,X⟩
 ·refine .inl ⟨?_,X⟩;have:=congrArg List.length U;simp only [List.length_map,Array.length_toList,h0] at this;exact yd this.symm
 ·obtain ⟨a1,c1⟩:=mem_left he;obtain ⟨p,hp,z⟩:=zlo U he;simp only [Prod.mk.injEq] at z;have a8:w1.heap[r]?=some (.mapIter (some b) E D Z):=by rcases L with rfl | rfl<;>exact hr
  have a5:w1.heap[b]?=some (.map es u):=by rcases L with rfl | rfl<;>exact hb
  have O:=MapKept.heap_set (o':=.mapIter (some b) E (D.push e.born) u) a8;have a0:(setBlock w1 r (.mapIter (some b) E (D.push e.born) u)).heap[b]?=some (.map es u):=(O.2 b (fun e1=>a7 e1.symm)).trans a5;refine .inr ⟨p,hp,_,by rw [z.1,z.2];exact X,⟨es,u,E,D.push e.born,u,a0,hs,hm,ho,O.1,a3,a4,a4,?_,List.Sublist.trans List.filter_sublist b9⟩,?_,?_,?_⟩
  ·rw [ziB];refine YA U fun x hx y hy Y=>?_;simp only [Prod.mk.injEq] at Y;have c0:x∈es.toList:=(mem_left hx).1;have h1:=zho hs c0 a1;by_cases R:y.1=p.1
   ·have:x.key=e.key:=by rw [Y.1,R,z.1]
    simp [h1.1 this,R]
   ·have:¬ x.born=e.born:=fun hb=>R (a6 _ _ (by rw [<- Y.1,h1.2 hb,z.1]));simp [this,R]
  ·rcases L with rfl | rfl<;>exact ⟨rfl,rfl,rfl,by simp [setBlock],fun i _ hi=>O.2 i hi⟩
  ·rcases L with rfl | rfl<;>simp [setBlock]
  ·rw [z.1,z.2];exact run_entry_at _ r b E D es u e O.1 a0 a1 ((stamped_iff es u).1 hs).2.1
theorem zhe {es:Array MapEntry} {R:Nat} (hs:Stamped es R) {j:Nat} {u:MapEntry} (h:es.toList[j]?=some u):(es.eraseIdxIfInBounds j).toList=es.toList.filter fun e=>!(e.born == u.born):=by
 have D:j<es.toList.length:=(zr.1 h).1;have E:j<es.size:=by simpa using D
 have O:(es.eraseIdxIfInBounds j).toList=es.toList.eraseIdx j:=by unfold Array.eraseIdxIfInBounds;rw [dif_pos E];simp
 rw [O];have z:=hs.2.1;generalize es.toList=L at h z;clear O D E;induction L generalizing j with
 | nil=>simp at h
 | cons x L ih =>
  simp only [List.map_cons,List.nodup_cons] at z;cases j with
  | zero =>simp at h;subst h;rw [List.filter_cons];simp only [beq_self_eq_true,Bool.not_true,Bool.false_eq_true,if_false,List.eraseIdx_zero,List.tail_cons];symm;rw [List.filter_eq_self];intro y U;have:¬ y.born=x.born:=fun e=>z.1 (List.mem_map.2 ⟨y,U,e⟩);simp [this]
  | succ j =>simp at h;have hm:u∈L:=zC h;have:¬ x.born=u.born:=fun e=>z.1 (List.mem_map.2 ⟨u,hm,e.symm⟩);rw [List.filter_cons];simp only [this,not_false_eq_true,if_true,List.eraseIdx_cons_succ,Bool.not_eq_true',beq_eq_false_iff_ne,ne_eq];rw [ih h z.2]
theorem zhr {es z:Array MapEntry} {n:Nat} (h:z.toList=es.toList.filter fun e=>!(e.born == n)) (u:Array Nat):(leftOf z u).toList=(leftOf es u).toList.filter fun e=>!(e.born == n):=by simp only [leftOf,Array.toList_filter,h,List.filter_filter];refine List.filter_congr fun x _=>?_;cases u.contains x.born<;>cases (x.born == n)<;>rfl
theorem yq.delete [DecidableEq K] (a3:Yh P k f ok) (h:yq w f ok g b r l left) {t e ty:TypeId} (ht:P.underlying t=some (.map k e)) {x:K} (hx:ok x) :
  ∃ w',(Builtin.delete_ #[t,k] ty #[.map (some b),f x]).run P w=.ok (.tuple #[]) w'/\yq w' f ok g b r (adel l x) (adel left x)/\w.mapTurned w' b:=by
 have a7:=h.ne;have c6:=h.map.apart;obtain ⟨u,D,z,Y,a6,c7,a5,hf⟩:=h.map.fl a3 hx;obtain ⟨es,c5,c2,c1,c0,hb,hs,hm,ho,hr,a8,a9,b9,hl,a1⟩:=h;rw [z] at hb;cases hb;rcases hf with ⟨O,X,h3⟩ | ⟨j,U,p,O,hj,hk,hp,c4,hv⟩
 ·have h4:adel left x=left:=vY (vu.2 fun q hq=>vu.1 X q (a1.subset hq));have R:=MapKept.heap_set (o':=.map u D) z;refine ⟨setBlock w b (.map u D),?_,⟨u,D,c2,c1,c0,R.1,Y,?_,?_,(R.2 r a7).trans hr,a8,a9,b9,?_,?_⟩,⟨u,D,_,_,z,rfl⟩⟩
  ·simp [Builtin.delete_,run_underlying ht,MapKept.run_getObj_map z,a5,O,MapKept.run_setObj_map _ z,Result.andThen,setBlock]
  ·rw [vY X];exact a6
  ·rw [vY X];exact ho
  ·rw [h4];exact hl
  ·rw [h4,vY X];exact a1
 ·have a0:=zhe Y hj;have c3:U∈u.toList:=zC hj;subst c4;have a4:∀ y∈u.toList,∀ q:K × V,(fun e:MapEntry=>(e.key,e.val)) y=(fun p:K × V=>(f p.1,g p.2)) q->(!(y.born == U.born))=!decide (q.1=p.1):=by
   intro y E q L;simp only [Prod.mk.injEq] at L;have O:=zho Y E c3;by_cases Z:q.1=p.1
   ·have:y.key=U.key:=by rw [L.1,Z,hk]
    simp [O.1 this,Z]
   ·have:¬ y.born=U.born:=fun hb=>Z (a3.inj _ _ (by rw [<- L.1,O.2 hb,hk]));simp [this,Z]
  have R:=MapKept.heap_set (o':=.map (u.eraseIdxIfInBounds j) D) z;refine ⟨setBlock w b (.map (u.eraseIdxIfInBounds j) D),?_,⟨_,D,c2,c1,c0,R.1,stamped_erase Y j,?_,?_,(R.2 r a7).trans hr,?_,a9,b9,?_,?_⟩,⟨u,D,_,_,z,rfl⟩⟩
  ·simp [Builtin.delete_,run_underlying ht,MapKept.run_getObj_map z,a5,O,MapKept.run_setObj_map _ z,Result.andThen,setBlock]
  ·rw [a0];exact YA a6 fun y E q _ L=>a4 y E q L
  ·intro q hq;exact ho q (List.filter_sublist.subset hq)
  ·intro y E;rw [a0] at E;exact a8 y (List.filter_sublist.subset E)
  ·rw [zhr a0];exact YA hl fun y E q _ L=>a4 y (mem_left E).1 q L
  ·exact a1.filter _
end
section
variable {P:Program} {k:TypeId} {K V:Type} {f:K->Value} {ok:K->Prop} {g:V->Value} (w:World) {b r:Nat} {l left:List (K × V)}
variable {ops:Array Oper} {rest:List Oper} {o:Oper} {a:Act} {Q:Exit->Act->World->Prop}
theorem GA (O:Region.wanted o (yielded ops a.tmps)=true) (m:Operand) (t e:TypeId) (D:o.op=Op.range t m) (L:P.underlying t=some (.map k e)) (hm:a.eval m=.map (some b)) (h:qz w f ok g b l)
  (u:∀ w',yq w' f ok g b w.heap.size l l->zE (fun _=>False) w w'->w'.heap.size=w.heap.size+1->wpList P ops Q rest (a.put o.dst (.pointer (some ⟨w.heap.size,0,none⟩))) w'):wpList P ops Q (o::rest) a w:=by
 refine wpList_step fun Y z=>?_;rw [if_pos O];obtain ⟨w',E,R,U,X⟩:=h.range L;unfold Oper.wp;simp [execOp,D,hm,E,Result.andThen];exact z _ _ (u w' R U X)
theorem zaq [DecidableEq K] (Z:Region.wanted o (yielded ops a.tmps)=true) (O:Operand) (L:o.op=Op.next O false) (X:∀ x y,f x=f y->x=y) (E:a.eval O=.pointer (some ⟨r,0,none⟩)) (h:yq w f ok g b r l left)
  (R:left=[]->wpList P ops Q rest (a.put o.dst (.tuple #[.bool false])) w)
  (U:∀ p∈left,∀ w',yq w' f ok g b r l (adel left p.1)->zE (fun i=>i=r) w w'->w'.heap.size=w.heap.size->(Instr.entry (.pointer (some ⟨r,0,none⟩))).run P w'=.ok (.tuple #[f p.1,g p.2]) w' ->
   wpList P ops Q rest (a.put o.dst (.tuple #[.bool true,f p.1,g p.2])) w'):wpList P ops Q (o::rest) a w:=by
 refine wpList_step fun K' D=>?_;rw [if_pos Z];unfold Oper.wp;rcases h.next (P:=P) X o.type with ⟨h0,u⟩ | ⟨p,Y,w',u,r1,r2,r3,r4⟩
 ·have z:(execOp a.eval o).run P w=.ok (.value (.tuple #[.bool false])) w:=by simp [execOp,L,E,u,Result.andThen]
  rw [z];exact D _ _ (R h0)
 ·have z:(execOp a.eval o).run P w=.ok (.value (.tuple #[.bool true,f p.1,g p.2])) w':=by simp [execOp,L,E,u,Result.andThen]
  rw [z];exact D _ _ (U p Y w' r1 r2 r3 r4)
theorem zcH [DecidableEq K] (R:Region.wanted o (yielded ops a.tmps)=true) (m x:Operand) (t e:TypeId) (D:o.op=Op.call { callee:=Callee.builtin Builtin.delete,args:=#[m,x],argTypes:=#[t,k] }) (E:Yh P k f ok) (O:P.underlying t=some (.map k e))
  (hm:a.eval m=.map (some b)) (h:yq w f ok g b r l left) (y:K) (U:a.eval x=f y) (X:ok y)
  (u:∀ w',yq w' f ok g b r (adel l y) (adel left y)->w.mapTurned w' b->wpList P ops Q rest (a.put o.dst (.tuple #[])) w'):wpList P ops Q (o::rest) a w:=by
 refine wpList_step fun K' z=>?_;rw [if_pos R];obtain ⟨w',L,Y,Z⟩:=h.delete E O (ty:=o.type) X;unfold Oper.wp;simp [execOp,D,resolve,invoke,builtin,hm,U,L,Result.andThen];exact z _ _ (u w' Y Z)
end
theorem zgD {P:Program} {t k e:TypeId} (h:P.underlying t=some (.map k e)) (w:World):(Instr.range t (.map none)).run P w=.ok (.pointer (some ⟨w.heap.size,0,none⟩)) (w.alloc (.mapIter none 0 #[] 0)):=by simp [Instr.range,run_underlying h,newObj,Sem.run,Result.andThen]
theorem zhV {P:Program} {ty:TypeId} {r s c:Nat} {u:Array Nat} {w:World} (h:w.heap[r]?=some (.mapIter none s u c)):(Instr.next (.pointer (some ⟨r,0,none⟩)) false ty).run P w=.ok (.tuple #[.bool false]) w:=by simp [Instr.next,getObj,Sem.run,h,Result.andThen]
end
end Go.Proofs.YtechnoogjhohfaaGreat
