import Derived.Maps.OwnOps
import Derived.Maps.OwnSet
import Derived.Maps.RangeWalk
import Derived.WalkKit
set_option maxRecDepth 100000
set_option maxHeartbeats 6400000
set_option linter.unusedVariables false
set_option linter.unusedSimpArgs false
namespace Go.Proofs.YtechnoogjhohfaaGreat
open Go.RowKit Go.Maps Go.MapKept
open Go.ChangeMaps (setBlock)
section
def yM {K V:Type} (l:List (K × V)):Prop:=l.Pairwise fun p q=>p.1≠q.1
theorem yM.nil {K V:Type}:yM ([]:List (K × V)):=List.Pairwise.nil
theorem zfA {K V:Type} (l:List (K × V)):yM l↔(l.map (·.1)).Nodup:=by unfold yM List.Nodup;rw [List.pairwise_map]
section
variable {K V:Type} [DecidableEq K]
def zU (l:List (K × V)) (x:K):Option V:=(l.find? fun p=>decide (p.1=x)).map (·.2)
def qT (l:List (K × V)) (x:K):Bool:=l.any fun p=>decide (p.1=x)
def aput (l:List (K × V)) (x:K) (v:V):List (K × V):=if qT l x=true then l.map (fun p=>if p.1=x then (x,v) else p) else l++[(x,v)]
def adel (l:List (K × V)) (x:K):List (K × V):=l.filter fun p=>!decide (p.1=x)
theorem zgJ (x:K):zU ([]:List (K × V)) x=none:=rfl
theorem yr (p:K × V) (l:List (K × V)) (x:K):zU (p::l) x=if p.1=x then some p.2 else zU l x:=by unfold zU;rw [List.find?_cons];by_cases h:p.1=x<;>simp [h]
theorem JE (p:K × V) (l:List (K × V)) (x:K):qT (p::l) x=(decide (p.1=x) || qT l x):=rfl
theorem yF (l:List (K × V)) (x:K):qT l x=(zU l x).isSome:=by
 induction l with
 | nil=>rfl
 | cons p l u=>rw [JE,yr,u];by_cases h:p.1=x<;>simp [h]
theorem vu {l:List (K × V)} {x:K}:qT l x=false↔∀ p∈l,p.1≠x:=by simp [qT]
theorem YL {l:List (K × V)} {x:K}:qT l x=true↔∃ p∈l,p.1=x:=by simp [qT]
theorem zfy {l:List (K × V)} {x:K} (h:qT l x=false):zU l x=none:=by rw [yF] at h;simpa using h
theorem Jt {l:List (K × V)} (h:yM l) {p:K × V} (u:p∈l):zU l p.1=some p.2:=by
 induction l with
 | nil=>cases u
 | cons q l ih =>
  rw [yr];rcases List.mem_cons.1 u with rfl | z
  ·simp
  ·have:=(List.pairwise_cons.1 h).1 p z;rw [if_neg this];exact ih (List.pairwise_cons.1 h).2 z
theorem ya {l:List (K × V)} {x:K} {v:V} (h:zU l x=some v):(x,v)∈l:=by unfold zU at h;simp only [Option.map_eq_some_iff] at h;obtain ⟨p,z,rfl⟩:=h;have D:=List.mem_of_find?_eq_some z;have u:=List.find?_some z;simp at u;subst u;exact D
theorem zeE (l:List (K × V)) (x y:K) (v:V) (h:y≠x):zU (l.map fun p=>if p.1=x then (x,v) else p) y=zU l y:=by
 induction l with
 | nil=>rfl
 | cons p l ih =>
  rw [List.map_cons,yr,yr,ih];by_cases u:p.1=x
  ·rw [if_pos u,if_neg (fun e=>h e.symm),if_neg (by rw [u];exact fun e=>h e.symm)]
  ·rw [if_neg u]
theorem zgq (l:List (K × V)) (x:K) (v:V) (h:qT l x=true):zU (l.map fun p=>if p.1=x then (x,v) else p) x=some v:=by
 induction l with
 | nil=>cases h
 | cons p l ih =>
  rw [List.map_cons,yr];by_cases u:p.1=x
  ·simp [u]
  ·rw [if_neg u,if_neg u];rw [JE] at h;simp [u] at h;exact ih h
theorem zcK (l m:List (K × V)) (x:K):zU (l++m) x=if qT l x=true then zU l x else zU m x:=by
 induction l with
 | nil=>rfl
 | cons p l ih =>rw [List.cons_append,yr,yr,JE,ih];by_cases h:p.1=x<;>simp [h]
theorem ul (l:List (K × V)) (x y:K) (v:V):zU (aput l x v) y=if y=x then some v else zU l y:=by
 unfold aput;by_cases h:qT l x=true
 ·rw [if_pos h];by_cases e:y=x
  ·subst e;rw [if_pos rfl,zgq l y v h]
  ·rw [if_neg e,zeE l x y v e]
 ·rw [if_neg h,zcK];by_cases e:y=x
  ·subst e;rw [if_pos rfl,if_neg h,yr,if_pos rfl]
  ·rw [if_neg e];by_cases u:qT l y=true
   ·rw [if_pos u]
   ·have D:¬ x=y:=fun z=>e z.symm;rw [if_neg u,zfy (l:=l) (by simpa using u),yr,if_neg D,zgJ]
theorem zfz (l:List (K × V)) (x y:K) (v:V):qT (aput l x v) y=(decide (y=x) || qT l y):=by rw [yF,ul,yF];by_cases e:y=x<;>simp [e]
theorem zbt (l:List (K × V)) (x y:K):zU (adel l x) y=if y=x then none else zU l y:=by
 induction l with
 | nil=>simp [adel,zgJ]
 | cons p l ih =>
  unfold adel at ih ⊢;rw [List.filter_cons];by_cases h:p.1=x
  ·simp only [h,decide_true,Bool.not_true,Bool.false_eq_true,if_false];rw [ih,yr];by_cases e:y=x
   ·rw [if_pos e,if_pos e]
   ·rw [if_neg e,if_neg e,if_neg (by rw [h];exact fun u=>e u.symm)]
  ·simp only [h,decide_false,Bool.not_false,if_true];rw [yr,yr,ih];by_cases e:y=x
   ·subst e;rw [if_neg h,if_pos rfl,if_pos rfl]
   ·rw [if_neg e,if_neg e]
theorem zbu (l:List (K × V)) (x y:K):qT (adel l x) y=(!decide (y=x) && qT l y):=by rw [yF,zbt,yF];by_cases e:y=x<;>simp [e]
theorem GJ (l:List (K × V)) (x:K) (v:V):(aput l x v).length=if qT l x=true then l.length else l.length+1:=by unfold aput;split<;>simp
theorem zeU (l:List (K × V)) (x:K) (v:V):(aput l x v).length<=l.length+1:=by rw [GJ];split<;>omega
theorem zeT (l:List (K × V)) (x:K):(adel l x).length<=l.length:=List.length_filter_le _ _
theorem vY {l:List (K × V)} {x:K} (h:qT l x=false):adel l x=l:=by unfold adel;rw [List.filter_eq_self];intro p u;simpa using vu.1 h p u
theorem Yj {l:List (K × V)} {x:K} (v:V) (h:qT l x=false):aput l x v=l++[(x,v)]:=by unfold aput;rw [if_neg (by rw [h];decide)]
theorem yM.adel {l:List (K × V)} (h:yM l) (x:K):yM (adel l x):=List.Pairwise.filter _ h
theorem ziD (l:List (K × V)) (x:K) (v:V):(l.map fun p=>if p.1=x then (x,v) else p).map (·.1)=l.map (·.1):=by rw [List.map_map];refine List.map_congr_left fun p _=>?_;by_cases h:p.1=x<;>simp [h]
theorem yM.aput {l:List (K × V)} (h:yM l) (x:K) (v:V):yM (aput l x v):=by
 unfold Go.Proofs.YtechnoogjhohfaaGreat.aput;by_cases e:qT l x=true
 ·rw [if_pos e,zfA,ziD,<- zfA];exact h
 ·rw [if_neg e];refine List.pairwise_append.2 ⟨h,by simp,?_⟩;intro p z q u;simp at u;subst u;exact vu.1 (by simpa using e) p z
theorem zbb {l:List (K × V)} (h:yM l) {j:Nat} {p:K × V} (u:l[j]?=some p):adel l p.1=l.eraseIdx j:=by
 induction l generalizing j with
 | nil=>simp at u
 | cons q l ih =>
  obtain ⟨D,E⟩:=List.pairwise_cons.1 h;cases j with
  | zero =>
   simp at u;subst u;have:Go.Proofs.YtechnoogjhohfaaGreat.adel (q::l) q.1=Go.Proofs.YtechnoogjhohfaaGreat.adel l q.1:=by unfold Go.Proofs.YtechnoogjhohfaaGreat.adel;rw [List.filter_cons];simp
   rw [this,vY (vu.2 fun p z=>fun e=>D p z e.symm)];rfl
  | succ j =>
   simp at u;have z:p∈l:=List.mem_of_getElem? u;have:Go.Proofs.YtechnoogjhohfaaGreat.adel (q::l) p.1=q::Go.Proofs.YtechnoogjhohfaaGreat.adel l p.1:=by unfold Go.Proofs.YtechnoogjhohfaaGreat.adel;rw [List.filter_cons];simp [D p z]
   rw [this,ih E u];rfl
theorem zcL {l:List (K × V)} (h:yM l) {j:Nat} {p:K × V} (u:l[j]?=some p) (v:V):aput l p.1 v=l.set j (p.1,v):=by
 have E:qT l p.1=true:=YL.2 ⟨p,List.mem_of_getElem? u,rfl⟩;unfold aput;rw [if_pos E];clear E;induction l generalizing j with
 | nil=>simp at u
 | cons q l ih =>
  obtain ⟨D,L⟩:=List.pairwise_cons.1 h;cases j with
  | zero =>
   simp at u;subst u;rw [List.map_cons,if_pos rfl,List.set_cons_zero];congr 1
   conv=>rhs;rw [<- List.map_id l]
   refine List.map_congr_left fun p z=>?_;rw [if_neg (fun e=>D p z e.symm)];rfl
  | succ j =>simp at u;have z:p∈l:=List.mem_of_getElem? u;rw [List.map_cons,List.set_cons_succ,if_neg (D p z),ih L u]
end
structure Yh (P:Program) (k:TypeId) {K:Type} (f:K->Value) (ok:K->Prop):Prop where
 ff:Keyed P k
 lit:∀ x,ok x->∃ l,keyOf P k (f x)=some l
 inj:∀ x y,f x=f y->x=y
def qz {K V:Type} (w:World) (f:K->Value) (u:K->Prop) (g:V->Value) (b:Nat) (l:List (K × V)):Prop :=
 ∃ es h,w.heap[b]?=some (.map es h)/\Stamped es h/\es.toList.map (fun e=>(e.key,e.val))=l.map (fun p=>(f p.1,g p.2))/\∀ p∈l,u p.1
section
variable {P:Program} {k:TypeId} {K V:Type} {f:K->Value} {ok:K->Prop} {g:V->Value} {w w':World} {b:Nat} {l:List (K × V)}
theorem qz.lt (h:qz w f ok g b l):b<w.heap.size:=by obtain ⟨es,u,hb,_⟩:=h;exact (Array.getElem?_eq_some_iff.1 hb).1
theorem qz.a9 (h:qz w f ok g b l) (hb:w'.heap[b]?=w.heap[b]?):qz w' f ok g b l:=by obtain ⟨es,u,z,D⟩:=h;exact ⟨es,u,hb.trans z,D⟩
theorem qz.iz (h:qz w f ok g b l):∀ p∈l,ok p.1:=by obtain ⟨_,_,_,_,_,h⟩:=h;exact h
theorem qz.g1 (w:World) (f:K->Value) (h:K->Prop) (g:V->Value):qz (w.alloc (.map #[] 0)) f h g w.heap.size ([]:List (K × V)) :=
 ⟨#[],0,(MapKept.heap_alloc w _).1,stamped_empty 0,rfl,by simp⟩
theorem qz.alloc (h:qz w f ok g b l) (o:Obj):qz (w.alloc o) f ok g b l:=h.a9 (Below.heap_alloc w o b h.lt)
theorem qz.drew (h:qz w f ok g b l):qz w.drew f ok g b l:=h
theorem qz.setCell (h:qz w f ok g b l) {p:Addr} (z:b≠p.block) (u:Value):qz (w.setCell p u) f ok g b l:=h.a9 (Below.heap_setCell w p u b z)
theorem qz.below {B:Nat} (h:qz w f ok g b l) (hb:Below B w w') (u:b<B):qz w' f ok g b l:=h.a9 (hb.block b u)
theorem zos {es:List MapEntry} (hm:es.map (fun e=>(e.key,e.val))=l.map (fun p=>(f p.1,g p.2))) {j:Nat} {u:MapEntry} (E:es[j]?=some u) :
  ∃ p,l[j]?=some p/\f p.1=u.key/\g p.2=u.val:=by
 have h:=congrArg (fun z=>z[j]?) hm;simp only [List.getElem?_map,E,Option.map_some] at h;cases D:l[j]? with
 | none=>rw [D] at h;cases h
 | some p=>rw [D] at h;simp at h;exact ⟨p,rfl,h.1.symm,h.2.symm⟩
theorem qz.apart (h:qz w f ok g b l):yM l:=by
 obtain ⟨es,E,_,hs,hm,_⟩:=h;have z:(es.toList.map (·.key))=l.map (fun p=>f p.1):=by have:=congrArg (List.map Prod.fst) hm;simpa [List.map_map,Function.comp_def] using this
 have u:=hs.2.2;rw [z] at u;unfold List.Nodup at u;rw [List.pairwise_map] at u;exact u.imp fun D e=>D (by rw [e])
theorem qz.g7 (E:Yh P k f ok) {es:Array MapEntry} (hm:es.toList.map (fun e=>(e.key,e.val))=l.map (fun p=>(f p.1,g p.2))) (D:∀ p∈l,ok p.1) :
  ∀ e∈es.toList,∃ x,keyOf P k e.key=some x:=by
 intro e u;obtain ⟨j,z⟩:=List.mem_iff_getElem?.1 u;obtain ⟨p,L,h,_⟩:=zos hm z;obtain ⟨x,O⟩:=E.lit p.1 (D p (List.mem_of_getElem? L));exact ⟨x,by rw [<- h];exact O⟩
theorem qz.fl [DecidableEq K] (E:Yh P k f ok) (h:qz w f ok g b l) {x:K} (hx:ok x) :
  ∃ es D,w.heap[b]?=some (.map es D)/\Stamped es D/\es.toList.map (fun e=>(e.key,e.val))=l.map (fun p=>(f p.1,g p.2))/\(∀ p∈l,ok p.1)/\(∀ L,(Instr.checkKey L 10000 k (f x)).run P w=.ok () w) /\
   (((Instr.findKey k (f x) es.toList).run P w=.ok none w/\qT l x=false/\∀ e∈es.toList,e.key≠f x) ∨
    ∃ j u p,(Instr.findKey k (f x) es.toList).run P w=.ok (some (j,u.val)) w/\es.toList[j]?=some u/\u.key=f x/\l[j]?=some p/\p.1=x/\g p.2=u.val):=by
 obtain ⟨es,D,hb,hs,hm,Z⟩:=h;obtain ⟨kl,Y⟩:=E.lit x hx;refine ⟨es,D,hb,hs,hm,Z,fun L=>E.ff.check w L Y,?_⟩;rcases E.ff.find w Y es.toList (qz.g7 E hm Z) with ⟨O,z⟩ | ⟨j,u,O,z,X⟩
 ·refine .inl ⟨O,vu.2 fun p U e=>?_,z⟩;obtain ⟨j,hj⟩:=List.mem_iff_getElem?.1 U;have h:=congrArg (fun a0=>a0[j]?) hm;simp only [List.getElem?_map,hj,Option.map_some] at h;cases R:es.toList[j]? with
  | none=>rw [R] at h;cases h
  | some u =>rw [R] at h;simp at h;exact z u (List.mem_of_getElem? R) (by rw [h.1,e])
 ·obtain ⟨p,U,e1,e2⟩:=zos hm z;exact .inr ⟨j,u,p,O,z,X,U,E.inj _ _ (by rw [e1,X]),e2⟩
theorem qz.lookup [DecidableEq K] (E:Yh P k f ok) (h:qz w f ok g b l) {t e:TypeId} (O:P.underlying t=some (.map k e)) {v0:V} (hz:(zeroValue e).run P w=.ok (g v0) w) {x:K} (Z:ok x) (c:Bool) :
  (Instr.lookup t (.map (some b)) (f x) c).run P w=.ok (if c then .tuple #[g ((zU l x).getD v0),.bool (qT l x)] else g ((zU l x).getD v0)) w:=by
 have R:=h.apart;obtain ⟨es,a0,hb,_,_,_,D,U⟩:=h.fl E Z;rcases U with ⟨u,z,_⟩ | ⟨j,e0,p,u,_,_,X,rfl,Y⟩
 ·rw [zfy z,z];simp [Instr.lookup,run_underlying O,MapKept.run_getObj_map hb,D,u,hz,Result.andThen]
 ·have L:=List.mem_of_getElem? X;rw [Jt R L,show qT l p.1=true from YL.2 ⟨p,L,rfl⟩];simp [Instr.lookup,run_underlying O,MapKept.run_getObj_map hb,D,u,Y,Result.andThen]
theorem Jl {w:World} {b:Nat} {o o':Obj} (hb:w.heap[b]?=some o):(setBlock w b o').heap[b]?=some o':=by have:=(Array.getElem?_eq_some_iff.1 hb).1;simp [setBlock,this]
theorem qz.gr [DecidableEq K] (E:Yh P k f ok) (h:qz w f ok g b l) {t e:TypeId} (ht:P.underlying t=some (.map k e)) {x:K} (O:ok x) (v:V) :
  ∃ w',(Instr.mapUpdate t (.map (some b)) (f x) (g v)).run P w=.ok () w'/\qz w' f ok g b (aput l x v)/\w.mapTurned w' b:=by
 have Y:=h.apart;obtain ⟨es,D,hb,hs,hm,ho,Z,hf⟩:=h.fl E O;rcases hf with ⟨R,X,h3⟩ | ⟨j,U,p,R,hj,hk,hp,a5,hv⟩
 ·refine ⟨setBlock w b (.map (es.push ⟨f x,g v,D⟩) (D+1)),?_,⟨_,_,Jl hb,stamped_push hs h3,?_,?_⟩,⟨es,D,_,_,hb,rfl⟩⟩
  ·simp [Instr.mapUpdate,run_underlying ht,MapKept.run_getObj_map hb,Z,R,MapKept.run_setObj_map _ hb,Result.andThen,setBlock]
  ·rw [Yj v X,Array.toList_push,List.map_append,List.map_append,hm];rfl
  ·intro q u;rw [Yj v X] at u;rcases List.mem_append.1 u with u | u
   ·exact ho q u
   ·simp at u;subst u;exact O
 ·have a0:es[j]?=some U:=by simpa using hj
  obtain ⟨kl,a1⟩:=E.lit x O;have a3:∀ z,es[j]?=some z->({ z with key:=f x,val:=g v }:MapEntry).key=z.key:=fun z L=>by rw [a0] at L;cases L;exact hk.symm
  have a4:(es.modify j (fun z=>{ z with key:=f x,val:=g v })).toList=es.toList.set j { U with key:=f x,val:=g v }:=by rw [Array.toList_modify,ChangeMaps.modify_eq_set _ _ _ _ hj]
  subst a5;refine ⟨setBlock w b (.map (es.modify j (fun z=>{ z with key:=f p.1,val:=g v })) D),?_,⟨_,_,Jl hb,stamped_modify hs _ _ (fun _ _=>rfl) (fun z _ L=>a3 z L),?_,?_⟩,⟨es,D,_,_,hb,rfl⟩⟩
  ·simp [Instr.mapUpdate,run_underlying ht,MapKept.run_getObj_map hb,Z,R,a0,hk,E.ff.stays w a1,MapKept.run_setObj_map _ hb,Result.andThen,setBlock]
  ·rw [a4,zcL Y hp,List.map_set,List.map_set,hm]
  ·intro q u;rw [zcL Y hp] at u;rcases List.mem_or_eq_of_mem_set u with u | rfl
   ·exact ho q u
   ·exact O
theorem qz.delete [DecidableEq K] (E:Yh P k f ok) (h:qz w f ok g b l) {t e ty:TypeId} (Y:P.underlying t=some (.map k e)) {x:K} (hx:ok x) :
  ∃ w',(Builtin.delete_ #[t,k] ty #[.map (some b),f x]).run P w=.ok (.tuple #[]) w'/\qz w' f ok g b (adel l x)/\w.mapTurned w' b:=by
 have L:=h.apart;obtain ⟨es,u,hb,hs,hm,R,O,Z⟩:=h.fl E hx;rcases Z with ⟨z,D,h3⟩ | ⟨j,e0,p,z,hj,hk,U,a3,hv⟩
 ·refine ⟨setBlock w b (.map es u),?_,⟨_,_,Jl hb,hs,?_,?_⟩,⟨es,u,_,_,hb,rfl⟩⟩
  ·simp [Builtin.delete_,run_underlying Y,MapKept.run_getObj_map hb,O,z,MapKept.run_setObj_map _ hb,Result.andThen,setBlock]
  ·rw [vY D];exact hm
  ·rw [vY D];exact R
 ·have a0:j<es.toList.length:=(List.getElem?_eq_some_iff.1 hj).1;have a1:j<es.size:=by simpa using a0
  have a4:(es.eraseIdxIfInBounds j).toList=es.toList.eraseIdx j:=by unfold Array.eraseIdxIfInBounds;rw [dif_pos a1];simp
  subst a3;refine ⟨setBlock w b (.map (es.eraseIdxIfInBounds j) u),?_,⟨_,_,Jl hb,stamped_erase hs j,?_,?_⟩,⟨es,u,_,_,hb,rfl⟩⟩
  ·simp [Builtin.delete_,run_underlying Y,MapKept.run_getObj_map hb,O,z,MapKept.run_setObj_map _ hb,Result.andThen,setBlock]
  ·rw [a4,zbb L U,ChangeMaps.map_eraseIdx,ChangeMaps.map_eraseIdx,hm]
  ·intro q X;rw [zbb L U] at X;exact R q ((List.eraseIdx_sublist _ _).subset X)
theorem qz.len (h:qz w f ok g b l) {t e:TypeId} (z:P.underlying t=some (.map k e)) (ty:TypeId):(Builtin.len_ #[t] ty #[.map (some b)]).run P w=.ok (.int .i64 l.length) w:=by
 obtain ⟨es,D,hb,hs,hm,E⟩:=h;have u:es.size=l.length:=by have:=congrArg List.length hm;simpa using this
 simp [Builtin.len_,run_underlying z,MapKept.run_getObj_map hb,Result.andThen,u];rfl
end
section
variable {P:Program} {k:TypeId} {K V:Type} {f:K->Value} {ok:K->Prop} {g:V->Value} (w:World) {b:Nat} {l:List (K × V)}
variable {ops:Array Oper} {rest:List Oper} {o:Oper} {a:Act} {Q:Exit->Act->World->Prop}
theorem JB [DecidableEq K] (R:Region.wanted o (yielded ops a.tmps)=true) (m x:Operand) (t e:TypeId) (D:o.op=Op.lookup t m x false) (E:Yh P k f ok) (O:P.underlying t=some (.map k e)) (v0:V) (Y:(zeroValue e).run P w=.ok (g v0) w)
  (hm:a.eval m=.map (some b)) (h:qz w f ok g b l) (y:K) (U:a.eval x=f y) (X:ok y)
  (u:wpList P ops Q rest (a.put o.dst (g ((zU l y).getD v0))) w):wpList P ops Q (o::rest) a w:=by
 refine wpList_step fun Z z=>?_;rw [if_pos R];have L:=h.lookup E O Y X false;unfold Oper.wp;simp [execOp,D,hm,U,L,Result.andThen];exact z _ _ u
theorem zbs [DecidableEq K] (R:Region.wanted o (yielded ops a.tmps)=true) (m x:Operand) (t e:TypeId) (D:o.op=Op.lookup t m x true) (E:Yh P k f ok) (O:P.underlying t=some (.map k e)) (v0:V) (Y:(zeroValue e).run P w=.ok (g v0) w)
  (hm:a.eval m=.map (some b)) (h:qz w f ok g b l) (y:K) (U:a.eval x=f y) (X:ok y)
  (u:wpList P ops Q rest (a.put o.dst (.tuple #[g ((zU l y).getD v0),.bool (qT l y)])) w):wpList P ops Q (o::rest) a w:=by
 refine wpList_step fun Z z=>?_;rw [if_pos R];have L:=h.lookup E O Y X true;unfold Oper.wp;simp [execOp,D,hm,U,L,Result.andThen];exact z _ _ u
theorem Ze [DecidableEq K] (X:Region.wanted o (yielded ops a.tmps)=true) (m x v:Operand) (t e:TypeId) (L:o.op=Op.mapUpdate t m x v) (E:Yh P k f ok) (R:P.underlying t=some (.map k e))
  (hm:a.eval m=.map (some b)) (h:qz w f ok g b l) (y:K) (Y:a.eval x=f y) (Z:ok y) (u:V) (U:a.eval v=g u)
  (z:∀ w',qz w' f ok g b (aput l y u)->w.mapTurned w' b->wpList P ops Q rest (a.put o.dst undef) w'):wpList P ops Q (o::rest) a w:=by
 refine wpList_step fun K' D=>?_;rw [if_pos X];obtain ⟨w',O,r1,r2⟩:=h.gr E R Z u;unfold Oper.wp;simp [execOp,L,hm,Y,U,O,Result.andThen];exact D _ _ (z w' r1 r2)
theorem Zd [DecidableEq K] (R:Region.wanted o (yielded ops a.tmps)=true) (m x:Operand) (t e:TypeId) (D:o.op=Op.call { callee:=Callee.builtin Builtin.delete,args:=#[m,x],argTypes:=#[t,k] }) (E:Yh P k f ok) (O:P.underlying t=some (.map k e))
  (hm:a.eval m=.map (some b)) (h:qz w f ok g b l) (y:K) (U:a.eval x=f y) (X:ok y)
  (u:∀ w',qz w' f ok g b (adel l y)->w.mapTurned w' b->wpList P ops Q rest (a.put o.dst (.tuple #[])) w'):wpList P ops Q (o::rest) a w:=by
 refine wpList_step fun K' z=>?_;rw [if_pos R];obtain ⟨w',L,Y,Z⟩:=h.delete E O (ty:=o.type) X;unfold Oper.wp;simp [execOp,D,resolve,invoke,builtin,hm,U,L,Result.andThen];exact z _ _ (u w' Y Z)
theorem Kk (L:Region.wanted o (yielded ops a.tmps)=true) (m:Operand) (t e:TypeId) (D:o.op=Op.call { callee:=Callee.builtin Builtin.len,args:=#[m],argTypes:=#[t] }) (E:P.underlying t=some (.map k e))
  (hm:a.eval m=.map (some b)) (h:qz w f ok g b l)
  (u:wpList P ops Q rest (a.put o.dst (.int .i64 l.length)) w):wpList P ops Q (o::rest) a w:=by
 refine wpList_step fun O z=>?_;rw [if_pos L];unfold Oper.wp;simp [execOp,D,resolve,invoke,builtin,hm,h.len E o.type,Result.andThen];exact z _ _ u
end
end
end Go.Proofs.YtechnoogjhohfaaGreat
