/-
  Joined by a program from texts written one by one: part 16 of the walk through the program and of the law behind it.
-/
import Derived.Maps.OwnOps
import Derived.Maps.OwnSet
import Derived.Maps.RangeWalk
import Derived.WalkKit
set_option maxRecDepth 100000
set_option maxHeartbeats 6400000
set_option linter.unusedVariables false
set_option linter.unusedSimpArgs false
namespace Go.Proofs.YtechnoogjhohfaaGreat
open Go.RowKit Go.Maps Go.MapKept
open Go.ChangeMaps (setBlock)
section
def js {K V:Type} (l:List (K × V)):Prop:=l.Pairwise fun p q=>p.1≠q.1
theorem js.nil {K V:Type}:js ([]:List (K × V)):=List.Pairwise.nil
theorem zbg {K V:Type} (l:List (K × V)):js l↔(l.map (·.1)).Nodup:=by
 unfold js List.Nodup;rw [List.pairwise_map]
section
variable {K V:Type} [DecidableEq K]
def zF (l:List (K × V)) (x:K):Option V:=(l.find? fun p=>decide (p.1=x)).map (·.2)
def qb (l:List (K × V)) (x:K):Bool:=l.any fun p=>decide (p.1=x)
def aput (l:List (K × V)) (x:K) (v:V):List (K × V):=if qb l x=true then l.map (fun p=>if p.1=x then (x,v) else p) else l++[(x,v)]
def adel (l:List (K × V)) (x:K):List (K × V):=l.filter fun p=>!decide (p.1=x)
theorem zcm (x:K):zF ([]:List (K × V)) x=none:=rfl
theorem jd (p:K × V) (l:List (K × V)) (x:K):zF (p::l) x=if p.1=x then some p.2 else zF l x:=by
 unfold zF;rw [List.find?_cons];by_cases h:p.1=x<;>simp [h]
theorem Zk (p:K × V) (l:List (K × V)) (x:K):qb (p::l) x=(decide (p.1=x) || qb l x):=rfl
theorem jA (l:List (K × V)) (x:K):qb l x=(zF l x).isSome:=by
 induction l with
 | nil=>rfl
 | cons p l ih=>rw [Zk,jd,ih];by_cases h:p.1=x<;>simp [h]
theorem jB {l:List (K × V)} {x:K}:qb l x=false↔∀ p∈l,p.1≠x:=by simp [qb]
theorem Qj {l:List (K × V)} {x:K}:qb l x=true↔∃ p∈l,p.1=x:=by simp [qb]
theorem zbe {l:List (K × V)} {x:K} (h:qb l x=false):zF l x=none:=by
 rw [jA] at h;simpa using h
theorem Zg {l:List (K × V)} (hl:js l) {p:K × V} (hp:p∈l):zF l p.1=some p.2:=by
 induction l with
 | nil=>cases hp
 | cons q l ih =>
  rw [jd]
  rcases List.mem_cons.1 hp with rfl | hp'
  ·simp
  ·have:=(List.pairwise_cons.1 hl).1 p hp'
   rw [if_neg this];exact ih (List.pairwise_cons.1 hl).2 hp'
theorem qP {l:List (K × V)} {x:K} {v:V} (h:zF l x=some v):(x,v)∈l:=by
 unfold zF at h
 simp only [Option.map_eq_some_iff] at h
 obtain ⟨p,hp,rfl⟩:=h
 have h1:=List.mem_of_find?_eq_some hp
 have h2:=List.find?_some hp
 simp at h2;subst h2;exact h1
theorem zaC (l:List (K × V)) (x y:K) (v:V) (h:y≠x):zF (l.map fun p=>if p.1=x then (x,v) else p) y=zF l y:=by
 induction l with
 | nil=>rfl
 | cons p l ih =>
  rw [List.map_cons,jd,jd,ih]
  by_cases h1:p.1=x
  ·rw [if_pos h1,if_neg (fun e=>h e.symm),if_neg (by rw [h1];exact fun e=>h e.symm)]
  ·rw [if_neg h1]
theorem zbT (l:List (K × V)) (x:K) (v:V) (h:qb l x=true):zF (l.map fun p=>if p.1=x then (x,v) else p) x=some v:=by
 induction l with
 | nil=>cases h
 | cons p l ih =>
  rw [List.map_cons,jd]
  by_cases h1:p.1=x
  ·simp [h1]
  ·rw [if_neg h1,if_neg h1];rw [Zk] at h;simp [h1] at h;exact ih h
theorem Gp (l m:List (K × V)) (x:K):zF (l++m) x=if qb l x=true then zF l x else zF m x:=by
 induction l with
 | nil=>rfl
 | cons p l ih =>
  rw [List.cons_append,jd,jd,Zk,ih]
  by_cases h1:p.1=x<;>simp [h1]
theorem Qi (l:List (K × V)) (x y:K) (v:V):zF (aput l x v) y=if y=x then some v else zF l y:=by
 unfold aput
 by_cases h:qb l x=true
 ·rw [if_pos h]
  by_cases e:y=x
  ·subst e;rw [if_pos rfl,zbT l y v h]
  ·rw [if_neg e,zaC l x y v e]
 ·rw [if_neg h,Gp]
  by_cases e:y=x
  ·subst e;rw [if_pos rfl,if_neg h,jd,if_pos rfl]
  ·rw [if_neg e]
   by_cases h2:qb l y=true
   ·rw [if_pos h2]
   ·have hxy:¬ x=y:=fun e'=>e e'.symm
    rw [if_neg h2,zbe (l:=l) (by simpa using h2),jd,if_neg hxy,zcm]
theorem zbf (l:List (K × V)) (x y:K) (v:V):qb (aput l x v) y=(decide (y=x) || qb l y):=by
 rw [jA,Qi,jA];by_cases e:y=x<;>simp [e]
theorem zfV (l:List (K × V)) (x y:K):zF (adel l x) y=if y=x then none else zF l y:=by
 induction l with
 | nil=>simp [adel,zcm]
 | cons p l ih =>
  unfold adel at ih ⊢
  rw [List.filter_cons]
  by_cases h1:p.1=x
  ·simp only [h1,decide_true,Bool.not_true,Bool.false_eq_true,if_false]
   rw [ih,jd]
   by_cases e:y=x
   ·rw [if_pos e,if_pos e]
   ·rw [if_neg e,if_neg e,if_neg (by rw [h1];exact fun e'=>e e'.symm)]
  ·simp only [h1,decide_false,Bool.not_false,if_true]
   rw [jd,jd,ih]
   by_cases e:y=x
   ·subst e;rw [if_neg h1,if_pos rfl,if_pos rfl]
   ·rw [if_neg e,if_neg e]
theorem Ko (l:List (K × V)) (x y:K):qb (adel l x) y=(!decide (y=x) && qb l y):=by
 rw [jA,zfV,jA];by_cases e:y=x<;>simp [e]
theorem yk {l:List (K × V)} {x:K} (h:qb l x=false):adel l x=l:=by
 unfold adel;rw [List.filter_eq_self];intro p hp;simpa using jB.1 h p hp
theorem ZL {l:List (K × V)} {x:K} (v:V) (h:qb l x=false):aput l x v=l++[(x,v)]:=by
 unfold aput;rw [if_neg (by rw [h];decide)]
theorem js.adel {l:List (K × V)} (h:js l) (x:K):js (adel l x):=List.Pairwise.filter _ h
theorem zdN (l:List (K × V)) (x:K) (v:V):(l.map fun p=>if p.1=x then (x,v) else p).map (·.1)=l.map (·.1):=by
 rw [List.map_map];refine List.map_congr_left fun p _=>?_
 by_cases h:p.1=x<;>simp [h]
theorem js.aput {l:List (K × V)} (h:js l) (x:K) (v:V):js (aput l x v):=by
 unfold Go.Proofs.YtechnoogjhohfaaGreat.aput
 by_cases e:qb l x=true
 ·rw [if_pos e,zbg,zdN,<- zbg];exact h
 ·rw [if_neg e]
  refine List.pairwise_append.2 ⟨h,by simp,?_⟩
  intro p hp q hq
  simp at hq;subst hq
  exact jB.1 (by simpa using e) p hp
theorem YX {l:List (K × V)} (h:js l) {j:Nat} {p:K × V} (hj:l[j]?=some p):adel l p.1=l.eraseIdx j:=by
 induction l generalizing j with
 | nil=>simp at hj
 | cons q l ih =>
  obtain ⟨h1,h2⟩:=List.pairwise_cons.1 h
  cases j with
  | zero =>
   simp at hj;subst hj
   have:Go.Proofs.YtechnoogjhohfaaGreat.adel (q::l) q.1=Go.Proofs.YtechnoogjhohfaaGreat.adel l q.1:=by unfold Go.Proofs.YtechnoogjhohfaaGreat.adel;rw [List.filter_cons];simp
   rw [this,yk (jB.2 fun p hp=>fun e=>h1 p hp e.symm)];rfl
  | succ j =>
   simp at hj
   have hp:p∈l:=List.mem_of_getElem? hj
   have:Go.Proofs.YtechnoogjhohfaaGreat.adel (q::l) p.1=q::Go.Proofs.YtechnoogjhohfaaGreat.adel l p.1:=by
    unfold Go.Proofs.YtechnoogjhohfaaGreat.adel;rw [List.filter_cons];simp [h1 p hp]
   rw [this,ih h2 hj];rfl
theorem Gq {l:List (K × V)} (h:js l) {j:Nat} {p:K × V} (hj:l[j]?=some p) (v:V):aput l p.1 v=l.set j (p.1,v):=by
 have hh:qb l p.1=true:=Qj.2 ⟨p,List.mem_of_getElem? hj,rfl⟩
 unfold aput
 rw [if_pos hh]
 clear hh
 induction l generalizing j with
 | nil=>simp at hj
 | cons q l ih =>
  obtain ⟨h1,h2⟩:=List.pairwise_cons.1 h
  cases j with
  | zero =>
   simp at hj;subst hj
   rw [List.map_cons,if_pos rfl,List.set_cons_zero]
   congr 1
   conv=>rhs;rw [<- List.map_id l]
   refine List.map_congr_left fun p hp=>?_
   rw [if_neg (fun e=>h1 p hp e.symm)];rfl
  | succ j =>
   simp at hj
   have hp:p∈l:=List.mem_of_getElem? hj
   rw [List.map_cons,List.set_cons_succ,if_neg (h1 p hp),ih h2 hj]
end
structure Zq (P:Program) (k:TypeId) {K:Type} (f:K->Value) (ok:K->Prop):Prop where
 keyed:Keyed P k
 lit:∀ x,ok x->∃ l,keyOf P k (f x)=some l
 inj:∀ x y,f x=f y->x=y
def zU {K V:Type} (w:World) (f:K->Value) (ok:K->Prop) (g:V->Value) (b:Nat) (l:List (K × V)):Prop :=
 ∃ es clock,w.heap[b]?=some (.map es clock)/\Stamped es clock/\es.toList.map (fun e=>(e.key,e.val))=l.map (fun p=>(f p.1,g p.2))/\∀ p∈l,ok p.1
section
variable {P:Program} {k:TypeId} {K V:Type} {f:K->Value} {ok:K->Prop} {g:V->Value} {w w':World} {b:Nat} {l:List (K × V)}
theorem zU.lt (h:zU w f ok g b l):b<w.heap.size:=by
 obtain ⟨es,clock,hb,_⟩:=h;exact (Array.getElem?_eq_some_iff.1 hb).1
theorem zU.of_block (h:zU w f ok g b l) (hb:w'.heap[b]?=w.heap[b]?):zU w' f ok g b l:=by
 obtain ⟨es,clock,h1,h2⟩:=h;exact ⟨es,clock,hb.trans h1,h2⟩
theorem zU.oks (h:zU w f ok g b l):∀ p∈l,ok p.1:=by obtain ⟨_,_,_,_,_,h⟩:=h;exact h
theorem zU.made (w:World) (f:K->Value) (ok:K->Prop) (g:V->Value):zU (w.alloc (.map #[] 0)) f ok g w.heap.size ([]:List (K × V)) :=
 ⟨#[],0,(MapKept.heap_alloc w _).1,stamped_empty 0,rfl,by simp⟩
theorem zU.alloc (h:zU w f ok g b l) (o:Obj):zU (w.alloc o) f ok g b l:=h.of_block (Below.heap_alloc w o b h.lt)
theorem zU.drew (h:zU w f ok g b l):zU w.drew f ok g b l:=h
theorem zU.setCell (h:zU w f ok g b l) {p:Addr} (hp:b≠p.block) (u:Value):zU (w.setCell p u) f ok g b l:=h.of_block (Below.heap_setCell w p u b hp)
theorem zU.below {B:Nat} (h:zU w f ok g b l) (hb:Below B w w') (hB:b<B):zU w' f ok g b l:=h.of_block (hb.block b hB)
theorem zjk {es:List MapEntry} (hm:es.map (fun e=>(e.key,e.val))=l.map (fun p=>(f p.1,g p.2))) {j:Nat} {e0:MapEntry} (hj:es[j]?=some e0) :
  ∃ p,l[j]?=some p/\f p.1=e0.key/\g p.2=e0.val:=by
 have h:=congrArg (fun z=>z[j]?) hm
 simp only [List.getElem?_map,hj,Option.map_some] at h
 cases hp:l[j]? with
 | none=>rw [hp] at h;cases h
 | some p=>rw [hp] at h;simp at h;exact ⟨p,rfl,h.1.symm,h.2.symm⟩
theorem zU.apart (h:zU w f ok g b l):js l:=by
 obtain ⟨es,clock,_,hs,hm,_⟩:=h
 have h1:(es.toList.map (·.key))=l.map (fun p=>f p.1):=by
  have:=congrArg (List.map Prod.fst) hm
  simpa [List.map_map,Function.comp_def] using this
 have h2:=hs.2.2
 rw [h1] at h2
 unfold List.Nodup at h2
 rw [List.pairwise_map] at h2
 exact h2.imp fun hne e=>hne (by rw [e])
theorem zU.keys (E:Zq P k f ok) {es:Array MapEntry} (hm:es.toList.map (fun e=>(e.key,e.val))=l.map (fun p=>(f p.1,g p.2))) (ho:∀ p∈l,ok p.1) :
  ∀ e∈es.toList,∃ x,keyOf P k e.key=some x:=by
 intro e he
 obtain ⟨j,hj⟩:=List.mem_iff_getElem?.1 he
 obtain ⟨p,hp,h1,_⟩:=zjk hm hj
 obtain ⟨x,hx⟩:=E.lit p.1 (ho p (List.mem_of_getElem? hp))
 exact ⟨x,by rw [<- h1];exact hx⟩
theorem zU.finds [DecidableEq K] (E:Zq P k f ok) (h:zU w f ok g b l) {x:K} (hx:ok x) :
  ∃ es clock,w.heap[b]?=some (.map es clock)/\Stamped es clock/\es.toList.map (fun e=>(e.key,e.val))=l.map (fun p=>(f p.1,g p.2))/\(∀ p∈l,ok p.1)/\(∀ em,(Instr.checkKey em 10000 k (f x)).run P w=.ok () w) /\
   (((Instr.findKey k (f x) es.toList).run P w=.ok none w/\qb l x=false/\∀ e∈es.toList,e.key≠f x) ∨
    ∃ j e0 p,(Instr.findKey k (f x) es.toList).run P w=.ok (some (j,e0.val)) w/\es.toList[j]?=some e0/\e0.key=f x/\l[j]?=some p/\p.1=x/\g p.2=e0.val):=by
 obtain ⟨es,clock,hb,hs,hm,ho⟩:=h
 obtain ⟨kl,hkey⟩:=E.lit x hx
 refine ⟨es,clock,hb,hs,hm,ho,fun em=>E.keyed.check w em hkey,?_⟩
 rcases E.keyed.find w hkey es.toList (zU.keys E hm ho) with ⟨h1,h2⟩ | ⟨j,e0,h1,h2,h3⟩
 ·refine .inl ⟨h1,jB.2 fun p hp e=>?_,h2⟩
  obtain ⟨j,hj⟩:=List.mem_iff_getElem?.1 hp
  have h:=congrArg (fun z=>z[j]?) hm
  simp only [List.getElem?_map,hj,Option.map_some] at h
  cases he:es.toList[j]? with
  | none=>rw [he] at h;cases h
  | some e0 =>
   rw [he] at h;simp at h
   exact h2 e0 (List.mem_of_getElem? he) (by rw [h.1,e])
 ·obtain ⟨p,hp,e1,e2⟩:=zjk hm h2
  exact .inr ⟨j,e0,p,h1,h2,h3,hp,E.inj _ _ (by rw [e1,h3]),e2⟩
theorem zU.lookup [DecidableEq K] (E:Zq P k f ok) (h:zU w f ok g b l) {t e:TypeId} (ht:P.underlying t=some (.map k e)) {v0:V} (hz:(zeroValue e).run P w=.ok (g v0) w) {x:K} (hx:ok x) (c:Bool) :
  (Instr.lookup t (.map (some b)) (f x) c).run P w=.ok (if c then .tuple #[g ((zF l x).getD v0),.bool (qb l x)] else g ((zF l x).getD v0)) w:=by
 have hap:=h.apart
 obtain ⟨es,clock,hb,_,_,_,hck,hf⟩:=h.finds E hx
 rcases hf with ⟨h1,h2,_⟩ | ⟨j,e0,p,h1,_,_,hp,rfl,hv⟩
 ·rw [zbe h2,h2]
  simp [Instr.lookup,run_underlying ht,MapKept.run_getObj_map hb,hck,h1,hz,Result.andThen]
 ·have hmem:=List.mem_of_getElem? hp
  rw [Zg hap hmem,show qb l p.1=true from Qj.2 ⟨p,hmem,rfl⟩]
  simp [Instr.lookup,run_underlying ht,MapKept.run_getObj_map hb,hck,h1,hv,Result.andThen]
theorem Za {w:World} {b:Nat} {o o':Obj} (hb:w.heap[b]?=some o):(setBlock w b o').heap[b]?=some o':=by
 have:=(Array.getElem?_eq_some_iff.1 hb).1
 simp [setBlock,this]
theorem zU.update [DecidableEq K] (E:Zq P k f ok) (h:zU w f ok g b l) {t e:TypeId} (ht:P.underlying t=some (.map k e)) {x:K} (hx:ok x) (v:V) :
  ∃ w',(Instr.mapUpdate t (.map (some b)) (f x) (g v)).run P w=.ok () w'/\zU w' f ok g b (aput l x v)/\w.mapTurned w' b:=by
 have hap:=h.apart
 obtain ⟨es,clock,hb,hs,hm,ho,hck,hf⟩:=h.finds E hx
 rcases hf with ⟨h1,h2,h3⟩ | ⟨j,e0,p,h1,hj,hk,hp,hpx,hv⟩
 ·refine ⟨setBlock w b (.map (es.push ⟨f x,g v,clock⟩) (clock+1)),?_,⟨_,_,Za hb,stamped_push hs h3,?_,?_⟩,⟨es,clock,_,_,hb,rfl⟩⟩
  ·simp [Instr.mapUpdate,run_underlying ht,MapKept.run_getObj_map hb,hck,h1,MapKept.run_setObj_map _ hb,Result.andThen,setBlock]
  ·rw [ZL v h2,Array.toList_push,List.map_append,List.map_append,hm];rfl
  ·intro q hq
   rw [ZL v h2] at hq
   rcases List.mem_append.1 hq with hq | hq
   ·exact ho q hq
   ·simp at hq;subst hq;exact hx
 ·have hj':es[j]?=some e0:=by simpa using hj
  obtain ⟨kl,hkey⟩:=E.lit x hx
  have hkeyf:∀ e',es[j]?=some e'->({ e' with key:=f x,val:=g v }:MapEntry).key=e'.key:=fun e' he'=>by rw [hj'] at he';cases he';exact hk.symm
  have hlist:(es.modify j (fun e'=>{ e' with key:=f x,val:=g v })).toList=es.toList.set j { e0 with key:=f x,val:=g v }:=by rw [Array.toList_modify,ChangeMaps.modify_eq_set _ _ _ _ hj]
  subst hpx
  refine ⟨setBlock w b (.map (es.modify j (fun e'=>{ e' with key:=f p.1,val:=g v })) clock),?_,⟨_,_,Za hb,stamped_modify hs _ _ (fun _ _=>rfl) (fun e' _ he'=>hkeyf e' he'),?_,?_⟩,⟨es,clock,_,_,hb,rfl⟩⟩
  ·simp [Instr.mapUpdate,run_underlying ht,MapKept.run_getObj_map hb,hck,h1,hj',hk,E.keyed.stays w hkey,MapKept.run_setObj_map _ hb,Result.andThen,setBlock]
  ·rw [hlist,Gq hap hp,List.map_set,List.map_set,hm]
  ·intro q hq
   rw [Gq hap hp] at hq
   rcases List.mem_or_eq_of_mem_set hq with hq | rfl
   ·exact ho q hq
   ·exact hx
theorem zU.delete [DecidableEq K] (E:Zq P k f ok) (h:zU w f ok g b l) {t e ty:TypeId} (ht:P.underlying t=some (.map k e)) {x:K} (hx:ok x) :
  ∃ w',(Builtin.delete_ #[t,k] ty #[.map (some b),f x]).run P w=.ok (.tuple #[]) w'/\zU w' f ok g b (adel l x)/\w.mapTurned w' b:=by
 have hap:=h.apart
 obtain ⟨es,clock,hb,hs,hm,ho,hck,hf⟩:=h.finds E hx
 rcases hf with ⟨h1,h2,h3⟩ | ⟨j,e0,p,h1,hj,hk,hp,hpx,hv⟩
 ·refine ⟨setBlock w b (.map es clock),?_,⟨_,_,Za hb,hs,?_,?_⟩,⟨es,clock,_,_,hb,rfl⟩⟩
  ·simp [Builtin.delete_,run_underlying ht,MapKept.run_getObj_map hb,hck,h1,MapKept.run_setObj_map _ hb,Result.andThen,setBlock]
  ·rw [yk h2];exact hm
  ·rw [yk h2];exact ho
 ·have hjl:j<es.toList.length:=(List.getElem?_eq_some_iff.1 hj).1
  have hjs:j<es.size:=by simpa using hjl
  have hsub:(es.eraseIdxIfInBounds j).toList=es.toList.eraseIdx j:=by
   unfold Array.eraseIdxIfInBounds
   rw [dif_pos hjs]
   simp
  subst hpx
  refine ⟨setBlock w b (.map (es.eraseIdxIfInBounds j) clock),?_,⟨_,_,Za hb,stamped_erase hs j,?_,?_⟩,⟨es,clock,_,_,hb,rfl⟩⟩
  ·simp [Builtin.delete_,run_underlying ht,MapKept.run_getObj_map hb,hck,h1,MapKept.run_setObj_map _ hb,Result.andThen,setBlock]
  ·rw [hsub,YX hap hp,ChangeMaps.map_eraseIdx,ChangeMaps.map_eraseIdx,hm]
  ·intro q hq
   rw [YX hap hp] at hq
   exact ho q ((List.eraseIdx_sublist _ _).subset hq)
theorem zU.len (h:zU w f ok g b l) {t e:TypeId} (ht:P.underlying t=some (.map k e)) (ty:TypeId):(Builtin.len_ #[t] ty #[.map (some b)]).run P w=.ok (.int .i64 l.length) w:=by
 obtain ⟨es,clock,hb,hs,hm,ho⟩:=h
 have hl:es.size=l.length:=by have:=congrArg List.length hm;simpa using this
 simp [Builtin.len_,run_underlying ht,MapKept.run_getObj_map hb,Result.andThen,hl]
 rfl
end
section
variable {P:Program} {k:TypeId} {K V:Type} {f:K->Value} {ok:K->Prop} {g:V->Value} (w:World) {b:Nat} {l:List (K × V)}
variable {ops:Array Oper} {rest:List Oper} {o:Oper} {a:Act} {Q:Exit->Act->World->Prop}
theorem Jo [DecidableEq K] (hw:Region.wanted o (yielded ops a.tmps)=true) (m x:Operand) (t e:TypeId) (hop:o.op=Op.lookup t m x false) (E:Zq P k f ok) (ht:P.underlying t=some (.map k e)) (v0:V) (hz:(zeroValue e).run P w=.ok (g v0) w)
  (hm:a.eval m=.map (some b)) (h:zU w f ok g b l) (y:K) (hx:a.eval x=f y) (hy:ok y)
  (hK:wpList P ops Q rest (a.put o.dst (g ((zF l y).getD v0))) w):wpList P ops Q (o::rest) a w:=by
 refine wpList_step fun K' hK'=>?_
 rw [if_pos hw]
 have hrun:=h.lookup E ht hz hy false
 unfold Oper.wp
 simp [execOp,hop,hm,hx,hrun,Result.andThen]
 exact hK' _ _ hK
theorem Km [DecidableEq K] (hw:Region.wanted o (yielded ops a.tmps)=true) (m x:Operand) (t e:TypeId) (hop:o.op=Op.lookup t m x true) (E:Zq P k f ok) (ht:P.underlying t=some (.map k e)) (v0:V) (hz:(zeroValue e).run P w=.ok (g v0) w)
  (hm:a.eval m=.map (some b)) (h:zU w f ok g b l) (y:K) (hx:a.eval x=f y) (hy:ok y)
  (hK:wpList P ops Q rest (a.put o.dst (.tuple #[g ((zF l y).getD v0),.bool (qb l y)])) w):wpList P ops Q (o::rest) a w:=by
 refine wpList_step fun K' hK'=>?_
 rw [if_pos hw]
 have hrun:=h.lookup E ht hz hy true
 unfold Oper.wp
 simp [execOp,hop,hm,hx,hrun,Result.andThen]
 exact hK' _ _ hK
theorem yu [DecidableEq K] (hw:Region.wanted o (yielded ops a.tmps)=true) (m x v:Operand) (t e:TypeId) (hop:o.op=Op.mapUpdate t m x v) (E:Zq P k f ok) (ht:P.underlying t=some (.map k e))
  (hm:a.eval m=.map (some b)) (h:zU w f ok g b l) (y:K) (hx:a.eval x=f y) (hy:ok y) (u:V) (hv:a.eval v=g u)
  (hK:∀ w',zU w' f ok g b (aput l y u)->w.mapTurned w' b->wpList P ops Q rest (a.put o.dst undef) w'):wpList P ops Q (o::rest) a w:=by
 refine wpList_step fun K' hK'=>?_
 rw [if_pos hw]
 obtain ⟨w',hrun,r1,r2⟩:=h.update E ht hy u
 unfold Oper.wp
 simp [execOp,hop,hm,hx,hv,hrun,Result.andThen]
 exact hK' _ _ (hK w' r1 r2)
theorem vt [DecidableEq K] (hw:Region.wanted o (yielded ops a.tmps)=true) (m x:Operand) (t e:TypeId) (hop:o.op=Op.call { callee:=Callee.builtin Builtin.delete,args:=#[m,x],argTypes:=#[t,k] }) (E:Zq P k f ok) (ht:P.underlying t=some (.map k e))
  (hm:a.eval m=.map (some b)) (h:zU w f ok g b l) (y:K) (hx:a.eval x=f y) (hy:ok y)
  (hK:∀ w',zU w' f ok g b (adel l y)->w.mapTurned w' b->wpList P ops Q rest (a.put o.dst (.tuple #[])) w'):wpList P ops Q (o::rest) a w:=by
 refine wpList_step fun K' hK'=>?_
 rw [if_pos hw]
 obtain ⟨w',hrun,r1,r2⟩:=h.delete E ht (ty:=o.type) hy
 unfold Oper.wp
 simp [execOp,hop,resolve,invoke,builtin,hm,hx,hrun,Result.andThen]
 exact hK' _ _ (hK w' r1 r2)
theorem QE (hw:Region.wanted o (yielded ops a.tmps)=true) (m:Operand) (t e:TypeId) (hop:o.op=Op.call { callee:=Callee.builtin Builtin.len,args:=#[m],argTypes:=#[t] }) (ht:P.underlying t=some (.map k e))
  (hm:a.eval m=.map (some b)) (h:zU w f ok g b l)
  (hK:wpList P ops Q rest (a.put o.dst (.int .i64 l.length)) w):wpList P ops Q (o::rest) a w:=by
 refine wpList_step fun K' hK'=>?_
 rw [if_pos hw]
 unfold Oper.wp
 simp [execOp,hop,resolve,invoke,builtin,hm,h.len ht o.type,Result.andThen]
 exact hK' _ _ hK
end
end
end Go.Proofs.YtechnoogjhohfaaGreat
