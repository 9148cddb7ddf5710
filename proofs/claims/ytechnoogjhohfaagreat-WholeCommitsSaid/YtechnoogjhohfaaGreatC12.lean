/-
  Joined by a program from texts written one by one: part 12 of the walk through the program and of the law behind it.
-/
import Derived.Test.YtechnoogjhohfaaGreatC11
import Derived.Sort.Walk0
set_option maxRecDepth 100000
set_option maxHeartbeats 6400000
set_option linter.unusedVariables false
set_option linter.unusedSimpArgs false
namespace Go.Proofs.YtechnoogjhohfaaGreat
open Go.RowKit Go.Lib
open YtechnoogjhohfaaGreatW
def jD (a b:Rw):Prop:=a.t<b.t∨a.t=b.t/\a.k<b.k
theorem ZE (a b:Rw):Qs a b=true↔jD a b:=by
 unfold Qs QM jD
 have e:∀ x y:List UInt8,Op.bytesLess (za x).toList (za y).toList=decide (x<y):=fun x y=>by
  rw [ByteArray.toList_eq,ByteArray.toList_eq];exact bytesLess_eq x y
 rw [e]
 have h2:((a.t:Int)=(b.t:Int))↔a.t=b.t:=by omega
 simp [h2]
theorem JQ {a b c:Rw} (h:jD a b) (k:jD b c):jD a c:=by
 unfold jD at *
 rcases h with h | ⟨h1,h2⟩<;>rcases k with k | ⟨k1,k2⟩
 ·exact .inl (by omega)
 ·exact .inl (by omega)
 ·exact .inl (by omega)
 ·exact .inr ⟨by omega,List.lt_trans h2 k2⟩
theorem vN (a:Rw):¬ jD a a:=by
 unfold jD
 rintro (h | ⟨_,h⟩)
 ·omega
 ·exact List.lt_irrefl _ h
theorem ZY (a b:Rw):vw a b<0↔jD a b:=by
 rw [<- ZE]
 unfold vw QW Qs
 split
 ·rename_i h;simp [h]
 ·rename_i h
  split<;>simp [h]
def zJ (l:List It):Prop:=l.Pairwise fun a b=>jD a.rw b.rw
def qF (l:List It) (r:Rw):Nat:=(l.takeWhile fun x=>Qs x.rw r).length
theorem Cut.of_sorted:∀ {l:List It} {r:Rw},zJ l->Cut l r (qF l r)
 | [],r,_=>⟨Nat.le_refl _,fun k x _ h=>by simp at h,fun k x _ h=>by simp at h⟩
 | y::l,r,h=>by
  obtain ⟨h1,h2⟩:=List.pairwise_cons.1 h
  have ih:=Cut.of_sorted (r:=r) (show zJ l from h2)
  unfold qF at ih ⊢
  by_cases hy:Qs y.rw r=true
  ·rw [List.takeWhile_cons_of_pos (p:=fun x:It=>Qs x.rw r) hy,List.length_cons]
   refine ⟨by rw [List.length_cons];have:=ih.le;omega,fun k x hk hx=>?_,fun k x hk hx=>?_⟩
   ·cases k with
    | zero=>simp at hx;subst hx;exact (ZY _ _).2 ((ZE _ _).1 hy)
    | succ k=>exact ih.lo k x (by omega) (by simpa using hx)
   ·cases k with
    | zero=>omega
    | succ k=>exact ih.hi k x (by omega) (by simpa using hx)
  ·rw [List.takeWhile_cons_of_neg (p:=fun x:It=>Qs x.rw r) hy]
   refine ⟨Nat.zero_le _,fun k x hk _=>by simp at hk,fun k x _ hx=>?_⟩
   rw [ZY]
   intro hlt
   apply hy
   rw [ZE]
   cases k with
   | zero=>simp at hx;subst hx;exact hlt
   | succ k =>
    have hm:x∈l:=List.mem_of_getElem? (by simpa using hx)
    exact JQ (h1 x hm) hlt
theorem zbs (a b:Rw) (h1:¬ jD a b) (h2:¬ (a.t=b.t/\a.k=b.k)):jD b a:=by
 unfold jD at *
 by_cases ht:a.t=b.t
 ·refine .inr ⟨ht.symm,?_⟩
  have h3:¬ a.k<b.k:=fun h=>h1 (.inr ⟨ht,h⟩)
  have h4:a.k≠b.k:=fun h=>h2 ⟨ht,h⟩
  exact Std.lt_of_le_of_ne h3 (fun e=>h4 e.symm)
 ·exact .inl (by
   have:¬ a.t<b.t:=fun h=>h1 (.inl h)
   omega)
theorem Jm (a b:Rw):vw a b=0↔a.t=b.t/\a.k=b.k:=by
 have h1:=ZE a b
 have h2:=ZE b a
 unfold vw QW
 unfold Qs at h1 h2
 constructor
 ·intro h
  split at h
  ·cases h
  ·rename_i h3
   split at h
   ·cases h
   ·rename_i h4
    by_cases he:a.t=b.t/\a.k=b.k
    ·exact he
    ·exact absurd (h2.2 (zbs a b (fun h9=>h3 (h1.2 h9)) he)) h4
 ·rintro ⟨ht,hk⟩
  have n1:¬ jD a b:=fun h=>by
   rcases h with h | ⟨_,h⟩
   ·omega
   ·rw [hk] at h;exact List.lt_irrefl _ h
  have n2:¬ jD b a:=fun h=>by
   rcases h with h | ⟨_,h⟩
   ·omega
   ·rw [hk] at h;exact List.lt_irrefl _ h
  rw [if_neg (fun h=>n1 (h1.1 h)),if_neg (fun h=>n2 (h2.1 h))]
theorem zJ.rem {l:List It} {m:Nat} {r:Rw} (h:zJ l):zJ (uI l m r):=by
 unfold uI
 split
 ·exact List.Pairwise.sublist (List.eraseIdx_sublist l m) h
 ·exact h
theorem zdJ {a b c:Rw} (h:a.t=b.t/\a.k=b.k) (hl:jD c a):jD c b:=by
 unfold jD at *
 rw [<- h.1,<- h.2];exact hl
theorem Ja {a b c:Rw} (h:a.t=b.t/\a.k=b.k) (hl:jD a c):jD b c:=by
 unfold jD at *
 rw [<- h.1,<- h.2];exact hl
theorem zJ.put {l:List It} {m:Nat} {x:It} (h:zJ l) (hc:Cut l x.rw m):zJ (yZ l m x):=by
 have hlo:∀ y∈l.take m,jD y.rw x.rw:=fun y hy=>by
  obtain ⟨k,hk⟩:=List.getElem?_of_mem hy
  rw [List.getElem?_take] at hk
  split at hk
  ·rename_i hkm;exact (ZY _ _).1 (hc.lo k y hkm hk)
  ·cases hk
 have hsp:zJ (l.take m++l.drop m):=by rw [List.take_append_drop];exact h
 obtain ⟨hs1,hs2,hs3⟩:=List.pairwise_append.1 hsp
 unfold yZ
 cases hd:l.drop m with
 | nil =>
  have hn:l[m]?=none:=by
   have:l.length<=m:=by have:=congrArg List.length hd;rw [List.length_drop] at this;simp at this;omega
   exact List.getElem?_eq_none this
  rw [show qv l m x.rw=false by simp [qv,hn]]
  simp only [Bool.false_eq_true,if_false,yX,hd]
  exact List.pairwise_append.2 ⟨hs1,List.pairwise_singleton _ _,fun a ha b hb=>by simp at hb;subst hb;exact hlo a ha⟩
 | cons z zs =>
  have hz:l[m]?=some z:=by
   have:=List.getElem?_drop (xs:=l) (i:=m) (j:=0)
   rw [hd] at this;simpa using this.symm
  rw [hd] at hs2 hs3
  obtain ⟨hz1,hz2⟩:=List.pairwise_cons.1 hs2
  have hnl:¬ jD z.rw x.rw:=fun h9=>hc.hi m z (Nat.le_refl _) hz ((ZY _ _).2 h9)
  by_cases he:vw z.rw x.rw=0
  ·have hkey:=(Jm _ _).1 he
   have hm:m<l.length:=(List.getElem?_eq_some_iff.1 hz).1
   rw [show qv l m x.rw=true by simp [qv,hz,he]]
   simp only [if_true]
   unfold zJ
   rw [List.set_eq_take_append_cons_drop,if_pos hm]
   have hd1:l.drop (m+1)=zs:=by rw [<- List.drop_drop,hd];rfl
   rw [hd1]
   refine List.pairwise_append.2 ⟨hs1,List.pairwise_cons.2 ⟨fun b hb=>Ja hkey (hz1 b hb),hz2⟩,fun a ha b hb=>?_⟩
   rcases List.mem_cons.1 hb with rfl | hb
   ·exact hlo a ha
   ·exact hs3 a ha b (List.mem_cons_of_mem _ hb)
  ·rw [show qv l m x.rw=false by simp [qv,hz,he]]
   simp only [Bool.false_eq_true,if_false,yX,hd]
   have hxz:jD x.rw z.rw:=zbs _ _ hnl (fun h9=>he ((Jm _ _).2 h9))
   refine List.pairwise_append.2 ⟨hs1,List.pairwise_cons.2 ⟨fun b hb=>?_,hs2⟩,fun a ha b hb=>?_⟩
   ·rcases List.mem_cons.1 hb with rfl | hb
    ·exact hxz
    ·exact JQ hxz (hz1 b hb)
   ·rcases List.mem_cons.1 hb with rfl | hb
    ·exact hlo a ha
    ·exact hs3 a ha b hb
theorem zjM (X o:Nat) (v:Value) (its:List It) (w:World) (h:QG w X o v its) :
  Calls Tryz.prog 101 #[.pointer (some ⟨X,o,none⟩)] w fun e w'=>e=.returned (.int .i64 its.length)/\w'=w:=by
 have hx:=h.cell
 obtain ⟨A,c,rfl⟩:=own_slice h.its
 clear h
 go_enter Tryz.func101,Tryz.ntmps101
 go_wp2_with fail
 go_ret
 exact ⟨rfl,rfl⟩
section
section
variable {P:Program}
end
end
def jl:Value->Int
 | .int _ n=>n
 | _=>0
structure Chg where
 pg:Nat
 sl:Nat
 before:Option Rw
def zw (c:Chg):List Value:=[.int .i64 c.pg,.int .i64 c.sl,.string (za (zt c.before))]
def zY (l:List Chg):List Value:=l.flatMap zw
theorem zhR (l:List Chg):(zY l).length=l.length*3:=by
 induction l with
 | nil=>rfl
 | cons x l ih=>simp only [zY,List.flatMap_cons,List.length_append,List.length_cons] at ih ⊢;rw [ih];simp only [zw,List.length_cons,List.length_nil];omega
theorem chgs_snoc (l:List Chg) (x:Chg):zY (l++[x])=zY l++zw x:=by simp [zY]
theorem zgc (l:List Chg) (k:Nat):zY (l.take k)=(zY l).take (k*3):=by
 induction l generalizing k with
 | nil=>simp [zY]
 | cons x l ih =>
  cases k with
  | zero=>simp [zY]
  | succ k =>
   have h3:(zw x).length=3:=rfl
   rw [List.take_succ_cons]
   show zw x++zY (l.take k)=(zw x++zY l).take _
   rw [ih,List.take_append,h3,show (k+1)*3-3=k*3 by omega,List.take_of_length_le (l:=zw x) (by rw [h3];omega)]
theorem chgs_at:∀ (l:List Chg) (k:Nat) (x:Chg),l[k]?=some x->∀ j,j<3->(zY l)[k*3+j]?=(zw x)[j]?
 | [],k,x,h,_,_=>by simp at h
 | y::l,0,x,h,j,hj=>by
  simp at h;subst h
  show (zw y++zY l)[0*3+j]?=_
  rw [List.getElem?_append_left (by show _<3;omega)];simp
 | y::l,k+1,x,h,j,hj=>by
  simp at h
  have:=chgs_at l k x h j hj
  show (zw y++zY l)[(k+1)*3+j]?=_
  rw [List.getElem?_append_right (by show 3<=_;omega),<- this]
  congr 1
  show (k+1)*3+j-3=_
  omega
structure Tx where
 list:List Chg
 saves:List Nat
 ops:Nat
structure Tx.ok (x:Tx):Prop where
 n8:x.ops<=8
 len:x.list.length<=x.ops
 s4:x.saves.length<=4
 chg:∀ c,c∈x.list->c.pg<6/\c.sl<5/\qX c.before
structure vn (w:World) (T:Nat) (x:Tx) (G:Nat->Prop):Prop where
 ex:∃ lv sv,w.heap[T]?=some (.cells #[lv,sv,.int .i64 x.ops] 208 (0,0))/\w.ownsRow 0 150 3 lv x.list.length (zY x.list)/\w.ownsRow 0 3 1 sv x.saves.length (Zx x.saves)/\(∀ k,lv.ownBlock=some k->G k)/\∀ k,sv.ownBlock=some k->G k
 gT:G T
 lt:∀ k,G k->k<w.heap.size
 tag:∀ k,G k->qp w k∈[208,150,3]
theorem vn.same {w w':World} {T:Nat} {x:Tx} {G:Nat->Prop} (h:vn w T x G) (hs:∀ k,G k->w'.heap[k]?=w.heap[k]?) (hz:w.heap.size<=w'.heap.size):vn w' T x G:=by
 obtain ⟨lv,sv,h1,h2,h3,h4,h5⟩:=h.ex
 exact ⟨⟨lv,sv,(hs T h.gT).trans h1,zi h2 fun k hk=>hs k (h4 k hk),zi h3 fun k hk=>hs k (h5 k hk),h4,h5⟩,h.gT,fun k hk=>Nat.lt_of_lt_of_le (h.lt k hk) hz,fun k hk=>by rw [jm (hs k hk)];exact h.tag k hk⟩
theorem vn.below {w w':World} {T:Nat} {x:Tx} {G:Nat->Prop} (h:vn w T x G) (hb:Below w.heap.size w w'):vn w' T x G:=h.same (fun k hk=>hb.block k (h.lt k hk)) hb.size
theorem own_ne {w:World} {B e s n X t:Nat} {v:Value} {xs:List Value} {C:Array Value} (h:w.ownsRow B e s v n xs) (hX:w.heap[X]?=some (.cells C t (0,0))) (ht:e≠t):v.ownBlock≠some X:=fun hk=>by
 have:=own_tag h hk;rw [zc hX] at this;omega
theorem zew {w:World} {B e s n B' e' s' n':Nat} {v v':Value} {xs xs':List Value} (h:w.ownsRow B e s v n xs) (h':w.ownsRow B' e' s' v' n' xs') (ht:e≠e') {k:Nat} (hk:v.ownBlock=some k):v'.ownBlock≠some k:=fun hk'=>by
 have h1:=own_tag h hk
 have h2:=own_tag h' hk'
 omega
theorem vn.set0 {w w1:World} {T:Nat} {x:Tx} {G:Nat->Prop} (h:vn w T x G) {lv sv v':Value} {l':List Chg} (hT:w.heap[T]?=some (.cells #[lv,sv,.int .i64 x.ops] 208 (0,0)))
  (h1:w.ownsRow 0 150 3 lv x.list.length (zY x.list)) (h2:w.ownsRow 0 3 1 sv x.saves.length (Zx x.saves)) (h3:∀ k,lv.ownBlock=some k->G k) (h4:∀ k,sv.ownBlock=some k->G k)
  (hg:w.grownBy w1 lv.ownBlock) (hown:w1.ownsRow 0 150 3 v' l'.length (zY l')) (hat:v'.ownBlock=lv.ownBlock∨v'.ownBlock=some w.heap.size∨v'.ownBlock=none) :
  ∃ G',vn (w1.setCell ⟨T,0,none⟩ v') T { x with list:=l' } G'/\zr G w (w1.setCell ⟨T,0,none⟩ v')/\qh w G G':=by
 have hT1:=zX hT hg (own_ne h1 hT (by decide))
 have hs1:w1.ownsRow 0 3 1 sv x.saves.length (Zx x.saves):=zi h2 fun k hk=>hg.block k (h2.lt k hk).2 (fun e=>zew h2 h1 (by decide) hk e.symm)
 have hvT:=own_ne hown hT1 (by decide)
 have hsT:=own_ne hs1 hT1 (by decide)
 have hat2:∀ k,v'.ownBlock=some k->G k∨w.heap.size<=k:=fun k hk=>by
  rcases hat with e | e | e
  ·exact .inl (h3 k (e ▸ hk))
  ·rw [e] at hk;injection hk with hk;exact .inr (by omega)
  ·rw [e] at hk;cases hk
 refine ⟨fun k=>k=T∨sv.ownBlock=some k∨v'.ownBlock=some k,⟨⟨v',sv,?_,own_set1 hown hvT _ _,own_set1 hs1 hsT _ _,fun k hk=>.inr (.inr hk),fun k hk=>.inr (.inl hk)⟩,.inl rfl,?_,?_⟩,?_,?_⟩
 ·rw [heap_setCell_same _ _ 0 _ _ _ hT1];rfl
 ·rintro k (rfl | hk | hk)
  ·have:=zd hT1;simpa using this
  ·have:=(hs1.lt k hk).2;simpa using this
  ·have:=(hown.lt k hk).2;simpa using this
 ·rintro k (rfl | hk | hk)
  ·rw [zc (heap_setCell_same _ _ 0 _ _ _ hT1)];simp
  ·rw [jm (heap_setCell_other _ _ _ _ (fun e=>hsT (by rw [hk];exact congrArg some e))),own_tag hs1 hk];simp
  ·rw [jm (heap_setCell_other _ _ _ _ (fun e=>hvT (by rw [hk];exact congrArg some e))),own_tag hown hk];simp
 ·exact ((zr.refl G w).grown hg fun k hk=>.inl (h3 k hk)).set (p:=⟨T,0,none⟩) (.inl h.gT) _
 ·rintro k (rfl | hk | hk)
  ·exact .inl h.gT
  ·exact .inl (h4 k hk)
  ·exact hat2 k hk
theorem vn.setOps {w:World} {T:Nat} {x:Tx} {G:Nat->Prop} (h:vn w T x G) (n:Nat):vn (w.setCell ⟨T,2,none⟩ (.int .i64 n)) T { x with ops:=n } G/\zr G w (w.setCell ⟨T,2,none⟩ (.int .i64 n)):=by
 obtain ⟨lv,sv,h1,h2,h3,h4,h5⟩:=h.ex
 have h2T:=own_ne h2 h1 (by decide)
 have h3T:=own_ne h3 h1 (by decide)
 refine ⟨⟨⟨lv,sv,?_,own_set1 h2 h2T _ _,own_set1 h3 h3T _ _,h4,h5⟩,h.gT,fun k hk=>by have:=h.lt k hk;simpa using this,fun k hk=>?_⟩,(zr.refl G w).set (p:=⟨T,2,none⟩) (.inl h.gT) _⟩
 ·rw [heap_setCell_same _ _ 2 _ _ _ h1];rfl
 ·by_cases e:k=T
  ·subst e;rw [zc (heap_setCell_same _ _ 2 _ _ _ h1)];simp
  ·rw [jm (heap_setCell_other _ _ _ _ e)];exact h.tag k hk
theorem zjF (T:Nat) (x:Tx) (G:Nat->Prop) (w:World) (h:vn w T x G) :
  Calls Tryz.prog 89 #[.pointer (some ⟨T,0,none⟩)] w fun e w'=>e=.returned (.bool (decide (8<=x.ops)))/\w'=w:=by
 obtain ⟨lv,sv,h1,_⟩:=h.ex
 have k2:=(cell_of_row w T 2 _ _ _ h1).trans (show _=some (Value.int .i64 x.ops) from rfl)
 clear h h1
 go_enter Tryz.func89,Tryz.ntmps89
 go_wp2
 go_ret
 refine ⟨?_,rfl⟩
 show Ending.returned (.bool (decide ((8:Int)<=(x.ops:Int))))=_
 rw [show decide ((8:Int)<=(x.ops:Int))=decide (8<=x.ops) from decide_eq_decide.2 ⟨fun h=>by omega,fun h=>by omega⟩]
theorem zcO (T:Nat) (x:Tx) (G:Nat->Prop) (w:World) (h:vn w T x G) :
  Calls Tryz.prog 94 #[.pointer (some ⟨T,0,none⟩)] w fun e w'=>e=.returned (.int .i64 x.list.length)/\w'=w:=by
 obtain ⟨lv,sv,h1,h2,_⟩:=h.ex
 obtain ⟨A,c,rfl⟩:=own_slice h2
 have k0:=(cell_of_row w T 0 _ _ _ h1).trans (show _=some (Value.slice A x.list.length c) from rfl)
 clear h h1 h2
 go_enter Tryz.func94,Tryz.ntmps94
 go_wp2
 go_ret
 exact ⟨rfl,rfl⟩
end Go.Proofs.YtechnoogjhohfaaGreat
