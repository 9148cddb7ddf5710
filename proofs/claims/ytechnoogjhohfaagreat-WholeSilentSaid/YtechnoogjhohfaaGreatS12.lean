import Derived.Test.YtechnoogjhohfaaGreatS11
import Derived.Test.YtechnoogjhohfaaGreatS8
import Derived.Sort.Walk0
set_option maxRecDepth 100000
set_option maxHeartbeats 6400000
set_option linter.unusedVariables false
set_option linter.unusedSimpArgs false
namespace Go.Proofs.YtechnoogjhohfaaGreat
open Go.RowKit Go.Lib
open YtechnoogjhohfaaGreatW Go.Proofs.Tryz Go.Proofs.YtechnoogjhohfaaGreat.Tryz
def yi (a b:Rw):Prop:=a.t<b.t∨a.t=b.t/\a.k<b.k
theorem QZ (a b:Rw):Yc a b=true↔yi a b:=by
 unfold Yc QW yi;have e:∀ x y:List UInt8,Op.bytesLess (zb x).toList (zb y).toList=decide (x<y):=fun x y=>by rw [ByteArray.toList_eq,ByteArray.toList_eq];exact bytesLess_eq x y
 rw [e];have h:((a.t:Int)=(b.t:Int))↔a.t=b.t:=by omega
 simp [h]
theorem YE {a b c:Rw} (h:yi a b) (k:yi b c):yi a c:=by
 unfold yi at *;rcases h with h | ⟨D,u⟩<;>rcases k with k | ⟨E,z⟩
 ·exact .inl (by omega)
 ·exact .inl (by omega)
 ·exact .inl (by omega)
 ·exact .inr ⟨by omega,List.lt_trans u z⟩
theorem ZH (a:Rw):¬ yi a a:=by
 unfold yi;rintro (h | ⟨_,h⟩)
 ·omega
 ·exact List.lt_irrefl _ h
theorem Yu (a b:Rw):Zh a b<0↔yi a b:=by
 rw [<- QZ];unfold Zh KI Yc;split
 ·rename_i h;simp [h]
 ·rename_i h;split<;>simp [h]
def qe (l:List It):Prop:=l.Pairwise fun a b=>yi a.rw b.rw
def jv (l:List It) (r:Rw):Nat:=(l.takeWhile fun x=>Yc x.rw r).length
theorem Cut.bq:∀ {l:List It} {r:Rw},qe l->Cut l r (jv l r)
 | [],r,_=>⟨za _,fun k x _ h=>by simp at h,fun k x _ h=>by simp at h⟩
 | y::l,r,h=>by
  obtain ⟨O,R⟩:=List.pairwise_cons.1 h;have D:=Cut.bq (r:=r) (show qe l from R);unfold jv at D ⊢;by_cases z:Yc y.rw r=true
  ·rw [List.takeWhile_cons_of_pos (p:=fun x:It=>Yc x.rw r) z,qc];refine ⟨by rw [qc];have:=D.le;omega,fun k x E u=>?_,fun k x E u=>?_⟩
   ·cases k with
    | zero=>simp at u;subst u;exact (Yu _ _).2 ((QZ _ _).1 z)
    | succ k=>exact D.lo k x (by omega) (by simpa using u)
   ·cases k with
    | zero=>omega
    | succ k=>exact D.hi k x (by omega) (by simpa using u)
  ·rw [List.takeWhile_cons_of_neg (p:=fun x:It=>Yc x.rw r) z];refine ⟨zT _,fun k x E _=>by simp at E,fun k x _ u=>?_⟩;rw [Yu];intro L;apply z;rw [QZ];cases k with
   | zero=>simp at u;subst u;exact L
   | succ k =>have hm:x∈l:=zC (by simpa using u);exact YE (O x hm) L
theorem zfO (a b:Rw) (z:¬ yi a b) (D:¬ (a.t=b.t/\a.k=b.k)):yi b a:=by
 unfold yi at *;by_cases u:a.t=b.t
 ·refine .inr ⟨u.symm,?_⟩;have E:¬ a.k<b.k:=fun h=>z (.inr ⟨u,h⟩);have L:a.k≠b.k:=fun h=>D ⟨u,h⟩;exact Std.lt_of_le_of_ne E (fun e=>L e.symm)
 ·exact .inl (by
   have:¬ a.t<b.t:=fun h=>z (.inl h);omega)
theorem KY (a b:Rw):Zh a b=0↔a.t=b.t/\a.k=b.k:=by
 have u:=QZ a b;have z:=QZ b a;unfold Zh KI;unfold Yc at u z;constructor
 ·intro h;split at h
  ·cases h
  ·rename_i L;split at h
   ·cases h
   ·rename_i O;by_cases D:a.t=b.t/\a.k=b.k
    ·exact D
    ·exact absurd (z.2 (zfO a b (fun R=>L (u.2 R)) D)) O
 ·rintro ⟨Y,E⟩;have U:¬ yi a b:=fun h=>by
   rcases h with h | ⟨_,h⟩
   ·omega
   ·rw [E] at h;exact List.lt_irrefl _ h
  have X:¬ yi b a:=fun h=>by
   rcases h with h | ⟨_,h⟩
   ·omega
   ·rw [E] at h;exact List.lt_irrefl _ h
  rw [if_neg (fun h=>U (u.1 h)),if_neg (fun h=>X (z.1 h))]
theorem qe.rem {l:List It} {m:Nat} {r:Rw} (h:qe l):qe (QY l m r):=by
 unfold QY;split
 ·exact List.Pairwise.sublist (List.eraseIdx_sublist l m) h
 ·exact h
theorem ziy {a b c:Rw} (h:a.t=b.t/\a.k=b.k) (u:yi c a):yi c b:=by unfold yi at *;rw [<- h.1,<- h.2];exact u
theorem KN {a b c:Rw} (h:a.t=b.t/\a.k=b.k) (u:yi a c):yi b c:=by unfold yi at *;rw [<- h.1,<- h.2];exact u
theorem qe.put {l:List It} {m:Nat} {x:It} (a1:qe l) (Y:Cut l x.rw m):qe (uC l m x):=by
 have O:∀ y∈l.take m,yi y.rw x.rw:=fun y hy=>by
  obtain ⟨k,D⟩:=List.getElem?_of_mem hy;rw [List.getElem?_take] at D;split at D
  ·rename_i a5;exact (Yu _ _).1 (Y.lo k y a5 D)
  ·cases D
 have a7:qe (l.take m++l.drop m):=by rw [List.take_append_drop];exact a1
 obtain ⟨R,U,X⟩:=List.pairwise_append.1 a7;unfold uC;cases hd:l.drop m with
 | nil =>
  have hn:l[m]?=none:=by
   have:l.length<=m:=by have:=congrArg List.length hd;rw [qI] at this;simp at this;omega
   exact List.getElem?_eq_none this
  rw [show ju l m x.rw=false by simp [ju,hn]];simp only [Bool.false_eq_true,if_false,Zf,hd];exact List.pairwise_append.2 ⟨R,List.pairwise_singleton _ _,fun a h b hb=>by simp at hb;subst hb;exact O a h⟩
 | cons z zs =>
  have E:l[m]?=some z:=by have:=List.getElem?_drop (xs:=l) (i:=m) (j:=0);rw [hd] at this;simpa using this.symm
  rw [hd] at U X;obtain ⟨a0,a8⟩:=List.pairwise_cons.1 U;have a6:¬ yi z.rw x.rw:=fun L=>Y.hi m z (za _) E ((Yu _ _).2 L);by_cases u:Zh z.rw x.rw=0
  ·have a4:=(KY _ _).1 u;have hm:m<l.length:=(zr.1 E).1;rw [show ju l m x.rw=true by simp [ju,E,u]];simp only [if_true];unfold qe;rw [List.set_eq_take_append_cons_drop,if_pos hm];have a3:l.drop (m+1)=zs:=by rw [<- List.drop_drop,hd];rfl
   rw [a3];refine List.pairwise_append.2 ⟨R,List.pairwise_cons.2 ⟨fun b hb=>KN a4 (a0 b hb),a8⟩,fun a h b hb=>?_⟩;rcases zO.1 hb with rfl | hb
   ·exact O a h
   ·exact X a h b (jh _ hb)
  ·rw [show ju l m x.rw=false by simp [ju,E,u]];simp only [Bool.false_eq_true,if_false,Zf,hd];have Z:yi x.rw z.rw:=zfO _ _ a6 (fun L=>u ((KY _ _).2 L));refine List.pairwise_append.2 ⟨R,List.pairwise_cons.2 ⟨fun b hb=>?_,U⟩,fun a h b hb=>?_⟩
   ·rcases zO.1 hb with rfl | hb
    ·exact Z
    ·exact YE Z (a0 b hb)
   ·rcases zO.1 hb with rfl | hb
    ·exact O a h
    ·exact X a h b hb
theorem zoV (X o:Nat) (v:Value) (u:List It) (w:World) (h:Yy w X o v u) :
  zc 101 #[.pointer (some ⟨X,o,none⟩)] w fun e w'=>e=.returned (.int .i64 u.length)/\w'=w:=by
 have z:=h.cell;obtain ⟨A,c,rfl⟩:=own_slice h.N;clear h;go_enter func101,ntmps101;go_wp2_with fail;go_ret;exact ⟨rfl,rfl⟩
section
section
variable {P:Program}
end
end
def jF:Value->Int
 | .int _ n=>n
 | _=>0
theorem zpE (X o:Nat) (t:Int) (f z:ByteArray) (w:World) :
  zc 145 #[.pointer (some ⟨X,o,none⟩),.int .i64 t,.string f,.string z] w fun e w'=>e=.returned (.func (.func 157) #[] #[.pointer (some ⟨w.heap.size,0,none⟩),.pointer (some ⟨w.heap.size+1,0,none⟩),.pointer (some ⟨w.heap.size+2,0,none⟩),.pointer (some ⟨w.heap.size+3,0,none⟩)]) /\
   w'.heap[w.heap.size]?=some (.cells #[.pointer (some ⟨X,o,none⟩)] 186 (0,0))/\w'.heap[w.heap.size+1]?=some (.cells #[.int .i64 t] 3 (0,0))/\w'.heap[w.heap.size+2]?=some (.cells #[.string f] 9 (0,0))/\w'.heap[w.heap.size+3]?=some (.cells #[.string z] 9 (0,0))/\zd w w':=by
 go_enter func145,ntmps145;go_wp2_with fail;go_ret;refine ⟨rfl,?_,?_,?_,?_,B_alloc (B_alloc (B_alloc (B_alloc (zf _ _) _) _) _) _⟩
 ·exact zw (zw (zw (zo _ _ rfl) _) _) _
 ·exact zw (zw (zo _ _ (by simp)) _) _
 ·exact zw (zo _ _ (by simp)) _
 ·exact zo _ _ (by simp)
structure Chg where
 pg:Nat
 sl:Nat
 aa:Option Rw
def zS (c:Chg):List Value:=[.int .i64 c.pg,.int .i64 c.sl,.string (zb (zM c.aa))]
def qD (l:List Chg):List Value:=l.flatMap zS
theorem zmX (l:List Chg):(qD l).length=l.length*3:=by
 induction l with
 | nil=>rfl
 | cons x l h=>simp only [qD,qC,zl,qc] at h ⊢;rw [h];simp only [zS,qc,jr];omega
theorem chgs_snoc (l:List Chg) (x:Chg):qD (l++[x])=qD l++zS x:=by simp [qD]
theorem zlk (l:List Chg) (k:Nat):qD (l.take k)=(qD l).take (k*3):=by
 induction l generalizing k with
 | nil=>simp [qD]
 | cons x l ih =>
  cases k with
  | zero=>simp [qD]
  | succ k =>have h:(zS x).length=3:=rfl;rw [List.take_succ_cons];show zS x++qD (l.take k)=(zS x++qD l).take _;rw [ih,List.take_append,h,show (k+1)*3-3=k*3 by omega,jG (l:=zS x) (by rw [h];omega)]
theorem chgs_at:∀ (l:List Chg) (k:Nat) (x:Chg),l[k]?=some x->∀ j,j<3->(qD l)[k*3+j]?=(zS x)[j]?
 | [],k,x,h,_,_=>by simp at h
 | y::l,0,x,h,j,hj=>by simp at h;subst h;show (zS y++qD l)[0*3+j]?=_;rw [vZ (by show _<3;omega)];simp
 | y::l,k+1,x,h,j,hj=>by simp at h;have:=chgs_at l k x h j hj;show (zS y++qD l)[(k+1)*3+j]?=_;rw [vg (by show 3<=_;omega),<- this];congr 1;show (k+1)*3+j-3=_;omega
structure Tx where
 I:List Chg
 ag:List Nat
 ops:Nat
structure Tx.ok (x:Tx):Prop where
 n8:x.ops<=8
 len:x.I.length<=x.ops
 s4:x.ag.length<=4
 al:∀ c,c∈x.I->c.pg<6/\c.sl<5/\js c.aa
structure vz (w:World) (T:Nat) (x:Tx) (G:Nat->Prop):Prop where
 ex:∃ lv sv,w.heap[T]?=some (.cells #[lv,sv,.int .i64 x.ops] 208 (0,0))/\w.ownsRow 0 150 3 lv x.I.length (qD x.I)/\w.ownsRow 0 3 1 sv x.ag.length (uO x.ag)/\(∀ k,lv.ownBlock=some k->G k)/\∀ k,sv.ownBlock=some k->G k
 gT:G T
 lt:∀ k,G k->k<w.heap.size
 a3:∀ k,G k->qP w k∈[208,150,3]
theorem vz.same {w w':World} {T:Nat} {x:Tx} {G:Nat->Prop} (h:vz w T x G) (hs:∀ k,G k->w'.heap[k]?=w.heap[k]?) (R:w.heap.size<=w'.heap.size):vz w' T x G:=by obtain ⟨U,X,E,L,O,z,D⟩:=h.ex;exact ⟨⟨U,X,(hs T h.gT).trans E,own_same L fun k u=>hs k (z k u),own_same O fun k u=>hs k (D k u),z,D⟩,h.gT,fun k u=>qg (h.lt k u) R,fun k u=>by rw [jW (hs k u)];exact h.a3 k u⟩
theorem vz.below {w w':World} {T:Nat} {x:Tx} {G:Nat->Prop} (h:vz w T x G) (hb:zd w w'):vz w' T x G:=h.same (fun k u=>hb.block k (h.lt k u)) hb.size
theorem own_ne {w:World} {B e s n X t:Nat} {v:Value} {xs:List Value} {C:Array Value} (h:w.ownsRow B e s v n xs) (u:w.heap[X]?=some (.cells C t (0,0))) (D:e≠t):v.ownBlock≠some X:=fun z=>by have:=own_tag h z;rw [zh u] at this;omega
theorem zeZ {w:World} {B e s n z u s' O:Nat} {v v':Value} {xs R:List Value} (h:w.ownsRow B e s v n xs) (D:w.ownsRow z u s' v' O R) (Y:e≠u) {k:Nat} (E:v.ownBlock=some k):v'.ownBlock≠some k:=fun L=>by have U:=own_tag h E;have X:=own_tag D L;omega
theorem vz.hw {w w1:World} {T:Nat} {x:Tx} {G:Nat->Prop} (h:vz w T x G) {E z v':Value} {l':List Chg} (Z:w.heap[T]?=some (.cells #[E,z,.int .i64 x.ops] 208 (0,0)))
  (X:w.ownsRow 0 150 3 E x.I.length (qD x.I)) (R:w.ownsRow 0 3 1 z x.ag.length (uO x.ag)) (Y:∀ k,E.ownBlock=some k->G k) (h4:∀ k,z.ownBlock=some k->G k)
  (U:w.grownBy w1 E.ownBlock) (L:w1.ownsRow 0 150 3 v' l'.length (qD l')) (a3:v'.ownBlock=E.ownBlock∨v'.ownBlock=some w.heap.size∨v'.ownBlock=none) :
  ∃ G',vz (w1.setCell ⟨T,0,none⟩ v') T { x with I:=l' } G'/\zA G w (w1.setCell ⟨T,0,none⟩ v')/\qN w G G':=by
 have D:=qq Z U (own_ne X Z (by decide));have O:w1.ownsRow 0 3 1 z x.ag.length (uO x.ag):=own_same R fun k u=>U.block k (R.lt k u).2 (fun e=>zeZ R X (by decide) u e.symm);have a1:=own_ne L D (by decide);have a0:=own_ne O D (by decide);have a4:∀ k,v'.ownBlock=some k->G k∨w.heap.size<=k:=fun k u=>by
  rcases a3 with e | e | e
  ·exact .inl (Y k (e ▸ u))
  ·rw [e] at u;injection u with u;exact .inr (by omega)
  ·rw [e] at u;cases u
 refine ⟨fun k=>k=T∨z.ownBlock=some k∨v'.ownBlock=some k,⟨⟨v',z,?_,own_set1 L a1 _ _,own_set1 O a0 _ _,fun k u=>.inr (.inr u),fun k u=>.inr (.inl u)⟩,.inl rfl,?_,?_⟩,?_,?_⟩
 ·rw [zB _ _ 0 _ _ _ D];rfl
 ·rintro k (rfl | u | u)
  ·have:=zi D;simpa using this
  ·have:=(O.lt k u).2;simpa using this
  ·have:=(L.lt k u).2;simpa using this
 ·rintro k (rfl | u | u)
  ·rw [zh (zB _ _ 0 _ _ _ D)];simp
  ·rw [jW (zt _ _ _ _ (fun e=>a0 (by rw [u];exact congrArg some e))),own_tag O u];simp
  ·rw [jW (zt _ _ _ _ (fun e=>a1 (by rw [u];exact congrArg some e))),own_tag L u];simp
 ·exact ((zA.refl G w).grown U fun k u=>.inl (Y k u)).set (p:=⟨T,0,none⟩) (.inl h.gT) _
 ·rintro k (rfl | u | u)
  ·exact .inl h.gT
  ·exact .inl (h4 k u)
  ·exact a4 k u
theorem vz.h2 {w w1:World} {T:Nat} {x:Tx} {G:Nat->Prop} (h:vz w T x G) {z E v':Value} {l':List Nat} (Z:w.heap[T]?=some (.cells #[z,E,.int .i64 x.ops] 208 (0,0)))
  (R:w.ownsRow 0 150 3 z x.I.length (qD x.I)) (X:w.ownsRow 0 3 1 E x.ag.length (uO x.ag)) (h3:∀ k,z.ownBlock=some k->G k) (Y:∀ k,E.ownBlock=some k->G k)
  (U:w.grownBy w1 E.ownBlock) (L:w1.ownsRow 0 3 1 v' l'.length (uO l')) (a3:v'.ownBlock=E.ownBlock∨v'.ownBlock=some w.heap.size∨v'.ownBlock=none) :
  ∃ G',vz (w1.setCell ⟨T,1,none⟩ v') T { x with ag:=l' } G'/\zA G w (w1.setCell ⟨T,1,none⟩ v')/\qN w G G':=by
 have D:=qq Z U (own_ne X Z (by decide));have O:w1.ownsRow 0 150 3 z x.I.length (qD x.I):=own_same R fun k u=>U.block k (R.lt k u).2 (fun e=>zeZ R X (by decide) u e.symm);have a1:=own_ne L D (by decide);have a0:=own_ne O D (by decide);have a4:∀ k,v'.ownBlock=some k->G k∨w.heap.size<=k:=fun k u=>by
  rcases a3 with e | e | e
  ·exact .inl (Y k (e ▸ u))
  ·rw [e] at u;injection u with u;exact .inr (by omega)
  ·rw [e] at u;cases u
 refine ⟨fun k=>k=T∨z.ownBlock=some k∨v'.ownBlock=some k,⟨⟨z,v',?_,own_set1 O a0 _ _,own_set1 L a1 _ _,fun k u=>.inr (.inl u),fun k u=>.inr (.inr u)⟩,.inl rfl,?_,?_⟩,?_,?_⟩
 ·rw [zB _ _ 1 _ _ _ D];rfl
 ·rintro k (rfl | u | u)
  ·have:=zi D;simpa using this
  ·have:=(O.lt k u).2;simpa using this
  ·have:=(L.lt k u).2;simpa using this
 ·rintro k (rfl | u | u)
  ·rw [zh (zB _ _ 1 _ _ _ D)];simp
  ·rw [jW (zt _ _ _ _ (fun e=>a0 (by rw [u];exact congrArg some e))),own_tag O u];simp
  ·rw [jW (zt _ _ _ _ (fun e=>a1 (by rw [u];exact congrArg some e))),own_tag L u];simp
 ·exact ((zA.refl G w).grown U fun k u=>.inl (Y k u)).set (p:=⟨T,1,none⟩) (.inl h.gT) _
 ·rintro k (rfl | u | u)
  ·exact .inl h.gT
  ·exact .inl (h3 k u)
  ·exact a4 k u
theorem vz.h1 {w:World} {T:Nat} {x:Tx} {G:Nat->Prop} (h:vz w T x G) (n:Nat):vz (w.setCell ⟨T,2,none⟩ (.int .i64 n)) T { x with ops:=n } G/\zA G w (w.setCell ⟨T,2,none⟩ (.int .i64 n)):=by
 obtain ⟨X,Y,u,D,E,R,U⟩:=h.ex;have L:=own_ne D u (by decide);have O:=own_ne E u (by decide);refine ⟨⟨⟨X,Y,?_,own_set1 D L _ _,own_set1 E O _ _,R,U⟩,h.gT,fun k z=>by have:=h.lt k z;simpa using this,fun k z=>?_⟩,(zA.refl G w).set (p:=⟨T,2,none⟩) (.inl h.gT) _⟩
 ·rw [zB _ _ 2 _ _ _ u];rfl
 ·by_cases e:k=T
  ·subst e;rw [zh (zB _ _ 2 _ _ _ u)];simp
  ·rw [jW (zt _ _ _ _ e)];exact h.a3 k z
theorem zji (T:Nat) (x:Tx) (G:Nat->Prop) (w:World) (h:vz w T x G) :
  zc 89 #[.pointer (some ⟨T,0,none⟩)] w fun e w'=>e=.returned (.bool (decide (8<=x.ops)))/\w'=w:=by
 obtain ⟨D,E,u,_⟩:=h.ex;have z:=xV (Value.int .i64 x.ops) 2 u;clear h u;go_enter func89,ntmps89;go_wp2;go_ret;refine ⟨?_,rfl⟩;show Ending.returned (.bool (decide ((8:Int)<=(x.ops:Int))))=_;rw [show decide ((8:Int)<=(x.ops:Int))=decide (8<=x.ops) from decide_eq_decide.2 ⟨fun h=>by omega,fun h=>by omega⟩]
theorem zdY (T:Nat) (x:Tx) (G:Nat->Prop) (w:World) (h:vz w T x G) :
  zc 94 #[.pointer (some ⟨T,0,none⟩)] w fun e w'=>e=.returned (.int .i64 x.I.length)/\w'=w:=by
 obtain ⟨E,L,u,z,_⟩:=h.ex;obtain ⟨A,c,rfl⟩:=own_slice z;have D:=xV (Value.slice A x.I.length c) 0 u;clear h u z;go_enter func94,ntmps94;go_wp2;go_ret;exact ⟨rfl,rfl⟩
end Go.Proofs.YtechnoogjhohfaaGreat
