import Derived.Test.YtechnoogjhohfaaGreatS17
import Derived.DeepKeys4
import Derived.StillTailTactics
import Derived.Test.YtechnoogjhohfaaGreatRows
import Derived.WalkLawsBesides
import Derived.WalkSpells
set_option maxRecDepth 100000
set_option maxHeartbeats 6400000
set_option linter.unusedVariables false
set_option linter.unusedSimpArgs false
namespace Go.Proofs.YtechnoogjhohfaaGreat
open Go.RowKit Go.Maps
abbrev Nm:=Int × ByteArray × Bool
abbrev yC:=List (Int × Int)
def uo (x:Int):Value:=.int .i64 x
def iok (x:Int):Prop:=(Lit.int .i64 x).wf=true
theorem Qo:Yh Tryz.prog 3 uo iok:=⟨int_keyed Tryz.underlying3,fun x u=>⟨_,keyOf_int_mk Tryz.underlying3 u⟩,fun x y h=>by unfold uo at h;injection h⟩
theorem GB (w:World):(zeroValue 3).run Tryz.prog w=.ok (uo 0) w:=by kernel_rfl
theorem iok_of {x:Int} (h:-9223372036854775808<=x/\x<=9223372036854775807):iok x:=WalkArith.wf_i64 h
def Zb (n:Nm):Value:=.agg #[.int .i64 n.1,.string n.2.1,.bool n.2.2]
def KQ (n:Nm):Prop:=iok n.1/\n.2.1.size<=maxLen
def KT (o:Option Nat):Value:=.map o
theorem zoU:laidOutB Tryz.prog=true:=by kernel_rfl
theorem zoz:235<Tryz.prog.types.size:=of_decide_eq_true (by kernel_rfl)
theorem zqt:Keyed Tryz.prog 235:=Keyed.of_law (Go.deep_law_laid zoU (m:=3) (by omega) zoz (by kernel_rfl) (by kernel_rfl))
theorem zpa {P : Program} {k a b c : TypeId} {fs : Array Field} {f0 f1 f2 : Field} (hk : P.underlying k = some (.struct fs)) (hfs : fs = #[f0, f1, f2]) (e0 : f0.type = a /\ f0.offset = 0 /\ (f0.name != "_") = true) (e1 : f1.type = b /\ f1.offset = 1 /\ (f1.name != "_") = true) (e2 : f2.type = c /\ f2.offset = 2 /\ (f2.name != "_") = true)
  (kt:P.keyType k=true) (hc:P.cellsOf k=3) (ha:P.underlying a=some (.int .i64)) (hb:P.underlying b=some .string) (hcc:P.underlying c=some .bool) (ca:P.cellsOf a=1) (cb:P.cellsOf b=1) (cc:P.cellsOf c=1) (hsz:∃ m,P.types.size=m+1)
  (n:Nm) (h1:(Lit.int .i64 n.1).wf=true) (h2:n.2.1.size<=maxLen):∃ l,keyOf P k (Zb n)=some l:=by
 obtain ⟨m,hm⟩:=hsz;subst hfs;obtain ⟨rfl,o0,n0⟩:=e0;obtain ⟨rfl,o1,n1⟩:=e1;obtain ⟨rfl,o2,n2⟩:=e2;refine ⟨.string (keyBytes [.int .i64 n.1,.string n.2.1.data.toList,.bool n.2.2]),?_⟩;simp only [bne_iff_ne,ne_eq] at n0 n1 n2;simp [keyOf,hk,kt,Zb,Value.formed,hc,hm,Value.cells,Program.keyLits,ha,hb,hcc,ca,cb,cc,h1,h2,o0,o1,o2,n0,n1,n2]
theorem zmE:∃ m,Tryz.prog.types.size=m+1:=⟨Tryz.prog.types.size-1,by have:=zoz;omega⟩
theorem zrp (n:Nm) (h:KQ n):∃ l,keyOf Tryz.prog 235 (Zb n)=some l :=
 zpa Tryz.underlying235 rfl ⟨rfl,rfl,by decide⟩ ⟨rfl,rfl,by decide⟩ ⟨rfl,rfl,by decide⟩ (by kernel_rfl) (by kernel_rfl) Tryz.underlying3 Tryz.underlying9 Tryz.underlying4 (by kernel_rfl) (by kernel_rfl) (by kernel_rfl) zmE n h.1 h.2
theorem GK:Yh Tryz.prog 235 Zb KQ:=⟨zqt,zrp,fun x y h=>by
 unfold Zb at h;obtain ⟨a,b,c⟩:=x;obtain ⟨u,z,D⟩:=y;simp at h;obtain ⟨rfl,rfl,rfl⟩:=h;rfl⟩
theorem zas (w:World):(zeroValue 137).run Tryz.prog w=.ok (KT none) w:=by kernel_rfl
abbrev Lk:=List (Nm × yC)
def qA (M:Lk) (n:Nm):yC:=(zU M n).getD []
def uZ (a b:Int):Int:=if a=0∨a=b then b else if b=0 then a else 3
def JS (a b:Int):Bool:=decide (a=b) && !decide (a=3)
def YM (h:yC) (z u:Int):Bool:=h.any fun p=>!decide (p.1=z) && !JS u p.2
def Zi (M:Lk) (u:Int) (n:Nm) (h:Int):Int:=uZ ((zU (qA M n) u).getD 0) h
def takeM (M:Lk) (h:Int) (n:Nm) (u:Int):Lk:=aput M n (aput (qA M n) h (Zi M h n u))
def dropM (M:Lk) (h:Int):Lk:=(M.map fun p=>(p.1,adel p.2 h)).filter fun p=>!p.2.isEmpty
theorem zgN (a b:Int) (w:World):Calls Tryz.prog 152 #[.int .i64 a,.int .i64 b] w fun e w'=>e=.returned (.int .i64 (uZ a b))/\w'=w:=by
 by_cases u:a=0
 ·have E:(a == 0)=true:=by simpa using u
  have e:uZ a b=b:=by unfold uZ;rw [if_pos (.inl u)]
  rw [e];clear u e;go_enter Tryz.func152,Tryz.ntmps152;go_wp2;go_ret;exact ⟨rfl,rfl⟩
 ·have E:(a == 0)=false:=by simpa using u
  by_cases z:a=b
  ·have L:(a == b)=true:=by simpa using z
   have e:uZ a b=b:=by unfold uZ;rw [if_pos (.inr z)]
   rw [e];clear u z e;go_enter Tryz.func152,Tryz.ntmps152;go_wp2;go_ret;exact ⟨rfl,rfl⟩
  ·have L:(a == b)=false:=by simpa using z
   by_cases D:b=0
   ·have O:(b == 0)=true:=by simpa using D
    have e:uZ a b=a:=by unfold uZ;rw [if_neg (fun h=>h.elim u z),if_pos D]
    rw [e];clear u z D e;go_enter Tryz.func152,Tryz.ntmps152;go_wp2;go_ret;exact ⟨rfl,rfl⟩
   ·have O:(b == 0)=false:=by simpa using D
    have e:uZ a b=3:=by unfold uZ;rw [if_neg (fun h=>h.elim u z),if_neg D]
    rw [e];clear u z D e;go_enter Tryz.func152,Tryz.ntmps152;go_wp2;go_ret;exact ⟨rfl,rfl⟩
theorem zhf (a b:Int) (w:World):Calls Tryz.prog 153 #[.int .i64 a,.int .i64 b] w fun e w'=>e=.returned (.bool (JS a b))/\w=w':=by
 by_cases h:a=b
 ·have z:(a == b)=true:=by simpa using h
  by_cases u:a=3
  ·have D:(a != 3)=false:=by simpa using u
   have e:JS a b=false:=by unfold JS;rw [decide_eq_true u];simp
   rw [e];clear h u e;go_enter Tryz.func153,Tryz.ntmps153;go_wp2;go_ret;exact ⟨rfl,rfl⟩
  ·have D:(a != 3)=true:=by simpa using u
   have e:JS a b=true:=by unfold JS;rw [decide_eq_true h,decide_eq_false u];rfl
   rw [e];clear h u e;go_enter Tryz.func153,Tryz.ntmps153;go_wp2;go_ret;exact ⟨rfl,rfl⟩
 ·have z:(a == b)=false:=by simpa using h
  have e:JS a b=false:=by unfold JS;rw [decide_eq_false h];rfl
  rw [e];clear h e;go_enter Tryz.func153,Tryz.ntmps153;go_wp2;go_ret;exact ⟨rfl,rfl⟩
section
theorem ZP {K V u:Type} [DecidableEq K] (g:V->u) (l:List (K × V)) (x:K):zU (l.map fun p=>(p.1,g p.2)) x=(zU l x).map g:=by
 induction l with
 | nil=>rfl
 | cons p l z=>rw [List.map_cons,yr,yr,z];by_cases h:p.1=x<;>simp [h]
theorem zmT {K V h:Type} [DecidableEq K] (g:V->h) (l:List (K × V)) (x:K):qT (l.map fun p=>(p.1,g p.2)) x=qT l x:=by rw [yF,yF,ZP];cases zU l x<;>rfl
theorem zdg {K V u:Type} [DecidableEq K] (g:V->u) (l:List (K × V)) (x:K) (v:V):aput (l.map fun p=>(p.1,g p.2)) x (g v)=(aput l x v).map fun p=>(p.1,g p.2):=by
 unfold aput;rw [zmT];by_cases h:qT l x=true
 ·rw [if_pos h,if_pos h,List.map_map,List.map_map];refine List.map_congr_left fun p _=>?_;simp only [Function.comp];by_cases z:p.1=x<;>simp [z]
 ·rw [if_neg h,if_neg h,List.map_append];rfl
theorem zdf {K V h:Type} [DecidableEq K] (g:V->h) (l:List (K × V)) (x:K):adel (l.map fun p=>(p.1,g p.2)) x=(adel l x).map fun p=>(p.1,g p.2):=by unfold adel;rw [List.filter_map];rfl
abbrev Tb:=List (Nm × (Nat × yC))
structure qh (w:World) (B b bm:Nat) (T:Tb):Prop where
 U:w.heap[b]?=some (.cells #[.map (some bm)] 222 (0,0))
 a8:qz w Zb KQ KT bm (T.map fun p=>(p.1,(fun q:Nat × yC=>some q.1) p.2))
 b3:∀ p∈T,qz w uo iok uo p.2.1 p.2.2
 base:∀ p∈T,B<=p.2.1
 apart:T.Pairwise fun p q=>p.2.1≠q.2.1
 dh:bm<B
 ek:b<B
 size:B<=w.heap.size
def zp (T:Tb):Lk:=T.map fun p=>(p.1,(fun q:Nat × yC=>q.2) p.2)
def zoB (w:World) (B b h:Nat) (M:Lk):Prop:=∃ T,qh w B b h T/\M=zp T
section
variable {w w':World} {B b bm:Nat} {T:Tb}
theorem qh.ne (h:qh w B b bm T):bm≠b:=by rintro rfl;obtain ⟨es,u,hb,_⟩:=h.a8;rw [h.U] at hb;cases hb
theorem qh.below (h:qh w B b bm T) (k:zd w w'):qh w' B b bm T :=
 ⟨(k.block b (qu.1 h.U).1).trans h.U,h.a8.below k h.a8.lt,fun p u=>(h.b3 p u).below k (h.b3 p u).lt,h.base,h.apart,h.dh,h.ek,zz h.size k.size⟩
theorem qh.ea (h:qh w B b bm T):yM T:=by have:=h.a8.apart;unfold yM at this ⊢;rw [List.pairwise_map] at this;exact this
theorem qh.get (h:qh w B b bm T) {n:Nm} {u:Nat} {l:yC} (z:zU T n=some (u,l)):qz w uo iok uo u l/\B<=u :=
 ⟨h.b3 _ (ya z),h.base _ (ya z)⟩
theorem Jg (T:Tb) (n:Nm):zU (zp T) n=(zU T n).map fun q=>q.2:=ZP _ T n
theorem Jf {T:Tb} {n:Nm} {h:Nat} {l:yC} (u:zU T n=some (h,l)):qA (zp T) n=l:=by unfold qA;rw [Jg,u];rfl
theorem YD {T:Tb} {n:Nm} (h:zU T n=none):qA (zp T) n=[]:=by unfold qA;rw [Jg,h];rfl
theorem qh.ch (h:qh w B b bm T) {n:Nm} {u:Nat} {l l':yC} (O:zU T n=some (u,l)) (t:zE (fun i=>i=u) w w') (hm:qz w' uo iok uo u l'):qh w' B b bm (aput T n (u,l')):=by
 have a9:=h.get O;have a8:¬ bm=u:=by have:=h.dh;omega
 have a6:¬ b=u:=by have:=h.ek;omega
 have Z:qT T n=true:=by rw [yF,O];rfl
 have b9:qz w' Zb KQ KT bm (T.map fun p=>(p.1,(fun q:Nat × yC=>some q.1) p.2)):=h.a8.bl t a8;have a1:(aput T n (u,l')).map (fun p=>(p.1,(fun q:Nat × yC=>some q.1) p.2))=T.map fun p=>(p.1,(fun q:Nat × yC=>some q.1) p.2):=by
  unfold aput;rw [if_pos Z,List.map_map];refine List.map_congr_left fun p E=>?_;simp only [Function.comp];by_cases e:p.1=n
  ·have:p=(n,(u,l)):=by have D:=Jt h.ea E;rw [e,O] at D;injection D with D;obtain ⟨p1,p2⟩:=p;simp only at e D;rw [e,<- D]
   rw [if_pos e,this]
  ·rw [if_neg e]
 have a0:∀ p∈aput T n (u,l'),p=(n,(u,l'))∨(p∈T/\p.1≠n):=by
  intro p E;unfold aput at E;rw [if_pos Z] at E;obtain ⟨q,hq,rfl⟩:=List.mem_map.1 E;by_cases e:q.1=n
  ·rw [if_pos e];exact .inl rfl
  ·rw [if_neg e];exact .inr ⟨hq,e⟩
 have a7:∀ p∈T,p.1≠n->p.2.1≠u:=by
  intro p E U e;have D:(n,(u,l))∈T:=ya O;have c0:=h.apart;have key:∀ {L:Tb},L.Pairwise (fun p q=>p.2.1≠q.2.1)->∀ x∈L,∀ y∈L,x.2.1=y.2.1->x=y:=by
   intro L hL;induction L with
   | nil=>intro x X;cases X
   | cons z L ih =>
    obtain ⟨hz,a5⟩:=List.pairwise_cons.1 hL;intro x X y hy Y;rcases zO.1 X with rfl | a3<;>rcases zO.1 hy with rfl | a4
    ·rfl
    ·exact absurd Y (hz y a4)
    ·exact absurd Y.symm (hz x a3)
    ·exact ih a5 x a3 y a4 Y
  have:=key c0 p E _ D e;exact U (by rw [this])
 refine ⟨(t.block b (qu.1 h.U).1 a6).trans h.U,by rw [a1];exact b9,?_,?_,?_,h.dh,h.ek,zz h.size t.size⟩
 ·intro p E;rcases a0 p E with rfl | ⟨R,U⟩
  ·exact hm
  ·exact (h.b3 p R).bl t (a7 p R U)
 ·intro p E;rcases a0 p E with rfl | ⟨R,_⟩
  ·exact a9.2
  ·exact h.base p R
 ·have e2:(aput T n (u,l')).map (fun p=>p.2.1)=T.map fun p=>p.2.1:=by
   have:=congrArg (List.map fun q:Nm × Option Nat=>q.2) a1;rw [List.map_map,List.map_map] at this;have h3:((aput T n (u,l')).map (fun p=>p.2.1)).map some=(T.map fun p=>p.2.1).map some:=by rw [List.map_map,List.map_map];exact this
   exact (List.map_inj_right (fun x y h=>by injection h)).1 h3
  have D:(T.map fun p=>p.2.1).Nodup:=by unfold List.Nodup;rw [List.pairwise_map];exact h.apart
  rw [<- e2] at D;unfold List.Nodup at D;rw [List.pairwise_map] at D;exact D
theorem qh.bp (h:qh w B b bm T) {n:Nm} (D:qT T n=false) {z:Nat} {l:yC} (U:w.heap.size<=z) (t:zE (fun i=>i=bm) w w') (hm:qz w' uo iok uo z l)
  (R:qz w' Zb KQ KT bm (aput (T.map fun p=>(p.1,(fun q:Nat × yC=>some q.1) p.2)) n (some z))):qh w' B b bm (aput T n (z,l)):=by
 have L:¬ b=bm:=fun e=>h.ne e.symm;have O:∀ p∈T,p.2.1<w.heap.size:=fun p u=>(h.b3 p u).lt;have X:=h.size;refine ⟨(t.block b (qu.1 h.U).1 L).trans h.U,?_,?_,?_,?_,h.dh,h.ek,zz h.size t.size⟩
 ·rw [<- zdg (fun q:Nat × yC=>some q.1)];exact R
 ·intro p u;rw [Yj _ D] at u;rcases ja.1 u with u | u
  ·exact (h.b3 p u).bl t (by have:=h.base p u;have:=h.dh;omega)
  ·simp at u;subst u;exact hm
 ·intro p u;rw [Yj _ D] at u;rcases ja.1 u with u | u
  ·exact h.base p u
  ·simp at u;subst u;show B<=z;omega
 ·rw [Yj _ D];refine List.pairwise_append.2 ⟨h.apart,by simp,?_⟩;intro p u q E;simp at E;subst E;have:=O p u;show p.2.1≠z;omega
end
theorem yq.cs {K V:Type} {f:K->Value} {E:K->Prop} {g:V->Value} {w:World} {b r:Nat} {l u:List (K × V)} (h:yq w f E g b r l u):w.rangeLeft b r=u.length:=by obtain ⟨es,O,U,R,L,hb,_,_,_,D,_,_,_,z,_⟩:=h;have:=congrArg List.length z;simp only [List.length_map,Array.length_toList] at this;simp only [World.rangeLeft,hb,D];exact this
theorem zae {K V:Type} [DecidableEq K] {l:List (K × V)} {p:K × V} (h:p∈l):(adel l p.1).length<l.length:=by unfold adel;exact List.length_filter_lt_length_iff_exists.2 ⟨p,h,by simp⟩
end
end Go.Proofs.YtechnoogjhohfaaGreat
