import Derived.Test.YtechnoogjhohfaaGreatM25
import Derived.LoopN
set_option maxRecDepth 100000
set_option maxHeartbeats 6400000
set_option linter.unusedVariables false
set_option linter.unusedSimpArgs false
namespace Go.Proofs.YtechnoogjhohfaaGreat
open Go.RowKit Go.Lib
open YtechnoogjhohfaaGreatW
section
variable {bz:Nat->Prop}
theorem zm.c3 {w w':World} {F':Nat->Prop} {cur cur':Nat->Nat->List UInt8} {a:Va} {b:Vb} {s:St} (h:zm w a b cur s) (hs:∀ x,zca a b s x->w'.heap[x]?=w.heap[x]?) (z:w.heap.size<=w'.heap.size) (L:jn w' a.D F' cur') (D:∀ q,1<=q->cur' a.r q=cur a.r q):zm w' a { b with F:=F' } cur' s:=by refine ⟨(hs _ (.inl rfl)).trans h.row,?_,own_same h.N fun x u=>hs x (.inr (.inr (.inr (.inl u)))),h.aq.same (hs _ (.inl rfl)) (fun i x u=>hs x (.inr (.inr (.inr (.inr (.inl ⟨i,u⟩)))))) z,h.lk.same (hs _ (.inr (.inl rfl))) (fun x u=>hs x (.inr (.inr (.inl u)))) z,h.cz⟩;refine ⟨h.sto.ab.same fun x u=>hs x (.inr (.inr (.inr (.inr (.inr (.inr u)))))),h.sto.bg.same (fun x u=>hs x (.inr (.inr (.inr (.inr (.inr (.inl u))))))) z,L,h.sto.on.congr (fun q E _=>D q E) h.sto.cl,?_,h.sto.r4,h.sto.cl,h.sto.cx,h.sto.len,h.sto.di,h.sto.cu,h.sto.cm⟩;intro n R i O;rw [D _ (by omega)];exact h.sto.e8 n R i O
end
end Go.Proofs.YtechnoogjhohfaaGreat
namespace Go.Proofs.YtechnoogjhohfaaGreat
theorem zhL {K V:Type} [DecidableEq K] {l:List (K × V)} {x:K} {v:V} {p:K × V} (h:p∈aput l x v):p=(x,v)∨p∈l:=by
 unfold aput at h;split at h
 ·obtain ⟨q,u,rfl⟩:=List.mem_map.1 h;split
  ·exact .inl rfl
  ·exact .inr u
 ·rcases ja.1 h with h | h
  ·exact .inr h
  ·exact .inl (List.mem_singleton.1 h)
def uo (M:Lk):Prop:=WF M/\∀ p,p∈M->∀ q,q∈p.2->q.1=(1:Int)
theorem uo.nil:uo []:=⟨WF.nil,fun p h=>by cases h⟩
theorem uo.d6 {M:Lk} (h:uo M) (n:Nm):∀ q,q∈qB M n->q.1=(1:Int):=fun q u=>by
 unfold qB at u;cases e:zW M n with
 | none=>rw [e] at u;cases u
 | some L=>rw [e] at u;exact h.2 _ (yd e) q u
theorem uo.hm {M:Lk} (h:uo M) (n:Nm) {o:Int} (u:o≠1):hm M n o=0:=by
 by_cases e:Go.Proofs.YtechnoogjhohfaaGreat.hm M n o=0
 ·exact e
 ·exact absurd (h.d6 n (o,Go.Proofs.YtechnoogjhohfaaGreat.hm M n o) ((zkl h.1).2 ⟨rfl,e⟩)) u
theorem uo.takeM {M:Lk} (h:uo M) (n:Nm) {D:Int} (E:D≠0):uo (takeM M 1 n D):=by
 refine ⟨h.1.takeM 1 n E,fun p z q u=>?_⟩;rcases zhL z with rfl | z
 ·rcases zhL u with rfl | u
  ·rfl
  ·exact h.d6 n q u
 ·exact h.2 p z q u
theorem uo.dropM {M:Lk} (h:uo M) (u:Int):uo (dropM M u):=by refine ⟨h.1.dropM u,fun p z q L=>?_⟩;obtain ⟨E,_⟩:=List.mem_filter.1 z;obtain ⟨O,D,rfl⟩:=List.mem_map.1 E;exact h.2 O D q (List.filter_sublist.subset L)
theorem uo.takeB {M:Lk} (h:uo M) (n:Nm) (u:Int):takeB M 1 n u=true:=(znf h.1 1 n u).2 fun o D z=>absurd (h.hm n D) z
theorem uo.keyB {M:Lk} (h:uo M) (t:Int) (k:ByteArray):keyB M 1 t k=true:=by unfold Go.Proofs.YtechnoogjhohfaaGreat.keyB;rw [h.takeB,(h.takeM (zY t) (by decide)).takeB];rfl
theorem uo.keyS {M:Lk} (h:uo M) (t:Int) (k:ByteArray):uo (keyS M 1 t k):=by unfold Go.Proofs.YtechnoogjhohfaaGreat.keyS;rw [if_pos (h.keyB t k)];exact (h.takeM _ (by decide)).takeM _ (by decide)
structure Qy (rs:List zS):Prop where
 ok:∀ x,x∈rs->x.ok
 k7:∀ x,x∈rs->x.kind≠7
 done:∀ i,uk rs i=⟨[],false⟩
theorem Qy.lsr {rs:List zS} (h:Qy rs) (i:Nat):lsr rs i=⟨[],false⟩:=by
 unfold Go.Proofs.YtechnoogjhohfaaGreat.lsr;split
 ·exact h.done i
 ·rfl
theorem ziN:∀ (es:List (Nat × zS)),(∀ e,e∈es->e.2.kind≠7)->vu es=0:=by
 intro es;have:∀ (es:List (Nat × zS)) (a:Nat),(∀ e,e∈es->e.2.kind≠7)->es.foldl (fun a e=>if e.2.kind=7 then zbR e.1 e.2.Y else a) a=a:=by
  intro es;induction es with
  | nil=>intros;rfl
  | cons e es ih =>intro a h;rw [jP,if_neg (h e (jj ..))];exact ih a fun u z=>h u (ji _ z)
 exact this es 0
theorem zaI (u:Nat):∀ (rs:List zS) (n:Nat) (e:Nat × zS),e∈qK u n rs->e.2∈rs
 | [],n,e,h=>by cases h
 | x::rs,n,e,h=>by
  rcases zO.1 h with rfl | h
  ·exact jj ..
  ·exact ji _ (zaI u rs _ e h)
theorem Qy.h9 {rs:List zS} (h:Qy rs) (u n:Nat):vu (qK u n rs)=0:=ziN _ fun e z=>h.k7 _ (zaI u rs n e z)
theorem Qy.check:Qy [qE]:=by
 refine ⟨fun x h=>?_,fun x h=>?_,fun i=>?_⟩
 ·rw [List.mem_singleton.1 h];exact YQ
 ·rw [List.mem_singleton.1 h];decide
 ·unfold uk;simp only [jP,List.foldl_nil];split
  ·unfold JH.step;simp [qE]
  ·rfl
theorem zgf (a b:List zS) (i:Nat):uk (a++b) i=b.foldl (fun s x=>if x.txn=i/\x.kind≠7 then s.step x else s) (uk a i):=by simp [uk]
theorem ziI {u:List It} (hs:qe u) (r:Rw):(∀ x,yY u r=some x->x∈u/\Zw x.rw r)/\(yY u r=none->∀ x,x∈u->¬ Zw x.rw r):=by
 have D:=JX hs r;have E:∀ x,u[jv u r]?=some x->ju u (jv u r) r=(Zl x.rw r == 0):=fun x z=>by unfold ju;rw [z]
 unfold yY;cases e:u[jv u r]? with
 | none =>refine ⟨fun x z=>(by cases z),fun _=>D.2.1 (by unfold ju;rw [e])⟩
 | some y =>
  simp only;by_cases h0:Zl y.rw r=0
  ·rw [if_pos h0];refine ⟨fun x z=>?_,fun h=>by cases h⟩;injection z with z;subst z;exact ⟨zC e,(KZ _ _).1 h0⟩
  ·rw [if_neg h0];refine ⟨fun x z=>(by cases z),fun _=>D.2.1 (by rw [E y e];simpa using h0)⟩
theorem zap {ts:qC} {nbs:Nat->Nat} (U:∀ k,yC (zF ts) k=[]):∀ (g k:Nat) {s:zn},qX s->uI s (zZ ts nbs g k s).1/\(∀ n i,(zZ ts nbs g k s).2=some (n,i)->k<=n/\n<k+g/\i<5/\(s.E n).ap[i]?=some none)/\((zZ ts nbs g k s).2=none->∀ n i:Nat,k<=n->n<k+g->i<5->¬ (s.E n).ap[i]?=some none)
 | 0,k,s,h=>⟨.refl h,fun n i e=>(by cases e),fun _ n i u D=>by omega⟩
 | g+1,k,s,h=>by
  have u:=JE h (nbs k) k;have R:∀ (l:List (Option Rw)) (f j:Nat),(∀ i,vG l [] f j=some i->j<=i/\i<j+f/\l[i]?=some none)/\(vG l [] f j=none->∀ i:Nat,j<=i->i<j+f->¬ l[i]?=some none):=by
   intro l f;induction f with
   | zero=>intro j;exact ⟨fun i e=>(by simp [vG] at e),fun _ i u D=>by omega⟩
   | succ f ih =>
    intro j;by_cases e:l[j]?=some none
    ·rw [zbl e (by simp)];refine ⟨fun i z=>?_,fun h=>by cases h⟩;injection z with z;subst z;exact ⟨za _,by omega,e⟩
    ·rw [Ki (fun h=>e h.1)];refine ⟨fun i z=>?_,fun h i u D=>?_⟩
     ·have:=(ih (j+1)).1 i z;exact ⟨by omega,by omega,this.2.2⟩
     ·by_cases E:i=j
      ·subst E;exact e
      ·exact (ih (j+1)).2 h i (by omega) (by omega)
  have O:QG (s.E k) (yC (zF ts) k)=vG (s.E k).ap [] 5 0:=by rw [U k];rfl
  cases e:QG (s.E k) (yC (zF ts) k) with
  | some i =>rw [zao e];rw [O] at e;have:=(R _ _ _).1 i e;refine ⟨u,fun n j L=>?_,fun h=>by cases h⟩;injection L with L;cases L;exact ⟨za _,by omega,by omega,this.2.2⟩
  | none =>
   rw [zan e];rw [O] at e;have D:=(R _ _ _).2 e;obtain ⟨X,Y,Z⟩:=zap U g (k+1) u.ok;refine ⟨u.trans X,fun n i z=>?_,fun hn n i h6 h7 h8=>?_⟩
   ·have:=Y n i z;rw [u.E] at this;exact ⟨by omega,by omega,this.2.2.1,this.2.2.2⟩
   ·by_cases E:n=k
    ·subst E;exact D i (zU _) (by omega)
    ·have:=Z hn n i (by omega) (by omega) h8;rw [u.E] at this;exact this
structure zka (s:St) (rs:List zS) (m:Nat) (C:Nat->List (Option Rw)):Prop extends zoP s rs m C where
 dz:Qy rs
 i6:Qy (rs.take m)
 lk:uo s.lk
def one (T:Nat) (x:Tx):qC:=[none,some (T,x),none,none]
theorem zbY (T:Nat) (x:Tx):zF (one T x)=[(1,T,x)]:=rfl
end Go.Proofs.YtechnoogjhohfaaGreat
namespace Go.Proofs.YtechnoogjhohfaaGreat
open Go.RowKit Go.Lib
open YtechnoogjhohfaaGreatW
section
variable {bz:Nat->Prop}
end
end Go.Proofs.YtechnoogjhohfaaGreat
