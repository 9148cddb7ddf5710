import Derived.Test.YtechnoogjhohfaaGreatS25
import Derived.LoopN
set_option maxRecDepth 100000
set_option maxHeartbeats 6400000
set_option linter.unusedVariables false
set_option linter.unusedSimpArgs false
namespace Go.Proofs.YtechnoogjhohfaaGreat
open Go.RowKit Go.Lib
open YtechnoogjhohfaaGreatW
section
variable {bz:Nat->Prop}
theorem zm.c4 {w w':World} {F':Nat->Prop} {cur cur':Nat->Nat->List UInt8} {a:Va} {b:Vb} {s:St} (h:zm w a b cur s) (hs:∀ x,zbV a b s x->w'.heap[x]?=w.heap[x]?) (z:w.heap.size<=w'.heap.size) (L:jk w' a.D F' cur') (D:∀ q,1<=q->cur' a.r q=cur a.r q):zm w' a { b with F:=F' } cur' s:=by refine ⟨(hs _ (.inl rfl)).trans h.row,?_,own_same h.N fun x u=>hs x (.inr (.inr (.inr (.inl u)))),h.aq.same (hs _ (.inl rfl)) (fun i x u=>hs x (.inr (.inr (.inr (.inr (.inl ⟨i,u⟩)))))) z,h.lk.same (hs _ (.inr (.inl rfl))) (fun x u=>hs x (.inr (.inr (.inl u)))) z,h.c8⟩;refine ⟨h.sto.ab.same fun x u=>hs x (.inr (.inr (.inr (.inr (.inr (.inr u)))))),h.sto.bg.same (fun x u=>hs x (.inr (.inr (.inr (.inr (.inr (.inl u))))))) z,L,h.sto.on.congr (fun q E _=>D q E) h.sto.cm,?_,h.sto.r4,h.sto.cm,h.sto.c3,h.sto.len,h.sto.dm,h.sto.cx,h.sto.co⟩;intro n R i O;rw [D _ (by omega)];exact h.sto.fa n R i O
end
end Go.Proofs.YtechnoogjhohfaaGreat
namespace Go.Proofs.YtechnoogjhohfaaGreat
theorem zhu {K V:Type} [DecidableEq K] {l:List (K × V)} {x:K} {v:V} {p:K × V} (h:p∈aput l x v):p=(x,v)∨p∈l:=by
 unfold aput at h;split at h
 ·obtain ⟨q,u,rfl⟩:=List.mem_map.1 h;split
  ·exact .inl rfl
  ·exact .inr u
 ·rcases ja.1 h with h | h
  ·exact .inr h
  ·exact .inl (List.mem_singleton.1 h)
def uk (M:Lk):Prop:=WF M/\∀ p,p∈M->∀ q,q∈p.2->q.1=(1:Int)
theorem uk.nil:uk []:=⟨WF.nil,fun p h=>by cases h⟩
theorem uk.dz {M:Lk} (h:uk M) (n:Nm):∀ q,q∈qA M n->q.1=(1:Int):=fun q u=>by
 unfold qA at u;cases e:zU M n with
 | none=>rw [e] at u;cases u
 | some L=>rw [e] at u;exact h.2 _ (ya e) q u
theorem uk.hm {M:Lk} (h:uk M) (n:Nm) {o:Int} (u:o≠1):hm M n o=0:=by
 by_cases e:Go.Proofs.YtechnoogjhohfaaGreat.hm M n o=0
 ·exact e
 ·exact absurd (h.dz n (o,Go.Proofs.YtechnoogjhohfaaGreat.hm M n o) ((zjQ h.1).2 ⟨rfl,e⟩)) u
theorem uk.takeM {M:Lk} (h:uk M) (n:Nm) {D:Int} (E:D≠0):uk (takeM M 1 n D):=by
 refine ⟨h.1.takeM 1 n E,fun p z q u=>?_⟩;rcases zhu z with rfl | z
 ·rcases zhu u with rfl | u
  ·rfl
  ·exact h.dz n q u
 ·exact h.2 p z q u
theorem uk.dropM {M:Lk} (h:uk M) (u:Int):uk (dropM M u):=by refine ⟨h.1.dropM u,fun p z q L=>?_⟩;obtain ⟨E,_⟩:=List.mem_filter.1 z;obtain ⟨O,D,rfl⟩:=List.mem_map.1 E;exact h.2 O D q (List.filter_sublist.subset L)
theorem uk.takeB {M:Lk} (h:uk M) (n:Nm) (u:Int):takeB M 1 n u=true:=(zmH h.1 1 n u).2 fun o D z=>absurd (h.hm n D) z
theorem uk.keyB {M:Lk} (h:uk M) (t:Int) (k:ByteArray):keyB M 1 t k=true:=by unfold Go.Proofs.YtechnoogjhohfaaGreat.keyB;rw [h.takeB,(h.takeM (zW t) (by decide)).takeB];rfl
theorem uk.keyS {M:Lk} (h:uk M) (t:Int) (k:ByteArray):uk (keyS M 1 t k):=by unfold Go.Proofs.YtechnoogjhohfaaGreat.keyS;rw [if_pos (h.keyB t k)];exact (h.takeM _ (by decide)).takeM _ (by decide)
structure Qs (rs:List zQ):Prop where
 ok:∀ x,x∈rs->x.ok
 k7:∀ x,x∈rs->x.kind≠7
 done:∀ i,uh rs i=⟨[],false⟩
theorem Qs.lsr {rs:List zQ} (h:Qs rs) (i:Nat):lsr rs i=⟨[],false⟩:=by
 unfold Go.Proofs.YtechnoogjhohfaaGreat.lsr;split
 ·exact h.done i
 ·rfl
theorem ziv:∀ (es:List (Nat × zQ)),(∀ e,e∈es->e.2.kind≠7)->vr es=0:=by
 intro es;have:∀ (es:List (Nat × zQ)) (a:Nat),(∀ e,e∈es->e.2.kind≠7)->es.foldl (fun a e=>if e.2.kind=7 then zbN e.1 e.2.Y else a) a=a:=by
  intro es;induction es with
  | nil=>intros;rfl
  | cons e es ih =>intro a h;rw [jM,if_neg (h e (ji ..))];exact ih a fun u z=>h u (jh _ z)
 exact this es 0
theorem zaD (u:Nat):∀ (rs:List zQ) (n:Nat) (e:Nat × zQ),e∈qL u n rs->e.2∈rs
 | [],n,e,h=>by cases h
 | x::rs,n,e,h=>by
  rcases zO.1 h with rfl | h
  ·exact ji ..
  ·exact jh _ (zaD u rs _ e h)
theorem Qs.ie {rs:List zQ} (h:Qs rs) (u n:Nat):vr (qL u n rs)=0:=ziv _ fun e z=>h.k7 _ (zaD u rs n e z)
theorem Qs.check:Qs [qF]:=by
 refine ⟨fun x h=>?_,fun x h=>?_,fun i=>?_⟩
 ·rw [List.mem_singleton.1 h];exact YN
 ·rw [List.mem_singleton.1 h];decide
 ·unfold uh;simp only [jM,List.foldl_nil];split
  ·unfold JC.step;simp [qF]
  ·rfl
theorem zfQ (a b:List zQ) (i:Nat):uh (a++b) i=b.foldl (fun s x=>if x.txn=i/\x.kind≠7 then s.step x else s) (uh a i):=by simp [uh]
theorem ziq {u:List It} (hs:qe u) (r:Rw):(∀ x,yX u r=some x->x∈u/\Zp x.rw r)/\(yX u r=none->∀ x,x∈u->¬ Zp x.rw r):=by
 have D:=JT hs r;have E:∀ x,u[jv u r]?=some x->ju u (jv u r) r=(Zh x.rw r == 0):=fun x z=>by unfold ju;rw [z]
 unfold yX;cases e:u[jv u r]? with
 | none =>refine ⟨fun x z=>(by cases z),fun _=>D.2.1 (by unfold ju;rw [e])⟩
 | some y =>
  simp only;by_cases h0:Zh y.rw r=0
  ·rw [if_pos h0];refine ⟨fun x z=>?_,fun h=>by cases h⟩;injection z with z;subst z;exact ⟨zC e,(KY _ _).1 h0⟩
  ·rw [if_neg h0];refine ⟨fun x z=>(by cases z),fun _=>D.2.1 (by rw [E y e];simpa using h0)⟩
theorem zal {ts:qE} {nbs:Nat->Nat} (U:∀ k,yB (zF ts) k=[]):∀ (g k:Nat) {s:zn},qX s->uF s (zY ts nbs g k s).1/\(∀ n i,(zY ts nbs g k s).2=some (n,i)->k<=n/\n<k+g/\i<5/\(s.E n).ap[i]?=some none)/\((zY ts nbs g k s).2=none->∀ n i:Nat,k<=n->n<k+g->i<5->¬ (s.E n).ap[i]?=some none)
 | 0,k,s,h=>⟨.refl h,fun n i e=>(by cases e),fun _ n i u D=>by omega⟩
 | g+1,k,s,h=>by
  have u:=Jz h (nbs k) k;have R:∀ (l:List (Option Rw)) (f j:Nat),(∀ i,vD l [] f j=some i->j<=i/\i<j+f/\l[i]?=some none)/\(vD l [] f j=none->∀ i:Nat,j<=i->i<j+f->¬ l[i]?=some none):=by
   intro l f;induction f with
   | zero=>intro j;exact ⟨fun i e=>(by simp [vD] at e),fun _ i u D=>by omega⟩
   | succ f ih =>
    intro j;by_cases e:l[j]?=some none
    ·rw [zbg e (by simp)];refine ⟨fun i z=>?_,fun h=>by cases h⟩;injection z with z;subst z;exact ⟨za _,by omega,e⟩
    ·rw [Ke (fun h=>e h.1)];refine ⟨fun i z=>?_,fun h i u D=>?_⟩
     ·have:=(ih (j+1)).1 i z;exact ⟨by omega,by omega,this.2.2⟩
     ·by_cases E:i=j
      ·subst E;exact e
      ·exact (ih (j+1)).2 h i (by omega) (by omega)
  have O:QA (s.E k) (yB (zF ts) k)=vD (s.E k).ap [] 5 0:=by rw [U k];rfl
  cases e:QA (s.E k) (yB (zF ts) k) with
  | some i =>rw [zak e];rw [O] at e;have:=(R _ _ _).1 i e;refine ⟨u,fun n j L=>?_,fun h=>by cases h⟩;injection L with L;cases L;exact ⟨za _,by omega,by omega,this.2.2⟩
  | none =>
   rw [zaj e];rw [O] at e;have D:=(R _ _ _).2 e;obtain ⟨X,Y,Z⟩:=zal U g (k+1) u.ok;refine ⟨u.trans X,fun n i z=>?_,fun hn n i h6 h7 h8=>?_⟩
   ·have:=Y n i z;rw [u.E] at this;exact ⟨by omega,by omega,this.2.2.1,this.2.2.2⟩
   ·by_cases E:n=k
    ·subst E;exact D i (zT _) (by omega)
    ·have:=Z hn n i (by omega) (by omega) h8;rw [u.E] at this;exact this
structure zjE (s:St) (rs:List zQ) (m:Nat) (C:Nat->List (Option Rw)):Prop extends zor s rs m C where
 dx:Qs rs
 i7:Qs (rs.take m)
 lk:uk s.lk
def one (T:Nat) (x:Tx):qE:=[none,some (T,x),none,none]
theorem zbT (T:Nat) (x:Tx):zF (one T x)=[(1,T,x)]:=rfl
end Go.Proofs.YtechnoogjhohfaaGreat
namespace Go.Proofs.YtechnoogjhohfaaGreat
open Go.RowKit Go.Lib
open YtechnoogjhohfaaGreatW
section
variable {bz:Nat->Prop}
end
end Go.Proofs.YtechnoogjhohfaaGreat
