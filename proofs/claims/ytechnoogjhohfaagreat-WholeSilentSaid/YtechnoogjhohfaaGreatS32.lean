import Derived.Test.YtechnoogjhohfaaGreatS27
import Derived.Test.YtechnoogjhohfaaGreatS29
import Derived.Test.YtechnoogjhohfaaGreatS30
import Derived.Test.YtechnoogjhohfaaGreatS8
set_option maxRecDepth 100000
set_option maxHeartbeats 6400000
set_option linter.unusedVariables false
set_option linter.unusedSimpArgs false
namespace Go.Proofs.YtechnoogjhohfaaGreat
open Go.RowKit Go.Lib
open YtechnoogjhohfaaGreatW
structure ZE (its:List It) (C:Nat->List (Option Rw)):Prop where
 so:qe its
 mem:∀ x,x∈its->x.pg<6/\x.sl<5/\(C x.pg)[x.sl]?=some (some x.rw)
theorem ZE.nil (C:Nat->List (Option Rw)):ZE [] C:=⟨.nil,fun x h=>by cases h⟩
theorem ZE.congr {D:List It} {C u:Nat->List (Option Rw)} (h:ZE D C) (e:∀ n,n<6->u n=C n):ZE D u :=
 ⟨h.so,fun x O=>by obtain ⟨z,E,L⟩:=h.mem x O;exact ⟨z,E,by rw [e _ z];exact L⟩⟩
theorem ZE.he {z:List It} {C:Nat->List (Option Rw)} (h:ZE z C):z.length<=30:=by
 have:=zhw 30 (codes z) (by
  unfold codes;rw [List.nodup_iff_pairwise_ne,List.pairwise_map];refine List.Pairwise.imp_of_mem ?_ h.so;intro a b R hb D e;obtain ⟨E,a2,u⟩:=h.mem a R;obtain ⟨b1,b2,b3⟩:=h.mem b hb;have L:a.pg=b.pg:=by omega
  have O:a.sl=b.sl:=by omega
  rw [L,O,b3] at u;injection u with u;injection u with u;rw [u] at D;exact ZH _ D) fun x U=>by
  obtain ⟨y,X,rfl⟩:=List.mem_map.1 U;obtain ⟨E,a2,_⟩:=h.mem y X;omega
 simpa [codes] using this
theorem ZE.al {D:List It} {C:Nat->List (Option Rw)} (h:ZE D C) {n i:Nat} {o:Option Rw} (hn:n<6) (hi:i<5) (hl:(C n).length=5):ZE (ug (jQ D (((C n)[i]?).getD none)) o n i) (zZ C n ((C n).set i o)):=by
 have U:i<(C n).length:=by omega
 have R:(C n)[i]?=some (C n)[i]:=zX U;have O:qe (jQ D (((C n)[i]?).getD none))/\∀ x,x∈jQ D (((C n)[i]?).getD none)->x∈D/\¬ (x.pg=n/\x.sl=i):=by
  rw [R];cases e:(C n)[i] with
  | none =>refine ⟨h.so,fun x u=>⟨u,?_⟩⟩;rintro ⟨E,L⟩;have z:=(h.mem x u).2.2;rw [E,L,R,e] at z;cases z
  | some b =>refine ⟨qe.rem h.so,fun x u=>?_⟩;obtain ⟨u,hs⟩:=(zfS h.so _ x).1 u;refine ⟨u,fun ⟨E,L⟩=>hs ?_⟩;have z:=(h.mem x u).2.2;rw [E,L,R,e] at z;injection z with z;injection z with z;rw [<- z];exact ⟨rfl,rfl⟩
 have hC:∀ x:It,¬ (x.pg=n/\x.sl=i)->((zZ C n ((C n).set i o)) x.pg)[x.sl]?=(C x.pg)[x.sl]?:=fun x a0=>by
  by_cases e:x.pg=n
  ·rw [e,zk,qY (fun Y=>a0 ⟨e,Y.symm⟩)]
  ·rw [zy _ _ e]
 have X:∀ x,x∈jQ D (((C n)[i]?).getD none)->x.pg<6/\x.sl<5/\((zZ C n ((C n).set i o)) x.pg)[x.sl]?=some (some x.rw):=fun x u=>by obtain ⟨E,L⟩:=O.2 x u;obtain ⟨z,Z,h5⟩:=h.mem x E;exact ⟨z,Z,by rw [hC x L];exact h5⟩
 cases o with
 | none=>exact ⟨O.1,X⟩
 | some b =>
  refine ⟨qe.put O.1 (Cut.bq O.1),fun x u=>?_⟩;rcases (YS O.1 ⟨b,n,i⟩ x).1 u with rfl | ⟨u,_⟩
  ·exact ⟨hn,hi,by simp only;rw [zk,qw U]⟩
  ·exact X x u
theorem ZE.e0 {C:Nat->List (Option Rw)} (n:Nat) (D:n<6) (E:(C n).length=5):∀ (L:List (Nat × Rw)) {its:List It},ZE its C->(∀ p,p∈L->(C n)[p.1]?=some (some p.2))->ZE (yl n L its) C
 | [],its,h,_=>h
 | p::L,its,h,hL=>by
  have z:=hL p (ji ..);have R:=(zr.1 z).1;refine ZE.e0 n D E L ⟨qe.put h.so (Cut.bq h.so),fun x u=>?_⟩ fun q O=>hL q (jh _ O);rcases (YS h.so ⟨p.2,n,p.1⟩ x).1 u with rfl | ⟨u,_⟩
  ·exact ⟨D,by simp only;omega,z⟩
  ·exact h.mem x u
theorem ZE.pg {s:zn} {z:List It} (h:ZE z fun n=>(s.E n).ap):∀ y,y∈z->y.pg<6/\y.sl<5:=fun y u=>⟨(h.mem y u).1,(h.mem y u).2.1⟩
structure yc (s:St):Prop where
 ab:qX s.sto
 ok:∀ n,n<6->(s.sto.E n).ok
 cl:ZE s.N fun n=>(s.sto.E n).ap
 J:s.sto.J<4294967296
 Q:s.sto.Q.length<=14336
 g0:0<s.sto.J
theorem yc.bx {s s':St} (h:yc s) (hs:uF s.sto s'.sto) (u:s'.N=s.N):yc s' :=
 ⟨hs.ok,fun n z=>by rw [hs.E];exact h.ok n z,by rw [u];exact h.cl.congr fun n _=>by simp only [hs.E],by rw [hs.J];exact h.J,by rw [hs.Q];exact h.Q,by rw [hs.J];exact h.g0⟩
theorem yc.same {s s':St} (h:yc s) (hs:s'.sto=s.sto) (u:s'.N=s.N):yc s':=⟨by rw [hs];exact h.ab,by rw [hs];exact h.ok,by rw [hs,u];exact h.cl,by rw [hs];exact h.J,by rw [hs];exact h.Q,by rw [hs];exact h.g0⟩
theorem yc.gb {s:St} (h:yc s) {r nb kind txn n slot:Nat} {o:Option Rw} (u:n<6) (z:slot<5) (E:js o) (D:kind=3∨kind=4) (L:txn<=255):(yk r kind txn n slot (s.sto.get nb n) (s.sto.E n) o).ok:=zbz (h.ok n u) D L u z E
theorem yc.al {s:St} (h:yc s) {r nb kind txn n slot:Nat} {o:Option Rw} (z:n<6) (D:slot<5) (E:js o) (O:kind=3∨kind=4) (U:txn<=255) (hfit:s.sto.Q.length+395<=14336):yc (s.al r nb kind txn n slot o):=by
 have u:=Ym h.ab r nb kind txn n slot o;have R:((s.sto.al r nb kind txn n slot o).E n).ap=(s.sto.E n).ap.set slot o:=by rw [u.E];rfl
 refine ⟨u.ok,fun m hm=>?_,?_,by show (s.sto.al r nb kind txn n slot o).J < _;rw [u.J];exact h.J,?_,by show 0<(s.sto.al r nb kind txn n slot o).J;rw [u.J];exact h.g0⟩
 ·show ((s.sto.al r nb kind txn n slot o).E m).ok;by_cases e:m=n
  ·subst e;rw [u.E];refine zfm (h.ok m hm) E ?_ ?_
   ·unfold jj;omega
   ·unfold jj;have:=h.J;have:=h.Q;refine Nat.lt_of_le_of_lt (Nat.add_le_add_right (Nat.add_le_add (Nat.mul_le_mul_right 1048576 (Nat.le_of_lt h.J)) h.Q) 1) (by decide)
  ·rw [u.b9 m e];exact h.ok m hm
 ·have L:=h.cl.al (o:=o) z D (h.ok n z).b5;refine ZE.congr L fun m _=>?_;show ((s.sto.al r nb kind txn n slot o).E m).ap=_;by_cases e:m=n
  ·subst e;rw [zk,R]
  ·rw [zy _ _ e,u.b9 m e]
 ·show (s.sto.al r nb kind txn n slot o).Q.length<=_;rw [u.Q,zl];have:=yU (h.gb (r:=r) (nb:=nb) z D E O U);omega
theorem yc.au {s:St} (h:yc s) {x:zQ} (z:x.ok) (hfit:s.sto.Q.length+(qG x).length<=14336):yc { s with sto:=s.sto.au x }:=by
 have hpg:∀ n,(s.sto.au x).E n=s.sto.E n:=fun _=>rfl;refine ⟨⟨h.ab.a5,h.ab.hand,h.ab.cu,h.ab.ce,?_⟩,fun n u=>h.ok n u,h.cl,h.J,?_,h.g0⟩
 ·show s.sto.av<=(s.sto.Q++qG x).length;have:=h.ab.av;rw [zl];omega
 ·show (s.sto.Q++qG x).length<=_;rw [zl];omega
theorem yc.bo {s:St} (h:yc s):yc { s with sto:=s.sto.bo }:=⟨⟨h.ab.a5,h.ab.hand,h.ab.cu,h.ab.ce,za _⟩,h.ok,h.cl,h.J,h.Q,h.g0⟩
theorem zev {ts:qE} {nbs:Nat->Nat}:∀ (g k:Nat) {s:zn},qX s->uF s (zY ts nbs g k s).1
 | 0,_,s,h=>uF.refl h
 | g+1,k,s,h=>by
  unfold zY;have u:=Jz h (nbs k) k;split
  ·exact u
  ·exact u.trans (zev g (k+1) u.ok)
def yN (l:List Chg):Nat:=if l=[] then 0 else (l.length+1)*395
theorem zaB (l:List Chg):yN l<=(l.length+1)*395:=by
 unfold yN;split
 ·exact zT _
 ·exact za _
theorem zlp:yN []=0:=rfl
theorem zjI (l:List Chg) (c:Chg):yN l+395<=yN (l++[c]):=by
 have h:yN (l++[c])=(l.length+2)*395:=by unfold yN;rw [if_neg (by simp),zl,List.length_singleton]
 have u:=zaB l;rw [h];omega
def jI (ts:qE) (i:Nat):List Chg:=match ts[i]? with
 | some (some (_,x))=>x.I
 | _=>[]
def zav (rs:List zQ):Prop:=(zq rs).length+(yN (lsr rs 1).l+yN (lsr rs 2).l+yN (lsr rs 3).l)<=14336/\∀ i,(lsr rs i).l.length<=8
theorem zav.ik {rs:List zQ} (h:zav rs):(zq rs).length+(yP rs 1+yP rs 2+yP rs 3)<=14336:=by
 have key:∀ i,yP rs i<=yN (lsr rs i).l:=fun i=>by
  unfold yP yN;split
  ·exact zT _
  ·rename_i u;rw [if_neg (fun e=>u (.inr e))];exact za _
 have z:=key 1;have D:=key 2;have E:=key 3;have L:=h.1;omega
theorem zeV (rs:List zQ) (i:Nat) (h:1<=i) (u:i<=3):lsr rs i=uh rs i:=if_pos ⟨h,u⟩
theorem Gq {rs:List zQ} {x:zQ} {i:Nat} (h:¬ (x.txn=i/\x.kind≠7)):lsr (rs++[x]) i=lsr rs i:=by
 unfold lsr;split
 ·rw [JV,if_neg h]
 ·rfl
theorem zdr {rs:List zQ} {x:zQ} {i:Nat} (h:1<=i) (u:i<=3) (D:x.txn=i) (z:x.kind≠7):lsr (rs++[x]) i=(lsr rs i).step x:=by rw [zeV _ _ h u,zeV _ _ h u,JV,if_pos ⟨D,z⟩]
theorem zoX (rs:List zQ) (i:Nat) (h:¬ (1<=i/\i<=3)):(lsr rs i).l=[]:=by unfold lsr;rw [if_neg h]
def Kj (f:Nat->Nat):Nat:=f 1+f 2+f 3
theorem zdB {f g:Nat->Nat} {t:Nat} (u:1<=t) (z:t<=3) (h:∀ i,i≠t->g i=f i):Kj g+f t=Kj f+g t:=by
 unfold Kj;obtain rfl | rfl | rfl:t=1∨t=2∨t=3:=by omega
 ·rw [h 2 (by omega),h 3 (by omega)];omega
 ·rw [h 1 (by omega),h 3 (by omega)];omega
 ·rw [h 1 (by omega),h 2 (by omega)];omega
def zdN (rs:List zQ):Nat:=Kj fun i=>yN (lsr rs i).l
theorem zaE (rs:List zQ):zav rs↔(zq rs).length+zdN rs<=14336/\∀ i,(lsr rs i).l.length<=8:=Iff.rfl
theorem zoh (rs:List zQ) (x:zQ):(zq (rs++[x])).length=(zq rs).length+(qG x).length:=by rw [YU,ZN,zl]
structure zdF (s:St) (rs:List zQ) (m:Nat):Prop where
 Q:s.sto.Q=zq rs
 ok:∀ x,x∈rs->x.ok
 m0:0<m
 le:m<=rs.length
 av:s.sto.av=(zq (rs.take m)).length
 eg:zav rs
 gg:zav (rs.take m)
 ts:∀ i,1<=i->i<=3->(lsr rs i).l=jI s.ts i
def Zo (s:St):Prop:=∃ rs m,zdF s rs m
theorem Zo.bx {s s':St} (h:Zo s) (hs:uF s.sto s'.sto) (z:∀ i,1<=i->i<=3->jI s'.ts i=jI s.ts i):Zo s':=by
 obtain ⟨rs,m,h⟩:=h;rcases hs.cy with ⟨u,_⟩ | ⟨u,_⟩
 ·exact ⟨rs,m,⟨hs.Q.trans h.Q,h.ok,h.m0,h.le,u.trans h.av,h.eg,h.gg,fun i a b=>(h.ts i a b).trans (z i a b).symm⟩⟩
 ·exact ⟨rs,rs.length,⟨hs.Q.trans h.Q,h.ok,by have:=h.m0;have:=h.le;omega,za _,by rw [u,h.Q,qi],h.eg,by rw [qi];exact h.eg,fun i a b=>(h.ts i a b).trans (z i a b).symm⟩⟩
theorem Zo.bo {s:St} (h:Zo s):Zo { s with sto:=s.sto.bo }:=by obtain ⟨rs,m,h⟩:=h;exact ⟨rs,rs.length,⟨h.Q,h.ok,by have:=h.m0;have:=h.le;omega,za _,by show s.sto.Q.length=_;rw [h.Q,qi],h.eg,by rw [qi];exact h.eg,h.ts⟩⟩
theorem Zo.same {s s':St} (h:Zo s) (hs:s'.sto=s.sto) (u:∀ i,1<=i->i<=3->jI s'.ts i=jI s.ts i):Zo s':=by obtain ⟨rs,m,h⟩:=h;exact ⟨rs,m,⟨by rw [hs];exact h.Q,h.ok,h.m0,h.le,by rw [hs];exact h.av,h.eg,h.gg,fun i a b=>(h.ts i a b).trans (u i a b).symm⟩⟩
theorem zdF.bp {s s':St} {rs:List zQ} {m:Nat} (h:zdF s rs m) (x:zQ) (O:s'.sto.Q=s.sto.Q++qG x) (R:s'.sto.av=s.sto.av∨s'.sto.av=s.sto.Q.length) (U:x.ok) (D:zav (rs++[x])) (L:∀ i,1<=i->i<=3->(lsr (rs++[x]) i).l=jI s'.ts i):Zo s':=by
 have hok:∀ y,y∈rs++[x]->y.ok:=fun y u=>by
  rcases ja.1 u with u | u
  ·exact h.ok y u
  ·simp at u;subst u;exact U
 have E:s'.sto.Q=zq (rs++[x]):=by rw [O,h.Q,YU,ZN]
 have hm:=h.m0;have X:=h.le;rcases R with z | z
 ·refine ⟨rs++[x],m,⟨E,hok,h.m0,by rw [zl];omega,?_,D,?_,L⟩⟩
  ·rw [z,h.av,List.take_append_of_le_length h.le]
  ·rw [List.take_append_of_le_length h.le];exact h.gg
 ·have e:(rs++[x]).take rs.length=rs:=List.take_left' rfl;refine ⟨rs++[x],rs.length,⟨E,hok,by omega,by rw [zl];omega,?_,D,?_,L⟩⟩
  ·rw [z,h.Q,e]
  ·rw [e];exact h.eg
structure vS (ts:qE):Prop where
 len:ts.length=4
 zero:ts[0]?=some none
 tx:∀ (i T:Nat) (x:Tx),ts[i]?=some (some (T,x))->x.ok
theorem Zs {ts:qE} {i T:Nat} {x:Tx} (h:ts[i]?=some (some (T,x))):jI ts i=x.I:=by unfold jI;rw [h]
theorem uS {ts:qE} {i T:Nat} {x:Tx} (u:i<ts.length) (j:Nat):jI (ts.set i (some (T,x))) j=if j=i then x.I else jI ts j:=by
 unfold jI;by_cases e:j=i
 ·subst e;rw [qw u,if_pos rfl]
 ·rw [qY (fun h=>e h.symm),if_neg e]
theorem JU {ts:qE} {i:Nat} (u:i<ts.length) (j:Nat):jI (ts.set i none) j=if j=i then [] else jI ts j:=by
 unfold jI;by_cases e:j=i
 ·subst e;rw [qw u,if_pos rfl]
 ·rw [qY (fun h=>e h.symm),if_neg e]
theorem vS.set {ts:qE} (h:vS ts) {i T:Nat} {x:Tx} (L:1<=i) (E:x.ok):vS (ts.set i (some (T,x))):=by
 refine ⟨by rw [List.length_set];exact h.len,by rw [qY (by omega)];exact h.zero,fun j z y u=>?_⟩;by_cases e:i=j
 ·subst e;have D:i<ts.length:=by have:=(zr.1 u).1;rwa [List.length_set] at this
  rw [qw D] at u;injection u with u;injection u with u;injection u with _ u;subst u;exact E
 ·rw [qY e] at u;exact h.tx j z y u
theorem vS.f0 {ts:qE} (h:vS ts) {i:Nat} (E:1<=i):vS (ts.set i none):=by
 refine ⟨by rw [List.length_set];exact h.len,by rw [qY (by omega)];exact h.zero,fun j z y u=>?_⟩;by_cases e:i=j
 ·subst e;have D:i<ts.length:=by have:=(zr.1 u).1;rwa [List.length_set] at this
  rw [qw D] at u;injection u with u;cases u
 ·rw [qY e] at u;exact h.tx j z y u
theorem zaH {ts:qE} (h:vS ts) (i:Nat):(jI ts i).length<=8/\∀ c,c∈jI ts i->c.pg<6/\c.sl<5/\js c.aa:=by
 unfold jI;split
 ·rename_i T x z;have u:=h.tx i T x z;exact ⟨by have D:=u.len;have E:=u.n8;omega,u.al⟩
 ·exact ⟨by simp,fun c h=>by cases h⟩
theorem four {ts:qE} (h:vS ts):∃ b c d,ts=[none,b,c,d]:=by have u:=h.len;have h0:=h.zero;rcases ts with _ | ⟨a,_ | ⟨b,_ | ⟨c,_ | ⟨d,_ | ⟨e,t⟩⟩⟩⟩⟩<;>simp at u;simp at h0;subst h0;exact ⟨b,c,d,rfl⟩
theorem zaW {ts:qE} (h:vS ts):Kj (fun i=>(jI ts i).length)=jS (zF ts):=by obtain ⟨b,c,d,rfl⟩:=four h;rcases b with _ | ⟨b1,b2⟩<;>rcases c with _ | ⟨u,z⟩<;>rcases d with _ | ⟨D,E⟩<;>simp [Kj,jI,zF,je,jS]<;>omega
theorem zpY {ts:qE} (h:vS ts):jS (zF ts)<=24:=by rw [<- zaW h];have u:=(zaH h 1).1;have z:=(zaH h 2).1;have D:=(zaH h 3).1;unfold Kj;simp only;omega
theorem Gi {rs:List zQ} {ts:qE} (u:∀ i,1<=i->i<=3->(lsr rs i).l=jI ts i) (h:vS ts):zdN rs<=(jS (zF ts)+3)*395:=by rw [<- zaW h];have z:=zaB (lsr rs 1).l;have D:=zaB (lsr rs 2).l;have E:=zaB (lsr rs 3).l;rw [u 1 (by omega) (by omega)] at z;rw [u 2 (by omega) (by omega)] at D;rw [u 3 (by omega) (by omega)] at E;unfold zdN Kj;simp only;rw [u 1 (by omega) (by omega),u 2 (by omega) (by omega),u 3 (by omega) (by omega)];omega
theorem zea {rs:List zQ} {ts:qE} (z:∀ i,1<=i->i<=3->(lsr rs i).l=jI ts i) (h:vS ts):∀ i,(lsr rs i).l.length<=8:=fun i=>by
 by_cases u:1<=i/\i<=3
 ·rw [z i u.1 u.2];exact (zaH h i).1
 ·rw [zoX rs i u];simp
theorem zfZ {x:zQ} (u:x.ok) (h:x.ao=[]) (hd:x.Y=[]):(qG x).length<=100:=by have z:=zcb u;simp only [qG,vX,Qb,h,hd,zl,zG,jr,List.flatMap_nil];omega
theorem zer:∀ (l:List zQ),(∀ x,x∈l->(qG x).length<=100)->(zq l).length<=l.length*100
 | [],_=>by simp [zq]
 | x::l,h=>by
  have z:=zer l fun y u=>h y (jh _ u);have D:=h x (ji ..);have e:zq (x::l)=qG x++zq l:=by simp [zq]
  rw [e,zl,qc];omega
theorem zdU (i j:Nat):∀ (l:List Chg) (s:JC),((l.map (yQ j)).foldl (fun s x=>if x.txn=i/\x.kind≠7 then s.step x else s) s).l=if j=i then s.l++l else s.l
 | [],s=>by simp
 | c::l,s=>by
  rw [List.map_cons,jM,zdU i j l];by_cases e:j=i
  ·rw [if_pos e,if_pos e,if_pos ⟨e,by simp [yQ]⟩];unfold JC.step;rw [if_pos (by simp [yQ])];simp [yQ]
  ·rw [if_neg e,if_neg e,if_neg (fun h=>e h.1)]
theorem YF {ts:qE} (h:vS ts):∀ x,x∈qV ts->x.ok/\x.ao=[]/\x.Y=[]:=fun x u=>by
 rcases zO.1 u with rfl | u
 ·exact ⟨⟨by simp [qF],by simp [qF],by simp [qF],by simp [qF],by simp [qF],trivial,trivial,.inl rfl,.inl rfl,by simp [qF]⟩,rfl,rfl⟩
 ·unfold vo at u;obtain ⟨⟨i,T,y⟩,X,u⟩:=List.mem_flatMap.1 u;obtain ⟨g,U,rfl⟩:=List.mem_map.1 u;obtain ⟨k,D,z⟩:=ZZ X;rw [qy] at D;subst D;have R:=(zr.1 z).1;rw [h.len] at R;obtain ⟨E,L,O⟩:=(h.tx i T y z).al g U;exact ⟨⟨by simp [yQ],by simp [yQ],by show i<=255;omega,E,L,O,trivial,.inl rfl,.inl rfl,by simp [yQ]⟩,rfl,rfl⟩
theorem Ks {ts:qE} (h:vS ts) (i:Nat) (u:1<=i) (z:i<=3):(lsr (qV ts) i).l=jI ts i:=by
 obtain ⟨b,c,d,rfl⟩:=four h;rw [zeV _ _ u z];unfold uh qV;rw [jM,if_neg (by simp [qF];omega)];obtain rfl | rfl | rfl:i=1∨i=2∨i=3:=by omega
 all_goals
  rcases b with _ | ⟨b1,b2⟩<;>rcases c with _ | ⟨D,E⟩<;>rcases d with _ | ⟨L,O⟩<;>simp [zF,je,vo,jI,zdU]
theorem zhE {ts:qE} (h:vS ts):(zq (qV ts)).length<=(jS (zF ts)+1)*100:=by
 have u:=zer (qV ts) fun x z=>by obtain ⟨a,b,c⟩:=YF h x z;exact zfZ a b c
 unfold qV at u ⊢;rw [qc,Yz] at u;exact u
theorem Zo.bb {s:St} (E:qX s.sto) (h:vS s.ts):Zo s.a1/\uA s.ts+s.a1.sto.Q.length<=14336:=by
 have u:=ZL E s.ts;have U:=zhE h;have O:=zpY h;have R:=Gi (Ks h) h;have D:s.a1.sto.Q.length=(zq (qV s.ts)).length:=by rw [show s.a1.sto.Q=_ from u.Q]
 have z:zav (qV s.ts):=(zaE _).2 ⟨by omega,zea (Ks h) h⟩;refine ⟨⟨qV s.ts,(qV s.ts).length,⟨u.Q,fun x L=>(YF h x L).1,by simp [qV],za _,?_,z,by rw [qi];exact z,Ks h⟩⟩,?_⟩
 ·rw [qi];exact u.av
 ·rw [D];unfold uA;omega
def qM (fs:List zx):Prop:=∀ f,f∈fs->f.ae<18446744073709551616
theorem qM.set {fs:List zx} (h:qM fs) (k:Nat) {f:zx} (z:f.ae<18446744073709551616):qM (fs.set k f):=fun g u=>by
 rcases vf u with u | rfl
 ·exact h g u
 ·exact z
theorem qM.at {fs:List zx} (h:qM fs) {k:Nat} {f:zx} (u:fs[k]?=some f):f.ae<18446744073709551616:=h f (zC u)
theorem zdc {s:zn} (h:qM s.fs) (k:Nat):qM (s.a0 k).fs:=by
 unfold zn.a0;split
 ·exact h
 ·split
  ·exact h
  ·split
   ·exact h
   ·exact h.set k (by simp)
theorem zcZ:∀ (g:Nat) {s:zn},qM s.fs->qM (s.bd g).2.fs
 | 0,s,h=>h
 | g+1,s,h=>by
  unfold zn.bd;split
  ·exact h
  ·rename_i f u;split
   ·exact zcZ g (h.set _ (show f.ae < _ from h.at u))
   ·exact (zdc (s:={ s with hand:=(s.hand+1) % 3 }) h s.hand).set _ (by decide)
theorem zaR {s:zn} (h:qM s.fs):qM s.room.2.fs:=by
 unfold zn.room;split
 ·exact h
 ·exact zcZ 4 h
theorem JM {s:zn} (h:qM s.fs) (nb n:Nat):qM (s.get nb n).fs:=by
 unfold zn.get;split
 ·split
  ·rename_i f u;exact h.set _ (show f.ae < _ from h.at u)
  ·exact h
 ·unfold zn.put zn.ck;split
  ·exact zaR h
  ·rename_i f u;exact (zaR h).set _ (show f.ae < _ from (zaR h).at u)
theorem zdb {s:zn} (h:qM s.fs) (n:Nat):qM (s.bc n).fs:=by
 unfold zn.bc;split
 ·exact h
 ·exact zdc h _
theorem Kh {s:zn} (h:qM s.fs):∀ k,qM (s.a6 k).fs
 | 0=>h
 | k+1=>by rw [zn.b4];exact zdb (Kh h k) k
theorem zcj {s:zn} (h:qM s.fs) (n slot:Nat) (o:Option Rw) {m:Nat} (hm:m<18446744073709551616):qM (s.setRow n slot o m).fs:=by
 unfold zn.setRow;split
 ·exact h
 ·split
  ·exact h
  ·rename_i f u;split
   ·exact h
   ·refine h.set _ ?_;simp only;split
    ·exact hm
    ·exact h.at u
theorem GS {ts:qE} {nbs:Nat->Nat}:∀ (g k:Nat) {s:zn},qM s.fs->qM (zY ts nbs g k s).1.fs
 | 0,_,s,h=>h
 | g+1,k,s,h=>by
  unfold zY;split
  ·exact JM h _ _
  ·exact GS g (k+1) (JM h _ _)
theorem zhG {h n:Nat} (u:h<4294967296) (z:n<=14336):jj h n<18446744073709551616:=by unfold jj;exact Nat.lt_of_le_of_lt (Nat.add_le_add_right (Nat.add_le_add (Nat.mul_le_mul_right 1048576 (Nat.le_of_lt u)) z) 1) (by decide)
theorem zci {s:zn} (h:qM s.fs) (u:s.J<4294967296) (z:s.Q.length<=14336) (r nb kind txn n slot:Nat) (o:Option Rw):qM (s.al r nb kind txn n slot o).fs:=by unfold zn.al;exact zcj (s:=(s.get nb n).au _) (JM h nb n) n slot o (zhG u z)
theorem zda {fs:List zx} (h:qM fs):∀ d,d∈yx fs 3->d<18446744073709551616:=by
 have key:∀ (l:List zx) (a:List Nat),(∀ f,f∈l->f.ae<18446744073709551616)->(∀ d,d∈a->d<18446744073709551616)->∀ d,d∈l.foldl uR a->d<18446744073709551616:=by
  intro l;induction l with
  | nil=>intro a _ h d hd;exact h d hd
  | cons f l ih =>
   intro a u z;rw [jM];refine ih _ (fun g E=>u g (jh _ E)) fun d hd=>?_;unfold uR at hd;split at hd
   ·exact z d hd
   ·rcases vf hd with hd | rfl
    ·exact z d hd
    ·exact u f (ji ..)
 unfold yx;refine key _ _ (fun f D=>h f (List.mem_of_mem_take D)) fun d hd=>?_;have:=List.eq_of_mem_replicate hd;omega
structure yY (s:St):Prop where
 i0:yc s
 l:Zo s
 tx:vS s.ts
 wf:WF s.lk
 ae:qM s.sto.fs
theorem yY.bx {s s':St} (h:yY s) (hs:uF s.sto s'.sto) (D:qM s'.sto.fs) (z:s'.N=s.N) (u:s'.ts=s.ts) (E:WF s'.lk):yY s' :=
 ⟨h.i0.bx hs z,h.l.bx hs fun i _ _=>by rw [u],by rw [u];exact h.tx,E,D⟩
theorem yY.lk {s:St} (h:yY s) {M:Lk} (u:WF M)  :yY { s with lk:=M }:=h.bx (s':={ s with lk:=M }) (uF.refl h.i0.ab) h.ae rfl rfl u
theorem yY.a1 {s:St} (h:yY s) (E:s.sto.J+1<4294967296):yY s.a1/\uA s.ts+s.a1.sto.Q.length<=14336:=by
 have u:=ZL h.i0.ab s.ts;obtain ⟨z,D⟩:=Zo.bb h.i0.ab h.tx;refine ⟨⟨⟨u.ok,fun n L=>?_,?_,?_,by omega,by show 0<(s.sto.bb s.ts).J;rw [u.J];exact Nat.succ_pos _⟩,z,h.tx,h.wf,Kh h.ae 6⟩,D⟩
 ·show ((s.sto.bb s.ts).E n).ok;rw [u.E];exact h.i0.ok n L
 ·exact h.i0.cl.congr fun n _=>by show ((s.sto.bb s.ts).E n).ap=_;rw [u.E]
 ·show (s.sto.bb s.ts).J < _;rw [u.J];exact E
theorem yY.ready {s:St} (h:yY s) (E:s.sto.J+1<4294967296):yY s.ready/\uA s.ts+s.ready.sto.Q.length<=14336/\s.ready.ts=s.ts/\s.ready.N=s.N/\s.ready.sto.J<=s.sto.J+1:=by
 obtain ⟨a,b,c⟩:=Zv s;by_cases u:uA s.ts+s.sto.Q.length<=14336
 ·have e:s.ready=s:=by unfold St.ready;rw [if_pos u]
  rw [e];exact ⟨h,u,rfl,rfl,Nat.le_succ _⟩
 ·have e:s.ready=s.a1:=by unfold St.ready;rw [if_neg u];rfl
  obtain ⟨z,D⟩:=h.a1 E;rw [e];exact ⟨z,D,rfl,rfl,Nat.le_of_eq (ZL h.i0.ab s.ts).J⟩
theorem yY.fw {s:St} (h:yY s) {r nb txn n slot T:Nat} {x:Tx} {o:Option Rw} (h1:1<=txn) (h3:txn<=3) (L:s.ts[txn]?=some (some (T,x))) (h8:x.ops<8) (D:n<6) (U:slot<5) (ho:js o) (hfit:uA s.ts+s.sto.Q.length<=14336):yY (s.al r nb 3 txn n slot o):=by
 have O:=Ym h.i0.ab r nb 3 txn n slot o;have a3:s.sto.Q.length+395<=14336:=by unfold uA at hfit;omega
 have a0:=h.i0.gb (r:=r) (nb:=nb) (kind:=3) (txn:=txn) D U ho (.inl rfl) (by omega);have X:txn<s.ts.length:=by rw [h.tx.len];omega
 have Z:=h.tx.tx txn T x L;obtain ⟨c,R⟩:∃ c:Chg,c=⟨n,slot,yy (s.sto.E n) slot⟩:=⟨_,rfl⟩;have u:(s.al r nb 3 txn n slot o).ts=s.ts.set txn (some (T,⟨x.I++[c],x.ag,x.ops+1⟩)):=by show Jo s.ts txn ⟨n,slot,yy (s.sto.E n) slot⟩=_;unfold Jo;rw [L,R]
 have hy:Tx.ok ⟨x.I++[c],x.ag,x.ops+1⟩:=by
  have hb:=zcM (h.i0.ok n D) slot;refine ⟨by show x.ops+1<=8;omega,by have:=Z.len;show (x.I++[c]).length<=x.ops+1;simp;omega,Z.s4,fun d hd=>?_⟩;rcases ja.1 hd with hd | hd
  ·exact Z.al d hd
  ·simp at hd;subst hd;rw [R];exact ⟨D,U,hb⟩
 have E:=h.tx.set (T:=T) h1 hy;obtain ⟨rs,m,z⟩:=h.l;have Y:∀ i,1<=i->i<=3->(lsr (rs++[yk r 3 txn n slot (s.sto.get nb n) (s.sto.E n) o]) i).l=jI (s.al r nb 3 txn n slot o).ts i:=fun i a b=>by
  rw [u,uS X];by_cases e:i=txn
  ·subst e;rw [if_pos rfl,zdr a b rfl (by simp [yk])];unfold JC.step;rw [if_pos (.inr rfl)];show (lsr rs i).l++[_]=_;rw [z.ts i a b,Zs L,R];rfl
  ·rw [if_neg e,Gq (fun hh=>e hh.1.symm)];exact z.ts i a b
 have a1:=Gi Y (by rw [u];exact E);have a5:jS (zF (s.al r nb 3 txn n slot o).ts)=jS (zF s.ts)+1:=by
  rw [<- zaW h.tx,u,<- zaW E];have:=zdB (f:=fun i=>(jI s.ts i).length) (g:=fun i=>(jI (s.ts.set txn (some (T,⟨x.I++[c],x.ag,x.ops+1⟩))) i).length) h1 h3 fun i a4=>by simp only [uS X,if_neg a4]
  simp only [uS X,if_true,Zs L,zl,List.length_singleton] at this ⊢;omega
 have a6:=yU a0;refine ⟨h.i0.al D U ho (.inl rfl) (by omega) a3,z.bp _ O.Q ?_ a0 ((zaE _).2 ⟨?_,zea Y (by rw [u];exact E)⟩) Y,by rw [u];exact E,h.wf,zci h.ae h.i0.J h.i0.Q r nb 3 txn n slot o⟩
 ·rw [show (s.al r nb 3 txn n slot o).sto.av=_ from O.av];rcases O.bx.cy with ⟨e,_⟩ | ⟨e,_⟩
  ·exact .inl e
  ·exact .inr e
 ·rw [zoh,<- z.Q];rw [a5] at a1;unfold uA at hfit;omega
def ux (ts:qE):Nat:=Kj fun i=>yN (jI ts i)
theorem zeH {rs:List zQ} {ts:qE} (h:∀ i,1<=i->i<=3->(lsr rs i).l=jI ts i):zdN rs=ux ts:=by unfold zdN ux Kj;simp only;rw [h 1 (by omega) (by omega),h 2 (by omega) (by omega),h 3 (by omega) (by omega)]
theorem Zo.di {s:St} (h:Zo s):s.sto.Q.length+ux s.ts<=14336:=by obtain ⟨rs,m,h⟩:=h;rw [h.Q,<- zeH h.ts];exact h.eg.1
theorem zdF.f4 {s s':St} {rs:List zQ} {m:Nat} (h:zdF s rs m) (x:zQ) (z:s'.sto.Q=s.sto.Q++qG x) (D:s'.sto.av=s.sto.av∨s'.sto.av=s.sto.Q.length) (L:x.ok) (E:vS s'.ts) (hfit:s'.sto.Q.length+ux s'.ts<=14336) (u:∀ i,1<=i->i<=3->(lsr (rs++[x]) i).l=jI s'.ts i):Zo s':=by refine h.bp x z D L ((zaE _).2 ⟨?_,zea u E⟩) u;rw [zeH u,YU,ZN,<- h.Q,<- z];exact hfit
theorem zlq {ts:qE} (h:vS ts) {t T:Nat} {x y:Tx} (z:1<=t) (D:t<=3) (L:ts[t]?=some (some (T,x))):ux (ts.set t (some (T,y)))+yN x.I=ux ts+yN y.I:=by
 have u:t<ts.length:=by rw [h.len];omega
 have:=zdB (f:=fun i=>yN (jI ts i)) (g:=fun i=>yN (jI (ts.set t (some (T,y))) i)) z D fun i E=>by simp only [uS u,if_neg E]
 simp only [uS u,if_true,Zs L] at this;unfold ux;simp only [uS u];exact this
theorem zdM {ts:qE} (h:vS ts) {t T:Nat} {x:Tx} (z:1<=t) (D:t<=3) (L:ts[t]?=some (some (T,x))):ux (ts.set t none)+yN x.I=ux ts:=by
 have u:t<ts.length:=by rw [h.len];omega
 have:=zdB (f:=fun i=>yN (jI ts i)) (g:=fun i=>yN (jI (ts.set t none) i)) z D fun i E=>by simp only [JU u,if_neg E]
 simp only [JU u,if_true,Zs L,zlp,Nat.add_zero] at this;unfold ux;simp only [JU u];exact this
theorem yY.az {s:St} (h:yY s) {r nb txn T:Nat} {x:Tx} {l:List Chg} {c:Chg} (O:1<=txn) (h3:txn<=3) (z:s.ts[txn]?=some (some (T,x))) (u:x.I=l++[c]) :
  yY (s.az r nb txn)/\(s.az r nb txn).ts=s.ts.set txn (some (T,⟨l,x.ag,x.ops⟩))/\(s.az r nb txn).sto.J=s.sto.J/\(s.az r nb txn).lk=s.lk/\(s.az r nb txn).sto.Q.length<=s.sto.Q.length+395:=by
 have hu:s.az r nb txn={ s.al r nb 4 txn c.pg c.sl c.aa with ts:=s.ts.set txn (some (T,⟨l,x.ag,x.ops⟩)) }:=by unfold St.az;simp only [z,u,List.getLast?_append,List.getLast?_singleton,Option.some_or,List.dropLast_concat]
 have D:=h.tx.tx txn T x z;obtain ⟨Y,U,Z⟩:=D.al c (by rw [u];simp);have E:=Ym h.i0.ab r nb 4 txn c.pg c.sl c.aa;have a0:=h.i0.gb (r:=r) (nb:=nb) (kind:=4) (txn:=txn) Y U Z (.inr rfl) (by omega);have a8:=yU a0;have a5:txn<s.ts.length:=by rw [h.tx.len];omega
 have hy:Tx.ok ⟨l,x.ag,x.ops⟩:=⟨D.n8,by have:=D.len;rw [u] at this;simp at this;show l.length<=x.ops;omega,D.s4,fun d hd=>D.al d (by rw [u];exact List.mem_append_left _ hd)⟩;have a1:=h.tx.set (T:=T) O hy;have R:=zlq (y:=⟨l,x.ag,x.ops⟩) h.tx O h3 z;have a6:=zjI l c;rw [u] at R;have hfit:=h.l.di;have a4:s.sto.Q.length+395<=14336:=by
  have a7:yN (l++[c])<=ux s.ts:=by
   rw [<- u,<- Zs z];unfold ux Kj;obtain rfl | rfl | rfl:txn=1∨txn=2∨txn=3:=by omega
   all_goals simp only;omega
  omega
 have X:(s.al r nb 4 txn c.pg c.sl c.aa).sto.Q=s.sto.Q++qG (yk r 4 txn c.pg c.sl (s.sto.get nb c.pg) (s.sto.E c.pg) c.aa):=E.Q;have hlen:(s.al r nb 4 txn c.pg c.sl c.aa).sto.Q.length<=s.sto.Q.length+395:=by rw [X,zl];omega
 have a3:=h.i0.al (r:=r) (nb:=nb) Y U Z (.inr rfl) (show txn<=255 by omega) a4;obtain ⟨rs,m,L⟩:=h.l;rw [hu];refine ⟨⟨a3.same rfl rfl,?_,a1,h.wf,zci h.ae h.i0.J h.i0.Q r nb 4 txn c.pg c.sl c.aa⟩,rfl,E.J,rfl,hlen⟩;refine L.f4 _ X ?_ a0 a1 ?_ fun i a b=>?_
 ·show (s.al r nb 4 txn c.pg c.sl c.aa).sto.av=_∨_;rw [show (s.al r nb 4 txn c.pg c.sl c.aa).sto.av=_ from E.av];rcases E.bx.cy with ⟨e,_⟩ | ⟨e,_⟩
  ·exact .inl e
  ·exact .inr e
 ·show (s.al r nb 4 txn c.pg c.sl c.aa).sto.Q.length+ux (s.ts.set txn (some (T,⟨l,x.ag,x.ops⟩)))<=14336;simp only at R;omega
 ·show _=jI (s.ts.set txn (some (T,⟨l,x.ag,x.ops⟩))) i;rw [uS a5];by_cases e:i=txn
  ·subst e;rw [if_pos rfl,zdr a b rfl (by simp [yk])];unfold JC.step;rw [if_neg (by simp [yk]),if_pos (by rfl)];show (lsr rs i).l.dropLast=_;rw [L.ts i a b,Zs z,u,List.dropLast_concat]
  ·rw [if_neg e,Gq (fun hh=>e hh.1.symm)];exact L.ts i a b
theorem yY.ai {r txn T:Nat} {nbs:Nat->Nat} (z:1<=txn) (D:txn<=3):∀ (m j:Nat) {s:St} {x:Tx},yY s->s.ts[txn]?=some (some (T,x))->m<=x.I.length ->
  yY (St.ai r txn nbs j m s)/\(St.ai r txn nbs j m s).ts=s.ts.set txn (some (T,⟨x.I.take (x.I.length-m),x.ag,x.ops⟩))/\(St.ai r txn nbs j m s).sto.J=s.sto.J/\(St.ai r txn nbs j m s).lk=s.lk/\(St.ai r txn nbs j m s).sto.Q.length<=s.sto.Q.length+m*395
 | 0,j,s,x,h,hx,_=>by refine ⟨h,?_,rfl,rfl,by rw [Nat.zero_mul];exact za _⟩;rw [Nat.sub_zero,qi];exact (zdA hx).symm
 | m+1,j,s,x,h,hx,hm=>by
  obtain ⟨l,c,u⟩:∃ l c,x.I=l++[c]:=by
   have E:x.I≠[]:=fun e=>by rw [e] at hm;simp at hm
   exact ⟨x.I.dropLast,x.I.getLast E,(List.dropLast_concat_getLast E).symm⟩
  obtain ⟨L,a2,O,R,Y⟩:=h.az (r:=r) (nb:=nbs j) z D hx u;have U:txn<s.ts.length:=by rw [h.tx.len];omega
  have X:x.I.length=l.length+1:=by rw [u];simp
  obtain ⟨b1,b2,b3,b4,b5⟩:=yY.ai (nbs:=nbs) z D m (j+1) (x:=⟨l,x.ag,x.ops⟩) L (by rw [a2,qw U]) (by simp only;omega);refine ⟨b1,?_,b3.trans O,b4.trans R,?_⟩
  ·show (St.ai r txn nbs (j+1) m (s.az r (nbs j) txn)).ts=_;rw [b2,a2,List.set_set];congr 4;simp only;rw [X,u,show l.length+1-(m+1)=l.length-m by omega,List.take_append_of_le_length (by omega)]
  ·show (St.ai r txn nbs (j+1) m (s.az r (nbs j) txn)).sto.Q.length<=_;rw [Nat.succ_mul];omega
def Qe (x:Tx):Prop:=x.ag.Pairwise (·<=·)/\∀ k,k∈x.ag->k<=x.I.length
structure jO (s:St):Prop where
 c:yY s
 sv:∀ (i T:Nat) (x:Tx),s.ts[i]?=some (some (T,x))->Qe x
theorem zgR {s:St} (h:Zo s) (O:vS s.ts) {txn T:Nat} {x:Tx} (z:1<=txn) (D:txn<=3) (u:s.ts[txn]?=some (some (T,x))):s.sto.Q.length+yN x.I<=14336:=by
 have E:=h.di;have L:yN x.I<=ux s.ts:=by
  rw [<- Zs u];unfold ux Kj;obtain rfl | rfl | rfl:txn=1∨txn=2∨txn=3:=by omega
  all_goals simp only;omega
 omega
theorem jO.iq {s:St} (h:jO s) {txn T:Nat} {x:Tx} (z:1<=txn) (D:txn<=3) (u:s.ts[txn]?=some (some (T,x))) (E:s.sto.J+1<4294967296):GX s x :=
 ⟨h.c.wf,h.c.i0.cl.so,by have:=h.c.i0.cl.he;omega,h.c.i0.cl.pg,E,(h.sv txn T x u).2,zgR h.c.l h.c.tx z D u⟩
theorem zex {ts:qE} (h:∀ (i T:Nat) (x:Tx),ts[i]?=some (some (T,x))->Qe x) {t T:Nat} {y:Tx} (E:Qe y):∀ (i z:Nat) (x:Tx),(ts.set t (some (T,y)))[i]?=some (some (z,x))->Qe x:=fun i z x u=>by
 by_cases e:t=i
 ·subst e;have D:t<ts.length:=by have:=(zr.1 u).1;rwa [List.length_set] at this
  rw [qw D] at u;injection u with u;injection u with u;injection u with _ u;subst u;exact E
 ·rw [qY e] at u;exact h i z x u
theorem zfp {ts:qE} (h:∀ (i T:Nat) (x:Tx),ts[i]?=some (some (T,x))->Qe x) {t:Nat}:∀ (i z:Nat) (x:Tx),(ts.set t none)[i]?=some (some (z,x))->Qe x:=fun i z x u=>by
 by_cases e:t=i
 ·subst e;have D:t<ts.length:=by have:=(zr.1 u).1;rwa [List.length_set] at this
  rw [qw D] at u;injection u with u;cases u
 ·rw [qY e] at u;exact h i z x u
theorem jO.lk {s:St} (h:jO s) {M:Lk} (u:WF M):jO { s with lk:=M }:=⟨h.c.lk u,h.sv⟩
theorem jO.ready {s:St} (h:jO s) (u:s.sto.J+1<4294967296):jO s.ready:=⟨(h.c.ready u).1,by rw [(h.c.ready u).2.2.1];exact h.sv⟩
theorem jO.fw {s:St} (h:jO s) {r nb txn n slot T:Nat} {x:Tx} {o:Option Rw} (z:1<=txn) (D:txn<=3) (u:s.ts[txn]?=some (some (T,x))) (E:x.ops<8) (R:n<6) (L:slot<5) (U:js o) (hfit:uA s.ts+s.sto.Q.length<=14336):jO (s.al r nb 3 txn n slot o):=by
 refine ⟨h.c.fw z D u E R L U hfit,?_⟩;have hs:=h.sv txn T x u;have X:(s.al r nb 3 txn n slot o).ts=s.ts.set txn (some (T,⟨x.I++[⟨n,slot,yy (s.sto.E n) slot⟩],x.ag,x.ops+1⟩)):=by show Jo s.ts txn ⟨n,slot,yy (s.sto.E n) slot⟩=_;unfold Jo;rw [u]
 rw [X];exact zex h.sv ⟨hs.1,fun k O=>by have:=hs.2 k O;show k<=(x.I++[_]).length;simp;omega⟩
theorem zeP {s:St} (h:yY s) {r nb kind txn n slot:Nat} {o:Option Rw}:(s.al r nb kind txn n slot o).sto.J=s.sto.J:=(Ym h.i0.ab r nb kind txn n slot o).J
theorem jO.put {s:St} (h:jO s) {r nb txn T:Nat} {nbs:Nat->Nat} {x:Tx} {rw:Rw} (O:1<=txn) (R:txn<=3) (Y:s.ts[txn]?=some (some (T,x))) (hok:rw.ok) (U:s.sto.J+1<4294967296):jO (s.put r nbs nb txn x.ops rw).2/\(s.put r nbs nb txn x.ops rw).2.sto.J<=s.sto.J+1:=by
 have X:=h.c.wf.keyS txn rw.t (zb rw.k);have E:=h.lk X;unfold St.put;split
 ·exact ⟨h,Nat.le_succ _⟩
 ·split
  ·exact ⟨E,Nat.le_succ _⟩
  ·rename_i h8;split
   ·rename_i y hy;obtain ⟨p1,p2⟩:=h.c.i0.cl.pg y (zbI hy);obtain ⟨z,a2,u,Z,D⟩:=E.c.ready U;refine ⟨(E.ready U).fw O R (T:=T) (x:=x) (by rw [u];exact Y) (by omega) p1 p2 hok (by rw [u];exact a2),?_⟩;rw [zeP z];exact D
   ·have hs:=zev (ts:=s.ts) (nbs:=nbs) 6 0 h.c.i0.ab;have a3:=GS (ts:=s.ts) (nbs:=nbs) 6 0 h.c.ae;have a4:(zY s.ts nbs 6 0 s.sto).1.J=s.sto.J:=hs.J;have L:jO { s with lk:=keyS s.lk txn rw.t (zb rw.k),sto:=(zY s.ts nbs 6 0 s.sto).1 }:=⟨h.c.bx hs a3 rfl rfl X,h.sv⟩;split
    ·exact ⟨L,by show (zY s.ts nbs 6 0 s.sto).1.J<=_;omega⟩
    ·rename_i n i a1;have a0:=KU a1;obtain ⟨z,a2,u,Z,D⟩:=L.c.ready (by show (zY s.ts nbs 6 0 s.sto).1.J+1 < _;omega);refine ⟨(L.ready (by show (zY s.ts nbs 6 0 s.sto).1.J+1 < _;omega)).fw O R (T:=T) (x:=x) (by rw [u];exact Y) (by omega) (by omega) a0.2 hok (by rw [u];exact a2),?_⟩;rw [zeP z];have a6:_<=(zY s.ts nbs 6 0 s.sto).1.J+1:=D;omega
theorem jO.bs {s:St} (h:jO s) {r nb txn T t:Nat} {k:List UInt8} {x:Tx} (R:1<=txn) (U:txn<=3) (Z:s.ts[txn]?=some (some (T,x))) (E:s.sto.J+1<4294967296):jO (s.bs r nb txn x.ops t k).2/\(s.bs r nb txn x.ops t k).2.sto.J<=s.sto.J+1:=by
 have Y:=h.c.wf.keyS txn t (zb k);have u:=h.lk Y;unfold St.bs;split
 ·exact ⟨h,Nat.le_succ _⟩
 ·cases X:yX s.N ⟨t,k,[]⟩ with
  | none=>exact ⟨u,Nat.le_succ _⟩
  | some y =>
   by_cases D:8<=x.ops
   ·simp only [St.db,if_pos D];exact ⟨u,Nat.le_succ _⟩
   ·simp only [St.db,if_neg D];obtain ⟨p1,p2⟩:=h.c.i0.cl.pg y (zbI X);obtain ⟨L,a2,z,a4,O⟩:=u.c.ready E;refine ⟨(u.ready E).fw R U (T:=T) (x:=x) (o:=none) (by rw [z];exact Z) (by omega) p1 p2 trivial (by rw [z];exact a2),?_⟩;rw [zeP L];exact O
theorem jO.b6 {s:St} (h:jO s) {r txn T:Nat} {nbs:Nat->Nat} {x:Tx} {n:Int} (R:1<=txn) (h3:txn<=3) (O:s.ts[txn]?=some (some (T,x))):jO (s.a4 r txn nbs T x n).2/\(s.a4 r txn nbs T x n).2.sto.J=s.sto.J:=by
 have hs:=h.sv txn T x O;have E:=h.c.tx.tx txn T x O;unfold St.a4;cases hb:x.b6 n with
 | none=>exact ⟨h,rfl⟩
 | some p =>
  obtain ⟨k,y⟩:=p;obtain ⟨hk,u,Z,a6⟩:=zgL hs.2 hb;have U:txn<s.ts.length:=by rw [h.c.tx.len];omega
  have a5:y.ok:=⟨by rw [Z];exact E.n8,by rw [u,Z];exact E.len,zz a6 E.s4,by rw [u];exact E.al⟩;have h0:yY { s with ts:=s.ts.set txn (some (T,y)) }:=⟨h.c.i0.same rfl rfl,h.c.l.same rfl (fun i _ _=>by
   show jI (s.ts.set txn (some (T,y))) i=_;rw [uS U];split
   ·rename_i e;rw [e,u,Zs O]
   ·rfl),h.c.tx.set R a5,h.c.wf,h.c.ae⟩
  obtain ⟨a1,a2,a3,a7,a8⟩:=yY.ai (r:=r) (nbs:=nbs) R h3 (x.I.length-k) 0 (x:=y) h0 (qw U) (by rw [u];omega);refine ⟨⟨a1,?_⟩,a3⟩;simp only;rw [a2];show ∀ (i T':Nat) (z:Tx),((s.ts.set txn (some (T,y))).set txn (some (T,(⟨y.I.take (y.I.length-(x.I.length-k)),y.ag,y.ops⟩:Tx))))[i]?=some (some (T',z))->Qe z;rw [List.set_set];refine zex h.sv ?_;have Y:y.ag.Pairwise (·<=·)/\∀ j,j∈y.ag->j<=k:=by
   unfold Tx.b6 at hb;split at hb
   ·cases hb
   ·rename_i hc;cases L:x.ag[n.toNat-1]? with
    | none=>rw [L] at hb;cases hb
    | some k' =>
     rw [L] at hb;simp only [qk,jd,Prod.mk.injEq] at hb;obtain ⟨rfl,rfl⟩:=hb;refine ⟨hs.1.sublist (List.take_sublist _ _),fun j D=>?_⟩;simp only at D;obtain ⟨i,hi,rfl⟩:=List.mem_iff_getElem.1 D;rw [qf] at hi;rw [List.getElem_take];obtain ⟨a0,X⟩:=zr.1 L;rcases Nat.lt_or_ge i (n.toNat-1) with a4 | a9
     ·have:=List.pairwise_iff_getElem.1 hs.1 i (n.toNat-1) (by omega) a0 a4;rw [X] at this;exact this
     ·have e:i=n.toNat-1:=by omega
      subst e;rw [X];exact za _
  refine ⟨Y.1,fun j D=>?_⟩;have:=Y.2 j D;simp only [qf];rw [u];omega
theorem yY.gc {s:St} (h:yY s) {txn T:Nat} {x:Tx} (u:1<=txn) (O:txn<=3) (L:s.ts[txn]?=some (some (T,x))) (z:x.I=[]) {M:Lk} (E:WF M):yY { s with ts:=s.ts.set txn none,lk:=M }:=by
 have D:txn<s.ts.length:=by rw [h.tx.len];omega
 exact ⟨h.i0.same rfl rfl,h.l.same rfl (fun i _ _=>by
  show jI (s.ts.set txn none) i=_;rw [JU D];split
  ·rename_i e;rw [e,Zs L,z]
  ·rfl),h.tx.f0 u,E,h.ae⟩
theorem yY.h3 {s:St} (h:yY s) {txn T:Nat} {x:Tx} {e:zQ} (R:1<=txn) (Z:txn<=3) (hx:s.ts[txn]?=some (some (T,x))) (D:e.ok) (u:e.kind=5∨e.kind=6) (L:e.txn=txn) (hfit:s.sto.Q.length+395+ux (s.ts.set txn none)<=14336) {M:Lk} (Y:WF M):yY { s with sto:=s.sto.au e,ts:=s.ts.set txn none,lk:=M }:=by
 have X:txn<s.ts.length:=by rw [h.tx.len];omega
 have hr:=yU D;have O:=h.tx.f0 (i:=txn) R;have hlen:(s.sto.au e).Q.length<=s.sto.Q.length+395:=by show (s.sto.Q++qG e).length<=_;rw [zl];omega
 obtain ⟨rs,m,E⟩:=h.l;have h0:=h.i0.au D (by omega);refine ⟨h0.same rfl rfl,E.f4 e rfl (.inl rfl) D O (by show (s.sto.au e).Q.length+ux (s.ts.set txn none)<=14336;omega) fun i a b=>?_,O,Y,h.ae⟩;show _=jI (s.ts.set txn none) i;rw [JU X];by_cases z:i=txn
 ·subst z;rw [if_pos rfl,zdr a b L (by rcases u with u | u<;>rw [u]<;>decide)];unfold JC.step;rw [if_neg (by omega),if_neg (by omega),if_pos u]
 ·rw [if_neg z,Gq (fun U=>z (by rw [<- U.1,L]))];exact E.ts i a b
theorem jO.am {s:St} (h:jO s) {txn T:Nat} {x:Tx} (z:1<=txn) (D:txn<=3) (E:s.ts[txn]?=some (some (T,x))):jO (s.am txn x)/\(s.am txn x).sto.J=s.sto.J:=by
 have L:=h.c.wf.dropM txn;unfold St.am;by_cases u:x.I=[]
 ·rw [if_pos u];exact ⟨⟨h.c.gc z D E u L,zfp h.sv⟩,rfl⟩
 ·rw [if_neg u];have R:=zdM h.c.tx z D E;have O:790<=yN x.I:=by unfold yN;rw [if_neg u];have:=List.length_pos_iff.2 u;omega
  have hfit:=h.c.l.di;have h0:=h.c.h3 z D E (Ko (txn:=txn) (by omega)) (.inl rfl) rfl (by omega) L;exact ⟨⟨⟨h0.i0.bo,h0.l.bo,h0.tx,h0.wf,h0.ae⟩,zfp h.sv⟩,rfl⟩
theorem jO.be {s:St} (h:jO s) {r txn T:Nat} {nbs:Nat->Nat} {x:Tx} (u:1<=txn) (D:txn<=3) (X:s.ts[txn]?=some (some (T,x))):jO (s.be r txn nbs x)/\(s.be r txn nbs x).sto.J=s.sto.J:=by
 obtain ⟨L,a2,Z,a4,a5⟩:=yY.ai (r:=r) (nbs:=nbs) u D x.I.length 0 h.c X (za _);rw [Nat.sub_self,List.take_zero] at a2;have a1:txn<s.ts.length:=by rw [h.c.tx.len];omega
 have U:(St.ai r txn nbs 0 x.I.length s).ts[txn]?=some (some (T,⟨[],x.ag,x.ops⟩)):=by rw [a2,qw a1]
 have R:WF (dropM (St.ai r txn nbs 0 x.I.length s).lk txn):=by rw [a4];exact h.c.wf.dropM txn
 have O:∀ (i Y:Nat) (z:Tx),((St.ai r txn nbs 0 x.I.length s).ts.set txn none)[i]?=some (some (Y,z))->Qe z:=by rw [a2,List.set_set];exact zfp h.sv
 unfold St.be;by_cases E:x.I=[]
 ·rw [if_pos E];have e:St.ai r txn nbs 0 x.I.length s=s:=by rw [E];rfl
  rw [e] at L U R O ⊢;exact ⟨⟨L.gc u D U rfl R,O⟩,rfl⟩
 ·rw [if_neg E];have a3:=zdM h.c.tx u D X;have a0:yN x.I=(x.I.length+1)*395:=by unfold yN;rw [if_neg E]
  have hfit:=h.c.l.di;have e2:(St.ai r txn nbs 0 x.I.length s).ts.set txn none=s.ts.set txn none:=by rw [a2,List.set_set]
  have h0:=L.h3 u D U (zab (txn:=txn) (by omega)) (.inr rfl) rfl (by rw [e2];rw [Nat.succ_mul] at a0;omega) R;exact ⟨⟨h0,O⟩,Z⟩
theorem zqT:Qe ud:=⟨.nil,fun k h=>by cases h⟩
theorem YC {ts:qE}:∀ {k i n:Nat},jU ts k i=some n->i<=n/\n<=3/\ts[n]?=some none
 | 0,i,n,h=>by cases h
 | k+1,i,n,h=>by
  unfold jU at h;split at h
  ·rename_i u;split at h
   ·injection h with h;subst h;rename_i z;exact ⟨za _,u,z⟩
   ·obtain ⟨a,b,c⟩:=YC h;exact ⟨by omega,b,c⟩
  ·cases h
theorem jO.an {s:St} (h:jO s) (T:Nat):jO (s.an T).2/\(s.an T).2.sto=s.sto:=by
 unfold St.an;cases z:ZX s.ts with
 | none=>exact ⟨h,rfl⟩
 | some n =>
  obtain ⟨a,b,c⟩:=YC z;have D:n<s.ts.length:=by rw [h.c.tx.len];omega
  have h0:ud.ok:=⟨by simp [ud],by simp [ud],by simp [ud],fun c u=>by cases u⟩;refine ⟨⟨⟨h.c.i0.same rfl rfl,h.c.l.same rfl (fun i _ _=>?_),h.c.tx.set a h0,h.c.wf,h.c.ae⟩,zex h.sv zqT⟩,rfl⟩;show jI (s.ts.set n (some (T,ud))) i=_;rw [uS D];split
  ·rename_i e;subst e;unfold jI;rw [c];rfl
  ·rfl
theorem zod {x:Tx} (h:x.ok):x.bt.2.ok:=by
 unfold Tx.bt;split
 ·exact h
 ·rename_i u;exact ⟨h.n8,h.len,by have:=h.s4;simp only [zl,List.length_singleton];omega,h.al⟩
theorem jO.bt {s:St} (h:jO s) {txn T:Nat} {x:Tx} (D:1<=txn) (U:txn<=3) (z:s.ts[txn]?=some (some (T,x))):jO { s with ts:=s.ts.set txn (some (T,x.bt.2)) }:=by
 have L:txn<s.ts.length:=by rw [h.c.tx.len];omega
 have hs:=h.sv txn T x z;have hok:=zod (h.c.tx.tx txn T x z);have O:x.bt.2.I=x.I:=by unfold Tx.bt;split<;>rfl
 have R:Qe x.bt.2:=by
  unfold Tx.bt;split
  ·exact hs
  ·refine ⟨List.pairwise_append.2 ⟨hs.1,List.pairwise_singleton _ _,fun a E b hb=>?_⟩,fun k u=>?_⟩
   ·simp at hb;subst hb;exact hs.2 a E
   ·rcases ja.1 u with u | u
    ·exact hs.2 k u
    ·simp at u;subst u;exact za _
 refine ⟨⟨h.c.i0.same rfl rfl,h.c.l.same rfl (fun i _ _=>?_),h.c.tx.set D hok,h.c.wf,h.c.ae⟩,zex h.sv R⟩;show jI (s.ts.set txn (some (T,x.bt.2))) i=_;rw [uS L];split
 ·rename_i e;subst e;rw [O,Zs z]
 ·rfl
theorem jO.bc {s:St} (h:jO s) (n:Nat):jO { s with sto:=s.sto.bc n }:=⟨h.c.bx (zaT h.c.i0.ab n).1 (zdb h.c.ae n) rfl rfl h.c.wf,h.sv⟩
theorem jO.a1 {s:St} (h:jO s) (u:s.sto.J+1<4294967296):jO s.a1:=⟨(h.c.a1 u).1,h.sv⟩
theorem jO.cj {s:St} (h:jO s) (E:s.sto.J+1<4294967296):jO s.cj/\s.cj.sto.J<=s.sto.J+1:=by
 obtain ⟨u,a2,L,Z,O⟩:=h.c.ready E;have Y:=(h.ready E).sv;have D:=zht (zda u.ae);have hl:=yU D;have U:ux s.ready.ts<=(jS (zF s.ready.ts)+3)*395:=by obtain ⟨rs,m,z⟩:=u.l;rw [<- zeH z.ts];exact Gi z.ts u.tx
 have hfit:s.ready.sto.Q.length+395+ux s.ready.ts<=14336:=by rw [L] at U ⊢;unfold uA at a2;omega
 have hlen:(s.ready.sto.au (ZC s.ready.sto)).Q.length<=s.ready.sto.Q.length+395:=by show (s.ready.sto.Q++qG (ZC s.ready.sto)).length<=_;rw [zl];omega
 have h0:=u.i0.au D (by omega);obtain ⟨rs,m,z⟩:=u.l;have R:Zo { s.ready with sto:=s.ready.sto.au (ZC s.ready.sto) }:=z.f4 (ZC s.ready.sto) rfl (.inl rfl) D u.tx (by show (s.ready.sto.au (ZC s.ready.sto)).Q.length+ux s.ready.ts<=14336;omega) fun i a b=>by rw [Gq (fun X=>X.2 rfl)];exact z.ts i a b
 exact ⟨⟨⟨h0.bo,R.bo,u.tx,u.wf,u.ae⟩,Y⟩,O⟩
theorem jO.ig {s s':St} (h:jO s) {r txn T:Nat} {x:Tx} {q:Rq} {rw:Rw} {v:ui} {e:Bool} (u:1<=txn) (z:txn<=3) (D:s.ts[txn]?=some (some (T,x))) (hok:rw.ok) (E:s.sto.J+1<4294967296) (L:Ge r s txn T x q rw v e s'):jO s'/\s'.sto.J<=s.sto.J+1:=by
 rcases L with ⟨_,_,_,rfl⟩ | ⟨_,nbs,nb,_,_,rfl⟩ | ⟨_,nb,_,_,rfl⟩ | ⟨_,_,_,rfl⟩ | ⟨_,_,_,rfl⟩ | ⟨_,nbs,_,_,rfl,_⟩ | ⟨_,_,_,rfl⟩ | ⟨_,nbs,_,_,rfl,_⟩
 ·exact ⟨h.lk (h.c.wf.takeS txn _ (by decide)),Nat.le_succ _⟩
 ·exact h.put u z D hok E
 ·exact h.bs u z D E
 ·unfold St.bi;split<;>exact ⟨h.lk (h.c.wf.takeS txn _ (by decide)),Nat.le_succ _⟩
 ·exact ⟨h.bt u z D,Nat.le_succ _⟩
 ·have:=h.b6 (r:=r) (nbs:=nbs) (n:=q.n) u z D;exact ⟨this.1,by rw [this.2];exact Nat.le_succ _⟩
 ·have:=h.am u z D;exact ⟨this.1,by rw [this.2];exact Nat.le_succ _⟩
 ·have:=h.be (r:=r) (nbs:=nbs) u z D;exact ⟨this.1,by rw [this.2];exact Nat.le_succ _⟩
theorem yc.ax {s:St} (h:yc s) (U:s.N=[]) {nb fr u:Nat} {x:zQ} (Y:x.ok) (h0:u≠0) (L:u<18446744073709551616):yc (s.ax nb fr u x):=by
 have a0:=zdx s nb fr u x;unfold St.ax;split
 ·have z:=Jz h.ab nb x.E;have O:∀ C,ZE s.N C:=fun C=>by rw [U];exact .nil C
  unfold zn.ax;split
  ·obtain ⟨k,f,Z,R,X⟩:=Jv nb x.E h.ab.a5 h.ab.hand;have D:=GQ z.ok (k:=k) (slot:=x.slot) (m:=u) (o:=x.after) R X h0;refine ⟨D.ok,fun n E=>?_,O _,?_,?_,?_⟩
   ·show (((s.sto.get nb x.E).setRow x.E x.slot x.after u).E n).ok;by_cases e:n=x.E
    ·subst e;rw [D.E,z.E];exact zfm (h.ok _ E) Y.after h0 L
    ·rw [D.b9 n e,z.E];exact h.ok n E
   ·show ((s.sto.get nb x.E).setRow x.E x.slot x.after u).J < _;rw [D.J,z.J];exact h.J
   ·show ((s.sto.get nb x.E).setRow x.E x.slot x.after u).Q.length<=_;rw [D.Q,z.Q];exact h.Q
   ·show 0<((s.sto.get nb x.E).setRow x.E x.slot x.after u).J;rw [D.J,z.J];exact h.g0
  ·exact h.bx (s':={ s with sto:=s.sto.get nb x.E }) z rfl
 ·exact h
theorem zha (u:Nat):∀ (rs:List zQ) (n:Nat),∀ e,e∈qL u n rs->e.1≠0
 | [],n,e,h=>by cases h
 | x::rs,n,e,h=>by
  rcases zO.1 h with rfl | h
  ·simp only [jj];omega
  ·exact zha u rs _ e h
theorem zkI {s:St} (h:qM s.sto.fs) {nb fr u:Nat} {x:zQ} (z:u<18446744073709551616):qM (s.ax nb fr u x).sto.fs:=by
 unfold St.ax;split
 ·show qM (s.sto.ax nb fr u x).fs;unfold zn.ax;split
  ·exact zcj (JM h _ _) _ _ _ z
  ·exact JM h _ _
 ·exact h
theorem yc.redoTo {nbs:Nat->Nat} {fr:Nat} {es:List (Nat × zQ)} (U:∀ e,e∈es->e.2.ok/\e.1≠0/\e.1<18446744073709551616):∀ (j:Nat) {s:St},yc s->s.N=[]->qM s.sto.fs->yc (redoTo nbs fr es j s)/\(redoTo nbs fr es j s).N=[]/\qM (redoTo nbs fr es j s).sto.fs/\(redoTo nbs fr es j s).ts=s.ts/\(redoTo nbs fr es j s).sto.Q=s.sto.Q/\(redoTo nbs fr es j s).sto.J=s.sto.J/\(redoTo nbs fr es j s).lk=s.lk
 | 0,s,h,hi,hsi=>⟨h,hi,hsi,rfl,rfl,rfl,rfl⟩
 | j+1,s,h,hi,hsi=>by
  obtain ⟨u,a2,z,D,E,L,O⟩:=yc.redoTo (nbs:=nbs) (fr:=fr) U j h hi hsi;simp only [Go.Proofs.YtechnoogjhohfaaGreat.redoTo];cases Z:es[j]? with
  | none=>exact ⟨u,a2,z,D,E,L,O⟩
  | some e =>obtain ⟨X,Y,R⟩:=U e (zC Z);obtain ⟨b1,b2,b3,b4,b5⟩:=zdx (Go.Proofs.YtechnoogjhohfaaGreat.redoTo nbs fr es j s) (nbs j) fr e.1 e.2;exact ⟨u.ax a2 X Y R,b1.trans a2,zkI z R,b2.trans D,b3.trans E,b4.trans L,b5.trans O⟩
theorem yc.e0 {s:St} (h:yc s) (z:qM s.sto.fs) (nbs:Nat->Nat):∀ k,k<=6->yc (qa nbs k s)/\qM (qa nbs k s).sto.fs/\(qa nbs k s).ts=s.ts/\(qa nbs k s).sto.Q=s.sto.Q/\(qa nbs k s).sto.J=s.sto.J/\(qa nbs k s).lk=s.lk
 | 0,_=>⟨h,z,rfl,rfl,rfl,rfl⟩
 | k+1,hk=>by
  obtain ⟨u,a2,D,E,L,O⟩:=h.e0 z nbs k (by omega);have hs:=Jz u.ab (nbs k) k;have R:=ZE.e0 k (by omega) (u.ok k (by omega)).b5 (uc ((qa nbs k s).sto.E k)) u.cl fun p X=>by have:=((vT _ _ p).1 X).2;simpa using this
  refine ⟨⟨hs.ok,fun n U=>?_,?_,?_,?_,?_⟩,JM a2 _ _,D,hs.Q.trans E,hs.J.trans L,O⟩
  ·show (((qa nbs k s).sto.get (nbs k) k).E n).ok;rw [hs.E];exact u.ok n U
  ·exact R.congr fun n _=>by show (((qa nbs k s).sto.get (nbs k) k).E n).ap=_;rw [hs.E]
  ·show ((qa nbs k s).sto.get (nbs k) k).J < _;rw [hs.J];exact u.J
  ·show ((qa nbs k s).sto.get (nbs k) k).Q.length<=_;rw [hs.Q];exact u.Q
  ·show 0<((qa nbs k s).sto.get (nbs k) k).J;rw [hs.J];exact u.g0
theorem yc.az {s:St} (h:yc s) (U:qM s.sto.fs) {r nb txn T:Nat} {x:Tx} {l:List Chg} {c:Chg} (h3:txn<=3) (Y:s.ts[txn]?=some (some (T,x))) (Z:x.ok) (D:x.I=l++[c]) (O:s.sto.Q.length+395<=14336) :
  yc (s.az r nb txn)/\qM (s.az r nb txn).sto.fs/\(s.az r nb txn).ts=s.ts.set txn (some (T,⟨l,x.ag,x.ops⟩))/\(s.az r nb txn).sto.J=s.sto.J/\(s.az r nb txn).lk=s.lk/\(s.az r nb txn).sto.Q.length<=s.sto.Q.length+395:=by
 have X:s.az r nb txn={ s.al r nb 4 txn c.pg c.sl c.aa with ts:=s.ts.set txn (some (T,⟨l,x.ag,x.ops⟩)) }:=by unfold St.az;simp only [Y,D,List.getLast?_append,List.getLast?_singleton,Option.some_or,List.dropLast_concat]
 obtain ⟨E,z,L⟩:=Z.al c (by rw [D];simp);have u:=Ym h.ab r nb 4 txn c.pg c.sl c.aa;have a0:=yU (h.gb (r:=r) (nb:=nb) (kind:=4) (txn:=txn) E z L (.inr rfl) (by omega));have R:(s.al r nb 4 txn c.pg c.sl c.aa).sto.Q=s.sto.Q++qG (yk r 4 txn c.pg c.sl (s.sto.get nb c.pg) (s.sto.E c.pg) c.aa):=u.Q;have hlen:(s.al r nb 4 txn c.pg c.sl c.aa).sto.Q.length<=s.sto.Q.length+395:=by rw [R,zl];omega
 rw [X];exact ⟨(h.al (r:=r) (nb:=nb) E z L (.inr rfl) (show txn<=255 by omega) O).same rfl rfl,zci U h.J h.Q r nb 4 txn c.pg c.sl c.aa,rfl,u.J,rfl,hlen⟩
theorem yc.ai {r txn T:Nat} {nbs:Nat->Nat} (D:txn<=3):∀ (m j:Nat) {s:St} {x:Tx},yc s->qM s.sto.fs->s.ts[txn]?=some (some (T,x))->x.ok->m<=x.I.length->s.sto.Q.length+m*395<=14336 ->
  yc (St.ai r txn nbs j m s)/\qM (St.ai r txn nbs j m s).sto.fs/\(∃ y,(St.ai r txn nbs j m s).ts=s.ts.set txn y)/\(St.ai r txn nbs j m s).sto.J=s.sto.J/\(St.ai r txn nbs j m s).lk=s.lk/\(St.ai r txn nbs j m s).sto.Q.length<=s.sto.Q.length+m*395
 | 0,j,s,x,h,hsi,hx,_,_,_=>⟨h,hsi,⟨_,(zdA hx).symm⟩,rfl,rfl,by rw [Nat.zero_mul];exact za _⟩
 | m+1,j,s,x,h,hsi,hx,hok,hm,hfit=>by
  obtain ⟨l,c,u⟩:∃ l c,x.I=l++[c]:=by
   have E:x.I≠[]:=fun e=>by rw [e] at hm;simp at hm
   exact ⟨x.I.dropLast,x.I.getLast E,(List.dropLast_concat_getLast E).symm⟩
  rw [Nat.succ_mul] at hfit;obtain ⟨L,a2,z,O,R,Y⟩:=h.az hsi (r:=r) (nb:=nbs j) D hx hok u (by omega);have U:=(zr.1 hx).1;have Z:x.I.length=l.length+1:=by rw [u];simp
  have X:Tx.ok ⟨l,x.ag,x.ops⟩:=⟨hok.n8,by have:=hok.len;show l.length<=x.ops;omega,hok.s4,fun d hd=>hok.al d (by rw [u];exact List.mem_append_left _ hd)⟩;obtain ⟨b1,b2,⟨y,b3⟩,b4,b5,b6⟩:=yc.ai (nbs:=nbs) D m (j+1) (x:=⟨l,x.ag,x.ops⟩) L a2 (by rw [z,qw U]) X (by simp only;omega) (by omega);refine ⟨b1,b2,⟨y,?_⟩,b4.trans O,b5.trans R,?_⟩
  ·show (St.ai r txn nbs (j+1) m (s.az r (nbs j) txn)).ts=_;rw [b3,z,List.set_set]
  ·show (St.ai r txn nbs (j+1) m (s.az r (nbs j) txn)).sto.Q.length<=_;rw [Nat.succ_mul];omega
theorem zpL {s:JC} {x:zQ} (z:x.ok) (h:∀ c,c∈s.l->c.pg<6/\c.sl<5/\js c.aa):∀ c,c∈(s.step x).l->c.pg<6/\c.sl<5/\js c.aa:=fun c u=>by
 unfold JC.step at u;split at u
 ·rcases ja.1 u with u | u
  ·exact h c u
  ·simp at u;subst u;exact ⟨z.E,z.slot,z.aa⟩
 ·split at u
  ·exact h c (List.dropLast_subset _ u)
  ·split at u
   ·cases u
   ·exact h c u
theorem zqo {rs:List zQ} (h:∀ x,x∈rs->x.ok) (i:Nat):∀ c,c∈(lsr rs i).l->c.pg<6/\c.sl<5/\js c.aa:=by
 have key:∀ (rs:List zQ) (s:JC),(∀ x,x∈rs->x.ok)->(∀ c,c∈s.l->c.pg<6/\c.sl<5/\js c.aa)->∀ c,c∈(rs.foldl (fun s x=>if x.txn=i/\x.kind≠7 then s.step x else s) s).l->c.pg<6/\c.sl<5/\js c.aa:=by
  intro rs;induction rs with
  | nil=>intro s _ h;exact h
  | cons x rs ih =>
   intro s z D;rw [jM];refine ih _ (fun y E=>z y (jh _ E)) ?_;split
   ·exact zpL (z x (ji ..)) D
   ·exact D
 unfold lsr;split
 ·unfold uh;exact key rs ⟨[],false⟩ h fun c u=>by cases u
 ·intro c u;cases u
theorem yc.lose {s:St} (h:yc s) (O:qM s.sto.fs) (R:s.ts=uT) (z:s.lk=[]) {r n T:Nat} {nbs:Nat->Nat} {rs:List zQ} (hn:n<=3) (a5:∀ x,x∈rs->x.ok) (X:(lsr rs n).l.length<=8) (hfit:s.sto.Q.length+yP rs n<=14336) :
  yc (lose r rs n T nbs s)/\qM (lose r rs n T nbs s).sto.fs/\(lose r rs n T nbs s).ts=uT/\(lose r rs n T nbs s).lk=[]/\(lose r rs n T nbs s).sto.J=s.sto.J/\(lose r rs n T nbs s).sto.Q.length<=s.sto.Q.length+yP rs n:=by
 unfold Go.Proofs.YtechnoogjhohfaaGreat.lose;by_cases L:(lsr rs n).o=true
 ·rw [if_pos L];obtain ⟨l,D⟩:=ex ((lsr rs n).l);have E:yP rs n=if l=[] then 0 else (l.length+1)*395:=by unfold yP;rw [L,D];simp
  rw [<- D] at X ⊢;have a8:Tx.ok ⟨l,[],l.length⟩:=⟨X,za _,by simp,fun c hc=>zqo a5 n c (by rw [<- D];exact hc)⟩;have hs:n<(uT).length:=by show n<4;omega
  have h0:yc { s with ts:=s.ts.set n (some (T,⟨l,[],l.length⟩)) }:=h.same rfl rfl;have a7:({ s with ts:=s.ts.set n (some (T,⟨l,[],l.length⟩)) }:St).ts[n]?=some (some (T,⟨l,[],l.length⟩)):=by show (s.ts.set n _)[n]?=_;rw [R,qw hs]
  have a0:s.sto.Q.length+l.length*395<=14336:=by
   rw [E] at hfit;split at hfit
   ·rename_i e;rw [e,jr,Nat.zero_mul];omega
   ·rw [Nat.succ_mul] at hfit;omega
  obtain ⟨Z,a2,⟨y,a3⟩,a4,U,a6⟩:=yc.ai (r:=r) (nbs:=nbs) hn l.length 0 h0 O a7 a8 (za _) a0;have Y:(St.ai r n nbs 0 l.length { s with ts:=s.ts.set n (some (T,⟨l,[],l.length⟩)) }).ts.set n none=uT:=by
   rw [a3];show ((s.ts.set n _).set n y).set n none=uT;rw [List.set_set,List.set_set,R];obtain rfl | rfl | rfl | rfl:n=0∨n=1∨n=2∨n=3:=by omega
   all_goals rfl
  unfold St.be;simp only;by_cases u:l=[]
  ·subst u;rw [if_pos rfl];exact ⟨h.same rfl rfl,O,Y,by rw [U];show dropM s.lk _=_;rw [z];rfl,rfl,Nat.le_add_right _ _⟩
  ·rw [if_neg u];rw [if_neg u] at E;have hend:=zab (txn:=n) (by omega);have b9:=yU hend;have a9:(St.ai r n nbs 0 l.length { s with ts:=s.ts.set n (some (T,⟨l,[],l.length⟩)) }).sto.Q.length<=s.sto.Q.length+l.length*395:=a6;rw [Nat.succ_mul] at E;have a1:=Z.au hend (by omega);refine ⟨a1.same rfl rfl,a2,Y,by rw [U];show dropM s.lk _=_;rw [z];rfl,a4,?_⟩;show ((St.ai r n nbs 0 l.length { s with ts:=s.ts.set n (some (T,⟨l,[],l.length⟩)) }).sto.Q++qG (Kd n)).length<=_;rw [zl];omega
 ·rw [if_neg L];exact ⟨h,O,R,z,rfl,Nat.le_add_right _ _⟩
theorem zfr:vS uT:=⟨rfl,rfl,fun i T x h=>by
 have:=zC h;simp [uT] at this⟩
theorem zkc {cr:Nat->List UInt8} {r:Nat} {o:zdG} (h:Km cr r o) (nb1 nb2 Ts:Nat->Nat) (nb3:Nat->Nat->Nat):jO (yn r o.J o.bank o.rs o.dp nb1 nb2 Ts nb3).a1/\(yn r o.J o.bank o.rs o.dp nb1 nb2 Ts nb3).a1.sto.J=o.J+1/\(yn r o.J o.bank o.rs o.dp nb1 nb2 Ts nb3).a1.ts=uT:=by
 have X:∀ (i:Nat) (f:zx) (x:Nat × Nat × Pg),jA[i]?=some f->¬ f.pg=some x:=fun i f x L hp=>by have:f∈jA:=zC L;simp [jA,zx.none] at this;subst this;cases hp
 have hok:qX (zaV o.J o.bank o.rs o.dp):=⟨rfl,Nat.zero_lt_succ _,fun i j n O hj=>by
  obtain ⟨f,b,p,u,U⟩:=Zq O;exact absurd U (X i f _ u),fun i f b n p L hp _=>absurd hp (X i f _ L),za _⟩
 have hpg:∀ n,(zaV o.J o.bank o.rs o.dp).E n=o.dp n:=fun n=>vj fun i O=>by obtain ⟨f,b,p,u,U⟩:=Zq O;exact absurd U (X i f _ u)
 have hfit:=h.di;have hg:=h.i2;have hI:yc (Zj o.J o.bank o.rs o.dp):=⟨hok,fun n _=>by show ((zaV o.J o.bank o.rs o.dp).E n).ok;rw [hpg];exact h.cx n,.nil _,by show o.J < _;omega,by show (zq o.rs).length<=_;omega,h.g0⟩;have b9:qM (Zj o.J o.bank o.rs o.dp).sto.fs:=fun f L=>by have a0:f∈jA:=L;simp [jA,zx.none] at a0;subst a0;decide
 obtain ⟨a1,a2,a3,a4,a5,a6,a7⟩:=yc.redoTo (nbs:=nb1) (fr:=vr (qL o.J 0 o.rs)) (es:=qL o.J 0 o.rs) (fun e he=>⟨h.ok _ (zaD o.J o.rs 0 e he),zha _ _ _ e he,by
  have u:=zeN o.J o.rs 0 e he;rw [qy] at u;exact Nat.lt_trans u (zhG (by omega) (by omega))⟩) o.rs.length hI rfl b9
 obtain ⟨b1,b2,b3,b4,b5,b6⟩:=a1.e0 a3 nb2 6 (za _);have key:∀ k,k<=4->yc (yb r o.rs Ts nb3 k (qa nb2 6 (redoTo nb1 (vr (qL o.J 0 o.rs)) (qL o.J 0 o.rs) o.rs.length (Zj o.J o.bank o.rs o.dp))))/\qM (yb r o.rs Ts nb3 k (qa nb2 6 (redoTo nb1 (vr (qL o.J 0 o.rs)) (qL o.J 0 o.rs) o.rs.length (Zj o.J o.bank o.rs o.dp)))).sto.fs/\(yb r o.rs Ts nb3 k (qa nb2 6 (redoTo nb1 (vr (qL o.J 0 o.rs)) (qL o.J 0 o.rs) o.rs.length (Zj o.J o.bank o.rs o.dp)))).ts=uT/\(yb r o.rs Ts nb3 k (qa nb2 6 (redoTo nb1 (vr (qL o.J 0 o.rs)) (qL o.J 0 o.rs) o.rs.length (Zj o.J o.bank o.rs o.dp)))).lk=[]/\(yb r o.rs Ts nb3 k (qa nb2 6 (redoTo nb1 (vr (qL o.J 0 o.rs)) (qL o.J 0 o.rs) o.rs.length (Zj o.J o.bank o.rs o.dp)))).sto.J=o.J/\(yb r o.rs Ts nb3 k (qa nb2 6 (redoTo nb1 (vr (qL o.J 0 o.rs)) (qL o.J 0 o.rs) o.rs.length (Zj o.J o.bank o.rs o.dp)))).sto.Q.length<=(zq o.rs).length+((List.range k).map fun i=>yP o.rs i).sum:=by
  intro k;induction k with
  | zero=>intro _;exact ⟨b1,b2,b3.trans a4,b6.trans a7,b5.trans a6,by show (qa nb2 6 _).sto.Q.length<=_;rw [b4,a5];simp [Zj,zaV]⟩
  | succ k ih =>
   intro z;obtain ⟨c1,c2,c3,c4,c5,c6⟩:=ih (by omega);have c0:yP o.rs 0=0:=by unfold yP;rw [show lsr o.rs 0=⟨[],false⟩ from if_neg (by omega)];simp
   have c7:((List.range k).map fun i=>yP o.rs i).sum+yP o.rs k<=yP o.rs 1+yP o.rs 2+yP o.rs 3:=by
    obtain rfl | rfl | rfl | rfl:k=0∨k=1∨k=2∨k=3:=by omega
    all_goals simp [List.range_succ,c0]<;>omega
   obtain ⟨d1,d2,d3,d4,d5,d6⟩:=c1.lose c2 c3 c4 (r:=r) (n:=k) (T:=Ts k) (nbs:=nb3 k) (by omega) h.ok (h.h8 k) (by omega);refine ⟨d1,d2,d3,d4,d5.trans c5,?_⟩;rw [List.range_succ,List.map_append,List.sum_append];simp only [List.map_cons,List.map_nil,List.sum_cons,List.sum_nil];refine zz d6 ?_;omega
 have a8:yc (yn r o.J o.bank o.rs o.dp nb1 nb2 Ts nb3)/\qM (yn r o.J o.bank o.rs o.dp nb1 nb2 Ts nb3).sto.fs/\(yn r o.J o.bank o.rs o.dp nb1 nb2 Ts nb3).ts=uT/\(yn r o.J o.bank o.rs o.dp nb1 nb2 Ts nb3).lk=[]/\(yn r o.J o.bank o.rs o.dp nb1 nb2 Ts nb3).sto.J=o.J:=by obtain ⟨D,Y,E,Z,R,_⟩:=key 4 (za _);exact ⟨D,Y,E,Z,R⟩
 generalize yn r o.J o.bank o.rs o.dp nb1 nb2 Ts nb3=S at a8 ⊢;clear key b1 b2 b3 b4 b5 b6 a1 a2 a3 a4 a5 a6 a7 hI hok hpg b9 X;obtain ⟨D,Y,E,Z,R⟩:=a8;have hx:vS S.ts:=by rw [E];exact zfr
 have z:=ZL D.ab S.ts;obtain ⟨u,U⟩:=Zo.bb D.ab hx;refine ⟨⟨⟨⟨z.ok,fun n hn=>?_,?_,?_,by omega,?_⟩,u,hx,?_,Kh Y 6⟩,fun i T x O=>?_⟩,?_,E⟩
 ·show ((S.sto.bb S.ts).E n).ok;rw [z.E];exact D.ok n hn
 ·exact D.cl.congr fun n _=>by show ((S.sto.bb S.ts).E n).ap=_;rw [z.E]
 ·show (S.sto.bb S.ts).J < _;rw [z.J,R];exact hg
 ·show 0<(S.sto.bb S.ts).J;rw [z.J];exact Nat.succ_pos _
 ·show WF S.lk;rw [Z];exact WF.nil
 ·have a9:S.ts[i]?=some (some (T,x)):=O;rw [E] at a9;have:=zC a9;simp [uT] at this
 ·show (S.sto.bb S.ts).J=_;rw [z.J,R]
theorem znp:jO Zz:=by
 have O:∀ (i:Nat) (f:zx) (x:Nat × Nat × Pg),jA[i]?=some f->¬ f.pg=some x:=fun i f x u h=>by have:f∈jA:=zC u;simp [jA,zx.none] at this;subst this;cases h
 have hok:qX QL:=⟨rfl,Nat.zero_lt_succ _,fun i j n R hj=>by
  obtain ⟨f,b,p,E,L⟩:=Zq R;exact absurd L (O i f _ E),fun i f b n p u h _=>absurd h (O i f _ u),za _⟩
 have hpg:∀ n,QL.E n=Jc:=fun n=>vj fun i R=>by obtain ⟨f,b,p,E,L⟩:=Zq R;exact absurd L (O i f _ E)
 have z:=Ks zfr;have h:qV uT=[qF]:=rfl;rw [h] at z;have D:=(YF zfr) qF (by rw [h];simp);have a1:=zfZ D.1 D.2.1 D.2.2;have U:QL.Q=zq [qF]:=(ZN qF).symm;have hlen:(zq [qF]).length<=100:=by rw [ZN];exact a1
 have hc:=Gi z zfr;have Y:zav [qF]:=(zaE _).2 ⟨by
  have:jS (zF uT)=0:=rfl;rw [this] at hc;omega,zea z zfr⟩
 refine ⟨⟨⟨hok,fun n _=>by show (QL.E n).ok;rw [hpg];exact zmc,.nil _,by decide,?_,by decide⟩,⟨[qF],1,⟨U,fun x Z=>by simp at Z;subst Z;exact D.1,Nat.zero_lt_succ _,za _,congrArg List.length U,Y,Y,z⟩⟩,zfr,WF.nil,fun f u=>?_⟩,fun i T x a0=>?_⟩
 ·show QL.Q.length<=14336;rw [U];omega
 ·have X:f∈jA:=u;simp [jA,zx.none] at X;subst X;decide
 ·have:=zC a0;simp [Zz,uT] at this
end Go.Proofs.YtechnoogjhohfaaGreat
