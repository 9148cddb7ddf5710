import Derived.Test.YtechnoogjhohfaaGreatM27
import Derived.Test.YtechnoogjhohfaaGreatM31
import Derived.Test.YtechnoogjhohfaaGreatM32
import Derived.Test.YtechnoogjhohfaaGreatM8
set_option maxRecDepth 100000
set_option maxHeartbeats 6400000
set_option linter.unusedVariables false
set_option linter.unusedSimpArgs false
namespace Go.Proofs.YtechnoogjhohfaaGreat
open Go.RowKit Go.Lib
open YtechnoogjhohfaaGreatW
structure ZJ (its:List It) (C:Nat->List (Option Rw)):Prop where
 so:qe its
 mem:∀ x,x∈its->x.pg<6/\x.sl<5/\(C x.pg)[x.sl]?=some (some x.rw)
theorem ZJ.nil (C:Nat->List (Option Rw)):ZJ [] C:=⟨.nil,fun x h=>by cases h⟩
theorem ZJ.congr {D:List It} {C u:Nat->List (Option Rw)} (h:ZJ D C) (e:∀ n,n<6->u n=C n):ZJ D u :=
 ⟨h.so,fun x O=>by obtain ⟨z,E,L⟩:=h.mem x O;exact ⟨z,E,by rw [e _ z];exact L⟩⟩
theorem ZJ.f3 {z:List It} {C:Nat->List (Option Rw)} (h:ZJ z C):z.length<=30:=by
 have:=zhN 30 (codes z) (by
  unfold codes;rw [List.nodup_iff_pairwise_ne,List.pairwise_map];refine List.Pairwise.imp_of_mem ?_ h.so;intro a b R hb D e;obtain ⟨E,a2,u⟩:=h.mem a R;obtain ⟨b1,b2,b3⟩:=h.mem b hb;have L:a.pg=b.pg:=by omega
  have O:a.sl=b.sl:=by omega
  rw [L,O,b3] at u;injection u with u;injection u with u;rw [u] at D;exact ZN _ D) fun x U=>by
  obtain ⟨y,X,rfl⟩:=List.mem_map.1 U;obtain ⟨E,a2,_⟩:=h.mem y X;omega
 simpa [codes] using this
theorem ZJ.al {D:List It} {C:Nat->List (Option Rw)} (h:ZJ D C) {n i:Nat} {o:Option Rw} (hn:n<6) (hi:i<5) (hl:(C n).length=5):ZJ (uj (jT D (((C n)[i]?).getD none)) o n i) (zV C n ((C n).set i o)):=by
 have U:i<(C n).length:=by omega
 have R:(C n)[i]?=some (C n)[i]:=qa U;have O:qe (jT D (((C n)[i]?).getD none))/\∀ x,x∈jT D (((C n)[i]?).getD none)->x∈D/\¬ (x.pg=n/\x.sl=i):=by
  rw [R];cases e:(C n)[i] with
  | none =>refine ⟨h.so,fun x u=>⟨u,?_⟩⟩;rintro ⟨E,L⟩;have z:=(h.mem x u).2.2;rw [E,L,R,e] at z;cases z
  | some b =>refine ⟨qe.rem h.so,fun x u=>?_⟩;obtain ⟨u,hs⟩:=(zgh h.so _ x).1 u;refine ⟨u,fun ⟨E,L⟩=>hs ?_⟩;have z:=(h.mem x u).2.2;rw [E,L,R,e] at z;injection z with z;injection z with z;rw [<- z];exact ⟨rfl,rfl⟩
 have hC:∀ x:It,¬ (x.pg=n/\x.sl=i)->((zV C n ((C n).set i o)) x.pg)[x.sl]?=(C x.pg)[x.sl]?:=fun x a0=>by
  by_cases e:x.pg=n
  ·rw [e,zk,qT (fun Y=>a0 ⟨e,Y.symm⟩)]
  ·rw [zt _ _ e]
 have X:∀ x,x∈jT D (((C n)[i]?).getD none)->x.pg<6/\x.sl<5/\((zV C n ((C n).set i o)) x.pg)[x.sl]?=some (some x.rw):=fun x u=>by obtain ⟨E,L⟩:=O.2 x u;obtain ⟨z,Z,h5⟩:=h.mem x E;exact ⟨z,Z,by rw [hC x L];exact h5⟩
 cases o with
 | none=>exact ⟨O.1,X⟩
 | some b =>
  refine ⟨qe.put O.1 (Cut.bp O.1),fun x u=>?_⟩;rcases (YV O.1 ⟨b,n,i⟩ x).1 u with rfl | ⟨u,_⟩
  ·exact ⟨hn,hi,by simp only;rw [zk,qw U]⟩
  ·exact X x u
theorem ZJ.el {C:Nat->List (Option Rw)} (n:Nat) (D:n<6) (E:(C n).length=5):∀ (L:List (Nat × Rw)) {its:List It},ZJ its C->(∀ p,p∈L->(C n)[p.1]?=some (some p.2))->ZJ (yn n L its) C
 | [],its,h,_=>h
 | p::L,its,h,hL=>by
  have z:=hL p (jj ..);have R:=(zr.1 z).1;refine ZJ.el n D E L ⟨qe.put h.so (Cut.bp h.so),fun x u=>?_⟩ fun q O=>hL q (ji _ O);rcases (YV h.so ⟨p.2,n,p.1⟩ x).1 u with rfl | ⟨u,_⟩
  ·exact ⟨D,by simp only;omega,z⟩
  ·exact h.mem x u
theorem ZJ.pg {s:zn} {z:List It} (h:ZJ z fun n=>(s.E n).ap):∀ y,y∈z->y.pg<6/\y.sl<5:=fun y u=>⟨(h.mem y u).1,(h.mem y u).2.1⟩
structure yg (s:St):Prop where
 ab:qX s.sto
 ok:∀ n,n<6->(s.sto.E n).ok
 cd:ZJ s.N fun n=>(s.sto.E n).ap
 J:s.sto.J<4294967296
 Q:s.sto.Q.length<=14336
 g0:0<s.sto.J
theorem yg.bx {s s':St} (h:yg s) (hs:uI s.sto s'.sto) (u:s'.N=s.N):yg s' :=
 ⟨hs.ok,fun n z=>by rw [hs.E];exact h.ok n z,by rw [u];exact h.cd.congr fun n _=>by simp only [hs.E],by rw [hs.J];exact h.J,by rw [hs.Q];exact h.Q,by rw [hs.J];exact h.g0⟩
theorem yg.same {s s':St} (h:yg s) (hs:s'.sto=s.sto) (u:s'.N=s.N):yg s':=⟨by rw [hs];exact h.ab,by rw [hs];exact h.ok,by rw [hs,u];exact h.cd,by rw [hs];exact h.J,by rw [hs];exact h.Q,by rw [hs];exact h.g0⟩
theorem yg.f0 {s:St} (h:yg s) {r nb kind txn n slot:Nat} {o:Option Rw} (u:n<6) (z:slot<5) (E:jt o) (D:kind=3∨kind=4) (L:txn<=255):(yl r kind txn n slot (s.sto.get nb n) (s.sto.E n) o).ok:=zbD (h.ok n u) D L u z E
theorem yg.al {s:St} (h:yg s) {r nb kind txn n slot:Nat} {o:Option Rw} (z:n<6) (D:slot<5) (E:jt o) (O:kind=3∨kind=4) (U:txn<=255) (hfit:s.sto.Q.length+395<=14336):yg (s.al r nb kind txn n slot o):=by
 have u:=Yp h.ab r nb kind txn n slot o;have R:((s.sto.al r nb kind txn n slot o).E n).ap=(s.sto.E n).ap.set slot o:=by rw [u.E];rfl
 refine ⟨u.ok,fun m hm=>?_,?_,by show (s.sto.al r nb kind txn n slot o).J < _;rw [u.J];exact h.J,?_,by show 0<(s.sto.al r nb kind txn n slot o).J;rw [u.J];exact h.g0⟩
 ·show ((s.sto.al r nb kind txn n slot o).E m).ok;by_cases e:m=n
  ·subst e;rw [u.E];refine zfA (h.ok m hm) E ?_ ?_
   ·unfold jl;omega
   ·unfold jl;have:=h.J;have:=h.Q;refine Nat.lt_of_le_of_lt (Nat.add_le_add_right (Nat.add_le_add (Nat.mul_le_mul_right 1048576 (Nat.le_of_lt h.J)) h.Q) 1) (by decide)
  ·rw [u.b7 m e];exact h.ok m hm
 ·have L:=h.cd.al (o:=o) z D (h.ok n z).b3;refine ZJ.congr L fun m _=>?_;show ((s.sto.al r nb kind txn n slot o).E m).ap=_;by_cases e:m=n
  ·subst e;rw [zk,R]
  ·rw [zt _ _ e,u.b7 m e]
 ·show (s.sto.al r nb kind txn n slot o).Q.length<=_;rw [u.Q,zl];have:=yV (h.f0 (r:=r) (nb:=nb) z D E O U);omega
theorem yg.au {s:St} (h:yg s) {x:zS} (z:x.ok) (hfit:s.sto.Q.length+(qF x).length<=14336):yg { s with sto:=s.sto.au x }:=by
 have hpg:∀ n,(s.sto.au x).E n=s.sto.E n:=fun _=>rfl;refine ⟨⟨h.ab.a3,h.ab.hand,h.ab.cs,h.ab.cc,?_⟩,fun n u=>h.ok n u,h.cd,h.J,?_,h.g0⟩
 ·show s.sto.av<=(s.sto.Q++qF x).length;have:=h.ab.av;rw [zl];omega
 ·show (s.sto.Q++qF x).length<=_;rw [zl];omega
theorem yg.bo {s:St} (h:yg s):yg { s with sto:=s.sto.bo }:=⟨⟨h.ab.a3,h.ab.hand,h.ab.cs,h.ab.cc,za _⟩,h.ok,h.cd,h.J,h.Q,h.g0⟩
theorem zeL {ts:qC} {nbs:Nat->Nat}:∀ (g k:Nat) {s:zn},qX s->uI s (zZ ts nbs g k s).1
 | 0,_,s,h=>uI.refl h
 | g+1,k,s,h=>by
  unfold zZ;have u:=JE h (nbs k) k;split
  ·exact u
  ·exact u.trans (zeL g (k+1) u.ok)
def yO (l:List Chg):Nat:=if l=[] then 0 else (l.length+1)*395
theorem zaG (l:List Chg):yO l<=(l.length+1)*395:=by
 unfold yO;split
 ·exact zU _
 ·exact za _
theorem zlH:yO []=0:=rfl
theorem zke (l:List Chg) (c:Chg):yO l+395<=yO (l++[c]):=by
 have h:yO (l++[c])=(l.length+2)*395:=by unfold yO;rw [if_neg (by simp),zl,List.length_singleton]
 have u:=zaG l;rw [h];omega
def jJ (ts:qC) (i:Nat):List Chg:=match ts[i]? with
 | some (some (_,x))=>x.I
 | _=>[]
def zaA (rs:List zS):Prop:=(zq rs).length+(yO (lsr rs 1).l+yO (lsr rs 2).l+yO (lsr rs 3).l)<=14336/\∀ i,(lsr rs i).l.length<=8
theorem zaA.ih {rs:List zS} (h:zaA rs):(zq rs).length+(yQ rs 1+yQ rs 2+yQ rs 3)<=14336:=by
 have key:∀ i,yQ rs i<=yO (lsr rs i).l:=fun i=>by
  unfold yQ yO;split
  ·exact zU _
  ·rename_i u;rw [if_neg (fun e=>u (.inr e))];exact za _
 have z:=key 1;have D:=key 2;have E:=key 3;have L:=h.1;omega
theorem zfm (rs:List zS) (i:Nat) (h:1<=i) (u:i<=3):lsr rs i=uk rs i:=if_pos ⟨h,u⟩
theorem Gs {rs:List zS} {x:zS} {i:Nat} (h:¬ (x.txn=i/\x.kind≠7)):lsr (rs++[x]) i=lsr rs i:=by
 unfold lsr;split
 ·rw [JZ,if_neg h]
 ·rfl
theorem zdC {rs:List zS} {x:zS} {i:Nat} (h:1<=i) (u:i<=3) (D:x.txn=i) (z:x.kind≠7):lsr (rs++[x]) i=(lsr rs i).step x:=by rw [zfm _ _ h u,zfm _ _ h u,JZ,if_pos ⟨D,z⟩]
theorem zpu (rs:List zS) (i:Nat) (h:¬ (1<=i/\i<=3)):(lsr rs i).l=[]:=by unfold lsr;rw [if_neg h]
def Kn (f:Nat->Nat):Nat:=f 1+f 2+f 3
theorem zdO {f g:Nat->Nat} {t:Nat} (u:1<=t) (z:t<=3) (h:∀ i,i≠t->g i=f i):Kn g+f t=Kn f+g t:=by
 unfold Kn;obtain rfl | rfl | rfl:t=1∨t=2∨t=3:=by omega
 ·rw [h 2 (by omega),h 3 (by omega)];omega
 ·rw [h 1 (by omega),h 3 (by omega)];omega
 ·rw [h 1 (by omega),h 2 (by omega)];omega
def zea (rs:List zS):Nat:=Kn fun i=>yO (lsr rs i).l
theorem zaJ (rs:List zS):zaA rs↔(zq rs).length+zea rs<=14336/\∀ i,(lsr rs i).l.length<=8:=Iff.rfl
theorem zoF (rs:List zS) (x:zS):(zq (rs++[x])).length=(zq rs).length+(qF x).length:=by rw [YY,ZV,zl]
structure zdR (s:St) (rs:List zS) (m:Nat):Prop where
 Q:s.sto.Q=zq rs
 ok:∀ x,x∈rs->x.ok
 m0:0<m
 le:m<=rs.length
 av:s.sto.av=(zq (rs.take m)).length
 ed:zaA rs
 gc:zaA (rs.take m)
 ts:∀ i,1<=i->i<=3->(lsr rs i).l=jJ s.ts i
def Zv (s:St):Prop:=∃ rs m,zdR s rs m
theorem Zv.bx {s s':St} (h:Zv s) (hs:uI s.sto s'.sto) (z:∀ i,1<=i->i<=3->jJ s'.ts i=jJ s.ts i):Zv s':=by
 obtain ⟨rs,m,h⟩:=h;rcases hs.cw with ⟨u,_⟩ | ⟨u,_⟩
 ·exact ⟨rs,m,⟨hs.Q.trans h.Q,h.ok,h.m0,h.le,u.trans h.av,h.ed,h.gc,fun i a b=>(h.ts i a b).trans (z i a b).symm⟩⟩
 ·exact ⟨rs,rs.length,⟨hs.Q.trans h.Q,h.ok,by have:=h.m0;have:=h.le;omega,za _,by rw [u,h.Q,qi],h.ed,by rw [qi];exact h.ed,fun i a b=>(h.ts i a b).trans (z i a b).symm⟩⟩
theorem Zv.bo {s:St} (h:Zv s):Zv { s with sto:=s.sto.bo }:=by obtain ⟨rs,m,h⟩:=h;exact ⟨rs,rs.length,⟨h.Q,h.ok,by have:=h.m0;have:=h.le;omega,za _,by show s.sto.Q.length=_;rw [h.Q,qi],h.ed,by rw [qi];exact h.ed,h.ts⟩⟩
theorem Zv.same {s s':St} (h:Zv s) (hs:s'.sto=s.sto) (u:∀ i,1<=i->i<=3->jJ s'.ts i=jJ s.ts i):Zv s':=by obtain ⟨rs,m,h⟩:=h;exact ⟨rs,m,⟨by rw [hs];exact h.Q,h.ok,h.m0,h.le,by rw [hs];exact h.av,h.ed,h.gc,fun i a b=>(h.ts i a b).trans (u i a b).symm⟩⟩
theorem zdR.bu {s s':St} {rs:List zS} {m:Nat} (h:zdR s rs m) (x:zS) (O:s'.sto.Q=s.sto.Q++qF x) (R:s'.sto.av=s.sto.av∨s'.sto.av=s.sto.Q.length) (U:x.ok) (D:zaA (rs++[x])) (L:∀ i,1<=i->i<=3->(lsr (rs++[x]) i).l=jJ s'.ts i):Zv s':=by
 have hok:∀ y,y∈rs++[x]->y.ok:=fun y u=>by
  rcases ja.1 u with u | u
  ·exact h.ok y u
  ·simp at u;subst u;exact U
 have E:s'.sto.Q=zq (rs++[x]):=by rw [O,h.Q,YY,ZV]
 have hm:=h.m0;have X:=h.le;rcases R with z | z
 ·refine ⟨rs++[x],m,⟨E,hok,h.m0,by rw [zl];omega,?_,D,?_,L⟩⟩
  ·rw [z,h.av,List.take_append_of_le_length h.le]
  ·rw [List.take_append_of_le_length h.le];exact h.gc
 ·have e:(rs++[x]).take rs.length=rs:=List.take_left' rfl;refine ⟨rs++[x],rs.length,⟨E,hok,by omega,by rw [zl];omega,?_,D,?_,L⟩⟩
  ·rw [z,h.Q,e]
  ·rw [e];exact h.ed
structure vU (ts:qC):Prop where
 len:ts.length=4
 zero:ts[0]?=some none
 tx:∀ (i T:Nat) (x:Tx),ts[i]?=some (some (T,x))->x.ok
theorem Zz {ts:qC} {i T:Nat} {x:Tx} (h:ts[i]?=some (some (T,x))):jJ ts i=x.I:=by unfold jJ;rw [h]
theorem uZ {ts:qC} {i T:Nat} {x:Tx} (u:i<ts.length) (j:Nat):jJ (ts.set i (some (T,x))) j=if j=i then x.I else jJ ts j:=by
 unfold jJ;by_cases e:j=i
 ·subst e;rw [qw u,if_pos rfl]
 ·rw [qT (fun h=>e h.symm),if_neg e]
theorem JY {ts:qC} {i:Nat} (u:i<ts.length) (j:Nat):jJ (ts.set i none) j=if j=i then [] else jJ ts j:=by
 unfold jJ;by_cases e:j=i
 ·subst e;rw [qw u,if_pos rfl]
 ·rw [qT (fun h=>e h.symm),if_neg e]
theorem vU.set {ts:qC} (h:vU ts) {i T:Nat} {x:Tx} (L:1<=i) (E:x.ok):vU (ts.set i (some (T,x))):=by
 refine ⟨by rw [List.length_set];exact h.len,by rw [qT (by omega)];exact h.zero,fun j z y u=>?_⟩;by_cases e:i=j
 ·subst e;have D:i<ts.length:=by have:=(zr.1 u).1;rwa [List.length_set] at this
  rw [qw D] at u;injection u with u;injection u with u;injection u with _ u;subst u;exact E
 ·rw [qT e] at u;exact h.tx j z y u
theorem vU.fu {ts:qC} (h:vU ts) {i:Nat} (E:1<=i):vU (ts.set i none):=by
 refine ⟨by rw [List.length_set];exact h.len,by rw [qT (by omega)];exact h.zero,fun j z y u=>?_⟩;by_cases e:i=j
 ·subst e;have D:i<ts.length:=by have:=(zr.1 u).1;rwa [List.length_set] at this
  rw [qw D] at u;injection u with u;cases u
 ·rw [qT e] at u;exact h.tx j z y u
theorem zaM {ts:qC} (h:vU ts) (i:Nat):(jJ ts i).length<=8/\∀ c,c∈jJ ts i->c.pg<6/\c.sl<5/\jt c.aa:=by
 unfold jJ;split
 ·rename_i T x z;have u:=h.tx i T x z;exact ⟨by have D:=u.len;have E:=u.n8;omega,u.al⟩
 ·exact ⟨by simp,fun c h=>by cases h⟩
theorem four {ts:qC} (h:vU ts):∃ b c d,ts=[none,b,c,d]:=by have u:=h.len;have h0:=h.zero;rcases ts with _ | ⟨a,_ | ⟨b,_ | ⟨c,_ | ⟨d,_ | ⟨e,t⟩⟩⟩⟩⟩<;>simp at u;simp at h0;subst h0;exact ⟨b,c,d,rfl⟩
theorem zbb {ts:qC} (h:vU ts):Kn (fun i=>(jJ ts i).length)=jW (zF ts):=by obtain ⟨b,c,d,rfl⟩:=four h;rcases b with _ | ⟨b1,b2⟩<;>rcases c with _ | ⟨u,z⟩<;>rcases d with _ | ⟨D,E⟩<;>simp [Kn,jJ,zF,jc,jW]<;>omega
theorem zqy {ts:qC} (h:vU ts):jW (zF ts)<=24:=by rw [<- zbb h];have u:=(zaM h 1).1;have z:=(zaM h 2).1;have D:=(zaM h 3).1;unfold Kn;simp only;omega
theorem Gk {rs:List zS} {ts:qC} (u:∀ i,1<=i->i<=3->(lsr rs i).l=jJ ts i) (h:vU ts):zea rs<=(jW (zF ts)+3)*395:=by rw [<- zbb h];have z:=zaG (lsr rs 1).l;have D:=zaG (lsr rs 2).l;have E:=zaG (lsr rs 3).l;rw [u 1 (by omega) (by omega)] at z;rw [u 2 (by omega) (by omega)] at D;rw [u 3 (by omega) (by omega)] at E;unfold zea Kn;simp only;rw [u 1 (by omega) (by omega),u 2 (by omega) (by omega),u 3 (by omega) (by omega)];omega
theorem zep {rs:List zS} {ts:qC} (z:∀ i,1<=i->i<=3->(lsr rs i).l=jJ ts i) (h:vU ts):∀ i,(lsr rs i).l.length<=8:=fun i=>by
 by_cases u:1<=i/\i<=3
 ·rw [z i u.1 u.2];exact (zaM h i).1
 ·rw [zpu rs i u];simp
theorem zgo {x:zS} (u:x.ok) (h:x.ao=[]) (hd:x.Y=[]):(qF x).length<=100:=by have z:=zcg u;simp only [qF,ua,Qi,h,hd,zl,zD,jk,List.flatMap_nil];omega
theorem zeH:∀ (l:List zS),(∀ x,x∈l->(qF x).length<=100)->(zq l).length<=l.length*100
 | [],_=>by simp [zq]
 | x::l,h=>by
  have z:=zeH l fun y u=>h y (ji _ u);have D:=h x (jj ..);have e:zq (x::l)=qF x++zq l:=by simp [zq]
  rw [e,zl,zX];omega
theorem zei (i j:Nat):∀ (l:List Chg) (s:JH),((l.map (yR j)).foldl (fun s x=>if x.txn=i/\x.kind≠7 then s.step x else s) s).l=if j=i then s.l++l else s.l
 | [],s=>by simp
 | c::l,s=>by
  rw [List.map_cons,jP,zei i j l];by_cases e:j=i
  ·rw [if_pos e,if_pos e,if_pos ⟨e,by simp [yR]⟩];unfold JH.step;rw [if_pos (by simp [yR])];simp [yR]
  ·rw [if_neg e,if_neg e,if_neg (fun h=>e h.1)]
theorem YI {ts:qC} (h:vU ts):∀ x,x∈qV ts->x.ok/\x.ao=[]/\x.Y=[]:=fun x u=>by
 rcases zO.1 u with rfl | u
 ·exact ⟨⟨by simp [qE],by simp [qE],by simp [qE],by simp [qE],by simp [qE],trivial,trivial,.inl rfl,.inl rfl,by simp [qE]⟩,rfl,rfl⟩
 ·unfold vq at u;obtain ⟨⟨i,T,y⟩,X,u⟩:=List.mem_flatMap.1 u;obtain ⟨g,U,rfl⟩:=List.mem_map.1 u;obtain ⟨k,D,z⟩:=Qg X;rw [qz] at D;subst D;have R:=(zr.1 z).1;rw [h.len] at R;obtain ⟨E,L,O⟩:=(h.tx i T y z).al g U;exact ⟨⟨by simp [yR],by simp [yR],by show i<=255;omega,E,L,O,trivial,.inl rfl,.inl rfl,by simp [yR]⟩,rfl,rfl⟩
theorem Kw {ts:qC} (h:vU ts) (i:Nat) (u:1<=i) (z:i<=3):(lsr (qV ts) i).l=jJ ts i:=by
 obtain ⟨b,c,d,rfl⟩:=four h;rw [zfm _ _ u z];unfold uk qV;rw [jP,if_neg (by simp [qE];omega)];obtain rfl | rfl | rfl:i=1∨i=2∨i=3:=by omega
 all_goals
  rcases b with _ | ⟨b1,b2⟩<;>rcases c with _ | ⟨D,E⟩<;>rcases d with _ | ⟨L,O⟩<;>simp [zF,jc,vq,jJ,zei]
theorem zhW {ts:qC} (h:vU ts):(zq (qV ts)).length<=(jW (zF ts)+1)*100:=by
 have u:=zeH (qV ts) fun x z=>by obtain ⟨a,b,c⟩:=YI h x z;exact zgo a b c
 unfold qV at u ⊢;rw [zX,YC] at u;exact u
theorem Zv.bb {s:St} (E:qX s.sto) (h:vU s.ts):Zv s.a1/\uD s.ts+s.a1.sto.Q.length<=14336:=by
 have u:=ZT E s.ts;have U:=zhW h;have O:=zqy h;have R:=Gk (Kw h) h;have D:s.a1.sto.Q.length=(zq (qV s.ts)).length:=by rw [show s.a1.sto.Q=_ from u.Q]
 have z:zaA (qV s.ts):=(zaJ _).2 ⟨by omega,zep (Kw h) h⟩;refine ⟨⟨qV s.ts,(qV s.ts).length,⟨u.Q,fun x L=>(YI h x L).1,by simp [qV],za _,?_,z,by rw [qi];exact z,Kw h⟩⟩,?_⟩
 ·rw [qi];exact u.av
 ·rw [D];unfold uD;omega
def qL (fs:List zy):Prop:=∀ f,f∈fs->f.ae<18446744073709551616
theorem qL.set {fs:List zy} (h:qL fs) (k:Nat) {f:zy} (z:f.ae<18446744073709551616):qL (fs.set k f):=fun g u=>by
 rcases vi u with u | rfl
 ·exact h g u
 ·exact z
theorem qL.at {fs:List zy} (h:qL fs) {k:Nat} {f:zy} (u:fs[k]?=some f):f.ae<18446744073709551616:=h f (zC u)
theorem zdl {s:zn} (h:qL s.fs) (k:Nat):qL (s.a0 k).fs:=by
 unfold zn.a0;split
 ·exact h
 ·split
  ·exact h
  ·split
   ·exact h
   ·exact h.set k (by simp)
theorem zdi:∀ (g:Nat) {s:zn},qL s.fs->qL (s.bd g).2.fs
 | 0,s,h=>h
 | g+1,s,h=>by
  unfold zn.bd;split
  ·exact h
  ·rename_i f u;split
   ·exact zdi g (h.set _ (show f.ae < _ from h.at u))
   ·exact (zdl (s:={ s with hand:=(s.hand+1) % 3 }) h s.hand).set _ (by decide)
theorem zaW {s:zn} (h:qL s.fs):qL s.room.2.fs:=by
 unfold zn.room;split
 ·exact h
 ·exact zdi 4 h
theorem JR {s:zn} (h:qL s.fs) (nb n:Nat):qL (s.get nb n).fs:=by
 unfold zn.get;split
 ·split
  ·rename_i f u;exact h.set _ (show f.ae < _ from h.at u)
  ·exact h
 ·unfold zn.put zn.ci;split
  ·exact zaW h
  ·rename_i f u;exact (zaW h).set _ (show f.ae < _ from (zaW h).at u)
theorem zdk {s:zn} (h:qL s.fs) (n:Nat):qL (s.bc n).fs:=by
 unfold zn.bc;split
 ·exact h
 ·exact zdl h _
theorem Kl {s:zn} (h:qL s.fs):∀ k,qL (s.a4 k).fs
 | 0=>h
 | k+1=>by rw [zn.b2];exact zdk (Kl h k) k
theorem zcp {s:zn} (h:qL s.fs) (n slot:Nat) (o:Option Rw) {m:Nat} (hm:m<18446744073709551616):qL (s.setRow n slot o m).fs:=by
 unfold zn.setRow;split
 ·exact h
 ·split
  ·exact h
  ·rename_i f u;split
   ·exact h
   ·refine h.set _ ?_;simp only;split
    ·exact hm
    ·exact h.at u
theorem GW {ts:qC} {nbs:Nat->Nat}:∀ (g k:Nat) {s:zn},qL s.fs->qL (zZ ts nbs g k s).1.fs
 | 0,_,s,h=>h
 | g+1,k,s,h=>by
  unfold zZ;split
  ·exact JR h _ _
  ·exact GW g (k+1) (JR h _ _)
theorem zhY {h n:Nat} (u:h<4294967296) (z:n<=14336):jl h n<18446744073709551616:=by unfold jl;exact Nat.lt_of_le_of_lt (Nat.add_le_add_right (Nat.add_le_add (Nat.mul_le_mul_right 1048576 (Nat.le_of_lt u)) z) 1) (by decide)
theorem zco {s:zn} (h:qL s.fs) (u:s.J<4294967296) (z:s.Q.length<=14336) (r nb kind txn n slot:Nat) (o:Option Rw):qL (s.al r nb kind txn n slot o).fs:=by unfold zn.al;exact zcp (s:=(s.get nb n).au _) (JR h nb n) n slot o (zhY u z)
theorem zdj {fs:List zy} (h:qL fs):∀ d,d∈yy fs 3->d<18446744073709551616:=by
 have key:∀ (l:List zy) (a:List Nat),(∀ f,f∈l->f.ae<18446744073709551616)->(∀ d,d∈a->d<18446744073709551616)->∀ d,d∈l.foldl uY a->d<18446744073709551616:=by
  intro l;induction l with
  | nil=>intro a _ h d hd;exact h d hd
  | cons f l ih =>
   intro a u z;rw [jP];refine ih _ (fun g E=>u g (ji _ E)) fun d hd=>?_;unfold uY at hd;split at hd
   ·exact z d hd
   ·rcases vi hd with hd | rfl
    ·exact z d hd
    ·exact u f (jj ..)
 unfold yy;refine key _ _ (fun f D=>h f (List.mem_of_mem_take D)) fun d hd=>?_;have:=List.eq_of_mem_replicate hd;omega
structure ve (s:St):Prop where
 i0:yg s
 l:Zv s
 tx:vU s.ts
 wf:WF s.lk
 ae:qL s.sto.fs
theorem ve.bx {s s':St} (h:ve s) (hs:uI s.sto s'.sto) (D:qL s'.sto.fs) (z:s'.N=s.N) (u:s'.ts=s.ts) (E:WF s'.lk):ve s' :=
 ⟨h.i0.bx hs z,h.l.bx hs fun i _ _=>by rw [u],by rw [u];exact h.tx,E,D⟩
theorem ve.lk {s:St} (h:ve s) {M:Lk} (u:WF M)  :ve { s with lk:=M }:=h.bx (s':={ s with lk:=M }) (uI.refl h.i0.ab) h.ae rfl rfl u
theorem ve.a1 {s:St} (h:ve s) (E:s.sto.J+1<4294967296):ve s.a1/\uD s.ts+s.a1.sto.Q.length<=14336:=by
 have u:=ZT h.i0.ab s.ts;obtain ⟨z,D⟩:=Zv.bb h.i0.ab h.tx;refine ⟨⟨⟨u.ok,fun n L=>?_,?_,?_,by omega,by show 0<(s.sto.bb s.ts).J;rw [u.J];exact Nat.succ_pos _⟩,z,h.tx,h.wf,Kl h.ae 6⟩,D⟩
 ·show ((s.sto.bb s.ts).E n).ok;rw [u.E];exact h.i0.ok n L
 ·exact h.i0.cd.congr fun n _=>by show ((s.sto.bb s.ts).E n).ap=_;rw [u.E]
 ·show (s.sto.bb s.ts).J < _;rw [u.J];exact E
theorem ve.ready {s:St} (h:ve s) (E:s.sto.J+1<4294967296):ve s.ready/\uD s.ts+s.ready.sto.Q.length<=14336/\s.ready.ts=s.ts/\s.ready.N=s.N/\s.ready.sto.J<=s.sto.J+1:=by
 obtain ⟨a,b,c⟩:=ZB s;by_cases u:uD s.ts+s.sto.Q.length<=14336
 ·have e:s.ready=s:=by unfold St.ready;rw [if_pos u]
  rw [e];exact ⟨h,u,rfl,rfl,Nat.le_succ _⟩
 ·have e:s.ready=s.a1:=by unfold St.ready;rw [if_neg u];rfl
  obtain ⟨z,D⟩:=h.a1 E;rw [e];exact ⟨z,D,rfl,rfl,Nat.le_of_eq (ZT h.i0.ab s.ts).J⟩
theorem ve.fk {s:St} (h:ve s) {r nb txn n slot T:Nat} {x:Tx} {o:Option Rw} (h1:1<=txn) (h3:txn<=3) (L:s.ts[txn]?=some (some (T,x))) (h8:x.ops<8) (D:n<6) (U:slot<5) (ho:jt o) (hfit:uD s.ts+s.sto.Q.length<=14336):ve (s.al r nb 3 txn n slot o):=by
 have O:=Yp h.i0.ab r nb 3 txn n slot o;have a3:s.sto.Q.length+395<=14336:=by unfold uD at hfit;omega
 have a0:=h.i0.f0 (r:=r) (nb:=nb) (kind:=3) (txn:=txn) D U ho (.inl rfl) (by omega);have X:txn<s.ts.length:=by rw [h.tx.len];omega
 have Z:=h.tx.tx txn T x L;obtain ⟨c,R⟩:∃ c:Chg,c=⟨n,slot,yz (s.sto.E n) slot⟩:=⟨_,rfl⟩;have u:(s.al r nb 3 txn n slot o).ts=s.ts.set txn (some (T,⟨x.I++[c],x.ag,x.ops+1⟩)):=by show Ju s.ts txn ⟨n,slot,yz (s.sto.E n) slot⟩=_;unfold Ju;rw [L,R]
 have hy:Tx.ok ⟨x.I++[c],x.ag,x.ops+1⟩:=by
  have hb:=zcV (h.i0.ok n D) slot;refine ⟨by show x.ops+1<=8;omega,by have:=Z.len;show (x.I++[c]).length<=x.ops+1;simp;omega,Z.s4,fun d hd=>?_⟩;rcases ja.1 hd with hd | hd
  ·exact Z.al d hd
  ·simp at hd;subst hd;rw [R];exact ⟨D,U,hb⟩
 have E:=h.tx.set (T:=T) h1 hy;obtain ⟨rs,m,z⟩:=h.l;have Y:∀ i,1<=i->i<=3->(lsr (rs++[yl r 3 txn n slot (s.sto.get nb n) (s.sto.E n) o]) i).l=jJ (s.al r nb 3 txn n slot o).ts i:=fun i a b=>by
  rw [u,uZ X];by_cases e:i=txn
  ·subst e;rw [if_pos rfl,zdC a b rfl (by simp [yl])];unfold JH.step;rw [if_pos (.inr rfl)];show (lsr rs i).l++[_]=_;rw [z.ts i a b,Zz L,R];rfl
  ·rw [if_neg e,Gs (fun hh=>e hh.1.symm)];exact z.ts i a b
 have a1:=Gk Y (by rw [u];exact E);have a5:jW (zF (s.al r nb 3 txn n slot o).ts)=jW (zF s.ts)+1:=by
  rw [<- zbb h.tx,u,<- zbb E];have:=zdO (f:=fun i=>(jJ s.ts i).length) (g:=fun i=>(jJ (s.ts.set txn (some (T,⟨x.I++[c],x.ag,x.ops+1⟩))) i).length) h1 h3 fun i a4=>by simp only [uZ X,if_neg a4]
  simp only [uZ X,if_true,Zz L,zl,List.length_singleton] at this ⊢;omega
 have a6:=yV a0;refine ⟨h.i0.al D U ho (.inl rfl) (by omega) a3,z.bu _ O.Q ?_ a0 ((zaJ _).2 ⟨?_,zep Y (by rw [u];exact E)⟩) Y,by rw [u];exact E,h.wf,zco h.ae h.i0.J h.i0.Q r nb 3 txn n slot o⟩
 ·rw [show (s.al r nb 3 txn n slot o).sto.av=_ from O.av];rcases O.bx.cw with ⟨e,_⟩ | ⟨e,_⟩
  ·exact .inl e
  ·exact .inr e
 ·rw [zoF,<- z.Q];rw [a5] at a1;unfold uD at hfit;omega
def uA (ts:qC):Nat:=Kn fun i=>yO (jJ ts i)
theorem zeY {rs:List zS} {ts:qC} (h:∀ i,1<=i->i<=3->(lsr rs i).l=jJ ts i):zea rs=uA ts:=by unfold zea uA Kn;simp only;rw [h 1 (by omega) (by omega),h 2 (by omega) (by omega),h 3 (by omega) (by omega)]
theorem Zv.db {s:St} (h:Zv s):s.sto.Q.length+uA s.ts<=14336:=by obtain ⟨rs,m,h⟩:=h;rw [h.Q,<- zeY h.ts];exact h.ed.1
theorem zdR.f4 {s s':St} {rs:List zS} {m:Nat} (h:zdR s rs m) (x:zS) (z:s'.sto.Q=s.sto.Q++qF x) (D:s'.sto.av=s.sto.av∨s'.sto.av=s.sto.Q.length) (L:x.ok) (E:vU s'.ts) (hfit:s'.sto.Q.length+uA s'.ts<=14336) (u:∀ i,1<=i->i<=3->(lsr (rs++[x]) i).l=jJ s'.ts i):Zv s':=by refine h.bu x z D L ((zaJ _).2 ⟨?_,zep u E⟩) u;rw [zeY u,YY,ZV,<- h.Q,<- z];exact hfit
theorem zlI {ts:qC} (h:vU ts) {t T:Nat} {x y:Tx} (z:1<=t) (D:t<=3) (L:ts[t]?=some (some (T,x))):uA (ts.set t (some (T,y)))+yO x.I=uA ts+yO y.I:=by
 have u:t<ts.length:=by rw [h.len];omega
 have:=zdO (f:=fun i=>yO (jJ ts i)) (g:=fun i=>yO (jJ (ts.set t (some (T,y))) i)) z D fun i E=>by simp only [uZ u,if_neg E]
 simp only [uZ u,if_true,Zz L] at this;unfold uA;simp only [uZ u];exact this
theorem zdZ {ts:qC} (h:vU ts) {t T:Nat} {x:Tx} (z:1<=t) (D:t<=3) (L:ts[t]?=some (some (T,x))):uA (ts.set t none)+yO x.I=uA ts:=by
 have u:t<ts.length:=by rw [h.len];omega
 have:=zdO (f:=fun i=>yO (jJ ts i)) (g:=fun i=>yO (jJ (ts.set t none) i)) z D fun i E=>by simp only [JY u,if_neg E]
 simp only [JY u,if_true,Zz L,zlH,Nat.add_zero] at this;unfold uA;simp only [JY u];exact this
theorem ve.az {s:St} (h:ve s) {r nb txn T:Nat} {x:Tx} {l:List Chg} {c:Chg} (O:1<=txn) (h3:txn<=3) (z:s.ts[txn]?=some (some (T,x))) (u:x.I=l++[c]) :
  ve (s.az r nb txn)/\(s.az r nb txn).ts=s.ts.set txn (some (T,⟨l,x.ag,x.ops⟩))/\(s.az r nb txn).sto.J=s.sto.J/\(s.az r nb txn).lk=s.lk/\(s.az r nb txn).sto.Q.length<=s.sto.Q.length+395:=by
 have hu:s.az r nb txn={ s.al r nb 4 txn c.pg c.sl c.aa with ts:=s.ts.set txn (some (T,⟨l,x.ag,x.ops⟩)) }:=by unfold St.az;simp only [z,u,List.getLast?_append,List.getLast?_singleton,Option.some_or,List.dropLast_concat]
 have D:=h.tx.tx txn T x z;obtain ⟨Y,U,Z⟩:=D.al c (by rw [u];simp);have E:=Yp h.i0.ab r nb 4 txn c.pg c.sl c.aa;have a0:=h.i0.f0 (r:=r) (nb:=nb) (kind:=4) (txn:=txn) Y U Z (.inr rfl) (by omega);have a8:=yV a0;have a5:txn<s.ts.length:=by rw [h.tx.len];omega
 have hy:Tx.ok ⟨l,x.ag,x.ops⟩:=⟨D.n8,by have:=D.len;rw [u] at this;simp at this;show l.length<=x.ops;omega,D.s4,fun d hd=>D.al d (by rw [u];exact List.mem_append_left _ hd)⟩;have a1:=h.tx.set (T:=T) O hy;have R:=zlI (y:=⟨l,x.ag,x.ops⟩) h.tx O h3 z;have a6:=zke l c;rw [u] at R;have hfit:=h.l.db;have a4:s.sto.Q.length+395<=14336:=by
  have a7:yO (l++[c])<=uA s.ts:=by
   rw [<- u,<- Zz z];unfold uA Kn;obtain rfl | rfl | rfl:txn=1∨txn=2∨txn=3:=by omega
   all_goals simp only;omega
  omega
 have X:(s.al r nb 4 txn c.pg c.sl c.aa).sto.Q=s.sto.Q++qF (yl r 4 txn c.pg c.sl (s.sto.get nb c.pg) (s.sto.E c.pg) c.aa):=E.Q;have hlen:(s.al r nb 4 txn c.pg c.sl c.aa).sto.Q.length<=s.sto.Q.length+395:=by rw [X,zl];omega
 have a3:=h.i0.al (r:=r) (nb:=nb) Y U Z (.inr rfl) (show txn<=255 by omega) a4;obtain ⟨rs,m,L⟩:=h.l;rw [hu];refine ⟨⟨a3.same rfl rfl,?_,a1,h.wf,zco h.ae h.i0.J h.i0.Q r nb 4 txn c.pg c.sl c.aa⟩,rfl,E.J,rfl,hlen⟩;refine L.f4 _ X ?_ a0 a1 ?_ fun i a b=>?_
 ·show (s.al r nb 4 txn c.pg c.sl c.aa).sto.av=_∨_;rw [show (s.al r nb 4 txn c.pg c.sl c.aa).sto.av=_ from E.av];rcases E.bx.cw with ⟨e,_⟩ | ⟨e,_⟩
  ·exact .inl e
  ·exact .inr e
 ·show (s.al r nb 4 txn c.pg c.sl c.aa).sto.Q.length+uA (s.ts.set txn (some (T,⟨l,x.ag,x.ops⟩)))<=14336;simp only at R;omega
 ·show _=jJ (s.ts.set txn (some (T,⟨l,x.ag,x.ops⟩))) i;rw [uZ a5];by_cases e:i=txn
  ·subst e;rw [if_pos rfl,zdC a b rfl (by simp [yl])];unfold JH.step;rw [if_neg (by simp [yl]),if_pos (by rfl)];show (lsr rs i).l.dropLast=_;rw [L.ts i a b,Zz z,u,List.dropLast_concat]
  ·rw [if_neg e,Gs (fun hh=>e hh.1.symm)];exact L.ts i a b
theorem ve.ai {r txn T:Nat} {nbs:Nat->Nat} (z:1<=txn) (D:txn<=3):∀ (m j:Nat) {s:St} {x:Tx},ve s->s.ts[txn]?=some (some (T,x))->m<=x.I.length ->
  ve (St.ai r txn nbs j m s)/\(St.ai r txn nbs j m s).ts=s.ts.set txn (some (T,⟨x.I.take (x.I.length-m),x.ag,x.ops⟩))/\(St.ai r txn nbs j m s).sto.J=s.sto.J/\(St.ai r txn nbs j m s).lk=s.lk/\(St.ai r txn nbs j m s).sto.Q.length<=s.sto.Q.length+m*395
 | 0,j,s,x,h,hx,_=>by refine ⟨h,?_,rfl,rfl,by rw [Nat.zero_mul];exact za _⟩;rw [Nat.sub_zero,qi];exact (zdM hx).symm
 | m+1,j,s,x,h,hx,hm=>by
  obtain ⟨l,c,u⟩:∃ l c,x.I=l++[c]:=by
   have E:x.I≠[]:=fun e=>by rw [e] at hm;simp at hm
   exact ⟨x.I.dropLast,x.I.getLast E,(List.dropLast_concat_getLast E).symm⟩
  obtain ⟨L,a2,O,R,Y⟩:=h.az (r:=r) (nb:=nbs j) z D hx u;have U:txn<s.ts.length:=by rw [h.tx.len];omega
  have X:x.I.length=l.length+1:=by rw [u];simp
  obtain ⟨b1,b2,b3,b4,b5⟩:=ve.ai (nbs:=nbs) z D m (j+1) (x:=⟨l,x.ag,x.ops⟩) L (by rw [a2,qw U]) (by simp only;omega);refine ⟨b1,?_,b3.trans O,b4.trans R,?_⟩
  ·show (St.ai r txn nbs (j+1) m (s.az r (nbs j) txn)).ts=_;rw [b2,a2,List.set_set];congr 4;simp only;rw [X,u,show l.length+1-(m+1)=l.length-m by omega,List.take_append_of_le_length (by omega)]
  ·show (St.ai r txn nbs (j+1) m (s.az r (nbs j) txn)).sto.Q.length<=_;rw [Nat.succ_mul];omega
def Ql (x:Tx):Prop:=x.ag.Pairwise (·<=·)/\∀ k,k∈x.ag->k<=x.I.length
structure jR (s:St):Prop where
 c:ve s
 sv:∀ (i T:Nat) (x:Tx),s.ts[i]?=some (some (T,x))->Ql x
theorem zhi {s:St} (h:Zv s) (O:vU s.ts) {txn T:Nat} {x:Tx} (z:1<=txn) (D:txn<=3) (u:s.ts[txn]?=some (some (T,x))):s.sto.Q.length+yO x.I<=14336:=by
 have E:=h.db;have L:yO x.I<=uA s.ts:=by
  rw [<- Zz u];unfold uA Kn;obtain rfl | rfl | rfl:txn=1∨txn=2∨txn=3:=by omega
  all_goals simp only;omega
 omega
theorem jR.iq {s:St} (h:jR s) {txn T:Nat} {x:Tx} (z:1<=txn) (D:txn<=3) (u:s.ts[txn]?=some (some (T,x))) (E:s.sto.J+1<4294967296):zab s x :=
 ⟨h.c.wf,h.c.i0.cd.so,by have:=h.c.i0.cd.f3;omega,h.c.i0.cd.pg,E,(h.sv txn T x u).2,zhi h.c.l h.c.tx z D u⟩
theorem zeO {ts:qC} (h:∀ (i T:Nat) (x:Tx),ts[i]?=some (some (T,x))->Ql x) {t T:Nat} {y:Tx} (E:Ql y):∀ (i z:Nat) (x:Tx),(ts.set t (some (T,y)))[i]?=some (some (z,x))->Ql x:=fun i z x u=>by
 by_cases e:t=i
 ·subst e;have D:t<ts.length:=by have:=(zr.1 u).1;rwa [List.length_set] at this
  rw [qw D] at u;injection u with u;injection u with u;injection u with _ u;subst u;exact E
 ·rw [qT e] at u;exact h i z x u
theorem zfC {ts:qC} (h:∀ (i T:Nat) (x:Tx),ts[i]?=some (some (T,x))->Ql x) {t:Nat}:∀ (i z:Nat) (x:Tx),(ts.set t none)[i]?=some (some (z,x))->Ql x:=fun i z x u=>by
 by_cases e:t=i
 ·subst e;have D:t<ts.length:=by have:=(zr.1 u).1;rwa [List.length_set] at this
  rw [qw D] at u;injection u with u;cases u
 ·rw [qT e] at u;exact h i z x u
theorem jR.lk {s:St} (h:jR s) {M:Lk} (u:WF M):jR { s with lk:=M }:=⟨h.c.lk u,h.sv⟩
theorem jR.ready {s:St} (h:jR s) (u:s.sto.J+1<4294967296):jR s.ready:=⟨(h.c.ready u).1,by rw [(h.c.ready u).2.2.1];exact h.sv⟩
theorem jR.fk {s:St} (h:jR s) {r nb txn n slot T:Nat} {x:Tx} {o:Option Rw} (z:1<=txn) (D:txn<=3) (u:s.ts[txn]?=some (some (T,x))) (E:x.ops<8) (R:n<6) (L:slot<5) (U:jt o) (hfit:uD s.ts+s.sto.Q.length<=14336):jR (s.al r nb 3 txn n slot o):=by
 refine ⟨h.c.fk z D u E R L U hfit,?_⟩;have hs:=h.sv txn T x u;have X:(s.al r nb 3 txn n slot o).ts=s.ts.set txn (some (T,⟨x.I++[⟨n,slot,yz (s.sto.E n) slot⟩],x.ag,x.ops+1⟩)):=by show Ju s.ts txn ⟨n,slot,yz (s.sto.E n) slot⟩=_;unfold Ju;rw [u]
 rw [X];exact zeO h.sv ⟨hs.1,fun k O=>by have:=hs.2 k O;show k<=(x.I++[_]).length;simp;omega⟩
theorem zfg {s:St} (h:ve s) {r nb kind txn n slot:Nat} {o:Option Rw}:(s.al r nb kind txn n slot o).sto.J=s.sto.J:=(Yp h.i0.ab r nb kind txn n slot o).J
theorem jR.put {s:St} (h:jR s) {r nb txn T:Nat} {nbs:Nat->Nat} {x:Tx} {rw:Rw} (O:1<=txn) (R:txn<=3) (Y:s.ts[txn]?=some (some (T,x))) (hok:rw.ok) (U:s.sto.J+1<4294967296):jR (s.put r nbs nb txn x.ops rw).2/\(s.put r nbs nb txn x.ops rw).2.sto.J<=s.sto.J+1:=by
 have X:=h.c.wf.keyS txn rw.t (zb rw.k);have E:=h.lk X;unfold St.put;split
 ·exact ⟨h,Nat.le_succ _⟩
 ·split
  ·exact ⟨E,Nat.le_succ _⟩
  ·rename_i h8;split
   ·rename_i y hy;obtain ⟨p1,p2⟩:=h.c.i0.cd.pg y (zbM hy);obtain ⟨z,a2,u,Z,D⟩:=E.c.ready U;refine ⟨(E.ready U).fk O R (T:=T) (x:=x) (by rw [u];exact Y) (by omega) p1 p2 hok (by rw [u];exact a2),?_⟩;rw [zfg z];exact D
   ·have hs:=zeL (ts:=s.ts) (nbs:=nbs) 6 0 h.c.i0.ab;have a3:=GW (ts:=s.ts) (nbs:=nbs) 6 0 h.c.ae;have a4:(zZ s.ts nbs 6 0 s.sto).1.J=s.sto.J:=hs.J;have L:jR { s with lk:=keyS s.lk txn rw.t (zb rw.k),sto:=(zZ s.ts nbs 6 0 s.sto).1 }:=⟨h.c.bx hs a3 rfl rfl X,h.sv⟩;split
    ·exact ⟨L,by show (zZ s.ts nbs 6 0 s.sto).1.J<=_;omega⟩
    ·rename_i n i a1;have a0:=KV a1;obtain ⟨z,a2,u,Z,D⟩:=L.c.ready (by show (zZ s.ts nbs 6 0 s.sto).1.J+1 < _;omega);refine ⟨(L.ready (by show (zZ s.ts nbs 6 0 s.sto).1.J+1 < _;omega)).fk O R (T:=T) (x:=x) (by rw [u];exact Y) (by omega) (by omega) a0.2 hok (by rw [u];exact a2),?_⟩;rw [zfg z];have a6:_<=(zZ s.ts nbs 6 0 s.sto).1.J+1:=D;omega
theorem jR.bt {s:St} (h:jR s) {r nb txn T t:Nat} {k:List UInt8} {x:Tx} (R:1<=txn) (U:txn<=3) (Z:s.ts[txn]?=some (some (T,x))) (E:s.sto.J+1<4294967296):jR (s.bt r nb txn x.ops t k).2/\(s.bt r nb txn x.ops t k).2.sto.J<=s.sto.J+1:=by
 have Y:=h.c.wf.keyS txn t (zb k);have u:=h.lk Y;unfold St.bt;split
 ·exact ⟨h,Nat.le_succ _⟩
 ·cases X:yY s.N ⟨t,k,[]⟩ with
  | none=>exact ⟨u,Nat.le_succ _⟩
  | some y =>
   by_cases D:8<=x.ops
   ·simp only [St.ds,if_pos D];exact ⟨u,Nat.le_succ _⟩
   ·simp only [St.ds,if_neg D];obtain ⟨p1,p2⟩:=h.c.i0.cd.pg y (zbM X);obtain ⟨L,a2,z,a4,O⟩:=u.c.ready E;refine ⟨(u.ready E).fk R U (T:=T) (x:=x) (o:=none) (by rw [z];exact Z) (by omega) p1 p2 trivial (by rw [z];exact a2),?_⟩;rw [zfg L];exact O
theorem jR.b5 {s:St} (h:jR s) {r txn T:Nat} {nbs:Nat->Nat} {x:Tx} {n:Int} (R:1<=txn) (h3:txn<=3) (O:s.ts[txn]?=some (some (T,x))):jR (s.a5 r txn nbs T x n).2/\(s.a5 r txn nbs T x n).2.sto.J=s.sto.J:=by
 have hs:=h.sv txn T x O;have E:=h.c.tx.tx txn T x O;unfold St.a5;cases hb:x.b5 n with
 | none=>exact ⟨h,rfl⟩
 | some p =>
  obtain ⟨k,y⟩:=p;obtain ⟨hk,u,Z,a6⟩:=zhc hs.2 hb;have U:txn<s.ts.length:=by rw [h.c.tx.len];omega
  have a5:y.ok:=⟨by rw [Z];exact E.n8,by rw [u,Z];exact E.len,zA a6 E.s4,by rw [u];exact E.al⟩;have h0:ve { s with ts:=s.ts.set txn (some (T,y)) }:=⟨h.c.i0.same rfl rfl,h.c.l.same rfl (fun i _ _=>by
   show jJ (s.ts.set txn (some (T,y))) i=_;rw [uZ U];split
   ·rename_i e;rw [e,u,Zz O]
   ·rfl),h.c.tx.set R a5,h.c.wf,h.c.ae⟩
  obtain ⟨a1,a2,a3,a7,a8⟩:=ve.ai (r:=r) (nbs:=nbs) R h3 (x.I.length-k) 0 (x:=y) h0 (qw U) (by rw [u];omega);refine ⟨⟨a1,?_⟩,a3⟩;simp only;rw [a2];show ∀ (i T':Nat) (z:Tx),((s.ts.set txn (some (T,y))).set txn (some (T,(⟨y.I.take (y.I.length-(x.I.length-k)),y.ag,y.ops⟩:Tx))))[i]?=some (some (T',z))->Ql z;rw [List.set_set];refine zeO h.sv ?_;have Y:y.ag.Pairwise (·<=·)/\∀ j,j∈y.ag->j<=k:=by
   unfold Tx.b5 at hb;split at hb
   ·cases hb
   ·rename_i hc;cases L:x.ag[n.toNat-1]? with
    | none=>rw [L] at hb;cases hb
    | some k' =>
     rw [L] at hb;simp only [ql,je,Prod.mk.injEq] at hb;obtain ⟨rfl,rfl⟩:=hb;refine ⟨hs.1.sublist (List.take_sublist _ _),fun j D=>?_⟩;simp only at D;obtain ⟨i,hi,rfl⟩:=List.mem_iff_getElem.1 D;rw [qf] at hi;rw [List.getElem_take];obtain ⟨a0,X⟩:=zr.1 L;rcases Nat.lt_or_ge i (n.toNat-1) with a4 | a9
     ·have:=List.pairwise_iff_getElem.1 hs.1 i (n.toNat-1) (by omega) a0 a4;rw [X] at this;exact this
     ·have e:i=n.toNat-1:=by omega
      subst e;rw [X];exact za _
  refine ⟨Y.1,fun j D=>?_⟩;have:=Y.2 j D;simp only [qf];rw [u];omega
theorem ve.f2 {s:St} (h:ve s) {txn T:Nat} {x:Tx} (u:1<=txn) (O:txn<=3) (L:s.ts[txn]?=some (some (T,x))) (z:x.I=[]) {M:Lk} (E:WF M):ve { s with ts:=s.ts.set txn none,lk:=M }:=by
 have D:txn<s.ts.length:=by rw [h.tx.len];omega
 exact ⟨h.i0.same rfl rfl,h.l.same rfl (fun i _ _=>by
  show jJ (s.ts.set txn none) i=_;rw [JY D];split
  ·rename_i e;rw [e,Zz L,z]
  ·rfl),h.tx.fu u,E,h.ae⟩
theorem ve.h3 {s:St} (h:ve s) {txn T:Nat} {x:Tx} {e:zS} (R:1<=txn) (Z:txn<=3) (hx:s.ts[txn]?=some (some (T,x))) (D:e.ok) (u:e.kind=5∨e.kind=6) (L:e.txn=txn) (hfit:s.sto.Q.length+395+uA (s.ts.set txn none)<=14336) {M:Lk} (Y:WF M):ve { s with sto:=s.sto.au e,ts:=s.ts.set txn none,lk:=M }:=by
 have X:txn<s.ts.length:=by rw [h.tx.len];omega
 have hr:=yV D;have O:=h.tx.fu (i:=txn) R;have hlen:(s.sto.au e).Q.length<=s.sto.Q.length+395:=by show (s.sto.Q++qF e).length<=_;rw [zl];omega
 obtain ⟨rs,m,E⟩:=h.l;have h0:=h.i0.au D (by omega);refine ⟨h0.same rfl rfl,E.f4 e rfl (.inl rfl) D O (by show (s.sto.au e).Q.length+uA (s.ts.set txn none)<=14336;omega) fun i a b=>?_,O,Y,h.ae⟩;show _=jJ (s.ts.set txn none) i;rw [JY X];by_cases z:i=txn
 ·subst z;rw [if_pos rfl,zdC a b L (by rcases u with u | u<;>rw [u]<;>decide)];unfold JH.step;rw [if_neg (by omega),if_neg (by omega),if_pos u]
 ·rw [if_neg z,Gs (fun U=>z (by rw [<- U.1,L]))];exact E.ts i a b
theorem jR.am {s:St} (h:jR s) {txn T:Nat} {x:Tx} (z:1<=txn) (D:txn<=3) (E:s.ts[txn]?=some (some (T,x))):jR (s.am txn x)/\(s.am txn x).sto.J=s.sto.J:=by
 have L:=h.c.wf.dropM txn;unfold St.am;by_cases u:x.I=[]
 ·rw [if_pos u];exact ⟨⟨h.c.f2 z D E u L,zfC h.sv⟩,rfl⟩
 ·rw [if_neg u];have R:=zdZ h.c.tx z D E;have O:790<=yO x.I:=by unfold yO;rw [if_neg u];have:=List.length_pos_iff.2 u;omega
  have hfit:=h.c.l.db;have h0:=h.c.h3 z D E (Ks (txn:=txn) (by omega)) (.inl rfl) rfl (by omega) L;exact ⟨⟨⟨h0.i0.bo,h0.l.bo,h0.tx,h0.wf,h0.ae⟩,zfC h.sv⟩,rfl⟩
theorem jR.be {s:St} (h:jR s) {r txn T:Nat} {nbs:Nat->Nat} {x:Tx} (u:1<=txn) (D:txn<=3) (X:s.ts[txn]?=some (some (T,x))):jR (s.be r txn nbs x)/\(s.be r txn nbs x).sto.J=s.sto.J:=by
 obtain ⟨L,a2,Z,a4,a5⟩:=ve.ai (r:=r) (nbs:=nbs) u D x.I.length 0 h.c X (za _);rw [Nat.sub_self,List.take_zero] at a2;have a1:txn<s.ts.length:=by rw [h.c.tx.len];omega
 have U:(St.ai r txn nbs 0 x.I.length s).ts[txn]?=some (some (T,⟨[],x.ag,x.ops⟩)):=by rw [a2,qw a1]
 have R:WF (dropM (St.ai r txn nbs 0 x.I.length s).lk txn):=by rw [a4];exact h.c.wf.dropM txn
 have O:∀ (i Y:Nat) (z:Tx),((St.ai r txn nbs 0 x.I.length s).ts.set txn none)[i]?=some (some (Y,z))->Ql z:=by rw [a2,List.set_set];exact zfC h.sv
 unfold St.be;by_cases E:x.I=[]
 ·rw [if_pos E];have e:St.ai r txn nbs 0 x.I.length s=s:=by rw [E];rfl
  rw [e] at L U R O ⊢;exact ⟨⟨L.f2 u D U rfl R,O⟩,rfl⟩
 ·rw [if_neg E];have a3:=zdZ h.c.tx u D X;have a0:yO x.I=(x.I.length+1)*395:=by unfold yO;rw [if_neg E]
  have hfit:=h.c.l.db;have e2:(St.ai r txn nbs 0 x.I.length s).ts.set txn none=s.ts.set txn none:=by rw [a2,List.set_set]
  have h0:=L.h3 u D U (zaf (txn:=txn) (by omega)) (.inr rfl) rfl (by rw [e2];rw [Nat.succ_mul] at a0;omega) R;exact ⟨⟨h0,O⟩,Z⟩
theorem zrv:Ql uh:=⟨.nil,fun k h=>by cases h⟩
theorem YF {ts:qC}:∀ {k i n:Nat},jY ts k i=some n->i<=n/\n<=3/\ts[n]?=some none
 | 0,i,n,h=>by cases h
 | k+1,i,n,h=>by
  unfold jY at h;split at h
  ·rename_i u;split at h
   ·injection h with h;subst h;rename_i z;exact ⟨za _,u,z⟩
   ·obtain ⟨a,b,c⟩:=YF h;exact ⟨by omega,b,c⟩
  ·cases h
theorem jR.an {s:St} (h:jR s) (T:Nat):jR (s.an T).2/\(s.an T).2.sto=s.sto:=by
 unfold St.an;cases z:Qe s.ts with
 | none=>exact ⟨h,rfl⟩
 | some n =>
  obtain ⟨a,b,c⟩:=YF z;have D:n<s.ts.length:=by rw [h.c.tx.len];omega
  have h0:uh.ok:=⟨by simp [uh],by simp [uh],by simp [uh],fun c u=>by cases u⟩;refine ⟨⟨⟨h.c.i0.same rfl rfl,h.c.l.same rfl (fun i _ _=>?_),h.c.tx.set a h0,h.c.wf,h.c.ae⟩,zeO h.sv zrv⟩,rfl⟩;show jJ (s.ts.set n (some (T,uh))) i=_;rw [uZ D];split
  ·rename_i e;subst e;unfold jJ;rw [c];rfl
  ·rfl
theorem zoB {x:Tx} (h:x.ok):x.bs.2.ok:=by
 unfold Tx.bs;split
 ·exact h
 ·rename_i u;exact ⟨h.n8,h.len,by have:=h.s4;simp only [zl,List.length_singleton];omega,h.al⟩
theorem jR.bs {s:St} (h:jR s) {txn T:Nat} {x:Tx} (D:1<=txn) (U:txn<=3) (z:s.ts[txn]?=some (some (T,x))):jR { s with ts:=s.ts.set txn (some (T,x.bs.2)) }:=by
 have L:txn<s.ts.length:=by rw [h.c.tx.len];omega
 have hs:=h.sv txn T x z;have hok:=zoB (h.c.tx.tx txn T x z);have O:x.bs.2.I=x.I:=by unfold Tx.bs;split<;>rfl
 have R:Ql x.bs.2:=by
  unfold Tx.bs;split
  ·exact hs
  ·refine ⟨List.pairwise_append.2 ⟨hs.1,List.pairwise_singleton _ _,fun a E b hb=>?_⟩,fun k u=>?_⟩
   ·simp at hb;subst hb;exact hs.2 a E
   ·rcases ja.1 u with u | u
    ·exact hs.2 k u
    ·simp at u;subst u;exact za _
 refine ⟨⟨h.c.i0.same rfl rfl,h.c.l.same rfl (fun i _ _=>?_),h.c.tx.set D hok,h.c.wf,h.c.ae⟩,zeO h.sv R⟩;show jJ (s.ts.set txn (some (T,x.bs.2))) i=_;rw [uZ L];split
 ·rename_i e;subst e;rw [O,Zz z]
 ·rfl
theorem jR.bc {s:St} (h:jR s) (n:Nat):jR { s with sto:=s.sto.bc n }:=⟨h.c.bx (zaY h.c.i0.ab n).1 (zdk h.c.ae n) rfl rfl h.c.wf,h.sv⟩
theorem jR.a1 {s:St} (h:jR s) (u:s.sto.J+1<4294967296):jR s.a1:=⟨(h.c.a1 u).1,h.sv⟩
theorem jR.cj {s:St} (h:jR s) (E:s.sto.J+1<4294967296):jR s.cj/\s.cj.sto.J<=s.sto.J+1:=by
 obtain ⟨u,a2,L,Z,O⟩:=h.c.ready E;have Y:=(h.ready E).sv;have D:=zhK (zdj u.ae);have hl:=yV D;have U:uA s.ready.ts<=(jW (zF s.ready.ts)+3)*395:=by obtain ⟨rs,m,z⟩:=u.l;rw [<- zeY z.ts];exact Gk z.ts u.tx
 have hfit:s.ready.sto.Q.length+395+uA s.ready.ts<=14336:=by rw [L] at U ⊢;unfold uD at a2;omega
 have hlen:(s.ready.sto.au (ZH s.ready.sto)).Q.length<=s.ready.sto.Q.length+395:=by show (s.ready.sto.Q++qF (ZH s.ready.sto)).length<=_;rw [zl];omega
 have h0:=u.i0.au D (by omega);obtain ⟨rs,m,z⟩:=u.l;have R:Zv { s.ready with sto:=s.ready.sto.au (ZH s.ready.sto) }:=z.f4 (ZH s.ready.sto) rfl (.inl rfl) D u.tx (by show (s.ready.sto.au (ZH s.ready.sto)).Q.length+uA s.ready.ts<=14336;omega) fun i a b=>by rw [Gs (fun X=>X.2 rfl)];exact z.ts i a b
 exact ⟨⟨⟨h0.bo,R.bo,u.tx,u.wf,u.ae⟩,Y⟩,O⟩
theorem jR.h7 {s s':St} (h:jR s) {r txn T:Nat} {x:Tx} {q:Rq} {rw:Rw} {v:um} {e:Bool} (u:1<=txn) (z:txn<=3) (D:s.ts[txn]?=some (some (T,x))) (hok:rw.ok) (E:s.sto.J+1<4294967296) (L:Gg r s txn T x q rw v e s'):jR s'/\s'.sto.J<=s.sto.J+1:=by
 rcases L with ⟨_,_,_,rfl⟩ | ⟨_,nbs,nb,_,_,rfl⟩ | ⟨_,nb,_,_,rfl⟩ | ⟨_,_,_,rfl⟩ | ⟨_,_,_,rfl⟩ | ⟨_,nbs,_,_,rfl,_⟩ | ⟨_,_,_,rfl⟩ | ⟨_,nbs,_,_,rfl,_⟩
 ·exact ⟨h.lk (h.c.wf.takeS txn _ (by decide)),Nat.le_succ _⟩
 ·exact h.put u z D hok E
 ·exact h.bt u z D E
 ·unfold St.bk;split<;>exact ⟨h.lk (h.c.wf.takeS txn _ (by decide)),Nat.le_succ _⟩
 ·exact ⟨h.bs u z D,Nat.le_succ _⟩
 ·have:=h.b5 (r:=r) (nbs:=nbs) (n:=q.n) u z D;exact ⟨this.1,by rw [this.2];exact Nat.le_succ _⟩
 ·have:=h.am u z D;exact ⟨this.1,by rw [this.2];exact Nat.le_succ _⟩
 ·have:=h.be (r:=r) (nbs:=nbs) u z D;exact ⟨this.1,by rw [this.2];exact Nat.le_succ _⟩
theorem yg.ax {s:St} (h:yg s) (U:s.N=[]) {nb fr u:Nat} {x:zS} (Y:x.ok) (h0:u≠0) (L:u<18446744073709551616):yg (s.ax nb fr u x):=by
 have a0:=zdH s nb fr u x;unfold St.ax;split
 ·have z:=JE h.ab nb x.E;have O:∀ C,ZJ s.N C:=fun C=>by rw [U];exact .nil C
  unfold zn.ax;split
  ·obtain ⟨k,f,Z,R,X⟩:=Jz nb x.E h.ab.a3 h.ab.hand;have D:=GU z.ok (k:=k) (slot:=x.slot) (m:=u) (o:=x.after) R X h0;refine ⟨D.ok,fun n E=>?_,O _,?_,?_,?_⟩
   ·show (((s.sto.get nb x.E).setRow x.E x.slot x.after u).E n).ok;by_cases e:n=x.E
    ·subst e;rw [D.E,z.E];exact zfA (h.ok _ E) Y.after h0 L
    ·rw [D.b7 n e,z.E];exact h.ok n E
   ·show ((s.sto.get nb x.E).setRow x.E x.slot x.after u).J < _;rw [D.J,z.J];exact h.J
   ·show ((s.sto.get nb x.E).setRow x.E x.slot x.after u).Q.length<=_;rw [D.Q,z.Q];exact h.Q
   ·show 0<((s.sto.get nb x.E).setRow x.E x.slot x.after u).J;rw [D.J,z.J];exact h.g0
  ·exact h.bx (s':={ s with sto:=s.sto.get nb x.E }) z rfl
 ·exact h
theorem zhr (u:Nat):∀ (rs:List zS) (n:Nat),∀ e,e∈qK u n rs->e.1≠0
 | [],n,e,h=>by cases h
 | x::rs,n,e,h=>by
  rcases zO.1 h with rfl | h
  ·simp only [jl];omega
  ·exact zhr u rs _ e h
theorem zlb {s:St} (h:qL s.sto.fs) {nb fr u:Nat} {x:zS} (z:u<18446744073709551616):qL (s.ax nb fr u x).sto.fs:=by
 unfold St.ax;split
 ·show qL (s.sto.ax nb fr u x).fs;unfold zn.ax;split
  ·exact zcp (JR h _ _) _ _ _ z
  ·exact JR h _ _
 ·exact h
theorem yg.redoTo {nbs:Nat->Nat} {fr:Nat} {es:List (Nat × zS)} (U:∀ e,e∈es->e.2.ok/\e.1≠0/\e.1<18446744073709551616):∀ (j:Nat) {s:St},yg s->s.N=[]->qL s.sto.fs->yg (redoTo nbs fr es j s)/\(redoTo nbs fr es j s).N=[]/\qL (redoTo nbs fr es j s).sto.fs/\(redoTo nbs fr es j s).ts=s.ts/\(redoTo nbs fr es j s).sto.Q=s.sto.Q/\(redoTo nbs fr es j s).sto.J=s.sto.J/\(redoTo nbs fr es j s).lk=s.lk
 | 0,s,h,hi,hsi=>⟨h,hi,hsi,rfl,rfl,rfl,rfl⟩
 | j+1,s,h,hi,hsi=>by
  obtain ⟨u,a2,z,D,E,L,O⟩:=yg.redoTo (nbs:=nbs) (fr:=fr) U j h hi hsi;simp only [Go.Proofs.YtechnoogjhohfaaGreat.redoTo];cases Z:es[j]? with
  | none=>exact ⟨u,a2,z,D,E,L,O⟩
  | some e =>obtain ⟨X,Y,R⟩:=U e (zC Z);obtain ⟨b1,b2,b3,b4,b5⟩:=zdH (Go.Proofs.YtechnoogjhohfaaGreat.redoTo nbs fr es j s) (nbs j) fr e.1 e.2;exact ⟨u.ax a2 X Y R,b1.trans a2,zlb z R,b2.trans D,b3.trans E,b4.trans L,b5.trans O⟩
theorem yg.el {s:St} (h:yg s) (z:qL s.sto.fs) (nbs:Nat->Nat):∀ k,k<=6->yg (qb nbs k s)/\qL (qb nbs k s).sto.fs/\(qb nbs k s).ts=s.ts/\(qb nbs k s).sto.Q=s.sto.Q/\(qb nbs k s).sto.J=s.sto.J/\(qb nbs k s).lk=s.lk
 | 0,_=>⟨h,z,rfl,rfl,rfl,rfl⟩
 | k+1,hk=>by
  obtain ⟨u,a2,D,E,L,O⟩:=h.el z nbs k (by omega);have hs:=JE u.ab (nbs k) k;have R:=ZJ.el k (by omega) (u.ok k (by omega)).b3 (ug ((qb nbs k s).sto.E k)) u.cd fun p X=>by have:=((vV _ _ p).1 X).2;simpa using this
  refine ⟨⟨hs.ok,fun n U=>?_,?_,?_,?_,?_⟩,JR a2 _ _,D,hs.Q.trans E,hs.J.trans L,O⟩
  ·show (((qb nbs k s).sto.get (nbs k) k).E n).ok;rw [hs.E];exact u.ok n U
  ·exact R.congr fun n _=>by show (((qb nbs k s).sto.get (nbs k) k).E n).ap=_;rw [hs.E]
  ·show ((qb nbs k s).sto.get (nbs k) k).J < _;rw [hs.J];exact u.J
  ·show ((qb nbs k s).sto.get (nbs k) k).Q.length<=_;rw [hs.Q];exact u.Q
  ·show 0<((qb nbs k s).sto.get (nbs k) k).J;rw [hs.J];exact u.g0
theorem yg.az {s:St} (h:yg s) (U:qL s.sto.fs) {r nb txn T:Nat} {x:Tx} {l:List Chg} {c:Chg} (h3:txn<=3) (Y:s.ts[txn]?=some (some (T,x))) (Z:x.ok) (D:x.I=l++[c]) (O:s.sto.Q.length+395<=14336) :
  yg (s.az r nb txn)/\qL (s.az r nb txn).sto.fs/\(s.az r nb txn).ts=s.ts.set txn (some (T,⟨l,x.ag,x.ops⟩))/\(s.az r nb txn).sto.J=s.sto.J/\(s.az r nb txn).lk=s.lk/\(s.az r nb txn).sto.Q.length<=s.sto.Q.length+395:=by
 have X:s.az r nb txn={ s.al r nb 4 txn c.pg c.sl c.aa with ts:=s.ts.set txn (some (T,⟨l,x.ag,x.ops⟩)) }:=by unfold St.az;simp only [Y,D,List.getLast?_append,List.getLast?_singleton,Option.some_or,List.dropLast_concat]
 obtain ⟨E,z,L⟩:=Z.al c (by rw [D];simp);have u:=Yp h.ab r nb 4 txn c.pg c.sl c.aa;have a0:=yV (h.f0 (r:=r) (nb:=nb) (kind:=4) (txn:=txn) E z L (.inr rfl) (by omega));have R:(s.al r nb 4 txn c.pg c.sl c.aa).sto.Q=s.sto.Q++qF (yl r 4 txn c.pg c.sl (s.sto.get nb c.pg) (s.sto.E c.pg) c.aa):=u.Q;have hlen:(s.al r nb 4 txn c.pg c.sl c.aa).sto.Q.length<=s.sto.Q.length+395:=by rw [R,zl];omega
 rw [X];exact ⟨(h.al (r:=r) (nb:=nb) E z L (.inr rfl) (show txn<=255 by omega) O).same rfl rfl,zco U h.J h.Q r nb 4 txn c.pg c.sl c.aa,rfl,u.J,rfl,hlen⟩
theorem yg.ai {r txn T:Nat} {nbs:Nat->Nat} (D:txn<=3):∀ (m j:Nat) {s:St} {x:Tx},yg s->qL s.sto.fs->s.ts[txn]?=some (some (T,x))->x.ok->m<=x.I.length->s.sto.Q.length+m*395<=14336 ->
  yg (St.ai r txn nbs j m s)/\qL (St.ai r txn nbs j m s).sto.fs/\(∃ y,(St.ai r txn nbs j m s).ts=s.ts.set txn y)/\(St.ai r txn nbs j m s).sto.J=s.sto.J/\(St.ai r txn nbs j m s).lk=s.lk/\(St.ai r txn nbs j m s).sto.Q.length<=s.sto.Q.length+m*395
 | 0,j,s,x,h,hsi,hx,_,_,_=>⟨h,hsi,⟨_,(zdM hx).symm⟩,rfl,rfl,by rw [Nat.zero_mul];exact za _⟩
 | m+1,j,s,x,h,hsi,hx,hok,hm,hfit=>by
  obtain ⟨l,c,u⟩:∃ l c,x.I=l++[c]:=by
   have E:x.I≠[]:=fun e=>by rw [e] at hm;simp at hm
   exact ⟨x.I.dropLast,x.I.getLast E,(List.dropLast_concat_getLast E).symm⟩
  rw [Nat.succ_mul] at hfit;obtain ⟨L,a2,z,O,R,Y⟩:=h.az hsi (r:=r) (nb:=nbs j) D hx hok u (by omega);have U:=(zr.1 hx).1;have Z:x.I.length=l.length+1:=by rw [u];simp
  have X:Tx.ok ⟨l,x.ag,x.ops⟩:=⟨hok.n8,by have:=hok.len;show l.length<=x.ops;omega,hok.s4,fun d hd=>hok.al d (by rw [u];exact List.mem_append_left _ hd)⟩;obtain ⟨b1,b2,⟨y,b3⟩,b4,b5,b6⟩:=yg.ai (nbs:=nbs) D m (j+1) (x:=⟨l,x.ag,x.ops⟩) L a2 (by rw [z,qw U]) X (by simp only;omega) (by omega);refine ⟨b1,b2,⟨y,?_⟩,b4.trans O,b5.trans R,?_⟩
  ·show (St.ai r txn nbs (j+1) m (s.az r (nbs j) txn)).ts=_;rw [b3,z,List.set_set]
  ·show (St.ai r txn nbs (j+1) m (s.az r (nbs j) txn)).sto.Q.length<=_;rw [Nat.succ_mul];omega
theorem zqk {s:JH} {x:zS} (z:x.ok) (h:∀ c,c∈s.l->c.pg<6/\c.sl<5/\jt c.aa):∀ c,c∈(s.step x).l->c.pg<6/\c.sl<5/\jt c.aa:=fun c u=>by
 unfold JH.step at u;split at u
 ·rcases ja.1 u with u | u
  ·exact h c u
  ·simp at u;subst u;exact ⟨z.E,z.slot,z.aa⟩
 ·split at u
  ·exact h c (List.dropLast_subset _ u)
  ·split at u
   ·cases u
   ·exact h c u
theorem zqO {rs:List zS} (h:∀ x,x∈rs->x.ok) (i:Nat):∀ c,c∈(lsr rs i).l->c.pg<6/\c.sl<5/\jt c.aa:=by
 have key:∀ (rs:List zS) (s:JH),(∀ x,x∈rs->x.ok)->(∀ c,c∈s.l->c.pg<6/\c.sl<5/\jt c.aa)->∀ c,c∈(rs.foldl (fun s x=>if x.txn=i/\x.kind≠7 then s.step x else s) s).l->c.pg<6/\c.sl<5/\jt c.aa:=by
  intro rs;induction rs with
  | nil=>intro s _ h;exact h
  | cons x rs ih =>
   intro s z D;rw [jP];refine ih _ (fun y E=>z y (ji _ E)) ?_;split
   ·exact zqk (z x (jj ..)) D
   ·exact D
 unfold lsr;split
 ·unfold uk;exact key rs ⟨[],false⟩ h fun c u=>by cases u
 ·intro c u;cases u
theorem yg.lose {s:St} (h:yg s) (O:qL s.sto.fs) (R:s.ts=uR) (z:s.lk=[]) {r n T:Nat} {nbs:Nat->Nat} {rs:List zS} (hn:n<=3) (a5:∀ x,x∈rs->x.ok) (X:(lsr rs n).l.length<=8) (hfit:s.sto.Q.length+yQ rs n<=14336) :
  yg (lose r rs n T nbs s)/\qL (lose r rs n T nbs s).sto.fs/\(lose r rs n T nbs s).ts=uR/\(lose r rs n T nbs s).lk=[]/\(lose r rs n T nbs s).sto.J=s.sto.J/\(lose r rs n T nbs s).sto.Q.length<=s.sto.Q.length+yQ rs n:=by
 unfold Go.Proofs.YtechnoogjhohfaaGreat.lose;by_cases L:(lsr rs n).o=true
 ·rw [if_pos L];obtain ⟨l,D⟩:=ex ((lsr rs n).l);have E:yQ rs n=if l=[] then 0 else (l.length+1)*395:=by unfold yQ;rw [L,D];simp
  rw [<- D] at X ⊢;have a8:Tx.ok ⟨l,[],l.length⟩:=⟨X,za _,by simp,fun c hc=>zqO a5 n c (by rw [<- D];exact hc)⟩;have hs:n<(uR).length:=by show n<4;omega
  have h0:yg { s with ts:=s.ts.set n (some (T,⟨l,[],l.length⟩)) }:=h.same rfl rfl;have a7:({ s with ts:=s.ts.set n (some (T,⟨l,[],l.length⟩)) }:St).ts[n]?=some (some (T,⟨l,[],l.length⟩)):=by show (s.ts.set n _)[n]?=_;rw [R,qw hs]
  have a0:s.sto.Q.length+l.length*395<=14336:=by
   rw [E] at hfit;split at hfit
   ·rename_i e;rw [e,jk,Nat.zero_mul];omega
   ·rw [Nat.succ_mul] at hfit;omega
  obtain ⟨Z,a2,⟨y,a3⟩,a4,U,a6⟩:=yg.ai (r:=r) (nbs:=nbs) hn l.length 0 h0 O a7 a8 (za _) a0;have Y:(St.ai r n nbs 0 l.length { s with ts:=s.ts.set n (some (T,⟨l,[],l.length⟩)) }).ts.set n none=uR:=by
   rw [a3];show ((s.ts.set n _).set n y).set n none=uR;rw [List.set_set,List.set_set,R];obtain rfl | rfl | rfl | rfl:n=0∨n=1∨n=2∨n=3:=by omega
   all_goals rfl
  unfold St.be;simp only;by_cases u:l=[]
  ·subst u;rw [if_pos rfl];exact ⟨h.same rfl rfl,O,Y,by rw [U];show dropM s.lk _=_;rw [z];rfl,rfl,Nat.le_add_right _ _⟩
  ·rw [if_neg u];rw [if_neg u] at E;have hend:=zaf (txn:=n) (by omega);have b9:=yV hend;have a9:(St.ai r n nbs 0 l.length { s with ts:=s.ts.set n (some (T,⟨l,[],l.length⟩)) }).sto.Q.length<=s.sto.Q.length+l.length*395:=a6;rw [Nat.succ_mul] at E;have a1:=Z.au hend (by omega);refine ⟨a1.same rfl rfl,a2,Y,by rw [U];show dropM s.lk _=_;rw [z];rfl,a4,?_⟩;show ((St.ai r n nbs 0 l.length { s with ts:=s.ts.set n (some (T,⟨l,[],l.length⟩)) }).sto.Q++qF (Kh n)).length<=_;rw [zl];omega
 ·rw [if_neg L];exact ⟨h,O,R,z,rfl,Nat.le_add_right _ _⟩
theorem zfE:vU uR:=⟨rfl,rfl,fun i T x h=>by
 have:=zC h;simp [uR] at this⟩
theorem zkv {cr:Nat->List UInt8} {r:Nat} {o:zdS} (h:Kq cr r o) (nb1 nb2 Ts:Nat->Nat) (nb3:Nat->Nat->Nat):jR (ym r o.J o.bank o.rs o.dp nb1 nb2 Ts nb3).a1/\(ym r o.J o.bank o.rs o.dp nb1 nb2 Ts nb3).a1.sto.J=o.J+1/\(ym r o.J o.bank o.rs o.dp nb1 nb2 Ts nb3).a1.ts=uR:=by
 have X:∀ (i:Nat) (f:zy) (x:Nat × Nat × Pg),jA[i]?=some f->¬ f.pg=some x:=fun i f x L hp=>by have:f∈jA:=zC L;simp [jA,zy.none] at this;subst this;cases hp
 have hok:qX (zba o.J o.bank o.rs o.dp):=⟨rfl,Nat.zero_lt_succ _,fun i j n O hj=>by
  obtain ⟨f,b,p,u,U⟩:=Zx O;exact absurd U (X i f _ u),fun i f b n p L hp _=>absurd hp (X i f _ L),za _⟩
 have hpg:∀ n,(zba o.J o.bank o.rs o.dp).E n=o.dp n:=fun n=>vn fun i O=>by obtain ⟨f,b,p,u,U⟩:=Zx O;exact absurd U (X i f _ u)
 have hfit:=h.db;have hg:=h.iy;have hI:yg (Zn o.J o.bank o.rs o.dp):=⟨hok,fun n _=>by show ((zba o.J o.bank o.rs o.dp).E n).ok;rw [hpg];exact h.cu n,.nil _,by show o.J < _;omega,by show (zq o.rs).length<=_;omega,h.g0⟩;have b9:qL (Zn o.J o.bank o.rs o.dp).sto.fs:=fun f L=>by have a0:f∈jA:=L;simp [jA,zy.none] at a0;subst a0;decide
 obtain ⟨a1,a2,a3,a4,a5,a6,a7⟩:=yg.redoTo (nbs:=nb1) (fr:=vu (qK o.J 0 o.rs)) (es:=qK o.J 0 o.rs) (fun e he=>⟨h.ok _ (zaI o.J o.rs 0 e he),zhr _ _ _ e he,by
  have u:=zfe o.J o.rs 0 e he;rw [qz] at u;exact Nat.lt_trans u (zhY (by omega) (by omega))⟩) o.rs.length hI rfl b9
 obtain ⟨b1,b2,b3,b4,b5,b6⟩:=a1.el a3 nb2 6 (za _);have key:∀ k,k<=4->yg (jU r o.rs Ts nb3 k (qb nb2 6 (redoTo nb1 (vu (qK o.J 0 o.rs)) (qK o.J 0 o.rs) o.rs.length (Zn o.J o.bank o.rs o.dp))))/\qL (jU r o.rs Ts nb3 k (qb nb2 6 (redoTo nb1 (vu (qK o.J 0 o.rs)) (qK o.J 0 o.rs) o.rs.length (Zn o.J o.bank o.rs o.dp)))).sto.fs/\(jU r o.rs Ts nb3 k (qb nb2 6 (redoTo nb1 (vu (qK o.J 0 o.rs)) (qK o.J 0 o.rs) o.rs.length (Zn o.J o.bank o.rs o.dp)))).ts=uR/\(jU r o.rs Ts nb3 k (qb nb2 6 (redoTo nb1 (vu (qK o.J 0 o.rs)) (qK o.J 0 o.rs) o.rs.length (Zn o.J o.bank o.rs o.dp)))).lk=[]/\(jU r o.rs Ts nb3 k (qb nb2 6 (redoTo nb1 (vu (qK o.J 0 o.rs)) (qK o.J 0 o.rs) o.rs.length (Zn o.J o.bank o.rs o.dp)))).sto.J=o.J/\(jU r o.rs Ts nb3 k (qb nb2 6 (redoTo nb1 (vu (qK o.J 0 o.rs)) (qK o.J 0 o.rs) o.rs.length (Zn o.J o.bank o.rs o.dp)))).sto.Q.length<=(zq o.rs).length+((List.range k).map fun i=>yQ o.rs i).sum:=by
  intro k;induction k with
  | zero=>intro _;exact ⟨b1,b2,b3.trans a4,b6.trans a7,b5.trans a6,by show (qb nb2 6 _).sto.Q.length<=_;rw [b4,a5];simp [Zn,zba]⟩
  | succ k ih =>
   intro z;obtain ⟨c1,c2,c3,c4,c5,c6⟩:=ih (by omega);have c0:yQ o.rs 0=0:=by unfold yQ;rw [show lsr o.rs 0=⟨[],false⟩ from if_neg (by omega)];simp
   have c7:((List.range k).map fun i=>yQ o.rs i).sum+yQ o.rs k<=yQ o.rs 1+yQ o.rs 2+yQ o.rs 3:=by
    obtain rfl | rfl | rfl | rfl:k=0∨k=1∨k=2∨k=3:=by omega
    all_goals simp [List.range_succ,c0]<;>omega
   obtain ⟨d1,d2,d3,d4,d5,d6⟩:=c1.lose c2 c3 c4 (r:=r) (n:=k) (T:=Ts k) (nbs:=nb3 k) (by omega) h.ok (h.h8 k) (by omega);refine ⟨d1,d2,d3,d4,d5.trans c5,?_⟩;rw [List.range_succ,List.map_append,List.sum_append];simp only [List.map_cons,List.map_nil,List.sum_cons,List.sum_nil];refine zA d6 ?_;omega
 have a8:yg (ym r o.J o.bank o.rs o.dp nb1 nb2 Ts nb3)/\qL (ym r o.J o.bank o.rs o.dp nb1 nb2 Ts nb3).sto.fs/\(ym r o.J o.bank o.rs o.dp nb1 nb2 Ts nb3).ts=uR/\(ym r o.J o.bank o.rs o.dp nb1 nb2 Ts nb3).lk=[]/\(ym r o.J o.bank o.rs o.dp nb1 nb2 Ts nb3).sto.J=o.J:=by obtain ⟨D,Y,E,Z,R,_⟩:=key 4 (za _);exact ⟨D,Y,E,Z,R⟩
 generalize ym r o.J o.bank o.rs o.dp nb1 nb2 Ts nb3=S at a8 ⊢;clear key b1 b2 b3 b4 b5 b6 a1 a2 a3 a4 a5 a6 a7 hI hok hpg b9 X;obtain ⟨D,Y,E,Z,R⟩:=a8;have hx:vU S.ts:=by rw [E];exact zfE
 have z:=ZT D.ab S.ts;obtain ⟨u,U⟩:=Zv.bb D.ab hx;refine ⟨⟨⟨⟨z.ok,fun n hn=>?_,?_,?_,by omega,?_⟩,u,hx,?_,Kl Y 6⟩,fun i T x O=>?_⟩,?_,E⟩
 ·show ((S.sto.bb S.ts).E n).ok;rw [z.E];exact D.ok n hn
 ·exact D.cd.congr fun n _=>by show ((S.sto.bb S.ts).E n).ap=_;rw [z.E]
 ·show (S.sto.bb S.ts).J < _;rw [z.J,R];exact hg
 ·show 0<(S.sto.bb S.ts).J;rw [z.J];exact Nat.succ_pos _
 ·show WF S.lk;rw [Z];exact WF.nil
 ·have a9:S.ts[i]?=some (some (T,x)):=O;rw [E] at a9;have:=zC a9;simp [uR] at this
 ·show (S.sto.bb S.ts).J=_;rw [z.J,R]
theorem znN:jR Za:=by
 have O:∀ (i:Nat) (f:zy) (x:Nat × Nat × Pg),jA[i]?=some f->¬ f.pg=some x:=fun i f x u h=>by have:f∈jA:=zC u;simp [jA,zy.none] at this;subst this;cases h
 have hok:qX QQ:=⟨rfl,Nat.zero_lt_succ _,fun i j n R hj=>by
  obtain ⟨f,b,p,E,L⟩:=Zx R;exact absurd L (O i f _ E),fun i f b n p u h _=>absurd h (O i f _ u),za _⟩
 have hpg:∀ n,QQ.E n=Jf:=fun n=>vn fun i R=>by obtain ⟨f,b,p,E,L⟩:=Zx R;exact absurd L (O i f _ E)
 have z:=Kw zfE;have h:qV uR=[qE]:=rfl;rw [h] at z;have D:=(YI zfE) qE (by rw [h];simp);have a1:=zgo D.1 D.2.1 D.2.2;have U:QQ.Q=zq [qE]:=(ZV qE).symm;have hlen:(zq [qE]).length<=100:=by rw [ZV];exact a1
 have hc:=Gk z zfE;have Y:zaA [qE]:=(zaJ _).2 ⟨by
  have:jW (zF uR)=0:=rfl;rw [this] at hc;omega,zep z zfE⟩
 refine ⟨⟨⟨hok,fun n _=>by show (QQ.E n).ok;rw [hpg];exact zmy,.nil _,by decide,?_,by decide⟩,⟨[qE],1,⟨U,fun x Z=>by simp at Z;subst Z;exact D.1,Nat.zero_lt_succ _,za _,congrArg List.length U,Y,Y,z⟩⟩,zfE,WF.nil,fun f u=>?_⟩,fun i T x a0=>?_⟩
 ·show QQ.Q.length<=14336;rw [U];omega
 ·have X:f∈jA:=u;simp [jA,zy.none] at X;subst X;decide
 ·have:=zC a0;simp [Za,uR] at this
end Go.Proofs.YtechnoogjhohfaaGreat
