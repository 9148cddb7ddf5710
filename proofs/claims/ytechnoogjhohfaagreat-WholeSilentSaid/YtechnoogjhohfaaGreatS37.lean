import Derived.Test.YtechnoogjhohfaaGreatS35
import Derived.Test.YtechnoogjhohfaaGreatS36
import Derived.Test.YtechnoogjhohfaaGreatS27
import Derived.Test.YtechnoogjhohfaaGreatS9
import Derived.Test.YtechnoogjhohfaaGreatS8
set_option maxRecDepth 100000
set_option maxHeartbeats 6400000
set_option linter.unusedVariables false
set_option linter.unusedSimpArgs false
namespace Go.Proofs.YtechnoogjhohfaaGreat
open Go.RowKit Go.Lib
open YtechnoogjhohfaaGreatW Go.Proofs.Tryz Go.Proofs.YtechnoogjhohfaaGreat.Tryz
section
theorem zj.g3 {W u:World} {v:Value} (h:zj W v []):zj u v []:=by obtain ⟨A,c,rfl,_,z,D⟩:=h;exact ⟨A,c,rfl,⟨by simp [zD],fun h=>absurd h (by simp)⟩,z,D⟩
structure JN (W:World) (B:Nat) (a:An) (v:ui):Prop where
 Z:a.Z=v.Z
 hd:a.hd=v.hd
 vl:a.vl=zb v.vl
 a7:W.ownsRow 0 34 3 (.slice a.rA a.rn a.rc) v.a7.length (jn v.a7)
 data:(v.data=[]/\zj W (.slice a.dA a.dn a.dc) [])∨W.ownsRow B 5 1 (.slice a.dA a.dn a.dc) v.data.length (zD v.data)
theorem JN.of {W:World} {B:Nat} {a:An} {v:ui} (h:zcI W B a v):JN W B a v:=by
 refine ⟨h.cb.Z,h.cb.hd,h.cb.vl,h.cb.a7,?_⟩;by_cases e:v.data=[]
 ·refine .inl ⟨e,?_⟩;have u:=h.cb.data;rw [e] at u;exact zj.aj rfl u
 ·exact .inr (h.ba e)
theorem JN.r {W:World} {B:Nat} {a:An} {v:ui} (h:JN W B a v):zpP W a v:=by
 refine ⟨h.Z,h.hd,h.vl,h.a7,?_⟩;rcases h.data with ⟨e,u⟩ | u
 ·rw [e];exact u
 ·exact zj.aj rfl u
theorem JN.ac {W D:World} {B:Nat} {a:An} {v:ui} {M:Nat->Prop} (h:JN W B a v) (L:zA M W D) (E:∀ x,M x->qP W x≠34/\x<B):JN D B a v:=by
 refine ⟨h.Z,h.hd,h.vl,own_same h.a7 fun k z=>L.block k (h.a7.lt k z).2 (fun hm=>(E k hm).1 (own_tag h.a7 z)),?_⟩;rcases h.data with ⟨e,u⟩ | u
 ·exact .inl ⟨e,u.g3⟩
 ·exact .inr (own_same u fun k z=>L.block k (u.lt k z).2 (fun hm=>by have:=(E k hm).2;have:=(u.lt k z).1;omega))
theorem JN.below {W u:World} {B:Nat} {a:An} {v:ui} (h:JN W B a v) (hb:zd W u):JN u B a v:=h.ac (M:=fun _=>False) (zA.ak hb) fun _ h=>h.elim
theorem yE.a3 {w:World} {X:Nat} {R:Nat->List Int} {G:Nat->Prop} (h:yE w X R G) {x:Nat} (O:G x):qP w x=54∨qP w x=3:=by
 obtain ⟨v,u,z,U,D⟩:=h;rcases (D x).1 O with rfl | ⟨i,E,L⟩
 ·exact .inl (zh u)
 ·exact .inr (own_tag (z i E) L)
def zrj:List Nat:=[103,222,100001,136,208,150,3,200,204,194,5,139,81,118,86,120,73]
theorem HG.hp {w W:World} {H D boots G:Nat} {E:Nat->Prop} {A:Nat->DT} (h:HG w H D boots G E A) (L:zA E w W) {z t:Nat} {C:Array Value} (R:t ∉ zrj) (u:w.heap[z]?=some (.cells C t (0,0))):W.heap[z]?=some (.cells C t (0,0)) :=
 (L.block z (zi u) (fun O=>R (by have:=(h.a3 O).1;rw [zh u] at this;exact this))).trans u
theorem HG.bp {w:World} {H D boots G:Nat} {u:Nat->Prop} {A:Nat->DT} (h:HG w H D boots G u A):HG w H D boots (G+1) u A:=by obtain ⟨F,cur,ts,z,E,L,O,U,X⟩:=h;exact ⟨F,cur,ts,z,E,L,fun i R=>(O i R).bp,by omega,by omega⟩
theorem HG.hl {w:World} {H D boots G:Nat} {a0:Nat->Prop} {A:Nat->DT} (h:HG w H D boots G a0 A) (hG:G<=100000) {q:Rq} {b:List UInt8} (Z:q.kd=2) (u:(stepD boots A q b).1.Z=0):iok (stepD boots A q b).1.hd:=by
 obtain ⟨F,cur,ts,_,_,X,Y,_⟩:=h;unfold stepD at u ⊢;rw [if_neg (by omega)] at u ⊢;by_cases U:0<=q.kd/\q.kd<=17/\0<=q.tn/\q.tn<4
 ·rw [if_pos U] at u ⊢;have L:q.tn.toNat<4:=by omega
  generalize q.tn.toNat=r at u L ⊢;have z:=X r L;unfold uQ at u ⊢;cases E:(ts r).ad with
  | none =>
   have:(A r).ad=none:=by rw [<- z];unfold Tn.Z;rw [E];rfl
   rw [this] at u ⊢;dsimp only at u ⊢;rw [if_neg (by omega),if_neg (by omega)] at u;cases u
  | some l =>
   have R:=(Y r L).2 l E;have z:A r=⟨(ts r).st,(ts r).ct,some l.Z⟩:=z.symm.trans (Qi E);rw [z] at u ⊢;dsimp only at u ⊢;rw [if_neg (by omega),if_neg (by omega),if_pos Z] at u ⊢;by_cases O:l.Z.hs.length=6
   ·rw [if_pos O] at u;cases u
   ·rw [if_neg O];have h1:=R.ep;have h2:=R.nx;show iok (l.ep*1048576+(l.nx+1));exact iok_of (by omega)
 ·rw [if_neg U] at u;cases u
structure Kl (w:World) (H1 D1 b1 G1:Nat) (o1:Nat->Prop) (A1:Nat->DT) (H2 D2 b2 G2:Nat) (o2:Nat->Prop) (A2:Nat->DT) (X:Nat) (ls:Nat->List Int) (O:Nat->Prop) (W:World):Prop where
 b:zd w W
 g:HG W H1 D1 b1 G1 o1 A1
 h:HG W H2 D2 b2 G2 o2 A2
 x:yE W X ls O
 d1:∀ y,o1 y->¬ o2 y/\¬ O y/\w.heap.size<=y
 d2:∀ y,o2 y->¬ O y/\w.heap.size<=y
 d3:∀ y,O y->w.heap.size<=y
section
variable {w W W':World} {H1 D1 b1 G1 H2 D2 b2 G2 X:Nat} {o1 o2 O:Nat->Prop} {A1 A2:Nat->DT} {ls:Nat->List Int}
theorem Kl.below (h:Kl w H1 D1 b1 G1 o1 A1 H2 D2 b2 G2 o2 A2 X ls O W) (hb:zd W W'):Kl w H1 D1 b1 G1 o1 A1 H2 D2 b2 G2 o2 A2 X ls O W' :=
 ⟨B_call h.b hb,h.g.below hb,h.h.below hb,h.x.below hb,h.d1,h.d2,h.d3⟩
theorem zA.fk {M:Nat->Prop} {w W u:World} (hb:zd w W) (h:zA M W u) (D:∀ y,M y->w.heap.size<=y):zd w u :=
 ⟨h.os.trans hb.os,h.tape.trans hb.tape,h.output.trans hb.output,zz hb.size h.size,fun y z=>(h.block y (qg z hb.size) (fun hm=>by have:=D y hm;omega)).trans (hb.block y z)⟩
theorem Kl.ib (h:Kl w H1 D1 b1 G1 o1 A1 H2 D2 b2 G2 o2 A2 X ls O W) {Y U:Nat} {L:Nat->Prop} {R:Nat->DT} (Z:HG W' H1 D1 Y U L R) (D:zA o1 W W') (hn:∀ y,L y->o1 y∨W.heap.size<=y):Kl w H1 D1 Y U L R H2 D2 b2 G2 o2 A2 X ls O W':=by
 refine ⟨zA.fk h.b D fun y u=>(h.d1 y u).2.2,Z,h.h.same (fun y u=>D.block y (h.h.a3 u).2 (fun z=>(h.d1 y z).1 u)) D.size,h.x.same fun y u=>D.block y (h.x.lt u) (fun z=>(h.d1 y z).2.1 u),fun y u=>?_,h.d2,h.d3⟩;rcases hn y u with z | z
 ·exact h.d1 y z
 ·exact ⟨fun E=>by have:=(h.h.a3 E).2;omega,fun E=>by have:=h.x.lt E;omega,zz h.b.size z⟩
theorem Kl.h9 (h:Kl w H1 D1 b1 G1 o1 A1 H2 D2 b2 G2 o2 A2 X ls O W) {Y U:Nat} {L:Nat->Prop} {R:Nat->DT} (hh:HG W' H2 D2 Y U L R) (D:zA o2 W W') (hn:∀ y,L y->o2 y∨W.heap.size<=y):Kl w H1 D1 b1 G1 o1 A1 H2 D2 Y U L R X ls O W':=by
 refine ⟨zA.fk h.b D fun y u=>(h.d2 y u).2,h.g.same (fun y u=>D.block y (h.g.a3 u).2 (fun z=>(h.d1 y u).1 z)) D.size,hh,h.x.same fun y u=>D.block y (h.x.lt u) (fun z=>(h.d2 y z).1 u),fun y u=>?_,fun y u=>?_,h.d3⟩
 ·obtain ⟨a,b,c⟩:=h.d1 y u;refine ⟨fun E=>?_,b,c⟩;rcases hn y E with Z | Z
  ·exact a Z
  ·have:=(h.g.a3 u).2;omega
 ·rcases hn y u with z | z
  ·exact h.d2 y z
  ·exact ⟨fun E=>by have:=h.x.lt E;omega,zz h.b.size z⟩
theorem Kl.gz (h:Kl w H1 D1 b1 G1 o1 A1 H2 D2 b2 G2 o2 A2 X ls O W) {Y:Nat->List Int} {E:Nat->Prop} (Z:yE W' X Y E) (D:zA O W W') (U:∀ y,E y->O y∨W.heap.size<=y):Kl w H1 D1 b1 G1 o1 A1 H2 D2 b2 G2 o2 A2 X Y E W':=by
 refine ⟨zA.fk h.b D h.d3,h.g.same (fun y u=>D.block y (h.g.a3 u).2 (h.d1 y u).2.1) D.size,h.h.same (fun y u=>D.block y (h.h.a3 u).2 (h.d2 y u).1) D.size,Z,fun y u=>?_,fun y u=>?_,fun y u=>?_⟩
 ·obtain ⟨a,b,c⟩:=h.d1 y u;refine ⟨a,fun R=>?_,c⟩;rcases U y R with z | z
  ·exact b z
  ·have:=(h.g.a3 u).2;omega
 ·obtain ⟨b,c⟩:=h.d2 y u;refine ⟨fun R=>?_,c⟩;rcases U y R with z | z
  ·exact b z
  ·have:=(h.h.a3 u).2;omega
 ·rcases U y u with L | L
  ·exact h.d3 y L
  ·exact zz h.b.size L
end
def Qt (i:Nat) (h:Nat->List Int):Prop:=∀ j,j<4->(h j).length<=i/\∀ z,z∈h j->iok z
theorem Qt.gz {i:Nat} {E:Nat->List Int} (h:Qt i E) {kd tn L hd:Int} (R:kd=2->L=0->iok hd):Qt (i+1) (ZD E kd tn L hd):=by
 have hm:Qt (i+1) E:=fun j u=>⟨Nat.le_succ_of_le (h j u).1,(h j u).2⟩;unfold ZD;split
 ·rename_i O;intro j u;by_cases e:j=tn.toNat
  ·subst e;rw [zk];refine ⟨by rw [zl];have:=(h _ u).1;simp;omega,fun z D=>?_⟩;rcases ja.1 D with D | D
   ·exact (h _ u).2 z D
   ·simp at D;subst D;exact R O.1 O.2.1
  ·rw [zy _ _ e];exact hm j u
 ·exact hm
theorem Qt.i1 {i:Nat} {u:Nat->List Int} (h:Qt i u) {q:Rq} {D:Int} {L:Bool} (E:iok q.hd):iok (Zw u q D L).hd:=by
 unfold Zw;split
 ·rename_i O;dsimp only;cases e:(u (Qq q.tn))[(u (Qq q.tn)).length-1-Qq D % (u (Qq q.tn)).length]? with
  | none=>exact iok_of (by rw [Option.getD_none];omega)
  | some z=>exact (h _ (zdp q.tn).2).2 z (zC e)
 ·exact E
end
theorem QQ {k x y:Nat} (u:x<256 ^ k) (z:y<256 ^ k) (h:zR k x=zR k y):x=y:=by have:=congrArg QG h;rwa [KS,KS,Nat.mod_eq_of_lt u,Nat.mod_eq_of_lt z] at this
theorem zay {x y:Nat} (u:x<256) (z:y<256) (h:UInt8.ofNat x=UInt8.ofNat y):x=y:=by have:=congrArg UInt8.toNat h;simp only [UInt8.toNat_ofNat'] at this;omega
theorem znV {r s:Rw} (Z:r.ok) (hs:s.ok) (h:yZ r=yZ s):r=s:=by obtain ⟨t,k,v⟩:=r;obtain ⟨t2,k2,v2⟩:=s;obtain ⟨z,a2,D⟩:=Z;obtain ⟨b1,b2,b3⟩:=hs;simp only at z a2 D b1 b2 b3;unfold yZ Jj at h;simp only [jq] at h;obtain ⟨_,h⟩:=List.append_inj h rfl;obtain ⟨O,h⟩:=List.append_inj h (by simp [zG]);obtain ⟨R,h⟩:=List.append_inj h (by simp [zG]);have E:=QQ (by omega) (by omega) O;have u:=QQ (by omega) (by omega) R;obtain ⟨U,h⟩:=List.append_inj h u;obtain ⟨_,h⟩:=List.append_inj h (by simp [zs,u]);obtain ⟨X,h⟩:=List.append_inj h (by simp [zG]);have L:=QQ (by omega) (by omega) X;obtain ⟨Y,_⟩:=List.append_inj h L;subst E U Y;rfl
theorem zfB {o p:Option Rw} (u:js o) (z:js p) (h:zM o=zM p):o=p:=by
 cases o with
 | none =>
  cases p with
  | none=>rfl
  | some s=>have:=congrArg List.length h;rw [show (zM (some s)).length=40 from QI z] at this;cases this
 | some r =>
  cases p with
  | none=>have:=congrArg List.length h;rw [show (zM (some r)).length=40 from QI u] at this;cases this
  | some s=>rw [znV u z h]
theorem zfE:∀ {a b:List Nat},(∀ d,d∈a->d<18446744073709551616)->(∀ d,d∈b->d<18446744073709551616)->a.length=b.length->a.flatMap (zR 8)=b.flatMap (zR 8)->a=b
 | [],[],_,_,_,_=>rfl
 | [],y::b,_,_,h,_=>by cases h
 | x::a,[],_,_,h,_=>by cases h
 | x::a,y::b,ha,hb,hl,h=>by simp only [qC] at h;obtain ⟨z,D⟩:=List.append_inj h (by simp [zG]);have u:=QQ (k:=8) (ha x (ji ..)) (hb y (ji ..)) z;rw [u,zfE (fun d hd=>ha d (jh _ hd)) (fun d hd=>hb d (jh _ hd)) (by simpa using hl) D]
theorem znT {x y:zQ} (u:x.ok) (z:y.ok) {l m:List UInt8} (h:qG x++l=qG y++m):x=y/\l=m:=by
 have L:=yU u;have O:=yU z;have cx:=Zr u.aa;have cy:=Zr z.aa;have dx:=Zr u.after;have dy:=Zr z.after;unfold qG at h L O;rw [zl,zG] at L O;simp only [jq] at h;obtain ⟨E,h⟩:=List.append_inj h (by simp [zG]);have D:=QQ (k:=2) (by omega) (by omega) E;obtain ⟨hb,h⟩:=List.append_inj h D;refine ⟨?_,h⟩;clear h E D L O;have ix:x.ao.length<=256:=by rcases u.ao with e | e<;>simp [e]
 have iy:y.ao.length<=256:=by rcases z.ao with e | e<;>simp [e]
 have jx:x.Y.length<=6:=by rcases u.Y with e | e<;>simp [e]
 have jy:y.Y.length<=6:=by rcases z.Y with e | e<;>simp [e]
 unfold vX Qb Ji uD at hb;simp only [jq] at hb;obtain ⟨h0,hb⟩:=List.append_inj hb rfl;simp only [List.cons.injEq,and_true] at h0;have U:=zay (by have:=u.k7;omega) (by have:=z.k7;omega) h0.1;have X:=zay (by have:=u.txn;omega) (by have:=z.txn;omega) h0.2.1;have Y:=zay (by have:=u.E;omega) (by have:=z.E;omega) h0.2.2.1;have Z:=zay (by have:=u.slot;omega) (by have:=z.slot;omega) h0.2.2.2;obtain ⟨E,hb⟩:=List.append_inj hb (by simp [zG]);have D:=QQ (by omega) (by omega) E;obtain ⟨h2,hb⟩:=List.append_inj hb D;obtain ⟨h3,hb⟩:=List.append_inj hb (by simp [zG]);have e3:=QQ (by omega) (by omega) h3;obtain ⟨h4,hb⟩:=List.append_inj hb e3;obtain ⟨h5,hb⟩:=List.append_inj hb (by simp [zG]);have e5:=QQ (k:=2) (by omega) (by omega) h5;obtain ⟨R,hb⟩:=List.append_inj hb e5;obtain ⟨h7,hb⟩:=List.append_inj hb (by simp [zG]);have e7:=QQ (by omega) (by omega) h7;have k5:=zfB u.aa z.aa h2;have k6:=zfB u.after z.after h4;have k7:=zfE u.hh z.hh e7 hb;cases x;cases y;simp only at U X Y Z k5 k6 R k7;subst U X Y Z k5 k6 R k7;rfl
theorem zga:∀ {a b:List zQ},(∀ x,x∈a->x.ok)->(∀ x,x∈b->x.ok)->zq a=zq b->a=b
 | [],[],_,_,_=>rfl
 | [],y::b,_,_,h=>by
  have u:=congrArg List.length h;have e:zq (y::b)=qG y++zq b:=by simp [zq]
  have D:(zq []).length=0:=rfl;rw [e,zl,D] at u;have:=Jx y;omega
 | x::a,[],_,_,h=>by
  have u:=congrArg List.length h;have e:zq (x::a)=qG x++zq a:=by simp [zq]
  have D:(zq []).length=0:=rfl;rw [e,zl,D] at u;have:=Jx x;omega
 | x::a,y::b,ha,hb,h=>by
  have L:zq (x::a)=qG x++zq a:=by simp [zq]
  have O:zq (y::b)=qG y++zq b:=by simp [zq]
  rw [L,O] at h;obtain ⟨u,R⟩:=znT (ha x (ji ..)) (hb y (ji ..)) h;rw [u,zga (fun z E=>ha z (jh _ E)) (fun z E=>hb z (jh _ E)) R]
theorem zkb {s:St} {rs:List zQ} {C:Nat->List (Option Rw)} (h:zjE s rs rs.length C) (z:jO s) (r:Nat):(openD r s).N=s.N/\(openD r s).ts=uT:=by
 have X:=zjr z.c.l;have R:=zgc X;have Z:s.sto.Q.take s.sto.av=zq rs:=by rw [h.cy.Q,h.cy.av,qi,qi]
 have Y:recsOf (s.sto.Q.take s.sto.av)=rs:=zga R.2.1 h.dx.ok (R.1.trans Z);have hlen:∀ k,k<6->(C k).length=5:=fun k E=>by rw [<- h.it k E];exact (z.c.i0.ok k E).b5
 have L:=z.c.i0.Q;unfold openD;rw [Y];obtain ⟨O,a0,a3,a1⟩:=zhz (r:=r) (bank:=s.sto.bank) (nb1:=z1) (nb2:=z1) (Ts:=z1) (nb3:=fun _=>z1) (h.dx.ie s.sto.J 0) (fun i=>by rw [h.dx.lsr i]) (fun n u=>by have:=h.cy.part n u;rw [qi] at this;exact this) (h.N.g7 hlen) (fun n u=>by
  have D:=(zfj (qL s.sto.J 0 rs) n (s.sto.dp n)).1;rw [h.cy.dj n u] at D;have U:=h.cy.mark n u;refine Nat.lt_of_le_of_lt D (qg U ?_);unfold jj;exact Nat.add_le_add_right (Nat.add_le_add_left L _) 1) (by rw [<- h.cy.Q];exact L)
 exact ⟨zaU O.N.so h.N.so fun y=>(O.N.mem y).trans (h.N.mem y).symm,a0⟩
theorem JN.ic {W D:World} {B:Nat} {a:An} {v:ui} {M:Nat->Prop} (h:JN W B a v) (E:zA M W D) (O:∀ x,M x->qP W x≠34) (hd:∀ x,dB a v x->¬ M x):JN D B a v:=by
 refine ⟨h.Z,h.hd,h.vl,own_same h.a7 fun k z=>E.block k (h.a7.lt k z).2 (fun hm=>O k hm (own_tag h.a7 z)),?_⟩;by_cases e:v.data=[]
 ·refine .inl ⟨e,?_⟩;rcases h.data with ⟨_,u⟩ | u
  ·exact u.g3
  ·rw [e] at u;exact (zj.aj rfl u).g3
 ·rcases h.data with ⟨L,_⟩ | u
  ·exact absurd L e
  ·exact .inr (own_same u fun k z=>E.block k (u.lt k z).2 (hd k ⟨e,z⟩))
structure Sg (w:World) (H D boots G:Nat) (own:Nat->Prop) (A:Nat->DT) (W:World):Prop where
 g:HG W H D boots G own A
 b:zd w W
 n:∀ x,own x->w.heap.size<=x
theorem Sg.below {w W u:World} {H D boots G:Nat} {z:Nat->Prop} {A:Nat->DT} (h:Sg w H D boots G z A W) (hb:zd W u):Sg w H D boots G z A u:=⟨h.g.below hb,B_call h.b hb,h.n⟩
theorem HG.ix {w:World} {H D boots G:Nat} {u:Nat->Prop} {A:Nat->DT} (h:HG w H D boots G u A):∀ x,u x->qP w x≠34:=fun x z e=>by have:=(h.a3 z).1;rw [e] at this;simp at this
theorem Sg.do {w W:World} {H D boots G:Nat} {R:Nat->Prop} {A:Nat->DT} {q:Rq} {b:List UInt8} {v:ui} {boots':Nat} {L:Nat->DT} (h:Sg w H D boots G R A W) (e:stepD boots A q b=(v,boots',L)) (X:q.kd≠18) (a1:q.kd=19->q.n<=0) (a3:iok q.hd) (hn:iok q.n) (hb:zj W (.slice q.dA q.dn q.dc) b) (a0:b.length<=100000) (hG:G<=100000) :
  zc 9 #[.pointer (some ⟨H,0,none⟩),.agg (zJ q).toArray] W fun e u=>∃ a z,e=.returned (.agg (zV a).toArray)/\JN u W.heap.size a v/\Sg w H D boots' (G+1) z L u/\zA R W u/\∀ x,dB a v x->¬ z x:=by
 have hd:=zgY h.g X a1 a3 hn hb a0 hG;rw [e] at hd;refine hd.mono ?_;rintro e u ⟨a,z,rfl,U,Y,O,Z,h5⟩;refine ⟨a,z,rfl,.of U,⟨Y,zA.fk h.b O h.n,fun x hx=>?_⟩,O,h5⟩;rcases Z x hx with E | E
 ·exact h.n x E
 ·exact zz h.b.size E
theorem zli (W:World):zj W (.slice none 0 0) []:=⟨none,0,rfl,zL.cz,za _,by unfold maxLen;omega⟩
abbrev zrt (kd tn hd rt:Int) (rk rv:ByteArray) (mask:Int):Array Value:=#[.int .i64 kd,.int .i64 tn,.int .i64 hd,.int .i64 rt,.string rk,.string rv,.string { data:=#[] },.int .i64 0,.int .u64 mask,.slice none 0 0]
def zam (kd tn hd rt:Int) (rk rv:ByteArray) (mask:Int):Rq:=⟨kd,tn,hd,rt,rk,rv,{ data:=#[] },0,mask,none,0,0⟩
theorem Sg.fc {w W:World} {H D boots G:Nat} {E:Nat->Prop} {A:Nat->DT} {kd tn hd rt mask:Int} {rk rv:ByteArray} {v:ui} {boots':Nat} {z:Nat->DT} (h:Sg w H D boots G E A W) (e:stepD boots A (zam kd tn hd rt rk rv mask) []=(v,boots',z)) (O:kd≠18) (U:iok hd) (R:G<=100000) :
  zc 9 #[.pointer (some ⟨H,0,none⟩),.agg (zrt kd tn hd rt rk rv mask)] W fun e u=>∃ a L,e=.returned (.agg (zV a).toArray)/\JN u W.heap.size a v/\Sg w H D boots' (G+1) L z u/\zA E W u/\∀ x,dB a v x->¬ L x :=
 Sg.do (q:=zam kd tn hd rt rk rv mask) h e O (fun _=>Int.le_refl 0) U (iok_of (by show _<=(0:Int)/\(0:Int)<=_;omega)) (zli W) (by simp) R
theorem zfo {boots r:Nat} {A:Nat->DT} {q:Rq} {b:List UInt8} (h0:0<=q.kd) (h:q.kd<=17) (u:q.tn=r) (z:r<4):stepD boots A q b=(zbv (uQ boots r (A r) q b).1,boots,zZ A r (uQ boots r (A r) q b).2):=by unfold stepD;rw [if_neg (by omega),if_pos ⟨h0,h,by omega,by omega⟩,u,qp]
def zck:Int:=((Za 1 1:Nat):Int)
def vO:Int:=zck*1048576+1
def Jy:St:=(Zz.an 0).2
def Qp:St:=(Jy.put 2 z1 0 1 0 JL).2
def zaS:St:=Qp.am 1 (QN Qp.ts 1)
theorem zmr:JL.ok:=⟨by decide,by decide,by decide⟩
theorem zfn:(Jy.put 2 z1 0 1 0 JL).1=0/\Qp.N.map (·.rw)=[JL]/\(openD 2 zaS).N.map (·.rw)=[JL]/\(openD 2 zaS).ts=uT:=by
 obtain ⟨g1,z,_,h,_⟩:=zov.an (T:=0) rfl;have O:jO Jy:=(znp.an 0).1;obtain ⟨p1,⟨rs,p2⟩,⟨y,p3⟩,n,i,p4⟩:=g1.put (r:=2) (nb:=0) (nbs:=z1) (x:=ud) (rw:=JL) O z (by decide) zmr (by decide) (by rw [h];decide) (fun y L=>by rw [h] at L;cases L);have R:jO Qp:=(O.put (r:=2) (nb:=0) (nbs:=z1) (txn:=1) (T:=0) (x:=ud) (rw:=JL) (by omega) (by omega) (by rw [show Jy.ts=one 0 ud from z];rfl) zmr (by decide)).1;have u:Qp.ts=one 0 ⟨ud.I++[y],ud.ag,ud.ops+1⟩:=p3;have Y:QN Qp.ts 1=⟨ud.I++[y],ud.ag,ud.ops+1⟩:=by rw [u];rfl
 obtain ⟨_,U,c3⟩:=ua.am (s:=Qp) p2 R u (by simp);have Z:=(R.am (txn:=1) (T:=0) (x:=⟨ud.I++[y],ud.ag,ud.ops+1⟩) (by omega) (by omega) (by rw [u];rfl)).1;have E:Qp.N.map (·.rw)=[JL]:=by have X:Qp.N=uC Jy.N (jv Jy.N JL) ⟨JL,n,i⟩:=p4;rw [X,show Jy.N=[] from h];rfl
 have D:zaS=Qp.am 1 ⟨ud.I++[y],ud.ag,ud.ops+1⟩:=by unfold zaS;rw [Y]
 obtain ⟨o1,o2⟩:=zkb U Z 2;refine ⟨p1,E,?_,by rw [D];exact o2⟩;rw [D,o1];exact E
def Ki (s:St) (nx:Int) (hs:List (Int × Int)):DT:=⟨1,1,some ⟨s,zck,nx,hs⟩⟩
def zjw:Nat->DT:=fun _=>⟨0,0,none⟩
def sA (t:DT):Nat->DT:=zZ zjw 2 t
theorem zmN {α:Type} (c:Nat->α) (r:Nat) (a b:α):zZ (zZ c r a) r b=zZ c r b:=by
 funext i;by_cases e:i=r
 ·subst e;rw [zk,zk]
 ·rw [zy _ _ e,zy _ _ e,zy _ _ e]
theorem Gb {boots:Nat} {t t':DT} {q:Rq} {v:ui} (h:uQ boots 2 t q []=(v,t')) (h0:0<=q.kd/\q.kd<=17) (u:q.tn=2):stepD boots (sA t) q []=(zbv v,boots,sA t'):=by rw [zfo h0.1 h0.2 (r:=2) u (by omega)];unfold sA;rw [zk,h,zmN]
theorem zqI:stepD 1 zjw (zam 0 2 0 0 { data:=#[] } { data:=#[] } 0) []=(yj 0,1,sA (Ki Zz 0 [])):=by rw [zfo (r:=2) (by decide) (by decide) rfl (by omega)];rfl
theorem zqJ:stepD 1 (sA (Ki Zz 0 [])) (zam 2 2 0 0 { data:=#[] } { data:=#[] } 0) []=(⟨0,vO,[],[],[]⟩,1,sA (Ki Zz 1 [(vO,0)])):=by rw [Gb (v:=⟨0,vO,[],[],[]⟩) (t':=Ki Zz 1 [(vO,0)]) rfl (by decide) rfl];rfl
theorem zqK:stepD 1 (sA (Ki Zz 1 [(vO,0)])) (zam 4 2 vO 0 { data:=#[] } { data:=#[] } 0) []=(yj 0,1,sA (Ki Jy 1 [(vO,1)])):=by rw [Gb (v:=yj 0) (t':=Ki Jy 1 [(vO,1)]) (by rfl) (by decide) rfl];rfl
def zes:Rq:=zam 6 2 vO 1 { data:=#[107] } { data:=#[118] } 0
def zet:Rq:=zam 11 2 vO 0 { data:=#[] } { data:=#[] } 0
theorem zhZ (d:DL) (q:Rq) (v:ui) (h:DL) (hs:Yd 2 d q=(v,h)) (z:3<=q.kd/\q.kd<=12) (u:qT d.hs q.hd=true):uQ 1 2 ⟨1,1,some d⟩ q []=(v,⟨1,1,some h⟩):=by unfold uQ;dsimp only;rw [if_neg (by omega),if_neg (by omega),if_neg (by omega),if_neg (by omega),if_neg (by omega),if_neg (by rw [u];decide),hs]
theorem zqL:stepD 1 (sA (Ki Jy 1 [(vO,1)])) zes []=(yj 0,1,sA (Ki Qp 1 [(vO,1)])):=by
 have h:Jr 2 Jy 1 ud zes JL=(yj (Jy.put 2 z1 0 1 0 JL).1,false,Qp):=by unfold Jr;rw [if_neg (by decide),if_pos (by decide)];rfl
 have hs:Yd 2 ⟨Jy,zck,1,[(vO,1)]⟩ zes=(yj 0,⟨Qp,zck,1,[(vO,1)]⟩):=by unfold Yd;rw [show zcR (⟨Jy,zck,1,[(vO,1)]⟩:DL) zes=1 from rfl,if_neg (by decide),if_neg (by decide),if_neg (by decide),show (1:Int).toNat=1 from rfl,show QN Jy.ts 1=ud from rfl,show zdy zes=JL from rfl,h,zfn.1];rfl
 exact Gb (zhZ _ _ _ _ hs (by decide) rfl) (by decide) rfl
theorem zqM:stepD 1 (sA (Ki Qp 1 [(vO,1)])) zet []=(yj 0,1,sA (Ki zaS 1 [(vO,0)])):=by
 have h:Jr 2 Qp 1 (QN Qp.ts 1) zet (zdy zet)=(yj 0,true,zaS):=by unfold Jr;rw [if_neg (by decide),if_neg (by decide),if_neg (by decide),if_neg (by decide),if_neg (by decide),if_neg (by decide),if_pos (by decide)];rfl
 have hs:Yd 2 ⟨Qp,zck,1,[(vO,1)]⟩ zet=(yj 0,⟨zaS,zck,1,[(vO,0)]⟩):=by unfold Yd;rw [show zcR (⟨Qp,zck,1,[(vO,1)]⟩:DL) zet=1 from rfl,if_neg (by decide),if_neg (by decide),if_neg (by decide),show (1:Int).toNat=1 from rfl,h];rfl
 exact Gb (zhZ _ _ _ _ hs (by decide) rfl) (by decide) rfl
noncomputable def sndT6:DT:=⟨1,1,some ⟨openD 2 zaS,((Za 1 2:Nat):Int),0,[]⟩⟩
theorem zqN:stepD 1 (sA (Ki zaS 1 [(vO,0)])) (zam 19 0 0 0 { data:=#[] } { data:=#[] } 0) []=(yj 0,2,sA sndT6):=by
 unfold stepD;rw [if_pos (show (zam 19 0 0 0 { data:=#[] } { data:=#[] } 0).kd=19 from rfl)];refine congrArg (fun x=>(yj 0,2,x)) (funext fun r=>?_);unfold sA;by_cases e:r=2
 ·subst e;rw [zk,zk];rfl
 ·rw [zy _ _ e,zy _ _ e];rfl
theorem zqO:stepD 2 (sA sndT6) (zam 13 2 0 0 { data:=#[] } { data:=#[] } 0) []=(⟨0,0,[],[],Zg [JL]⟩,2,sA sndT6):=by
 have h:uQ 2 2 sndT6 (zam 13 2 0 0 { data:=#[] } { data:=#[] } 0) []=(⟨0,0,[],[],Zg [JL]⟩,sndT6):=by unfold uQ sndT6;dsimp only;rw [if_neg (by decide),if_neg (by decide),if_neg (by decide),if_pos (by decide),zfn.2.2.1,zfn.2.2.2];rfl
 rw [Gb h (by decide) rfl];rfl
theorem zqP:stepD 2 (sA sndT6) (zam 13 1 0 0 { data:=#[] } { data:=#[] } 0) []=(yj 3,2,sA sndT6):=by rw [zfo (r:=1) (by decide) (by decide) rfl (by omega),show sA sndT6 1=zjw 1 from zy _ _ (by omega)];have h:uQ 2 1 (zjw 1) (zam 13 1 0 0 { data:=#[] } { data:=#[] } 0) []=(yj 3,zjw 1):=rfl;rw [h];refine congrArg (fun x=>(yj 3,2,x)) ?_;have:=ZO (sA sndT6) 1;rwa [show sA sndT6 1=zjw 1 from zy _ _ (by omega)] at this
theorem ziO (g:Nat) (w:World) (h:w.heap[g]?=some (.cells Ga 34 (0,0))) :
  zc 18 #[.slice (some ⟨g,0,none⟩) 1 1] w fun e w'=>∃ v,e=.returned v/\w'.ownsRow w.heap.size 5 1 v 15 (zD (Zg [JL]))/\zd w w':=by
 have u:=hid (zhN g w h);clear h;go_enter func18,ntmps18;go_wp2_with ((with_reducible refine aV 24 u.o ?_);rintro D w1 ⟨v,rfl,z,hb⟩);go_ret;exact ⟨v,rfl,z,hb⟩
theorem zqC:(Zg [JL]).length=15:=by kernel_rfl
structure zkY (a b c:Nat) (A B C D:An) (L:List UInt8) (w':World):Prop where
 ha:w'.heap[a]?=some (.cells (zV A).toArray 31 (0,0))
 hb:w'.heap[b]?=some (.cells (zV B).toArray 31 (0,0))
 hc:w'.heap[c]?=some (.cells (zV C).toArray 31 (0,0))
 hd:w'.heap[c+1]?=some (.cells (zV D).toArray 31 (0,0))
 hL:zj w' (.slice C.dA C.dn C.dc) L
theorem zkY.below {a b c:Nat} {A B C D:An} {L:List UInt8} {w w':World} (h:zkY a b c A B C D L w) (k:zd w w'):zkY a b c A B C D L w' :=
 ⟨zg h.ha k (zi h.ha),zg h.hb k (zi h.hb),zg h.hc k (zi h.hc),zg h.hd k (zi h.hd),h.hL.below k⟩
theorem zjz:iok vO/\decide ((0:Int)<vO)=true:=⟨by unfold iok;kernel_rfl,by kernel_rfl⟩
theorem zpK (w:World):zc 7 #[] w fun e W=>e=.returned (.bool true)/\zd w W:=by
 have j4:=hid (zeW w);have a8:=hid zjz.1;have q0:=zjz.2;have X:=hid (iok_of (x:=0) (by omega));go_enter func7,ntmps7;go_upto_region 2 with ((with_reducible refine aV 8 j4.o ?_);rintro k3 w1 ⟨H,j9,o1,rfl,g8,g0,i0⟩);have h2:=hid (Sg.fc (w:=w) ⟨g8,g0,i0⟩ zqI (by decide) X.o (by omega));clear g8 g0 i0;go_upto_region 3 with ((with_reducible refine aV 9 h2.o ?_);rintro l0 w2 ⟨a2,o2,rfl,_,i3,_,_⟩);have h3:=hid (i3.fc zqJ (by decide) X.o (by omega));clear i3 h2;go_upto_region 4 with (first|((with_reducible refine aV 9 h3.o ?_);rintro l1 w3 ⟨O,o3,rfl,i8,i4,_,_⟩)|((with_reducible refine hV 2 ?_);refine nV (zV O).toArray (KG O) ?_));obtain ⟨w4,a5⟩:=ex (w3.alloc (.cells (zV O).toArray 31));rw [<- a5];have g2:zd w3 w4:=by rw [a5];exact B_alloc (zf _ _) _
 have c1:w4.heap[w3.heap.size]?=some (.cells (zV O).toArray 31 (0,0)):=by rw [a5];exact zo _ _ rfl
 have d4:=i4.below g2;have c6:O.hd=vO:=i8.hd;have k4:=xV (Value.int .i64 vO) 1 c1 (by rw [<- c6];rfl);have h5:=hid (d4.fc zqK (by decide) a8.o (by omega));obtain ⟨a7,e0,e8⟩:=zi3 c6 c1 d4;clear a5 g2 c1 d4 i4 i8 h3 c6;go_upto_region 5 with ((with_reducible refine aV 9 h5.o ?_);rintro l2 w5 ⟨k0,o5,rfl,_,d5,g9,_⟩);have c2:=e8.o.g.hp g9 (by decide) e0.o;have k5:=xV (Value.int .i64 vO) 1 c2 (by rw [<- a7.o];rfl);have h6:=hid (Sg.fc (kd:=6) (tn:=2) (hd:=vO) (rt:=1) (rk:={ data:=#[107] }) (rv:={ data:=#[118] }) (mask:=0) d5 zqL (by decide) a8.o (by omega));obtain ⟨e1,e9⟩:=zi2 c2 d5;clear c2 d5 h5 k4 e0 e8 g9;go_upto_region 6 with ((with_reducible refine aV 9 h6.o ?_);rintro l3 w6 ⟨k1,o6,rfl,_,d6,h1,_⟩);have c3:=e9.o.g.hp h1 (by decide) e1.o;have k6:=xV (Value.int .i64 vO) 1 c3 (by rw [<- a7.o];rfl);have h7:=hid (Sg.fc (kd:=11) (tn:=2) (hd:=vO) (rt:=0) (rk:={ data:=#[] }) (rv:={ data:=#[] }) (mask:=0) d6 zqM (by decide) a8.o (by omega));obtain ⟨e2,f0⟩:=zi2 c3 d6;clear c3 d6 h6 k5 e1 e9 h1;go_upto_region 7 with (first|((with_reducible refine aV 9 h7.o ?_);rintro l4 w7 ⟨R,o7,rfl,i9,i5,h4,_⟩)|((with_reducible refine hV 3 ?_);refine nV (zV R).toArray (KG R) ?_));obtain ⟨w8,a6⟩:=ex (w7.alloc (.cells (zV R).toArray 31));rw [<- a6];have d1:zd w7 w8:=by rw [a6];exact B_alloc (zf _ _) _
 have f5:w8.heap[w7.heap.size]?=some (.cells (zV R).toArray 31 (0,0)):=by rw [a6];exact zo _ _ rfl
 have c4:=f0.o.g.hp h4 (by decide) e2.o;have f3:=zg c4 d1 (zi c4);have d7:=i5.below d1;have h9:=hid (d7.fc zqN (by decide) X.o (by omega));obtain ⟨a9,e3,e5⟩:=zi3 d7 f3 f5;have j5:=hid (show R.Z=0 from i9.Z);clear a6 d1 f5 c4 f3 i5 d7 h4 i9 h7 k6 e2 f0;go_upto_region 8 with ((with_reducible refine aV 9 h9.o ?_);rintro l5 w9 ⟨k2,o9,rfl,_,d8,d3,_⟩);have f4:=a9.o.g.hp d3 (by decide) e3.o;have f6:=a9.o.g.hp d3 (by decide) e5.o;have f1:=hid (d8.fc zqO (by decide) X.o (by omega));obtain ⟨e4,e6,b9⟩:=zi3 f4 f6 d8;clear f4 f6 d8 d3 h9 e3 e5 a9;go_upto_region 9 with (first|(go_at_call 9;(first | ((with_reducible refine f2.o.mono ?_);rintro k8 z ⟨L,l7,rfl,i7,i2,a3,_⟩) | ((with_reducible refine f1.o.mono ?_);rintro k7 l8 ⟨u,l6,rfl,i6,Z,d2,g5⟩;have f2:=hid (Z.fc zqP (by decide) X.o (by omega)))))|((with_reducible refine hV 4 ?_);refine wV 0 (zV u).toArray (zw (zo _ _ rfl) _) ?_)|(show wpList _ _ _ (⟨none,.store 31 (.tmp 5) _,_,_,_,_⟩::_) _ _;refine yL rfl 31 (.tmp 5) (.tmp 37) rfl (z.heap.size+1) 0 31 _ (zV L).toArray (by rfl) (by rfl) ((setRow_other _ _ _ _ (by omega)).trans (zo _ _ (by simp))) (by simp [zV]) (by kernel_rfl) (by simp [zV,Value.oneCell']) ?_));obtain ⟨D,E⟩:=ex ((((z.alloc (.cells (zV (qo 0)).toArray 31)).alloc (.cells (zV (qo 0)).toArray 31)).setRow z.heap.size (zV u).toArray).setRow (z.heap.size+1) (zV L).toArray);show Code.wp prog _ _ _ ((((z.alloc (.cells (zV (qo 0)).toArray 31)).alloc (.cells (zV (qo 0)).toArray 31)).setRow z.heap.size (zV u).toArray).setRow (z.heap.size+1) (zV L).toArray);rw [<- E];have a0:∀ x,x<z.heap.size->D.heap[x]?=z.heap[x]?:=fun x hx=>by rw [E,setRow_other _ _ _ _ (by omega),setRow_other _ _ _ _ (by omega)];exact (B_alloc (B_alloc (zf _ _) _) _).block x hx
 have j6:D.heap.size=z.heap.size+2:=by rw [E];simp
 have c7:zd z D:=⟨by rw [E];rfl,by rw [E];rfl,by rw [E];rfl,by omega,fun x hx=>a0 x hx⟩;have f7:D.heap[z.heap.size]?=some (.cells (zV u).toArray 31 (0,0)):=by rw [E,setRow_other _ _ _ _ (by omega)];exact setRow_heap _ _ _ _ 31 _ (zw (zo _ _ rfl) _)
 have f8:D.heap[z.heap.size+1]?=some (.cells (zV L).toArray 31 (0,0)):=by rw [E];exact setRow_heap _ _ _ _ 31 _ ((setRow_other _ _ _ _ (by omega)).trans (zo _ _ (by simp)))
 have c0:=Z.g.hp a3 (by decide) (b9.o.g.hp d2 (by decide) e4.o);have c5:=Z.g.hp a3 (by decide) (b9.o.g.hp d2 (by decide) e6.o);have hv:=((i6.ic a3 Z.g.ix g5).below c7).r;have g3:=(i2.below c7).b;have g7:L.Z=3:=i7.Z;obtain ⟨B,a1⟩:=ex (Zg [JL]);have g4:B.length=15:=by rw [a1];exact zqC
 have g6:zj D (.slice u.dA u.dn u.dc) B:=by rw [a1];exact hv.data
 have e7:=hid (fun (g:Nat) (W:World) hg=>ziO g W hg);rw [<- a1] at e7;have hS:zkY w3.heap.size w7.heap.size z.heap.size O R u L B D.drew:=⟨(a0 _ (zi c0)).trans c0,(a0 _ (zi c5)).trans c5,f7,f8,g6⟩;obtain ⟨j0,j1,j2⟩:=zi3 g3 g4 g7;clear E a0 j6 c7 f7 f8 c0 c5 hv g3 g7 g6 g4 a1 i6 Z d2 g5 i7 i2 a3 f1 f2 e4 e6 b9;refine sV [] 24 (fun w'=>zkY w3.heap.size w7.heap.size z.heap.size O R u L B w') hS fun U=>?_;refine pV 0 ?_;refine cV 1 (fun _ h=>xV (Value.int .i64 vO) 1 h.ha (by rw [<- a7.o];rfl)) ?_;refine pV 2 ?_;refine pV 3 ?_;refine pV 4 ?_;refine cV 5 (fun _ h=>xV (Value.int .i64 0) 0 h.hb (by rw [<- j5.o];rfl)) ?_;refine pV 6 ?_;refine pV 7 ?_;refine pV 8 ?_;refine pV 9 ?_;refine cV 10 (fun _ h=>xV (Value.slice u.dA u.dn u.dc) 4 h.hc) ?_;refine kV 11 rfl (uU 29 9 (.tmp 48) rfl (by rfl) (.slice u.dA u.dn u.dc) (.string (zb B)) (by rfl) (fun _ h=>um h.hL)) ?_;refine pV 12 ?_;refine oV 13 fun K Y=>?_;refine yv 22 34 3 _ (.tmp 50) rfl (.agg Ga) (by rfl) underlying22 KK (by rfl) (by omega) (by omega) ?_;obtain ⟨d9,a4⟩:=ex (D.drew.alloc (.cells Ga 34));have c8:Below D.drew.heap.size D.drew d9:=by rw [a4];exact B_alloc (zf _ _) _
 have f9:d9.heap[D.heap.size]?=some (.cells Ga 34 (0,0)):=by rw [a4];exact zo _ _ rfl
 rw [show (Value.agg Ga).cells=Ga from rfl,<- a4];refine Y.out _ _ (U.below c8) (fun U=>?_);clear Y K;try simp only [pS]
 refine oC 14 (e7.o D.heap.size d9 f9) ?_;rintro k9 j8 ⟨j7,rfl,i1,d0⟩;refine eV (U.below d0) fun U=>?_;refine oV 15 fun K Y=>?_;refine Qn 29 9 (.tmp 52) rfl j7 (.string (zb B)) (by rfl) (um (zj.aj j1.o.symm i1)) ?_;refine Y.out _ _ U (fun U=>?_);clear Y K;try simp only [pS]
 refine pV 16 ?_;refine pV 17 ?_;refine pV 18 ?_;refine pV 19 ?_;refine cV 20 (fun _ h=>xV (Value.int .i64 3) 0 h.hd (by rw [<- j2.o];rfl)) ?_;refine pV 21 ?_;refine pV 22 ?_;refine pV 23 ?_;refine dV ?_;have h8:zd w j8:=B_call (B_call j0.o.drew c8) d0;have j3:=hid h8;clear h8 a4 c8 f9 i1 d0 U hS;go_wp2_with fail;go_ret;exact ⟨rfl,j3.o⟩
theorem Kx.below {w W:World} {A:Option Addr} {n:Nat} {d:zdE} (h:Kx w A n d) (hb:zd w W):Kx W A n d:=by
 rcases h with h | ⟨g,off,e,u,D⟩
 ·exact .inl h
 ·exact .inr ⟨g,off,e,qg u hb.size,fun i z=>(D i z).below u hb⟩
def zpT (w:World) (D u E z X i:Nat) (W:World):Prop:=∃ boots L R A h O,Kl w D u boots (31+i) L A E z boots (31+i) R A X h O W/\Qt i h
theorem zko (u:Nat->List Int) (q:Rq) (h:Int) (z:Bool):(ZQ (Zw u q h z)).kd=q.kd/\(Zw u q h z).kd=q.kd/\(ZQ (Zw u q h z)).dA=q.dA/\(ZQ (Zw u q h z)).dn=q.dn/\(ZQ (Zw u q h z)).dc=q.dc/\(q.kd=19->(ZQ (Zw u q h z)).n=0)/\(ZQ (Zw u q h z)).hd=(Zw u q h z).hd/\((ZQ (Zw u q h z)).n=q.n∨(ZQ (Zw u q h z)).n=0):=by
 have D:(Zw u q h z).kd=q.kd/\(Zw u q h z).dA=q.dA/\(Zw u q h z).dn=q.dn/\(Zw u q h z).dc=q.dc/\(Zw u q h z).n=q.n:=by unfold Zw;split<;>exact ⟨rfl,rfl,rfl,rfl,rfl⟩
 obtain ⟨a,b,c,d,e⟩:=D;unfold ZQ;split
 ·exact ⟨a,a,b,c,d,fun _=>rfl,rfl,.inr rfl⟩
 ·rename_i E;exact ⟨a,a,b,c,d,fun h=>absurd (a.trans h) E,rfl,.inl e⟩
theorem Kl.bp {w W:World} {U D b1 L Y E b2 R X:Nat} {o1 o2 O:Nat->Prop} {u z:Nat->DT} {Z:Nat->List Int} (h:Kl w U D b1 L o1 u Y E b2 R o2 z X Z O W):Kl w U D b1 (L+1) o1 u Y E b2 (R+1) o2 z X Z O W:=⟨h.b,h.g.bp,h.h.bp,h.x,h.d1,h.d2,h.d3⟩
theorem Qt.bp {i:Nat} {z:Nat->List Int} (h:Qt i z):Qt (i+1) z:=fun j u=>⟨Nat.le_succ_of_le (h j u).1,(h j u).2⟩
theorem silent_any (A:Option Addr) (n c:Nat) (d:zdE) (w:World) (h:Kx w A n d) :
  zc 6 #[.slice A n c] w fun e W=>e=.returned (.bool true)/\zd w W:=by
 have j5:=hid (zpK w);go_enter func6,ntmps6;go_upto_region 3 with ((with_reducible refine aV 7 j5.o ?_);rintro q0 w1 ⟨rfl,m1⟩);have g0:zd w w1:=m1;have HL:=hid (zlQ A n c d w1 (h.below g0));obtain ⟨h7,H0⟩:=zi2 g0 h;clear m1 g0 j5 h;unfold zkW at HL;go_upto_if 16 with ((with_reducible refine aV 11 HL.o ?_);rintro p2 w2 ⟨lb,rfl,Z,hl⟩);have d3:zd w w2:=B_call h7.o Z;cases lb with
 | false =>have a6:=hid d3;clear Z hl d3;go_wp2_with fail;go_ret;exact ⟨rfl,a6.o⟩
 | true =>
 obtain ⟨hn,hlen⟩:=hl rfl;obtain ⟨n9,a6⟩:=zi2 hlen d3;clear hl hlen d3 Z HL h7;have i5:=hid (zeW w2);go_upto_region 6 with (first|((with_reducible refine aV 8 i5.o ?_);rintro p3 w3 ⟨H1,D1,o1,rfl,g6,a0,m6⟩;have i6:=hid (zeW w3))|((with_reducible refine aV 8 i6.o ?_);rintro q3 w4 ⟨H2,D2,o2,rfl,g7,L,g9⟩));obtain ⟨w5,e0⟩:=ex (w4.alloc (.cells #[.slice none 0 0,.slice none 0 0,.slice none 0 0,.slice none 0 0] 54));obtain ⟨a5,hX⟩:=ex w4.heap.size;have hI:zpT w H1 D1 H2 D2 a5 0 w5:=by
  have hx:yE w5 a5 (fun _=>[]) (fun x=>x=a5):=by rw [e0,hX];exact yE.new w4
  have g2:Below w4.heap.size w4 w5:=by rw [e0];exact B_alloc (zf _ _) _
  have hz:=a6.o.size;have q4:=a0.size;have q5:=L.size;refine ⟨1,o1,o2,_,_,_,⟨B_call (B_call (B_call a6.o a0) L) g2,(g6.below L).below g2,g7.below g2,hx,fun y D=>?_,fun y D=>?_,fun y D=>?_⟩,fun j _=>⟨za _,fun q8 hz=>(by cases hz)⟩⟩
  ·have X:=m6 y D;have h2:=(g6.a3 D).2;exact ⟨fun h3=>by have:=g9 y h3;omega,fun h3=>by omega,by omega⟩
  ·have X:=g9 y D;have h2:=(g7.a3 D).2;exact ⟨fun h3=>by omega,by omega⟩
  ·omega
 have HI:=hid hI;have k0:=hid e0.symm;have HX:=hid hX.symm;clear hI e0 hX g6 g7 a0 L m6 g9 i5 i6 a6;go_upto_region 7 with fail;rw [k0.o,HX.o];clear k0 HX;go_upto_region 8 with fail;go_loopw [23] (fun h6 wr=>∃ i:Nat,i<=n/\h6=.int .i64 i/\zpT w H1 D1 H2 D2 a5 i wr) (fun h6 _=>((n:Int)-jF h6).toNat)
 case atStart=>exact ⟨0,zT _,rfl,HI.o⟩
 case round =>
  clear HI;obtain ⟨i,hi,rfl,boots,o1,o2,A',ls,a9,hT,hO⟩:=hrel;by_cases g8:i<n
  ·rcases H0.o with rfl | ⟨g,off,rfl,hg,h1⟩
   ·omega
   have hd:=(h1 i g8).below hg hT.b;have g4:=(h1 i g8).data;have q1:(i:Int)<(n:Int):=by omega
   have q6:(0:Int)<=(i:Int):=by omega
   obtain ⟨q,hq⟩:=ex (d.q i);obtain ⟨hh,m0⟩:=ex (d.h i);obtain ⟨a1,m8⟩:=ex (d.ih i);obtain ⟨b,d5⟩:=ex (d.b i);have l7:b.length<=100000:=by have:=n9.o i g8;rw [d5];omega
   rw [<- hq,<- m0,<- m8,<- d5] at hd;rw [<- hq,<- d5] at g4;have n6:=hid g4;clear g4;clear hq m0 m8 d5 h1;obtain ⟨w1,d9⟩:=ex (wr.alloc (.cells (uN q hh a1).toArray 56));obtain ⟨p1,hZ⟩:=ex wr.heap.size;have k2:w1.heap[p1]?=some (.cells (uN q hh a1).toArray 56 (0,0)):=by rw [d9];exact zo _ _ hZ
   have e4:Below wr.heap.size wr w1:=by rw [d9];exact B_alloc (zf _ _) _
   have e6:=hT.below e4;have e3:=hid (zpq a5 ls a9 q hh a1 w1 e6.x (fun j hj=>by have:=(hO j hj).1;omega));have j4:=hid hd.row;have i0:=hid (hd.data.below e4);have n8:=hid hd.hd;have o0:=hid hd.n;have h8:=hid l7;have j9:=hid d9.symm;have HZ:=hid hZ.symm;obtain ⟨h9,j6,HO,HT⟩:=zi4 k2 e6 hO hT;clear hd d9 hZ k2 e4 e6 l7 hT hO;have x2:IntKind.i64.wrap ((i:Int)+1)=(i:Int)+1:=by rw [zu];omega
   go_upto_region 10 with (first|((with_reducible refine gV 26 ?_);refine mV (uN q hh a1) j4.o ?_)|((with_reducible refine hV 7 ?_);refine nV (uN q hh a1).toArray (zfD q hh a1) ?_));rw [j9.o,HZ.o];obtain ⟨p6,hok⟩:=ex (decide (q.kd≠18));obtain ⟨f1,f2,f3,f4,f5,f6,f7,f8⟩:=zko ls q hh a1;obtain ⟨p,hp⟩:=ex (Zw ls q hh a1);rw [<- hp] at e3 f1 f2 f3 f4 f5 f6 f7 f8;obtain ⟨Q,hQ⟩:=ex (ZQ p);have e2:=hid (fun W=>zmV p W);rw [f2,<- hQ,<- hok] at e2;rw [<- hQ] at f1 f3 f4 f5 f6 f7 f8;have k8:iok Q.hd:=by rw [f7,hp];exact HO.o.i1 n8.o
   have k9:iok Q.n:=by
    rcases f8 with e | e
    ·rw [e];exact o0.o
    ·rw [e];exact iok_of (by omega)
   obtain ⟨j2,j3,c8,i1,i2,i3,i4,i9⟩:=zi8 k8 k9 f1 f3 f4 f5 f6 hok;clear f1 f2 f3 f4 f5 f6 f7 f8 hp hQ k8 k9 hok;go_upto_region 11 with (first|((with_reducible refine gV 29 ?_);refine rV h9.o ?_)|((with_reducible refine aV 15 e3.o ?_);rintro p2 w2 ⟨rfl,Z⟩)|(go_at_call 14;(with_reducible refine (e2.o _).mono ?_);rintro p3 w3 ⟨rfl,a0⟩)|((with_reducible refine hV 8 ?_);refine nV (zJ Q).toArray (zaO Q) ?_));obtain ⟨w4,c5⟩:=ex (w3.alloc (.cells (zJ Q).toArray 37));obtain ⟨d2,hY⟩:=ex w3.heap.size;have e5:w4.heap[d2]?=some (.cells (zJ Q).toArray 37 (0,0)):=by rw [c5];exact zo _ _ hY
   have L:Below w3.heap.size w3 w4:=by rw [c5];exact B_alloc (zf _ _) _
   have c0:=((j6.o.below Z).below a0).below L;have c2:=((i0.o.below Z).below a0).below L;rw [<- c5,<- hY];cases p6 with
   | false =>
    have O:=hid c0;clear c5 hY e5 Z a0 L c0 c2;go_wp2_with fail;go_roundw
    case rel=>exact ⟨i+1,by omega,by simp,boots,o1,o2,A',ls,a9,O.o.bp,HO.o.bp⟩
    case measure=>simp [jF];omega
   | true =>
   have c3:Q.kd≠18:=by rw [c8.o];have:=i9.o;simpa using this.symm
   rw [<- i1.o,<- i2.o,<- i3.o] at c2;have a3:=zgY c0.g c3 (fun h=>by rw [i4.o (by rw [<- c8.o];exact h)];exact Int.le_refl 0) j2.o j3.o c2 h8.o (by omega);obtain ⟨st,h5⟩:=ex (stepD boots A' Q b);rw [<- h5] at a3;obtain ⟨c7,a8,O,j1,p8⟩:=zi5 a3 h5 c0 e5 c2;clear c5 hY e5 Z a0 L c0 c2 a3 h5 j6 i0 j4 e3 e2 h9 j9 HZ HT c3;go_upto_region 13 with (first|((with_reducible refine gV 37 ?_);refine rV j1.o ?_)|((with_reducible refine aV 9 c7.o ?_);rintro U w5 ⟨a,n5,rfl,d8,l8,d6,m2,_⟩)|((with_reducible refine hV 10 ?_);refine nV (zV a).toArray (KG a) ?_));obtain ⟨w6,c6⟩:=ex (w5.alloc (.cells (zV a).toArray 31));obtain ⟨b9,hU⟩:=ex w5.heap.size;have d4:Below w5.heap.size w5 w6:=by rw [c6];exact B_alloc (zf _ _) _
   have l3:w6.heap[b9]?=some (.cells (zV a).toArray 31 (0,0)):=by rw [c6];exact zo _ _ hU
   have k6:w6.heap[d2]?=some (.cells (zJ Q).toArray 37 (0,0)):=by have k1:=O.o.g.hp d6 (by decide) j1.o;exact zg k1 d4 (zi k1)
   have l0:=O.o.ib l8 d6 m2;have e9:=l0.below d4;have n0:=(JN.of d8).below d4;have m5:=znD a5 ls a9 Q a w6 e9.x (fun j hj=>by have:=(HO.o j hj).1;omega);have m7:Q.kd=2->a.Z=0->iok a.hd:=fun X h2=>by rw [d8.cb.hd,a8.o];exact O.o.g.hl (by omega) X (by rw [<- a8.o,<- d8.cb.Z];exact h2)
   have l5:w4.heap.size<=b9:=by rw [hU];exact d6.size
   rw [<- c6,<- hU];obtain ⟨d0,d1,a7,j7,i7,j0,o9⟩:=zi7 e9 l3 k6 n0 m5 m7 l5;have p9:=hid (show w6.heap.size=b9+1 by rw [c6,hU];simp);clear d8 l8 d6 m2 c6 hU d4 l3 k6 l0 e9 n0 m5 m7 l5 c7;go_upto_region 14 with (first|((with_reducible refine gV 40 ?_);refine rV a7.o ?_)|((with_reducible refine gV 41 ?_);refine rV d1.o ?_)|((with_reducible refine aV 16 i7.o ?_);rintro e7 w7 ⟨rfl,O',n4,c4,m3⟩));obtain ⟨u,g5⟩:=ex a.Z;have l1:=d0.o.gz n4 c4 m3;have k3:Qt (i+1) (ZD ls Q.kd Q.tn a.Z a.hd):=HO.o.gz j0.o;have k4:¬ a9 b9:=fun h=>by have:=O.o.x.lt h;have:=o9.o;omega
   have k5:¬ a9 d2:=fun h=>by have X:=d0.o.x.a3 h;rw [zh a7.o] at X;omega
   have f0:=(c4.block b9 (zi d1.o) k4).trans d1.o;have k7:=(c4.block d2 (zi a7.o) k5).trans a7.o;have n1:JN w7 w4.heap.size a st.1:=j7.o.ac c4 fun y D=>⟨by have:=d0.o.x.a3 D;omega,O.o.x.lt D⟩;have kU:=xV (Value.int .i64 u) 0 f0 (by rw [g5];rfl);obtain ⟨a4,i8,o7,o3,j8,n7⟩:=zi6 l1 k3 f0 k7 n1 g5;clear l1 k3 k4 k5 f0 k7 n1 n4 c4 m3 g5 d1 a7 j7 i7 d0 j0;go_cut [60] from 43 to 60 (fun p7 wc=>∃ sb:Bool,p7=.bool sb/\(sb=true↔¬ KE u)/\wc=w7)
   case first =>
    by_cases R:u=0
    ·have z1:(u != 0)=false:=by simpa using R
     have z:false=true↔¬ KE u:=⟨fun h=>(by cases h),fun h=>absurd (.inl R) h⟩;have E:=hid z;clear R z;go_wp2_with fail;go_meet
     case rel=>exact ⟨false,rfl,E.o,rfl⟩
    have z1:(u != 0)=true:=by simpa using R
    by_cases U:u=5
    ·have z2:(u != 5)=false:=by simpa using U
     have z:false=true↔¬ KE u:=⟨fun h=>(by cases h),fun h=>absurd (.inr (.inl U)) h⟩;have E:=hid z;clear R U z;go_wp2_with fail;go_meet
     case rel=>exact ⟨false,rfl,E.o,rfl⟩
    have z2:(u != 5)=true:=by simpa using U
    by_cases e8:u=8
    ·have z3:(u != 8)=false:=by simpa using e8
     have z:false=true↔¬ KE u:=⟨fun h=>(by cases h),fun h=>absurd (.inr (.inr (.inr e8))) h⟩;have E:=hid z;clear R U e8 z;go_wp2_with fail;go_meet
     case rel=>exact ⟨false,rfl,E.o,rfl⟩
    have z3:(u != 8)=true:=by simpa using e8
    by_cases e7:u=7
    ·have z4:(u != 7)=false:=by simpa using e7
     have z:false=true↔¬ KE u:=⟨fun h=>(by cases h),fun h=>absurd (.inr (.inr (.inl e7))) h⟩;have E:=hid z;clear R U e8 e7 z;go_wp2_with fail;go_meet
     case rel=>exact ⟨false,rfl,E.o,rfl⟩
    have z4:(u != 7)=true:=by simpa using e7
    have z:¬ KE u:=fun h=>by unfold KE at h;omega
    have E:=hid z;clear R U e8 e7 z;go_wp2_with fail;go_meet
    case rel=>exact ⟨true,rfl,⟨fun _=>E.o,fun _=>rfl⟩,rfl⟩
   case rest =>
    obtain ⟨sb,rfl,h4,rfl⟩:=hcut;clear kU;cases sb with
    | true =>
     have hq:=h4.1 rfl;rw [n7.o,j8.o.Z,a8.o] at hq;have hs:=ziX hq;rw [<- a8.o] at hs;have HS:=hid hs;clear h4 hq hs;go_wp2_with fail;go_roundw
     case rel =>refine ⟨i+1,by omega,by simp,boots,n5,o2,A',_,O',?_,i8.o⟩;have Y:=a4.o;rw [show st.2.1=boots from congrArg Prod.fst HS.o,show st.2.2=A' from congrArg Prod.snd HS.o] at Y;exact ⟨Y.b,Y.g,Y.h.bp,Y.x,Y.d1,Y.d2,Y.d3⟩
     case measure=>simp [jF];omega
    | false =>
    have c3:Q.kd≠18:=by rw [c8.o];have:=i9.o;simpa using this.symm
    have g3:=n6.o.below a4.o.b;rw [<- i1.o,<- i2.o,<- i3.o] at g3;have a3:=zgY a4.o.h c3 (fun h=>by rw [i4.o (by rw [<- c8.o];exact h)];exact Int.le_refl 0) j2.o j3.o g3 h8.o (by omega);rw [<- a8.o] at a3;have c7:=hid a3;clear h4 g3 a3 c3;go_upto_region 16 with (first|((with_reducible refine gV 62 ?_);refine rV o3.o ?_)|((with_reducible refine aV 9 c7.o ?_);rintro e8 w8 ⟨a2,p5,rfl,n2,l9,d7,m4,_⟩)|((with_reducible refine hV 11 ?_);refine nV (zV a2).toArray (KG a2) ?_));obtain ⟨w9,e1⟩:=ex (w8.alloc (.cells (zV a2).toArray 31));obtain ⟨V,hV⟩:=ex w8.heap.size;have c1:Below w8.heap.size w8 w9:=by rw [e1];exact B_alloc (zf _ _) _
    have l6:w9.heap[V]?=some (.cells (zV a2).toArray 31 (0,0)):=by rw [e1];exact zo _ _ hV
    have f9:=a4.o.h.hp d7 (by decide) o7.o;have l4:=zg f9 c1 (zi f9);have l2:=(a4.o.h9 l9 d7 m4).below c1;have n3:JN w9 w4.heap.size a st.1:=(j8.o.ac d7 fun y D=>⟨fun e=>by have X:=(a4.o.h.a3 D).1;rw [e] at X;simp at X,(O.o.h.a3 D).2⟩).below c1;have m9:=zoc a a2 st.1 w9 n3.r ((JN.of n2).below c1).r;rw [<- e1,<- hV];obtain ⟨o6,o8,p0,o4⟩:=zi4 l2 l4 l6 m9;clear e1 hV c1 l6 f9 l4 l2 n3 m9 n2 l9 d7 m4;go_wp2_with (first|((with_reducible refine gV 64 ?_);refine rV o8.o ?_)|((with_reducible refine gV 65 ?_);refine rV p0.o ?_)|((with_reducible refine aV 17 o4.o ?_);rintro q2 q7 ⟨rfl,p4⟩;have o5:=hid (o6.o.below p4)));go_roundw
    case rel=>exact ⟨i+1,by omega,by simp,st.2.1,n5,p5,st.2.2,_,O',o5.o,i8.o⟩
    case measure=>simp [jF];omega
  ·have q1:decide ((i:Int)<(n:Int))=false:=by simp;omega
   have HB:=hid hT.b;clear hT hO;go_wp2_with fail;go_ret;exact ⟨rfl,HB.o⟩
end Go.Proofs.YtechnoogjhohfaaGreat
