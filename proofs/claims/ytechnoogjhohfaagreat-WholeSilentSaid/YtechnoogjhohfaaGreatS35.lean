import Derived.Test.YtechnoogjhohfaaGreatS33
import Derived.Test.YtechnoogjhohfaaGreatS34
import Derived.Test.YtechnoogjhohfaaGreatS31
import Derived.Test.YtechnoogjhohfaaGreatS27
import Derived.Test.YtechnoogjhohfaaGreatS8
set_option maxRecDepth 100000
set_option maxHeartbeats 6400000
set_option linter.unusedVariables false
set_option linter.unusedSimpArgs false
namespace Go.Proofs.YtechnoogjhohfaaGreat
open Go.RowKit Go.Lib
open YtechnoogjhohfaaGreatW Go.Proofs.Tryz Go.Proofs.YtechnoogjhohfaaGreat.Tryz
section
variable {bz:Nat->Prop}
theorem zhC {W:World} {B u t k:Nat} {v:Value} {n:Nat} {xs:List Value} (h:W.ownsRow B t k v n xs) (R:u<=B):W.ownsRow u t k v n xs:=by
 obtain ⟨z,D | ⟨g,cap,cur,E,L,O⟩⟩:=h
 ·exact ⟨z,.inl D⟩
 ·exact ⟨z,.inr ⟨g,cap,cur,E,zz R L,O⟩⟩
structure zcI (W:World) (B:Nat) (a:An) (v:ui):Prop where
 cb:Kb W a v
 ba:v.data≠[]->W.ownsRow B 5 1 (.slice a.dA a.dn a.dc) v.data.length (zD v.data)
theorem zcI.zero (W:World) (B:Nat) (u:Int):zcI W B (qo u) (yj u):=⟨.e W u,fun h=>absurd rfl h⟩
theorem zcI.br {W u:World} {B:Nat} {a:An} {v:ui} (h:zcI W B a v) (hb:jp W u):zcI u B a v :=
 ⟨h.cb.br hb,fun hd=>own_same (h.ba hd) fun k z=>hb.block k ((h.ba hd).lt k z).2 (by rw [own_tag (h.ba hd) z];decide)⟩
structure zrr (G:Nat) (l:Tl):Prop where
 bv:jO l.s
 dk:ub (oT l.s.ts) l.hs
 J:l.s.sto.J<=G
 ep:0<=l.ep/\l.ep<8796093022208
 nx:0<=l.nx/\l.nx<=(G:Int)
def YJ (G:Nat) (t:Tn):Prop:=t.ct<=G/\∀ l,t.ad=some l->zrr G l
theorem YJ.bp {G:Nat} {t:Tn} (h:YJ G t):YJ (G+1) t:=⟨Nat.le_succ_of_le h.1,fun l z=>by
 have u:=h.2 l z;exact ⟨u.bv,u.dk,Nat.le_succ_of_le u.J,u.ep,u.nx.1,by have:=u.nx.2;omega⟩⟩
theorem Tn.h4 (t:Tn) (F:Nat->Prop):(t.cf F).Z=t.Z:=by unfold Tn.Z Tn.cf;cases t.ad<;>rfl
theorem YJ.cf {G:Nat} {t:Tn} (h:YJ G t) (F:Nat->Prop):YJ G (t.cf F):=by
 refine ⟨h.1,fun l u=>?_⟩;unfold Tn.cf at u;cases D:t.ad with
 | none=>rw [D] at u;cases u
 | some l' =>rw [D] at u;injection u with u;subst u;have z:=h.2 l' D;exact ⟨z.bv,z.dk,z.J,z.ep,z.nx⟩
def zbK (H:Nat) (F:Nat->Prop) (ts:Nat->Tn) (x:Nat):Prop:=x=H∨F x∨∃ r l,r<4/\(ts r).ad=some l/\YY l x
def dB (a:An) (v:ui) (x:Nat):Prop:=v.data≠[]/\(Value.slice a.dA a.dn a.dc).ownBlock=some x
def HQ (bz N:Nat->Prop) (W:World) (H D boots G:Nat) (A:Nat->DT):Prop:=∃ F cur ts,zN bz W H D F cur ts boots/\(∀ i,i<4->(ts i).Z=A i)/\(∀ i,i<4->YJ G (ts i))/\∀ x,N x->¬ zbK H F ts x
theorem HQ.br {N:Nat->Prop} {W u:World} {H D boots G:Nat} {A:Nat->DT} (h:HQ bz N W H D boots G A) (hb:jp W u):HQ bz N u H D boots G A:=by obtain ⟨F,cur,ts,z,E⟩:=h;exact ⟨F,cur,ts,z.br hb,E⟩
section
variable {H D r boots G:Nat} {F:Nat->Prop} {cur:Nat->Nat->List UInt8} {ts:Nat->Tn} {A:Nat->DT} {W:World}
theorem HQ.id {N:Nat->Prop} (h:zN bz W H D F cur ts boots) (u:∀ i,i<4->(ts i).Z=A i) (L:∀ i,i<4->YJ G (ts i)) (z:∀ x,N x->¬ zbK H F ts x):HQ bz N W H D boots (G+1) A:=⟨F,cur,ts,h,u,fun i E=>(L i E).bp,z⟩
theorem HQ.set {N F':Nat->Prop} {cur':Nat->Nat->List UInt8} {t:Tn} {a:DT} (h:zN bz W H D F' cur' (vt ts F' r t) boots) (z:∀ i,i<4->(ts i).Z=A i) (O:∀ i,i<4->YJ G (ts i)) (R:YJ (G+1) t) (L:t.Z=a) (E:∀ x,¬ N x):HQ bz N W H D boots (G+1) (zZ A r a):=by
 refine ⟨F',cur',_,h,fun i u=>?_,fun i u=>?_,fun x U=>absurd U (E x)⟩
 ·by_cases e:i=r
  ·subst e;rw [jH,zk];exact L
  ·rw [vL _ _ _ e,zy _ _ e,Tn.h4];exact z i u
 ·by_cases e:i=r
  ·subst e;rw [jH];exact R
  ·rw [vL _ _ _ e];exact ((O i u).bp).cf F'
def ym (bz:Nat->Prop) (H D boots G r B:Nat) (A:Nat->DT) (o:ui × DT) (a:An) (W:World):Prop:=zcI W B a o.1/\HQ bz (dB a o.1) W H D boots (G+1) (zZ A r o.2)
theorem ym.br {B:Nat} {o:ui × DT}:∀ a W u,ym bz H D boots G r B A o a W->jp W u->ym bz H D boots G r B A o a u:=fun _ _ _ h k=>⟨h.1.br k,h.2.br k⟩
theorem ym.id {B:Nat} {u:Int} {o:ui × DT} (L:o=(yj u,A r)) (h:zN bz W H D F cur ts boots) (z:∀ i,i<4->(ts i).Z=A i) (E:∀ i,i<4->YJ G (ts i)):ym bz H D boots G r B A o (qo u) W:=by subst L;exact ⟨.zero _ _ _,by rw [ZO];exact HQ.id h z E fun x O=>absurd rfl O.1⟩
theorem ym.set {B:Nat} {a:An} {v:ui} {d:DT} {o:ui × DT} {F':Nat->Prop} {cur':Nat->Nat->List UInt8} {t:Tn} (R:zcI W B a v) (h:zN bz W H D F' cur' (vt ts F' r t) boots) (u:∀ i,i<4->(ts i).Z=A i) (E:∀ i,i<4->YJ G (ts i)) (O:YJ (G+1) t) (z:t.Z=d) (L:o=(v,d)) (hd:v.data=[]:=by rfl):ym bz H D boots G r B A o a W:=by subst L;exact ⟨R,HQ.set h u E O z fun x U=>U.1 hd⟩
theorem znm {q:Rq} {b:List UInt8} {w:World} {B:Nat} (h:zN bz w H D F cur ts boots) (O:∀ i,i<4->(ts i).Z=A i) (R:∀ i,i<4->YJ G (ts i)) (z:r<4) (ht:q.tn=r) (hb:zj w (.slice q.dA q.dn q.dc) b) (a5:b.length<=100000) (hG:31<=G/\G<=100000) (a6:boots<=G) (X:(ts r).ad=none) :
  zc 23 #[.pointer (some ⟨H,0,none⟩),.pointer (some ⟨H,1+r*5,none⟩),.agg (zJ q).toArray] w fun e Y=>∃ a,e=.returned (.agg (zV a).toArray)/\a.Z≠10/\zv bz w Y/\ym bz H D boots G r B A (uQ boots r (A r) q b) a Y:=by
 have Z:=O r z;have U:(A r).ad=none:=by rw [<- Z];unfold Tn.Z;rw [X];rfl
 have a4:(A r).ct=(ts r).ct:=by rw [<- Z];rfl
 have a7:=(R r z).1;by_cases h0:q.kd=0∨q.kd=14
 ·refine zkB H D r F cur ts boots q b (GI (jb b).2) w _ h z X ht h0 ym.br hb a5 (by omega) (by omega) (fun u=>⟨(zaK u).le,zra (zaK u) r⟩) (fun u h2 W E=>ym.id ?_ E O R) (fun u l F' cur' W hc a0 a3 a1 E=>?_)
  ·unfold uQ;rw [U];dsimp only;rw [if_neg (by omega),if_pos u,if_neg h2]
  ·have hR:GW (if q.kd=0 then [] else (jb b).2):=by
    split
    ·exact ⟨.nil,fun r z=>(by cases z),by simp⟩
    ·exact zaK (u (by omega))
   have hm:=zjK hR hc;have he:=zfG (ct:=(ts r).ct+1) (boots:=boots) (by omega) (by omega);refine ym.set (v:=yj 0) (d:=zjZ boots r (ts r).ct (if q.kd=0 then [] else (jb b).2)) (.zero _ _ _) E O R ⟨by show (ts r).ct+1<=_;omega,fun l' e=>?_⟩ ?_ ?_
   ·injection e with e;subst e;exact ⟨hm.bv,by rw [a1];exact .nil _,by have:=hm.J;omega,by rw [a0];omega,by rw [a3];omega⟩
   ·unfold Tn.Z zjZ Tl.Z;simp only [qk];rw [hc.Z,a0,a3,a1]
   ·unfold uQ;rw [U,a4];dsimp only;by_cases L:q.kd=0
    ·rw [if_pos L,if_pos L]
    ·rw [if_neg L,if_pos (by omega),if_pos (u (by omega)),if_neg L]
 ·refine zkA H D r F cur ts boots q w _ h z X (fun e=>h0 (.inl e)) (fun e=>h0 (.inr e)) ym.br fun W E=>ym.id ?_ (h.below E) O R;unfold uQ;rw [U];dsimp only;rw [if_neg (fun e=>h0 (.inl e)),if_neg (fun e=>h0 (.inr e))]
theorem Qi {t:Tn} {l:Tl} (h:t.ad=some l):t.Z=⟨t.st,t.ct,some l.Z⟩:=by unfold Tn.Z;rw [h];rfl
theorem jO.ho {s:St} (h:jO s):∀ y,y∈s.N->y.rw.ok:=fun y D=>by obtain ⟨u,E,z⟩:=h.c.i0.cl.mem y D;exact (h.c.i0.ok y.pg u).a7 _ (zC z)
theorem zny {q:Rq} {b:List UInt8} {w:World} {B:Nat} {l:Tl} (h:zN bz w H D F cur ts boots) (L:∀ i,i<4->(ts i).Z=A i) (E:∀ i,i<4->YJ G (ts i)) (X:r<4) (f2:0<=q.kd) (f3:q.kd<=17) (ht:q.tn=r) (a4:iok q.hd) (hn:iok q.n) (hb:zj w (.slice q.dA q.dn q.dc) b) (d6:b.length<=100000) (hG:31<=G/\G<=100000) (hB:B<=w.heap.size) (Y:(ts r).ad=some l) :
  zc 23 #[.pointer (some ⟨H,0,none⟩),.pointer (some ⟨H,1+r*5,none⟩),.agg (zJ q).toArray] w fun e W'=>∃ a,e=.returned (.agg (zV a).toArray)/\a.Z≠10/\zv bz w W'/\ym bz H D boots G r B A (uQ boots r (A r) q b) a W':=by
 have Z:A r=⟨(ts r).st,(ts r).ct,some l.Z⟩:=(L r X).symm.trans (Qi Y);have a1:=(E r X).1;have z:=(E r X).2 l Y;have f1:=z.J;have hlen:=z.dk.len;obtain ⟨a3,f5⟩:=z.nx;have c1:(zF l.Z.s.ts).length=(zF l.s.ts).length:=zhc l.s.ts;have c6:l.Z.hs=l.hs:=rfl;obtain ⟨o,u⟩:=ex (uQ boots r (A r) q b);rw [<- u];unfold uQ at u;rw [Z] at u;dsimp only at u;by_cases h0:q.kd=0∨q.kd=14
 ·rw [if_pos h0] at u;exact ziU H D r F cur ts boots l q b w _ h X Y h0 ym.br hb d6 (ym.id (by rw [u,Z]) h L E)
 rw [if_neg h0] at u;by_cases h1:q.kd=1∨15<=q.kd
 ·refine zkD H D r F cur ts boots l q w _ h X Y (by omega) ht hn ym.br z.bv (by omega) (fun e h2 W O=>?_) (fun e h2 F' cur' W O=>?_) (fun s' b' cur' W hs O=>?_)
  ·rw [if_pos e,c1,if_neg h2] at u;exact ym.id (by rw [u,Z]) O L E
  ·rw [if_pos e,c1,if_pos h2] at u;exact ym.set (.zero _ _ _) O L E ⟨by show (ts r).ct<=_;omega,fun l' e=>(by cases e)⟩ rfl u
  ·have d9:¬ q.kd=1:=by rcases hs with ⟨e,_⟩ | ⟨e,_⟩ | ⟨e,_⟩<;>omega
   rw [if_neg d9,if_neg (by omega),if_neg (by omega),if_pos (by omega)] at u;have e8:=hs.Z;have c2:jO s'/\s'.sto.J<=l.s.sto.J+1/\s'.ts=l.s.ts:=by
    rcases hs with ⟨e,rfl⟩ | ⟨e,rfl⟩ | ⟨e,rfl⟩
    ·refine ⟨z.bv.bc _,?_,rfl⟩;show (l.s.sto.bc (zde q.n)).J<=_;rw [(zaT z.bv.c.i0.ab _).1.J];exact Nat.le_succ _
    ·have:=z.bv.cj (by omega);exact ⟨this.1,this.2,(Zv l.s).2.1⟩
    ·exact ⟨z.bv.a1 (by omega),Nat.le_of_eq (ZL z.bv.c.i0.ab l.s.ts).J,rfl⟩
   refine ym.set (.zero _ _ _) O L E ⟨Nat.le_succ_of_le a1,fun l' e=>?_⟩ (Qi rfl) ?_
   ·injection e with e;subst e;refine ⟨c2.1,?_,by have:=c2.2.1;show s'.sto.J<=_;omega,z.ep,a3,by show l.nx<=_;omega⟩;show ub (oT s'.ts) l.hs;rw [c2.2.2];exact z.dk
   ·rw [u];refine congrArg (Prod.mk (yj 0)) ?_;refine congrArg (DT.mk (ts r).st (ts r).ct) (congrArg some ?_);unfold Tl.Z;rw [e8]
 rw [if_neg (by omega)] at u;by_cases h2:q.kd=2
 ·rw [if_pos h2,c6] at u;refine zkC H D r F cur ts boots l q w _ h X Y h2 ym.br hlen z.ep ⟨a3,by omega⟩ (fun h6 W O=>?_) (fun h6 W O=>?_)
  ·rw [if_pos h6] at u;exact ym.id (by rw [u,Z]) (h.below O) L E
  ·rw [if_neg h6] at u;refine ym.set (v:=⟨0,l.ep*1048576+(l.nx+1),[],[],[]⟩) ⟨⟨rfl,rfl,rfl,ql _ _ _ _,ql _ _ _ _⟩,fun h=>absurd rfl h⟩ O L E ⟨Nat.le_succ_of_le a1,fun l' e=>?_⟩ (Qi rfl) (by rw [u];rfl);injection e with e;subst e;exact ⟨z.bv,z.dk.iw h6 _,by show l.s.sto.J<=_;omega,z.ep,by show 0<=l.nx+1;omega,by show l.nx+1<=_;omega⟩
 rw [if_neg h2] at u;by_cases a8:q.kd=13
 ·rw [if_pos a8,c1] at u;have d0:=z.bv.ho;refine zhW H D r F cur ts boots l q w _ h X Y a8 ym.br (by have:=z.bv.c.i0.cl.he;omega) (fun y hy=>⟨by have:=(d0 y hy).1;omega,(d0 y hy).2⟩) (fun h6 W O=>?_) (fun h6 dA c W O c0=>?_)
  ·rw [if_neg h6] at u;exact ym.id (by rw [u,Z]) (h.below O) L E
  ·rw [if_pos h6] at u;have e:o=(⟨0,0,[],[],Zg (l.s.N.map (·.rw))⟩,A r):=by rw [u,Z];rfl
   rw [e];refine ⟨⟨⟨rfl,rfl,rfl,ql _ _ _ _,zhC c0 (zT _)⟩,fun _=>zhC c0 hB⟩,?_⟩;show HQ bz _ W H D boots (G+1) (zZ A r (A r));rw [ZO];refine HQ.id (h.below O) L E fun x hx a7=>?_;have h1:=(c0.lt x hx.2).1;have h2:x<w.heap.size:=by
    rcases a7 with rfl | a7 | ⟨r',l',e5,d8,a7⟩
    ·exact zi h.U
    ·exact h.ar.lt x a7
    ·exact ((h.ad r' l' e5 d8).1.ah x a7).2
   omega
 rw [if_neg a8,if_neg (by omega),c6] at u;refine zkE H D r F cur ts boots l q w _ h X Y (by omega) (by omega) a4 ym.br (fun hh W O=>?_) (fun hh W O=>?_)
 ·rw [if_pos hh] at u;exact ym.id (by rw [u,Z]) (h.below O) L E
 rw [if_neg (by rw [hh];decide)] at u;have h':=h.below O;have hN:zcR l.Z q=(zU l.hs q.hd).getD 0:=rfl;unfold Yd at u;rw [hN] at u;by_cases h3:q.kd=3
 ·refine zkG H D r F cur ts boots l q W _ h' X Y h3 a4 hh ym.br (fun R W' U=>?_) (fun R W' U=>?_)
  ·rw [if_neg R,if_pos (.inl h3)] at u;exact ym.id (by rw [u,Z]) U L E
  ·rw [if_pos R,if_pos h3] at u;refine ym.set (.zero _ _ _) U L E ⟨Nat.le_succ_of_le a1,fun l' e=>?_⟩ (Qi rfl) (by rw [u];rfl);injection e with e;subst e;exact ⟨z.bv,z.dk.ij _,by show l.s.sto.J<=_;omega,z.ep,a3,by show l.nx<=_;omega⟩
 obtain ⟨hd,b9⟩:∃ hd,zU l.hs q.hd=some hd:=by
  rw [yF] at hh;cases e:zU l.hs q.hd with
  | none=>rw [e] at hh;cases hh
  | some x=>exact ⟨x,rfl⟩
 have c7:(zU l.hs q.hd).getD 0=hd:=by rw [b9];rfl
 have c8:hd≠0->∃ k:Nat,hd=k/\1<=k/\k<=3/\oT l.s.ts k=true:=z.dk.pos q.hd hd b9;by_cases h4:q.kd=4
 ·refine zkF H D r F cur ts boots l q W _ h' X Y h4 a4 hh ?_ ym.br (fun R W' U=>?_) (fun T R a0 b' W' U=>?_) (fun T R a0 b' W' U=>?_)
  ·rw [c7];by_cases e:hd=0
   ·omega
   ·obtain ⟨k,h5,_⟩:=c8 e;omega
  ·rw [if_neg (by omega),if_pos (.inr h4)] at u;exact ym.id (by rw [u,Z]) (h'.below U) L E
  ·have he:=St.ds l.s T;have c5:(l.s.an T).2=l.s:=by
    unfold St.an at a0 ⊢;cases hf:ZX l.s.ts with
    | none=>rfl
    | some n =>rw [hf] at a0;obtain ⟨c3,_,_⟩:=YC hf;exact absurd a0 (by show ¬ n=0;omega)
   rw [if_pos R,if_neg h3,if_pos h4,show l.Z.s=l.s.Z from rfl,<- he.1,if_pos a0] at u;refine ym.set (.zero _ _ _) U L E ⟨Nat.le_succ_of_le a1,fun l' e=>?_⟩ (Qi rfl) (by rw [u,c5];rfl);injection e with e;subst e;rw [c5];exact ⟨z.bv,z.dk,by show l.s.sto.J<=_;omega,z.ep,a3,by show l.nx<=_;omega⟩
  ·have he:=St.ds l.s T;rw [if_pos R,if_neg h3,if_pos h4,show l.Z.s=l.s.Z from rfl,<- he.1,if_neg a0] at u;have hI:=z.bv.an T;refine ym.set (.zero _ _ _) U L E ⟨Nat.le_succ_of_le a1,fun l' e=>?_⟩ (Qi rfl) ?_
   ·injection e with e;subst e;refine ⟨hI.1,?_,by show (l.s.an T).2.sto.J<=_;rw [hI.2];omega,z.ep,a3,by show l.nx<=_;omega⟩;show ub (oT (l.s.an T).2.ts) (aput l.hs q.hd (l.s.an T).1);unfold St.an at a0 ⊢;cases hf:ZX l.s.ts with
    | none=>rw [hf] at a0;exact absurd rfl a0
    | some n =>obtain ⟨c3,a2,d3⟩:=YC hf;have f4:=z.bv.c.tx.len;exact z.dk.an hh c3 a2 (by unfold oT;rw [d3]) (zef (by omega))
   ·rw [u];refine congrArg (Prod.mk (yj 0)) (congrArg (DT.mk (ts r).st (ts r).ct) (congrArg some ?_));unfold Tl.Z;rw [he.2]
 refine zmu H D r F cur ts boots l q W _ h' X Y (by omega) (by omega) a4 ym.br (fun R W' U=>?_) (fun R W' U=>?_)
 ·rw [if_pos R,if_neg h3,if_neg h4] at u;exact ym.id (by rw [u,Z]) (h'.below U) L E
 rw [if_neg R,if_neg (fun e=>e.elim h3 h4)] at u;have c4:=h'.below U;rw [c7] at R u ⊢;obtain ⟨txn,he,t1,t3,e0⟩:=c8 R;obtain ⟨T,x,a5⟩:=zee.1 e0;subst he;rw [show ((txn:Int)).toNat=txn from rfl,show QN l.Z.s.ts txn=x from (zcu l.s.ts txn).trans (Yv a5)] at u;refine zon H D r F cur ts boots l q txn T x W' _ c4 X Y ym.br ⟨by omega,by omega⟩ a4 t1 t3 a5 (z.bv.iq t1 t3 a5 (by omega)) hh (fun W3 d5 a9=>?_) (fun rw v e s' b' cur' a W3 hok e1 e2 e3 e9 a6 d4 a9=>?_)
 ·rw [if_pos d5] at u;exact ym.id (by rw [u,Z]) a9 L E
 ·have d7:¬ (vK q.rt q.rk q.rv && decide (q.tt.size<=15))=false:=by
   have e7:vK q.rt q.rk q.rv=true:=by rw [e1,e2,e3];unfold vK;have:=hok.1;have k1:=hok.2.1;have k2:=hok.2.2;rw [jt,jt];simp only [Bool.and_eq_true,decide_eq_true_eq];omega
   rw [e7];simpa using e9
  rw [if_neg d7,zpx e1 e2 e3] at u;have e6:l.a.r=r:=((c4.ad r l X Y).1).hr;rw [e6] at a6;have f0:=a6.Z;have d2:=z.bv.ig t1 t3 a5 hok (by omega) a6;have e4:=zpe z.bv.c.tx.len t3 a5 a6;have d1:v.data=[]:=by rcases a6 with ⟨_,rfl,_⟩ | ⟨_,_,_,rfl,_⟩ | ⟨_,_,rfl,_⟩ | ⟨_,rfl,_⟩ | ⟨_,rfl,_⟩ | ⟨_,_,rfl,_⟩ | ⟨_,rfl,_⟩ | ⟨_,_,rfl,_⟩<;>rfl
  refine ym.set (v:=v) (hd:=d1) ⟨d4,fun h=>absurd d1 h⟩ a9 L E ⟨Nat.le_succ_of_le a1,fun l' e'=>?_⟩ (Qi rfl) ?_
  ·injection e' with e';subst e';refine ⟨d2.1,?_,by have:=d2.2;show s'.sto.J<=_;omega,z.ep,a3,by show l.nx<=_;omega⟩;show ub (oT s'.ts) (if e then aput l.hs q.hd 0 else l.hs);rw [e4];cases e with
   | false=>exact z.dk
   | true=>exact z.dk.gc b9 t1 rfl
  ·rw [u,show l.Z.s=l.s.Z from rfl,<- f0];rfl
end
end
section
section
variable {bz bz':Nat->Prop} {w W:World} {H D boots G:Nat} {F:Nat->Prop} {cur:Nat->Nat->List UInt8} {ts:Nat->Tn} {A:Nat->DT} {own:Nat->Prop}
theorem zN.gs (h:zN bz w H D F cur ts boots) (hb:∀ x,zbK H F ts x->¬ bz' x) (E:∀ x,bz' x->x<w.heap.size):zN bz' w H D F cur ts boots :=
 ⟨h.U,h.ar,h.c4,h.ee,h.cells,h.ad,h.cg,h.apart,hb _ (.inl rfl),fun x u=>hb x (.inr (.inl u)),fun r l L z x u=>hb x (.inr (.inr ⟨r,l,L,z,u⟩)),E⟩
theorem zN.hv (h:zN bz w H D F cur ts boots) {x:Nat} (u:zbK H F ts x):¬ bz x:=by
 rcases u with rfl | u | ⟨r,l,E,z,u⟩
 ·exact h.base.1
 ·exact h.base.2.1 x u
 ·exact h.base.2.2.1 r l E z x u
theorem zN.own_tag (h:zN bz w H D F cur ts boots) {x:Nat} (u:zbK H F ts x):qP w x∈[103,222,100001,136,208,150,3,200,204,194,5,139,81,118,86,120,73]/\x<w.heap.size:=by
 rcases u with rfl | u | ⟨r,l,E,z,u⟩
 ·rw [zh h.U];exact ⟨by decide,zi h.U⟩
 ·have:=h.ar.ah u;exact ⟨by simp only [zO,qZ,or_false] at this ⊢;omega,h.ar.lt x u⟩
 ·have:=(h.ad r l E z).1.ah x u;exact ⟨by have:=this.1;simp only [zO,qZ,or_false] at this ⊢;omega,this.2⟩
theorem zN.own_same (h:zN bz w H D F cur ts boots) (hs:∀ x,zbK H F ts x->W.heap[x]?=w.heap[x]?) (E:w.heap.size<=W.heap.size):zN bz W H D F cur ts boots:=by
 have L:∀ x,F x->W.heap[x]?=w.heap[x]?:=fun x u=>hs x (.inr (.inl u));refine ⟨(hs H (.inl rfl)).trans h.U,zK.same h.ar L E,h.c4,h.ee,h.cells,fun i l' O R=>?_,h.cg,h.apart,h.base.1,h.base.2.1,h.base.2.2.1,fun x u=>qg (h.base.2.2.2 x u) E⟩;obtain ⟨z,U⟩:=h.ad i l' O R;have hs:∀ x,YY l' x->W.heap[x]?=w.heap[x]?:=fun x u=>hs x (.inr (.inr ⟨i,l',O,R,u⟩));refine ⟨⟨z.sto.same (fun x u=>?_) E,z.hD,z.hr,z.hF,z.dk.same (hs _ (.inr (.inl rfl))) (hs _ (.inr (.inr rfl))),z.km⟩,U⟩;rcases zap z u with u | u
 ·exact hs x u
 ·exact L x u
def HG (w:World) (H D boots G:Nat) (h:Nat->Prop) (A:Nat->DT):Prop :=
 ∃ F cur ts,zN (fun x=>x<w.heap.size/\¬ h x) w H D F cur ts boots/\(∀ x,h x↔zbK H F ts x)/\(∀ i,i<4->(ts i).Z=A i)/\(∀ i,i<4->YJ G (ts i))/\boots<=G/\31<=G
theorem HG.a3 (h:HG w H D boots G own A) {x:Nat} (E:own x):qP w x∈[103,222,100001,136,208,150,3,200,204,194,5,139,81,118,86,120,73]/\x<w.heap.size:=by obtain ⟨F,cur,ts,u,z,_⟩:=h;exact u.own_tag ((z x).1 E)
theorem HG.same (h:HG w H D boots G own A) (hs:∀ x,own x->W.heap[x]?=w.heap[x]?) (R:w.heap.size<=W.heap.size):HG W H D boots G own A:=by obtain ⟨F,cur,ts,L,u,O⟩:=h;refine ⟨F,cur,ts,?_,u,O⟩;exact (L.own_same (fun x E=>hs x ((u x).2 E)) R).gs (fun x E z=>z.2 ((u x).2 E)) fun x z=>z.1
theorem HG.below (h:HG w H D boots G own A) (hb:zd w W):HG W H D boots G own A:=h.same (fun x u=>hb.block x (h.a3 u).2) hb.size
theorem HQ.hg {N:Nat->Prop} (h:HQ bz N W H D boots G A) (hb:boots<=G) (U:31<=G):∃ E,HG W H D boots G E A/\(∀ x,E x->¬ bz x)/\∀ x,N x->¬ E x:=by obtain ⟨F,cur,ts,L,O,R,X⟩:=h;exact ⟨zbK H F ts,⟨F,cur,ts,L.gs (fun x z u=>u.2 z) (fun x u=>u.1),fun _=>Iff.rfl,O,R,hb,U⟩,fun x z=>L.hv z,X⟩
theorem HG.after {N:Nat->Prop} {L:Nat->DT} {boots':Nat} (h:zv (fun x=>x<w.heap.size/\¬ own x) w W) (Z:HQ (fun x=>x<w.heap.size/\¬ own x) N W H D boots' (G+1) L) (hb:boots'<=G+1) (a0:31<=G) :
  ∃ u,HG W H D boots' (G+1) u L/\zA own w W/\(∀ x,u x->own x∨w.heap.size<=x)/\∀ x,N x->¬ u x:=by
 obtain ⟨u,O,R,U⟩:=Z.hg hb (by omega);refine ⟨u,O,⟨h.os,h.tape,h.output,h.size,fun x z E=>h.old x ⟨z,E⟩ z⟩,fun x z=>?_,U⟩;rcases Nat.lt_or_ge x w.heap.size with Y | X
 ·exact .inl (Classical.byContradiction fun E=>R x z ⟨Y,E⟩)
 ·exact .inr X
end
theorem zjr {s:St} (h:Zo s):∃ rs,zce (s.sto.Q.take s.sto.av) rs:=by
 obtain ⟨rs,m,h⟩:=h;refine ⟨rs.take m,?_,fun x u=>h.ok x (List.mem_of_mem_take u),h.gg,by rw [qf];have:=h.m0;have:=h.le;omega⟩;rw [h.Q,h.av]
 conv=>rhs;rw [<- List.take_append_drop m rs,YU]
 rw [List.take_append_of_le_length (Nat.le_of_eq (by rw [List.take_append_drop])),List.take_append_drop,qi]
theorem zqy {w:World} {B D L r:Nat} {FL F:Nat->Prop} {cur:Nat->Nat->List UInt8} {s:zn} {rs:List zQ} (h:zce (s.Q.take s.av) rs) (hs:qQ w B D L r FL F cur s) (U:0<s.J) (R:s.J+1<4294967296):Km (cur r) r ⟨s.J,s.bank,rs,s.dp⟩:=by obtain ⟨z,E,u,O⟩:=h;exact ⟨by show yW _ _ _ (zq rs);rw [z];exact hs.on,E,hs.cm,U,R,u.ik,O,hs.fa,hs.cx,u.2⟩
noncomputable def opnT (t:Tn):zdG:=match t.ad with
 | none=>⟨1,0,[],fun _=>Jc⟩
 | some l=>⟨l.s.sto.J,l.s.sto.bank,recsOf (l.s.sto.Q.take l.s.sto.av),l.s.sto.dp⟩
theorem zls {bz:Nat->Prop} {H D boots G:Nat} {F:Nat->Prop} {cur:Nat->Nat->List UInt8} {ts:Nat->Tn} {A:Nat->DT} {q:Rq} {w:World} (h:zN bz w H D F cur ts boots) (hA:∀ i,i<4->(ts i).Z=A i) (R:∀ i,i<4->YJ G (ts i)) (a1:q.kd=19) (hn:q.n<=0) (a5:boots<=G) (hG:G<=100000) :
  zc 9 #[.pointer (some ⟨H,0,none⟩),.agg (zJ q).toArray] w fun e W=>e=.returned (.agg (zV (qo 0)).toArray)/\zv bz w W/\HQ bz (fun _=>False) W H D (boots+1) (G+1) fun r=>crashD (boots+1) r (A r):=by
 have ho:∀ r,r<4->(ts r).st=1->Km (cur r) r (opnT (ts r))/\∃ l,(ts r).ad=some l:=fun r u hs=>by
  cases z:(ts r).ad with
  | none=>have:=(h.cg r u z).1;omega
  | some l =>refine ⟨?_,l,rfl⟩;have hT:=(h.ad r l u z).1;have O:=(R r u).2 l z;have:=zqy (zgc (zjr O.bv.c.l)) hT.sto.sto O.bv.c.i0.g0 (by have:=O.J;omega);rw [hT.hr] at this;unfold opnT;rw [z];exact this
 refine (znb H D F cur ts boots (fun r=>opnT (ts r)) q w h a1 hn (by omega) fun r u hs=>(ho r u hs).1).mono ?_;rintro e W ⟨rfl,a3,F',cur',a4,hh,a0⟩;refine ⟨rfl,a3,F',cur',a4,hh,fun r u=>?_,fun r u=>?_,fun _ h=>h.elim⟩
 ·have E:=a0 r u;show _=crashD (boots+1) r (A r);rw [<- hA r u];cases z:(ts r).ad with
  | none =>have e3:=E.cg (h.cg r u z).1;unfold crashD Tn.Z;rw [z,e3,E.st,E.ct];rfl
  | some l =>
   obtain ⟨l',nb1,nb2,Ts,nb3,U,a2,X,Y,Z,_⟩:=E.ad (h.ad r l u z).2;have e1:l'.s.Z=openD r l.s.Z:=by rw [a2,St.d5,zly];unfold openD opnT;rw [z];rfl
   rw [Qi U,Qi z,E.st,E.ct];unfold crashD;dsimp only;rw [show (Tl.Z l).s=l.s.Z from rfl,<- e1];unfold Tl.Z;rw [X,Y,Z]
 ·have E:=a0 r u;refine ⟨by rw [E.ct];exact Nat.le_succ_of_le (R r u).1,fun l' L=>?_⟩;cases z:(ts r).ad with
  | none=>rw [E.cg (h.cg r u z).1] at L;cases L
  | some l =>
   obtain ⟨l2,nb1,nb2,Ts,nb3,U,a2,X,Y,Z,_⟩:=E.ad (h.ad r l u z).2;rw [U] at L;injection L with L;subst L;obtain ⟨b1,b2,b3⟩:=zkc (ho r u (h.ad r l u z).2).1 nb1 nb2 Ts nb3;have hg:(opnT (ts r)).J=l.s.sto.J:=by unfold opnT;rw [z]
   have O:=(R r u).2 l z;have a6:=O.J;have he:=zfG (ct:=(ts r).ct) (boots:=boots+1) (by have:=(R r u).1;omega) (by omega);rw [<- a2] at b1 b2 b3;exact ⟨b1,by rw [Z];exact .nil _,by rw [b2,hg];omega,by rw [X];omega,by rw [Y];omega⟩
theorem zgY {H D boots G:Nat} {E:Nat->Prop} {A:Nat->DT} {q:Rq} {b:List UInt8} {w:World} (a8:HG w H D boots G E A) (c1:q.kd≠18) (a9:q.kd=19->q.n<=0) (b9:iok q.hd) (hn:iok q.n) (hb:zj w (.slice q.dA q.dn q.dc) b) (a6:b.length<=100000) (hG:G<=100000) :
  zc 9 #[.pointer (some ⟨H,0,none⟩),.agg (zJ q).toArray] w fun e W=>∃ a u,e=.returned (.agg (zV a).toArray)/\zcI W w.heap.size a (stepD boots A q b).1/\HG W H D (stepD boots A q b).2.1 (G+1) u (stepD boots A q b).2.2/\zA E w W/\(∀ x,u x->E x∨w.heap.size<=x)/\∀ x,dB a (stepD boots A q b).1 x->¬ u x:=by
 obtain ⟨F,cur,ts,X,c0,Z,hk,a0,Y⟩:=a8;unfold stepD;by_cases O:q.kd=19
 ·rw [if_pos O];refine (zls X Z hk O (a9 O) a0 hG).mono ?_;rintro e W ⟨rfl,a3,hq⟩;obtain ⟨u,L,R,h3,_⟩:=HG.after a3 hq (by omega) Y;exact ⟨qo 0,u,rfl,.zero _ _ _,L,R,h3,fun x h=>absurd rfl h.1⟩
 rw [if_neg O];by_cases a1:0<=q.kd/\q.kd<=17/\0<=q.tn/\q.tn<4
 ·rw [if_pos a1];obtain ⟨i0,a7,i1,i4⟩:=a1;obtain ⟨r,hr⟩:=ex q.tn.toNat;have a5:q.tn=r:=by omega
  have a4:r<4:=by omega
  rw [<- hr];refine Calls.mono (zoI (bz:=fun x=>x<w.heap.size/\¬ E x) H D r (fun r=>(ts r).t5) boots q w (ym (fun x=>x<w.heap.size/\¬ E x) H D boots G r w.heap.size A (uQ boots r (A r) q b)) X.U a4 (zrq _) i0 a7 a5 ym.br fun W U=>?_) ?_
  ·cases hl:(ts r).ad with
   | none=>exact znm (X.below U) Z hk a4 a5 (hb.below U) a6 ⟨Y,hG⟩ a0 hl
   | some l=>exact zny (X.below U) Z hk a4 i0 a7 a5 b9 hn (hb.below U) a6 ⟨Y,hG⟩ U.size hl
  ·rintro e W ⟨a,rfl,a3,hv,hq⟩;obtain ⟨u,L,R,h3,h4⟩:=HG.after a3 hq (by omega) Y;have h5:zcI W w.heap.size (if a.Z=0 then a else qo a.Z) (zbv (uQ boots r (A r) q b).1)/\∀ x,dB (if a.Z=0 then a else qo a.Z) (zbv (uQ boots r (A r) q b).1) x->¬ u x:=by
    unfold zbv;rw [<- hv.cb.Z];split
    ·exact ⟨hv,h4⟩
    ·exact ⟨.zero _ _ _,fun x h=>absurd rfl h.1⟩
   exact ⟨_,u,rfl,h5.1,L,R,h3,h5.2⟩
 ·rw [if_neg a1];refine (zqb H q w ?_).mono ?_
  ·by_cases L:q.kd<0
   ·exact .inl L
   ·by_cases R:19<q.kd
    ·exact .inr (.inl R)
    ·exact .inr (.inr ⟨O,by omega⟩)
  ·rintro e W ⟨rfl,z⟩;refine ⟨qo 1,E,rfl,.zero _ _ _,?_,⟨z.os,z.tape,z.output,z.size,fun x h _=>z.block x h⟩,fun x h=>.inl h,fun x h=>absurd rfl h.1⟩;refine HG.below ?_ z;exact ⟨F,cur,ts,X,c0,Z,fun i hi=>(hk i hi).bp,Nat.le_succ_of_le a0,by omega⟩
theorem zeW (w:World):zc 8 #[] w fun e W=>∃ H D E,e=.returned (.pointer (some ⟨H,0,none⟩))/\HG W H D 1 31 E (fun _=>⟨0,0,none⟩)/\zd w W/\∀ x,E x->w.heap.size<=x:=by refine (zlD w).mono ?_;rintro e W ⟨H,D,F,cur,ts,rfl,X,O,u⟩;have Z:HQ (·<w.heap.size) (fun _=>False) W H D 1 31 fun _=>⟨0,0,none⟩:=⟨F,cur,ts,X,fun i L=>by rw [O i L];rfl,fun i L=>by rw [O i L];exact ⟨by show 0<=31;omega,fun l Y=>(by cases Y)⟩,fun _ h=>h.elim⟩;obtain ⟨E,R,U,_⟩:=Z.hg (by omega) (by omega);exact ⟨H,D,E,rfl,R,⟨u.os,u.tape,u.output,u.size,fun x z=>u.old x z z⟩,fun x z=>Nat.le_of_not_lt (U x z)⟩
end
end Go.Proofs.YtechnoogjhohfaaGreat
