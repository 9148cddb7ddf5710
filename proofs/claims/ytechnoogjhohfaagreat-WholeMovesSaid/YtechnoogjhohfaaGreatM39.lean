import Derived.Test.YtechnoogjhohfaaGreatM37
import Derived.Test.YtechnoogjhohfaaGreatM38
import Derived.Test.YtechnoogjhohfaaGreatM27
import Derived.Test.YtechnoogjhohfaaGreatM9
import Derived.Test.YtechnoogjhohfaaGreatM8
set_option maxRecDepth 100000
set_option maxHeartbeats 6400000
set_option linter.unusedVariables false
set_option linter.unusedSimpArgs false
namespace Go.Proofs.YtechnoogjhohfaaGreat
open Go.RowKit Go.Lib
open YtechnoogjhohfaaGreatW Go.Proofs.Tryz Go.Proofs.YtechnoogjhohfaaGreat.Tryz
section
theorem zi.gy {W u:World} {v:Value} (h:zi W v []):zi u v []:=by obtain ⟨A,c,rfl,_,z,D⟩:=h;exact ⟨A,c,rfl,⟨by simp [zE],fun h=>absurd h (by simp)⟩,z,D⟩
structure Kp (W:World) (B:Nat) (a:An) (v:um):Prop where
 Z:a.Z=v.Z
 hd:a.hd=v.hd
 vl:a.vl=zb v.vl
 a7:W.ownsRow 0 34 3 (.slice a.rA a.rn a.rc) v.a7.length (jq v.a7)
 data:(v.data=[]/\zi W (.slice a.dA a.dn a.dc) [])∨W.ownsRow B 5 1 (.slice a.dA a.dn a.dc) v.data.length (zE v.data)
theorem Kp.of {W:World} {B:Nat} {a:An} {v:um} (h:zcR W B a v):Kp W B a v:=by
 refine ⟨h.ca.Z,h.ca.hd,h.ca.vl,h.ca.a7,?_⟩;by_cases e:v.data=[]
 ·refine .inl ⟨e,?_⟩;have u:=h.ca.data;rw [e] at u;exact zi.aj rfl u
 ·exact .inr (h.a9 e)
theorem Kp.r {W:World} {B:Nat} {a:An} {v:um} (h:Kp W B a v):zrT W a v:=by
 refine ⟨h.Z,h.hd,h.vl,h.a7,?_⟩;rcases h.data with ⟨e,u⟩ | u
 ·rw [e];exact u
 ·exact zi.aj rfl u
theorem Kp.ad {W D:World} {B:Nat} {a:An} {v:um} {M:Nat->Prop} (h:Kp W B a v) (L:zz M W D) (E:∀ x,M x->qO W x≠34/\x<B):Kp D B a v:=by
 refine ⟨h.Z,h.hd,h.vl,own_same h.a7 fun k z=>L.block k (h.a7.lt k z).2 (fun hm=>(E k hm).1 (own_tag h.a7 z)),?_⟩;rcases h.data with ⟨e,u⟩ | u
 ·exact .inl ⟨e,u.gy⟩
 ·exact .inr (own_same u fun k z=>L.block k (u.lt k z).2 (fun hm=>by have:=(E k hm).2;have:=(u.lt k z).1;omega))
theorem Kp.below {W u:World} {B:Nat} {a:An} {v:um} (h:Kp W B a v) (hb:zd W u):Kp u B a v:=h.ad (M:=fun _=>False) (zz.ak hb) fun _ h=>h.elim
theorem yE.a6 {w:World} {X:Nat} {R:Nat->List Int} {G:Nat->Prop} (h:yE w X R G) {x:Nat} (O:G x):qO w x=54∨qO w x=3:=by
 obtain ⟨v,u,z,U,D⟩:=h;rcases (D x).1 O with rfl | ⟨i,E,L⟩
 ·exact .inl (zh u)
 ·exact .inr (own_tag (z i E) L)
def zrK:List Nat:=[103,222,100001,136,208,150,3,200,204,194,5,139,81,118,86,120,73]
theorem HG.hp {w W:World} {H D boots G:Nat} {E:Nat->Prop} {A:Nat->DT} (h:HG w H D boots G E A) (L:zz E w W) {z t:Nat} {C:Array Value} (R:t ∉ zrK) (u:w.heap[z]?=some (.cells C t (0,0))):W.heap[z]?=some (.cells C t (0,0)) :=
 (L.block z (zj u) (fun O=>R (by have:=(h.a6 O).1;rw [zh u] at this;exact this))).trans u
theorem HG.bu {w:World} {H D boots G:Nat} {u:Nat->Prop} {A:Nat->DT} (h:HG w H D boots G u A):HG w H D boots (G+1) u A:=by obtain ⟨F,cur,ts,z,E,L,O,U,X⟩:=h;exact ⟨F,cur,ts,z,E,L,fun i R=>(O i R).bu,by omega,by omega⟩
theorem HG.hh {w:World} {H D boots G:Nat} {a0:Nat->Prop} {A:Nat->DT} (h:HG w H D boots G a0 A) (hG:G<=100000) {q:Rq} {b:List UInt8} (Z:q.kd=2) (u:(stepD boots A q b).1.Z=0):iok (stepD boots A q b).1.hd:=by
 obtain ⟨F,cur,ts,_,_,X,Y,_⟩:=h;unfold stepD at u ⊢;rw [if_neg (by omega)] at u ⊢;by_cases U:0<=q.kd/\q.kd<=17/\0<=q.tn/\q.tn<4
 ·rw [if_pos U] at u ⊢;have L:q.tn.toNat<4:=by omega
  generalize q.tn.toNat=r at u L ⊢;have z:=X r L;unfold vw at u ⊢;cases E:(ts r).ac with
  | none =>
   have:(A r).ac=none:=by rw [<- z];unfold Tn.Z;rw [E];rfl
   rw [this] at u ⊢;dsimp only at u ⊢;rw [if_neg (by omega),if_neg (by omega)] at u;cases u
  | some l =>
   have R:=(Y r L).2 l E;have z:A r=⟨(ts r).st,(ts r).ct,some l.Z⟩:=z.symm.trans (ZL E);rw [z] at u ⊢;dsimp only at u ⊢;rw [if_neg (by omega),if_neg (by omega),if_pos Z] at u ⊢;by_cases O:l.Z.hs.length=6
   ·rw [if_pos O] at u;cases u
   ·rw [if_neg O];have h1:=R.ep;have h2:=R.nx;show iok (l.ep*1048576+(l.nx+1));exact iok_of (by omega)
 ·rw [if_neg U] at u;cases u
section
variable {w W W':World} {H1 D1 b1 G1 H2 D2 b2 G2 X:Nat} {o1 o2 O:Nat->Prop} {A1 A2:Nat->DT} {ls:Nat->List Int}
theorem zz.fc {M:Nat->Prop} {w W u:World} (hb:zd w W) (h:zz M W u) (D:∀ y,M y->w.heap.size<=y):zd w u :=
 ⟨h.os.trans hb.os,h.tape.trans hb.tape,h.output.trans hb.output,zA hb.size h.size,fun y z=>(h.block y (qg z hb.size) (fun hm=>by have:=D y hm;omega)).trans (hb.block y z)⟩
end
def Qz (i:Nat) (h:Nat->List Int):Prop:=∀ j,j<4->(h j).length<=i/\∀ z,z∈h j->iok z
theorem Qz.g2 {i:Nat} {E:Nat->List Int} (h:Qz i E) {kd tn L hd:Int} (R:kd=2->L=0->iok hd):Qz (i+1) (ZI E kd tn L hd):=by
 have hm:Qz (i+1) E:=fun j u=>⟨Nat.le_succ_of_le (h j u).1,(h j u).2⟩;unfold ZI;split
 ·rename_i O;intro j u;by_cases e:j=tn.toNat
  ·subst e;rw [zk];refine ⟨by rw [zl];have:=(h _ u).1;simp;omega,fun z D=>?_⟩;rcases ja.1 D with D | D
   ·exact (h _ u).2 z D
   ·simp at D;subst D;exact R O.1 O.2.1
  ·rw [zt _ _ e];exact hm j u
 ·exact hm
theorem Qz.ix {i:Nat} {u:Nat->List Int} (h:Qz i u) {q:Rq} {D:Int} {L:Bool} (E:iok q.hd):iok (ZC u q D L).hd:=by
 unfold ZC;split
 ·rename_i O;dsimp only;cases e:(u (Qv q.tn))[(u (Qv q.tn)).length-1-Qv D % (u (Qv q.tn)).length]? with
  | none=>exact iok_of (by rw [Option.getD_none];omega)
  | some z=>exact (h _ (zdA q.tn).2).2 z (zC e)
 ·exact E
end
theorem QV {k x y:Nat} (u:x<256 ^ k) (z:y<256 ^ k) (h:zP k x=zP k y):x=y:=by have:=congrArg QM h;rwa [JB,JB,Nat.mod_eq_of_lt u,Nat.mod_eq_of_lt z] at this
theorem zaD {x y:Nat} (u:x<256) (z:y<256) (h:UInt8.ofNat x=UInt8.ofNat y):x=y:=by have:=congrArg UInt8.toNat h;simp only [UInt8.toNat_ofNat'] at this;omega
theorem zou {r s:Rw} (Z:r.ok) (hs:s.ok) (h:vf r=vf s):r=s:=by obtain ⟨t,k,v⟩:=r;obtain ⟨t2,k2,v2⟩:=s;obtain ⟨z,a2,D⟩:=Z;obtain ⟨b1,b2,b3⟩:=hs;simp only at z a2 D b1 b2 b3;unfold vf Jn at h;simp only [jf] at h;obtain ⟨_,h⟩:=List.append_inj h rfl;obtain ⟨O,h⟩:=List.append_inj h (by simp [zD]);obtain ⟨R,h⟩:=List.append_inj h (by simp [zD]);have E:=QV (by omega) (by omega) O;have u:=QV (by omega) (by omega) R;obtain ⟨U,h⟩:=List.append_inj h u;obtain ⟨_,h⟩:=List.append_inj h (by simp [zs,u]);obtain ⟨X,h⟩:=List.append_inj h (by simp [zD]);have L:=QV (by omega) (by omega) X;obtain ⟨Y,_⟩:=List.append_inj h L;subst E U Y;rfl
theorem zfP {o p:Option Rw} (u:jt o) (z:jt p) (h:zM o=zM p):o=p:=by
 cases o with
 | none =>
  cases p with
  | none=>rfl
  | some s=>have:=congrArg List.length h;rw [show (zM (some s)).length=40 from QO z] at this;cases this
 | some r =>
  cases p with
  | none=>have:=congrArg List.length h;rw [show (zM (some r)).length=40 from QO u] at this;cases this
  | some s=>rw [zou u z h]
theorem zfS:∀ {a b:List Nat},(∀ d,d∈a->d<18446744073709551616)->(∀ d,d∈b->d<18446744073709551616)->a.length=b.length->a.flatMap (zP 8)=b.flatMap (zP 8)->a=b
 | [],[],_,_,_,_=>rfl
 | [],y::b,_,_,h,_=>by cases h
 | x::a,[],_,_,h,_=>by cases h
 | x::a,y::b,ha,hb,hl,h=>by simp only [qy] at h;obtain ⟨z,D⟩:=List.append_inj h (by simp [zD]);have u:=QV (k:=8) (ha x (jj ..)) (hb y (jj ..)) z;rw [u,zfS (fun d hd=>ha d (ji _ hd)) (fun d hd=>hb d (ji _ hd)) (by simpa using hl) D]
theorem zos {x y:zS} (u:x.ok) (z:y.ok) {l m:List UInt8} (h:qF x++l=qF y++m):x=y/\l=m:=by
 have L:=yV u;have O:=yV z;have cx:=Zy u.aa;have cy:=Zy z.aa;have dx:=Zy u.after;have dy:=Zy z.after;unfold qF at h L O;rw [zl,zD] at L O;simp only [jf] at h;obtain ⟨E,h⟩:=List.append_inj h (by simp [zD]);have D:=QV (k:=2) (by omega) (by omega) E;obtain ⟨hb,h⟩:=List.append_inj h D;refine ⟨?_,h⟩;clear h E D L O;have ix:x.ao.length<=256:=by rcases u.ao with e | e<;>simp [e]
 have iy:y.ao.length<=256:=by rcases z.ao with e | e<;>simp [e]
 have jx:x.Y.length<=6:=by rcases u.Y with e | e<;>simp [e]
 have jy:y.Y.length<=6:=by rcases z.Y with e | e<;>simp [e]
 unfold ua Qi Jm uG at hb;simp only [jf] at hb;obtain ⟨h0,hb⟩:=List.append_inj hb rfl;simp only [List.cons.injEq,and_true] at h0;have U:=zaD (by have:=u.k7;omega) (by have:=z.k7;omega) h0.1;have X:=zaD (by have:=u.txn;omega) (by have:=z.txn;omega) h0.2.1;have Y:=zaD (by have:=u.E;omega) (by have:=z.E;omega) h0.2.2.1;have Z:=zaD (by have:=u.slot;omega) (by have:=z.slot;omega) h0.2.2.2;obtain ⟨E,hb⟩:=List.append_inj hb (by simp [zD]);have D:=QV (by omega) (by omega) E;obtain ⟨h2,hb⟩:=List.append_inj hb D;obtain ⟨h3,hb⟩:=List.append_inj hb (by simp [zD]);have e3:=QV (by omega) (by omega) h3;obtain ⟨h4,hb⟩:=List.append_inj hb e3;obtain ⟨h5,hb⟩:=List.append_inj hb (by simp [zD]);have e5:=QV (k:=2) (by omega) (by omega) h5;obtain ⟨R,hb⟩:=List.append_inj hb e5;obtain ⟨h7,hb⟩:=List.append_inj hb (by simp [zD]);have e7:=QV (by omega) (by omega) h7;have k5:=zfP u.aa z.aa h2;have k6:=zfP u.after z.after h4;have k7:=zfS u.hf z.hf e7 hb;cases x;cases y;simp only at U X Y Z k5 k6 R k7;subst U X Y Z k5 k6 R k7;rfl
theorem zgp:∀ {a b:List zS},(∀ x,x∈a->x.ok)->(∀ x,x∈b->x.ok)->zq a=zq b->a=b
 | [],[],_,_,_=>rfl
 | [],y::b,_,_,h=>by
  have u:=congrArg List.length h;have e:zq (y::b)=qF y++zq b:=by simp [zq]
  have D:(zq []).length=0:=rfl;rw [e,zl,D] at u;have:=JC y;omega
 | x::a,[],_,_,h=>by
  have u:=congrArg List.length h;have e:zq (x::a)=qF x++zq a:=by simp [zq]
  have D:(zq []).length=0:=rfl;rw [e,zl,D] at u;have:=JC x;omega
 | x::a,y::b,ha,hb,h=>by
  have L:zq (x::a)=qF x++zq a:=by simp [zq]
  have O:zq (y::b)=qF y++zq b:=by simp [zq]
  rw [L,O] at h;obtain ⟨u,R⟩:=zos (ha x (jj ..)) (hb y (jj ..)) h;rw [u,zgp (fun z E=>ha z (ji _ E)) (fun z E=>hb z (ji _ E)) R]
theorem zev {s:St} {rs:List zS} {C:Nat->List (Option Rw)} (h:zka s rs rs.length C) (z:jR s) (r:Nat):(openD r s).N=s.N/\(openD r s).ts=uR:=by
 have X:=zjM z.c.l;have R:=zgr X;have Z:s.sto.Q.take s.sto.av=zq rs:=by rw [h.cw.Q,h.cw.av,qi,qi]
 have Y:recsOf (s.sto.Q.take s.sto.av)=rs:=zgp R.2.1 h.dz.ok (R.1.trans Z);have hlen:∀ k,k<6->(C k).length=5:=fun k E=>by rw [<- h.ir k E];exact (z.c.i0.ok k E).b3
 have L:=z.c.i0.Q;unfold openD;rw [Y];obtain ⟨O,a0,a3,a1⟩:=zhR (r:=r) (bank:=s.sto.bank) (nb1:=z1) (nb2:=z1) (Ts:=z1) (nb3:=fun _=>z1) (h.dz.h9 s.sto.J 0) (fun i=>by rw [h.dz.lsr i]) (fun n u=>by have:=h.cw.part n u;rw [qi] at this;exact this) (h.N.gx hlen) (fun n u=>by
  have D:=(zfy (qK s.sto.J 0 rs) n (s.sto.dp n)).1;rw [h.cw.dq n u] at D;have U:=h.cw.mark n u;refine Nat.lt_of_le_of_lt D (qg U ?_);unfold jl;exact Nat.add_le_add_right (Nat.add_le_add_left L _) 1) (by rw [<- h.cw.Q];exact L)
 exact ⟨zaZ O.N.so h.N.so fun y=>(O.N.mem y).trans (h.N.mem y).symm,a0⟩
theorem zhl (r:Nat):∀ (l:List Rw) (k:Nat) (s:St),uN r l k s (zdt r l k s)
 | [],_,_=>rfl
 | rw::l,k,s=>⟨0,z1,0,zhl r l (k+1) _⟩
theorem zrr:Za.Z=Za:=rfl
theorem zeq {h:List Rw} (u:Zd h) (r:Nat):zqo h (Gt r h):=by refine zeb u (r:=r) ⟨zdt r h 0 Za,zhl r h 0 Za,?_⟩;unfold Gt;rw [zrr]
theorem Kp.g9 {W D:World} {B:Nat} {a:An} {v:um} {M:Nat->Prop} (h:Kp W B a v) (E:zz M W D) (O:∀ x,M x->qO W x≠34) (hd:∀ x,dB a v x->¬ M x):Kp D B a v:=by
 refine ⟨h.Z,h.hd,h.vl,own_same h.a7 fun k z=>E.block k (h.a7.lt k z).2 (fun hm=>O k hm (own_tag h.a7 z)),?_⟩;by_cases e:v.data=[]
 ·refine .inl ⟨e,?_⟩;rcases h.data with ⟨_,u⟩ | u
  ·exact u.gy
  ·rw [e] at u;exact (zi.aj rfl u).gy
 ·rcases h.data with ⟨L,_⟩ | u
  ·exact absurd L e
  ·exact .inr (own_same u fun k z=>E.block k (u.lt k z).2 (hd k ⟨e,z⟩))
structure Sg (w:World) (H D boots G:Nat) (own:Nat->Prop) (A:Nat->DT) (W:World):Prop where
 g:HG W H D boots G own A
 b:zd w W
 n:∀ x,own x->w.heap.size<=x
theorem Sg.below {w W u:World} {H D boots G:Nat} {z:Nat->Prop} {A:Nat->DT} (h:Sg w H D boots G z A W) (hb:zd W u):Sg w H D boots G z A u:=⟨h.g.below hb,B_call h.b hb,h.n⟩
theorem HG.ic {w:World} {H D boots G:Nat} {u:Nat->Prop} {A:Nat->DT} (h:HG w H D boots G u A):∀ x,u x->qO w x≠34:=fun x z e=>by have:=(h.a6 z).1;rw [e] at this;simp at this
theorem Sg.do {w W:World} {H D boots G:Nat} {R:Nat->Prop} {A:Nat->DT} {q:Rq} {b:List UInt8} {v:um} {boots':Nat} {L:Nat->DT} (h:Sg w H D boots G R A W) (e:stepD boots A q b=(v,boots',L)) (X:q.kd≠18) (a1:q.kd=19->q.n<=0) (a3:iok q.hd) (hn:iok q.n) (hb:zi W (.slice q.dA q.dn q.dc) b) (a0:b.length<=100000) (hG:G<=100000) :
  zc 9 #[.pointer (some ⟨H,0,none⟩),.agg (zK q).toArray] W fun e u=>∃ a z,e=.returned (.agg (zQ a).toArray)/\Kp u W.heap.size a v/\Sg w H D boots' (G+1) z L u/\zz R W u/\∀ x,dB a v x->¬ z x:=by
 have hd:=zlO h.g X a1 a3 hn hb a0 hG;rw [e] at hd;refine hd.mono ?_;rintro e u ⟨a,z,rfl,U,Y,O,Z,h5⟩;refine ⟨a,z,rfl,.of U,⟨Y,zz.fc h.b O h.n,fun x hx=>?_⟩,O,h5⟩;rcases Z x hx with E | E
 ·exact h.n x E
 ·exact zA h.b.size E
theorem zlA (W:World):zi W (.slice none 0 0) []:=⟨none,0,rfl,zJ.cy,za _,by unfold maxLen;omega⟩
abbrev zrW (kd tn hd rt:Int) (rk rv:ByteArray) (mask:Int):Array Value:=#[.int .i64 kd,.int .i64 tn,.int .i64 hd,.int .i64 rt,.string rk,.string rv,.string { data:=#[] },.int .i64 0,.int .u64 mask,.slice none 0 0]
def Gz (kd tn hd rt:Int) (rk rv:ByteArray) (mask:Int):Rq:=⟨kd,tn,hd,rt,rk,rv,{ data:=#[] },0,mask,none,0,0⟩
theorem Sg.c8 {w W:World} {H D boots G:Nat} {E:Nat->Prop} {A:Nat->DT} {kd tn hd rt mask:Int} {rk rv:ByteArray} {v:um} {boots':Nat} {z:Nat->DT} (h:Sg w H D boots G E A W) (e:stepD boots A (Gz kd tn hd rt rk rv mask) []=(v,boots',z)) (O:kd≠18) (U:iok hd) (R:G<=100000) :
  zc 9 #[.pointer (some ⟨H,0,none⟩),.agg (zrW kd tn hd rt rk rv mask)] W fun e u=>∃ a L,e=.returned (.agg (zQ a).toArray)/\Kp u W.heap.size a v/\Sg w H D boots' (G+1) L z u/\zz E W u/\∀ x,dB a v x->¬ L x :=
 Sg.do (q:=Gz kd tn hd rt rk rv mask) h e O (fun _=>Int.le_refl 0) U (iok_of (by show _<=(0:Int)/\(0:Int)<=_;omega)) (zlA W) (by simp) R
theorem zcK {boots r:Nat} {A:Nat->DT} {q:Rq} {b:List UInt8} (h0:0<=q.kd) (h:q.kd<=17) (u:q.tn=r) (z:r<4):stepD boots A q b=(zdp (vw boots r (A r) q b).1,boots,zV A r (vw boots r (A r) q b).2):=by unfold stepD;rw [if_neg (by omega),if_pos ⟨h0,h,by omega,by omega⟩,u,qp]
def zcq:Int:=((uP 1 1:Nat):Int)
def vQ:Int:=zcq*1048576+1
def JD:St:=(Za.an 0).2
def Qu:St:=(JD.put 2 z1 0 1 0 JQ).2
def zaX:St:=Qu.am 1 (QS Qu.ts 1)
theorem zmP:JQ.ok:=⟨by decide,by decide,by decide⟩
theorem zfB:(JD.put 2 z1 0 1 0 JQ).1=0/\Qu.N.map (·.rw)=[JQ]/\(openD 2 zaX).N.map (·.rw)=[JQ]/\(openD 2 zaX).ts=uR:=by
 obtain ⟨g1,z,_,h,_⟩:=zoT.an (T:=0) rfl;have O:jR JD:=(znN.an 0).1;obtain ⟨p1,⟨rs,p2⟩,⟨y,p3⟩,n,i,p4⟩:=g1.put (r:=2) (nb:=0) (nbs:=z1) (x:=uh) (rw:=JQ) O z (by decide) zmP (by decide) (by rw [h];decide) (fun y L=>by rw [h] at L;cases L);have R:jR Qu:=(O.put (r:=2) (nb:=0) (nbs:=z1) (txn:=1) (T:=0) (x:=uh) (rw:=JQ) (by omega) (by omega) (by rw [show JD.ts=one 0 uh from z];rfl) zmP (by decide)).1;have u:Qu.ts=one 0 ⟨uh.I++[y],uh.ag,uh.ops+1⟩:=p3;have Y:QS Qu.ts 1=⟨uh.I++[y],uh.ag,uh.ops+1⟩:=by rw [u];rfl
 obtain ⟨_,U,c3⟩:=ud.am (s:=Qu) p2 R u (by simp);have Z:=(R.am (txn:=1) (T:=0) (x:=⟨uh.I++[y],uh.ag,uh.ops+1⟩) (by omega) (by omega) (by rw [u];rfl)).1;have E:Qu.N.map (·.rw)=[JQ]:=by have X:Qu.N=uF JD.N (jv JD.N JQ) ⟨JQ,n,i⟩:=p4;rw [X,show JD.N=[] from h];rfl
 have D:zaX=Qu.am 1 ⟨uh.I++[y],uh.ag,uh.ops+1⟩:=by unfold zaX;rw [Y]
 obtain ⟨o1,o2⟩:=zev U Z 2;refine ⟨p1,E,?_,by rw [D];exact o2⟩;rw [D,o1];exact E
def Km (s:St) (nx:Int) (hs:List (Int × Int)):DT:=⟨1,1,some ⟨s,zcq,nx,hs⟩⟩
def zjR:Nat->DT:=fun _=>⟨0,0,none⟩
def sA (t:DT):Nat->DT:=zV zjR 2 t
theorem znl {α:Type} (c:Nat->α) (r:Nat) (a b:α):zV (zV c r a) r b=zV c r b:=by
 funext i;by_cases e:i=r
 ·subst e;rw [zk,zk]
 ·rw [zt _ _ e,zt _ _ e,zt _ _ e]
theorem Gb {boots:Nat} {t t':DT} {q:Rq} {v:um} (h:vw boots 2 t q []=(v,t')) (h0:0<=q.kd/\q.kd<=17) (u:q.tn=2):stepD boots (sA t) q []=(zdp v,boots,sA t'):=by rw [zcK h0.1 h0.2 (r:=2) u (by omega)];unfold sA;rw [zk,h,znl]
theorem zrj:stepD 1 zjR (Gz 0 2 0 0 { data:=#[] } { data:=#[] } 0) []=(jD 0,1,sA (Km Za 0 [])):=by rw [zcK (r:=2) (by decide) (by decide) rfl (by omega)];rfl
theorem zrk:stepD 1 (sA (Km Za 0 [])) (Gz 2 2 0 0 { data:=#[] } { data:=#[] } 0) []=(⟨0,vQ,[],[],[]⟩,1,sA (Km Za 1 [(vQ,0)])):=by rw [Gb (v:=⟨0,vQ,[],[],[]⟩) (t':=Km Za 1 [(vQ,0)]) rfl (by decide) rfl];rfl
theorem zrl:stepD 1 (sA (Km Za 1 [(vQ,0)])) (Gz 4 2 vQ 0 { data:=#[] } { data:=#[] } 0) []=(jD 0,1,sA (Km JD 1 [(vQ,1)])):=by rw [Gb (v:=jD 0) (t':=Km JD 1 [(vQ,1)]) (by rfl) (by decide) rfl];rfl
def zeI:Rq:=Gz 6 2 vQ 1 { data:=#[107] } { data:=#[118] } 0
def zeJ:Rq:=Gz 11 2 vQ 0 { data:=#[] } { data:=#[] } 0
theorem zis (d:DL) (q:Rq) (v:um) (h:DL) (hs:GD 2 d q=(v,h)) (z:3<=q.kd/\q.kd<=12) (u:qS d.hs q.hd=true):vw 1 2 ⟨1,1,some d⟩ q []=(v,⟨1,1,some h⟩):=by unfold vw;dsimp only;rw [if_neg (by omega),if_neg (by omega),if_neg (by omega),if_neg (by omega),if_neg (by omega),if_neg (by rw [u];decide),hs]
theorem zrm:stepD 1 (sA (Km JD 1 [(vQ,1)])) zeI []=(jD 0,1,sA (Km Qu 1 [(vQ,1)])):=by
 have h:KA 2 JD 1 uh zeI JQ=(jD (JD.put 2 z1 0 1 0 JQ).1,false,Qu):=by unfold KA;rw [if_neg (by decide),if_pos (by decide)];rfl
 have hs:GD 2 ⟨JD,zcq,1,[(vQ,1)]⟩ zeI=(jD 0,⟨Qu,zcq,1,[(vQ,1)]⟩):=by unfold GD;rw [show zda (⟨JD,zcq,1,[(vQ,1)]⟩:DL) zeI=1 from rfl,if_neg (by decide),if_neg (by decide),if_neg (by decide),show (1:Int).toNat=1 from rfl,show QS JD.ts 1=uh from rfl,show zdK zeI=JQ from rfl,h,zfB.1];rfl
 exact Gb (zis _ _ _ _ hs (by decide) rfl) (by decide) rfl
theorem zrn:stepD 1 (sA (Km Qu 1 [(vQ,1)])) zeJ []=(jD 0,1,sA (Km zaX 1 [(vQ,0)])):=by
 have h:KA 2 Qu 1 (QS Qu.ts 1) zeJ (zdK zeJ)=(jD 0,true,zaX):=by unfold KA;rw [if_neg (by decide),if_neg (by decide),if_neg (by decide),if_neg (by decide),if_neg (by decide),if_neg (by decide),if_pos (by decide)];rfl
 have hs:GD 2 ⟨Qu,zcq,1,[(vQ,1)]⟩ zeJ=(jD 0,⟨zaX,zcq,1,[(vQ,0)]⟩):=by unfold GD;rw [show zda (⟨Qu,zcq,1,[(vQ,1)]⟩:DL) zeJ=1 from rfl,if_neg (by decide),if_neg (by decide),if_neg (by decide),show (1:Int).toNat=1 from rfl,h];rfl
 exact Gb (zis _ _ _ _ hs (by decide) rfl) (by decide) rfl
noncomputable def sndT6:DT:=⟨1,1,some ⟨openD 2 zaX,((uP 1 2:Nat):Int),0,[]⟩⟩
theorem zro:stepD 1 (sA (Km zaX 1 [(vQ,0)])) (Gz 19 0 0 0 { data:=#[] } { data:=#[] } 0) []=(jD 0,2,sA sndT6):=by
 unfold stepD;rw [if_pos (show (Gz 19 0 0 0 { data:=#[] } { data:=#[] } 0).kd=19 from rfl)];refine congrArg (fun x=>(jD 0,2,x)) (funext fun r=>?_);unfold sA;by_cases e:r=2
 ·subst e;rw [zk,zk];rfl
 ·rw [zt _ _ e,zt _ _ e];rfl
theorem zrp:stepD 2 (sA sndT6) (Gz 13 2 0 0 { data:=#[] } { data:=#[] } 0) []=(⟨0,0,[],[],jG [JQ]⟩,2,sA sndT6):=by
 have h:vw 2 2 sndT6 (Gz 13 2 0 0 { data:=#[] } { data:=#[] } 0) []=(⟨0,0,[],[],jG [JQ]⟩,sndT6):=by unfold vw sndT6;dsimp only;rw [if_neg (by decide),if_neg (by decide),if_neg (by decide),if_pos (by decide),zfB.2.2.1,zfB.2.2.2];rfl
 rw [Gb h (by decide) rfl];rfl
theorem zrq:stepD 2 (sA sndT6) (Gz 13 1 0 0 { data:=#[] } { data:=#[] } 0) []=(jD 3,2,sA sndT6):=by rw [zcK (r:=1) (by decide) (by decide) rfl (by omega),show sA sndT6 1=zjR 1 from zt _ _ (by omega)];have h:vw 2 1 (zjR 1) (Gz 13 1 0 0 { data:=#[] } { data:=#[] } 0) []=(jD 3,zjR 1):=rfl;rw [h];refine congrArg (fun x=>(jD 3,2,x)) ?_;have:=Zu (sA sndT6) 1;rwa [show sA sndT6 1=zjR 1 from zt _ _ (by omega)] at this
theorem zji (g:Nat) (w:World) (h:w.heap[g]?=some (.cells Ga 34 (0,0))) :
  zc 18 #[.slice (some ⟨g,0,none⟩) 1 1] w fun e w'=>∃ v,e=.returned v/\w'.ownsRow w.heap.size 5 1 v 15 (zE (jG [JQ]))/\zd w w':=by
 have u:=hid (zig g w h);clear h;go_enter func18,ntmps18;go_wp2_with ((with_reducible refine aV 24 u.o ?_);rintro D w1 ⟨v,rfl,z,hb⟩);go_ret;exact ⟨v,rfl,z,hb⟩
theorem zrc:(jG [JQ]).length=15:=by kernel_rfl
structure zlq (a b c:Nat) (A B C D:An) (L:List UInt8) (w':World):Prop where
 ha:w'.heap[a]?=some (.cells (zQ A).toArray 31 (0,0))
 hb:w'.heap[b]?=some (.cells (zQ B).toArray 31 (0,0))
 hc:w'.heap[c]?=some (.cells (zQ C).toArray 31 (0,0))
 hd:w'.heap[c+1]?=some (.cells (zQ D).toArray 31 (0,0))
 hL:zi w' (.slice C.dA C.dn C.dc) L
theorem zlq.below {a b c:Nat} {A B C D:An} {L:List UInt8} {w w':World} (h:zlq a b c A B C D L w) (k:zd w w'):zlq a b c A B C D L w' :=
 ⟨zg h.ha k (zj h.ha),zg h.hb k (zj h.hb),zg h.hc k (zj h.hc),zg h.hd k (zj h.hd),h.hL.below k⟩
theorem zjU:iok vQ/\decide ((0:Int)<vQ)=true:=⟨by unfold iok;kernel_rfl,by kernel_rfl⟩
theorem zqj (w:World):zc 7 #[] w fun e W=>e=.returned (.bool true)/\zd w W:=by
 have j4:=hid (zjF w);have a8:=hid zjU.1;have q0:=zjU.2;have X:=hid (iok_of (x:=0) (by omega));go_enter func7,ntmps7;go_upto_region 2 with ((with_reducible refine aV 8 j4.o ?_);rintro k3 w1 ⟨H,j9,o1,rfl,g8,g0,i0⟩);have h2:=hid (Sg.c8 (w:=w) ⟨g8,g0,i0⟩ zrj (by decide) X.o (by omega));clear g8 g0 i0;go_upto_region 3 with ((with_reducible refine aV 9 h2.o ?_);rintro l0 w2 ⟨a2,o2,rfl,_,i3,_,_⟩);have h3:=hid (i3.c8 zrk (by decide) X.o (by omega));clear i3 h2;go_upto_region 4 with (first|((with_reducible refine aV 9 h3.o ?_);rintro l1 w3 ⟨O,o3,rfl,i8,i4,_,_⟩)|((with_reducible refine hV 2 ?_);refine nV (zQ O).toArray (Yl O) ?_));obtain ⟨w4,a5⟩:=ex (w3.alloc (.cells (zQ O).toArray 31));rw [<- a5];have g2:zd w3 w4:=by rw [a5];exact B_alloc (zf _ _) _
 have c1:w4.heap[w3.heap.size]?=some (.cells (zQ O).toArray 31 (0,0)):=by rw [a5];exact zo _ _ rfl
 have d4:=i4.below g2;have c7:O.hd=vQ:=i8.hd;have k4:=xV (Value.int .i64 vQ) 1 c1 (by rw [<- c7];rfl);have h5:=hid (d4.c8 zrl (by decide) a8.o (by omega));obtain ⟨a7,e0,e8⟩:=zi3 c7 c1 d4;clear a5 g2 c1 d4 i4 i8 h3 c7;go_upto_region 5 with ((with_reducible refine aV 9 h5.o ?_);rintro l2 w5 ⟨k0,o5,rfl,_,d5,g9,_⟩);have c2:=e8.o.g.hp g9 (by decide) e0.o;have k5:=xV (Value.int .i64 vQ) 1 c2 (by rw [<- a7.o];rfl);have h6:=hid (Sg.c8 (kd:=6) (tn:=2) (hd:=vQ) (rt:=1) (rk:={ data:=#[107] }) (rv:={ data:=#[118] }) (mask:=0) d5 zrm (by decide) a8.o (by omega));obtain ⟨e1,e9⟩:=zi2 c2 d5;clear c2 d5 h5 k4 e0 e8 g9;go_upto_region 6 with ((with_reducible refine aV 9 h6.o ?_);rintro l3 w6 ⟨k1,o6,rfl,_,d6,h1,_⟩);have c3:=e9.o.g.hp h1 (by decide) e1.o;have k6:=xV (Value.int .i64 vQ) 1 c3 (by rw [<- a7.o];rfl);have h7:=hid (Sg.c8 (kd:=11) (tn:=2) (hd:=vQ) (rt:=0) (rk:={ data:=#[] }) (rv:={ data:=#[] }) (mask:=0) d6 zrn (by decide) a8.o (by omega));obtain ⟨e2,f0⟩:=zi2 c3 d6;clear c3 d6 h6 k5 e1 e9 h1;go_upto_region 7 with (first|((with_reducible refine aV 9 h7.o ?_);rintro l4 w7 ⟨R,o7,rfl,i9,i5,h4,_⟩)|((with_reducible refine hV 3 ?_);refine nV (zQ R).toArray (Yl R) ?_));obtain ⟨w8,a6⟩:=ex (w7.alloc (.cells (zQ R).toArray 31));rw [<- a6];have d1:zd w7 w8:=by rw [a6];exact B_alloc (zf _ _) _
 have f5:w8.heap[w7.heap.size]?=some (.cells (zQ R).toArray 31 (0,0)):=by rw [a6];exact zo _ _ rfl
 have c5:=f0.o.g.hp h4 (by decide) e2.o;have f3:=zg c5 d1 (zj c5);have d7:=i5.below d1;have h9:=hid (d7.c8 zro (by decide) X.o (by omega));obtain ⟨a9,e3,e5⟩:=zi3 d7 f3 f5;have j5:=hid (show R.Z=0 from i9.Z);clear a6 d1 f5 c5 f3 i5 d7 h4 i9 h7 k6 e2 f0;go_upto_region 8 with ((with_reducible refine aV 9 h9.o ?_);rintro l5 w9 ⟨k2,o9,rfl,_,d8,d3,_⟩);have f4:=a9.o.g.hp d3 (by decide) e3.o;have f6:=a9.o.g.hp d3 (by decide) e5.o;have f1:=hid (d8.c8 zrp (by decide) X.o (by omega));obtain ⟨e4,e6,b9⟩:=zi3 f4 f6 d8;clear f4 f6 d8 d3 h9 e3 e5 a9;go_upto_region 9 with (first|(go_at_call 9;(first | ((with_reducible refine f2.o.mono ?_);rintro k8 z ⟨L,l7,rfl,i7,i2,a3,_⟩) | ((with_reducible refine f1.o.mono ?_);rintro k7 l8 ⟨u,l6,rfl,i6,Z,d2,g5⟩;have f2:=hid (Z.c8 zrq (by decide) X.o (by omega)))))|((with_reducible refine hV 4 ?_);refine wV 0 (zQ u).toArray (zx (zo _ _ rfl) _) ?_)|(show wpList _ _ _ (⟨none,.store 31 (.tmp 5) _,_,_,_,_⟩::_) _ _;refine yM rfl 31 (.tmp 5) (.tmp 37) rfl (z.heap.size+1) 0 31 _ (zQ L).toArray (by rfl) (by rfl) ((setRow_other _ _ _ _ (by omega)).trans (zo _ _ (by simp))) (by simp [zQ]) (by kernel_rfl) (by simp [zQ,Value.oneCell']) ?_));obtain ⟨D,E⟩:=ex ((((z.alloc (.cells (zQ (qo 0)).toArray 31)).alloc (.cells (zQ (qo 0)).toArray 31)).setRow z.heap.size (zQ u).toArray).setRow (z.heap.size+1) (zQ L).toArray);show Code.wp prog _ _ _ ((((z.alloc (.cells (zQ (qo 0)).toArray 31)).alloc (.cells (zQ (qo 0)).toArray 31)).setRow z.heap.size (zQ u).toArray).setRow (z.heap.size+1) (zQ L).toArray);rw [<- E];have a0:∀ x,x<z.heap.size->D.heap[x]?=z.heap[x]?:=fun x hx=>by rw [E,setRow_other _ _ _ _ (by omega),setRow_other _ _ _ _ (by omega)];exact (B_alloc (B_alloc (zf _ _) _) _).block x hx
 have j6:D.heap.size=z.heap.size+2:=by rw [E];simp
 have c8:zd z D:=⟨by rw [E];rfl,by rw [E];rfl,by rw [E];rfl,by omega,fun x hx=>a0 x hx⟩;have f7:D.heap[z.heap.size]?=some (.cells (zQ u).toArray 31 (0,0)):=by rw [E,setRow_other _ _ _ _ (by omega)];exact setRow_heap _ _ _ _ 31 _ (zx (zo _ _ rfl) _)
 have f8:D.heap[z.heap.size+1]?=some (.cells (zQ L).toArray 31 (0,0)):=by rw [E];exact setRow_heap _ _ _ _ 31 _ ((setRow_other _ _ _ _ (by omega)).trans (zo _ _ (by simp)))
 have c0:=Z.g.hp a3 (by decide) (b9.o.g.hp d2 (by decide) e4.o);have c6:=Z.g.hp a3 (by decide) (b9.o.g.hp d2 (by decide) e6.o);have hv:=((i6.g9 a3 Z.g.ic g5).below c8).r;have g3:=(i2.below c8).b;have g7:L.Z=3:=i7.Z;obtain ⟨B,a1⟩:=ex (jG [JQ]);have g4:B.length=15:=by rw [a1];exact zrc
 have g6:zi D (.slice u.dA u.dn u.dc) B:=by rw [a1];exact hv.data
 have e7:=hid (fun (g:Nat) (W:World) hg=>zji g W hg);rw [<- a1] at e7;have hS:zlq w3.heap.size w7.heap.size z.heap.size O R u L B D.drew:=⟨(a0 _ (zj c0)).trans c0,(a0 _ (zj c6)).trans c6,f7,f8,g6⟩;obtain ⟨j0,j1,j2⟩:=zi3 g3 g4 g7;clear E a0 j6 c8 f7 f8 c0 c6 hv g3 g7 g6 g4 a1 i6 Z d2 g5 i7 i2 a3 f1 f2 e4 e6 b9;refine sV [] 24 (fun w'=>zlq w3.heap.size w7.heap.size z.heap.size O R u L B w') hS fun U=>?_;refine pV 0 ?_;refine cV 1 (fun _ h=>xV (Value.int .i64 vQ) 1 h.ha (by rw [<- a7.o];rfl)) ?_;refine pV 2 ?_;refine pV 3 ?_;refine pV 4 ?_;refine cV 5 (fun _ h=>xV (Value.int .i64 0) 0 h.hb (by rw [<- j5.o];rfl)) ?_;refine pV 6 ?_;refine pV 7 ?_;refine pV 8 ?_;refine pV 9 ?_;refine cV 10 (fun _ h=>xV (Value.slice u.dA u.dn u.dc) 4 h.hc) ?_;refine kV 11 rfl (ul 29 9 (.tmp 48) rfl (by rfl) (.slice u.dA u.dn u.dc) (.string (zb B)) (by rfl) (fun _ h=>ur h.hL)) ?_;refine pV 12 ?_;refine oV 13 fun K Y=>?_;refine yo 22 34 3 _ (.tmp 50) rfl (.agg Ga) (by rfl) underlying22 KM (by rfl) (by omega) (by omega) ?_;obtain ⟨d9,a4⟩:=ex (D.drew.alloc (.cells Ga 34));have c9:Below D.drew.heap.size D.drew d9:=by rw [a4];exact B_alloc (zf _ _) _
 have f9:d9.heap[D.heap.size]?=some (.cells Ga 34 (0,0)):=by rw [a4];exact zo _ _ rfl
 rw [show (Value.agg Ga).cells=Ga from rfl,<- a4];refine Y.out _ _ (U.below c9) (fun U=>?_);clear Y K;try simp only [pS]
 refine oC 14 (e7.o D.heap.size d9 f9) ?_;rintro k9 j8 ⟨j7,rfl,i1,d0⟩;refine eV (U.below d0) fun U=>?_;refine oV 15 fun K Y=>?_;refine ZQ 29 9 (.tmp 52) rfl j7 (.string (zb B)) (by rfl) (ur (zi.aj j1.o.symm i1)) ?_;refine Y.out _ _ U (fun U=>?_);clear Y K;try simp only [pS]
 refine pV 16 ?_;refine pV 17 ?_;refine pV 18 ?_;refine pV 19 ?_;refine cV 20 (fun _ h=>xV (Value.int .i64 3) 0 h.hd (by rw [<- j2.o];rfl)) ?_;refine pV 21 ?_;refine pV 22 ?_;refine pV 23 ?_;refine dV ?_;have h8:zd w j8:=B_call (B_call j0.o.drew c9) d0;have j3:=hid h8;clear h8 a4 c9 f9 i1 d0 U hS;go_wp2_with fail;go_ret;exact ⟨rfl,j3.o⟩
theorem Yi.below {w W:World} {A:Option Addr} {n:Nat} {d:zcx} (h:Yi w A n d) (hb:zd w W):Yi W A n d:=by
 rcases h with h | ⟨g,off,e,u,D⟩
 ·exact .inl h
 ·exact .inr ⟨g,off,e,qg u hb.size,fun i z=>(D i z).below u hb⟩
theorem zkH (u:Nat->List Int) (q:Rq) (h:Int) (z:Bool):(ZX (ZC u q h z)).kd=q.kd/\(ZC u q h z).kd=q.kd/\(ZX (ZC u q h z)).dA=q.dA/\(ZX (ZC u q h z)).dn=q.dn/\(ZX (ZC u q h z)).dc=q.dc/\(q.kd=19->(ZX (ZC u q h z)).n=0)/\(ZX (ZC u q h z)).hd=(ZC u q h z).hd/\((ZX (ZC u q h z)).n=q.n∨(ZX (ZC u q h z)).n=0):=by
 have D:(ZC u q h z).kd=q.kd/\(ZC u q h z).dA=q.dA/\(ZC u q h z).dn=q.dn/\(ZC u q h z).dc=q.dc/\(ZC u q h z).n=q.n:=by unfold ZC;split<;>exact ⟨rfl,rfl,rfl,rfl,rfl⟩
 obtain ⟨a,b,c,d,e⟩:=D;unfold ZX;split
 ·exact ⟨a,a,b,c,d,fun _=>rfl,rfl,.inr rfl⟩
 ·rename_i E;exact ⟨a,a,b,c,d,fun h=>absurd (a.trans h) E,rfl,.inl e⟩
theorem Qz.bu {i:Nat} {z:Nat->List Int} (h:Qz i z):Qz (i+1) z:=fun j u=>⟨Nat.le_succ_of_le (h j u).1,(h j u).2⟩
end Go.Proofs.YtechnoogjhohfaaGreat
