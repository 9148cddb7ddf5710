import Derived.Test.YtechnoogjhohfaaGreatM39
import Derived.Test.YtechnoogjhohfaaGreatM8
set_option maxRecDepth 100000
set_option maxHeartbeats 6400000
set_option linter.unusedVariables false
set_option linter.unusedSimpArgs false
namespace Go.Proofs.YtechnoogjhohfaaGreat
open Go.RowKit Go.Lib
open YtechnoogjhohfaaGreatW Go.Proofs.Tryz Go.Proofs.YtechnoogjhohfaaGreat.Tryz
theorem zhP (k x:Nat) (rest:List UInt8) (h:x<256 ^ k):yu (zP k x++rest,false) k=(x,rest,false):=by unfold yu;rw [if_neg (by simp [zD])];rw [List.take_left' (by rw [zD]),List.drop_left' (by rw [zD]),JB,Nat.mod_eq_of_lt h]
theorem zjX (l rest:List UInt8) (h:l.length<256):Zt (zP 1 l.length++(l++rest),false)=(l,rest,false):=by unfold Zt;rw [zhP 1 _ _ (by omega)];rw [if_neg (by simp)];rw [List.take_left' rfl,List.drop_left' rfl]
theorem zoX {r:Rw} (h:r.ok) (rest:List UInt8):Ka (uL r++rest,false)=(r,rest,false):=by obtain ⟨u,z,D⟩:=h;unfold Ka uL;simp only [jf];rw [zhP 1 _ _ (by omega)];dsimp only;rw [zjX _ _ (by omega)];dsimp only;rw [zjX _ _ (by omega)]
theorem zmJ {r:Rw} (h:r.ok):yZ r.t (zb r.k) (zb r.v)=true:=by obtain ⟨u,z,D⟩:=h;unfold yZ;rw [jm,jm];simp only [Bool.and_eq_true,decide_eq_true_eq];omega
theorem zjy:∀ (l h:List Rw) (rest:List UInt8),(h++l).Pairwise ye->(∀ r,r∈l->r.ok)->ZG l.length (l.flatMap uL++rest,false) h=some (h++l,rest,false)
 | [],h,rest,_,_=>by simp [ZG]
 | r::l,h,rest,hs,ho=>by
  have u:=ho r (by simp);rw [zX,qy,jf];unfold ZG;rw [zoX u];have hb:Qw h (uL r++(l.flatMap uL++rest),false)=false:=by
   unfold Qw;rw [zoX u];dsimp only;rw [zmJ u];cases z:h.getLast? with
   | none=>rfl
   | some y =>have E:ye y r:=(List.pairwise_append.1 hs).2.2 y (List.mem_of_getLast? z) r (by simp);have:=(Qd y r).2 E;unfold Jp at this;simp [this]
  rw [if_neg (by rw [hb];decide)];dsimp only;rw [zjy l (h++[r]) rest (by simpa using hs) (fun x D=>ho x (by simp [D]))];simp
theorem zmC {l:List Rw} (h:Zd l):qY (jG l)=(0,l):=by
 have E:=h.le;have hlen:(jG l).length=(uK l).length+4:=by unfold jG;rw [zl,zD]
 have D:(uK l).length=6+(l.flatMap uL).length:=by unfold uK vW;simp only [zl,zD,zX,jk]
 have u:(jG l).take ((jG l).length-4)=uK l:=by rw [hlen,Nat.add_sub_cancel];exact List.take_left' rfl
 have hd:(jG l).drop ((jG l).length-4)=zP 4 (Zr (uK l)):=by rw [hlen,Nat.add_sub_cancel];exact List.drop_left' rfl
 have hm:(jG l).take 4=YX:=by unfold jG uK vW;rfl
 have z:((jG l).drop 4).take ((jG l).length-4-4)=zP 2 l.length++l.flatMap uL:=by rw [<- List.drop_take,u];unfold uK vW;rw [jf];rfl
 unfold qY;rw [if_neg (by rw [hm];simp;omega)];rw [hd,u,jB (by rw [zD];exact za _),JB,Nat.mod_eq_of_lt (zhk _),if_neg (by simp)];rw [z,zhP 2 _ _ (by omega)];dsimp only;have:=zjy l [] [] (by simpa using h.so) h.ok;rw [List.append_nil] at this;rw [this];dsimp only;rw [if_neg (by simp),if_neg (by simp;omega)];simp
theorem zgw:∀ (l:List Rw),(∀ r,r∈l->r.ok)->(l.flatMap uL).length<=l.length*39
 | [],_=>by simp
 | r::l,h=>by have E:=zgw l fun x u=>h x (by simp [u]);obtain ⟨_,z,D⟩:=h r (by simp);rw [qy,zl,zdI,zX];omega
theorem zon {l:List Rw} (h:Zd l):(jG l).length<=1180:=by have u:=zgw l h.ok;have z:=h.le;unfold jG uK vW;simp only [zl,zD,zX,jk];omega
theorem zpA {ts:qC} (h:∀ k,oT ts k=false):zF ts=[]:=by
 have key:∀ (l:qC) (i:Nat),(∀ k,oT l k=false)->jc l i=[]:=by
  intro l;induction l with
  | nil=>intro i _;rfl
  | cons a l ih =>
   intro i h;cases a with
   | none=>exact ih (i+1) fun k=>h (k+1)
   | some p=>have:=h 0;cases this
 exact key ts 0 h
theorem zku {ts:qC} {i:Nat} (h:∀ k,k≠i->oT ts k=false) (k:Nat):oT (ts.set i none) k=false:=by
 by_cases u:i<ts.length
 ·rw [zbW u];show (if k=i then false else oT ts k)=false;split
  ·rfl
  ·exact h k (by assumption)
 ·rw [List.set_eq_of_length_le (by omega)];by_cases e:k=i
  ·subst e;unfold oT;rw [List.getElem?_eq_none (by omega)]
  ·exact h k e
theorem ziX {ts:qC} {i k:Nat} {o:Option (Nat × Tx)} (h:k≠i):oT (ts.set i o) k=oT ts k:=by unfold oT;rw [qT (fun e=>h e.symm)]
theorem zem (nbs:Nat->Nat):∀ (k:Nat) (s:St),(qb nbs k s).ts=s.ts
 | 0,s=>rfl
 | k+1,s=>zem nbs k s
theorem zpt {r:Nat} {rs:List zS} {n T:Nat} {nbs:Nat->Nat} {s:St} (h:∀ k,oT s.ts k=false) (k:Nat):oT (lose r rs n T nbs s).ts k=false:=by
 unfold lose;split
 ·refine zku (fun j u=>?_) k;rw [zaO];show oT (s.ts.set n _) j=false;rw [ziX u];exact h j
 ·exact h k
theorem zge (r:Nat) (rs:List zS) (Ts:Nat->Nat) (nbs:Nat->Nat->Nat):∀ (m:Nat) (s:St),(∀ k,oT s.ts k=false)->∀ k,oT (jU r rs Ts nbs m s).ts k=false
 | 0,s,h=>h
 | m+1,s,h=>zpt (zge r rs Ts nbs m s h)
theorem ziY (r:Nat) (s:St):zF (openD r s).ts=[]:=by
 refine zpA fun k=>?_;unfold openD;show oT (ym r s.sto.J s.sto.bank (recsOf (s.sto.Q.take s.sto.av)) s.sto.dp z1 z1 z1 fun _=>z1).ts k=false;refine zge _ _ _ _ _ _ (fun j=>?_) k;rw [zem,(Kx _ _ _ _ _).2.1];unfold oT;show (match (uR:qC)[j]? with | some (some _)=>true | _=>false)=false
 match j with
 | 0=>rfl
 | 1=>rfl
 | 2=>rfl
 | 3=>rfl
 | j+4=>rfl
theorem HG.ht {w:World} {H D boots G:Nat} {Y:Nat->Prop} {A:Nat->DT} (h:HG w H D boots G Y A) {r:Nat} (L:r<4) {d:DL} (u:(A r).ac=some d):Zd (d.s.N.map (·.rw)):=by
 obtain ⟨F,cur,ts,_,_,O,R,_⟩:=h;have e:=O r L;cases E:(ts r).ac with
 | none =>rw [<- e] at u;unfold Tn.Z at u;rw [E] at u;cases u
 | some l =>
  rw [<- e,ZL E] at u;injection u with u;subst u;have z:=((R r L).2 l E).br;refine ⟨?_,fun x U=>?_,?_⟩
  ·exact List.pairwise_map.2 z.c.i0.cd.so
  ·obtain ⟨y,X,rfl⟩:=List.mem_map.1 U;exact z.fy y X
  ·rw [List.length_map];exact z.c.i0.cd.f3
def Ge (A:Nat->DT):Prop:=∀ r d,(A r).ac=some d->zF d.s.ts=[]
def zfJ (A:Nat->DT) (f:Nat) (h:List Rw):Prop:=∃ d,(A f).ac=some d/\d.s.N.map (·.rw)=h
theorem zeN {boots:Nat} {A:Nat->DT} {q:Rq} {b:List UInt8} (h:q.kd=19):stepD boots A q b=(jD 0,boots+1,fun r=>crashD (boots+1) r (A r)):=by unfold stepD;rw [if_pos h]
theorem zdV (n:Nat) (A:Nat->DT):Ge fun r=>crashD n r (A r):=fun r d h=>by
 dsimp only at h;unfold crashD at h;split at h
 ·rename_i u;rw [u] at h;cases h
 ·injection h with h;subst h;exact ziY r _
def zaq (kd tn mask:Int):Rq:=Gz kd tn 0 0 { data:=#[] } { data:=#[] } mask
theorem Gc {boots f:Nat} {A:Nat->DT} {q:Rq} {b:List UInt8} {v:um} {t:DT} (z:vw boots f (A f) q b=(v,t)) (h0:0<=q.kd/\q.kd<=17) (u:q.tn=f) (h:f<4):stepD boots A q b=(zdp v,boots,zV A f t):=by rw [zcK h0.1 h0.2 u h,z]
theorem Jo (k t m:Int):(zaq k t m).kd=k:=rfl
theorem GY {boots f:Nat} {A:Nat->DT} {u:List Rw} (D:f<4) (z:Ge A) (h:zfJ A f u):stepD boots A (zaq 13 f 0) []=(⟨0,0,[],[],jG u⟩,boots,A):=by
 obtain ⟨d,hd,E⟩:=h;have L:vw boots f (A f) (zaq 13 f 0) []=(⟨0,0,[],[],jG u⟩,A f):=by unfold vw;rw [hd];dsimp only;rw [if_neg (by rw [Jo];decide),if_neg (by rw [Jo];decide),if_neg (by rw [Jo];decide),if_pos (Jo 13 f 0),if_pos (by rw [z f d hd];rfl),E]
 rw [Gc L (by rw [Jo];decide) rfl D,Zu];rfl
theorem zdN {boots f:Nat} {A:Nat->DT} (u:f<4) (h:(A f).ac=none):stepD boots A (zaq 13 f 0) []=(jD 3,boots,A):=by
 have z:vw boots f (A f) (zaq 13 f 0) []=(jD 3,A f):=by unfold vw;rw [h];rfl
 rw [Gc z (by rw [Jo];decide) rfl u,Zu];rfl
theorem zgz {boots f:Nat} {A:Nat->DT} (D:f<4) (E:Ge A):∃ v t,stepD boots A (zaq 1 f 0) []=(v,boots,zV A f t)/\t.ac=none/\((A f).ac≠none->v.Z=0):=by
 cases u:(A f).ac with
 | none =>
  have z:vw boots f (A f) (zaq 1 f 0) []=(jD 3,A f):=by unfold vw;rw [u];rfl
  exact ⟨_,_,Gc z (by rw [Jo];decide) rfl D,u,fun h=>absurd rfl h⟩
 | some d =>
  have z:vw boots f (A f) (zaq 1 f 0) []=(jD 0,⟨0,(A f).ct,none⟩):=by unfold vw;rw [u];dsimp only;rw [if_neg (by rw [Jo];decide),if_pos (Jo 1 f 0),if_pos (by rw [E f d u];rfl)]
  exact ⟨_,_,Gc z (by rw [Jo];decide) rfl D,rfl,fun _=>rfl⟩
theorem zjq {boots f:Nat} {A:Nat->DT} {q:Rq} {h:List Rw} (D:q.kd=14) (L:q.tn=f) (z:f<4) (E:(A f).ac=none) (u:Zd h):stepD boots A q (jG h)=(jD 0,boots,zV A f (zaN boots f (A f).ct h)):=by
 have O:vw boots f (A f) q (jG h)=(jD 0,zaN boots f (A f).ct h):=by unfold vw;rw [E];dsimp only;rw [if_neg (by omega),if_pos D,zmC u];rfl
 rw [Gc O (by omega) L z];rfl
theorem zfJ.hj {boots n f ct:Nat} {A:Nat->DT} {h:List Rw} (u:A f=zaN boots f ct h) (z:Zd h):zfJ (fun r=>crashD n r (A r)) f h:=by
 have hm:=zeq z f;obtain ⟨rs,C,hb⟩:=hm.base;refine ⟨⟨openD f (Gt f h),((uP (ct+1) n:Nat):Int),0,[]⟩,?_,?_⟩
 ·dsimp only;rw [u];rfl
 ·show (openD f (Gt f h)).N.map (·.rw)=h;rw [(zev hb hm.br f).1,hm.N]
theorem zmo {boots f t:Nat} {A:Nat->DT} {u:List Rw} {mask:Int} (hf:f<4) (ht:t<4) (U:f≠t) (R:Ge A) (h:zfJ A f u) (O:Zd u) :
  ∃ X Y Z D A4 E,stepD boots A (zaq 13 f 0) []=(⟨0,0,[],[],jG u⟩,boots,A)/\stepD boots A (zaq 1 t 0) []=(X,boots,Y) /\
   (∀ q:Rq,q.kd=14->q.tn=t->stepD boots Y q (jG u)=(jD 0,boots,Z))/\stepD boots Z (zaq 1 f 0) []=(D,boots,A4)/\D.Z=0 /\
   stepD boots A4 (zaq 19 0 mask) []=(jD 0,boots+1,E)/\Ge E/\zfJ E t u:=by
 obtain ⟨X,z,e2,L,_⟩:=zgz (boots:=boots) ht R;have a1:(zV A t z t).ac=none:=by rw [zk];exact L
 have a0:Ge (zV (zV A t z) t (zaN boots t (zV A t z t).ct u)):=fun r d hd=>by
  by_cases e:r=t
  ·subst e;rw [zk] at hd;injection hd with hd;subst hd;have:=(zeq O r).ts;show zF (Gt r u).ts=[];rw [this];rfl
  ·rw [zt _ _ e,zt _ _ e] at hd;exact R r d hd
 obtain ⟨D,t4,e4,h4,h5⟩:=zgz (boots:=boots) hf a0;have a3:(zV (zV A t z) t (zaN boots t (zV A t z t).ct u) f).ac≠none:=by rw [zt _ _ U,zt _ _ U];obtain ⟨d,hd,_⟩:=h;rw [hd];exact fun h=>by cases h
 refine ⟨X,_,_,D,_,_,GY hf R h,e2,fun q h1 L=>zjq h1 L ht a1 O,e4,h5 a3,zeN rfl,zdV _ _,?_⟩;refine zfJ.hj (boots:=boots) (ct:=(zV A t z t).ct) ?_ O;rw [zt _ _ (fun e=>U e.symm),zk]
theorem zdJ {w W:World} {H D boots G f boots':Nat} {a6:Nat->Prop} {A O:Nat->DT} {v:um} (h:Sg w H D boots G a6 A W) (e:stepD boots A (zaq 13 f 0) []=(v,boots',O)) (hf:f<4) (hG:G<=100000) :
  zc 13 #[.pointer (some ⟨H,0,none⟩),.int .i64 f] W fun e W'=>e=.returned (.tuple #[.string (zb v.data),.bool (decide (v.Z=0))])/\∃ a7,Sg w H D boots' (G+1) a7 O W':=by
 have R:=hid (h.c8 e (by decide) (iok_of (x:=0) (by omega)) hG);clear h e;go_enter func13,ntmps13;go_upto_region 2 with (first|((with_reducible refine aV 9 R.o ?_);rintro e1 w1 ⟨a,o1,rfl,E,Z,a5,_⟩)|((with_reducible refine hV 6 ?_);refine nV (zQ a).toArray (Yl a) ?_));obtain ⟨L,u⟩:=ex (w1.alloc (.cells (zQ a).toArray 31));rw [<- u];have z:zd w1 L:=by rw [u];exact B_alloc (zf _ _) _
 have U:L.heap[w1.heap.size]?=some (.cells (zQ a).toArray 31 (0,0)):=by rw [u];exact zo _ _ rfl
 have Y:zi L (.slice a.dA a.dn a.dc) v.data:=E.r.data.below z;have a0:=Z.below z;have X:=And.intro U Y.drew;have a3:=hid a0;have a1:=hid E.Z;clear u z U Y a0 Z E a5 R;refine sV [] 8 (fun w'=>w'.heap[w1.heap.size]?=some (.cells (zQ a).toArray 31 (0,0))/\zi w' (.slice a.dA a.dn a.dc) v.data) X fun a4=>?_;refine pV 0 ?_;refine cV 1 (fun _ h=>xV (Value.slice a.dA a.dn a.dc) 4 h.1) ?_;refine kV 2 rfl (ul 29 9 (.tmp 12) rfl (by rfl) (.slice a.dA a.dn a.dc) (.string (zb v.data)) (by rfl) (fun _ h=>ur h.2)) ?_;refine pV 3 ?_;refine cV 4 (fun _ h=>xV (Value.int .i64 a.Z) 0 h.1) ?_;refine pV 5 ?_;refine pV 6 ?_;refine pV 7 ?_;refine dV ?_;clear a4 X;go_wp2_with fail;go_ret2;refine ⟨?_,_,a3.o.below (zf _ _).drew⟩;rw [<- a1.o];rfl
section
theorem zlP:ue prog 31 5 80:=.of (by kernel_rfl)
structure Jh (w:World) (H D b G:Nat) (o:Nat->Prop) (A:Nat->DT) (X:Nat) (ls:Nat->List Int) (O:Nat->Prop) (v:Value) (n:Nat) (xs:List Value) (W:World):Prop where
 s:Sg w H D b G o A W
 x:yE W X ls O
 d:∀ y,O y->¬ o y/\w.heap.size<=y
 r:W.ownsRow w.heap.size 31 5 v n xs
section
variable {w W W':World} {H D b G X n:Nat} {o O:Nat->Prop} {A:Nat->DT} {ls:Nat->List Int} {v:Value} {xs:List Value}
theorem Jh.below (h:Jh w H D b G o A X ls O v n xs W) (hb:zd W W'):Jh w H D b G o A X ls O v n xs W' :=
 ⟨h.s.below hb,h.x.below hb,h.d,own_same h.r fun k u=>hb.block k (h.r.lt k u).2⟩
theorem Jh.step (h:Jh w H D b G o A X ls O v n xs W) {U:Nat} {o':Nat->Prop} {R:Nat->DT} (hg:HG W' H D U (G+1) o' R) (L:zz o W W') (hn:∀ y,o' y->o y∨W.heap.size<=y):Jh w H D U (G+1) o' R X ls O v n xs W':=by
 refine ⟨⟨hg,zz.fc h.s.b L h.s.n,fun y u=>?_⟩,h.x.same fun y u=>L.block y (h.x.lt u) (h.d y u).1,fun y u=>⟨fun E=>?_,(h.d y u).2⟩,own_same h.r fun k Z=>L.block k (h.r.lt k Z).2 fun z=>?_⟩
 ·rcases hn y u with z | z
  ·exact h.s.n y z
  ·exact zA h.s.b.size z
 ·rcases hn y E with Y | Y
  ·exact (h.d y u).1 Y
  ·have:=h.x.lt u;omega
 ·have E:=(h.s.g.a6 z).1;rw [own_tag h.r Z] at E;simp at E
theorem Jh.g2 (h:Jh w H D b G o A X ls O v n xs W) {Y:Nat->List Int} {L:Nat->Prop} (hx:yE W' X Y L) (E:zz O W W') (Z:∀ y,L y->O y∨W.heap.size<=y):Jh w H D b G o A X Y L v n xs W':=by
 refine ⟨⟨h.s.g.same (fun y z=>E.block y (h.s.g.a6 z).2 fun u=>(h.d y u).1 z) E.size,zz.fc h.s.b E fun y z=>(h.d y z).2,h.s.n⟩,hx,fun y z=>?_,own_same h.r fun k U=>E.block k (h.r.lt k U).2 fun u=>?_⟩
 ·rcases Z y z with u | u
  ·exact h.d y u
  ·exact ⟨fun R=>by have:=(h.s.g.a6 R).2;omega,zA h.s.b.size u⟩
 ·have R:=h.x.a6 u;rw [own_tag h.r U] at R;omega
theorem Jh.iu (h:Jh w H D b G o A X ls O v n xs W) {v':Value} {R:Nat} {U:List Value} (Z:W'.ownsRow w.heap.size 31 5 v' R U) (Y:W.grownBy W' v.ownBlock):Jh w H D b G o A X ls O v' R U W':=by
 have E:zz (fun k=>v.ownBlock=some k) W W':=zz.g3 Y fun k e=>.inl e;refine ⟨⟨h.s.g.same (fun y u=>E.block y (h.s.g.a6 u).2 fun L=>?_) E.size,zz.fc h.s.b E fun y u=>(h.r.lt y u).1,h.s.n⟩,h.x.same fun y u=>E.block y (h.x.lt u) fun L=>?_,h.d,Z⟩
 ·have z:=(h.s.g.a6 u).1;rw [own_tag h.r L] at z;simp at z
 ·have z:=h.x.a6 u;rw [own_tag h.r L] at z;omega
theorem Jh.bu (h:Jh w H D b G o A X ls O v n xs W):Jh w H D b (G+1) o A X ls O v n xs W:=⟨⟨h.s.g.bu,h.s.b,h.s.n⟩,h.x,h.d,h.r⟩
end
def zqr (w:World) (H D X i:Nat) (v:Value) (W:World):Prop:=∃ boots o A h O n xs,Jh w H D boots (31+i) o A X h O v n xs W/\Qz i h/\n<=i
theorem zpV (A:Option Addr) (n c:Nat) (d:zcx) (w:World) (h:Yi w A n d) (hn:n<=200) (hlen:∀ i,i<n->(d.b i).length<=2000) :
  zc 12 #[.slice A n c] w fun e W=>∃ H j6 boots o Z v,e=.returned (.tuple #[.pointer (some ⟨H,0,none⟩),v])/\Sg w H j6 boots (31+n) o Z W:=by
 obtain ⟨H0,k3⟩:=zi2 h hlen;have e3:=hid (zjF w);clear h hlen;go_enter func12,ntmps12;go_upto_region 2 with ((with_reducible refine aV 8 e3.o ?_);rintro m1 w4 ⟨H1,D1,o1,rfl,d5,u,j1⟩);obtain ⟨E,b9⟩:=ex (w4.alloc (.cells #[.slice none 0 0,.slice none 0 0,.slice none 0 0,.slice none 0 0] 54));obtain ⟨X,hX⟩:=ex w4.heap.size;have hI:zqr w H1 D1 X 0 (.slice none 0 0) E:=by
  have hx:yE E X (fun _=>[]) (fun x=>x=X):=by rw [b9,hX];exact yE.new w4
  have h9:Below w4.heap.size w4 E:=by rw [b9];exact B_alloc (zf _ _) _
  have m5:=u.size;refine ⟨1,o1,_,_,_,0,[],⟨⟨d5.below h9,B_call u h9,j1⟩,hx,fun y hy=>⟨fun l4=>?_,by omega⟩,qj _ _ _ _⟩,fun j _=>⟨za _,fun m6 hz=>(by cases hz)⟩,za _⟩;have h2:=(d5.a6 l4).2;omega
 have HI:=hid hI;have g2:=hid b9.symm;have HX:=hid hX.symm;clear hI b9 hX d5 u j1 e3;go_upto_region 3 with fail;rw [g2.o,HX.o];clear g2 HX;go_upto_region 4 with fail;go_loopw [6,17] (fun v c2 wr=>∃ i:Nat,i<=n/\c2=.int .i64 i/\zqr w H1 D1 X i v wr) (fun _ c2 _=>((n:Int)-jL c2).toNat)
 case atStart=>exact ⟨0,zU _,rfl,HI.o⟩
 case round =>
  clear HI;obtain ⟨i,hi,rfl,boots,o1,Z,R,a3,nv,xs,L,hO,j0⟩:=hrel;obtain ⟨Av,cv,rfl⟩:=own_slice L.r;by_cases i6:i<n
  ·rcases H0.o with rfl | ⟨g,off,rfl,hg,j4⟩
   ·omega
   have hd:=(j4 i i6).below hg L.s.b;have q1:(i:Int)<(n:Int):=by omega
   have q0:(0:Int)<=(i:Int):=by omega
   obtain ⟨q,hq⟩:=ex (d.q i);obtain ⟨z,i4⟩:=ex (d.h i);obtain ⟨D,j3⟩:=ex (d.ib i);obtain ⟨b,d3⟩:=ex (d.b i);have i1:b.length<=100000:=by have:=k3.o i i6;rw [d3];omega
   rw [<- hq,<- i4,<- j3,<- d3] at hd;clear hq i4 j3 d3 j4;obtain ⟨w1,a9⟩:=ex (wr.alloc (.cells (uU q z D).toArray 56));obtain ⟨l2,hZ⟩:=ex wr.heap.size;have g4:w1.heap[l2]?=some (.cells (uU q z D).toArray 56 (0,0)):=by rw [a9];exact zo _ _ hZ
   have c8:Below wr.heap.size wr w1:=by rw [a9];exact B_alloc (zf _ _) _
   have d0:=L.below c8;have c6:=hid (zpO X R a3 q z D w1 d0.x (fun j hj=>by have:=(hO j hj).1;omega));have e8:=hid hd.row;have e0:=hid (hd.data.below c8);have k2:=hid hd.hd;have k4:=hid hd.n;have j7:=hid i1;have g0:=hid a9.symm;have HZ:=hid hZ.symm;obtain ⟨d9,f0,HO,HT,c5⟩:=zi5 g4 d0 hO L j0;clear hd a9 hZ g4 c8 d0 i1 L hO j0;have x2:IntKind.i64.wrap ((i:Int)+1)=(i:Int)+1:=by rw [zv];omega
   go_upto_region 6 with (first|((with_reducible refine gV 20 ?_);refine mV (uU q z D) e8.o ?_)|((with_reducible refine hV 8 ?_);refine nV (uU q z D).toArray (zfR q z D) ?_));rw [g0.o,HZ.o];obtain ⟨l8,hok⟩:=ex (decide (q.kd≠18));obtain ⟨f1,f2,f3,f4,f5,f6,f7,f8⟩:=zkH R q z D;obtain ⟨p,hp⟩:=ex (ZC R q z D);rw [<- hp] at c6 f1 f2 f3 f4 f5 f6 f7 f8;obtain ⟨Q,hQ⟩:=ex (ZX p);have c3:=hid (fun W=>znu p W);rw [f2,<- hQ,<- hok] at c3;rw [<- hQ] at f1 f3 f4 f5 f6 f7 f8;have g8:iok Q.hd:=by rw [f7,hp];exact HO.o.ix k2.o
   have g9:iok Q.n:=by
    rcases f8 with e | e
    ·rw [e];exact k4.o
    ·rw [e];exact iok_of (by omega)
   obtain ⟨k7,k8,e2,j8,j9,k0,k1,k6⟩:=zi8 g8 g9 f1 f3 f4 f5 f6 hok;clear f1 f2 f3 f4 f5 f6 f7 f8 hp hQ g8 g9 hok;go_upto_region 7 with (first|((with_reducible refine gV 23 ?_);refine rV d9.o ?_)|((with_reducible refine aV 15 c6.o ?_);rintro l9 w2 ⟨rfl,a5⟩)|(go_at_call 14;(with_reducible refine (c3.o _).mono ?_);rintro m0 w3 ⟨rfl,a6⟩)|((with_reducible refine hV 9 ?_);refine nV (zK Q).toArray (zaT Q) ?_));obtain ⟨w4,Y⟩:=ex (w3.alloc (.cells (zK Q).toArray 37));obtain ⟨g3,hY⟩:=ex w3.heap.size;have c9:w4.heap[g3]?=some (.cells (zK Q).toArray 37 (0,0)):=by rw [Y];exact zo _ _ hY
   have u:Below w3.heap.size w3 w4:=by rw [Y];exact B_alloc (zf _ _) _
   have U:=((f0.o.below a5).below a6).below u;have a7:=((e0.o.below a5).below a6).below u;rw [<- Y,<- hY];cases l8 with
   | false =>
    have O:=hid U;clear Y hY c9 a5 a6 u U a7;go_wp2_with fail;go_roundw
    case rel=>exact ⟨i+1,by omega,by simp,boots,o1,Z,R,a3,nv,xs,O.o.bu,HO.o.bu,Nat.le_succ_of_le c5.o⟩
    case measure=>simp [jL];omega
   | true =>
   have i5:Q.kd≠18:=by rw [e2.o];have:=k6.o;simpa using this.symm
   rw [<- j8.o,<- j9.o,<- k0.o] at a7;have d4:=zlO U.s.g i5 (fun h=>by rw [k1.o (by rw [<- e2.o];exact h)];exact Int.le_refl 0) k7.o k8.o a7 j7.o (by omega);obtain ⟨st,d7⟩:=ex (stepD boots Z Q b);rw [<- d7] at d4;obtain ⟨e1,e9,O,e6⟩:=zi4 d4 d7 U c9;clear Y hY c9 a5 a6 u U a7 d4 d7 f0 e0 e8 c6 c3 d9 g0 HZ HT i5;go_upto_region 9 with (first|((with_reducible refine gV 30 ?_);refine rV e6.o ?_)|((with_reducible refine aV 9 e1.o ?_);rintro m2 E ⟨a,l7,rfl,d8,i2,a8,i7,_⟩)|((with_reducible refine hV 11 ?_);refine nV (zQ a).toArray (Yl a) ?_));obtain ⟨w6,c0⟩:=ex (E.alloc (.cells (zQ a).toArray 31));obtain ⟨a4,hU⟩:=ex E.heap.size;have d2:Below E.heap.size E w6:=by rw [c0];exact B_alloc (zf _ _) _
   have h6:w6.heap[a4]?=some (.cells (zQ a).toArray 31 (0,0)):=by rw [c0];exact zo _ _ hU
   have g7:w6.heap[g3]?=some (.cells (zK Q).toArray 37 (0,0)):=by have h5:=O.o.s.g.hp a8 (by decide) e6.o;exact zg h5 d2 (zj h5)
   have d1:=(O.o.step i2 a8 i7).below d2;have i9:=zob X R a3 Q a w6 d1.x (fun j hj=>by have:=(HO.o j hj).1;omega);have j2:Q.kd=2->a.Z=0->iok a.hd:=fun l3 h2=>by rw [d8.ca.hd,e9.o];exact O.o.s.g.hh (by omega) l3 (by rw [<- e9.o,<- d8.ca.Z];exact h2)
   have h8:w4.heap.size<=a4:=by rw [hU];exact a8.size
   rw [<- c0,<- hU];obtain ⟨f9,a0,e7,e4,e5,l1⟩:=zi6 d1 h6 g7 i9 j2 h8;clear d8 i2 a8 i7 c0 hU d2 h6 g7 d1 i9 j2 h8 e1;go_upto_region 10 with (first|((with_reducible refine gV 33 ?_);refine rV e7.o ?_)|((with_reducible refine gV 34 ?_);refine rV a0.o ?_)|((with_reducible refine aV 16 e4.o ?_);rintro m3 w7 ⟨rfl,O',j5,d6,i8⟩));have h3:=f9.o.g2 j5 d6 i8;have g5:Qz (i+1) (ZI R Q.kd Q.tn a.Z a.hd):=HO.o.g2 e5.o;have g6:¬ a3 a4:=fun h=>by have:=O.o.x.lt h;have:=l1.o;omega
   have h7:=(d6.block a4 (zj a0.o) g6).trans a0.o;obtain ⟨w8,c1⟩:=ex (w7.alloc (.cells (zQ a).toArray 31));have i0:zd w7 w8:=by rw [c1];exact B_alloc (zf _ _) _
   have h1:zJ w8 w8.heap.size 5 (some ⟨w7.heap.size,0,none⟩) 1 (zQ a):=zJ.bi (by rw [c1];exact zo _ _ rfl) rfl;have h4:=h3.below i0;obtain ⟨c7,k9,a1,k5,l0⟩:=zi5 h4 h1 c1 g5 h7;clear h3 g5 g6 h7 j5 d6 i8 c1 i0 h1 h4 a0 e7 e4 f9 e5;go_wp2_with (first|((with_reducible refine gV 37 ?_);refine rV l0.o ?_)|(show wpList _ _ _ (⟨some 38,_,_,_,_,_⟩::_) _ _;refine wpList_plain rfl fun _ hK=>yo 44 31 5 80 (.tmp 37) rfl (.agg (zQ a).toArray) (by rfl) underlying44 zlP (by rfl) (by omega) (by omega) (hK _ _ ?_))|(show wpList _ _ _ (⟨some 39,_,_,_,_,_⟩::_) _ _;refine jO rfl (.tmp 36) (.tmp 38) 44 31 5 80 rfl underlying44 zlP (by omega) _ _ _ w.heap.size (by rfl) (by rw [show (Value.agg (zQ a).toArray).cells=(zQ a).toArray from rfl,<- a1.o];exact c7.o.r) _ 1 _ _ _ (by rfl) (by rw [show (Value.agg (zQ a).toArray).cells=(zQ a).toArray from rfl,<- a1.o];exact k9.o) (fun c2 hu=>by simp only [zQ,zO,qU,or_false] at hu;rcases hu with rfl | rfl | rfl | rfl | rfl<;>rfl) (by have:=c5.o;omega) (by omega) (by rw [show (Value.agg (zQ a).toArray).cells=(zQ a).toArray from rfl,<- a1.o];exact c7.o.s.b.size) ?_;intro v9 w9 l6 i3 m4));rw [show (Value.agg (zQ a).toArray).cells=(zQ a).toArray from rfl,<- a1.o] at i3;have l5:=c7.o.iu l6 i3;go_roundw
   case rel=>exact ⟨i+1,by omega,by simp,st.2.1,l7,st.2.2,_,O',_,_,l5,k5.o,by have:=c5.o;omega⟩
   case measure=>simp [jL];omega
  ·have q1:decide ((i:Int)<(n:Int))=false:=by simp;omega
   obtain rfl:i=n:=by omega
   have HB:=hid L.s;clear L hO;go_wp2_with fail;go_ret2;exact ⟨_,_,_,_,_,_,rfl,HB.o⟩
end
end Go.Proofs.YtechnoogjhohfaaGreat
