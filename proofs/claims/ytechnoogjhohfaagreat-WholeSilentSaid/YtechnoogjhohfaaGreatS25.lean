import Derived.Test.YtechnoogjhohfaaGreatS24
import Derived.Test.YtechnoogjhohfaaGreatS8
import Derived.Test.YtechnoogjhohfaaGreatS9
import Derived.Lib.SlBytesConst
set_option maxRecDepth 100000
set_option maxHeartbeats 6400000
set_option linter.unusedVariables false
set_option linter.unusedSimpArgs false
namespace Go.Proofs.YtechnoogjhohfaaGreat
open Go.RowKit Go.Lib
open YtechnoogjhohfaaGreatW Go.Proofs.Tryz Go.Proofs.YtechnoogjhohfaaGreat.Tryz
def QJ (r:Rw):List UInt8:=zR 1 r.t++zR 1 r.k.length++r.k++zR 1 r.v.length++r.v
def Zu (n:Nat):List UInt8:=[84,78,77,49]++zR 2 n
def zaJ (l:List Rw):List UInt8:=Zu l.length++l.flatMap QJ
def Zg (l:List Rw):List UInt8:=zaJ l++zR 4 (ZB (zaJ l))
theorem zpz (l:List Rw):(jn l).length=l.length*3:=by
 induction l with
 | nil=>rfl
 | cons e l h=>show (qB e++jn l).length=_;rw [zl,h];simp [qB];omega
theorem zms:∀ (l:List Rw) (k:Nat) (x:Rw) (j:Nat),l[k]?=some x->j<3->(jn l)[k*3+j]?=(qB x)[j]?
 | [],k,x,j,h,_=>by simp at h
 | e::l,0,x,j,h,hj=>by simp at h;subst h;show (qB e++jn l)[_]?=_;rw [vZ (by simp [qB];omega)];simp
 | e::l,k+1,x,j,h,hj=>by have u:=zms l k x j (by simpa using h) hj;show (qB e++jn l)[_]?=_;rw [vg (by simp [qB];omega),<- u];congr 1;simp [qB];omega
theorem YW {w:World} {B:Nat} {A:Option Addr} {n c:Nat} {l:List Rw} (h:w.ownsRow B 34 3 (.slice A n c) n (jn l)) {k:Nat} {x:Rw} (E:l[k]?=some x):∃ g,A=some ⟨g,0,none⟩/\g<w.heap.size/\n<=c/\w.rangeAt g (k*3) (qB x):=by
 have hl:=(zr.1 E).1;obtain ⟨h0,h⟩:=h;rw [zpz] at h0;rcases h with ⟨_,hn⟩ | ⟨g,cap,cur,Y,_,z,R,_,h3,U⟩
 ·omega
 ·injection Y with L Z O;subst L O;refine ⟨g,rfl,zi z,R,fun j v D=>?_⟩;have X:j<3:=by have:=(zr.1 D).1;simpa [qB] using this
  rw [ze w g _ cur 34 (0,0) z];have u:=(zms l k x j E X).trans D;rw [<- U,List.getElem?_take_of_lt (by omega)] at u;rw [<- Array.getElem?_toList];exact u
theorem zhQ (r:Rw):(QJ r).length=3+r.k.length+r.v.length:=by simp [QJ,zG];omega
theorem zfi:∀ (l:List Rw),(∀ r,r∈l->r.k.length<=15/\r.v.length<=21)->(l.flatMap QJ).length<=l.length*39
 | [],_=>by simp
 | r::l,h=>by have z:=zfi l (fun x u=>h x (by simp [u]));have D:=h r (by simp);have E:=zhQ r;rw [qC,zl,qc];omega
theorem zmo {l:List Rw} {k:Nat} {x:Rw} (h:l[k]?=some x):(l.take (k+1)).flatMap QJ=(l.take k).flatMap QJ++QJ x:=by obtain ⟨u,z⟩:=zr.1 h;rw [yH u,z];simp
theorem zim (l:List Rw) (A:Option Addr) (c B:Nat) (w:World) (h:w.ownsRow B 34 3 (.slice A l.length c) l.length (jn l)) (hl:l.length<=1000) (U:∀ r,r∈l->r.t<=255/\r.k.length<=15/\r.v.length<=21) :
  zc 32 #[.slice A l.length c] w fun e w'=>∃ v',e=.returned v'/\w'.ownsRow w.heap.size 5 1 v' (Zg l).length (zD (Zg l))/\zd w w':=by
 obtain ⟨H,HR⟩:=zi2 h U;clear h U;have m1:IntKind.u64.wrap (l.length:Int)=l.length:=vG _ (by omega);have kc:=fun (w:World) (C:Array Value) (n c:Nat)=>Lib.run_convert_bytes_const (P:=prog) w 29 5 C n c underlying29 underlying5;obtain ⟨w1,a3⟩:=ex (w.alloc (.cells #[.int .u8 84,.int .u8 78,.int .u8 77,.int .u8 49] 5 (4,5)));have c8:zd w w1:=by rw [a3];exact B_alloc (zf _ _) _
 have hY:zj w1 (.slice (some ⟨w.heap.size,0,none⟩) 4 4) [84,78,77,49]:=by
  have X:w1.heap[w.heap.size]?=some (.cells (zD [84,78,77,49]).toArray 5 (4,5)):=by rw [a3];exact zo _ _ rfl
  exact ⟨_,4,rfl,zL.bk X rfl,za _,by unfold maxLen;simp⟩
 obtain ⟨f7,e6,HY⟩:=zi3 a3 c8 hY;clear a3 c8 hY;go_enter func32,ntmps32;go_upto_region 2 with (go_at_call 59;rw [<- f7.o];(with_reducible refine (ur _ [84,78,77,49] 2 l.length w1 HY.o (by omega) (by omega) (by simp)).mono ?_);rintro e2 w2 ⟨v2,rfl,d8,d0⟩);have d4:zj w2 v2 (Zu l.length):=zj.aj (by simp [Zu,zG]) d8;obtain ⟨R,hR⟩:∃ R:Nat->Value->World->Prop,R=fun k v wr=>zj wr v (Zu l.length++(l.take k).flatMap QJ)/\zd w wr:=⟨_,rfl⟩;have c6:R 0 v2 w2:=by rw [hR];exact ⟨by simpa using d4,B_call e6.o d0⟩
 obtain ⟨c4,f3⟩:=zi2 hR c6;have e1:(Zu l.length).length=6:=by simp [Zu,zG]
 have c2:=hid e1;clear hR c6 d4 d8 d0 e1 kc;go_upto_region 3 with fail;go_loopw [3,14] (fun v c0 wr=>∃ k:Nat,k<=l.length/\c0=.int .i64 k/\R k v wr) (fun _ c0 _=>(l.length-jF c0).toNat)
 case atStart=>exact ⟨0,zT _,rfl,f3.o⟩
 case round =>
  obtain ⟨k,hk,rfl,e3⟩:=hrel;rw [c4.o] at e3;obtain ⟨z,Y⟩:=e3;by_cases g2:k<l.length
  ·obtain ⟨x,X⟩:∃ x,l[k]?=some x:=⟨_,zX g2⟩;obtain ⟨xt,xk,xv⟩:=HR.o x (zC X);have c5:wr.ownsRow B 34 3 (.slice A l.length c) l.length (jn l):=own_same H.o fun q hq=>Y.block q (H.o.lt q hq).2;obtain ⟨g,rfl,h3,g9,e4⟩:=YW c5 X;have d7:(Zu l.length++(l.take k).flatMap QJ).length<=50000:=by
    have h1:=zfi (l.take k) (fun r U=>(HR.o r (List.mem_of_mem_take U)).2);have h2:(l.take k).length<=k:=by rw [qf];omega
    rw [zl,c2.o];omega
   obtain ⟨bs,a7⟩:=ex (Zu l.length++(l.take k).flatMap QJ);rw [<- a7] at z d7;have q0:(0:Int)<=(k:Int):=by omega
   have q1:(k:Int)<(l.length:Int):=by omega
   have x2:IntKind.i64.wrap ((k:Int)+1)=(k:Int)+1:=by rw [zu];omega
   have m2:IntKind.u64.wrap (x.t:Int)=x.t:=vG _ (by omega);obtain ⟨L,D⟩:=ex (wr.alloc (.cells #[.int .i64 x.t,.string (zb x.k),.string (zb x.v)] 34));have E:zd wr L:=by rw [D];exact B_alloc (zf _ _) _
   have e5:L.heap[wr.heap.size]?=some (.cells #[.int .i64 x.t,.string (zb x.k),.string (zb x.v)] 34 (0,0)):=by rw [D];exact zo _ _ rfl
   have d5:=(z.below E).drew;obtain ⟨f5,HX,e8,a4⟩:=zi4 e4 X a7 D;have e7:=hid (B_call Y E);have f1:=hid d5;have hS:=e5;clear X c5 e4 a7 D E e5 d5 z Y;go_upto_region 5 with (first|((with_reducible refine gV 17 ?_);refine mV (qB x) f5.o ?_)|((with_reducible refine hV 5 ?_);refine nV (qB x).toArray (by simp [qB,Value.oneCell']) ?_));rw [show wr.alloc (.cells (qB x).toArray 34)=L from a4.o.symm];refine sV [10] 12 (fun w'=>jJ w' wr.heap.size #[.int .i64 x.t,.string (zb x.k),.string (zb x.v)] 34) hS fun O=>?_;refine pV 0 ?_;refine pV 1 ?_;refine cV 2 (fun _ h=>xV (Value.int .i64 x.t) 0 h) ?_;refine kV 3 rfl (Or.inl ⟨by rfl,fun _ h=>(by go_simp;with_reducible rfl)⟩) ?_;refine pV 5 ?_;refine cV 6 (fun _ h=>xV (Value.string (zb x.k)) 1 h) ?_;refine pV 8 ?_;refine cV 9 (fun _ h=>xV (Value.string (zb x.v)) 2 h) ?_;refine oC 4 (ur _ bs 1 x.t _ f1.o (by omega) (by omega) (by omega)) ?_;rintro g4 w4 ⟨v4,rfl,d9,a5⟩;refine eV (zg O a5 (zi O)) fun O=>?_;refine oC 7 (KD _ _ (zb x.k) _ (zj.aj ?len d9) ?le (by rw [jt];omega)) ?_
   case len=>simp [zG]
   case le=>simp [zG];omega
   rintro g5 w5 ⟨v5,rfl,e0,a6⟩;refine eV (zg O a6 (zi O)) fun O=>?_;refine lC 10 (KD _ _ (zb x.v) _ (zj.aj ?len2 e0) ?le2 (by rw [jt];omega)) ?_
   case len2=>simp [zG,jt];omega
   case le2=>simp [zG,jt];omega
   rintro g6 w6 ⟨v6,rfl,a8,d2⟩;refine eL ?_;refine pV 11 ?_;refine dV ?_;have d6:zj w6 v6 (bs++QJ x):=by
    have e:bs++zR (1:Int).toNat x.t++zR 1 (zb x.k).size++(zb x.k).data.toList++zR 1 (zb x.v).size++(zb x.v).data.toList=bs++QJ x:=by rw [jt,jt];simp only [QJ,jq];rfl
    rw [e] at a8;refine zj.aj ?_ a8;rw [show (bs++QJ x).length=bs.length+(QJ x).length from zl,zhQ];simp [zG,jt];omega
   have d1:zd w w6:=B_call (B_call (B_call e7.o.drew a5) a6) d2;have c7:R (k+1) v6 w6:=by rw [c4.o];show zj w6 v6 (Zu l.length++(l.take (k+1)).flatMap QJ)/\_;rw [zmo HX.o,<- jq,<- e8.o];exact ⟨d6,d1⟩
   have f4:=hid c7;clear d6 d1 c7 d9 e0 a8 a5 a6 d2 O hS;go_wp2_with fail;go_roundw
   case rel=>exact ⟨k+1,by omega,by simp,f4.o⟩
   case measure=>simp [jF];omega
  ·have g0:k=l.length:=by omega
   subst g0;rw [qi] at z;obtain ⟨u,a1⟩:=ex (zaJ l);rw [show Zu l.length++l.flatMap QJ=u from a1.symm] at z;have d7:u.length<=50000:=by have h1:=zfi l (fun r U=>(HR.o r U).2);rw [a1];unfold zaJ;rw [zl,c2.o];omega
   have f9:ZB u<4294967296:=by unfold ZB;have:=Ky u 4294967295 (by omega);exact Nat.xor_lt_two_pow (n:=32) (by omega) (by omega)
   obtain ⟨Z,a0⟩:=ex (ZB u);rw [<- a0] at f9;have m3:IntKind.u64.wrap (Z:Int)=Z:=vG _ (by omega);obtain ⟨A3,c3,g3,_⟩:=id z;subst g3;obtain ⟨L,D⟩:=ex (wr.alloc (.cells #[.slice A3 u.length c3] 29));have E:zd wr L:=by rw [D];exact B_alloc (zf _ _) _
   have d3:L.cell? ⟨wr.heap.size,0,none⟩=some (.slice A3 u.length c3):=(ze L wr.heap.size 0 _ _ _ (by rw [D];exact zo _ _ rfl)).trans rfl;have b9:=zcD wr.heap.size 0 1 (.slice A3 u.length c3) u L d3 (z.below E) (by omega);rw [<- a0] at b9;have f6:=hid b9;have f0:=hid (z.below E);have c1:=hid (B_call Y E);obtain ⟨f2,e9,a4⟩:=zi3 a1 a0 D;clear b9 z Y a1 a0 D E d3;go_wp2_with (first|(go_at_call 53;rw [<- a4.o];(with_reducible refine f6.o.mono ?_);rintro g7 w7 ⟨rfl,h4⟩;subst w7)|(go_at_call 59;(with_reducible refine (ur _ u 4 Z _ f0.o (by omega) (by omega) (by omega)).mono ?_);rintro g8 w8 ⟨v8,rfl,a9,f8⟩));go_ret;have e:u++zR (4:Int).toNat Z=Zg l:=by rw [e9.o,f2.o];rfl
   rw [e] at a9;have e2:u.length+(4:Int).toNat=(Zg l).length:=by rw [<- e,zl,zG]
   rw [e2] at a9;exact ⟨_,rfl,jK a9 c1.o.size,B_call c1.o f8⟩
section
variable {bz:Nat->Prop}
structure T5 where
 p:Value
 k:Value
 s:Value
 c:Value
 d:Value
def hC (D:Nat) (c:Nat->T5) (b:Nat):Array Value:=#[.pointer (some ⟨D,0,none⟩),(c 0).p,(c 0).k,(c 0).s,(c 0).c,(c 0).d,(c 1).p,(c 1).k,(c 1).s,(c 1).c,(c 1).d,(c 2).p,(c 2).k,(c 2).s,(c 2).c,(c 2).d,(c 3).p,(c 3).k,(c 3).s,(c 3).c,(c 3).d,.int .i64 b]
structure Tl where
 a:Va
 b:Vb
 s:St
 kb:Nat
 km:Nat
 ep:Int
 nx:Int
 hs:List (Int × Int)
structure Tn where
 st:Nat
 ct:Nat
 ad:Option Tl
def Tn.t5 (t:Tn):T5:=match t.ad with
 | some l=>⟨.pointer (some ⟨l.a.S,0,none⟩),.pointer (some ⟨l.kb,0,none⟩),.int .i64 t.st,.int .u64 t.ct,.bool false⟩
 | none=>⟨.pointer none,.pointer none,.int .i64 t.st,.int .u64 t.ct,.bool false⟩
structure Yi (w:World) (D:Nat) (F:Nat->Prop) (cur:Nat->Nat->List UInt8) (r:Nat) (l:Tl):Prop where
 sto:zm w l.a l.b cur l.s
 hD:l.a.D=D
 hr:l.a.r=r
 hF:l.b.F=F
 dk:Dk.DeskAt w l.kb l.km l.ep l.nx l.hs
 km:¬ qd l.a l.b l.s l.km
def YY (l:Tl) (x:Nat):Prop:=zbV l.a l.b l.s x∨x=l.kb∨x=l.km
structure qs (bz:Nat->Prop) (w:World) (H D:Nat) (F:Nat->Prop) (cur:Nat->Nat->List UInt8) (c:Nat->T5) (ts:Nat->Tn) (boots k:Nat):Prop where
 U:w.heap[H]?=some (.cells (hC D c boots) 73 (0,0))
 ar:jk w D F cur
 c4:∀ r,r<4->cur r 0=jN (yT (ts r).st (ts r).ct)
 ee:∀ r,r<4->(ts r).st<=1/\(ts r).ct<1000000
 cells:∀ r,r<k->c r=(ts r).t5
 ad:∀ r l,r<k->(ts r).ad=some l->Yi w D F cur r l/\(ts r).st=1
 cg:∀ r,r<k->(ts r).ad=none->(ts r).st=0/\∀ q,1<=q->q<538->cur r q=zs 64
 apart:∀ r r' l l',r<k->r'<k->r≠r'->(ts r).ad=some l->(ts r').ad=some l'->∀ x,YY l x->¬ YY l' x
 base:¬ bz H/\(∀ x,F x->¬ bz x)/\(∀ r l,r<k->(ts r).ad=some l->∀ x,YY l x->¬ bz x)/\∀ x,bz x->x<w.heap.size
def zN (bz:Nat->Prop) (w:World) (H D:Nat) (F:Nat->Prop) (cur:Nat->Nat->List UInt8) (ts:Nat->Tn) (boots:Nat):Prop:=qs bz w H D F cur (fun r=>(ts r).t5) ts boots 4
theorem zdk (D:Nat) (c:Nat->T5) (b:Nat):(hC D c b)[0]?=some (.pointer (some ⟨D,0,none⟩)):=rfl
theorem zqe (D:Nat) (c:Nat->T5) (b:Nat):(hC D c b)[21]?=some (.int .i64 b):=rfl
theorem Gl (D:Nat) (c:Nat->T5) (b r:Nat) (h:r<4):(hC D c b)[1+r*5]?=some (c r).p/\(hC D c b)[1+r*5+1]?=some (c r).k/\(hC D c b)[1+r*5+2]?=some (c r).s/\(hC D c b)[1+r*5+3]?=some (c r).c/\(hC D c b)[1+r*5+4]?=some (c r).d:=by
 obtain rfl | rfl | rfl | rfl:r=0∨r=1∨r=2∨r=3:=by omega
 all_goals exact ⟨rfl,rfl,rfl,rfl,rfl⟩
theorem Kz (D:Nat) (c:Nat->T5) (b:Nat):(hC D c b).size=22:=rfl
theorem zhk (D:Nat) (c:Nat->T5) (b r:Nat) (h:r<4) (t:T5):((hC D c b).toList.take (1+r*5)++[t.p,t.k,t.s,t.c,t.d]++(hC D c b).toList.drop (1+r*5+5)).toArray=hC D (zZ c r t) b:=by
 obtain rfl | rfl | rfl | rfl:r=0∨r=1∨r=2∨r=3:=by omega
 all_goals rfl
theorem zro (D:Nat) (c:Nat->T5) (b r:Nat) (h:r<4) (v:Value):(hC D c b).setIfInBounds (1+r*5) v=hC D (zZ c r { c r with p:=v }) b:=by
 obtain rfl | rfl | rfl | rfl:r=0∨r=1∨r=2∨r=3:=by omega
 all_goals rfl
theorem zrn (D:Nat) (c:Nat->T5) (b r:Nat) (h:r<4) (v:Value):(hC D c b).setIfInBounds (1+r*5+1) v=hC D (zZ c r { c r with k:=v }) b:=by
 obtain rfl | rfl | rfl | rfl:r=0∨r=1∨r=2∨r=3:=by omega
 all_goals rfl
theorem zoP (D:Nat) (c:Nat->T5) (b r:Nat) (h:r<4) (u v:Value):((hC D c b).toList.take (1+r*5+2)++[u,v]++(hC D c b).toList.drop (1+r*5+2+2)).toArray=hC D (zZ c r { c r with s:=u,c:=v }) b:=by
 obtain rfl | rfl | rfl | rfl:r=0∨r=1∨r=2∨r=3:=by omega
 all_goals rfl
theorem znn (D:Nat) (c:Nat->T5) (b h:Nat):(hC D c b).setIfInBounds 21 (.int .i64 h)=hC D c h:=rfl
theorem DeskAt.ah {w:World} {u z:Nat} {D nx:Int} {hs:List (Int × Int)} (h:Dk.DeskAt w u z D nx hs):qP w u=139/\qP w z=100001/\u<w.heap.size/\z<w.heap.size:=by refine ⟨zh h.U,?_,zi h.U,h.map.lt⟩;obtain ⟨es,L,E,_⟩:=h.map;simp [qP,E]
section
variable {w w':World} {H D:Nat} {F F':Nat->Prop} {cur cur':Nat->Nat->List UInt8} {c:Nat->T5} {ts:Nat->Tn} {boots k r:Nat} {l:Tl}
theorem zm.da {a:Va} {b:Vb} {s:St} (h:zm w a b cur s) {x:Nat} (u:zbV a b s x):¬ b.F x:=fun E=>by
 have D:=h.sto.ar.ah E;obtain ⟨R,U,L,O,z,X⟩:=h.ah;simp only [zO,qZ,or_false] at D z;rcases u with rfl | rfl | u | u | ⟨i,u⟩ | u | u
 ·omega
 ·omega
 ·have:=L x u;omega
 ·have:=O x u;omega
 ·have:=z i x u;omega
 ·have:=h.sto.bg.a3 x u;simp at this;omega
 ·have:=h.sto.ab.a3 u;simp at this;omega
theorem zm.b9 {a:Va} {b:Vb} {s:St} (h:zm w a b cur s) (hs:∀ x,zbV a b s x->w'.heap[x]?=w.heap[x]?) (z:w.heap.size<=w'.heap.size) (E:jk w' a.D F' cur') (O:∀ q,cur' a.r q=cur a.r q):zm w' a { b with F:=F' } cur' s:=by
 refine ⟨(hs _ (.inl rfl)).trans h.row,?_,own_same h.N fun x u=>hs x (.inr (.inr (.inr (.inl u)))),h.aq.same (hs _ (.inl rfl)) (fun i x u=>hs x (.inr (.inr (.inr (.inr (.inl ⟨i,u⟩)))))) z,h.lk.same (hs _ (.inr (.inl rfl))) (fun x u=>hs x (.inr (.inr (.inl u)))) z,h.c8⟩;have D:cur' a.r=cur a.r:=funext O;refine ⟨h.sto.ab.same fun x u=>hs x (.inr (.inr (.inr (.inr (.inr (.inr u)))))),h.sto.bg.same (fun x u=>hs x (.inr (.inr (.inr (.inr (.inr (.inl u))))))) z,E,?_,?_,h.sto.r4,h.sto.cm,h.sto.c3,h.sto.len,h.sto.dm,h.sto.cx,h.sto.co⟩
 ·rw [D];exact h.sto.on
 ·intro n L;rw [D];exact h.sto.fa n L
theorem Yi.ah (h:Yi w D F cur r l):∀ x,YY l x->qP w x∈[103,222,100001,136,208,150,3,200,204,194,5,139]/\x<w.heap.size:=by
 obtain ⟨z,E,L,O⟩:=DeskAt.ah h.dk;obtain ⟨R,U,X,Y,Z,t6⟩:=h.sto.ah;intro x u;rcases u with u | rfl | rfl
 ·refine ⟨?_,h.sto.lt (.inl u)⟩;rcases u with rfl | rfl | u | u | ⟨i,u⟩ | u | u
  ·rw [R];decide
  ·rw [U];decide
  ·rw [X x u];decide
  ·rw [Y x u];decide
  ·have:=Z i x u;simp only [zO,qZ,or_false] at this ⊢;omega
  ·have:=h.sto.sto.bg.a3 x u;simp only [zO,qZ,or_false] at this ⊢;omega
  ·have:=h.sto.sto.ab.a3 u;simp only [zO,qZ,or_false] at this ⊢;omega
 ·rw [z];exact ⟨by decide,L⟩
 ·rw [E];exact ⟨by decide,O⟩
theorem qs.d4 (h:qs bz w H D F cur c ts boots k) (E:r<k) (z:(ts r).ad=some l) {x:Nat} (u:YY l x∨F x):x≠H:=fun e=>by
 subst e;have L:=zh h.U;rcases u with u | u
 ·have:=((h.ad r l E z).1.ah x u).1;simp only [zO,qZ,or_false] at this;omega
 ·have:=h.ar.ah u;simp only [zO,qZ,or_false] at this;omega
theorem Yi.da (h:Yi w D F cur r l) {x:Nat} (O:YY l x):¬ F x:=fun L=>by have z:=(h.ah x O).1;have u:jk w l.a.D l.b.F cur:=h.sto.sto.ar;rw [h.hF] at u;have E:=u.ah L;simp only [zO,qZ,or_false] at z E;omega
theorem zap (h:Yi w D F cur r l) {x:Nat} (u:qd l.a l.b l.s x):YY l x∨F x:=by
 rcases u with u | u
 ·exact .inl (.inl u)
 ·rw [h.hF] at u;exact .inr u
theorem Yi.b9 (h:Yi w D F cur r l) (hs:∀ x,YY l x->w'.heap[x]?=w.heap[x]?) (U:w.heap.size<=w'.heap.size) (E:jk w' D F' cur') (R:∀ q,cur' r q=cur r q):Yi w' D F' cur' r { l with b:={ l.b with F:=F' } }:=by
 obtain ⟨X,L,Y,Z⟩:=DeskAt.ah h.dk;refine ⟨h.sto.b9 (fun x u=>hs x (.inl u)) U (by rw [h.hD];exact E) (fun q=>by rw [h.hr];exact R q),h.hD,h.hr,rfl,⟨(hs _ (.inr (.inl rfl))).trans h.dk.U,h.dk.map.a9 (hs _ (.inr (.inr rfl)))⟩,?_⟩;rintro (u | u)
 ·exact h.km (.inl u)
 ·have O:qP w' l.km=100001:=by rw [jW (hs _ (.inr (.inr rfl)))];exact L
  have z:=E.ah u;rw [O] at z;simp at z
end
end
section
variable {bz:Nat->Prop}
def Tl.cf (l:Tl) (F:Nat->Prop):Tl:={ l with b:={ l.b with F:=F } }
def Tn.cf (t:Tn) (F:Nat->Prop):Tn:={ t with ad:=t.ad.map fun l=>l.cf F }
theorem Tn.en (t:Tn) (F:Nat->Prop):(t.cf F).t5=t.t5:=by
 unfold Tn.t5 Tn.cf;cases t.ad with
 | none=>rfl
 | some l=>rfl
def vt (ts:Nat->Tn) (F:Nat->Prop) (r:Nat) (t:Tn):Nat->Tn:=zZ (fun i=>(ts i).cf F) r t
theorem jH (ts:Nat->Tn) (F:Nat->Prop) (r:Nat) (t:Tn):vt ts F r t r=t:=zk _ _ _
theorem vL (ts:Nat->Tn) (F:Nat->Prop) {r i:Nat} (t:Tn) (h:i≠r):vt ts F r t i=(ts i).cf F:=zy _ _ h
section
variable {w w':World} {H D:Nat} {F F':Nat->Prop} {cur cur':Nat->Nat->List UInt8} {c:Nat->T5} {ts:Nat->Tn} {boots boots' k k' r:Nat} {l:Tl}
theorem qs.step (h:qs bz w H D F cur c ts boots k) (t:Tn) (c1:r<4) (R:∀ i,i<k'->i≠r->i<k)
  (a6:w'.heap[H]?=some (.cells (hC D (zZ c r t.t5) boots') 73 (0,0))) (hD:jk w' D F' cur') (a9:cur' r 0=jN (yT t.st t.ct)) (a7:t.st<=1/\t.ct<1000000)
  (b9:∀ l',t.ad=some l'->Yi w' D F' cur' r l'/\t.st=1) (a8:t.ad=none->t.st=0/\∀ q,1<=q->q<538->cur' r q=zs 64)
  (c0:∀ i l' x,i<k->i≠r->(ts i).ad=some l'->YY l' x->w'.heap[x]?=w.heap[x]?) (a1:∀ i q,i≠r->cur' i q=cur i q) (hz:w.heap.size<=w'.heap.size)
  (a3:∀ l' x,t.ad=some l'->YY l' x->(∀ i z,i<k->i≠r->(ts i).ad=some z->¬ YY z x))
  (a4:∀ x,F' x->¬ bz x) (a5:∀ l' x,t.ad=some l'->YY l' x->¬ bz x) :
  qs bz w' H D F' cur' (zZ c r t.t5) (vt ts F' r t) boots' k':=by
 have Z:∀ i l',i≠r->(vt ts F' r t i).ad=some l'->∃ z,(ts i).ad=some z/\l'=z.cf F':=fun i l' E u=>by
  rw [vL _ _ _ E] at u;unfold Tn.cf at u;simp only at u;cases hq:(ts i).ad with
  | none=>rw [hq] at u;cases u
  | some z=>rw [hq] at u;injection u with u;exact ⟨z,rfl,u.symm⟩
 refine ⟨a6,hD,?_,?_,?_,?_,?_,?_,h.base.1,a4,?_,fun x O=>qg (h.base.2.2.2 x O) hz⟩
 ·intro i E;by_cases e:i=r
  ·subst e;rw [jH];exact a9
  ·rw [vL _ _ _ e,a1 i 0 e];exact h.c4 i E
 ·intro i E;by_cases e:i=r
  ·subst e;rw [jH];exact a7
  ·rw [vL _ _ _ e];exact h.ee i E
 ·intro i E;by_cases e:i=r
  ·subst e;rw [jH,zk]
  ·rw [vL _ _ _ e,zy _ _ e,Tn.en];exact h.cells i (R i E e)
 ·intro i l' E u;by_cases e:i=r
  ·subst e;rw [jH] at u ⊢;exact b9 l' u
  ·obtain ⟨z,X,rfl⟩:=Z i l' e u;have L:=h.ad i z (R i E e) X;refine ⟨L.1.b9 (fun x O=>c0 i z x (R i E e) e X O) hz hD (fun q=>a1 i q e),?_⟩;rw [vL _ _ _ e];exact L.2
 ·intro i E u;by_cases e:i=r
  ·subst e;rw [jH] at u ⊢;exact a8 u
  ·rw [vL _ _ _ e] at u ⊢;have h0:(ts i).ad=none:=by
    cases hq:(ts i).ad with
    | none=>rfl
    | some z=>simp [Tn.cf,hq] at u
   have L:=h.cg i (R i E e) h0;exact ⟨L.1,fun q U h4=>(a1 i q e).trans (L.2 q U h4)⟩
 ·intro i j l1 l2 E hj a0 X L x O;by_cases Y:i=r
  ·subst Y;rw [jH] at X;obtain ⟨z,U,rfl⟩:=Z j l2 (Ne.symm a0) L;exact a3 l1 x X O j z (R j hj (Ne.symm a0)) (Ne.symm a0) U
  ·obtain ⟨z,U,rfl⟩:=Z i l1 Y X;by_cases ej:j=r
   ·subst ej;rw [jH] at L;exact fun hy=>a3 l2 x L hy i z (R i E Y) Y U O
   ·obtain ⟨l4,h5,rfl⟩:=Z j l2 ej L;exact h.apart i j z l4 (R i E Y) (R j hj ej) a0 U h5 x O
 ·intro i l' E u x O;by_cases e:i=r
  ·subst e;rw [jH] at u;exact a5 l' x u O
  ·obtain ⟨z,U,rfl⟩:=Z i l' e u;exact h.base.2.2.1 i z (R i E e) U x O
theorem ZO {α:Type} (c:Nat->α) (r:Nat):zZ c r (c r)=c:=by
 funext i;by_cases e:i=r
 ·subst e;exact zk _ _ _
 ·exact zy _ _ e
theorem Yi.below (h:Yi w D F cur r l) (hb:zd w w'):Yi w' D F cur r l:=by obtain ⟨E,L,u,z⟩:=DeskAt.ah h.dk;exact ⟨h.sto.below hb,h.hD,h.hr,h.hF,h.dk.below hb u z,h.km⟩
theorem qs.below (h:qs bz w H D F cur c ts boots k) (hb:zd w w'):qs bz w' H D F cur c ts boots k :=
 ⟨zg h.U hb (zi h.U),h.ar.below hb,h.c4,h.ee,h.cells,fun r l z u=>⟨(h.ad r l z u).1.below hb,(h.ad r l z u).2⟩,h.cg,h.apart,h.base.1,h.base.2.1,h.base.2.2.1,fun x E=>qg (h.base.2.2.2 x E) hb.size⟩
theorem qs.hj (h:qs bz w H D F cur c ts boots k) (E:r<k) (z:(ts r).ad=some l):∀ x,qd l.a l.b l.s x->¬ bz x:=fun x u=>by
 rcases zap (h.ad r l E z).1 u with u | u
 ·exact h.base.2.2.1 r l E z x u
 ·exact h.base.2.1 x u
theorem qs.ej (h:qs bz w H D F cur c ts boots k) {x:Nat} (z:w.heap.size<=x):¬ bz x:=fun u=>by have:=h.base.2.2.2 x u;omega
theorem qs.fh (h:qs bz w H D F cur c ts boots k) (z:r<k) (u:(ts r).ad=some l):¬ bz l.kb/\¬ bz l.km:=⟨h.base.2.2.1 r l z u _ (.inr (.inl rfl)),h.base.2.2.1 r l z u _ (.inr (.inr rfl))⟩
theorem qs.store (h:qs bz w H D F cur c ts boots k) (a7:k<=4) (X:r<k) (U:(ts r).ad=some l) {Y:Vb} {s':St} (hs:zm w' l.a Y cur' s') (E:qv w w' (qd l.a l.b l.s) (qd l.a Y s') cur cur' r) :
  qs bz w' H D Y.F cur' c (vt ts Y.F r { ts r with ad:=some { l with b:=Y,s:=s' } }) boots k:=by
 obtain ⟨L,a6⟩:=h.ad r l X U;obtain ⟨d1,d2,d3,d4⟩:=DeskAt.ah L.dk;have a1:∀ x,qd l.a l.b l.s x->YY l x∨F x:=fun x u=>zap L u;have a4:({ ts r with ad:=some { l with b:=Y,s:=s' } }:Tn).t5=c r:=by rw [h.cells r X];unfold Tn.t5;rw [U]
 have a5:¬ qd l.a l.b l.s l.kb:=L.sto.cc d1 (by decide);have h1:=qs.step (k':=k) (boots':=boots) (w':=w') (F':=Y.F) (cur':=cur') h { ts r with ad:=some { l with b:=Y,s:=s' } } (by omega) (fun i O _=>O) ?_ ?_ ?_ (h.ee r (by omega)) ?_ (fun e=>by cases e) ?_ (fun i q O=>E.out i q (.inl O)) E.ac.size ?_ (fun x u=>?_) ?_
 ·rw [a4,ZO] at h1;exact h1
 ·rw [a4,ZO];exact (E.ac.block H (zi h.U) (fun u=>h.d4 X U (a1 H u) rfl)).trans h.U
 ·have:=hs.sto.ar;rw [L.hD] at this;exact this
 ·rw [E.out r 0 (.inr rfl)];exact h.c4 r (by omega)
 ·intro l' e;injection e with e;subst e;refine ⟨⟨hs,L.hD,L.hr,rfl,⟨(E.ac.block _ d3 a5).trans L.dk.U,L.dk.map.a9 (E.ac.block _ d4 L.km)⟩,fun u=>E.ed L.km d4 u⟩,a6⟩
 ·intro i l' x O a0 Z u;obtain ⟨h2,_⟩:=h.ad i l' O Z;refine E.ac.block x (h2.ah x u).2 (fun R=>?_);rcases a1 x R with R | R
  ·exact h.apart r i l l' X O (Ne.symm a0) U Z x R u
  ·exact h2.da u R
 ·intro l' x e u i a3 O a0 Z R;injection e with e;subst e;obtain ⟨h2,_⟩:=h.ad i a3 O Z;have a8:=(h2.ah x R).2;rcases u with u | u
  ·rcases E.new x (.inl u) with z | z
   ·rcases a1 x z with z | z
    ·exact h.apart r i l a3 X O (Ne.symm a0) U Z x z R
    ·exact h2.da R z
   ·omega
  ·exact h.apart r i l a3 X O (Ne.symm a0) U Z x (.inr u) R
 ·rcases E.new x (.inr u) with z | z
  ·exact h.hj X U x z
  ·exact h.ej z
 ·intro l' x e u;injection e with e;subst e;rcases u with u | u
  ·rcases E.new x (.inl u) with z | z
   ·exact h.hj X U x z
   ·exact h.ej z
  ·exact h.base.2.2.1 r l X U x (.inr u)
theorem qs.cq (h:qs bz w H D F cur c ts boots k) (a4:k<=4) (R:r<k) (O:(ts r).ad=some l) {nx:Int} {hs:List (Int × Int)} (hd:Dk.DeskAt w' l.kb l.km l.ep nx hs) (L:zE (fun i=>i=l.kb∨i=l.km) w w') :
  qs bz w' H D F cur c (vt ts F r { ts r with ad:=some { l with nx:=nx,hs:=hs } }) boots k:=by
 obtain ⟨z,a1⟩:=h.ad r l R O;obtain ⟨d1,d2,d3,d4⟩:=DeskAt.ah z.dk;have Z:({ ts r with ad:=some { l with nx:=nx,hs:=hs } }:Tn).t5=c r:=by rw [h.cells r R];unfold Tn.t5;rw [O]
 have a0:¬ qd l.a l.b l.s l.kb:=z.sto.cc d1 (by decide);have hF:∀ x,F x->w'.heap[x]?=w.heap[x]?:=fun x u=>L.block x (h.ar.lt x u) (fun e=>by
  have U:=h.ar.ah u;simp only [zO,qZ,or_false] at U;rcases e with rfl | rfl<;>omega)
 have U:=qs.step (k':=k) (boots':=boots) (w':=w') (F':=F) (cur':=cur) h { ts r with ad:=some { l with nx:=nx,hs:=hs } } (by omega) (fun i E _=>E) ?_ (zK.same h.ar hF L.size) (h.c4 r (by omega)) (h.ee r (by omega)) ?_ (fun e=>by cases e) ?_ (fun i q E=>rfl) L.size ?_ h.base.2.1 (fun l' x e u=>by injection e with e;subst e;exact h.base.2.2.1 r l R O x u)
 ·rw [Z,ZO] at U;exact U
 ·rw [Z,ZO];exact (L.block H (zi h.U) (fun e=>h.d4 R O (x:=H) (.inl (.inr e)) rfl)).trans h.U
 ·intro l' e;injection e with e;subst e;refine ⟨⟨z.sto.same (fun x u=>L.block x (z.sto.lt u) (fun e=>?_)) L.size,z.hD,z.hr,z.hF,hd,z.km⟩,a1⟩;rcases e with rfl | rfl
  ·exact a0 u
  ·exact z.km u
 ·intro i l' x E Y X u;obtain ⟨h2,_⟩:=h.ad i l' E X;exact L.block x (h2.ah x u).2 (fun e=>h.apart r i l l' R E (Ne.symm Y) O X x (.inr e) u)
 ·intro l' x e u i a3 E Y X hy;injection e with e;subst e;exact h.apart r i l a3 R E (Ne.symm Y) O X x u hy
end
end
section
variable {bz:Nat->Prop}
structure Rq where
 kd:Int
 tn:Int
 hd:Int
 rt:Int
 rk:ByteArray
 rv:ByteArray
 tt:ByteArray
 n:Int
 mask:Int
 dA:Option Addr
 dn:Nat
 dc:Nat
def zJ (q:Rq):List Value:=[.int .i64 q.kd,.int .i64 q.tn,.int .i64 q.hd,.int .i64 q.rt,.string q.rk,.string q.rv,.string q.tt,.int .i64 q.n,.int .u64 q.mask,.slice q.dA q.dn q.dc]
structure An where
 Z:Int
 hd:Int
 vl:ByteArray
 rA:Option Addr
 rn:Nat
 rc:Nat
 dA:Option Addr
 dn:Nat
 dc:Nat
def zV (a:An):List Value:=[.int .i64 a.Z,.int .i64 a.hd,.string a.vl,.slice a.rA a.rn a.rc,.slice a.dA a.dn a.dc]
def qo (h:Int):An:=⟨h,0,{ data:=#[] },none,0,0,none,0,0⟩
theorem zaO (q:Rq):(zJ q).toArray.all (·.oneCell')=true:=by simp [zJ,Value.oneCell']
theorem KG (a:An):(zV a).toArray.all (·.oneCell')=true:=by simp [zV,Value.oneCell']
def Gd (W h:World):Prop:=∀ (x t:Nat) (C:Array Value),t ∉ [103,222,100001,136,208,150,3,200,204,194,5,81,118,86,120,139,73]->W.heap[x]?=some (.cells C t (0,0))->h.heap[x]?=some (.cells C t (0,0))
structure zv (bz:Nat->Prop) (W W':World):Prop where
 t:Gd W W'
 os:W'.os=W.os
 tape:W'.tape=W.tape
 output:W'.output=W.output
 size:W.heap.size<=W'.heap.size
 old:∀ x,bz x->x<W.heap.size->W'.heap[x]?=W.heap[x]?
instance {bz:Nat->Prop} {W W':World}:CoeFun (zv bz W W') (fun _=>∀ (x t:Nat) (C:Array Value),t ∉ [103,222,100001,136,208,150,3,200,204,194,5,81,118,86,120,139,73]->W.heap[x]?=some (.cells C t (0,0))->W'.heap[x]?=some (.cells C t (0,0))):=⟨fun h=>h.t⟩
theorem zv.refl (W:World):zv bz W W:=⟨fun _ _ _ _ h=>h,rfl,rfl,rfl,za _,fun _ _ _=>rfl⟩
theorem zv.trans {A B C:World} (h:zv bz A B) (k:zv bz B C):zv bz A C:=⟨fun x t c D E=>k.t x t c D (h.t x t c D E),k.os.trans h.os,k.tape.trans h.tape,k.output.trans h.output,zz h.size k.size,fun x u z=>(k.old x u (qg z h.size)).trans (h.old x u z)⟩
theorem zv.below {A B:World} (h:zd A B):zv bz A B:=⟨fun x t c _ u=>zg u h (zi u),h.os,h.tape,h.output,h.size,fun x _ u=>h.block x u⟩
theorem zv.ay {A B:World} (h:zv bz A.drew B):zv bz A B:=⟨h.t,h.os,h.tape,h.output,h.size,h.old⟩
theorem Gd.store {w w':World} {a:Va} {b:Vb} {s:St} {cur cur':Nat->Nat->List UInt8} {M:Nat->Prop} {r:Nat} (h:zm w a b cur s) (z:qv w w' (qd a b s) M cur cur' r):Gd w w':=fun x t c D u =>
 z.U (h.e5 u (fun hm=>D (by simp only [zO,qZ,or_false] at hm ⊢;omega))) u
theorem zv.store {w w':World} {a:Va} {b:Vb} {s:St} {cur cur':Nat->Nat->List UInt8} {M:Nat->Prop} {r:Nat} (hb:∀ x,qd a b s x->¬ bz x) (h:zm w a b cur s) (u:qv w w' (qd a b s) M cur cur' r):zv bz w w' :=
 ⟨Gd.store h u,u.ac.os,u.ac.tape,u.ac.output,u.ac.size,fun x z D=>u.ac.block x D (fun hm=>hb x hm z)⟩
theorem Gd.cq {w w':World} {z D:Nat} {E nx:Int} {hs:List (Int × Int)} (h:Dk.DeskAt w z D E nx hs) (O:zE (fun i=>i=z∨i=D) w w'):Gd w w':=fun x t c L u=>by obtain ⟨R,U,X,Y⟩:=DeskAt.ah h;refine (O.block x (zi u) (fun e=>?_)).trans u;have:=zh u;simp only [zO,qZ,or_false,not_or] at L;rcases e with rfl | rfl<;>omega
theorem zv.cq {w w':World} {z D:Nat} {L nx:Int} {hs:List (Int × Int)} (hb:¬ bz z/\¬ bz D) (h:Dk.DeskAt w z D L nx hs) (u:zE (fun i=>i=z∨i=D) w w'):zv bz w w' :=
 ⟨Gd.cq h u,u.os,u.tape,u.output,u.size,fun x E O=>u.block x O (fun e=>by rcases e with rfl | rfl;exact hb.1 E;exact hb.2 E)⟩
theorem zv.ac {w w':World} {M:Nat->Prop} (hb:∀ x,M x->¬ bz x) (D:Gd w w') (h:zA M w w'):zv bz w w' :=
 ⟨D,h.os,h.tape,h.output,h.size,fun x u z=>h.block x z (fun hm=>hb x hm u)⟩
structure jp (W W':World):Prop where
 os:W'.os=W.os
 tape:W'.tape=W.tape
 output:W'.output=W.output
 size:W.heap.size<=W'.heap.size
 block:∀ x,x<W.heap.size->qP W x≠31->W'.heap[x]?=W.heap[x]?
theorem jp.below {W u:World} (h:zd W u):jp W u:=⟨h.os,h.tape,h.output,h.size,fun x z _=>h.block x z⟩
theorem jp.setRow {W:World} {g:Nat} {C:Array Value} (h:W.heap[g]?=some (.cells C 31 (0,0))) (u:Array Value):jp W (W.setRow g u) :=
 ⟨rfl,rfl,rfl,by simp,fun x _ z=>setRow_other W g x u (fun e=>z (by rw [e];exact zh h))⟩
theorem jp.trans {A B C:World} (h:jp A B) (k:jp B C):jp A C :=
 ⟨k.os.trans h.os,k.tape.trans h.tape,k.output.trans h.output,zz h.size k.size,fun x z u=>(k.block x (qg z h.size) (by rw [jW (h.block x z u)];exact u)).trans (h.block x z u)⟩
end
section
variable {bz:Nat->Prop}
def QD (w:World) (q:Rq):World:=(w.alloc (.cells (zJ q).toArray 37)).alloc (.cells qJ 31)
theorem yO (w:World) (q:Rq):zd w (QD w q):=B_alloc (B_alloc (zf _ _) _) _
theorem ZI (w:World) (q:Rq):(QD w q).heap[w.heap.size]?=some (.cells (zJ q).toArray 37 (0,0)):=zw (zo _ _ rfl) _
theorem Zn (w:World) (q:Rq):(QD w q).heap[w.heap.size+1]?=some (.cells qJ 31 (0,0)):=zo _ _ (by simp)
theorem qs.b8 {w:World} {H D:Nat} {F:Nat->Prop} {cur:Nat->Nat->List UInt8} {c:Nat->T5} {ts:Nat->Tn} {boots k r:Nat} {l:Tl} (h:qs bz w H D F cur c ts boots k) (R:k<=4) (E:r<k) (z:(ts r).ad=some l) :
  w.cell? ⟨H,1+r*5,none⟩=some (.pointer (some ⟨l.a.S,0,none⟩))/\w.cell? ⟨H,1+r*5+1,none⟩=some (.pointer (some ⟨l.kb,0,none⟩))/\w.cell? ⟨H,1+r*5+2,none⟩=some (.int .i64 1)/\w.cell? ⟨H,1+r*5+3,none⟩=some (.int .u64 (ts r).ct)/\w.cell? ⟨H,1+r*5+4,none⟩=some (.bool false):=by
 have u:=Gl D c boots r (by omega);have O:=h.cells r E;have L:=(h.ad r l E z).2;have e:c r=⟨.pointer (some ⟨l.a.S,0,none⟩),.pointer (some ⟨l.kb,0,none⟩),.int .i64 1,.int .u64 (ts r).ct,.bool false⟩:=by rw [O];unfold Tn.t5;rw [z];simp only [L];rfl
 rw [e] at u;refine ⟨?_,?_,?_,?_,?_⟩
 ·rw [ze w H _ _ _ _ h.U];exact u.1
 ·rw [ze w H _ _ _ _ h.U];exact u.2.1
 ·rw [ze w H _ _ _ _ h.U];exact u.2.2.1
 ·rw [ze w H _ _ _ _ h.U];exact u.2.2.2.1
 ·rw [ze w H _ _ _ _ h.U];exact u.2.2.2.2
theorem zv.setRow {A B:World} (h:zv bz A B) {g:Nat} (L:A.heap.size<=g) (C:Array Value):zv bz A (B.setRow g C) :=
 ⟨fun x t c E u=>(setRow_other B g x C (fun e=>by have:=zi u;omega)).trans (h.t x t c E u),h.os,h.tape,h.output,by have:=h.size;simp;omega,fun x z D=>(setRow_other B g x C (by omega)).trans (h.old x z D)⟩
theorem jo {z:Func} {R:Ending->World->Prop} {a:Act} {u:World} {g:Nat} {X C:Array Value} {an:An} (p:Tmp) (h:z.results=#[.cell p 31]) (hd:a.defers=[]) (O:a.tmps.getD p undef=.pointer (some ⟨g,0,none⟩)) (L:u.heap[g]?=some (.cells C 31 (0,0))) (E:X=(zV an).toArray)
  (D:R (.returned (.agg (zV an).toArray)) (u.setRow g (zV an).toArray)):bodyPost prog z R .ret a (u.setRow g X):=by
 subst E;exact zcA p 31 h hd g 31 (zV an).toArray (0,0) _ O (setRow_heap u g _ _ 31 _ L) underlying31 rfl (by kernel_rfl) D
theorem zkE (H a7 r:Nat) (F:Nat->Prop) (cur:Nat->Nat->List UInt8) (ts:Nat->Tn) (boots:Nat) (l:Tl) (q:Rq) (w:World) (P:An->World->Prop) (h:zN bz w H a7 F cur ts boots) (hr:r<4) (Z:(ts r).ad=some l)
  (e5:3<=q.kd) (e4:q.kd<=12) (d0:iok q.hd) (hP:∀ a W u,P a W->jp W u->P a u)
  (a0:qT l.hs q.hd=false->∀ W,zd w W->P (qo 2) W)
  (a1:qT l.hs q.hd=true->∀ W,zd w W->zc 39 #[.pointer (some ⟨H,0,none⟩),.pointer (some ⟨H,1+r*5,none⟩),.agg (zJ q).toArray] W fun e u=>∃ a,e=.returned (.agg (zV a).toArray)/\a.Z≠10/\zv bz W u/\P a u) :
  zc 23 #[.pointer (some ⟨H,0,none⟩),.pointer (some ⟨H,1+r*5,none⟩),.agg (zJ q).toArray] w fun e u=>∃ a,e=.returned (.agg (zV a).toArray)/\a.Z≠10/\zv bz w u/\P a u:=by
 have d4:(q.kd == 0)=false:=by simp;omega
 have d5:(q.kd == 14)=false:=by simp;omega
 have d6:(q.kd == 1)=false:=by simp;omega
 have d7:(q.kd == 13)=false:=by simp;omega
 have d8:(q.kd == 2)=false:=by simp;omega
 have d9:(q.kd == 15)=false:=by simp;omega
 have e0:(q.kd == 16)=false:=by simp;omega
 have e1:(q.kd == 17)=false:=by simp;omega
 obtain ⟨w1,D⟩:=ex (QD w q);have R:zd w w1:=by rw [D];exact yO w q
 have L:w1.heap[w.heap.size]?=some (.cells (zJ q).toArray 37 (0,0)):=by rw [D];exact ZI w q
 have a3:w1.heap[w.heap.size+1]?=some (.cells qJ 31 (0,0)):=by rw [D];exact Zn w q
 have k0:=xV (Value.int .i64 q.kd) 0 L;have U:=h.below R;obtain ⟨c3,c1,c4,c5,c6⟩:=U.b8 (by omega) hr Z;have O:=(U.ad r l hr Z).1.dk;have X:=Dk.has_any l.kb l.km l.ep l.nx l.hs q.hd d0 w1.drew (O.below (zf _ _).drew (DeskAt.ah O).2.2.1 (DeskAt.ah O).2.2.2);have a5:(w.alloc (.cells (zJ q).toArray 37)).alloc (.cells qJ 31)=w1:=D.symm;obtain ⟨c8,a4⟩:=ex (qT l.hs q.hd);rw [<- a4] at X a0 a1;have hS:=And.intro c1 L;obtain ⟨HH,E,c0,z,HP,a8,a9,b9⟩:=zi8 X R L a3 hP a0 a1 a5;clear D a5 R L a3 hP a0 a1 X U O a4 h Z c3 c5 c6;go_enter func23,ntmps23;go_upto_region 1 with fail;rw [b9.o];go_upto_region 32 with fail;refine sV [6] 8 (fun w'=>zH w' H (1+r*5+1) (.pointer (some ⟨l.kb,0,none⟩))/\w'.heap[w.heap.size]?=some (.cells (zJ q).toArray 37 (0,0))) hS fun c7=>?_;refine pV 0 ?_;refine pV 1 ?_;refine pV 2 ?_;refine cV 3 (fun _ h=>h.1) ?_;refine pV 4 ?_;refine cV 5 (fun _ h=>xV (Value.int .i64 q.hd) 2 h.2) ?_;refine lC 6 HH.o ?_;rintro e2 w2 ⟨rfl,d3⟩;subst d3;refine eL ?_;refine pV 7 ?_;refine dV ?_;have c2:Hid (w1.drew.heap[w.heap.size]?=some (.cells (zJ q).toArray 37 (0,0))):=c0;clear c7 hS c1 c4;cases c8 with
 | false =>go_wp2_with ((with_reducible refine hV 6 ?_);refine wV 0 (zV (qo 2)).toArray (show w1.drew.heap[_]?=_ from z.o) ?_);refine jo (an:=qo 2) 6 rfl rfl rfl (show w1.drew.heap[_]?=_ from z.o) rfl ⟨qo 2,rfl,by decide,(zv.below E.o.drew).setRow (by omega) _,?_⟩;exact HP.o _ _ _ (a8.o (by trivial) w1.drew E.o.drew) (jp.setRow (show w1.drew.heap[_]?=_ from z.o) _)
 | true =>go_wp2_with (first|((with_reducible refine gV 123 ?_);refine rV c2.o ?_)|((with_reducible refine aV 39 (a9.o rfl w1.drew E.o.drew) ?_);rintro e3 w3 ⟨an,rfl,d1,Y,d2⟩)|(show wpList _ _ _ (⟨none,.store 31 (.tmp 6) _,_,_,_,_⟩::_) _ _;refine yL rfl 31 (.tmp 6) (.tmp 124) rfl (w.heap.size+1) 0 31 _ (zV an).toArray (by rfl) (by rfl) (Y _ _ _ (by decide) (show w1.drew.heap[_]?=_ from z.o)) (by simp [zV]) (by kernel_rfl) (by simp [zV,Value.oneCell']) ?_));have a6:=Y _ _ _ (by decide) (show w1.drew.heap[_]?=_ from z.o);refine jo (an:=an) 6 rfl rfl rfl a6 rfl ⟨an,rfl,d1,((zv.below E.o.drew).trans Y).setRow (by omega) _,?_⟩;exact HP.o _ _ _ d2 (jp.setRow a6 _)
end
section
variable {bz:Nat->Prop}
theorem zmu (H a7 r:Nat) (F:Nat->Prop) (cur:Nat->Nat->List UInt8) (ts:Nat->Tn) (boots:Nat) (l:Tl) (q:Rq) (w:World) (P:An->World->Prop) (h:zN bz w H a7 F cur ts boots) (hr:r<4) (hl:(ts r).ad=some l)
  (d7:5<=q.kd) (d6:q.kd<=12) (d0:iok q.hd) (hP:∀ a W u,P a W->jp W u->P a u)
  (a0:(zU l.hs q.hd).getD 0=0->∀ W,zd w W->P (qo 4) W)
  (a1:(zU l.hs q.hd).getD 0≠0->∀ W,zd w W->zc 75 #[.pointer (some ⟨H,0,none⟩),.pointer (some ⟨H,1+r*5,none⟩),.agg (zJ q).toArray,.int .i64 ((zU l.hs q.hd).getD 0)] W fun e u=>∃ a,e=.returned (.agg (zV a).toArray)/\a.Z≠10/\zv bz W u/\P a u) :
  zc 39 #[.pointer (some ⟨H,0,none⟩),.pointer (some ⟨H,1+r*5,none⟩),.agg (zJ q).toArray] w fun e u=>∃ a,e=.returned (.agg (zV a).toArray)/\a.Z≠10/\zv bz w u/\P a u:=by
 have d4:(q.kd == 3)=false:=by simp;omega
 have d5:(q.kd == 4)=false:=by simp;omega
 obtain ⟨w1,D⟩:=ex (QD w q);have U:zd w w1:=by rw [D];exact yO w q
 have L:w1.heap[w.heap.size]?=some (.cells (zJ q).toArray 37 (0,0)):=by rw [D];exact ZI w q
 have a3:w1.heap[w.heap.size+1]?=some (.cells qJ 31 (0,0)):=by rw [D];exact Zn w q
 have k0:=xV (Value.int .i64 q.kd) 0 L;have X:=h.below U;obtain ⟨c4,c1,c5,c6,c7⟩:=X.b8 (by omega) hr hl;have O:=(X.ad r l hr hl).1.dk;have Y:=Dk.txn_any l.kb l.km l.ep l.nx l.hs q.hd d0 w1.drew (O.below (zf _ _).drew (DeskAt.ah O).2.2.1 (DeskAt.ah O).2.2.2);have a5:(w.alloc (.cells (zJ q).toArray 37)).alloc (.cells qJ 31)=w1:=D.symm;obtain ⟨txn,a4⟩:=ex ((zU l.hs q.hd).getD 0);rw [<- a4] at Y a0 a1;have hS:=And.intro c1 L;obtain ⟨HH,E,c2,z,HP,a8,a9,c0⟩:=zi8 Y U L a3 hP a0 a1 a5;clear D a5 U L a3 hP a0 a1 Y X O a4 h hl c4 c6 c7;go_enter func39,ntmps39;go_upto_region 1 with fail;rw [c0.o];go_upto_region 1 with fail;refine sV [6] 8 (fun w'=>zH w' H (1+r*5+1) (.pointer (some ⟨l.kb,0,none⟩))/\w'.heap[w.heap.size]?=some (.cells (zJ q).toArray 37 (0,0))) hS fun c8=>?_;refine pV 0 ?_;refine pV 1 ?_;refine pV 2 ?_;refine cV 3 (fun _ h=>h.1) ?_;refine pV 4 ?_;refine cV 5 (fun _ h=>xV (Value.int .i64 q.hd) 2 h.2) ?_;refine lC 6 HH.o ?_;rintro e2 w2 ⟨rfl,d3⟩;subst d3;refine eL ?_;refine pV 7 ?_;refine dV ?_;have c3:Hid (w1.drew.heap[w.heap.size]?=some (.cells (zJ q).toArray 37 (0,0))):=c2;clear c8 hS c1 c5;by_cases R:txn=0
 ·subst R;go_wp2_with ((with_reducible refine hV 6 ?_);refine wV 0 (zV (qo 4)).toArray (show w1.drew.heap[_]?=_ from z.o) ?_);refine jo (an:=qo 4) 6 rfl rfl rfl (show w1.drew.heap[_]?=_ from z.o) rfl ⟨qo 4,rfl,by decide,(zv.below E.o.drew).setRow (by omega) _,?_⟩;exact HP.o _ _ _ (a8.o (by trivial) w1.drew E.o.drew) (jp.setRow (show w1.drew.heap[_]?=_ from z.o) _)
 ·have dt:(txn == 0)=false:=by simpa using R
  have b9:=hid R;clear R;go_wp2_with (first|((with_reducible refine gV 59 ?_);refine rV c3.o ?_)|((with_reducible refine aV 75 (a9.o b9.o w1.drew E.o.drew) ?_);rintro e3 w3 ⟨an,rfl,d1,Z,d2⟩)|(show wpList _ _ _ (⟨none,.store 31 (.tmp 6) _,_,_,_,_⟩::_) _ _;refine yL rfl 31 (.tmp 6) (.tmp 61) rfl (w.heap.size+1) 0 31 _ (zV an).toArray (by rfl) (by rfl) (Z _ _ _ (by decide) (show w1.drew.heap[_]?=_ from z.o)) (by simp [zV]) (by kernel_rfl) (by simp [zV,Value.oneCell']) ?_));have a6:=Z _ _ _ (by decide) (show w1.drew.heap[_]?=_ from z.o);refine jo (an:=an) 6 rfl rfl rfl a6 rfl ⟨an,rfl,d1,((zv.below E.o.drew).trans Z).setRow (by omega) _,?_⟩;exact HP.o _ _ _ d2 (jp.setRow a6 _)
end
section
variable {bz:Nat->Prop}
def zx.Z (f:zx):zx:={ f with pg:=f.pg.map fun p=>(0,p.2) }
def zn.Z (s:zn):zn:={ s with fs:=s.fs.map zx.Z }
def ZK (ts:qE):qE:=ts.map (Option.map fun p=>(0,p.2))
def St.Z (s:St):St:={ s with sto:=s.sto.Z,ts:=ZK s.ts }
theorem zx.gp (f:zx):f.Z.aw=f.aw:=by
 unfold zx.aw zx.Z;cases f.pg with
 | none=>rfl
 | some p=>rfl
theorem Kq (fs:List zx) (i:Nat):(fs.map zx.Z)[i]?=(fs[i]?).map zx.Z:=List.getElem?_map
theorem zac (fs:List zx) (n:Nat):jT (fs.map zx.Z) n=jT fs n:=Yn (fun i=>by
 rw [Kq];cases fs[i]? with
 | none=>rfl
 | some f=>exact zx.gp f) 3 0
theorem znf (fs:List zx) (n:Nat):Qx (fs.map zx.Z) n=Qx fs n:=by
 unfold Qx;rw [zac];cases jT fs n with
 | none=>rfl
 | some k =>
  simp only [Kq];cases fs[k]? with
  | none=>rfl
  | some f=>rfl
theorem zn.dd (s:zn) (n:Nat):s.Z.E n=s.E n:=by
 unfold zn.E zn.Z;simp only [zac];cases jT s.fs n with
 | none=>rfl
 | some k =>
  simp only [Option.bind_some,Kq];cases s.fs[k]? with
  | none=>rfl
  | some f =>
   simp only [qk,Option.bind_some,zx.Z];cases f.pg with
   | none=>rfl
   | some p=>rfl
theorem zhd (fs:List zx) (k:Nat) (f:zx):(fs.set k f).map zx.Z=(fs.map zx.Z).set k f.Z:=List.map_set
theorem zn.fq (s:zn) (k:Nat):(s.a0 k).Z=s.Z.a0 k:=by
 unfold zn.a0 zn.Z;simp only [Kq];cases s.fs[k]? with
 | none=>rfl
 | some f =>
  simp only [qk,zx.Z];cases u:f.pg with
  | none=>rfl
  | some p =>
   obtain ⟨b,n,p⟩:=p;simp only [qk];by_cases h:f.ae=0
   ·simp only [h,if_true]
   ·simp only [h,if_false,zhd,zx.Z,u,qk]
theorem zn.fo (s:zn) (n:Nat):(s.bc n).Z=s.Z.bc n:=by
 unfold zn.bc;rw [show s.Z.fs=s.fs.map zx.Z from rfl,zac];cases jT s.fs n with
 | none=>rfl
 | some k=>exact s.fq k
theorem zn.et (s:zn):∀ k,(s.a6 k).Z=s.Z.a6 k
 | 0=>rfl
 | k+1=>by rw [zn.b4,zn.b4,zn.fo,zn.et s k]
theorem zhb (fs:List zx):∀ k i,ye (fs.map zx.Z) k i=ye fs k i
 | 0,i=>rfl
 | k+1,i=>by
  unfold ye;rw [Kq,zhb fs k (i+1)];cases fs[i]? with
  | none=>rfl
  | some f =>simp only [qk,Option.bind_some,zx.gp]
theorem zn.ec (s:zn) (k:Nat) (f:zx):({ s with fs:=s.fs.set k f }:zn).Z={ s.Z with fs:=s.Z.fs.set k f.Z }:=by unfold zn.Z;simp only [zhd]
theorem zn.fv:∀ (g:Nat) (s:zn),(s.Z.bd g).1=(s.bd g).1/\(s.bd g).2.Z=(s.Z.bd g).2
 | 0,s=>⟨rfl,rfl⟩
 | g+1,s=>by
  unfold zn.bd;rw [show s.Z.fs=s.fs.map zx.Z from rfl,show s.Z.hand=s.hand from rfl,Kq];cases z:s.fs[s.hand]? with
  | none=>exact ⟨rfl,rfl⟩
  | some f =>
   simp only [qk];rw [show f.Z.a2=f.a2 from rfl];by_cases h:f.a2=true
   ·simp only [h,if_true];have u:=zn.fv g { s with fs:=s.fs.set s.hand { f with a2:=false },hand:=(s.hand+1) % 3 };have e:({ s with fs:=s.fs.set s.hand { f with a2:=false },hand:=(s.hand+1) % 3 }:zn).Z={ s.Z with fs:=(s.fs.map zx.Z).set s.hand { f.Z with a2:=false },hand:=(s.hand+1) % 3 }:=by unfold zn.Z;simp only [zhd];rfl
    rw [e] at u;exact u
   ·simp only [h,if_false];simp only [Bool.false_eq_true,if_false];refine ⟨by trivial,?_⟩;have e:=zn.fq { s with hand:=(s.hand+1) % 3 } s.hand;rw [zn.ec,e];rfl
theorem zn.fz (s:zn):s.Z.room.1=s.room.1/\s.room.2.Z=s.Z.room.2:=by
 unfold zn.room;rw [show s.Z.fs=s.fs.map zx.Z from rfl,zhb];cases ye s.fs 3 0 with
 | none=>exact zn.fv 4 s
 | some k=>exact ⟨rfl,rfl⟩
theorem zn.hf (s:zn) (k b n:Nat) (p:Pg):(s.ck k b n p).Z=s.Z.ck k 0 n p:=by
 unfold zn.ck;rw [show s.Z.fs=s.fs.map zx.Z from rfl,Kq];cases s.fs[k]? with
 | none=>rfl
 | some f=>simp only [qk];rw [zn.ec];rfl
theorem zn.d9 (s:zn) (b n:Nat) (p:Pg):(s.put b n p).Z=s.Z.put 0 n p:=by unfold zn.put;rw [zn.hf,(zn.fz s).1,(zn.fz s).2]
theorem zn.dg (s:zn) (b n:Nat):(s.get b n).Z=s.Z.get 0 n:=by
 unfold zn.get;rw [show s.Z.fs=s.fs.map zx.Z from rfl,zac];cases jT s.fs n with
 | none=>exact zn.d9 s b n (s.dp n)
 | some k =>
  simp only [Kq];cases s.fs[k]? with
  | none=>rfl
  | some f=>simp only [qk];rw [zn.ec];rfl
theorem zn.fe (s:zn) (n slot:Nat) (o:Option Rw) (m:Nat):(s.setRow n slot o m).Z=s.Z.setRow n slot o m:=by
 unfold zn.setRow;rw [show s.Z.fs=s.fs.map zx.Z from rfl,zac];cases jT s.fs n with
 | none=>rfl
 | some k =>
  simp only [Kq];cases s.fs[k]? with
  | none=>rfl
  | some f =>
   simp only [qk];rw [show f.Z.pg=f.pg.map fun p=>(0,p.2) from rfl];cases f.pg with
   | none=>rfl
   | some p=>obtain ⟨b,h,p⟩:=p;simp only [qk];rw [zn.ec];rfl
theorem zn.gu (s:zn) (x:zQ):(s.au x).Z=s.Z.au x:=rfl
theorem zlj (r kind txn n slot:Nat) (s:zn) (p:Pg) (o:Option Rw):yk r kind txn n slot s.Z p o=yk r kind txn n slot s p o:=by unfold yk;rw [show s.Z.fs=s.fs.map zx.Z from rfl,znf]
theorem zn.df (s:zn) (r nb kind txn n slot:Nat) (o:Option Rw):(s.al r nb kind txn n slot o).Z=s.Z.al r 0 kind txn n slot o:=by unfold zn.al;rw [zn.fe,zn.gu,<- zlj,zn.dg,zn.dd];rfl
theorem zn.e4 (s:zn) (nb fr h:Nat) (x:zQ):(s.ax nb fr h x).Z=s.Z.ax 0 fr h x:=by
 unfold zn.ax;rw [zn.dd];split
 ·rw [zn.fe,zn.dg]
 ·rw [zn.dg]
theorem zdP (ts:qE) (i:Nat):(ZK ts)[i]?=(ts[i]?).map (Option.map fun p=>(0,p.2)):=List.getElem?_map
theorem JG (ts:qE) (i:Nat) (o:Option (Nat × Tx)):ZK (ts.set i o)=(ZK ts).set i (o.map fun p=>(0,p.2)):=List.map_set
def zlx (l:List (Nat × Nat × Tx)):List (Nat × Nat × Tx):=l.map fun p=>(p.1,0,p.2.2)
theorem JF:∀ (ts:qE) (i:Nat),je (ZK ts) i=zlx (je ts i)
 | [],_=>rfl
 | none::l,i=>by show je (none::ZK l) i=_;simp only [je];exact JF l (i+1)
 | some (b,x)::l,i=>by show je (some (0,x)::ZK l) i=_;simp only [je];rw [JF l (i+1)];rfl
theorem zoL (ts:qE) (pg:Nat):yB (zF (ZK ts)) pg=yB (zF ts) pg:=by unfold zF;rw [JF];unfold yB zlx;rw [List.flatMap_map]
theorem zne (ts:qE):jS (zF (ZK ts))=jS (zF ts):=by unfold zF;rw [JF];unfold jS zlx;rw [List.map_map];rfl
theorem zio (ts:qE):qV (ZK ts)=qV ts:=by unfold qV zF;rw [JF];unfold vo zlx;rw [List.flatMap_map]
theorem zn.hu (s:zn) (ts:qE):(s.bb ts).Z=s.Z.bb (ZK ts):=by unfold zn.bb;rw [zio];have e:=zn.et s 6;unfold zn.Z at e ⊢;simp only at e ⊢;rw [<- e]
theorem St.d5 (s:St):s.a1.Z=s.Z.a1:=by unfold St.a1 St.Z;simp only [zn.hu]
theorem St.dr (s:St):s.ready.Z=s.Z.ready:=by
 unfold St.ready;have h:uA s.Z.ts=uA s.ts:=by show uA (ZK s.ts)=_;unfold uA;rw [zne]
 rw [h,show s.Z.sto.Q=s.sto.Q from rfl];split
 ·rfl
 ·exact St.d5 s
theorem znR (ts:qE) (txn:Nat) (c:Chg):ZK (Jo ts txn c)=Jo (ZK ts) txn c:=by
 unfold Jo;rw [zdP];cases ts[txn]? with
 | none=>rfl
 | some o =>
  cases o with
  | none=>rfl
  | some p=>obtain ⟨T,x⟩:=p;simp only [qk];rw [JG];rfl
theorem St.df (s:St) (r nb kind txn n slot:Nat) (o:Option Rw):(s.al r nb kind txn n slot o).Z=s.Z.al r 0 kind txn n slot o:=by
 unfold St.al;have h:(s.Z.sto.E n)=s.sto.E n:=zn.dd s.sto n;rw [h];unfold St.Z;simp only [zn.df];split
 ·rw [znR]
 ·rfl
theorem zbG (ts:qE) (nbs:Nat->Nat):∀ (g k:Nat) (s:zn),((zY ts nbs g k s).1.Z,(zY ts nbs g k s).2)=zY (ZK ts) (fun _=>0) g k s.Z
 | 0,_,_=>rfl
 | g+1,k,s=>by
  unfold zY;rw [zn.dd,zoL];cases QA (s.E k) (yB (zF ts) k) with
  | some i=>simp only [zn.dg]
  | none =>simp only;rw [<- zn.dg s (nbs k) k];exact zbG ts nbs g (k+1) (s.get (nbs k) k)
theorem St.d9 (s:St) (r:Nat) (nbs:Nat->Nat) (nb txn ops:Nat) (rw:Rw):(s.put r nbs nb txn ops rw).1=(s.Z.put r (fun _=>0) 0 txn ops rw).1/\(s.put r nbs nb txn ops rw).2.Z=(s.Z.put r (fun _=>0) 0 txn ops rw).2:=by
 have z:=zbG s.ts nbs 6 0 s.sto;have h:=congrArg Prod.fst z;have u:=congrArg Prod.snd z;simp only at h u;unfold St.put;rw [show s.Z.lk=s.lk from rfl,show s.Z.N=s.N from rfl,show s.Z.ts=ZK s.ts from rfl,show s.Z.sto=s.sto.Z from rfl,<- u,<- h];split
 ·exact ⟨rfl,rfl⟩
 ·split
  ·exact ⟨rfl,rfl⟩
  ·cases yX s.N ⟨rw.t,rw.k,[]⟩ with
   | some x =>refine ⟨rfl,?_⟩;simp only;rw [St.df,St.dr];rfl
   | none =>
    simp only;cases (zY s.ts nbs 6 0 s.sto).2 with
    | none=>exact ⟨rfl,rfl⟩
    | some p =>obtain ⟨n,i⟩:=p;refine ⟨rfl,?_⟩;simp only;rw [St.df,St.dr];rfl
theorem St.dw (s:St) (txn:Nat) (x:Tx):(s.am txn x).Z=s.Z.am txn x:=by unfold St.am St.Z;simp only;rw [JG];split<;>rfl
end
end Go.Proofs.YtechnoogjhohfaaGreat
namespace Go.Proofs.YtechnoogjhohfaaGreat
structure qX (s:zn):Prop where
 a5:s.fs.length=3
 hand:s.hand<3
 cu:∀ i j n:Nat,(s.fs[i]?.bind zx.aw)=some n->(s.fs[j]?.bind zx.aw)=some n->i=j
 ce:∀ (i:Nat) (f:zx) b n p,s.fs[i]?=some f->f.pg=some (b,n,p)->f.ae=0->p=s.dp n
 av:s.av<=s.Q.length
theorem zlU {f:zx} {b n:Nat} {p:Pg} (h:f.pg=some (b,n,p)):f.aw=some n:=by simp [zx.aw,h]
theorem zqw {f:zx} {n:Nat} (h:f.aw=some n):∃ b p,f.pg=some (b,n,p):=by
 unfold zx.aw at h;cases e:f.pg with
 | none=>rw [e] at h;cases h
 | some x =>obtain ⟨b,m,p⟩:=x;rw [e] at h;injection h with h;subst h;exact ⟨b,p,rfl⟩
theorem Zq {fs:List zx} {i n:Nat} (h:(fs[i]?.bind zx.aw)=some n):∃ f b p,fs[i]?=some f/\f.pg=some (b,n,p):=by
 cases e:fs[i]? with
 | none=>rw [e] at h;cases h
 | some f =>rw [e] at h;obtain ⟨b,p,u⟩:=zqw h;exact ⟨f,b,p,rfl,u⟩
theorem QH {fs:List zx} {i b n:Nat} {f:zx} {p:Pg} (h:fs[i]?=some f) (u:f.pg=some (b,n,p)):(fs[i]?.bind zx.aw)=some n:=by rw [h];exact zlU u
theorem qX.find {s:zn} (h:qX s) {i n:Nat} (u:(s.fs[i]?.bind zx.aw)=some n):jT s.fs n=some i:=by obtain ⟨f,b,p,D,L⟩:=Zq u;have E:=(zr.1 D).1;refine GE u (zT _) (by have:=h.a5;omega) (fun l _ E z=>?_);have:=h.cu l i n z u;omega
theorem qX.E {s:zn} (h:qX s) {i b n:Nat} {f:zx} {p:Pg} (u:s.fs[i]?=some f) (z:f.pg=some (b,n,p)):s.E n=p:=by unfold zn.E;rw [h.find (QH u z)];simp only [Option.bind_some,u,z]
theorem vj {s:zn} {n:Nat} (h:∀ i:Nat,¬ (s.fs[i]?.bind zx.aw)=some n):s.E n=s.dp n:=by
 unfold zn.E;cases e:jT s.fs n with
 | none=>rfl
 | some k =>obtain ⟨f,b,p,u,z⟩:=Qy e;exact absurd (QH u z) (h k)
theorem JX {s:zn} (h:qX s) (n:Nat):(∃ (i:Nat) (f:zx) (b:Nat),s.fs[i]?=some f/\f.pg=some (b,n,s.E n))∨((∀ i:Nat,¬ (s.fs[i]?.bind zx.aw)=some n)/\s.E n=s.dp n):=by
 by_cases e:∃ i:Nat,(s.fs[i]?.bind zx.aw)=some n
 ·obtain ⟨i,z⟩:=e;obtain ⟨f,b,p,D,u⟩:=Zq z;exact .inl ⟨i,f,b,D,by rw [h.E D u];exact u⟩
 ·have u:∀ i:Nat,¬ (s.fs[i]?.bind zx.aw)=some n:=fun i z=>e ⟨i,z⟩;exact .inr ⟨u,vj u⟩
structure uF (s s':zn):Prop where
 ok:qX s'
 E:∀ n,s'.E n=s.E n
 Q:s'.Q=s.Q
 J:s'.J=s.J
 bank:s'.bank=s.bank
 cy:(s'.av=s.av/\s'.dp=s.dp)∨(s'.av=s.Q.length/\∀ n,s'.dp n=s.dp n∨s'.dp n=s.E n)
theorem uF.refl {s:zn} (h:qX s):uF s s:=⟨h,fun _=>rfl,rfl,rfl,rfl,.inl ⟨rfl,rfl⟩⟩
theorem uF.trans {a b c:zn} (h:uF a b) (k:uF b c):uF a c:=by
 refine ⟨k.ok,fun n=>(k.E n).trans (h.E n),k.Q.trans h.Q,k.J.trans h.J,k.bank.trans h.bank,?_⟩;rcases h.cy with ⟨E,u⟩ | ⟨E,u⟩<;>rcases k.cy with ⟨z,D⟩ | ⟨z,D⟩
 ·exact .inl ⟨z.trans E,D.trans u⟩
 ·refine .inr ⟨by rw [z,h.Q],fun n=>?_⟩;rcases D n with e | e
  ·exact .inl (by rw [e,u])
  ·exact .inr (e.trans (h.E n))
 ·exact .inr ⟨z.trans E,fun n=>by rw [D];exact u n⟩
 ·refine .inr ⟨by rw [z,h.Q],fun n=>?_⟩;rcases D n with e | e
  ·rw [e];exact u n
  ·exact .inr (e.trans (h.E n))
theorem uJ {fs:List zx} {k i:Nat} {f' g:zx} (h:(fs.set k f')[i]?=some g):(i=k/\g=f')∨(i≠k/\fs[i]?=some g):=by
 by_cases e:i=k
 ·subst e;have u:i<fs.length:=by have:=(zr.1 h).1;simpa using this
  rw [qw u] at h;injection h with h;exact .inl ⟨rfl,h.symm⟩
 ·rw [qY (Ne.symm e)] at h;exact .inr ⟨e,h⟩
theorem zgi {s:zn} (h:qX s) {k:Nat} {f:zx} (D:s.fs[k]?=some f) (a:Bool) (hd:Nat) (U:hd<3):uF s { s with fs:=s.fs.set k { f with a2:=a },hand:=hd }:=by
 have O:∀ i:Nat,((s.fs.set k { f with a2:=a })[i]?.bind zx.aw)=(s.fs[i]?.bind zx.aw):=zaf D rfl;have hok:qX { s with fs:=s.fs.set k { f with a2:=a },hand:=hd }:=by
  refine ⟨by simp [h.a5],U,fun i j n L X=>h.cu i j n ((O i).symm.trans L) ((O j).symm.trans X),fun i g b n p E R hs=>?_,h.av⟩;rcases uJ E with ⟨rfl,rfl⟩ | ⟨_,E⟩
  ·exact h.ce i f b n p D R hs
  ·exact h.ce i g b n p E R hs
 refine ⟨hok,fun n=>?_,rfl,rfl,rfl,.inl ⟨rfl,rfl⟩⟩;rcases JX h n with ⟨i,g,b,u,z⟩ | ⟨u,z⟩
 ·by_cases e:i=k
  ·subst e;rw [D] at u;injection u with u;subst u;exact hok.E (i:=i) (f:={ f with a2:=a }) (by simp only;rw [qw (zr.1 D).1]) z
  ·exact hok.E (i:=i) (f:=g) (by simp only;rw [qY (Ne.symm e)];exact u) z
 ·rw [z];exact vj fun i L=>u i ((O i).symm.trans L)
theorem zmB {s:zn} (h:qX s) (hd:Nat) (u:hd<3):uF s { s with hand:=hd } :=
 ⟨⟨h.a5,u,h.cu,h.ce,h.av⟩,fun _=>rfl,rfl,rfl,rfl,.inl ⟨rfl,rfl⟩⟩
theorem zew {s:zn} (h:qX s) (k:Nat):uF s (s.a0 k):=by
 unfold zn.a0;split
 ·exact .refl h
 ·rename_i f D;split
  ·exact .refl h
  ·rename_i b n p O;split
   ·exact .refl h
   ·have hpg:=h.E D O;have U:∀ i:Nat,((s.fs.set k { f with ae:=0 })[i]?.bind zx.aw)=(s.fs[i]?.bind zx.aw):=zaf D rfl;have Z:∀ m,zZ s.dp n p m=s.dp m∨zZ s.dp n p m=s.E m:=fun m=>by
     by_cases e:m=n
     ·subst e;rw [zk];exact .inr hpg.symm
     ·rw [zy _ _ e];exact .inl rfl
    have hok:qX { s with fs:=s.fs.set k { f with ae:=0 },av:=s.Q.length,dp:=zZ s.dp n p }:=by
     refine ⟨by simp [h.a5],h.hand,fun i j n R hj=>h.cu i j n ((U i).symm.trans R) ((U j).symm.trans hj),fun i g Y X p' L z hs=>?_,za _⟩;rcases uJ L with ⟨rfl,rfl⟩ | ⟨a4,L⟩
     ·simp only at z;rw [O] at z;injection z with z;cases z;simp only [zk]
     ·have a0:=QH L z;have a1:=QH D O;have hn:X≠n:=fun e=>a4 (h.cu i k X a0 (by rw [e];exact a1));simp only [zy _ _ hn];exact h.ce i g Y X p' L z hs
    refine ⟨hok,fun m=>?_,rfl,rfl,rfl,.inr ⟨rfl,Z⟩⟩;rcases JX h m with ⟨i,g,Y,u,E⟩ | ⟨u,E⟩
    ·by_cases e:i=k
     ·subst e;rw [D] at u;injection u with u;subst u;exact hok.E (i:=i) (f:={ f with ae:=0 }) (by simp only;rw [qw (zr.1 D).1]) E
     ·exact hok.E (i:=i) (f:=g) (by simp only;rw [qY (Ne.symm e)];exact u) E
    ·have a3:m≠n:=fun e=>by subst e;exact u k (QH D O)
     rw [E,vj fun i R=>u i ((U i).symm.trans R)];exact zy _ _ a3
theorem ziZ {s:zn} (k:Nat) {f:zx} (h:s.fs[k]?=some f):∃ g,(s.a0 k).fs[k]?=some g/\g.pg=f.pg/\(g.ae=0∨f.pg=none):=by
 have u:=(zr.1 h).1;unfold zn.a0;simp only [h];split
 ·rename_i e;exact ⟨f,h,rfl,.inr e⟩
 ·split
  ·rename_i e;exact ⟨f,h,rfl,.inl e⟩
  ·exact ⟨{ f with ae:=0 },by simp only;rw [qw u],rfl,.inl rfl⟩
theorem zmC {s:zn} (h:qX s) {k:Nat} {f:zx} (E:s.fs[k]?=some f) (U:f.ae=0∨f.pg=none):uF s { s with fs:=s.fs.set k zx.none }:=by
 have hl:=(zr.1 E).1;have L:∀ i n:Nat,((s.fs.set k zx.none)[i]?.bind zx.aw)=some n->i≠k/\(s.fs[i]?.bind zx.aw)=some n:=fun i n u=>by
  by_cases e:i=k
  ·subst e;rw [qw hl] at u;cases u
  ·rw [qY (Ne.symm e)] at u;exact ⟨e,u⟩
 have hok:qX { s with fs:=s.fs.set k zx.none }:=by
  refine ⟨by simp [h.a5],h.hand,fun i j n u R=>h.cu i j n (L i n u).2 (L j n R).2,fun i g b n p O X hs=>?_,h.av⟩;rcases uJ O with ⟨rfl,rfl⟩ | ⟨_,O⟩
  ·cases X
  ·exact h.ce i g b n p O X hs
 refine ⟨hok,fun n=>?_,rfl,rfl,rfl,.inl ⟨rfl,rfl⟩⟩;rcases JX h n with ⟨i,g,b,z,D⟩ | ⟨z,D⟩
 ·by_cases e:i=k
  ·subst e;rw [E] at z;injection z with z;subst z;rw [D] at U;have hs:f.ae=0:=U.elim id (fun e=>by cases e);rw [vj (s:={ s with fs:=s.fs.set i zx.none }) fun j R=>?_]
   ·exact (h.ce i f b n _ E D hs).symm
   ·obtain ⟨Y,Z⟩:=L j n R;exact Y (h.cu j i n Z (QH E D))
  ·exact hok.E (i:=i) (f:=g) (by simp only;rw [qY (Ne.symm e)];exact z) D
 ·rw [D];exact vj fun i u=>z i (L i n u).2
theorem zeu:∀ (g:Nat) {s:zn},qX s->uF s (s.bd g).2
 | 0,s,h=>.refl h
 | g+1,s,h=>by
  have R:s.hand<s.fs.length:=by rw [h.a5];exact h.hand
  have z:s.fs[s.hand]?=some s.fs[s.hand]:=zX R;have hm:(s.hand+1) % 3<3:=Nat.mod_lt _ (by omega);unfold zn.bd;simp only [z];split
  ·have u:=zgi h z false _ hm;exact u.trans (zeu g u.ok)
  ·have u:=zmB h _ hm;have D:=zew u.ok s.hand;obtain ⟨U,E,L,O⟩:=ziZ (s:={ s with hand:=(s.hand+1) % 3 }) s.hand z;exact u.trans (D.trans (zmC D.ok E (O.imp id fun e=>by rw [L,e])))
theorem zcN:∀ (g:Nat) {s:zn},s.fs.length=3->s.hand<3->zbA s.fs<g->∃ f,(s.bd g).2.fs[(s.bd g).1]?=some f/\f.pg=none
 | 0,s,_,_,h=>by omega
 | g+1,s,h3,hh,h=>by
  have D:s.hand<s.fs.length:=by omega
  have u:s.fs[s.hand]?=some s.fs[s.hand]:=zX D;unfold zn.bd;simp only [u];split
  ·rename_i z;exact zcN g (by simp [h3]) (Nat.mod_lt _ (by omega)) (by have:=zgQ u z;simp only;omega)
  ·refine ⟨zx.none,?_,rfl⟩;simp only;rw [qw];have:=(uf.a0 ({ s with hand:=(s.hand+1) % 3 }:zn) s.hand).len;simp only at this;omega
theorem zbD {fs:List zx}:∀ {g i k:Nat},ye fs g i=some k->(fs[k]?.bind zx.aw)=none
 | 0,i,k,h=>by simp [ye] at h
 | g+1,i,k,h=>by
  unfold ye at h;split at h
  ·rename_i e;injection h with h;subst h;exact e
  ·exact zbD h
theorem zmD {s:zn} (h:qX s):uF s s.room.2/\∃ f,s.room.2.fs[s.room.1]?=some f/\f.pg=none:=by
 have u:=zn.e2 h.a5 h.hand;unfold zn.room at u ⊢;split
 ·rename_i k z;rw [z] at u;simp only at u;refine ⟨.refl h,s.fs[k]'(by rw [h.a5];exact u),zX _,?_⟩;have:=zbD z;rw [zX (by rw [h.a5];exact u)] at this;simp only [Option.bind_some] at this;cases e:(s.fs[k]'(by rw [h.a5];exact u)).pg with
  | none=>rfl
  | some x=>unfold zx.aw at this;rw [e] at this;cases this
 ·exact ⟨zeu 4 h,zcN 4 h.a5 h.hand (by have:zbA s.fs<=s.fs.length:=List.countP_le_length;have:=h.a5;omega)⟩
theorem Jz {s:zn} (h:qX s) (nb n:Nat):uF s (s.get nb n):=by
 unfold zn.get;cases X:jT s.fs n with
 | some k =>obtain ⟨f,b,p,u,R⟩:=Qy X;simp only [u];exact zgi h u true s.hand h.hand
 | none =>
  obtain ⟨u,f,R,h3⟩:=zmD h;have hl:=(zr.1 R).1;have a4:=uf.room s;have Z:∀ i:Nat,¬ (s.fs[i]?.bind zx.aw)=some n:=fun i z=>by rw [h.find z] at X;cases X
  have a0:∀ i:Nat,¬ (s.room.2.fs[i]?.bind zx.aw)=some n:=fun i z=>Z i (a4.aw i n z);have a3:s.room.2.dp n=s.dp n:=by have D:=u.E n;rw [vj a0,vj Z] at D;exact D
  simp only [zn.put,zn.ck,R];have a1:∀ i m:Nat,((s.room.2.fs.set s.room.1 ⟨some (nb,n,s.dp n),f.ae,true⟩)[i]?.bind zx.aw)=some m->(i=s.room.1/\m=n)∨(i≠s.room.1/\(s.room.2.fs[i]?.bind zx.aw)=some m):=fun i m z=>by
   by_cases e:i=s.room.1
   ·subst e;rw [qw hl] at z;injection z with z;exact .inl ⟨rfl,z.symm⟩
   ·rw [qY (Ne.symm e)] at z;exact .inr ⟨e,z⟩
  have hok:qX { s.room.2 with fs:=s.room.2.fs.set s.room.1 ⟨some (nb,n,s.dp n),f.ae,true⟩ }:=by
   refine ⟨by simp [u.ok.a5],u.ok.hand,fun i j m z hj=>?_,fun i g b m p Y U hs=>?_,u.ok.av⟩
   ·rcases a1 i m z with ⟨D,E⟩ | ⟨D,E⟩<;>rcases a1 j m hj with ⟨O,L⟩ | ⟨O,L⟩
    ·rw [D,O]
    ·subst E;exact absurd L (a0 j)
    ·subst L;exact absurd E (a0 i)
    ·exact u.ok.cu i j m E L
   ·rcases uJ Y with ⟨rfl,rfl⟩ | ⟨_,Y⟩
    ·injection U with U;cases U;exact a3.symm
    ·exact u.ok.ce i g b m p Y U hs
  refine ⟨hok,fun m=>?_,u.Q,u.J,u.bank,u.cy⟩;by_cases e:m=n
  ·subst e;rw [hok.E (i:=s.room.1) (f:=⟨some (nb,m,s.dp m),f.ae,true⟩) (by simp only;rw [qw hl]) rfl];exact (vj Z).symm
  ·rw [<- u.E m];rcases JX u.ok m with ⟨i,g,b,D,E⟩ | ⟨D,E⟩
   ·have a5:i≠s.room.1:=fun O=>by subst O;rw [R] at D;injection D with D;subst D;rw [h3] at E;cases E
    exact hok.E (i:=i) (f:=g) (by simp only;rw [qY (Ne.symm a5)];exact D) E
   ·rw [E];exact vj fun i z=>by
     rcases a1 i m z with ⟨_,L⟩ | ⟨_,L⟩
     ·exact e L
     ·exact D i L
structure zpS (s s':zn) (n slot:Nat) (o:Option Rw) (m:Nat):Prop where
 ok:qX s'
 E:s'.E n={ (s.E n).set slot o with mark:=m }
 b9:∀ n',n'≠n->s'.E n'=s.E n'
 Q:s'.Q=s.Q
 J:s'.J=s.J
 bank:s'.bank=s.bank
 av:s'.av=s.av
 dp:s'.dp=s.dp
 i4:jT s'.fs n≠none
theorem GQ {s:zn} (h:qX s) {k n slot m b:Nat} {o:Option Rw} {f:zx} {p:Pg} (D:s.fs[k]?=some f) (E:f.pg=some (b,n,p)) (hm:m≠0):zpS s (s.setRow n slot o m) n slot o m:=by
 have hl:=(zr.1 D).1;have Z:=h.find (QH D E);have hpg:=h.E D E;have Y:s.setRow n slot o m={ s with fs:=s.fs.set k ⟨some (b,n,{ p.set slot o with mark:=m }),if f.ae=0 then m else f.ae,f.a2⟩ }:=by simp only [zn.setRow,Z,D,E]
 rw [Y];have L:∀ i:Nat,((s.fs.set k ⟨some (b,n,{ p.set slot o with mark:=m }),if f.ae=0 then m else f.ae,f.a2⟩)[i]?.bind zx.aw)=(s.fs[i]?.bind zx.aw):=zaf D (by rw [zlU E];rfl);have hok:qX { s with fs:=s.fs.set k ⟨some (b,n,{ p.set slot o with mark:=m }),if f.ae=0 then m else f.ae,f.a2⟩ }:=by
  refine ⟨by simp [h.a5],h.hand,fun i j n R hj=>h.cu i j n ((L i).symm.trans R) ((L j).symm.trans hj),fun i g X U p' O a3 hs=>?_,h.av⟩;rcases uJ O with ⟨rfl,rfl⟩ | ⟨_,O⟩
  ·simp only at hs;split at hs
   ·exact absurd hs hm
   ·rename_i a1;exact absurd hs a1
  ·exact h.ce i g X U p' O a3 hs
 refine ⟨hok,?_,fun U hn=>?_,rfl,rfl,rfl,rfl,rfl,?_⟩
 ·rw [hpg];exact hok.E (i:=k) (f:=⟨some (b,n,{ p.set slot o with mark:=m }),if f.ae=0 then m else f.ae,f.a2⟩) (by simp only;rw [qw hl]) rfl
 ·rcases JX h U with ⟨i,g,X,u,z⟩ | ⟨u,z⟩
  ·have a0:i≠k:=fun e=>by subst e;rw [D] at u;injection u with u;subst u;rw [E] at z;injection z with z;exact hn (congrArg (fun x=>x.2.1) z).symm
   exact hok.E (i:=i) (f:=g) (by simp only;rw [qY (Ne.symm a0)];exact u) z
  ·rw [z];exact vj fun i R=>u i ((L i).symm.trans R)
 ·rw [hok.find (i:=k) (n:=n) (by simp only;rw [L k];exact QH D E)];simp
structure zqW (s s1 s':zn) (n slot:Nat) (o:Option Rw) (x:zQ):Prop where
 bx:uF s s1
 ok:qX s'
 E:s'.E n={ (s.E n).set slot o with mark:=jj s.J s.Q.length }
 b9:∀ n',n'≠n->s'.E n'=s.E n'
 Q:s'.Q=s.Q++qG x
 J:s'.J=s.J
 bank:s'.bank=s.bank
 av:s'.av=s1.av
 dp:s'.dp=s1.dp
 i4:jT s'.fs n≠none
theorem Ym {s:zn} (h:qX s) (r nb kind txn n slot:Nat) (o:Option Rw):zqW s (s.get nb n) (s.al r nb kind txn n slot o) n slot o (yk r kind txn n slot (s.get nb n) (s.E n) o):=by
 have u:=Jz h nb n;obtain ⟨k,f,U,L,R⟩:=Jv nb n h.a5 h.hand;have E:qX ((s.get nb n).au (yk r kind txn n slot (s.get nb n) (s.E n) o)):=⟨u.ok.a5,u.ok.hand,u.ok.cu,u.ok.ce,by
  have:=u.ok.av;simp only [zn.au,zl];omega⟩
 have z:=GQ E (k:=k) (slot:=slot) (m:=jj s.J s.Q.length) (o:=o) L R (by unfold jj;omega);have hpg:∀ m,((s.get nb n).au (yk r kind txn n slot (s.get nb n) (s.E n) o)).E m=s.E m:=u.E;refine ⟨u,z.ok,by have:=z.E;rw [hpg] at this;exact this,fun D O=>(z.b9 D O).trans (hpg D),z.Q.trans ?_,z.J.trans u.J,z.bank.trans u.bank,z.av,z.dp,z.i4⟩;simp only [zn.au,u.Q]
theorem zaT {s:zn} (h:qX s) (n:Nat):uF s (s.bc n)/\(s.bc n).dp n=s.E n/\∀ m,(s.bc n).dp m=s.dp m∨(s.bc n).dp m=s.E m:=by
 unfold zn.bc;split
 ·rename_i D;refine ⟨.refl h,?_,fun m=>.inl rfl⟩;unfold zn.E;rw [D];rfl
 ·rename_i k D;obtain ⟨f,b,p,u,z⟩:=Qy D;have hs:=zew h k;have hpg:=h.E u z;have hd:∀ m,(s.a0 k).dp m=s.dp m∨(s.a0 k).dp m=s.E m:=fun m=>by
   rcases hs.cy with ⟨_,e⟩ | ⟨_,e⟩
   ·exact .inl (by rw [e])
   ·exact e m
  refine ⟨hs,?_,hd⟩;unfold zn.a0;simp only [u,z];split
  ·rename_i e;rw [hpg];exact (h.ce k f b n p u z e).symm
  ·simp only [zk];exact hpg.symm
theorem zcl {s:zn} (h:qX s):∀ k,uF s (s.a6 k)/\∀ n,n<k->(s.a6 k).dp n=s.E n
 | 0=>⟨.refl h,fun n D=>absurd D (Nat.not_lt_zero n)⟩
 | k+1=>by
  obtain ⟨u,E⟩:=zcl h k;obtain ⟨L,O,R⟩:=zaT u.ok k;rw [zn.b4];refine ⟨u.trans L,fun n D=>?_⟩;by_cases e:n=k
  ·subst e;exact O.trans (u.E n)
  ·rcases R n with z | z
   ·exact z.trans (E n (by omega))
   ·exact z.trans (u.E n)
structure zpQ (s s':zn) (rs:List zQ):Prop where
 ok:qX s'
 E:∀ n,s'.E n=s.E n
 dp:∀ n,n<6->s'.dp n=s.E n
 Q:s'.Q=zq rs
 av:s'.av=(zq rs).length
 J:s'.J=s.J+1
theorem ZL {s:zn} (h:qX s) (ts:qE):zpQ s (s.bb ts) (qV ts):=by obtain ⟨u,z⟩:=zcl h 6;refine ⟨⟨u.ok.a5,u.ok.hand,u.ok.cu,u.ok.ce,za _⟩,u.E,z,rfl,rfl,rfl⟩
def Qc (n:Nat) (p:Pg) (e:Nat × zQ):Pg:=if (e.2.kind=3∨e.2.kind=4)/\e.2.E=n/\p.mark<e.1 then { p.set e.2.slot e.2.after with mark:=e.1 } else p
def rp (es:List (Nat × zQ)) (n:Nat) (p:Pg):Pg:=es.foldl (Qc n) p
theorem zmp (a b:List (Nat × zQ)) (n:Nat) (p:Pg):rp (a++b) n p=rp b n (rp a n p):=by simp [rp]
theorem znX (n:Nat) (p:Pg) (e:Nat × zQ):p.mark<=(Qc n p e).mark/\((e.2.kind=3∨e.2.kind=4)->e.2.E=n->e.1<=(Qc n p e).mark):=by
 unfold Qc;split
 ·rename_i h;exact ⟨Nat.le_of_lt h.2.2,fun _ _=>za _⟩
 ·rename_i h;exact ⟨za _,fun u z=>Nat.le_of_not_lt fun D=>h ⟨u,z,D⟩⟩
theorem zfj:∀ (es:List (Nat × zQ)) (n:Nat) (p:Pg),p.mark<=(rp es n p).mark/\∀ e,e∈es->(e.2.kind=3∨e.2.kind=4)->e.2.E=n->e.1<=(rp es n p).mark
 | [],n,p=>⟨za _,fun e h=>by cases h⟩
 | e::es,n,p=>by
  have D:=znX n p e;have z:=zfj es n (Qc n p e);show p.mark<=(rp es n (Qc n p e)).mark/\∀ u,u∈e::es->_;refine ⟨zz D.1 z.1,fun u h E L=>?_⟩;rcases zO.1 h with rfl | h
  ·exact zz (D.2 E L) z.1
  ·exact z.2 u h E L
theorem zjt:∀ (es:List (Nat × zQ)) (n:Nat) (p:Pg),(∀ e,e∈es->(e.2.kind=3∨e.2.kind=4)->e.2.E=n->e.1<=p.mark)->rp es n p=p
 | [],n,p,_=>rfl
 | e::es,n,p,h=>by
  have u:Qc n p e=p:=by unfold Qc;rw [if_neg];rintro ⟨u,D,L⟩;have:=h e (ji ..) u D;omega
  show rp es n (Qc n p e)=p;rw [u];exact zjt es n p fun z E=>h z (jh _ E)
theorem zhS {N:Nat}:∀ (es:List (Nat × zQ)) (n:Nat) (p:Pg),p.mark<N->(∀ e,e∈es->e.1<N)->(rp es n p).mark<N
 | [],n,p,h,_=>h
 | e::es,n,p,h,he=>by
  show (rp es n (Qc n p e)).mark<N;refine zhS es n _ ?_ fun u z=>he u (jh _ z);unfold Qc;split
  ·exact he e (ji ..)
  ·exact h
theorem zeN (u:Nat):∀ (rs:List zQ) (n:Nat),∀ e,e∈qL u n rs->e.1<jj u (n+(zq rs).length)
 | [],n,e,h=>by cases h
 | x::rs,n,e,h=>by
  have z:(zq (x::rs)).length=(qG x).length+(zq rs).length:=by simp [zq]
  rcases zO.1 h with rfl | h
  ·have:=Jx x;simp only [jj,z];omega
  ·have:=zeN u rs _ e h;rw [z];simp only [jj] at this ⊢;omega
theorem YU (a b:List zQ):zq (a++b)=zq a++zq b:=by simp [zq]
theorem ZN (x:zQ):zq [x]=qG x:=by simp [zq]
structure zkV (s:zn) (rs:List zQ) (m:Nat) (C:Nat->List (Option Rw)):Prop where
 Q:s.Q=zq rs
 pos:0<m
 i8:m<=rs.length
 av:s.av=(zq (rs.take m)).length
 dj:∀ n,n<6->rp (qL s.J 0 rs) n (s.dp n)=s.E n
 part:∀ n,n<6->(rp (qL s.J 0 (rs.take m)) n (s.dp n)).ap=C n
 mark:∀ n,n<6->(s.E n).mark<jj s.J s.Q.length
def zeD (s:zn) (C:Nat->List (Option Rw)):Prop:=∀ n,n<6->(s.E n).ap=C n
theorem zcB {n z:Nat} {p:Pg} {x:zQ} (h:x.kind≠3/\x.kind≠4):Qc n p (z,x)=p:=by
 unfold Qc;rw [if_neg];rintro ⟨u | u,_⟩
 ·exact h.1 u
 ·exact h.2 u
theorem zkV.dq {s s':zn} {C:Nat->List (Option Rw)} {x:zQ} (O:x.kind≠3/\x.kind≠4) (E:s'.Q=zq [x]) (L:s'.av=(zq [x]).length) (u:∀ n,n<6->s'.dp n=s'.E n) (hm:∀ n,n<6->(s'.E n).mark<jj s'.J s'.Q.length) (D:zeD s' C):zkV s' [x] 1 C:=by
 have z:∀ n p,rp (qL s'.J 0 [x]) n p=p:=fun n p=>by show Qc n p _=p;exact zcB O
 refine ⟨E,Nat.one_pos,za _,L,fun n h=>by rw [z];exact u n h,fun n h=>?_,hm⟩;show (rp (qL s'.J 0 [x]) n (s'.dp n)).ap=C n;rw [z,u n h];exact D n h
def Zp (a b:Rw):Prop:=a.t=b.t/\a.k=b.k
theorem zdo {a b:Rw} (h:yi a b):¬ Zp a b:=fun e=>ZH b (KN e h)
theorem zlI {a b:Rw} (h:yi b a):¬ Zp a b:=fun e=>ZH a (KN ⟨e.1.symm,e.2.symm⟩ h)
theorem GT:∀ {l:List It} {x y:It},qe l->x∈l->y∈l->Zp x.rw y.rw->x=y
 | [],x,y,_,h,_,_=>by cases h
 | z::l,x,y,hs,hx,hy,he=>by
  obtain ⟨E,L⟩:=List.pairwise_cons.1 hs;rcases zO.1 hx with u | u<;>rcases zO.1 hy with D | D
  ·rw [u,D]
  ·subst u;exact absurd he (zdo (E y D))
  ·subst D;exact absurd he (zlI (E x u))
  ·exact GT (show qe l from L) u D he
theorem zmF {l:List It} (h:qe l) {i j:Nat} {x y:It} (L:l[i]?=some x) (O:l[j]?=some y) (R:i<j):yi x.rw y.rw:=by obtain ⟨u,z⟩:=zr.1 L;obtain ⟨D,E⟩:=zr.1 O;have:=List.pairwise_iff_getElem.1 h i j u D R;rw [z,E] at this;exact this
theorem JT {l:List It} (hs:qe l) (r:Rw):(ju l (jv l r) r=true->∃ x,l[jv l r]?=some x/\Zp x.rw r)/\(ju l (jv l r) r=false->∀ x,x∈l->¬ Zp x.rw r)/\∀ k x,l[k]?=some x->Zp x.rw r->k=jv l r:=by
 have O:=Cut.bq (r:=r) hs;have L:∀ k x,l[k]?=some x->Zp x.rw r->k=jv l r/\ju l (jv l r) r=true:=fun k x u z=>by
  have Y:¬ k<jv l r:=fun E=>zdo ((Yu _ _).1 (O.lo k x E u)) z;have Z:¬ jv l r<k:=fun E=>by obtain ⟨y,R⟩:∃ y,l[jv l r]?=some y:=⟨_,zX (by have:=(zr.1 u).1;omega)⟩;have D:=zmF hs R u E;have U:=O.hi _ y (za _) R;exact U ((Yu _ _).2 (ziy z D))
  have D:k=jv l r:=by omega
  refine ⟨D,?_⟩;unfold ju;rw [<- D,u];simpa using (KY _ _).2 z
 refine ⟨fun h=>?_,fun h x z X=>?_,fun k x u z=>(L k x u z).1⟩
 ·unfold ju at h;cases e:l[jv l r]? with
  | none=>rw [e] at h;cases h
  | some x =>rw [e] at h;exact ⟨x,rfl,(KY _ _).1 (by simpa using h)⟩
 ·obtain ⟨k,u⟩:=List.getElem?_of_mem z;rw [(L k x u X).2] at h;cases h
theorem zlR (l:List It) (m:Nat) (x y:It):y∈Zf l m x↔y=x∨y∈l:=by
 unfold Zf;rw [ja,zO];have:y∈l↔y∈l.take m∨y∈l.drop m:=by rw [<- ja,List.take_append_drop]
 rw [this];constructor
 ·rintro (h | h | h)
  ·exact .inr (.inl h)
  ·exact .inl h
  ·exact .inr (.inr h)
 ·rintro (h | h | h)
  ·exact .inr (.inl h)
  ·exact .inl h
  ·exact .inr (.inr h)
theorem zlS {l:List It} {m:Nat} {z:It} (O:l[m]?=some z) (y:It):(y∈l.take m∨y∈l.drop (m+1))↔∃ k:Nat,k≠m/\l[k]?=some y:=by
 constructor
 ·rintro (h | h)
  ·obtain ⟨k,u⟩:=List.getElem?_of_mem h;rw [List.getElem?_take] at u;split at u
   ·exact ⟨k,by omega,u⟩
   ·cases u
  ·obtain ⟨k,u⟩:=List.getElem?_of_mem h;rw [List.getElem?_drop] at u;exact ⟨m+1+k,by omega,u⟩
 ·rintro ⟨k,E,D⟩;have L:=(zr.1 D).1;by_cases e:k<m
  ·exact .inl (zC (i:=k) (by rw [List.getElem?_take,if_pos e];exact D))
  ·exact .inr (zC (i:=k-(m+1)) (by rw [List.getElem?_drop,show m+1+(k-(m+1))=k by omega];exact D))
theorem zge {l:List It} (hs:qe l) {r:Rw} {z:It} (E:l[jv l r]?=some z) (y:It) (L:Zp z.rw r):(y∈l.take (jv l r)∨y∈l.drop (jv l r+1))↔y∈l/\¬ Zp y.rw r:=by
 rw [zlS E];constructor
 ·rintro ⟨k,D,u⟩;exact ⟨zC u,fun e=>D ((JT hs r).2.2 k y u e)⟩
 ·rintro ⟨D,u⟩;obtain ⟨k,h⟩:=List.getElem?_of_mem D;refine ⟨k,fun e=>?_,h⟩;rw [e,E] at h;injection h with h;subst h;exact u L
theorem YS {l:List It} (hs:qe l) (x y:It):y∈uC l (jv l x.rw) x↔y=x∨y∈l/\¬ Zp y.rw x.rw:=by
 have u:=JT hs x.rw;unfold uC;cases e:ju l (jv l x.rw) x.rw with
 | false =>
  rw [if_neg (by simp),zlR];constructor
  ·rintro (h | h)
   ·exact .inl h
   ·exact .inr ⟨h,u.2.1 e y h⟩
  ·rintro (h | h)
   ·exact .inl h
   ·exact .inr h.1
 | true =>
  obtain ⟨z,D,E⟩:=u.1 e;rw [if_pos rfl,List.set_eq_take_append_cons_drop,if_pos (zr.1 D).1,ja,zO,<- zge hs D y E];constructor
  ·rintro (h | h | h)
   ·exact .inr (.inl h)
   ·exact .inl h
   ·exact .inr (.inr h)
  ·rintro (h | h | h)
   ·exact .inr (.inl h)
   ·exact .inl h
   ·exact .inr (.inr h)
theorem zfS {l:List It} (hs:qe l) (r:Rw) (y:It):y∈QY l (jv l r) r↔y∈l/\¬ Zp y.rw r:=by
 have u:=JT hs r;unfold QY;cases e:ju l (jv l r) r with
 | false =>rw [if_neg (by simp)];exact ⟨fun h=>⟨h,u.2.1 e y h⟩,fun h=>h.1⟩
 | true =>obtain ⟨z,D,E⟩:=u.1 e;rw [if_pos rfl,List.eraseIdx_eq_take_drop_succ,ja];exact zge hs D y E
theorem zgw {l:List It} (hs:qe l) (x:It) (h:∀ y,y∈l->¬ Zp y.rw x.rw):(uC l (jv l x.rw) x).length=l.length+1:=by
 have u:=JT hs x.rw;unfold uC;cases e:ju l (jv l x.rw) x.rw with
 | false=>rw [if_neg (by simp)];exact JI _ _ _
 | true =>obtain ⟨z,D,E⟩:=u.1 e;exact absurd E (h z (zC D))
structure Jd (its:List It) (C:Nat->List (Option Rw)):Prop where
 so:qe its
 mem:∀ x,x∈its↔x.pg<6/\x.sl<5/\(C x.pg)[x.sl]?=some (some x.rw)
theorem Jd.congr {L:List It} {C E:Nat->List (Option Rw)} (h:Jd L C) (e:∀ n,n<6->E n=C n):Jd L E :=
 ⟨h.so,fun x=>(h.mem x).trans ⟨fun ⟨u,z,D⟩=>⟨u,z,by rw [e _ u];exact D⟩,fun ⟨u,z,D⟩=>⟨u,z,by rw [<- e _ u];exact D⟩⟩⟩
theorem zaU:∀ {a b:List It},qe a->qe b->(∀ x,x∈a↔x∈b)->a=b
 | [],[],_,_,_=>rfl
 | [],y::b,_,_,h=>by have:=(h y).2 (ji ..);cases this
 | x::a,[],_,_,h=>by have:=(h x).1 (ji ..);cases this
 | x::a,y::b,ha,hb,h=>by
  obtain ⟨O,a2⟩:=List.pairwise_cons.1 ha;obtain ⟨b1,b2⟩:=List.pairwise_cons.1 hb;have R:x=y:=by
   have D:=(h x).1 (ji ..);have E:=(h y).2 (ji ..);rcases zO.1 D with e | D
   ·exact e
   ·rcases zO.1 E with e | E
    ·exact e.symm
    ·exact absurd (YE (O y E) (b1 x D)) (ZH _)
  subst R;congr 1;refine zaU a2 b2 fun z=>⟨fun u=>?_,fun u=>?_⟩
  ·rcases zO.1 ((h z).1 (jh _ u)) with rfl | L
   ·exact absurd (O z u) (ZH _)
   ·exact L
  ·rcases zO.1 ((h z).2 (jh _ u)) with rfl | L
   ·exact absurd (b1 z u) (ZH _)
   ·exact L
theorem Jd.al {L:List It} {C:Nat->List (Option Rw)} (h:Jd L C) {n i:Nat} {o:Option Rw} (Y:n<6) (X:i<5) (hl:∀ k,k<6->(C k).length=5) (ho:∀ b,o=some b->∀ x,x∈L->Zp x.rw b->x.pg=n/\x.sl=i):Jd (ug (jQ L (((C n)[i]?).getD none)) o n i) (zZ C n ((C n).set i o)):=by
 have a3:=(YQ h.so (((C n)[i]?).getD none) o n i).1;have a1:i<(C n).length:=by rw [hl n Y];exact X
 have a0:qe (jQ L (((C n)[i]?).getD none))/\∀ x,x∈jQ L (((C n)[i]?).getD none)↔x∈L/\¬ (x.pg=n/\x.sl=i):=by
  have U:(C n)[i]?=some (C n)[i]:=zX a1;rw [U];cases e:(C n)[i] with
  | none =>refine ⟨h.so,fun x=>⟨fun O=>⟨O,?_⟩,fun O=>O.1⟩⟩;rintro ⟨z,D⟩;have u:=((h.mem x).1 O).2.2;rw [z,D,U,e] at u;cases u
  | some b =>
   have hb:(⟨b,n,i⟩:It)∈L:=(h.mem _).2 ⟨Y,X,by rw [U,e]⟩;refine ⟨qe.rem h.so,fun x=>?_⟩;show x∈QY L (jv L ⟨b.t,b.k,[]⟩) ⟨b.t,b.k,[]⟩↔_;rw [zfS h.so];refine and_congr_right fun O=>not_congr ⟨fun hs=>?_,fun hs=>?_⟩
   ·have:=GT h.so O hb ⟨hs.1,hs.2⟩;rw [this];exact ⟨rfl,rfl⟩
   ·have u:=((h.mem x).1 O).2.2;rw [hs.1,hs.2,U,e] at u;injection u with u;injection u with u;rw [<- u];exact ⟨rfl,rfl⟩
 have hC:∀ x:It,x.pg<6->x.sl<5->((zZ C n ((C n).set i o)) x.pg)[x.sl]?=if x.pg=n/\x.sl=i then some o else (C x.pg)[x.sl]?:=fun x z D=>by
  by_cases e:x.pg=n
  ·rw [e,zk];by_cases Z:x.sl=i
   ·rw [Z,qw a1,if_pos ⟨rfl,rfl⟩]
   ·rw [qY (Ne.symm Z),if_neg (fun h=>Z h.2)]
  ·rw [zy _ _ e,if_neg (fun h=>e h.1)]
 refine ⟨a3,fun x=>?_⟩;cases o with
 | none =>
  show x∈jQ L _↔_;rw [a0.2 x,h.mem x];constructor
  ·rintro ⟨⟨z,D,u⟩,E⟩;exact ⟨z,D,by rw [hC x z D,if_neg E];exact u⟩
  ·rintro ⟨z,D,u⟩;rw [hC x z D] at u;split at u
   ·cases u
   ·rename_i E;exact ⟨⟨z,D,u⟩,E⟩
 | some b =>
  show x∈uC (jQ L _) (jv (jQ L _) b) ⟨b,n,i⟩↔_;have hm:=YS a0.1 ⟨b,n,i⟩ x;rw [hm,a0.2 x];constructor
  ·rintro (rfl | ⟨⟨z,D⟩,u⟩)
   ·refine ⟨Y,X,?_⟩;rw [hC _ Y X,if_pos ⟨rfl,rfl⟩]
   ·obtain ⟨E,R,h6⟩:=(h.mem x).1 z;exact ⟨E,R,by rw [hC x E R,if_neg D];exact h6⟩
  ·rintro ⟨z,D,u⟩;rw [hC x z D] at u;split at u
   ·rename_i E;injection u with u;injection u with u;refine .inl ?_;cases x;simp only at E u;rw [E.1,E.2,u]
   ·rename_i E;have R:x∈L:=(h.mem x).2 ⟨z,D,u⟩;exact .inr ⟨⟨R,E⟩,fun hs=>E (ho b rfl x R hs)⟩
theorem zml {s:zn} (h:qX s) (nb D:Nat) (x:zQ) (R:x.kind=3∨x.kind=4):qX (s.ax nb 0 D x)/\∀ n,(s.ax nb 0 D x).E n=Qc n (s.E n) (D,x):=by
 have u:=Jz h nb x.E;unfold zn.ax;split
 ·rename_i E;obtain ⟨k,f,X,O,U⟩:=Jv nb x.E h.a5 h.hand;have z:=GQ u.ok (k:=k) (slot:=x.slot) (m:=D) (o:=x.after) O U (by omega);refine ⟨z.ok,fun n=>?_⟩;unfold Qc;by_cases e:n=x.E
  ·subst e;rw [z.E,u.E,if_pos ⟨R,rfl,E.2⟩]
  ·rw [z.b9 n e,u.E,if_neg (fun h=>e h.2.1.symm)]
 ·rename_i E;refine ⟨u.ok,fun n=>?_⟩;rw [u.E];unfold Qc;rw [if_neg];rintro ⟨_,L,z⟩;subst L;exact E ⟨zT _,z⟩
theorem zpo {s:St} (h:qX s.sto) (nb u:Nat) (x:zQ):qX (s.ax nb 0 u x).sto/\∀ n,(s.ax nb 0 u x).sto.E n=Qc n (s.sto.E n) (u,x):=by
 unfold St.ax;split
 ·rename_i z;exact zml h nb u x z
 ·rename_i z;exact ⟨h,fun n=>(zcB (by omega)).symm⟩
theorem zgd {s:St} (h:qX s.sto) (nbs:Nat->Nat) (es:List (Nat × zQ)):∀ j,j<=es.length->qX (redoTo nbs 0 es j s).sto/\∀ n,(redoTo nbs 0 es j s).sto.E n=rp (es.take j) n (s.sto.E n)
 | 0,_=>⟨h,fun n=>rfl⟩
 | j+1,hj=>by obtain ⟨u,z⟩:=zgd h nbs es j (by omega);have L:es[j]?=some es[j]:=zX hj;simp only [redoTo,L];obtain ⟨D,E⟩:=zpo u (nbs j) es[j].1 es[j].2;refine ⟨D,fun n=>?_⟩;rw [E n,z n,yH hj,zmp];rfl
theorem zaG {s:St} (h:qX s.sto) (nbs:Nat->Nat):∀ k,uF s.sto (qa nbs k s).sto
 | 0=>.refl h
 | k+1=>by have u:=zaG h nbs k;exact u.trans (Jz u.ok (nbs k) k)
theorem vT:∀ (l:List (Option Rw)) (i:Nat) (p:Nat × Rw),p∈jc l i↔i<=p.1/\l[p.1-i]?=some (some p.2)
 | [],i,p=>by simp [jc]
 | none::l,i,p=>by
  simp only [jc];rw [vT l (i+1) p];constructor
  ·rintro ⟨u,h⟩;refine ⟨by omega,?_⟩;rw [show p.1-i=(p.1-(i+1))+1 by omega];exact h
  ·rintro ⟨u,h⟩;by_cases e:p.1=i
   ·rw [e,Nat.sub_self] at h;simp at h
   ·refine ⟨by omega,?_⟩;rw [show p.1-i=(p.1-(i+1))+1 by omega] at h;exact h
 | some x::l,i,p=>by
  simp only [jc,zO];rw [vT l (i+1) p];constructor
  ·rintro (rfl | ⟨u,h⟩)
   ·exact ⟨za _,by simp⟩
   ·refine ⟨by omega,?_⟩;rw [show p.1-i=(p.1-(i+1))+1 by omega];exact h
  ·rintro ⟨u,h⟩;by_cases e:p.1=i
   ·rw [e,Nat.sub_self] at h;simp only [List.getElem?_cons_zero,jd] at h;exact .inl (Prod.ext e h.symm)
   ·refine .inr ⟨by omega,?_⟩;rw [show p.1-i=(p.1-(i+1))+1 by omega] at h;exact h
theorem GN:∀ (l:List (Option Rw)) (i:Nat),(jc l i).Pairwise fun p q=>p.1<q.1
 | [],_=>.nil
 | none::l,i=>GN l (i+1)
 | some x::l,i=>List.Pairwise.cons (fun q h=>by have:=((vT l (i+1) q).1 h).1;simp only;omega) (GN l (i+1))
theorem zbh (n:Nat):∀ (L:List (Nat × Rw)) {its:List It},qe its->(∀ p,p∈L->∀ y,y∈its->¬ Zp y.rw p.2)->(L.Pairwise fun p q=>¬ Zp p.2 q.2)->qe (yl n L its)/\∀ y,y∈yl n L its↔y∈its∨∃ p,p∈L/\y=⟨p.2,n,p.1⟩
 | [],its,h,_,_=>⟨h,fun y=>⟨.inl,fun h=>h.elim id fun ⟨p,U,_⟩=>by cases U⟩⟩
 | p::L,its,h,h1,h2=>by
  obtain ⟨D,E⟩:=List.pairwise_cons.1 h2;have hs:=(zhl h p.2 n p.1).1;have hm:∀ y,y∈ug its (some p.2) n p.1↔y=⟨p.2,n,p.1⟩∨y∈its:=fun y=>by show y∈uC its (jv its p.2) ⟨p.2,n,p.1⟩↔_;rw [YS h ⟨p.2,n,p.1⟩ y];exact or_congr_right ⟨fun h=>h.1,fun z=>⟨z,h1 p (ji ..) y z⟩⟩
  obtain ⟨O,R⟩:=zbh n L hs (fun q u y z=>by
   rcases (hm y).1 z with rfl | z
   ·exact D q u
   ·exact h1 q (jh _ u) y z) E
  refine ⟨O,fun y=>?_⟩;show y∈yl n L (ug its (some p.2) n p.1)↔_;rw [R y,hm y];constructor
  ·rintro ((rfl | h) | ⟨q,u,rfl⟩)
   ·exact .inr ⟨p,ji ..,rfl⟩
   ·exact .inl h
   ·exact .inr ⟨q,jh _ u,rfl⟩
  ·rintro (h | ⟨q,u,rfl⟩)
   ·exact .inl (.inr h)
   ·rcases zO.1 u with rfl | u
    ·exact .inl (.inl rfl)
    ·exact .inr ⟨q,u,rfl⟩
structure zmR (C:Nat->List (Option Rw)):Prop where
 len:∀ n,n<6->(C n).length=5
 apart:∀ (n i n' i':Nat) (a b:Rw),n<6->n'<6->(C n)[i]?=some (some a)->(C n')[i']?=some (some b)->Zp a b->n=n'/\i=i'
theorem Jd.g7 {Z:List It} {C:Nat->List (Option Rw)} (h:Jd Z C) (u:∀ n,n<6->(C n).length=5):zmR C:=by
 refine ⟨u,fun n i O L a b D E z hb hs=>?_⟩;have X:i<5:=by have:=(zr.1 z).1;rw [u n D] at this;exact this
 have Y:L<5:=by have:=(zr.1 hb).1;rw [u O E] at this;exact this
 have:=GT h.so ((h.mem ⟨a,n,i⟩).2 ⟨D,X,z⟩) ((h.mem ⟨b,O,L⟩).2 ⟨E,Y,hb⟩) hs;injection this with h1 R U;exact ⟨R,U⟩
theorem zbM {s:St} (h:qX s.sto) (X:s.N=[]) (nbs:Nat->Nat) {C:Nat->List (Option Rw)} (hC:zeD s.sto C) (L:zmR C):∀ k,k<=6->qe (qa nbs k s).N/\∀ x,x∈(qa nbs k s).N↔x.pg<k/\x.sl<5/\(C x.pg)[x.sl]?=some (some x.rw)
 | 0,_=>by show qe s.N/\∀ x,x∈s.N↔_;rw [X];exact ⟨.nil,fun x=>⟨fun h=>(by cases h),fun h=>absurd h.1 (Nat.not_lt_zero _)⟩⟩
 | k+1,hk6=>by
  obtain ⟨Y,R⟩:=zbM h X nbs hC L k (by omega);have u:=(zaG h nbs k).E k;have a0:uc ((qa nbs k s).sto.E k)=jc (C k) 0:=by unfold uc;rw [u,hC k (by omega)]
  obtain ⟨Z,h4⟩:=zbh k (jc (C k) 0) Y (fun p u y hy hs=>by
   obtain ⟨U,E,z⟩:=(R y).1 hy;have D:=((vT _ _ p).1 u).2;have:=(L.apart _ _ _ _ _ _ (by omega) (by omega) z D hs).1;omega) ((GN (C k) 0).imp_of_mem fun {p q} u hq a1 hs=>by
   have D:=((vT _ _ p).1 u).2;have O:=((vT _ _ q).1 hq).2;have:=(L.apart _ _ _ _ _ _ (by omega) (by omega) D O hs).2;omega)
  show qe (yl k (uc ((qa nbs k s).sto.E k)) (qa nbs k s).N)/\∀ x,x∈yl k (uc ((qa nbs k s).sto.E k)) (qa nbs k s).N↔_;rw [a0];refine ⟨Z,fun x=>?_⟩;rw [h4 x,R x];constructor
  ·rintro (⟨U,E,z⟩ | ⟨p,u,rfl⟩)
   ·exact ⟨by omega,E,z⟩
   ·have D:=((vT _ _ p).1 u).2;have O:=(zr.1 D).1;rw [L.len k (by omega)] at O;exact ⟨Nat.lt_succ_self k,by simp only;omega,D⟩
  ·rintro ⟨U,E,z⟩;by_cases e:x.pg=k
   ·refine .inr ⟨(x.sl,x.rw),(vT _ _ _).2 ⟨zT _,by rw [<- e];exact z⟩,?_⟩;rw [<- e]
   ·exact .inl ⟨by omega,E,z⟩
theorem zcU {r:Nat} {rs:List zQ} {Ts:Nat->Nat} {nbs:Nat->Nat->Nat} (h:∀ i,(lsr rs i).o=false) (s:St):∀ k,yb r rs Ts nbs k s=s
 | 0=>rfl
 | k+1=>by simp only [yb];rw [zcU h s k];unfold lose;rw [h k];rfl
structure zor (s:St) (rs:List zQ) (m:Nat) (C:Nat->List (Option Rw)):Prop where
 ab:qX s.sto
 cy:zkV s.sto rs m C
 it:zeD s.sto C
 N:Jd s.N C
theorem zfR {M g K L:Nat} (h:M<g*1048576+K+1) (u:K<=14336):M<(g+1)*1048576+L+1:=qg h (by clear h;rw [Nat.add_mul];omega)
theorem zhz {r h bank:Nat} {rs:List zQ} {dp:Nat->Pg} {nb1 nb2 Ts:Nat->Nat} {nb3:Nat->Nat->Nat} {C:Nat->List (Option Rw)} (a0:vr (qL h 0 rs)=0) (a6:∀ i,(lsr rs i).o=false) (hC:∀ n,n<6->(rp (qL h 0 rs) n (dp n)).ap=C n) (hk:zmR C)
  (hm:∀ n,n<6->(dp n).mark<jj h 14336) (hl:(zq rs).length<=14336) :
  zor (yn r h bank rs dp nb1 nb2 Ts nb3).a1 [qF] 1 C/\(yn r h bank rs dp nb1 nb2 Ts nb3).a1.ts=uT/\(yn r h bank rs dp nb1 nb2 Ts nb3).a1.lk=[]/\(yn r h bank rs dp nb1 nb2 Ts nb3).a1.sto.J=h+1:=by
 have h0:qX (Zj h bank rs dp).sto:=by
  refine ⟨rfl,Nat.zero_lt_succ _,fun i j n z hj=>?_,fun i f b n p hf hp hs=>?_,za _⟩
  ·obtain ⟨f,b,p,L,D⟩:=Zq z;have:f∈jA:=zC L;simp [jA,zx.none] at this;subst this;cases D
  ·have:f∈jA:=zC hf;simp [jA,zx.none] at this;subst this;cases hp
 have a3:∀ n,(Zj h bank rs dp).sto.E n=dp n:=fun n=>vj fun i z=>by obtain ⟨f,b,p,L,D⟩:=Zq z;have:f∈jA:=zC L;simp [jA,zx.none] at this;subst this;cases D
 have hlen:=zaC h rs 0;obtain ⟨L,D⟩:=zgd h0 nb1 (qL h 0 rs) rs.length (by omega);have z:=zaN nb1 (vr (qL h 0 rs)) (qL h 0 rs) (Zj h bank rs dp) rs.length;rw [a0] at z;unfold yn;rw [zcU a6,a0];generalize redoTo nb1 0 (qL h 0 rs) rs.length (Zj h bank rs dp)=s1 at L D z;rw [<- hlen,qi] at D;have a5:zeD s1.sto C:=fun n O=>by rw [D n,a3];exact hC n O
 have U:=zaG L nb2 6;have X:=zbM L z.1 nb2 a5 hk 6 (za _);have R:=GH nb2 s1 6;generalize qa nb2 6 s1=u at U X R;have a4:u.ts=uT:=R.2.2.1.trans z.2.1;have E:=ZL U.ok u.ts;have a7:qV u.ts=[qF]:=by rw [a4];rfl
 rw [a7] at E;have hg:u.sto.J=h:=R.2.1.trans z.2.2.2.1;have hpg:∀ n,(u.sto.bb u.ts).E n=rp (qL h 0 rs) n (dp n):=fun n=>by rw [E.E,U.E,D,a3]
 have Z:zeD (u.sto.bb u.ts) C:=fun n O=>by rw [hpg];exact hC n O
 have a1:(u.sto.bb u.ts).J=h+1:=by rw [E.J,hg]
 refine ⟨⟨E.ok,zkV.dq (s:=u.sto) (by simp [qF]) E.Q E.av (fun n O=>(E.dp n O).trans (E.E n).symm) (fun n O=>?_) Z,Z,X.1,X.2⟩,a4,R.2.2.2.trans z.2.2.2.2,a1⟩;show ((u.sto.bb u.ts).E n).mark<jj (u.sto.bb u.ts).J (u.sto.bb u.ts).Q.length;rw [a1,hpg];have:=zhS (N:=jj h 14336) (qL h 0 rs) n (dp n) (hm n O) (fun e he=>by
  have Y:=zeN h rs 0 e he;rw [qy] at Y;exact qg Y (by unfold jj;exact Nat.add_le_add_right (Nat.add_le_add_left hl _) 1))
 exact zfR (K:=14336) this (za _)
end Go.Proofs.YtechnoogjhohfaaGreat
namespace Go.Proofs.YtechnoogjhohfaaGreat
open Go.RowKit Go.Lib
open YtechnoogjhohfaaGreatW Go.Proofs.Tryz Go.Proofs.YtechnoogjhohfaaGreat.Tryz
section
variable {bz:Nat->Prop}
structure DL where
 s:St
 ep:Int
 nx:Int
 hs:List (Int × Int)
structure DT where
 st:Nat
 ct:Nat
 ad:Option DL
def Tl.Z (l:Tl):DL:=⟨l.s.Z,l.ep,l.nx,l.hs⟩
def Tn.Z (t:Tn):DT:=⟨t.st,t.ct,t.ad.map Tl.Z⟩
section
variable {w w':World} {H D:Nat} {F F':Nat->Prop} {cur cur':Nat->Nat->List UInt8} {ts:Nat->Tn} {boots r:Nat} {l:Tl}
theorem zN.ga {c:Nat->T5} (h:qs bz w H D F cur c ts boots 4) (u:c=fun i=>(ts i).t5):zN bz w H D F cur ts boots:=by unfold zN;rw [<- u];exact h
theorem zjA (ts:Nat->Tn) (F:Nat->Prop) (r:Nat) (t:Tn) (h:t.t5=(ts r).t5):(fun i=>(ts i).t5)=fun i=>(vt ts F r t i).t5:=by
 funext i;by_cases e:i=r
 ·subst e;rw [jH,h]
 ·rw [vL _ _ _ e,Tn.en]
theorem zN.store (h:zN bz w H D F cur ts boots) (L:r<4) (z:(ts r).ad=some l) {u:Vb} {s':St} (hs:zm w' l.a u cur' s') (E:qv w w' (qd l.a l.b l.s) (qd l.a u s') cur cur' r) :
  zN bz w' H D u.F cur' (vt ts u.F r { ts r with ad:=some { l with b:=u,s:=s' } }) boots :=
 zN.ga (qs.store h (za _) L z hs E) (zjA _ _ _ _ (by unfold Tn.t5;rw [z]))
theorem zN.cq (h:zN bz w H D F cur ts boots) (z:r<4) (u:(ts r).ad=some l) {nx:Int} {hs:List (Int × Int)} (hd:Dk.DeskAt w' l.kb l.km l.ep nx hs) (E:zE (fun i=>i=l.kb∨i=l.km) w w') :
  zN bz w' H D F cur (vt ts F r { ts r with ad:=some { l with nx:=nx,hs:=hs } }) boots :=
 zN.ga (qs.cq h (za _) z u hd E) (zjA _ _ _ _ (by unfold Tn.t5;rw [u]))
theorem zN.below (h:zN bz w H D F cur ts boots) (hb:zd w w'):zN bz w' H D F cur ts boots:=qs.below h hb
theorem Dk.DeskAt.same {u z:Nat} {D nx:Int} {hs:List (Int × Int)} (h:Dk.DeskAt w u z D nx hs) (E:w'.heap[u]?=w.heap[u]?) (L:w'.heap[z]?=w.heap[z]?):Dk.DeskAt w' u z D nx hs:=⟨E.trans h.U,h.map.a9 L⟩
theorem zN.br (h:zN bz w H D F cur ts boots) (hb:jp w w'):zN bz w' H D F cur ts boots:=by
 have E:∀ x,F x->w'.heap[x]?=w.heap[x]?:=fun x u=>hb.block x (h.ar.lt x u) (fun e=>by
  have z:=h.ar.ah u;simp only [zO,qZ,or_false] at z;omega)
 refine ⟨(hb.block H (zi h.U) (by rw [zh h.U];decide)).trans h.U,zK.same h.ar E hb.size,h.c4,h.ee,h.cells,fun i l' R U=>?_,h.cg,h.apart,h.base.1,h.base.2.1,h.base.2.2.1,fun x u=>qg (h.base.2.2.2 x u) hb.size⟩;obtain ⟨z,L⟩:=h.ad i l' R U;have hs:∀ x,YY l' x->w'.heap[x]?=w.heap[x]?:=fun x u=>hb.block x (z.ah x u).2 (fun e=>by
  have O:=(z.ah x u).1;simp only [zO,qZ,or_false] at O;omega)
 refine ⟨⟨z.sto.same (fun x u=>?_) hb.size,z.hD,z.hr,z.hF,z.dk.same (hs _ (.inr (.inl rfl))) (hs _ (.inr (.inr rfl))),z.km⟩,L⟩;rcases zap z u with u | u
 ·exact hs x u
 ·exact E x u
end
theorem zbn {W:World} {g:Nat} {h:Int} (u:W.heap[g]?=some (.cells qJ 31 (0,0))) :
  (W.setCell ⟨g,0,none⟩ (.int .i64 h)).heap[g]?=some (.cells (zV (qo h)).toArray 31 (0,0)):=by
 rw [zB _ _ 0 _ _ _ u];rfl
theorem jp.setCell {W:World} {g o:Nat} {C:Array Value} (h:W.heap[g]?=some (.cells C 31 (0,0))) (v:Value):jp W (W.setCell ⟨g,o,none⟩ v) :=
 ⟨rfl,rfl,rfl,by simp,fun x _ u=>zt _ _ _ _ (fun e=>u (by subst e;exact zh h))⟩
theorem zv.setCell {A B:World} (h:zv bz A B) {g o:Nat} (L:A.heap.size<=g) (v:Value):zv bz A (B.setCell ⟨g,o,none⟩ v) :=
 ⟨fun x t c E u=>(zt _ _ _ _ (fun e=>by have:=zi u;simp only at e;omega)).trans (h.t x t c E u),h.os,h.tape,h.output,by have:=h.size;simp;omega,fun x z D=>(zt _ _ _ _ (by simp only;omega)).trans (h.old x z D)⟩
theorem zN.drew {w:World} {H D:Nat} {F:Nat->Prop} {cur:Nat->Nat->List UInt8} {ts:Nat->Tn} {boots:Nat} (h:zN bz w H D F cur ts boots):zN bz w.drew H D F cur ts boots:=h.below (zf _ _).drew
theorem zfe {W:World} {g:Nat} {C:List Value} {a b c d e f z h i j:Value} (D:W.heap[g]?=some (.cells C.toArray 37 (0,0))) (hC:C=[a,b,c,d,e,f,z,h,i,j]):W.rangeAt g 3 [d,e,f]:=by
 subst hC;intro n v u;have E:n<3:=(zr.1 u).1;rw [ze W g _ _ _ _ D,<- u];obtain rfl | rfl | rfl:n=0∨n=1∨n=2:=by omega
 all_goals rfl
end
section
variable {bz:Nat->Prop}
theorem zcn (ts:Nat->Tn) (F F':Nat->Prop) (r:Nat) (t t':Tn):vt (vt ts F r t) F' r t'=vt ts F' r t':=by
 funext i;by_cases e:i=r
 ·subst e;rw [jH,jH]
 ·rw [vL _ _ _ e,vL _ _ _ e,vL _ _ _ e];unfold Tn.cf;cases (ts i).ad<;>rfl
end
section
variable {bz:Nat->Prop}
theorem zbf {ts:qE}:∀ {k i n:Nat},jU ts k i=some n->i<=n/\n<=3/\ts[n]?=some none
 | 0,_,_,h=>by simp [jU] at h
 | k+1,i,n,h=>by
  unfold jU at h;split at h
  ·split at h
   ·rename_i u _ z;injection h with h;subst h;exact ⟨za _,u,z⟩
   ·have:=zbf h;exact ⟨by omega,this.2⟩
  ·cases h
def ud:Tx:=⟨[],[],0⟩
def St.an (s:St) (T:Nat):Nat × St:=match ZX s.ts with
 | none=>(0,s)
 | some i=>(i,{ s with ts:=s.ts.set i (some (T,ud)) })
theorem zdh {w:World} {a:Va} {b:Vb} {cur:Nat->Nat->List UInt8} {s:St} (h:zm w a b cur s) :
  zc 73 #[.pointer (some ⟨a.S,1,none⟩)] w fun e w'=>∃ T E,e=.returned (.int .i64 (s.an T).1)/\zm w' a E cur (s.an T).2/\qv w w' (qd a b s) (qd a E (s.an T).2) cur cur a.r:=by
 refine (zle a.S s.ts w h.aq.row h.aq.len).mono ?_;intro e w' hm;cases D:ZX s.ts with
 | none =>
  rw [D] at hm;obtain ⟨rfl,rfl⟩:=hm;have u:s.an 0=(0,s):=by unfold St.an;rw [D]
  exact ⟨0,b,by rw [u];rfl,by rw [u];exact h,by rw [u];exact qv.refl _ _ _ _⟩
 | some i =>
  rw [D] at hm;obtain ⟨rfl,rfl⟩:=hm;obtain ⟨L,O,_⟩:=zbf D;have u:s.an w.heap.size=(i,{ s with ts:=s.ts.set i (some (w.heap.size,ud)) }):=by unfold St.an;rw [D]
  have hb:zd w (w.alloc (.cells #[.slice none 0 0,.slice none 0 0,.int .i64 0] 208)):=B_alloc (zf _ _) _;obtain ⟨R,U⟩:=h.e1 (o:=some (w.heap.size,ud)) (G':=fun x=>x=w.heap.size) hb L O (fun x Y=>by omega) (fun c y e=>by
   injection e with e;cases e;refine ⟨⟨⟨.slice none 0 0,.slice none 0 0,zo _ _ rfl,ql _ _ _ _,ql _ _ _ _,fun k z=>(by cases z),fun k z=>(by cases z)⟩,rfl,fun k z=>by subst z;simp,fun k z=>by subst z;rw [zh (zo _ _ rfl)];decide⟩,⟨by simp [ud],by simp [ud],by simp [ud],fun c X=>by simp [ud] at X⟩⟩) (fun e=>by cases e)
  exact ⟨w.heap.size,_,by rw [u],by rw [u];exact R,by rw [u];exact U⟩
theorem St.ds (s:St) (T:Nat):(s.an T).1=(s.Z.an 0).1/\(s.an T).2.Z=(s.Z.an 0).2:=by
 have h:∀ k i,jU (ZK s.ts) k i=jU s.ts k i:=by
  intro k;induction k with
  | zero=>intro i;rfl
  | succ k ih =>
   intro i;unfold jU;rw [zdP,ih (i+1)];cases s.ts[i]? with
   | none=>rfl
   | some o=>cases o<;>rfl
 unfold St.an;rw [show ZX s.Z.ts=ZX s.ts from h 4 1];cases ZX s.ts with
 | none=>exact ⟨rfl,rfl⟩
 | some i =>refine ⟨rfl,?_⟩;unfold St.Z;simp only [JG];rfl
theorem zkF (H a9 r:Nat) (F:Nat->Prop) (cur:Nat->Nat->List UInt8) (ts:Nat->Tn) (boots:Nat) (l:Tl) (q:Rq) (w:World) (P:An->World->Prop) (h:zN bz w H a9 F cur ts boots) (z:r<4) (hl:(ts r).ad=some l)
  (g8:q.kd=4) (e0:iok q.hd) (g7:qT l.hs q.hd=true) (h1:0<=(zU l.hs q.hd).getD 0) (hP:∀ a W U,P a W->jp W U->P a U)
  (c4:0<(zU l.hs q.hd).getD 0->∀ W,zd w W->P (qo 4) W)
  (c6:∀ T,(zU l.hs q.hd).getD 0=0->(l.s.an T).1=0->∀ D W,zN bz W H a9 D.F cur (vt ts D.F r { ts r with ad:=some { l with b:=D,s:=(l.s.an T).2 } }) boots->P (qo 8) W)
  (c5:∀ T,(zU l.hs q.hd).getD 0=0->(l.s.an T).1≠0->∀ D W,zN bz W H a9 D.F cur (vt ts D.F r { ts r with ad:=some { l with b:=D,s:=(l.s.an T).2,hs:=aput l.hs q.hd (l.s.an T).1 } }) boots->P (qo 0) W) :
  zc 39 #[.pointer (some ⟨H,0,none⟩),.pointer (some ⟨H,1+r*5,none⟩),.agg (zJ q).toArray] w fun e U=>∃ a,e=.returned (.agg (zV a).toArray)/\a.Z≠10/\zv bz w U/\P a U:=by
 obtain ⟨w1,a0⟩:=ex (QD w q);have c2:zd w w1:=by rw [a0];exact yO w q
 have a4:w1.heap[w.heap.size]?=some (.cells (zJ q).toArray 37 (0,0)):=by rw [a0];exact ZI w q
 have d7:w1.heap[w.heap.size+1]?=some (.cells qJ 31 (0,0)):=by rw [a0];exact Zn w q
 have k0:=xV (Value.int .i64 q.kd) 0 a4;rw [g8] at k0;have a5:=h.below c2;obtain ⟨d3,d4,_,_,_⟩:=qs.b8 a5 (by omega) z hl;obtain ⟨Z,h2⟩:=a5.ad r l z hl;have u:=Z.dk;have d6:=Z.hr;have d1:=Dk.txn_any l.kb l.km l.ep l.nx l.hs q.hd e0 w1.drew (u.below (zf _ _).drew (DeskAt.ah u).2.2.1 (DeskAt.ah u).2.2.2);have e7:(w.alloc (.cells (zJ q).toArray 37)).alloc (.cells qJ 31)=w1:=a0.symm;obtain ⟨txn,e1⟩:=ex ((zU l.hs q.hd).getD 0);rw [<- e1] at d1 h1 c4 c6 c5;have Y:=And.intro d4 a4;have d8:=zdh Z.sto.drew;obtain ⟨g4,a1,g6,a3,HP,f0,f3,f2,g5⟩:=zi9 d1 c2 a4 d7 hP c4 c6 c5 e7;obtain ⟨b9,HT,e9,g3⟩:=zi4 a5 Z d8 d6;clear a0 e7 c2 a4 d7 hP c4 c6 c5 d1 a5 u e1 h Z h2 d8 d6;go_enter func39,ntmps39;go_upto_region 1 with fail;rw [g5.o];refine sV [6] 8 (fun w'=>zH w' H (1+r*5+1) (.pointer (some ⟨l.kb,0,none⟩))/\w'.heap[w.heap.size]?=some (.cells (zJ q).toArray 37 (0,0))) Y fun c3=>?_;refine pV 0 ?_;refine pV 1 ?_;refine pV 2 ?_;refine cV 3 (fun _ h=>h.1) ?_;refine pV 4 ?_;refine cV 5 (fun _ h=>xV (Value.int .i64 q.hd) 2 h.2) ?_;refine lC 6 g4.o ?_;rintro h5 w2 ⟨rfl,h3⟩;subst h3;refine eL ?_;refine pV 7 ?_;refine dV ?_;have h4:w1.drew.cell? ⟨H,1+r*5,none⟩=some (.pointer (some ⟨l.a.S,0,none⟩)):=d3;have h8:w1.drew.cell? ⟨w.heap.size,0,none⟩=some (.int .i64 4):=k0;clear c3 Y d4 d3 k0;by_cases e5:txn=0
 ·subst e5;go_upto_region 11 with ((with_reducible refine aV 73 e9.o ?_);rintro h6 w3 ⟨T,b3,rfl,c1,X⟩);have L:=zv.store (qs.hj b9.o z hl) HT.o.sto.drew X;have d2:=L _ _ _ (by decide) (show w1.drew.heap[_]?=_ from g6.o);have a8:=L _ _ _ (by decide) (show w1.drew.heap[_]?=_ from a3.o);have E:=b9.o.drew.store z hl c1 (by rw [g3.o] at X;exact X);obtain ⟨n,O⟩:=ex ((l.s.an T).1);rw [<- O];by_cases a7:n=0
  ·have g9:((n:Int) == 0)=true:=by simp;omega
   have e2:=f3.o T (by trivial) (by rw [<- O];exact a7) b3 w3 E;have f8:=hid e2;have R:=hid a8;have HK:=hid ((zv.below a1.o.drew).trans L);clear e2 d2 a8 L E c1 X O a7;go_wp2_with ((with_reducible refine hV 6 ?_);refine wV 0 (zV (qo 8)).toArray R.o ?_);refine jo (an:=qo 8) 6 rfl rfl rfl R.o rfl ⟨qo 8,rfl,by decide,HK.o.setRow (by omega) _,?_⟩;exact HP.o _ _ _ f8.o (jp.setRow R.o _)
  ·have g9:((n:Int) == 0)=false:=by simp;omega
   have a6:(vt ts b3.F r { ts r with ad:=some { l with b:=b3,s:=(l.s.an T).2 } } r).ad=some { l with b:=b3,s:=(l.s.an T).2 }:=by rw [jH]
   obtain ⟨_,d5,_,_,_⟩:=qs.b8 E.drew (za _) z a6;have u:=(E.drew.ad r _ z a6).1.dk;have e4:=Dk.set_hit l.kb l.km l.ep l.nx l.hs q.hd n e0 w3.drew u g7;have Y:=And.intro d5 d2;obtain ⟨g0,f4,f6,f1⟩:=zi4 e4 E a6 u;have R:=hid a8;have HK:=hid ((zv.below a1.o.drew).trans L);have f7:=hid (show (l.s.an T).1≠0 by rw [<- O];exact a7);have HN:=hid O;clear d2 a8 L E c1 X O a7 e4 u a6 d5;go_upto_region 13 with fail;refine sV [7] 8 (fun w'=>zH w' H (1+r*5+1) (.pointer (some ⟨l.kb,0,none⟩))/\w'.heap[w.heap.size]?=some (.cells (zJ q).toArray 37 (0,0))) Y fun c3=>?_;refine pV 0 ?_;refine pV 1 ?_;refine pV 2 ?_;refine cV 3 (fun _ h=>h.1) ?_;refine pV 4 ?_;refine cV 5 (fun _ h=>xV (Value.int .i64 q.hd) 2 h.2) ?_;refine pV 6 ?_;refine lC 7 g0.o ?_;rintro h7 w6 ⟨rfl,d9,e6⟩;refine eL ?_;refine dV ?_;have d0:zE (fun i=>i=l.kb∨i=l.km) w3.drew w6:=e6.mono (fun i _ e=>.inr e);have c8:=zv.cq (qs.fh b9.o z hl) f1.o d0;have c7:=f4.o.drew.cq z f6.o d9 d0;have e8:=c8 _ _ _ (by decide) (show w3.drew.heap[_]?=_ from R.o);rw [zcn,jH,HN.o] at c7;have e3:=f2.o T (by trivial) f7.o b3 w6 c7;obtain ⟨c0,f9⟩:=zi2 e8 e3;have f5:=hid (HK.o.trans (zv.ay c8));clear e8 e3 c7 c8 e6 d0 d9 Y c3;go_wp2_with ((with_reducible refine hV 6 ?_);refine wV 0 (zV (qo 0)).toArray c0.o ?_);refine jo (an:=qo 0) 6 rfl rfl rfl c0.o rfl ⟨qo 0,rfl,by decide,f5.o.setRow (by omega) _,?_⟩;exact HP.o _ _ _ f9.o (jp.setRow c0.o _)
 ·have dt:decide ((0:Int)<txn)=true:=by simp;omega
  have g2:=hid (show 0<txn by omega);clear e5;go_wp2_with ((with_reducible refine hV 6 ?_);refine wV 0 (zV (qo 4)).toArray (show w1.drew.heap[_]?=_ from a3.o) ?_);refine jo (an:=qo 4) 6 rfl rfl rfl (show w1.drew.heap[_]?=_ from a3.o) rfl ⟨qo 4,rfl,by decide,(zv.below a1.o.drew).setRow (by omega) _,?_⟩;exact HP.o _ _ _ (f0.o g2.o w1.drew a1.o.drew) (jp.setRow (show w1.drew.heap[_]?=_ from a3.o) _)
end
section
variable {bz:Nat->Prop}
theorem zkC (H a6 r:Nat) (F:Nat->Prop) (cur:Nat->Nat->List UInt8) (ts:Nat->Tn) (boots:Nat) (l:Tl) (q:Rq) (w:World) (P:An->World->Prop) (a9:zN bz w H a6 F cur ts boots) (R:r<4) (O:(ts r).ad=some l)
  (d3:q.kd=2) (hP:∀ a W h,P a W->jp W h->P a h) (e0:l.hs.length<=6) (he:0<=l.ep/\l.ep<8796093022208) (hn:0<=l.nx/\l.nx<1048575)
  (c2:l.hs.length=6->∀ W,zd w W->P (qo 8) W)
  (c1:l.hs.length≠6->∀ W,zN bz W H a6 F cur (vt ts F r { ts r with ad:=some { l with nx:=l.nx+1,hs:=aput l.hs (l.ep*1048576+(l.nx+1)) 0 } }) boots->P ⟨0,l.ep*1048576+(l.nx+1),{ data:=#[] },none,0,0,none,0,0⟩ W) :
  zc 23 #[.pointer (some ⟨H,0,none⟩),.pointer (some ⟨H,1+r*5,none⟩),.agg (zJ q).toArray] w fun e h=>∃ a,e=.returned (.agg (zV a).toArray)/\a.Z≠10/\zv bz w h/\P a h:=by
 obtain ⟨w1,z⟩:=ex (QD w q);have a0:zd w w1:=by rw [z];exact yO w q
 have a1:w1.heap[w.heap.size]?=some (.cells (zJ q).toArray 37 (0,0)):=by rw [z];exact ZI w q
 have b9:w1.heap[w.heap.size+1]?=some (.cells qJ 31 (0,0)):=by rw [z];exact Zn w q
 have k0:=xV (Value.int .i64 q.kd) 0 a1;rw [d3] at k0;have L:=a9.below a0;obtain ⟨d2,d7,d8,_,_⟩:=qs.b8 L (by omega) R O;obtain ⟨hT,d4⟩:=L.ad r l R O;have c5:(w.alloc (.cells (zJ q).toArray 37)).alloc (.cells qJ 31)=w1:=z.symm;obtain ⟨X,d6,E,HP,d1,a8,Y⟩:=zi7 a0 a1 b9 hP c5 L hT;clear z c5 a0 a1 b9 hP L a9 hT d4;obtain ⟨c7,a7⟩:=zi2 c2 c1;clear c2 c1 d2;go_enter func23,ntmps23;go_upto_region 1 with fail;rw [d1.o];by_cases u:l.hs.length=6
 ·have D:=hid (Dk.open_full l.kb l.km l.ep l.nx l.hs w1 Y.o.dk u);have U:=hid u;clear u;go_upto_region 24 with ((with_reducible refine aV 34 D.o ?_);rintro e2 w2 ⟨rfl,d5⟩;subst d5);go_wp2_with ((with_reducible refine hV 6 ?_);refine wV 0 (zV (qo 8)).toArray E.o ?_);refine jo (an:=qo 8) 6 rfl rfl rfl E.o rfl ⟨qo 8,rfl,by decide,(zv.below X.o).setRow (by omega) _,?_⟩;exact HP.o _ _ _ (c7.o U.o _ X.o) (jp.setRow E.o _)
 ·have D:=hid (Dk.open_more l.kb l.km l.ep l.nx l.hs w1 Y.o.dk (by omega) he hn);have U:=hid u;clear u;obtain ⟨hd,a3⟩:=ex (l.ep*1048576+(l.nx+1));have d9:(hd == 0)=false:=by simp;omega
  rw [<- a3] at D a7;have HD:=hid a3;clear a3;go_upto_region 25 with ((with_reducible refine aV 34 D.o ?_);rintro e2 w2 ⟨rfl,c0,a5⟩);have a4:=zv.cq (qs.fh a8.o R O) Y.o.dk a5;have c6:=a4 _ _ _ (by decide) E.o;have c3:=a8.o.cq R O c0 a5;have c4:=a7.o U.o w2 c3;obtain ⟨Z,d0⟩:=zi2 c6 c4;have c8:=hid ((zv.below X.o).trans a4);clear a4 c6 c3 c4 c0 a5;go_wp2_with ((with_reducible refine hV 6 ?_);refine wV 0 (zV ⟨0,hd,{ data:=#[] },none,0,0,none,0,0⟩).toArray Z.o ?_);refine jo (an:=⟨0,hd,{ data:=#[] },none,0,0,none,0,0⟩) 6 rfl rfl rfl Z.o rfl ⟨⟨0,hd,{ data:=#[] },none,0,0,none,0,0⟩,rfl,by simp,c8.o.setRow (by omega) _,?_⟩;exact HP.o _ _ _ d0.o (jp.setRow Z.o _)
theorem zhW (H c8 r:Nat) (F:Nat->Prop) (cur:Nat->Nat->List UInt8) (ts:Nat->Tn) (boots:Nat) (l:Tl) (q:Rq) (w:World) (P:An->World->Prop) (a8:zN bz w H c8 F cur ts boots) (hr:r<4) (hl:(ts r).ad=some l)
  (d9:q.kd=13) (hP:∀ a W u,P a W->jp W u->P a u) (d8:l.s.N.length<=900) (c6:∀ y,y∈l.s.N->y.rw.t<=255/\y.rw.k.length<=15/\y.rw.v.length<=21)
  (c1:(zF l.s.ts).length≠0->∀ W,zd w W->P (qo 4) W)
  (c2:(zF l.s.ts).length=0->∀ A c W,zd w W->W.ownsRow w.heap.size 5 1 (.slice A (Zg (l.s.N.map (·.rw))).length c) (Zg (l.s.N.map (·.rw))).length (zD (Zg (l.s.N.map (·.rw))))->P ⟨0,0,{ data:=#[] },none,0,0,A,(Zg (l.s.N.map (·.rw))).length,c⟩ W) :
  zc 23 #[.pointer (some ⟨H,0,none⟩),.pointer (some ⟨H,1+r*5,none⟩),.agg (zJ q).toArray] w fun e u=>∃ a,e=.returned (.agg (zV a).toArray)/\a.Z≠10/\zv bz w u/\P a u:=by
 obtain ⟨w1,z⟩:=ex (QD w q);have Y:zd w w1:=by rw [z];exact yO w q
 have Z:w1.heap[w.heap.size]?=some (.cells (zJ q).toArray 37 (0,0)):=by rw [z];exact ZI w q
 have a9:w1.heap[w.heap.size+1]?=some (.cells qJ 31 (0,0)):=by rw [z];exact Zn w q
 have k0:=xV (Value.int .i64 q.kd) 0 Z;rw [d9] at k0;have O:=a8.below Y;obtain ⟨e5,d5,e6,_,_⟩:=qs.b8 O (by omega) hr hl;obtain ⟨hT,e0⟩:=O.ad r l hr hl;have c7:(w.alloc (.cells (zJ q).toArray 37)).alloc (.cells qJ 31)=w1:=z.symm;obtain ⟨E,e4,h,HP,d4,e3,X⟩:=zi7 Y Z a9 hP c7 O hT;clear z c7 Y Z a9 hP O a8 hT e0;obtain ⟨a7,R,d3⟩:=zi3 c1 c2 c6;have c3:=zdt l.a.S l.s.ts w1 X.o.sto.aq.row X.o.sto.aq.len;have U:=hid c3;clear c1 c2 d5 c6 c3;go_enter func23,ntmps23;go_upto_region 1 with fail;rw [d4.o];obtain ⟨n,hn⟩:=ex ((zF l.s.ts).length);rw [<- hn] at U a7 R;clear hn;obtain ⟨pb,a4⟩:=ex (Zg (l.s.N.map (·.rw)));rw [<- a4] at R;have d2:=hid a4;clear a4;cases n with
 | zero =>have d1:=hid (zpw l.a l.b cur l.s w1 X.o.sto d8);go_upto_region 20 with ((with_reducible refine aV 31 U.o ?_);rintro e2 w2 ⟨rfl,a5⟩;subst a5);go_wp2_with (first|((with_reducible refine aV 33 d1.o ?_);rintro e7 w3 ⟨v3,rfl,c4,b9⟩;obtain ⟨A3,d6,rfl⟩:=own_slice c4;have a3:(l.s.N.map (·.rw)).length=l.s.N.length:=(by simp);have a1:=zim (l.s.N.map (·.rw)) A3 d6 _ w3 (by rw [a3];exact c4) (by omega) (by intro y hy;obtain ⟨e1,hz,rfl⟩:=List.mem_map.1 hy;exact d3.o e1 hz);rw [a3,<- d2.o] at a1;have d0:=hid a1;clear a1 a3)|((with_reducible refine aV 32 d0.o ?_);rintro e8 w4 ⟨v4,rfl,c5,d7⟩;obtain ⟨D,L,rfl⟩:=own_slice c5;have a0:=B_call b9 d7;have a6:=zg h.o a0 (zi h.o))|((with_reducible refine hV 6 ?_);refine wV 0 (zV ⟨0,0,{ data:=#[] },none,0,0,D,pb.length,L⟩).toArray a6 ?_));have c0:=B_call E.o a0;have e9:=a0.size;have f0:=E.o.size;have f1:=b9.size;refine jo (an:=⟨0,0,{ data:=#[] },none,0,0,D,pb.length,L⟩) 6 rfl rfl rfl a6 rfl ⟨⟨0,0,{ data:=#[] },none,0,0,D,pb.length,L⟩,rfl,by simp,(zv.below c0).setRow (by omega) _,?_⟩;exact HP.o _ _ _ (R.o (by trivial) D L w4 c0 (jK c5 (by omega))) (jp.setRow a6 _)
 | succ m =>
  have q1:(0:Int)<((m:Int)+1):=by omega
  go_upto_region 19 with ((with_reducible refine aV 31 U.o ?_);rintro e2 w2 ⟨rfl,a5⟩;subst a5);go_wp2_with ((with_reducible refine hV 6 ?_);refine wV 0 (zV (qo 4)).toArray h.o ?_);refine jo (an:=qo 4) 6 rfl rfl rfl h.o rfl ⟨qo 4,rfl,by decide,(zv.below E.o).setRow (by omega) _,?_⟩;exact HP.o _ _ _ (a7.o (by simp) _ E.o) (jp.setRow h.o _)
end
section
variable {bz:Nat->Prop}
def Za (ct boots:Nat):Nat:=ct*1048576 ||| boots
theorem zfG {ct boots:Nat} (h:ct<1000000) (u:boots<1000000):Za ct boots<2199023255552:=by have:ct*1048576 ||| boots<2 ^ 40:=Nat.or_lt_two_pow (by omega) (by omega);unfold Za;omega
theorem zfH (H D z ct boots:Nat) (c:Nat->T5) (w:World) (hb:w.heap[H]?=some (.cells (hC D c boots) 73 (0,0))) (Z:ct<1000000) (h2:boots<1000000) :
  zc 45 #[.pointer (some ⟨H,0,none⟩),.agg #[.int .i64 z,.int .u64 ct]] w fun e w'=>e=.returned (.int .i64 (Za ct boots))/\zd w w':=by
 obtain ⟨w1,u⟩:=ex (w.alloc (.cells #[.int .i64 z,.int .u64 ct] 68));have E:zd w w1:=by rw [u];exact B_alloc (zf _ _) _
 have O:w1.heap[w.heap.size]?=some (.cells #[.int .i64 z,.int .u64 ct] 68 (0,0)):=by rw [u];exact zo _ _ rfl
 have L:=zg hb E (zi hb);have a1:bits .or .i64 ((ct:Int)*1048576) (boots:Int)=((Za ct boots:Nat):Int):=by
  have:=Dk.i64_or_nat (ct*1048576) boots (by omega) (by omega);have X:((ct*1048576:Nat):Int)=(ct:Int)*1048576:=by omega
  rw [X] at this;exact this
 have x1:IntKind.i64.wrap (ct:Int)=ct:=by rw [zu];omega
 have x2:IntKind.i64.wrap ((ct:Int)*1048576)=(ct:Int)*1048576:=by rw [zu];omega
 have Y:=And.intro L O;obtain ⟨R,U⟩:=zi2 E u;clear E O L u hb;go_enter func45,ntmps45;go_upto_region 1 with fail;rw [<- U.o];refine sV [] 10 (fun w'=>jJ w' H (hC D c boots) 73/\jJ w' w.heap.size #[.int .i64 z,.int .u64 ct] 68) Y fun a0=>?_;refine pV 0 ?_;refine cV 1 (fun _ h=>xV (Value.int .u64 ct) 1 h.2) ?_;refine kV 2 rfl (Or.inl ⟨by rfl,fun _ h=>(by go_simp;with_reducible rfl)⟩) ?_;refine pV 3 ?_;refine pV 4 ?_;refine pV 5 ?_;refine pV 6 ?_;refine cV 7 (fun _ h=>xV _ 21 h.1 (zqe D c boots)) ?_;refine pV 8 ?_;refine pV 9 ?_;refine dV ?_;go_wp2_with fail;go_ret;exact ⟨by first | rfl | simp,R.o.drew⟩
end
end Go.Proofs.YtechnoogjhohfaaGreat
