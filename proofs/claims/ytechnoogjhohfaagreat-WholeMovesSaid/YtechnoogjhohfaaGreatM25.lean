import Derived.Test.YtechnoogjhohfaaGreatM24
import Derived.Test.YtechnoogjhohfaaGreatM8
import Derived.Test.YtechnoogjhohfaaGreatM9
import Derived.Lib.SlBytesConst
set_option maxRecDepth 100000
set_option maxHeartbeats 6400000
set_option linter.unusedVariables false
set_option linter.unusedSimpArgs false
namespace Go.Proofs.YtechnoogjhohfaaGreat
open Go.RowKit Go.Lib
open YtechnoogjhohfaaGreatW Go.Proofs.Tryz Go.Proofs.YtechnoogjhohfaaGreat.Tryz
def uL (r:Rw):List UInt8:=zP 1 r.t++zP 1 r.k.length++r.k++zP 1 r.v.length++r.v
def vW (n:Nat):List UInt8:=[84,78,77,49]++zP 2 n
def uK (l:List Rw):List UInt8:=vW l.length++l.flatMap uL
def jG (l:List Rw):List UInt8:=uK l++zP 4 (Zr (uK l))
theorem zpY (l:List Rw):(jq l).length=l.length*3:=by
 induction l with
 | nil=>rfl
 | cons e l h=>show (qZ e++jq l).length=_;rw [zl,h];simp [qZ];omega
theorem zmQ:∀ (l:List Rw) (k:Nat) (x:Rw) (j:Nat),l[k]?=some x->j<3->(jq l)[k*3+j]?=(qZ x)[j]?
 | [],k,x,j,h,_=>by simp at h
 | e::l,0,x,j,h,hj=>by simp at h;subst h;show (qZ e++jq l)[_]?=_;rw [uc (by simp [qZ];omega)];simp
 | e::l,k+1,x,j,h,hj=>by have u:=zmQ l k x j (by simpa using h) hj;show (qZ e++jq l)[_]?=_;rw [vj (by simp [qZ];omega),<- u];congr 1;simp [qZ];omega
theorem zcn {w:World} {B:Nat} {A:Option Addr} {n c:Nat} {l:List Rw} (h:w.ownsRow B 34 3 (.slice A n c) n (jq l)) {k:Nat} {x:Rw} (E:l[k]?=some x):∃ g,A=some ⟨g,0,none⟩/\g<w.heap.size/\n<=c/\w.rangeAt g (k*3) (qZ x):=by
 have hl:=(zr.1 E).1;obtain ⟨h0,h⟩:=h;rw [zpY] at h0;rcases h with ⟨_,hn⟩ | ⟨g,cap,cur,Y,_,z,R,_,h3,U⟩
 ·omega
 ·injection Y with L Z O;subst L O;refine ⟨g,rfl,zj z,R,fun j v D=>?_⟩;have X:j<3:=by have:=(zr.1 D).1;simpa [qZ] using this
  rw [ze w g _ cur 34 (0,0) z];have u:=(zmQ l k x j E X).trans D;rw [<- U,List.getElem?_take_of_lt (by omega)] at u;rw [<- Array.getElem?_toList];exact u
theorem zdI (r:Rw):(uL r).length=3+r.k.length+r.v.length:=by simp [uL,zD];omega
theorem zfx:∀ (l:List Rw),(∀ r,r∈l->r.k.length<=15/\r.v.length<=21)->(l.flatMap uL).length<=l.length*39
 | [],_=>by simp
 | r::l,h=>by have z:=zfx l (fun x u=>h x (by simp [u]));have D:=h r (by simp);have E:=zdI r;rw [qy,zl,zX];omega
theorem zmM {l:List Rw} {k:Nat} {x:Rw} (h:l[k]?=some x):(l.take (k+1)).flatMap uL=(l.take k).flatMap uL++uL x:=by obtain ⟨u,z⟩:=zr.1 h;rw [yH u,z];simp
theorem ziF (l:List Rw) (A:Option Addr) (c B:Nat) (w:World) (h:w.ownsRow B 34 3 (.slice A l.length c) l.length (jq l)) (hl:l.length<=1000) (U:∀ r,r∈l->r.t<=255/\r.k.length<=15/\r.v.length<=21) :
  zc 32 #[.slice A l.length c] w fun e w'=>∃ v',e=.returned v'/\w'.ownsRow w.heap.size 5 1 v' (jG l).length (zE (jG l))/\zd w w':=by
 obtain ⟨H,HR⟩:=zi2 h U;clear h U;have m1:IntKind.u64.wrap (l.length:Int)=l.length:=vJ _ (by omega);have kc:=fun (w:World) (C:Array Value) (n c:Nat)=>Lib.run_convert_bytes_const (P:=prog) w 29 5 C n c underlying29 underlying5;obtain ⟨w1,a3⟩:=ex (w.alloc (.cells #[.int .u8 84,.int .u8 78,.int .u8 77,.int .u8 49] 5 (4,5)));have c9:zd w w1:=by rw [a3];exact B_alloc (zf _ _) _
 have hY:zi w1 (.slice (some ⟨w.heap.size,0,none⟩) 4 4) [84,78,77,49]:=by
  have X:w1.heap[w.heap.size]?=some (.cells (zE [84,78,77,49]).toArray 5 (4,5)):=by rw [a3];exact zo _ _ rfl
  exact ⟨_,4,rfl,zJ.bi X rfl,za _,by unfold maxLen;simp⟩
 obtain ⟨f7,e6,HY⟩:=zi3 a3 c9 hY;clear a3 c9 hY;go_enter func32,ntmps32;go_upto_region 2 with (go_at_call 59;rw [<- f7.o];(with_reducible refine (uv _ [84,78,77,49] 2 l.length w1 HY.o (by omega) (by omega) (by simp)).mono ?_);rintro e2 w2 ⟨v2,rfl,d8,d0⟩);have d4:zi w2 v2 (vW l.length):=zi.aj (by simp [vW,zD]) d8;obtain ⟨R,hR⟩:∃ R:Nat->Value->World->Prop,R=fun k v wr=>zi wr v (vW l.length++(l.take k).flatMap uL)/\zd w wr:=⟨_,rfl⟩;have c7:R 0 v2 w2:=by rw [hR];exact ⟨by simpa using d4,B_call e6.o d0⟩
 obtain ⟨c5,f3⟩:=zi2 hR c7;have e1:(vW l.length).length=6:=by simp [vW,zD]
 have c2:=hid e1;clear hR c7 d4 d8 d0 e1 kc;go_upto_region 3 with fail;go_loopw [3,14] (fun v c0 wr=>∃ k:Nat,k<=l.length/\c0=.int .i64 k/\R k v wr) (fun _ c0 _=>(l.length-jL c0).toNat)
 case atStart=>exact ⟨0,zU _,rfl,f3.o⟩
 case round =>
  obtain ⟨k,hk,rfl,e3⟩:=hrel;rw [c5.o] at e3;obtain ⟨z,Y⟩:=e3;by_cases g2:k<l.length
  ·obtain ⟨x,X⟩:∃ x,l[k]?=some x:=⟨_,qa g2⟩;obtain ⟨xt,xk,xv⟩:=HR.o x (zC X);have c6:wr.ownsRow B 34 3 (.slice A l.length c) l.length (jq l):=own_same H.o fun q hq=>Y.block q (H.o.lt q hq).2;obtain ⟨g,rfl,h3,g9,e4⟩:=zcn c6 X;have d7:(vW l.length++(l.take k).flatMap uL).length<=50000:=by
    have h1:=zfx (l.take k) (fun r U=>(HR.o r (List.mem_of_mem_take U)).2);have h2:(l.take k).length<=k:=by rw [qf];omega
    rw [zl,c2.o];omega
   obtain ⟨bs,a7⟩:=ex (vW l.length++(l.take k).flatMap uL);rw [<- a7] at z d7;have q0:(0:Int)<=(k:Int):=by omega
   have q1:(k:Int)<(l.length:Int):=by omega
   have x2:IntKind.i64.wrap ((k:Int)+1)=(k:Int)+1:=by rw [zv];omega
   have m2:IntKind.u64.wrap (x.t:Int)=x.t:=vJ _ (by omega);obtain ⟨L,D⟩:=ex (wr.alloc (.cells #[.int .i64 x.t,.string (zb x.k),.string (zb x.v)] 34));have E:zd wr L:=by rw [D];exact B_alloc (zf _ _) _
   have e5:L.heap[wr.heap.size]?=some (.cells #[.int .i64 x.t,.string (zb x.k),.string (zb x.v)] 34 (0,0)):=by rw [D];exact zo _ _ rfl
   have d5:=(z.below E).drew;obtain ⟨f5,HX,e8,a4⟩:=zi4 e4 X a7 D;have e7:=hid (B_call Y E);have f1:=hid d5;have hS:=e5;clear X c6 e4 a7 D E e5 d5 z Y;go_upto_region 5 with (first|((with_reducible refine gV 17 ?_);refine mV (qZ x) f5.o ?_)|((with_reducible refine hV 5 ?_);refine nV (qZ x).toArray (by simp [qZ,Value.oneCell']) ?_));rw [show wr.alloc (.cells (qZ x).toArray 34)=L from a4.o.symm];refine sV [10] 12 (fun w'=>jK w' wr.heap.size #[.int .i64 x.t,.string (zb x.k),.string (zb x.v)] 34) hS fun O=>?_;refine pV 0 ?_;refine pV 1 ?_;refine cV 2 (fun _ h=>xV (Value.int .i64 x.t) 0 h) ?_;refine kV 3 rfl (Or.inl ⟨by rfl,fun _ h=>(by go_simp;with_reducible rfl)⟩) ?_;refine pV 5 ?_;refine cV 6 (fun _ h=>xV (Value.string (zb x.k)) 1 h) ?_;refine pV 8 ?_;refine cV 9 (fun _ h=>xV (Value.string (zb x.v)) 2 h) ?_;refine oC 4 (uv _ bs 1 x.t _ f1.o (by omega) (by omega) (by omega)) ?_;rintro g4 w4 ⟨v4,rfl,d9,a5⟩;refine eV (zg O a5 (zj O)) fun O=>?_;refine oC 7 (KH _ _ (zb x.k) _ (zi.aj ?len d9) ?le (by rw [jm];omega)) ?_
   case len=>simp [zD]
   case le=>simp [zD];omega
   rintro g5 w5 ⟨v5,rfl,e0,a6⟩;refine eV (zg O a6 (zj O)) fun O=>?_;refine lC 10 (KH _ _ (zb x.v) _ (zi.aj ?len2 e0) ?le2 (by rw [jm];omega)) ?_
   case len2=>simp [zD,jm];omega
   case le2=>simp [zD,jm];omega
   rintro g6 w6 ⟨v6,rfl,a8,d2⟩;refine eL ?_;refine pV 11 ?_;refine dV ?_;have d6:zi w6 v6 (bs++uL x):=by
    have e:bs++zP (1:Int).toNat x.t++zP 1 (zb x.k).size++(zb x.k).data.toList++zP 1 (zb x.v).size++(zb x.v).data.toList=bs++uL x:=by rw [jm,jm];simp only [uL,jf];rfl
    rw [e] at a8;refine zi.aj ?_ a8;rw [show (bs++uL x).length=bs.length+(uL x).length from zl,zdI];simp [zD,jm];omega
   have d1:zd w w6:=B_call (B_call (B_call e7.o.drew a5) a6) d2;have c8:R (k+1) v6 w6:=by rw [c5.o];show zi w6 v6 (vW l.length++(l.take (k+1)).flatMap uL)/\_;rw [zmM HX.o,<- jf,<- e8.o];exact ⟨d6,d1⟩
   have f4:=hid c8;clear d6 d1 c8 d9 e0 a8 a5 a6 d2 O hS;go_wp2_with fail;go_roundw
   case rel=>exact ⟨k+1,by omega,by simp,f4.o⟩
   case measure=>simp [jL];omega
  ·have g0:k=l.length:=by omega
   subst g0;rw [qi] at z;obtain ⟨u,a1⟩:=ex (uK l);rw [show vW l.length++l.flatMap uL=u from a1.symm] at z;have d7:u.length<=50000:=by have h1:=zfx l (fun r U=>(HR.o r U).2);rw [a1];unfold uK;rw [zl,c2.o];omega
   have f9:Zr u<4294967296:=by unfold Zr;have:=KD u 4294967295 (by omega);exact Nat.xor_lt_two_pow (n:=32) (by omega) (by omega)
   obtain ⟨Z,a0⟩:=ex (Zr u);rw [<- a0] at f9;have m3:IntKind.u64.wrap (Z:Int)=Z:=vJ _ (by omega);obtain ⟨A3,c3,g3,_⟩:=id z;subst g3;obtain ⟨L,D⟩:=ex (wr.alloc (.cells #[.slice A3 u.length c3] 29));have E:zd wr L:=by rw [D];exact B_alloc (zf _ _) _
   have d3:L.cell? ⟨wr.heap.size,0,none⟩=some (.slice A3 u.length c3):=(ze L wr.heap.size 0 _ _ _ (by rw [D];exact zo _ _ rfl)).trans rfl;have b9:=zcM wr.heap.size 0 1 (.slice A3 u.length c3) u L d3 (z.below E) (by omega);rw [<- a0] at b9;have f6:=hid b9;have f0:=hid (z.below E);have c1:=hid (B_call Y E);obtain ⟨f2,e9,a4⟩:=zi3 a1 a0 D;clear b9 z Y a1 a0 D E d3;go_wp2_with (first|(go_at_call 53;rw [<- a4.o];(with_reducible refine f6.o.mono ?_);rintro g7 w7 ⟨rfl,h4⟩;subst w7)|(go_at_call 59;(with_reducible refine (uv _ u 4 Z _ f0.o (by omega) (by omega) (by omega)).mono ?_);rintro g8 w8 ⟨v8,rfl,a9,f8⟩));go_ret;have e:u++zP (4:Int).toNat Z=jG l:=by rw [e9.o,f2.o];rfl
   rw [e] at a9;have e2:u.length+(4:Int).toNat=(jG l).length:=by rw [<- e,zl,zD]
   rw [e2] at a9;exact ⟨_,rfl,jM a9 c1.o.size,B_call c1.o f8⟩
section
variable {bz:Nat->Prop}
structure T5 where
 p:Value
 k:Value
 s:Value
 c:Value
 d:Value
def hC (D:Nat) (c:Nat->T5) (b:Nat):Array Value:=#[.pointer (some ⟨D,0,none⟩),(c 0).p,(c 0).k,(c 0).s,(c 0).c,(c 0).d,(c 1).p,(c 1).k,(c 1).s,(c 1).c,(c 1).d,(c 2).p,(c 2).k,(c 2).s,(c 2).c,(c 2).d,(c 3).p,(c 3).k,(c 3).s,(c 3).c,(c 3).d,.int .i64 b]
structure Tl where
 a:Va
 b:Vb
 s:St
 kb:Nat
 km:Nat
 ep:Int
 nx:Int
 hs:List (Int × Int)
structure Tn where
 st:Nat
 ct:Nat
 ac:Option Tl
def Tn.t5 (t:Tn):T5:=match t.ac with
 | some l=>⟨.pointer (some ⟨l.a.S,0,none⟩),.pointer (some ⟨l.kb,0,none⟩),.int .i64 t.st,.int .u64 t.ct,.bool false⟩
 | none=>⟨.pointer none,.pointer none,.int .i64 t.st,.int .u64 t.ct,.bool false⟩
structure Yk (w:World) (D:Nat) (F:Nat->Prop) (cur:Nat->Nat->List UInt8) (r:Nat) (l:Tl):Prop where
 sto:zm w l.a l.b cur l.s
 hD:l.a.D=D
 hr:l.a.r=r
 hF:l.b.F=F
 dk:Dk.DeskAt w l.kb l.km l.ep l.nx l.hs
 km:¬ qd l.a l.b l.s l.km
def Kc (l:Tl) (x:Nat):Prop:=zca l.a l.b l.s x∨x=l.kb∨x=l.km
structure qs (bz:Nat->Prop) (w:World) (H D:Nat) (F:Nat->Prop) (cur:Nat->Nat->List UInt8) (c:Nat->T5) (ts:Nat->Tn) (boots k:Nat):Prop where
 U:w.heap[H]?=some (.cells (hC D c boots) 73 (0,0))
 ar:jn w D F cur
 c3:∀ r,r<4->cur r 0=jQ (yU (ts r).st (ts r).ct)
 ea:∀ r,r<4->(ts r).st<=1/\(ts r).ct<1000000
 cells:∀ r,r<k->c r=(ts r).t5
 ac:∀ r l,r<k->(ts r).ac=some l->Yk w D F cur r l/\(ts r).st=1
 cf:∀ r,r<k->(ts r).ac=none->(ts r).st=0/\∀ q,1<=q->q<538->cur r q=zs 64
 apart:∀ r r' l l',r<k->r'<k->r≠r'->(ts r).ac=some l->(ts r').ac=some l'->∀ x,Kc l x->¬ Kc l' x
 base:¬ bz H/\(∀ x,F x->¬ bz x)/\(∀ r l,r<k->(ts r).ac=some l->∀ x,Kc l x->¬ bz x)/\∀ x,bz x->x<w.heap.size
def zN (bz:Nat->Prop) (w:World) (H D:Nat) (F:Nat->Prop) (cur:Nat->Nat->List UInt8) (ts:Nat->Tn) (boots:Nat):Prop:=qs bz w H D F cur (fun r=>(ts r).t5) ts boots 4
theorem zdv (D:Nat) (c:Nat->T5) (b:Nat):(hC D c b)[0]?=some (.pointer (some ⟨D,0,none⟩)):=rfl
theorem zqE (D:Nat) (c:Nat->T5) (b:Nat):(hC D c b)[21]?=some (.int .i64 b):=rfl
theorem Gn (D:Nat) (c:Nat->T5) (b r:Nat) (h:r<4):(hC D c b)[1+r*5]?=some (c r).p/\(hC D c b)[1+r*5+1]?=some (c r).k/\(hC D c b)[1+r*5+2]?=some (c r).s/\(hC D c b)[1+r*5+3]?=some (c r).c/\(hC D c b)[1+r*5+4]?=some (c r).d:=by
 obtain rfl | rfl | rfl | rfl:r=0∨r=1∨r=2∨r=3:=by omega
 all_goals exact ⟨rfl,rfl,rfl,rfl,rfl⟩
theorem KE (D:Nat) (c:Nat->T5) (b:Nat):(hC D c b).size=22:=rfl
theorem zhB (D:Nat) (c:Nat->T5) (b r:Nat) (h:r<4) (t:T5):((hC D c b).toList.take (1+r*5)++[t.p,t.k,t.s,t.c,t.d]++(hC D c b).toList.drop (1+r*5+5)).toArray=hC D (zV c r t) b:=by
 obtain rfl | rfl | rfl | rfl:r=0∨r=1∨r=2∨r=3:=by omega
 all_goals rfl
theorem zrQ (D:Nat) (c:Nat->T5) (b r:Nat) (h:r<4) (v:Value):(hC D c b).setIfInBounds (1+r*5) v=hC D (zV c r { c r with p:=v }) b:=by
 obtain rfl | rfl | rfl | rfl:r=0∨r=1∨r=2∨r=3:=by omega
 all_goals rfl
theorem zrP (D:Nat) (c:Nat->T5) (b r:Nat) (h:r<4) (v:Value):(hC D c b).setIfInBounds (1+r*5+1) v=hC D (zV c r { c r with k:=v }) b:=by
 obtain rfl | rfl | rfl | rfl:r=0∨r=1∨r=2∨r=3:=by omega
 all_goals rfl
theorem zpl (D:Nat) (c:Nat->T5) (b r:Nat) (h:r<4) (u v:Value):((hC D c b).toList.take (1+r*5+2)++[u,v]++(hC D c b).toList.drop (1+r*5+2+2)).toArray=hC D (zV c r { c r with s:=u,c:=v }) b:=by
 obtain rfl | rfl | rfl | rfl:r=0∨r=1∨r=2∨r=3:=by omega
 all_goals rfl
theorem znL (D:Nat) (c:Nat->T5) (b h:Nat):(hC D c b).setIfInBounds 21 (.int .i64 h)=hC D c h:=rfl
theorem DeskAt.ah {w:World} {u z:Nat} {D nx:Int} {hs:List (Int × Int)} (h:Dk.DeskAt w u z D nx hs):qO w u=139/\qO w z=100001/\u<w.heap.size/\z<w.heap.size:=by refine ⟨zh h.U,?_,zj h.U,h.map.lt⟩;obtain ⟨es,L,E,_⟩:=h.map;simp [qO,E]
section
variable {w w':World} {H D:Nat} {F F':Nat->Prop} {cur cur':Nat->Nat->List UInt8} {c:Nat->T5} {ts:Nat->Tn} {boots k r:Nat} {l:Tl}
theorem zm.c9 {a:Va} {b:Vb} {s:St} (h:zm w a b cur s) {x:Nat} (u:zca a b s x):¬ b.F x:=fun E=>by
 have D:=h.sto.ar.ah E;obtain ⟨R,U,L,O,z,X⟩:=h.ah;simp only [zO,qU,or_false] at D z;rcases u with rfl | rfl | u | u | ⟨i,u⟩ | u | u
 ·omega
 ·omega
 ·have:=L x u;omega
 ·have:=O x u;omega
 ·have:=z i x u;omega
 ·have:=h.sto.bg.a6 x u;simp at this;omega
 ·have:=h.sto.ab.a6 u;simp at this;omega
theorem zm.b7 {a:Va} {b:Vb} {s:St} (h:zm w a b cur s) (hs:∀ x,zca a b s x->w'.heap[x]?=w.heap[x]?) (z:w.heap.size<=w'.heap.size) (E:jn w' a.D F' cur') (O:∀ q,cur' a.r q=cur a.r q):zm w' a { b with F:=F' } cur' s:=by
 refine ⟨(hs _ (.inl rfl)).trans h.row,?_,own_same h.N fun x u=>hs x (.inr (.inr (.inr (.inl u)))),h.aq.same (hs _ (.inl rfl)) (fun i x u=>hs x (.inr (.inr (.inr (.inr (.inl ⟨i,u⟩)))))) z,h.lk.same (hs _ (.inr (.inl rfl))) (fun x u=>hs x (.inr (.inr (.inl u)))) z,h.cz⟩;have D:cur' a.r=cur a.r:=funext O;refine ⟨h.sto.ab.same fun x u=>hs x (.inr (.inr (.inr (.inr (.inr (.inr u)))))),h.sto.bg.same (fun x u=>hs x (.inr (.inr (.inr (.inr (.inr (.inl u))))))) z,E,?_,?_,h.sto.r4,h.sto.cl,h.sto.cx,h.sto.len,h.sto.di,h.sto.cu,h.sto.cm⟩
 ·rw [D];exact h.sto.on
 ·intro n L;rw [D];exact h.sto.e8 n L
theorem Yk.ah (h:Yk w D F cur r l):∀ x,Kc l x->qO w x∈[103,222,100001,136,208,150,3,200,204,194,5,139]/\x<w.heap.size:=by
 obtain ⟨z,E,L,O⟩:=DeskAt.ah h.dk;obtain ⟨R,U,X,Y,Z,t6⟩:=h.sto.ah;intro x u;rcases u with u | rfl | rfl
 ·refine ⟨?_,h.sto.lt (.inl u)⟩;rcases u with rfl | rfl | u | u | ⟨i,u⟩ | u | u
  ·rw [R];decide
  ·rw [U];decide
  ·rw [X x u];decide
  ·rw [Y x u];decide
  ·have:=Z i x u;simp only [zO,qU,or_false] at this ⊢;omega
  ·have:=h.sto.sto.bg.a6 x u;simp only [zO,qU,or_false] at this ⊢;omega
  ·have:=h.sto.sto.ab.a6 u;simp only [zO,qU,or_false] at this ⊢;omega
 ·rw [z];exact ⟨by decide,L⟩
 ·rw [E];exact ⟨by decide,O⟩
theorem qs.dx (h:qs bz w H D F cur c ts boots k) (E:r<k) (z:(ts r).ac=some l) {x:Nat} (u:Kc l x∨F x):x≠H:=fun e=>by
 subst e;have L:=zh h.U;rcases u with u | u
 ·have:=((h.ac r l E z).1.ah x u).1;simp only [zO,qU,or_false] at this;omega
 ·have:=h.ar.ah u;simp only [zO,qU,or_false] at this;omega
theorem Yk.c9 (h:Yk w D F cur r l) {x:Nat} (O:Kc l x):¬ F x:=fun L=>by have z:=(h.ah x O).1;have u:jn w l.a.D l.b.F cur:=h.sto.sto.ar;rw [h.hF] at u;have E:=u.ah L;simp only [zO,qU,or_false] at z E;omega
theorem zau (h:Yk w D F cur r l) {x:Nat} (u:qd l.a l.b l.s x):Kc l x∨F x:=by
 rcases u with u | u
 ·exact .inl (.inl u)
 ·rw [h.hF] at u;exact .inr u
theorem Yk.b7 (h:Yk w D F cur r l) (hs:∀ x,Kc l x->w'.heap[x]?=w.heap[x]?) (U:w.heap.size<=w'.heap.size) (E:jn w' D F' cur') (R:∀ q,cur' r q=cur r q):Yk w' D F' cur' r { l with b:={ l.b with F:=F' } }:=by
 obtain ⟨X,L,Y,Z⟩:=DeskAt.ah h.dk;refine ⟨h.sto.b7 (fun x u=>hs x (.inl u)) U (by rw [h.hD];exact E) (fun q=>by rw [h.hr];exact R q),h.hD,h.hr,rfl,⟨(hs _ (.inr (.inl rfl))).trans h.dk.U,h.dk.map.ba (hs _ (.inr (.inr rfl)))⟩,?_⟩;rintro (u | u)
 ·exact h.km (.inl u)
 ·have O:qO w' l.km=100001:=by rw [ya (hs _ (.inr (.inr rfl)))];exact L
  have z:=E.ah u;rw [O] at z;simp at z
end
end
section
variable {bz:Nat->Prop}
def Tl.ce (l:Tl) (F:Nat->Prop):Tl:={ l with b:={ l.b with F:=F } }
def Tn.ce (t:Tn) (F:Nat->Prop):Tn:={ t with ac:=t.ac.map fun l=>l.ce F }
theorem Tn.et (t:Tn) (F:Nat->Prop):(t.ce F).t5=t.t5:=by
 unfold Tn.t5 Tn.ce;cases t.ac with
 | none=>rfl
 | some l=>rfl
def vz (ts:Nat->Tn) (F:Nat->Prop) (r:Nat) (t:Tn):Nat->Tn:=zV (fun i=>(ts i).ce F) r t
theorem jI (ts:Nat->Tn) (F:Nat->Prop) (r:Nat) (t:Tn):vz ts F r t r=t:=zk _ _ _
theorem vN (ts:Nat->Tn) (F:Nat->Prop) {r i:Nat} (t:Tn) (h:i≠r):vz ts F r t i=(ts i).ce F:=zt _ _ h
section
variable {w w':World} {H D:Nat} {F F':Nat->Prop} {cur cur':Nat->Nat->List UInt8} {c:Nat->T5} {ts:Nat->Tn} {boots boots' k k' r:Nat} {l:Tl}
theorem qs.step (h:qs bz w H D F cur c ts boots k) (t:Tn) (c1:r<4) (R:∀ i,i<k'->i≠r->i<k)
  (a6:w'.heap[H]?=some (.cells (hC D (zV c r t.t5) boots') 73 (0,0))) (hD:jn w' D F' cur') (a9:cur' r 0=jQ (yU t.st t.ct)) (a7:t.st<=1/\t.ct<1000000)
  (b9:∀ l',t.ac=some l'->Yk w' D F' cur' r l'/\t.st=1) (a8:t.ac=none->t.st=0/\∀ q,1<=q->q<538->cur' r q=zs 64)
  (c0:∀ i l' x,i<k->i≠r->(ts i).ac=some l'->Kc l' x->w'.heap[x]?=w.heap[x]?) (a1:∀ i q,i≠r->cur' i q=cur i q) (hz:w.heap.size<=w'.heap.size)
  (a3:∀ l' x,t.ac=some l'->Kc l' x->(∀ i z,i<k->i≠r->(ts i).ac=some z->¬ Kc z x))
  (a4:∀ x,F' x->¬ bz x) (a5:∀ l' x,t.ac=some l'->Kc l' x->¬ bz x) :
  qs bz w' H D F' cur' (zV c r t.t5) (vz ts F' r t) boots' k':=by
 have Z:∀ i l',i≠r->(vz ts F' r t i).ac=some l'->∃ z,(ts i).ac=some z/\l'=z.ce F':=fun i l' E u=>by
  rw [vN _ _ _ E] at u;unfold Tn.ce at u;simp only at u;cases hq:(ts i).ac with
  | none=>rw [hq] at u;cases u
  | some z=>rw [hq] at u;injection u with u;exact ⟨z,rfl,u.symm⟩
 refine ⟨a6,hD,?_,?_,?_,?_,?_,?_,h.base.1,a4,?_,fun x O=>qg (h.base.2.2.2 x O) hz⟩
 ·intro i E;by_cases e:i=r
  ·subst e;rw [jI];exact a9
  ·rw [vN _ _ _ e,a1 i 0 e];exact h.c3 i E
 ·intro i E;by_cases e:i=r
  ·subst e;rw [jI];exact a7
  ·rw [vN _ _ _ e];exact h.ea i E
 ·intro i E;by_cases e:i=r
  ·subst e;rw [jI,zk]
  ·rw [vN _ _ _ e,zt _ _ e,Tn.et];exact h.cells i (R i E e)
 ·intro i l' E u;by_cases e:i=r
  ·subst e;rw [jI] at u ⊢;exact b9 l' u
  ·obtain ⟨z,X,rfl⟩:=Z i l' e u;have L:=h.ac i z (R i E e) X;refine ⟨L.1.b7 (fun x O=>c0 i z x (R i E e) e X O) hz hD (fun q=>a1 i q e),?_⟩;rw [vN _ _ _ e];exact L.2
 ·intro i E u;by_cases e:i=r
  ·subst e;rw [jI] at u ⊢;exact a8 u
  ·rw [vN _ _ _ e] at u ⊢;have h0:(ts i).ac=none:=by
    cases hq:(ts i).ac with
    | none=>rfl
    | some z=>simp [Tn.ce,hq] at u
   have L:=h.cf i (R i E e) h0;exact ⟨L.1,fun q U h4=>(a1 i q e).trans (L.2 q U h4)⟩
 ·intro i j l1 l2 E hj a0 X L x O;by_cases Y:i=r
  ·subst Y;rw [jI] at X;obtain ⟨z,U,rfl⟩:=Z j l2 (Ne.symm a0) L;exact a3 l1 x X O j z (R j hj (Ne.symm a0)) (Ne.symm a0) U
  ·obtain ⟨z,U,rfl⟩:=Z i l1 Y X;by_cases ej:j=r
   ·subst ej;rw [jI] at L;exact fun hy=>a3 l2 x L hy i z (R i E Y) Y U O
   ·obtain ⟨l4,h5,rfl⟩:=Z j l2 ej L;exact h.apart i j z l4 (R i E Y) (R j hj ej) a0 U h5 x O
 ·intro i l' E u x O;by_cases e:i=r
  ·subst e;rw [jI] at u;exact a5 l' x u O
  ·obtain ⟨z,U,rfl⟩:=Z i l' e u;exact h.base.2.2.1 i z (R i E e) U x O
theorem Zu {α:Type} (c:Nat->α) (r:Nat):zV c r (c r)=c:=by
 funext i;by_cases e:i=r
 ·subst e;exact zk _ _ _
 ·exact zt _ _ e
theorem Yk.below (h:Yk w D F cur r l) (hb:zd w w'):Yk w' D F cur r l:=by obtain ⟨E,L,u,z⟩:=DeskAt.ah h.dk;exact ⟨h.sto.below hb,h.hD,h.hr,h.hF,h.dk.below hb u z,h.km⟩
theorem qs.below (h:qs bz w H D F cur c ts boots k) (hb:zd w w'):qs bz w' H D F cur c ts boots k :=
 ⟨zg h.U hb (zj h.U),h.ar.below hb,h.c3,h.ea,h.cells,fun r l z u=>⟨(h.ac r l z u).1.below hb,(h.ac r l z u).2⟩,h.cf,h.apart,h.base.1,h.base.2.1,h.base.2.2.1,fun x E=>qg (h.base.2.2.2 x E) hb.size⟩
theorem qs.he (h:qs bz w H D F cur c ts boots k) (E:r<k) (z:(ts r).ac=some l):∀ x,qd l.a l.b l.s x->¬ bz x:=fun x u=>by
 rcases zau (h.ac r l E z).1 u with u | u
 ·exact h.base.2.2.1 r l E z x u
 ·exact h.base.2.1 x u
theorem qs.eg (h:qs bz w H D F cur c ts boots k) {x:Nat} (z:w.heap.size<=x):¬ bz x:=fun u=>by have:=h.base.2.2.2 x u;omega
theorem qs.fb (h:qs bz w H D F cur c ts boots k) (z:r<k) (u:(ts r).ac=some l):¬ bz l.kb/\¬ bz l.km:=⟨h.base.2.2.1 r l z u _ (.inr (.inl rfl)),h.base.2.2.1 r l z u _ (.inr (.inr rfl))⟩
theorem qs.store (h:qs bz w H D F cur c ts boots k) (a7:k<=4) (X:r<k) (U:(ts r).ac=some l) {Y:Vb} {s':St} (hs:zm w' l.a Y cur' s') (E:qv w w' (qd l.a l.b l.s) (qd l.a Y s') cur cur' r) :
  qs bz w' H D Y.F cur' c (vz ts Y.F r { ts r with ac:=some { l with b:=Y,s:=s' } }) boots k:=by
 obtain ⟨L,a6⟩:=h.ac r l X U;obtain ⟨d1,d2,d3,d4⟩:=DeskAt.ah L.dk;have a1:∀ x,qd l.a l.b l.s x->Kc l x∨F x:=fun x u=>zau L u;have a4:({ ts r with ac:=some { l with b:=Y,s:=s' } }:Tn).t5=c r:=by rw [h.cells r X];unfold Tn.t5;rw [U]
 have a5:¬ qd l.a l.b l.s l.kb:=L.sto.b9 d1 (by decide);have h1:=qs.step (k':=k) (boots':=boots) (w':=w') (F':=Y.F) (cur':=cur') h { ts r with ac:=some { l with b:=Y,s:=s' } } (by omega) (fun i O _=>O) ?_ ?_ ?_ (h.ea r (by omega)) ?_ (fun e=>by cases e) ?_ (fun i q O=>E.out i q (.inl O)) E.ad.size ?_ (fun x u=>?_) ?_
 ·rw [a4,Zu] at h1;exact h1
 ·rw [a4,Zu];exact (E.ad.block H (zj h.U) (fun u=>h.dx X U (a1 H u) rfl)).trans h.U
 ·have:=hs.sto.ar;rw [L.hD] at this;exact this
 ·rw [E.out r 0 (.inr rfl)];exact h.c3 r (by omega)
 ·intro l' e;injection e with e;subst e;refine ⟨⟨hs,L.hD,L.hr,rfl,⟨(E.ad.block _ d3 a5).trans L.dk.U,L.dk.map.ba (E.ad.block _ d4 L.km)⟩,fun u=>E.d9 L.km d4 u⟩,a6⟩
 ·intro i l' x O a0 Z u;obtain ⟨h2,_⟩:=h.ac i l' O Z;refine E.ad.block x (h2.ah x u).2 (fun R=>?_);rcases a1 x R with R | R
  ·exact h.apart r i l l' X O (Ne.symm a0) U Z x R u
  ·exact h2.c9 u R
 ·intro l' x e u i a3 O a0 Z R;injection e with e;subst e;obtain ⟨h2,_⟩:=h.ac i a3 O Z;have a8:=(h2.ah x R).2;rcases u with u | u
  ·rcases E.new x (.inl u) with z | z
   ·rcases a1 x z with z | z
    ·exact h.apart r i l a3 X O (Ne.symm a0) U Z x z R
    ·exact h2.c9 R z
   ·omega
  ·exact h.apart r i l a3 X O (Ne.symm a0) U Z x (.inr u) R
 ·rcases E.new x (.inr u) with z | z
  ·exact h.he X U x z
  ·exact h.eg z
 ·intro l' x e u;injection e with e;subst e;rcases u with u | u
  ·rcases E.new x (.inl u) with z | z
   ·exact h.he X U x z
   ·exact h.eg z
  ·exact h.base.2.2.1 r l X U x (.inr u)
theorem qs.cv (h:qs bz w H D F cur c ts boots k) (a4:k<=4) (R:r<k) (O:(ts r).ac=some l) {nx:Int} {hs:List (Int × Int)} (hd:Dk.DeskAt w' l.kb l.km l.ep nx hs) (L:zG (fun i=>i=l.kb∨i=l.km) w w') :
  qs bz w' H D F cur c (vz ts F r { ts r with ac:=some { l with nx:=nx,hs:=hs } }) boots k:=by
 obtain ⟨z,a1⟩:=h.ac r l R O;obtain ⟨d1,d2,d3,d4⟩:=DeskAt.ah z.dk;have Z:({ ts r with ac:=some { l with nx:=nx,hs:=hs } }:Tn).t5=c r:=by rw [h.cells r R];unfold Tn.t5;rw [O]
 have a0:¬ qd l.a l.b l.s l.kb:=z.sto.b9 d1 (by decide);have hF:∀ x,F x->w'.heap[x]?=w.heap[x]?:=fun x u=>L.block x (h.ar.lt x u) (fun e=>by
  have U:=h.ar.ah u;simp only [zO,qU,or_false] at U;rcases e with rfl | rfl<;>omega)
 have U:=qs.step (k':=k) (boots':=boots) (w':=w') (F':=F) (cur':=cur) h { ts r with ac:=some { l with nx:=nx,hs:=hs } } (by omega) (fun i E _=>E) ?_ (zL.same h.ar hF L.size) (h.c3 r (by omega)) (h.ea r (by omega)) ?_ (fun e=>by cases e) ?_ (fun i q E=>rfl) L.size ?_ h.base.2.1 (fun l' x e u=>by injection e with e;subst e;exact h.base.2.2.1 r l R O x u)
 ·rw [Z,Zu] at U;exact U
 ·rw [Z,Zu];exact (L.block H (zj h.U) (fun e=>h.dx R O (x:=H) (.inl (.inr e)) rfl)).trans h.U
 ·intro l' e;injection e with e;subst e;refine ⟨⟨z.sto.same (fun x u=>L.block x (z.sto.lt u) (fun e=>?_)) L.size,z.hD,z.hr,z.hF,hd,z.km⟩,a1⟩;rcases e with rfl | rfl
  ·exact a0 u
  ·exact z.km u
 ·intro i l' x E Y X u;obtain ⟨h2,_⟩:=h.ac i l' E X;exact L.block x (h2.ah x u).2 (fun e=>h.apart r i l l' R E (Ne.symm Y) O X x (.inr e) u)
 ·intro l' x e u i a3 E Y X hy;injection e with e;subst e;exact h.apart r i l a3 R E (Ne.symm Y) O X x u hy
end
end
section
variable {bz:Nat->Prop}
structure Rq where
 kd:Int
 tn:Int
 hd:Int
 rt:Int
 rk:ByteArray
 rv:ByteArray
 tt:ByteArray
 n:Int
 mask:Int
 dA:Option Addr
 dn:Nat
 dc:Nat
def zK (q:Rq):List Value:=[.int .i64 q.kd,.int .i64 q.tn,.int .i64 q.hd,.int .i64 q.rt,.string q.rk,.string q.rv,.string q.tt,.int .i64 q.n,.int .u64 q.mask,.slice q.dA q.dn q.dc]
structure An where
 Z:Int
 hd:Int
 vl:ByteArray
 rA:Option Addr
 rn:Nat
 rc:Nat
 dA:Option Addr
 dn:Nat
 dc:Nat
def zQ (a:An):List Value:=[.int .i64 a.Z,.int .i64 a.hd,.string a.vl,.slice a.rA a.rn a.rc,.slice a.dA a.dn a.dc]
def qo (h:Int):An:=⟨h,0,{ data:=#[] },none,0,0,none,0,0⟩
theorem zaT (q:Rq):(zK q).toArray.all (·.oneCell')=true:=by simp [zK,Value.oneCell']
theorem Yl (a:An):(zQ a).toArray.all (·.oneCell')=true:=by simp [zQ,Value.oneCell']
def Gf (W h:World):Prop:=∀ (x t:Nat) (C:Array Value),t ∉ [103,222,100001,136,208,150,3,200,204,194,5,81,118,86,120,139,73]->W.heap[x]?=some (.cells C t (0,0))->h.heap[x]?=some (.cells C t (0,0))
structure zw (bz:Nat->Prop) (W W':World):Prop where
 t:Gf W W'
 os:W'.os=W.os
 tape:W'.tape=W.tape
 output:W'.output=W.output
 size:W.heap.size<=W'.heap.size
 old:∀ x,bz x->x<W.heap.size->W'.heap[x]?=W.heap[x]?
instance {bz:Nat->Prop} {W W':World}:CoeFun (zw bz W W') (fun _=>∀ (x t:Nat) (C:Array Value),t ∉ [103,222,100001,136,208,150,3,200,204,194,5,81,118,86,120,139,73]->W.heap[x]?=some (.cells C t (0,0))->W'.heap[x]?=some (.cells C t (0,0))):=⟨fun h=>h.t⟩
theorem zw.refl (W:World):zw bz W W:=⟨fun _ _ _ _ h=>h,rfl,rfl,rfl,za _,fun _ _ _=>rfl⟩
theorem zw.trans {A B C:World} (h:zw bz A B) (k:zw bz B C):zw bz A C:=⟨fun x t c D E=>k.t x t c D (h.t x t c D E),k.os.trans h.os,k.tape.trans h.tape,k.output.trans h.output,zA h.size k.size,fun x u z=>(k.old x u (qg z h.size)).trans (h.old x u z)⟩
theorem zw.below {A B:World} (h:zd A B):zw bz A B:=⟨fun x t c _ u=>zg u h (zj u),h.os,h.tape,h.output,h.size,fun x _ u=>h.block x u⟩
theorem zw.ay {A B:World} (h:zw bz A.drew B):zw bz A B:=⟨h.t,h.os,h.tape,h.output,h.size,h.old⟩
theorem Gf.store {w w':World} {a:Va} {b:Vb} {s:St} {cur cur':Nat->Nat->List UInt8} {M:Nat->Prop} {r:Nat} (h:zm w a b cur s) (z:qv w w' (qd a b s) M cur cur' r):Gf w w':=fun x t c D u =>
 z.U (h.e2 u (fun hm=>D (by simp only [zO,qU,or_false] at hm ⊢;omega))) u
theorem zw.store {w w':World} {a:Va} {b:Vb} {s:St} {cur cur':Nat->Nat->List UInt8} {M:Nat->Prop} {r:Nat} (hb:∀ x,qd a b s x->¬ bz x) (h:zm w a b cur s) (u:qv w w' (qd a b s) M cur cur' r):zw bz w w' :=
 ⟨Gf.store h u,u.ad.os,u.ad.tape,u.ad.output,u.ad.size,fun x z D=>u.ad.block x D (fun hm=>hb x hm z)⟩
theorem Gf.cv {w w':World} {z D:Nat} {E nx:Int} {hs:List (Int × Int)} (h:Dk.DeskAt w z D E nx hs) (O:zG (fun i=>i=z∨i=D) w w'):Gf w w':=fun x t c L u=>by obtain ⟨R,U,X,Y⟩:=DeskAt.ah h;refine (O.block x (zj u) (fun e=>?_)).trans u;have:=zh u;simp only [zO,qU,or_false,not_or] at L;rcases e with rfl | rfl<;>omega
theorem zw.cv {w w':World} {z D:Nat} {L nx:Int} {hs:List (Int × Int)} (hb:¬ bz z/\¬ bz D) (h:Dk.DeskAt w z D L nx hs) (u:zG (fun i=>i=z∨i=D) w w'):zw bz w w' :=
 ⟨Gf.cv h u,u.os,u.tape,u.output,u.size,fun x E O=>u.block x O (fun e=>by rcases e with rfl | rfl;exact hb.1 E;exact hb.2 E)⟩
theorem zw.ad {w w':World} {M:Nat->Prop} (hb:∀ x,M x->¬ bz x) (D:Gf w w') (h:zz M w w'):zw bz w w' :=
 ⟨D,h.os,h.tape,h.output,h.size,fun x u z=>h.block x z (fun hm=>hb x hm u)⟩
structure js (W W':World):Prop where
 os:W'.os=W.os
 tape:W'.tape=W.tape
 output:W'.output=W.output
 size:W.heap.size<=W'.heap.size
 block:∀ x,x<W.heap.size->qO W x≠31->W'.heap[x]?=W.heap[x]?
theorem js.below {W u:World} (h:zd W u):js W u:=⟨h.os,h.tape,h.output,h.size,fun x z _=>h.block x z⟩
theorem js.setRow {W:World} {g:Nat} {C:Array Value} (h:W.heap[g]?=some (.cells C 31 (0,0))) (u:Array Value):js W (W.setRow g u) :=
 ⟨rfl,rfl,rfl,by simp,fun x _ z=>setRow_other W g x u (fun e=>z (by rw [e];exact zh h))⟩
theorem js.trans {A B C:World} (h:js A B) (k:js B C):js A C :=
 ⟨k.os.trans h.os,k.tape.trans h.tape,k.output.trans h.output,zA h.size k.size,fun x z u=>(k.block x (qg z h.size) (by rw [ya (h.block x z u)];exact u)).trans (h.block x z u)⟩
end
section
variable {bz:Nat->Prop}
def QJ (w:World) (q:Rq):World:=(w.alloc (.cells (zK q).toArray 37)).alloc (.cells qI 31)
theorem yP (w:World) (q:Rq):zd w (QJ w q):=B_alloc (B_alloc (zf _ _) _) _
theorem ZO (w:World) (q:Rq):(QJ w q).heap[w.heap.size]?=some (.cells (zK q).toArray 37 (0,0)):=zx (zo _ _ rfl) _
theorem Zs (w:World) (q:Rq):(QJ w q).heap[w.heap.size+1]?=some (.cells qI 31 (0,0)):=zo _ _ (by simp)
theorem qs.b6 {w:World} {H D:Nat} {F:Nat->Prop} {cur:Nat->Nat->List UInt8} {c:Nat->T5} {ts:Nat->Tn} {boots k r:Nat} {l:Tl} (h:qs bz w H D F cur c ts boots k) (R:k<=4) (E:r<k) (z:(ts r).ac=some l) :
  w.cell? ⟨H,1+r*5,none⟩=some (.pointer (some ⟨l.a.S,0,none⟩))/\w.cell? ⟨H,1+r*5+1,none⟩=some (.pointer (some ⟨l.kb,0,none⟩))/\w.cell? ⟨H,1+r*5+2,none⟩=some (.int .i64 1)/\w.cell? ⟨H,1+r*5+3,none⟩=some (.int .u64 (ts r).ct)/\w.cell? ⟨H,1+r*5+4,none⟩=some (.bool false):=by
 have u:=Gn D c boots r (by omega);have O:=h.cells r E;have L:=(h.ac r l E z).2;have e:c r=⟨.pointer (some ⟨l.a.S,0,none⟩),.pointer (some ⟨l.kb,0,none⟩),.int .i64 1,.int .u64 (ts r).ct,.bool false⟩:=by rw [O];unfold Tn.t5;rw [z];simp only [L];rfl
 rw [e] at u;refine ⟨?_,?_,?_,?_,?_⟩
 ·rw [ze w H _ _ _ _ h.U];exact u.1
 ·rw [ze w H _ _ _ _ h.U];exact u.2.1
 ·rw [ze w H _ _ _ _ h.U];exact u.2.2.1
 ·rw [ze w H _ _ _ _ h.U];exact u.2.2.2.1
 ·rw [ze w H _ _ _ _ h.U];exact u.2.2.2.2
theorem zw.setRow {A B:World} (h:zw bz A B) {g:Nat} (L:A.heap.size<=g) (C:Array Value):zw bz A (B.setRow g C) :=
 ⟨fun x t c E u=>(setRow_other B g x C (fun e=>by have:=zj u;omega)).trans (h.t x t c E u),h.os,h.tape,h.output,by have:=h.size;simp;omega,fun x z D=>(setRow_other B g x C (by omega)).trans (h.old x z D)⟩
theorem jr {z:Func} {R:Ending->World->Prop} {a:Act} {u:World} {g:Nat} {X C:Array Value} {an:An} (p:Tmp) (h:z.results=#[.cell p 31]) (hd:a.defers=[]) (O:a.tmps.getD p undef=.pointer (some ⟨g,0,none⟩)) (L:u.heap[g]?=some (.cells C 31 (0,0))) (E:X=(zQ an).toArray)
  (D:R (.returned (.agg (zQ an).toArray)) (u.setRow g (zQ an).toArray)):bodyPost prog z R .ret a (u.setRow g X):=by
 subst E;exact zcI p 31 h hd g 31 (zQ an).toArray (0,0) _ O (setRow_heap u g _ _ 31 _ L) underlying31 rfl (by kernel_rfl) D
theorem zkX (H a7 r:Nat) (F:Nat->Prop) (cur:Nat->Nat->List UInt8) (ts:Nat->Tn) (boots:Nat) (l:Tl) (q:Rq) (w:World) (P:An->World->Prop) (h:zN bz w H a7 F cur ts boots) (hr:r<4) (Z:(ts r).ac=some l)
  (e4:3<=q.kd) (e1:q.kd<=12) (c9:iok q.hd) (hP:∀ a W u,P a W->js W u->P a u)
  (a0:qS l.hs q.hd=false->∀ W,zd w W->P (qo 2) W)
  (a1:qS l.hs q.hd=true->∀ W,zd w W->zc 39 #[.pointer (some ⟨H,0,none⟩),.pointer (some ⟨H,1+r*5,none⟩),.agg (zK q).toArray] W fun e u=>∃ a,e=.returned (.agg (zQ a).toArray)/\a.Z≠10/\zw bz W u/\P a u) :
  zc 23 #[.pointer (some ⟨H,0,none⟩),.pointer (some ⟨H,1+r*5,none⟩),.agg (zK q).toArray] w fun e u=>∃ a,e=.returned (.agg (zQ a).toArray)/\a.Z≠10/\zw bz w u/\P a u:=by
 have d3:(q.kd == 0)=false:=by simp;omega
 have d4:(q.kd == 14)=false:=by simp;omega
 have d5:(q.kd == 1)=false:=by simp;omega
 have d6:(q.kd == 13)=false:=by simp;omega
 have d7:(q.kd == 2)=false:=by simp;omega
 have d8:(q.kd == 15)=false:=by simp;omega
 have d9:(q.kd == 16)=false:=by simp;omega
 have e0:(q.kd == 17)=false:=by simp;omega
 obtain ⟨w1,D⟩:=ex (QJ w q);have R:zd w w1:=by rw [D];exact yP w q
 have L:w1.heap[w.heap.size]?=some (.cells (zK q).toArray 37 (0,0)):=by rw [D];exact ZO w q
 have a3:w1.heap[w.heap.size+1]?=some (.cells qI 31 (0,0)):=by rw [D];exact Zs w q
 have k0:=xV (Value.int .i64 q.kd) 0 L;have U:=h.below R;obtain ⟨c3,c1,c5,c6,c4⟩:=U.b6 (by omega) hr Z;have O:=(U.ac r l hr Z).1.dk;have X:=Dk.has_any l.kb l.km l.ep l.nx l.hs q.hd c9 w1.drew (O.below (zf _ _).drew (DeskAt.ah O).2.2.1 (DeskAt.ah O).2.2.2);have a5:(w.alloc (.cells (zK q).toArray 37)).alloc (.cells qI 31)=w1:=D.symm;obtain ⟨c8,a4⟩:=ex (qS l.hs q.hd);rw [<- a4] at X a0 a1;have hS:=And.intro c1 L;obtain ⟨HH,E,c0,z,HP,a8,a9,b9⟩:=zi8 X R L a3 hP a0 a1 a5;clear D a5 R L a3 hP a0 a1 X U O a4 h Z c3 c6 c4;go_enter func23,ntmps23;go_upto_region 1 with fail;rw [b9.o];go_upto_region 32 with fail;refine sV [6] 8 (fun w'=>zI w' H (1+r*5+1) (.pointer (some ⟨l.kb,0,none⟩))/\w'.heap[w.heap.size]?=some (.cells (zK q).toArray 37 (0,0))) hS fun c7=>?_;refine pV 0 ?_;refine pV 1 ?_;refine pV 2 ?_;refine cV 3 (fun _ h=>h.1) ?_;refine pV 4 ?_;refine cV 5 (fun _ h=>xV (Value.int .i64 q.hd) 2 h.2) ?_;refine lC 6 HH.o ?_;rintro e2 w2 ⟨rfl,d2⟩;subst d2;refine eL ?_;refine pV 7 ?_;refine dV ?_;have c2:Hid (w1.drew.heap[w.heap.size]?=some (.cells (zK q).toArray 37 (0,0))):=c0;clear c7 hS c1 c5;cases c8 with
 | false =>go_wp2_with ((with_reducible refine hV 6 ?_);refine wV 0 (zQ (qo 2)).toArray (show w1.drew.heap[_]?=_ from z.o) ?_);refine jr (an:=qo 2) 6 rfl rfl rfl (show w1.drew.heap[_]?=_ from z.o) rfl ⟨qo 2,rfl,by decide,(zw.below E.o.drew).setRow (by omega) _,?_⟩;exact HP.o _ _ _ (a8.o (by trivial) w1.drew E.o.drew) (js.setRow (show w1.drew.heap[_]?=_ from z.o) _)
 | true =>go_wp2_with (first|((with_reducible refine gV 123 ?_);refine rV c2.o ?_)|((with_reducible refine aV 39 (a9.o rfl w1.drew E.o.drew) ?_);rintro e3 w3 ⟨an,rfl,d0,Y,d1⟩)|(show wpList _ _ _ (⟨none,.store 31 (.tmp 6) _,_,_,_,_⟩::_) _ _;refine yM rfl 31 (.tmp 6) (.tmp 124) rfl (w.heap.size+1) 0 31 _ (zQ an).toArray (by rfl) (by rfl) (Y _ _ _ (by decide) (show w1.drew.heap[_]?=_ from z.o)) (by simp [zQ]) (by kernel_rfl) (by simp [zQ,Value.oneCell']) ?_));have a6:=Y _ _ _ (by decide) (show w1.drew.heap[_]?=_ from z.o);refine jr (an:=an) 6 rfl rfl rfl a6 rfl ⟨an,rfl,d0,((zw.below E.o.drew).trans Y).setRow (by omega) _,?_⟩;exact HP.o _ _ _ d1 (js.setRow a6 _)
end
section
variable {bz:Nat->Prop}
theorem zmS (H a7 r:Nat) (F:Nat->Prop) (cur:Nat->Nat->List UInt8) (ts:Nat->Tn) (boots:Nat) (l:Tl) (q:Rq) (w:World) (P:An->World->Prop) (h:zN bz w H a7 F cur ts boots) (hr:r<4) (hl:(ts r).ac=some l)
  (d6:5<=q.kd) (d5:q.kd<=12) (c9:iok q.hd) (hP:∀ a W u,P a W->js W u->P a u)
  (a0:(zW l.hs q.hd).getD 0=0->∀ W,zd w W->P (qo 4) W)
  (a1:(zW l.hs q.hd).getD 0≠0->∀ W,zd w W->zc 75 #[.pointer (some ⟨H,0,none⟩),.pointer (some ⟨H,1+r*5,none⟩),.agg (zK q).toArray,.int .i64 ((zW l.hs q.hd).getD 0)] W fun e u=>∃ a,e=.returned (.agg (zQ a).toArray)/\a.Z≠10/\zw bz W u/\P a u) :
  zc 39 #[.pointer (some ⟨H,0,none⟩),.pointer (some ⟨H,1+r*5,none⟩),.agg (zK q).toArray] w fun e u=>∃ a,e=.returned (.agg (zQ a).toArray)/\a.Z≠10/\zw bz w u/\P a u:=by
 have d3:(q.kd == 3)=false:=by simp;omega
 have d4:(q.kd == 4)=false:=by simp;omega
 obtain ⟨w1,D⟩:=ex (QJ w q);have U:zd w w1:=by rw [D];exact yP w q
 have L:w1.heap[w.heap.size]?=some (.cells (zK q).toArray 37 (0,0)):=by rw [D];exact ZO w q
 have a3:w1.heap[w.heap.size+1]?=some (.cells qI 31 (0,0)):=by rw [D];exact Zs w q
 have k0:=xV (Value.int .i64 q.kd) 0 L;have X:=h.below U;obtain ⟨c5,c1,c6,c7,c4⟩:=X.b6 (by omega) hr hl;have O:=(X.ac r l hr hl).1.dk;have Y:=Dk.txn_any l.kb l.km l.ep l.nx l.hs q.hd c9 w1.drew (O.below (zf _ _).drew (DeskAt.ah O).2.2.1 (DeskAt.ah O).2.2.2);have a5:(w.alloc (.cells (zK q).toArray 37)).alloc (.cells qI 31)=w1:=D.symm;obtain ⟨txn,a4⟩:=ex ((zW l.hs q.hd).getD 0);rw [<- a4] at Y a0 a1;have hS:=And.intro c1 L;obtain ⟨HH,E,c2,z,HP,a8,a9,c0⟩:=zi8 Y U L a3 hP a0 a1 a5;clear D a5 U L a3 hP a0 a1 Y X O a4 h hl c5 c7 c4;go_enter func39,ntmps39;go_upto_region 1 with fail;rw [c0.o];go_upto_region 1 with fail;refine sV [6] 8 (fun w'=>zI w' H (1+r*5+1) (.pointer (some ⟨l.kb,0,none⟩))/\w'.heap[w.heap.size]?=some (.cells (zK q).toArray 37 (0,0))) hS fun c8=>?_;refine pV 0 ?_;refine pV 1 ?_;refine pV 2 ?_;refine cV 3 (fun _ h=>h.1) ?_;refine pV 4 ?_;refine cV 5 (fun _ h=>xV (Value.int .i64 q.hd) 2 h.2) ?_;refine lC 6 HH.o ?_;rintro e2 w2 ⟨rfl,d2⟩;subst d2;refine eL ?_;refine pV 7 ?_;refine dV ?_;have c3:Hid (w1.drew.heap[w.heap.size]?=some (.cells (zK q).toArray 37 (0,0))):=c2;clear c8 hS c1 c6;by_cases R:txn=0
 ·subst R;go_wp2_with ((with_reducible refine hV 6 ?_);refine wV 0 (zQ (qo 4)).toArray (show w1.drew.heap[_]?=_ from z.o) ?_);refine jr (an:=qo 4) 6 rfl rfl rfl (show w1.drew.heap[_]?=_ from z.o) rfl ⟨qo 4,rfl,by decide,(zw.below E.o.drew).setRow (by omega) _,?_⟩;exact HP.o _ _ _ (a8.o (by trivial) w1.drew E.o.drew) (js.setRow (show w1.drew.heap[_]?=_ from z.o) _)
 ·have dt:(txn == 0)=false:=by simpa using R
  have b9:=hid R;clear R;go_wp2_with (first|((with_reducible refine gV 59 ?_);refine rV c3.o ?_)|((with_reducible refine aV 75 (a9.o b9.o w1.drew E.o.drew) ?_);rintro e3 w3 ⟨an,rfl,d0,Z,d1⟩)|(show wpList _ _ _ (⟨none,.store 31 (.tmp 6) _,_,_,_,_⟩::_) _ _;refine yM rfl 31 (.tmp 6) (.tmp 61) rfl (w.heap.size+1) 0 31 _ (zQ an).toArray (by rfl) (by rfl) (Z _ _ _ (by decide) (show w1.drew.heap[_]?=_ from z.o)) (by simp [zQ]) (by kernel_rfl) (by simp [zQ,Value.oneCell']) ?_));have a6:=Z _ _ _ (by decide) (show w1.drew.heap[_]?=_ from z.o);refine jr (an:=an) 6 rfl rfl rfl a6 rfl ⟨an,rfl,d0,((zw.below E.o.drew).trans Z).setRow (by omega) _,?_⟩;exact HP.o _ _ _ d1 (js.setRow a6 _)
end
section
variable {bz:Nat->Prop}
def zy.Z (f:zy):zy:={ f with pg:=f.pg.map fun p=>(0,p.2) }
def zn.Z (s:zn):zn:={ s with fs:=s.fs.map zy.Z }
def ZS (ts:qC):qC:=ts.map (Option.map fun p=>(0,p.2))
def St.Z (s:St):St:={ s with sto:=s.sto.Z,ts:=ZS s.ts }
theorem zy.gq (f:zy):f.Z.aw=f.aw:=by
 unfold zy.aw zy.Z;cases f.pg with
 | none=>rfl
 | some p=>rfl
theorem Ku (fs:List zy) (i:Nat):(fs.map zy.Z)[i]?=(fs[i]?).map zy.Z:=List.getElem?_map
theorem zag (fs:List zy) (n:Nat):jX (fs.map zy.Z) n=jX fs n:=Yq (fun i=>by
 rw [Ku];cases fs[i]? with
 | none=>rfl
 | some f=>exact zy.gq f) 3 0
theorem znD (fs:List zy) (n:Nat):QD (fs.map zy.Z) n=QD fs n:=by
 unfold QD;rw [zag];cases jX fs n with
 | none=>rfl
 | some k =>
  simp only [Ku];cases fs[k]? with
  | none=>rfl
  | some f=>rfl
theorem zn.df (s:zn) (n:Nat):s.Z.E n=s.E n:=by
 unfold zn.E zn.Z;simp only [zag];cases jX s.fs n with
 | none=>rfl
 | some k =>
  simp only [Option.bind_some,Ku];cases s.fs[k]? with
  | none=>rfl
  | some f =>
   simp only [ql,Option.bind_some,zy.Z];cases f.pg with
   | none=>rfl
   | some p=>rfl
theorem zhu (fs:List zy) (k:Nat) (f:zy):(fs.set k f).map zy.Z=(fs.map zy.Z).set k f.Z:=List.map_set
theorem zn.ff (s:zn) (k:Nat):(s.a0 k).Z=s.Z.a0 k:=by
 unfold zn.a0 zn.Z;simp only [Ku];cases s.fs[k]? with
 | none=>rfl
 | some f =>
  simp only [ql,zy.Z];cases u:f.pg with
  | none=>rfl
  | some p =>
   obtain ⟨b,n,p⟩:=p;simp only [ql];by_cases h:f.ae=0
   ·simp only [h,if_true]
   ·simp only [h,if_false,zhu,zy.Z,u,ql]
theorem zn.fl (s:zn) (n:Nat):(s.bc n).Z=s.Z.bc n:=by
 unfold zn.bc;rw [show s.Z.fs=s.fs.map zy.Z from rfl,zag];cases jX s.fs n with
 | none=>rfl
 | some k=>exact s.ff k
theorem zn.en (s:zn):∀ k,(s.a4 k).Z=s.Z.a4 k
 | 0=>rfl
 | k+1=>by rw [zn.b2,zn.b2,zn.fl,zn.en s k]
theorem zhs (fs:List zy):∀ k i,yi (fs.map zy.Z) k i=yi fs k i
 | 0,i=>rfl
 | k+1,i=>by
  unfold yi;rw [Ku,zhs fs k (i+1)];cases fs[i]? with
  | none=>rfl
  | some f =>simp only [ql,Option.bind_some,zy.gq]
theorem zn.d8 (s:zn) (k:Nat) (f:zy):({ s with fs:=s.fs.set k f }:zn).Z={ s.Z with fs:=s.Z.fs.set k f.Z }:=by unfold zn.Z;simp only [zhu]
theorem zn.fg:∀ (g:Nat) (s:zn),(s.Z.bd g).1=(s.bd g).1/\(s.bd g).2.Z=(s.Z.bd g).2
 | 0,s=>⟨rfl,rfl⟩
 | g+1,s=>by
  unfold zn.bd;rw [show s.Z.fs=s.fs.map zy.Z from rfl,show s.Z.hand=s.hand from rfl,Ku];cases z:s.fs[s.hand]? with
  | none=>exact ⟨rfl,rfl⟩
  | some f =>
   simp only [ql];rw [show f.Z.a2=f.a2 from rfl];by_cases h:f.a2=true
   ·simp only [h,if_true];have u:=zn.fg g { s with fs:=s.fs.set s.hand { f with a2:=false },hand:=(s.hand+1) % 3 };have e:({ s with fs:=s.fs.set s.hand { f with a2:=false },hand:=(s.hand+1) % 3 }:zn).Z={ s.Z with fs:=(s.fs.map zy.Z).set s.hand { f.Z with a2:=false },hand:=(s.hand+1) % 3 }:=by unfold zn.Z;simp only [zhu];rfl
    rw [e] at u;exact u
   ·simp only [h,if_false];simp only [Bool.false_eq_true,if_false];refine ⟨by trivial,?_⟩;have e:=zn.ff { s with hand:=(s.hand+1) % 3 } s.hand;rw [zn.d8,e];rfl
theorem zn.fz (s:zn):s.Z.room.1=s.room.1/\s.room.2.Z=s.Z.room.2:=by
 unfold zn.room;rw [show s.Z.fs=s.fs.map zy.Z from rfl,zhs];cases yi s.fs 3 0 with
 | none=>exact zn.fg 4 s
 | some k=>exact ⟨rfl,rfl⟩
theorem zn.g8 (s:zn) (k b n:Nat) (p:Pg):(s.ci k b n p).Z=s.Z.ci k 0 n p:=by
 unfold zn.ci;rw [show s.Z.fs=s.fs.map zy.Z from rfl,Ku];cases s.fs[k]? with
 | none=>rfl
 | some f=>simp only [ql];rw [zn.d8];rfl
theorem zn.dy (s:zn) (b n:Nat) (p:Pg):(s.put b n p).Z=s.Z.put 0 n p:=by unfold zn.put;rw [zn.g8,(zn.fz s).1,(zn.fz s).2]
theorem zn.de (s:zn) (b n:Nat):(s.get b n).Z=s.Z.get 0 n:=by
 unfold zn.get;rw [show s.Z.fs=s.fs.map zy.Z from rfl,zag];cases jX s.fs n with
 | none=>exact zn.dy s b n (s.dp n)
 | some k =>
  simp only [Ku];cases s.fs[k]? with
  | none=>rfl
  | some f=>simp only [ql];rw [zn.d8];rfl
theorem zn.e9 (s:zn) (n slot:Nat) (o:Option Rw) (m:Nat):(s.setRow n slot o m).Z=s.Z.setRow n slot o m:=by
 unfold zn.setRow;rw [show s.Z.fs=s.fs.map zy.Z from rfl,zag];cases jX s.fs n with
 | none=>rfl
 | some k =>
  simp only [Ku];cases s.fs[k]? with
  | none=>rfl
  | some f =>
   simp only [ql];rw [show f.Z.pg=f.pg.map fun p=>(0,p.2) from rfl];cases f.pg with
   | none=>rfl
   | some p=>obtain ⟨b,h,p⟩:=p;simp only [ql];rw [zn.d8];rfl
theorem zn.gj (s:zn) (x:zS):(s.au x).Z=s.Z.au x:=rfl
theorem zlB (r kind txn n slot:Nat) (s:zn) (p:Pg) (o:Option Rw):yl r kind txn n slot s.Z p o=yl r kind txn n slot s p o:=by unfold yl;rw [show s.Z.fs=s.fs.map zy.Z from rfl,znD]
theorem zn.dg (s:zn) (r nb kind txn n slot:Nat) (o:Option Rw):(s.al r nb kind txn n slot o).Z=s.Z.al r 0 kind txn n slot o:=by unfold zn.al;rw [zn.e9,zn.gj,<- zlB,zn.de,zn.df];rfl
theorem zn.e3 (s:zn) (nb fr h:Nat) (x:zS):(s.ax nb fr h x).Z=s.Z.ax 0 fr h x:=by
 unfold zn.ax;rw [zn.df];split
 ·rw [zn.e9,zn.de]
 ·rw [zn.de]
theorem zed (ts:qC) (i:Nat):(ZS ts)[i]?=(ts[i]?).map (Option.map fun p=>(0,p.2)):=List.getElem?_map
theorem JL (ts:qC) (i:Nat) (o:Option (Nat × Tx)):ZS (ts.set i o)=(ZS ts).set i (o.map fun p=>(0,p.2)):=List.map_set
def zlR (l:List (Nat × Nat × Tx)):List (Nat × Nat × Tx):=l.map fun p=>(p.1,0,p.2.2)
theorem JK:∀ (ts:qC) (i:Nat),jc (ZS ts) i=zlR (jc ts i)
 | [],_=>rfl
 | none::l,i=>by show jc (none::ZS l) i=_;simp only [jc];exact JK l (i+1)
 | some (b,x)::l,i=>by show jc (some (0,x)::ZS l) i=_;simp only [jc];rw [JK l (i+1)];rfl
theorem zpi (ts:qC) (pg:Nat):yC (zF (ZS ts)) pg=yC (zF ts) pg:=by unfold zF;rw [JK];unfold yC zlR;rw [List.flatMap_map]
theorem znC (ts:qC):jW (zF (ZS ts))=jW (zF ts):=by unfold zF;rw [JK];unfold jW zlR;rw [List.map_map];rfl
theorem ziH (ts:qC):qV (ZS ts)=qV ts:=by unfold qV zF;rw [JK];unfold vq zlR;rw [List.flatMap_map]
theorem zn.hq (s:zn) (ts:qC):(s.bb ts).Z=s.Z.bb (ZS ts):=by unfold zn.bb;rw [ziH];have e:=zn.en s 6;unfold zn.Z at e ⊢;simp only at e ⊢;rw [<- e]
theorem St.d2 (s:St):s.a1.Z=s.Z.a1:=by unfold St.a1 St.Z;simp only [zn.hq]
theorem St.dh (s:St):s.ready.Z=s.Z.ready:=by
 unfold St.ready;have h:uD s.Z.ts=uD s.ts:=by show uD (ZS s.ts)=_;unfold uD;rw [znC]
 rw [h,show s.Z.sto.Q=s.sto.Q from rfl];split
 ·rfl
 ·exact St.d2 s
theorem zoq (ts:qC) (txn:Nat) (c:Chg):ZS (Ju ts txn c)=Ju (ZS ts) txn c:=by
 unfold Ju;rw [zed];cases ts[txn]? with
 | none=>rfl
 | some o =>
  cases o with
  | none=>rfl
  | some p=>obtain ⟨T,x⟩:=p;simp only [ql];rw [JL];rfl
theorem St.dg (s:St) (r nb kind txn n slot:Nat) (o:Option Rw):(s.al r nb kind txn n slot o).Z=s.Z.al r 0 kind txn n slot o:=by
 unfold St.al;have h:(s.Z.sto.E n)=s.sto.E n:=zn.df s.sto n;rw [h];unfold St.Z;simp only [zn.dg];split
 ·rw [zoq]
 ·rfl
theorem zbK (ts:qC) (nbs:Nat->Nat):∀ (g k:Nat) (s:zn),((zZ ts nbs g k s).1.Z,(zZ ts nbs g k s).2)=zZ (ZS ts) (fun _=>0) g k s.Z
 | 0,_,_=>rfl
 | g+1,k,s=>by
  unfold zZ;rw [zn.df,zpi];cases QG (s.E k) (yC (zF ts) k) with
  | some i=>simp only [zn.de]
  | none =>simp only;rw [<- zn.de s (nbs k) k];exact zbK ts nbs g (k+1) (s.get (nbs k) k)
theorem St.dy (s:St) (r:Nat) (nbs:Nat->Nat) (nb txn ops:Nat) (rw:Rw):(s.put r nbs nb txn ops rw).1=(s.Z.put r (fun _=>0) 0 txn ops rw).1/\(s.put r nbs nb txn ops rw).2.Z=(s.Z.put r (fun _=>0) 0 txn ops rw).2:=by
 have z:=zbK s.ts nbs 6 0 s.sto;have h:=congrArg Prod.fst z;have u:=congrArg Prod.snd z;simp only at h u;unfold St.put;rw [show s.Z.lk=s.lk from rfl,show s.Z.N=s.N from rfl,show s.Z.ts=ZS s.ts from rfl,show s.Z.sto=s.sto.Z from rfl,<- u,<- h];split
 ·exact ⟨rfl,rfl⟩
 ·split
  ·exact ⟨rfl,rfl⟩
  ·cases yY s.N ⟨rw.t,rw.k,[]⟩ with
   | some x =>refine ⟨rfl,?_⟩;simp only;rw [St.dg,St.dh];rfl
   | none =>
    simp only;cases (zZ s.ts nbs 6 0 s.sto).2 with
    | none=>exact ⟨rfl,rfl⟩
    | some p =>obtain ⟨n,i⟩:=p;refine ⟨rfl,?_⟩;simp only;rw [St.dg,St.dh];rfl
theorem St.d0 (s:St) (txn:Nat) (x:Tx):(s.am txn x).Z=s.Z.am txn x:=by unfold St.am St.Z;simp only;rw [JL];split<;>rfl
end
end Go.Proofs.YtechnoogjhohfaaGreat
namespace Go.Proofs.YtechnoogjhohfaaGreat
structure qX (s:zn):Prop where
 a3:s.fs.length=3
 hand:s.hand<3
 cs:∀ i j n:Nat,(s.fs[i]?.bind zy.aw)=some n->(s.fs[j]?.bind zy.aw)=some n->i=j
 cc:∀ (i:Nat) (f:zy) b n p,s.fs[i]?=some f->f.pg=some (b,n,p)->f.ae=0->p=s.dp n
 av:s.av<=s.Q.length
theorem zmq {f:zy} {b n:Nat} {p:Pg} (h:f.pg=some (b,n,p)):f.aw=some n:=by simp [zy.aw,h]
theorem zqW {f:zy} {n:Nat} (h:f.aw=some n):∃ b p,f.pg=some (b,n,p):=by
 unfold zy.aw at h;cases e:f.pg with
 | none=>rw [e] at h;cases h
 | some x =>obtain ⟨b,m,p⟩:=x;rw [e] at h;injection h with h;subst h;exact ⟨b,p,rfl⟩
theorem Zx {fs:List zy} {i n:Nat} (h:(fs[i]?.bind zy.aw)=some n):∃ f b p,fs[i]?=some f/\f.pg=some (b,n,p):=by
 cases e:fs[i]? with
 | none=>rw [e] at h;cases h
 | some f =>rw [e] at h;obtain ⟨b,p,u⟩:=zqW h;exact ⟨f,b,p,rfl,u⟩
theorem QN {fs:List zy} {i b n:Nat} {f:zy} {p:Pg} (h:fs[i]?=some f) (u:f.pg=some (b,n,p)):(fs[i]?.bind zy.aw)=some n:=by rw [h];exact zmq u
theorem qX.find {s:zn} (h:qX s) {i n:Nat} (u:(s.fs[i]?.bind zy.aw)=some n):jX s.fs n=some i:=by obtain ⟨f,b,p,D,L⟩:=Zx u;have E:=(zr.1 D).1;refine GJ u (zU _) (by have:=h.a3;omega) (fun l _ E z=>?_);have:=h.cs l i n z u;omega
theorem qX.E {s:zn} (h:qX s) {i b n:Nat} {f:zy} {p:Pg} (u:s.fs[i]?=some f) (z:f.pg=some (b,n,p)):s.E n=p:=by unfold zn.E;rw [h.find (QN u z)];simp only [Option.bind_some,u,z]
theorem vn {s:zn} {n:Nat} (h:∀ i:Nat,¬ (s.fs[i]?.bind zy.aw)=some n):s.E n=s.dp n:=by
 unfold zn.E;cases e:jX s.fs n with
 | none=>rfl
 | some k =>obtain ⟨f,b,p,u,z⟩:=QE e;exact absurd (QN u z) (h k)
theorem Yb {s:zn} (h:qX s) (n:Nat):(∃ (i:Nat) (f:zy) (b:Nat),s.fs[i]?=some f/\f.pg=some (b,n,s.E n))∨((∀ i:Nat,¬ (s.fs[i]?.bind zy.aw)=some n)/\s.E n=s.dp n):=by
 by_cases e:∃ i:Nat,(s.fs[i]?.bind zy.aw)=some n
 ·obtain ⟨i,z⟩:=e;obtain ⟨f,b,p,D,u⟩:=Zx z;exact .inl ⟨i,f,b,D,by rw [h.E D u];exact u⟩
 ·have u:∀ i:Nat,¬ (s.fs[i]?.bind zy.aw)=some n:=fun i z=>e ⟨i,z⟩;exact .inr ⟨u,vn u⟩
structure uI (s s':zn):Prop where
 ok:qX s'
 E:∀ n,s'.E n=s.E n
 Q:s'.Q=s.Q
 J:s'.J=s.J
 bank:s'.bank=s.bank
 cw:(s'.av=s.av/\s'.dp=s.dp)∨(s'.av=s.Q.length/\∀ n,s'.dp n=s.dp n∨s'.dp n=s.E n)
theorem uI.refl {s:zn} (h:qX s):uI s s:=⟨h,fun _=>rfl,rfl,rfl,rfl,.inl ⟨rfl,rfl⟩⟩
theorem uI.trans {a b c:zn} (h:uI a b) (k:uI b c):uI a c:=by
 refine ⟨k.ok,fun n=>(k.E n).trans (h.E n),k.Q.trans h.Q,k.J.trans h.J,k.bank.trans h.bank,?_⟩;rcases h.cw with ⟨E,u⟩ | ⟨E,u⟩<;>rcases k.cw with ⟨z,D⟩ | ⟨z,D⟩
 ·exact .inl ⟨z.trans E,D.trans u⟩
 ·refine .inr ⟨by rw [z,h.Q],fun n=>?_⟩;rcases D n with e | e
  ·exact .inl (by rw [e,u])
  ·exact .inr (e.trans (h.E n))
 ·exact .inr ⟨z.trans E,fun n=>by rw [D];exact u n⟩
 ·refine .inr ⟨by rw [z,h.Q],fun n=>?_⟩;rcases D n with e | e
  ·rw [e];exact u n
  ·exact .inr (e.trans (h.E n))
theorem uQ {fs:List zy} {k i:Nat} {f' g:zy} (h:(fs.set k f')[i]?=some g):(i=k/\g=f')∨(i≠k/\fs[i]?=some g):=by
 by_cases e:i=k
 ·subst e;have u:i<fs.length:=by have:=(zr.1 h).1;simpa using this
  rw [qw u] at h;injection h with h;exact .inl ⟨rfl,h.symm⟩
 ·rw [qT (Ne.symm e)] at h;exact .inr ⟨e,h⟩
theorem zgy {s:zn} (h:qX s) {k:Nat} {f:zy} (D:s.fs[k]?=some f) (a:Bool) (hd:Nat) (U:hd<3):uI s { s with fs:=s.fs.set k { f with a2:=a },hand:=hd }:=by
 have O:∀ i:Nat,((s.fs.set k { f with a2:=a })[i]?.bind zy.aw)=(s.fs[i]?.bind zy.aw):=zaj D rfl;have hok:qX { s with fs:=s.fs.set k { f with a2:=a },hand:=hd }:=by
  refine ⟨by simp [h.a3],U,fun i j n L X=>h.cs i j n ((O i).symm.trans L) ((O j).symm.trans X),fun i g b n p E R hs=>?_,h.av⟩;rcases uQ E with ⟨rfl,rfl⟩ | ⟨_,E⟩
  ·exact h.cc i f b n p D R hs
  ·exact h.cc i g b n p E R hs
 refine ⟨hok,fun n=>?_,rfl,rfl,rfl,.inl ⟨rfl,rfl⟩⟩;rcases Yb h n with ⟨i,g,b,u,z⟩ | ⟨u,z⟩
 ·by_cases e:i=k
  ·subst e;rw [D] at u;injection u with u;subst u;exact hok.E (i:=i) (f:={ f with a2:=a }) (by simp only;rw [qw (zr.1 D).1]) z
  ·exact hok.E (i:=i) (f:=g) (by simp only;rw [qT (Ne.symm e)];exact u) z
 ·rw [z];exact vn fun i L=>u i ((O i).symm.trans L)
theorem zmZ {s:zn} (h:qX s) (hd:Nat) (u:hd<3):uI s { s with hand:=hd } :=
 ⟨⟨h.a3,u,h.cs,h.cc,h.av⟩,fun _=>rfl,rfl,rfl,rfl,.inl ⟨rfl,rfl⟩⟩
theorem zeM {s:zn} (h:qX s) (k:Nat):uI s (s.a0 k):=by
 unfold zn.a0;split
 ·exact .refl h
 ·rename_i f D;split
  ·exact .refl h
  ·rename_i b n p O;split
   ·exact .refl h
   ·have hpg:=h.E D O;have U:∀ i:Nat,((s.fs.set k { f with ae:=0 })[i]?.bind zy.aw)=(s.fs[i]?.bind zy.aw):=zaj D rfl;have Z:∀ m,zV s.dp n p m=s.dp m∨zV s.dp n p m=s.E m:=fun m=>by
     by_cases e:m=n
     ·subst e;rw [zk];exact .inr hpg.symm
     ·rw [zt _ _ e];exact .inl rfl
    have hok:qX { s with fs:=s.fs.set k { f with ae:=0 },av:=s.Q.length,dp:=zV s.dp n p }:=by
     refine ⟨by simp [h.a3],h.hand,fun i j n R hj=>h.cs i j n ((U i).symm.trans R) ((U j).symm.trans hj),fun i g Y X p' L z hs=>?_,za _⟩;rcases uQ L with ⟨rfl,rfl⟩ | ⟨a4,L⟩
     ·simp only at z;rw [O] at z;injection z with z;cases z;simp only [zk]
     ·have a0:=QN L z;have a1:=QN D O;have hn:X≠n:=fun e=>a4 (h.cs i k X a0 (by rw [e];exact a1));simp only [zt _ _ hn];exact h.cc i g Y X p' L z hs
    refine ⟨hok,fun m=>?_,rfl,rfl,rfl,.inr ⟨rfl,Z⟩⟩;rcases Yb h m with ⟨i,g,Y,u,E⟩ | ⟨u,E⟩
    ·by_cases e:i=k
     ·subst e;rw [D] at u;injection u with u;subst u;exact hok.E (i:=i) (f:={ f with ae:=0 }) (by simp only;rw [qw (zr.1 D).1]) E
     ·exact hok.E (i:=i) (f:=g) (by simp only;rw [qT (Ne.symm e)];exact u) E
    ·have a3:m≠n:=fun e=>by subst e;exact u k (QN D O)
     rw [E,vn fun i R=>u i ((U i).symm.trans R)];exact zt _ _ a3
theorem zjr {s:zn} (k:Nat) {f:zy} (h:s.fs[k]?=some f):∃ g,(s.a0 k).fs[k]?=some g/\g.pg=f.pg/\(g.ae=0∨f.pg=none):=by
 have u:=(zr.1 h).1;unfold zn.a0;simp only [h];split
 ·rename_i e;exact ⟨f,h,rfl,.inr e⟩
 ·split
  ·rename_i e;exact ⟨f,h,rfl,.inl e⟩
  ·exact ⟨{ f with ae:=0 },by simp only;rw [qw u],rfl,.inl rfl⟩
theorem zna {s:zn} (h:qX s) {k:Nat} {f:zy} (E:s.fs[k]?=some f) (U:f.ae=0∨f.pg=none):uI s { s with fs:=s.fs.set k zy.none }:=by
 have hl:=(zr.1 E).1;have L:∀ i n:Nat,((s.fs.set k zy.none)[i]?.bind zy.aw)=some n->i≠k/\(s.fs[i]?.bind zy.aw)=some n:=fun i n u=>by
  by_cases e:i=k
  ·subst e;rw [qw hl] at u;cases u
  ·rw [qT (Ne.symm e)] at u;exact ⟨e,u⟩
 have hok:qX { s with fs:=s.fs.set k zy.none }:=by
  refine ⟨by simp [h.a3],h.hand,fun i j n u R=>h.cs i j n (L i n u).2 (L j n R).2,fun i g b n p O X hs=>?_,h.av⟩;rcases uQ O with ⟨rfl,rfl⟩ | ⟨_,O⟩
  ·cases X
  ·exact h.cc i g b n p O X hs
 refine ⟨hok,fun n=>?_,rfl,rfl,rfl,.inl ⟨rfl,rfl⟩⟩;rcases Yb h n with ⟨i,g,b,z,D⟩ | ⟨z,D⟩
 ·by_cases e:i=k
  ·subst e;rw [E] at z;injection z with z;subst z;rw [D] at U;have hs:f.ae=0:=U.elim id (fun e=>by cases e);rw [vn (s:={ s with fs:=s.fs.set i zy.none }) fun j R=>?_]
   ·exact (h.cc i f b n _ E D hs).symm
   ·obtain ⟨Y,Z⟩:=L j n R;exact Y (h.cs j i n Z (QN E D))
  ·exact hok.E (i:=i) (f:=g) (by simp only;rw [qT (Ne.symm e)];exact z) D
 ·rw [D];exact vn fun i u=>z i (L i n u).2
theorem zeK:∀ (g:Nat) {s:zn},qX s->uI s (s.bd g).2
 | 0,s,h=>.refl h
 | g+1,s,h=>by
  have R:s.hand<s.fs.length:=by rw [h.a3];exact h.hand
  have z:s.fs[s.hand]?=some s.fs[s.hand]:=qa R;have hm:(s.hand+1) % 3<3:=Nat.mod_lt _ (by omega);unfold zn.bd;simp only [z];split
  ·have u:=zgy h z false _ hm;exact u.trans (zeK g u.ok)
  ·have u:=zmZ h _ hm;have D:=zeM u.ok s.hand;obtain ⟨U,E,L,O⟩:=zjr (s:={ s with hand:=(s.hand+1) % 3 }) s.hand z;exact u.trans (D.trans (zna D.ok E (O.imp id fun e=>by rw [L,e])))
theorem zcW:∀ (g:Nat) {s:zn},s.fs.length=3->s.hand<3->zbE s.fs<g->∃ f,(s.bd g).2.fs[(s.bd g).1]?=some f/\f.pg=none
 | 0,s,_,_,h=>by omega
 | g+1,s,h3,hh,h=>by
  have D:s.hand<s.fs.length:=by omega
  have u:s.fs[s.hand]?=some s.fs[s.hand]:=qa D;unfold zn.bd;simp only [u];split
  ·rename_i z;exact zcW g (by simp [h3]) (Nat.mod_lt _ (by omega)) (by have:=zhh u z;simp only;omega)
  ·refine ⟨zy.none,?_,rfl⟩;simp only;rw [qw];have:=(ui.a0 ({ s with hand:=(s.hand+1) % 3 }:zn) s.hand).len;simp only at this;omega
theorem zbH {fs:List zy}:∀ {g i k:Nat},yi fs g i=some k->(fs[k]?.bind zy.aw)=none
 | 0,i,k,h=>by simp [yi] at h
 | g+1,i,k,h=>by
  unfold yi at h;split at h
  ·rename_i e;injection h with h;subst h;exact e
  ·exact zbH h
theorem znb {s:zn} (h:qX s):uI s s.room.2/\∃ f,s.room.2.fs[s.room.1]?=some f/\f.pg=none:=by
 have u:=zn.e0 h.a3 h.hand;unfold zn.room at u ⊢;split
 ·rename_i k z;rw [z] at u;simp only at u;refine ⟨.refl h,s.fs[k]'(by rw [h.a3];exact u),qa _,?_⟩;have:=zbH z;rw [qa (by rw [h.a3];exact u)] at this;simp only [Option.bind_some] at this;cases e:(s.fs[k]'(by rw [h.a3];exact u)).pg with
  | none=>rfl
  | some x=>unfold zy.aw at this;rw [e] at this;cases this
 ·exact ⟨zeK 4 h,zcW 4 h.a3 h.hand (by have:zbE s.fs<=s.fs.length:=List.countP_le_length;have:=h.a3;omega)⟩
theorem JE {s:zn} (h:qX s) (nb n:Nat):uI s (s.get nb n):=by
 unfold zn.get;cases X:jX s.fs n with
 | some k =>obtain ⟨f,b,p,u,R⟩:=QE X;simp only [u];exact zgy h u true s.hand h.hand
 | none =>
  obtain ⟨u,f,R,h3⟩:=znb h;have hl:=(zr.1 R).1;have a4:=ui.room s;have Z:∀ i:Nat,¬ (s.fs[i]?.bind zy.aw)=some n:=fun i z=>by rw [h.find z] at X;cases X
  have a0:∀ i:Nat,¬ (s.room.2.fs[i]?.bind zy.aw)=some n:=fun i z=>Z i (a4.aw i n z);have a3:s.room.2.dp n=s.dp n:=by have D:=u.E n;rw [vn a0,vn Z] at D;exact D
  simp only [zn.put,zn.ci,R];have a1:∀ i m:Nat,((s.room.2.fs.set s.room.1 ⟨some (nb,n,s.dp n),f.ae,true⟩)[i]?.bind zy.aw)=some m->(i=s.room.1/\m=n)∨(i≠s.room.1/\(s.room.2.fs[i]?.bind zy.aw)=some m):=fun i m z=>by
   by_cases e:i=s.room.1
   ·subst e;rw [qw hl] at z;injection z with z;exact .inl ⟨rfl,z.symm⟩
   ·rw [qT (Ne.symm e)] at z;exact .inr ⟨e,z⟩
  have hok:qX { s.room.2 with fs:=s.room.2.fs.set s.room.1 ⟨some (nb,n,s.dp n),f.ae,true⟩ }:=by
   refine ⟨by simp [u.ok.a3],u.ok.hand,fun i j m z hj=>?_,fun i g b m p Y U hs=>?_,u.ok.av⟩
   ·rcases a1 i m z with ⟨D,E⟩ | ⟨D,E⟩<;>rcases a1 j m hj with ⟨O,L⟩ | ⟨O,L⟩
    ·rw [D,O]
    ·subst E;exact absurd L (a0 j)
    ·subst L;exact absurd E (a0 i)
    ·exact u.ok.cs i j m E L
   ·rcases uQ Y with ⟨rfl,rfl⟩ | ⟨_,Y⟩
    ·injection U with U;cases U;exact a3.symm
    ·exact u.ok.cc i g b m p Y U hs
  refine ⟨hok,fun m=>?_,u.Q,u.J,u.bank,u.cw⟩;by_cases e:m=n
  ·subst e;rw [hok.E (i:=s.room.1) (f:=⟨some (nb,m,s.dp m),f.ae,true⟩) (by simp only;rw [qw hl]) rfl];exact (vn Z).symm
  ·rw [<- u.E m];rcases Yb u.ok m with ⟨i,g,b,D,E⟩ | ⟨D,E⟩
   ·have a5:i≠s.room.1:=fun O=>by subst O;rw [R] at D;injection D with D;subst D;rw [h3] at E;cases E
    exact hok.E (i:=i) (f:=g) (by simp only;rw [qT (Ne.symm a5)];exact D) E
   ·rw [E];exact vn fun i z=>by
     rcases a1 i m z with ⟨_,L⟩ | ⟨_,L⟩
     ·exact e L
     ·exact D i L
structure zqt (s s':zn) (n slot:Nat) (o:Option Rw) (m:Nat):Prop where
 ok:qX s'
 E:s'.E n={ (s.E n).set slot o with mark:=m }
 b7:∀ n',n'≠n->s'.E n'=s.E n'
 Q:s'.Q=s.Q
 J:s'.J=s.J
 bank:s'.bank=s.bank
 av:s'.av=s.av
 dp:s'.dp=s.dp
 i2:jX s'.fs n≠none
theorem GU {s:zn} (h:qX s) {k n slot m b:Nat} {o:Option Rw} {f:zy} {p:Pg} (D:s.fs[k]?=some f) (E:f.pg=some (b,n,p)) (hm:m≠0):zqt s (s.setRow n slot o m) n slot o m:=by
 have hl:=(zr.1 D).1;have Z:=h.find (QN D E);have hpg:=h.E D E;have Y:s.setRow n slot o m={ s with fs:=s.fs.set k ⟨some (b,n,{ p.set slot o with mark:=m }),if f.ae=0 then m else f.ae,f.a2⟩ }:=by simp only [zn.setRow,Z,D,E]
 rw [Y];have L:∀ i:Nat,((s.fs.set k ⟨some (b,n,{ p.set slot o with mark:=m }),if f.ae=0 then m else f.ae,f.a2⟩)[i]?.bind zy.aw)=(s.fs[i]?.bind zy.aw):=zaj D (by rw [zmq E];rfl);have hok:qX { s with fs:=s.fs.set k ⟨some (b,n,{ p.set slot o with mark:=m }),if f.ae=0 then m else f.ae,f.a2⟩ }:=by
  refine ⟨by simp [h.a3],h.hand,fun i j n R hj=>h.cs i j n ((L i).symm.trans R) ((L j).symm.trans hj),fun i g X U p' O a3 hs=>?_,h.av⟩;rcases uQ O with ⟨rfl,rfl⟩ | ⟨_,O⟩
  ·simp only at hs;split at hs
   ·exact absurd hs hm
   ·rename_i a1;exact absurd hs a1
  ·exact h.cc i g X U p' O a3 hs
 refine ⟨hok,?_,fun U hn=>?_,rfl,rfl,rfl,rfl,rfl,?_⟩
 ·rw [hpg];exact hok.E (i:=k) (f:=⟨some (b,n,{ p.set slot o with mark:=m }),if f.ae=0 then m else f.ae,f.a2⟩) (by simp only;rw [qw hl]) rfl
 ·rcases Yb h U with ⟨i,g,X,u,z⟩ | ⟨u,z⟩
  ·have a0:i≠k:=fun e=>by subst e;rw [D] at u;injection u with u;subst u;rw [E] at z;injection z with z;exact hn (congrArg (fun x=>x.2.1) z).symm
   exact hok.E (i:=i) (f:=g) (by simp only;rw [qT (Ne.symm a0)];exact u) z
  ·rw [z];exact vn fun i R=>u i ((L i).symm.trans R)
 ·rw [hok.find (i:=k) (n:=n) (by simp only;rw [L k];exact QN D E)];simp
structure zry (s s1 s':zn) (n slot:Nat) (o:Option Rw) (x:zS):Prop where
 bx:uI s s1
 ok:qX s'
 E:s'.E n={ (s.E n).set slot o with mark:=jl s.J s.Q.length }
 b7:∀ n',n'≠n->s'.E n'=s.E n'
 Q:s'.Q=s.Q++qF x
 J:s'.J=s.J
 bank:s'.bank=s.bank
 av:s'.av=s1.av
 dp:s'.dp=s1.dp
 i2:jX s'.fs n≠none
theorem Yp {s:zn} (h:qX s) (r nb kind txn n slot:Nat) (o:Option Rw):zry s (s.get nb n) (s.al r nb kind txn n slot o) n slot o (yl r kind txn n slot (s.get nb n) (s.E n) o):=by
 have u:=JE h nb n;obtain ⟨k,f,U,L,R⟩:=Jz nb n h.a3 h.hand;have E:qX ((s.get nb n).au (yl r kind txn n slot (s.get nb n) (s.E n) o)):=⟨u.ok.a3,u.ok.hand,u.ok.cs,u.ok.cc,by
  have:=u.ok.av;simp only [zn.au,zl];omega⟩
 have z:=GU E (k:=k) (slot:=slot) (m:=jl s.J s.Q.length) (o:=o) L R (by unfold jl;omega);have hpg:∀ m,((s.get nb n).au (yl r kind txn n slot (s.get nb n) (s.E n) o)).E m=s.E m:=u.E;refine ⟨u,z.ok,by have:=z.E;rw [hpg] at this;exact this,fun D O=>(z.b7 D O).trans (hpg D),z.Q.trans ?_,z.J.trans u.J,z.bank.trans u.bank,z.av,z.dp,z.i2⟩;simp only [zn.au,u.Q]
theorem zaY {s:zn} (h:qX s) (n:Nat):uI s (s.bc n)/\(s.bc n).dp n=s.E n/\∀ m,(s.bc n).dp m=s.dp m∨(s.bc n).dp m=s.E m:=by
 unfold zn.bc;split
 ·rename_i D;refine ⟨.refl h,?_,fun m=>.inl rfl⟩;unfold zn.E;rw [D];rfl
 ·rename_i k D;obtain ⟨f,b,p,u,z⟩:=QE D;have hs:=zeM h k;have hpg:=h.E u z;have hd:∀ m,(s.a0 k).dp m=s.dp m∨(s.a0 k).dp m=s.E m:=fun m=>by
   rcases hs.cw with ⟨_,e⟩ | ⟨_,e⟩
   ·exact .inl (by rw [e])
   ·exact e m
  refine ⟨hs,?_,hd⟩;unfold zn.a0;simp only [u,z];split
  ·rename_i e;rw [hpg];exact (h.cc k f b n p u z e).symm
  ·simp only [zk];exact hpg.symm
theorem zcr {s:zn} (h:qX s):∀ k,uI s (s.a4 k)/\∀ n,n<k->(s.a4 k).dp n=s.E n
 | 0=>⟨.refl h,fun n D=>absurd D (Nat.not_lt_zero n)⟩
 | k+1=>by
  obtain ⟨u,E⟩:=zcr h k;obtain ⟨L,O,R⟩:=zaY u.ok k;rw [zn.b2];refine ⟨u.trans L,fun n D=>?_⟩;by_cases e:n=k
  ·subst e;exact O.trans (u.E n)
  ·rcases R n with z | z
   ·exact z.trans (E n (by omega))
   ·exact z.trans (u.E n)
structure zqp (s s':zn) (rs:List zS):Prop where
 ok:qX s'
 E:∀ n,s'.E n=s.E n
 dp:∀ n,n<6->s'.dp n=s.E n
 Q:s'.Q=zq rs
 av:s'.av=(zq rs).length
 J:s'.J=s.J+1
theorem ZT {s:zn} (h:qX s) (ts:qC):zqp s (s.bb ts) (qV ts):=by obtain ⟨u,z⟩:=zcr h 6;refine ⟨⟨u.ok.a3,u.ok.hand,u.ok.cs,u.ok.cc,za _⟩,u.E,z,rfl,rfl,rfl⟩
def Qj (n:Nat) (p:Pg) (e:Nat × zS):Pg:=if (e.2.kind=3∨e.2.kind=4)/\e.2.E=n/\p.mark<e.1 then { p.set e.2.slot e.2.after with mark:=e.1 } else p
def rp (es:List (Nat × zS)) (n:Nat) (p:Pg):Pg:=es.foldl (Qj n) p
theorem zmN (a b:List (Nat × zS)) (n:Nat) (p:Pg):rp (a++b) n p=rp b n (rp a n p):=by simp [rp]
theorem zow (n:Nat) (p:Pg) (e:Nat × zS):p.mark<=(Qj n p e).mark/\((e.2.kind=3∨e.2.kind=4)->e.2.E=n->e.1<=(Qj n p e).mark):=by
 unfold Qj;split
 ·rename_i h;exact ⟨Nat.le_of_lt h.2.2,fun _ _=>za _⟩
 ·rename_i h;exact ⟨za _,fun u z=>Nat.le_of_not_lt fun D=>h ⟨u,z,D⟩⟩
theorem zfy:∀ (es:List (Nat × zS)) (n:Nat) (p:Pg),p.mark<=(rp es n p).mark/\∀ e,e∈es->(e.2.kind=3∨e.2.kind=4)->e.2.E=n->e.1<=(rp es n p).mark
 | [],n,p=>⟨za _,fun e h=>by cases h⟩
 | e::es,n,p=>by
  have D:=zow n p e;have z:=zfy es n (Qj n p e);show p.mark<=(rp es n (Qj n p e)).mark/\∀ u,u∈e::es->_;refine ⟨zA D.1 z.1,fun u h E L=>?_⟩;rcases zO.1 h with rfl | h
  ·exact zA (D.2 E L) z.1
  ·exact z.2 u h E L
theorem zjO:∀ (es:List (Nat × zS)) (n:Nat) (p:Pg),(∀ e,e∈es->(e.2.kind=3∨e.2.kind=4)->e.2.E=n->e.1<=p.mark)->rp es n p=p
 | [],n,p,_=>rfl
 | e::es,n,p,h=>by
  have u:Qj n p e=p:=by unfold Qj;rw [if_neg];rintro ⟨u,D,L⟩;have:=h e (jj ..) u D;omega
  show rp es n (Qj n p e)=p;rw [u];exact zjO es n p fun z E=>h z (ji _ E)
theorem zik {N:Nat}:∀ (es:List (Nat × zS)) (n:Nat) (p:Pg),p.mark<N->(∀ e,e∈es->e.1<N)->(rp es n p).mark<N
 | [],n,p,h,_=>h
 | e::es,n,p,h,he=>by
  show (rp es n (Qj n p e)).mark<N;refine zik es n _ ?_ fun u z=>he u (ji _ z);unfold Qj;split
  ·exact he e (jj ..)
  ·exact h
theorem zfe (u:Nat):∀ (rs:List zS) (n:Nat),∀ e,e∈qK u n rs->e.1<jl u (n+(zq rs).length)
 | [],n,e,h=>by cases h
 | x::rs,n,e,h=>by
  have z:(zq (x::rs)).length=(qF x).length+(zq rs).length:=by simp [zq]
  rcases zO.1 h with rfl | h
  ·have:=JC x;simp only [jl,z];omega
  ·have:=zfe u rs _ e h;rw [z];simp only [jl] at this ⊢;omega
theorem YY (a b:List zS):zq (a++b)=zq a++zq b:=by simp [zq]
theorem ZV (x:zS):zq [x]=qF x:=by simp [zq]
structure zln (s:zn) (rs:List zS) (m:Nat) (C:Nat->List (Option Rw)):Prop where
 Q:s.Q=zq rs
 pos:0<m
 i5:m<=rs.length
 av:s.av=(zq (rs.take m)).length
 dq:∀ n,n<6->rp (qK s.J 0 rs) n (s.dp n)=s.E n
 part:∀ n,n<6->(rp (qK s.J 0 (rs.take m)) n (s.dp n)).ap=C n
 mark:∀ n,n<6->(s.E n).mark<jl s.J s.Q.length
def zeU (s:zn) (C:Nat->List (Option Rw)):Prop:=∀ n,n<6->(s.E n).ap=C n
theorem zcJ {n z:Nat} {p:Pg} {x:zS} (h:x.kind≠3/\x.kind≠4):Qj n p (z,x)=p:=by
 unfold Qj;rw [if_neg];rintro ⟨u | u,_⟩
 ·exact h.1 u
 ·exact h.2 u
theorem zln.dm {s s':zn} {C:Nat->List (Option Rw)} {x:zS} (O:x.kind≠3/\x.kind≠4) (E:s'.Q=zq [x]) (L:s'.av=(zq [x]).length) (u:∀ n,n<6->s'.dp n=s'.E n) (hm:∀ n,n<6->(s'.E n).mark<jl s'.J s'.Q.length) (D:zeU s' C):zln s' [x] 1 C:=by
 have z:∀ n p,rp (qK s'.J 0 [x]) n p=p:=fun n p=>by show Qj n p _=p;exact zcJ O
 refine ⟨E,Nat.one_pos,za _,L,fun n h=>by rw [z];exact u n h,fun n h=>?_,hm⟩;show (rp (qK s'.J 0 [x]) n (s'.dp n)).ap=C n;rw [z,u n h];exact D n h
def Zw (a b:Rw):Prop:=a.t=b.t/\a.k=b.k
theorem zdz {a b:Rw} (h:ye a b):¬ Zw a b:=fun e=>ZN b (KP e h)
theorem zmd {a b:Rw} (h:ye b a):¬ Zw a b:=fun e=>ZN a (KP ⟨e.1.symm,e.2.symm⟩ h)
theorem GX:∀ {l:List It} {x y:It},qe l->x∈l->y∈l->Zw x.rw y.rw->x=y
 | [],x,y,_,h,_,_=>by cases h
 | z::l,x,y,hs,hx,hy,he=>by
  obtain ⟨E,L⟩:=List.pairwise_cons.1 hs;rcases zO.1 hx with u | u<;>rcases zO.1 hy with D | D
  ·rw [u,D]
  ·subst u;exact absurd he (zdz (E y D))
  ·subst D;exact absurd he (zmd (E x u))
  ·exact GX (show qe l from L) u D he
theorem znd {l:List It} (h:qe l) {i j:Nat} {x y:It} (L:l[i]?=some x) (O:l[j]?=some y) (R:i<j):ye x.rw y.rw:=by obtain ⟨u,z⟩:=zr.1 L;obtain ⟨D,E⟩:=zr.1 O;have:=List.pairwise_iff_getElem.1 h i j u D R;rw [z,E] at this;exact this
theorem JX {l:List It} (hs:qe l) (r:Rw):(ju l (jv l r) r=true->∃ x,l[jv l r]?=some x/\Zw x.rw r)/\(ju l (jv l r) r=false->∀ x,x∈l->¬ Zw x.rw r)/\∀ k x,l[k]?=some x->Zw x.rw r->k=jv l r:=by
 have O:=Cut.bp (r:=r) hs;have L:∀ k x,l[k]?=some x->Zw x.rw r->k=jv l r/\ju l (jv l r) r=true:=fun k x u z=>by
  have Y:¬ k<jv l r:=fun E=>zdz ((Yx _ _).1 (O.lo k x E u)) z;have Z:¬ jv l r<k:=fun E=>by obtain ⟨y,R⟩:∃ y,l[jv l r]?=some y:=⟨_,qa (by have:=(zr.1 u).1;omega)⟩;have D:=znd hs R u E;have U:=O.hi _ y (za _) R;exact U ((Yx _ _).2 (ziQ z D))
  have D:k=jv l r:=by omega
  refine ⟨D,?_⟩;unfold ju;rw [<- D,u];simpa using (KZ _ _).2 z
 refine ⟨fun h=>?_,fun h x z X=>?_,fun k x u z=>(L k x u z).1⟩
 ·unfold ju at h;cases e:l[jv l r]? with
  | none=>rw [e] at h;cases h
  | some x =>rw [e] at h;exact ⟨x,rfl,(KZ _ _).1 (by simpa using h)⟩
 ·obtain ⟨k,u⟩:=List.getElem?_of_mem z;rw [(L k x u X).2] at h;cases h
theorem zmm (l:List It) (m:Nat) (x y:It):y∈Zk l m x↔y=x∨y∈l:=by
 unfold Zk;rw [ja,zO];have:y∈l↔y∈l.take m∨y∈l.drop m:=by rw [<- ja,List.take_append_drop]
 rw [this];constructor
 ·rintro (h | h | h)
  ·exact .inr (.inl h)
  ·exact .inl h
  ·exact .inr (.inr h)
 ·rintro (h | h | h)
  ·exact .inr (.inl h)
  ·exact .inl h
  ·exact .inr (.inr h)
theorem zmn {l:List It} {m:Nat} {z:It} (O:l[m]?=some z) (y:It):(y∈l.take m∨y∈l.drop (m+1))↔∃ k:Nat,k≠m/\l[k]?=some y:=by
 constructor
 ·rintro (h | h)
  ·obtain ⟨k,u⟩:=List.getElem?_of_mem h;rw [List.getElem?_take] at u;split at u
   ·exact ⟨k,by omega,u⟩
   ·cases u
  ·obtain ⟨k,u⟩:=List.getElem?_of_mem h;rw [List.getElem?_drop] at u;exact ⟨m+1+k,by omega,u⟩
 ·rintro ⟨k,E,D⟩;have L:=(zr.1 D).1;by_cases e:k<m
  ·exact .inl (zC (i:=k) (by rw [List.getElem?_take,if_pos e];exact D))
  ·exact .inr (zC (i:=k-(m+1)) (by rw [List.getElem?_drop,show m+1+(k-(m+1))=k by omega];exact D))
theorem zgt {l:List It} (hs:qe l) {r:Rw} {z:It} (E:l[jv l r]?=some z) (y:It) (L:Zw z.rw r):(y∈l.take (jv l r)∨y∈l.drop (jv l r+1))↔y∈l/\¬ Zw y.rw r:=by
 rw [zmn E];constructor
 ·rintro ⟨k,D,u⟩;exact ⟨zC u,fun e=>D ((JX hs r).2.2 k y u e)⟩
 ·rintro ⟨D,u⟩;obtain ⟨k,h⟩:=List.getElem?_of_mem D;refine ⟨k,fun e=>?_,h⟩;rw [e,E] at h;injection h with h;subst h;exact u L
theorem YV {l:List It} (hs:qe l) (x y:It):y∈uF l (jv l x.rw) x↔y=x∨y∈l/\¬ Zw y.rw x.rw:=by
 have u:=JX hs x.rw;unfold uF;cases e:ju l (jv l x.rw) x.rw with
 | false =>
  rw [if_neg (by simp),zmm];constructor
  ·rintro (h | h)
   ·exact .inl h
   ·exact .inr ⟨h,u.2.1 e y h⟩
  ·rintro (h | h)
   ·exact .inl h
   ·exact .inr h.1
 | true =>
  obtain ⟨z,D,E⟩:=u.1 e;rw [if_pos rfl,List.set_eq_take_append_cons_drop,if_pos (zr.1 D).1,ja,zO,<- zgt hs D y E];constructor
  ·rintro (h | h | h)
   ·exact .inr (.inl h)
   ·exact .inl h
   ·exact .inr (.inr h)
  ·rintro (h | h | h)
   ·exact .inr (.inl h)
   ·exact .inl h
   ·exact .inr (.inr h)
theorem zgh {l:List It} (hs:qe l) (r:Rw) (y:It):y∈Jc l (jv l r) r↔y∈l/\¬ Zw y.rw r:=by
 have u:=JX hs r;unfold Jc;cases e:ju l (jv l r) r with
 | false =>rw [if_neg (by simp)];exact ⟨fun h=>⟨h,u.2.1 e y h⟩,fun h=>h.1⟩
 | true =>obtain ⟨z,D,E⟩:=u.1 e;rw [if_pos rfl,List.eraseIdx_eq_take_drop_succ,ja];exact zgt hs D y E
theorem zgN {l:List It} (hs:qe l) (x:It) (h:∀ y,y∈l->¬ Zw y.rw x.rw):(uF l (jv l x.rw) x).length=l.length+1:=by
 have u:=JX hs x.rw;unfold uF;cases e:ju l (jv l x.rw) x.rw with
 | false=>rw [if_neg (by simp)];exact JN _ _ _
 | true =>obtain ⟨z,D,E⟩:=u.1 e;exact absurd E (h z (zC D))
structure Jg (its:List It) (C:Nat->List (Option Rw)):Prop where
 so:qe its
 mem:∀ x,x∈its↔x.pg<6/\x.sl<5/\(C x.pg)[x.sl]?=some (some x.rw)
theorem Jg.congr {L:List It} {C E:Nat->List (Option Rw)} (h:Jg L C) (e:∀ n,n<6->E n=C n):Jg L E :=
 ⟨h.so,fun x=>(h.mem x).trans ⟨fun ⟨u,z,D⟩=>⟨u,z,by rw [e _ u];exact D⟩,fun ⟨u,z,D⟩=>⟨u,z,by rw [<- e _ u];exact D⟩⟩⟩
theorem zaZ:∀ {a b:List It},qe a->qe b->(∀ x,x∈a↔x∈b)->a=b
 | [],[],_,_,_=>rfl
 | [],y::b,_,_,h=>by have:=(h y).2 (jj ..);cases this
 | x::a,[],_,_,h=>by have:=(h x).1 (jj ..);cases this
 | x::a,y::b,ha,hb,h=>by
  obtain ⟨O,a2⟩:=List.pairwise_cons.1 ha;obtain ⟨b1,b2⟩:=List.pairwise_cons.1 hb;have R:x=y:=by
   have D:=(h x).1 (jj ..);have E:=(h y).2 (jj ..);rcases zO.1 D with e | D
   ·exact e
   ·rcases zO.1 E with e | E
    ·exact e.symm
    ·exact absurd (YH (O y E) (b1 x D)) (ZN _)
  subst R;congr 1;refine zaZ a2 b2 fun z=>⟨fun u=>?_,fun u=>?_⟩
  ·rcases zO.1 ((h z).1 (ji _ u)) with rfl | L
   ·exact absurd (O z u) (ZN _)
   ·exact L
  ·rcases zO.1 ((h z).2 (ji _ u)) with rfl | L
   ·exact absurd (b1 z u) (ZN _)
   ·exact L
theorem Jg.al {L:List It} {C:Nat->List (Option Rw)} (h:Jg L C) {n i:Nat} {o:Option Rw} (Y:n<6) (X:i<5) (hl:∀ k,k<6->(C k).length=5) (ho:∀ b,o=some b->∀ x,x∈L->Zw x.rw b->x.pg=n/\x.sl=i):Jg (uj (jT L (((C n)[i]?).getD none)) o n i) (zV C n ((C n).set i o)):=by
 have a3:=(YT h.so (((C n)[i]?).getD none) o n i).1;have a1:i<(C n).length:=by rw [hl n Y];exact X
 have a0:qe (jT L (((C n)[i]?).getD none))/\∀ x,x∈jT L (((C n)[i]?).getD none)↔x∈L/\¬ (x.pg=n/\x.sl=i):=by
  have U:(C n)[i]?=some (C n)[i]:=qa a1;rw [U];cases e:(C n)[i] with
  | none =>refine ⟨h.so,fun x=>⟨fun O=>⟨O,?_⟩,fun O=>O.1⟩⟩;rintro ⟨z,D⟩;have u:=((h.mem x).1 O).2.2;rw [z,D,U,e] at u;cases u
  | some b =>
   have hb:(⟨b,n,i⟩:It)∈L:=(h.mem _).2 ⟨Y,X,by rw [U,e]⟩;refine ⟨qe.rem h.so,fun x=>?_⟩;show x∈Jc L (jv L ⟨b.t,b.k,[]⟩) ⟨b.t,b.k,[]⟩↔_;rw [zgh h.so];refine and_congr_right fun O=>not_congr ⟨fun hs=>?_,fun hs=>?_⟩
   ·have:=GX h.so O hb ⟨hs.1,hs.2⟩;rw [this];exact ⟨rfl,rfl⟩
   ·have u:=((h.mem x).1 O).2.2;rw [hs.1,hs.2,U,e] at u;injection u with u;injection u with u;rw [<- u];exact ⟨rfl,rfl⟩
 have hC:∀ x:It,x.pg<6->x.sl<5->((zV C n ((C n).set i o)) x.pg)[x.sl]?=if x.pg=n/\x.sl=i then some o else (C x.pg)[x.sl]?:=fun x z D=>by
  by_cases e:x.pg=n
  ·rw [e,zk];by_cases Z:x.sl=i
   ·rw [Z,qw a1,if_pos ⟨rfl,rfl⟩]
   ·rw [qT (Ne.symm Z),if_neg (fun h=>Z h.2)]
  ·rw [zt _ _ e,if_neg (fun h=>e h.1)]
 refine ⟨a3,fun x=>?_⟩;cases o with
 | none =>
  show x∈jT L _↔_;rw [a0.2 x,h.mem x];constructor
  ·rintro ⟨⟨z,D,u⟩,E⟩;exact ⟨z,D,by rw [hC x z D,if_neg E];exact u⟩
  ·rintro ⟨z,D,u⟩;rw [hC x z D] at u;split at u
   ·cases u
   ·rename_i E;exact ⟨⟨z,D,u⟩,E⟩
 | some b =>
  show x∈uF (jT L _) (jv (jT L _) b) ⟨b,n,i⟩↔_;have hm:=YV a0.1 ⟨b,n,i⟩ x;rw [hm,a0.2 x];constructor
  ·rintro (rfl | ⟨⟨z,D⟩,u⟩)
   ·refine ⟨Y,X,?_⟩;rw [hC _ Y X,if_pos ⟨rfl,rfl⟩]
   ·obtain ⟨E,R,h6⟩:=(h.mem x).1 z;exact ⟨E,R,by rw [hC x E R,if_neg D];exact h6⟩
  ·rintro ⟨z,D,u⟩;rw [hC x z D] at u;split at u
   ·rename_i E;injection u with u;injection u with u;refine .inl ?_;cases x;simp only at E u;rw [E.1,E.2,u]
   ·rename_i E;have R:x∈L:=(h.mem x).2 ⟨z,D,u⟩;exact .inr ⟨⟨R,E⟩,fun hs=>E (ho b rfl x R hs)⟩
theorem zmI {s:zn} (h:qX s) (nb D:Nat) (x:zS) (R:x.kind=3∨x.kind=4):qX (s.ax nb 0 D x)/\∀ n,(s.ax nb 0 D x).E n=Qj n (s.E n) (D,x):=by
 have u:=JE h nb x.E;unfold zn.ax;split
 ·rename_i E;obtain ⟨k,f,X,O,U⟩:=Jz nb x.E h.a3 h.hand;have z:=GU u.ok (k:=k) (slot:=x.slot) (m:=D) (o:=x.after) O U (by omega);refine ⟨z.ok,fun n=>?_⟩;unfold Qj;by_cases e:n=x.E
  ·subst e;rw [z.E,u.E,if_pos ⟨R,rfl,E.2⟩]
  ·rw [z.b7 n e,u.E,if_neg (fun h=>e h.2.1.symm)]
 ·rename_i E;refine ⟨u.ok,fun n=>?_⟩;rw [u.E];unfold Qj;rw [if_neg];rintro ⟨_,L,z⟩;subst L;exact E ⟨zU _,z⟩
theorem zpM {s:St} (h:qX s.sto) (nb u:Nat) (x:zS):qX (s.ax nb 0 u x).sto/\∀ n,(s.ax nb 0 u x).sto.E n=Qj n (s.sto.E n) (u,x):=by
 unfold St.ax;split
 ·rename_i z;exact zmI h nb u x z
 ·rename_i z;exact ⟨h,fun n=>(zcJ (by omega)).symm⟩
theorem zgs {s:St} (h:qX s.sto) (nbs:Nat->Nat) (es:List (Nat × zS)):∀ j,j<=es.length->qX (redoTo nbs 0 es j s).sto/\∀ n,(redoTo nbs 0 es j s).sto.E n=rp (es.take j) n (s.sto.E n)
 | 0,_=>⟨h,fun n=>rfl⟩
 | j+1,hj=>by obtain ⟨u,z⟩:=zgs h nbs es j (by omega);have L:es[j]?=some es[j]:=qa hj;simp only [redoTo,L];obtain ⟨D,E⟩:=zpM u (nbs j) es[j].1 es[j].2;refine ⟨D,fun n=>?_⟩;rw [E n,z n,yH hj,zmN];rfl
theorem zaL {s:St} (h:qX s.sto) (nbs:Nat->Nat):∀ k,uI s.sto (qb nbs k s).sto
 | 0=>.refl h
 | k+1=>by have u:=zaL h nbs k;exact u.trans (JE u.ok (nbs k) k)
theorem vV:∀ (l:List (Option Rw)) (i:Nat) (p:Nat × Rw),p∈jd l i↔i<=p.1/\l[p.1-i]?=some (some p.2)
 | [],i,p=>by simp [jd]
 | none::l,i,p=>by
  simp only [jd];rw [vV l (i+1) p];constructor
  ·rintro ⟨u,h⟩;refine ⟨by omega,?_⟩;rw [show p.1-i=(p.1-(i+1))+1 by omega];exact h
  ·rintro ⟨u,h⟩;by_cases e:p.1=i
   ·rw [e,Nat.sub_self] at h;simp at h
   ·refine ⟨by omega,?_⟩;rw [show p.1-i=(p.1-(i+1))+1 by omega] at h;exact h
 | some x::l,i,p=>by
  simp only [jd,zO];rw [vV l (i+1) p];constructor
  ·rintro (rfl | ⟨u,h⟩)
   ·exact ⟨za _,by simp⟩
   ·refine ⟨by omega,?_⟩;rw [show p.1-i=(p.1-(i+1))+1 by omega];exact h
  ·rintro ⟨u,h⟩;by_cases e:p.1=i
   ·rw [e,Nat.sub_self] at h;simp only [List.getElem?_cons_zero,je] at h;exact .inl (Prod.ext e h.symm)
   ·refine .inr ⟨by omega,?_⟩;rw [show p.1-i=(p.1-(i+1))+1 by omega] at h;exact h
theorem GR:∀ (l:List (Option Rw)) (i:Nat),(jd l i).Pairwise fun p q=>p.1<q.1
 | [],_=>.nil
 | none::l,i=>GR l (i+1)
 | some x::l,i=>List.Pairwise.cons (fun q h=>by have:=((vV l (i+1) q).1 h).1;simp only;omega) (GR l (i+1))
theorem zbm (n:Nat):∀ (L:List (Nat × Rw)) {its:List It},qe its->(∀ p,p∈L->∀ y,y∈its->¬ Zw y.rw p.2)->(L.Pairwise fun p q=>¬ Zw p.2 q.2)->qe (yn n L its)/\∀ y,y∈yn n L its↔y∈its∨∃ p,p∈L/\y=⟨p.2,n,p.1⟩
 | [],its,h,_,_=>⟨h,fun y=>⟨.inl,fun h=>h.elim id fun ⟨p,U,_⟩=>by cases U⟩⟩
 | p::L,its,h,h1,h2=>by
  obtain ⟨D,E⟩:=List.pairwise_cons.1 h2;have hs:=(zhC h p.2 n p.1).1;have hm:∀ y,y∈uj its (some p.2) n p.1↔y=⟨p.2,n,p.1⟩∨y∈its:=fun y=>by show y∈uF its (jv its p.2) ⟨p.2,n,p.1⟩↔_;rw [YV h ⟨p.2,n,p.1⟩ y];exact or_congr_right ⟨fun h=>h.1,fun z=>⟨z,h1 p (jj ..) y z⟩⟩
  obtain ⟨O,R⟩:=zbm n L hs (fun q u y z=>by
   rcases (hm y).1 z with rfl | z
   ·exact D q u
   ·exact h1 q (ji _ u) y z) E
  refine ⟨O,fun y=>?_⟩;show y∈yn n L (uj its (some p.2) n p.1)↔_;rw [R y,hm y];constructor
  ·rintro ((rfl | h) | ⟨q,u,rfl⟩)
   ·exact .inr ⟨p,jj ..,rfl⟩
   ·exact .inl h
   ·exact .inr ⟨q,ji _ u,rfl⟩
  ·rintro (h | ⟨q,u,rfl⟩)
   ·exact .inl (.inr h)
   ·rcases zO.1 u with rfl | u
    ·exact .inl (.inl rfl)
    ·exact .inr ⟨q,u,rfl⟩
structure znp (C:Nat->List (Option Rw)):Prop where
 len:∀ n,n<6->(C n).length=5
 apart:∀ (n i n' i':Nat) (a b:Rw),n<6->n'<6->(C n)[i]?=some (some a)->(C n')[i']?=some (some b)->Zw a b->n=n'/\i=i'
theorem Jg.gx {Z:List It} {C:Nat->List (Option Rw)} (h:Jg Z C) (u:∀ n,n<6->(C n).length=5):znp C:=by
 refine ⟨u,fun n i O L a b D E z hb hs=>?_⟩;have X:i<5:=by have:=(zr.1 z).1;rw [u n D] at this;exact this
 have Y:L<5:=by have:=(zr.1 hb).1;rw [u O E] at this;exact this
 have:=GX h.so ((h.mem ⟨a,n,i⟩).2 ⟨D,X,z⟩) ((h.mem ⟨b,O,L⟩).2 ⟨E,Y,hb⟩) hs;injection this with h1 R U;exact ⟨R,U⟩
theorem zbQ {s:St} (h:qX s.sto) (X:s.N=[]) (nbs:Nat->Nat) {C:Nat->List (Option Rw)} (hC:zeU s.sto C) (L:znp C):∀ k,k<=6->qe (qb nbs k s).N/\∀ x,x∈(qb nbs k s).N↔x.pg<k/\x.sl<5/\(C x.pg)[x.sl]?=some (some x.rw)
 | 0,_=>by show qe s.N/\∀ x,x∈s.N↔_;rw [X];exact ⟨.nil,fun x=>⟨fun h=>(by cases h),fun h=>absurd h.1 (Nat.not_lt_zero _)⟩⟩
 | k+1,hk6=>by
  obtain ⟨Y,R⟩:=zbQ h X nbs hC L k (by omega);have u:=(zaL h nbs k).E k;have a0:ug ((qb nbs k s).sto.E k)=jd (C k) 0:=by unfold ug;rw [u,hC k (by omega)]
  obtain ⟨Z,h4⟩:=zbm k (jd (C k) 0) Y (fun p u y hy hs=>by
   obtain ⟨U,E,z⟩:=(R y).1 hy;have D:=((vV _ _ p).1 u).2;have:=(L.apart _ _ _ _ _ _ (by omega) (by omega) z D hs).1;omega) ((GR (C k) 0).imp_of_mem fun {p q} u hq a1 hs=>by
   have D:=((vV _ _ p).1 u).2;have O:=((vV _ _ q).1 hq).2;have:=(L.apart _ _ _ _ _ _ (by omega) (by omega) D O hs).2;omega)
  show qe (yn k (ug ((qb nbs k s).sto.E k)) (qb nbs k s).N)/\∀ x,x∈yn k (ug ((qb nbs k s).sto.E k)) (qb nbs k s).N↔_;rw [a0];refine ⟨Z,fun x=>?_⟩;rw [h4 x,R x];constructor
  ·rintro (⟨U,E,z⟩ | ⟨p,u,rfl⟩)
   ·exact ⟨by omega,E,z⟩
   ·have D:=((vV _ _ p).1 u).2;have O:=(zr.1 D).1;rw [L.len k (by omega)] at O;exact ⟨Nat.lt_succ_self k,by simp only;omega,D⟩
  ·rintro ⟨U,E,z⟩;by_cases e:x.pg=k
   ·refine .inr ⟨(x.sl,x.rw),(vV _ _ _).2 ⟨zU _,by rw [<- e];exact z⟩,?_⟩;rw [<- e]
   ·exact .inl ⟨by omega,E,z⟩
theorem zdd {r:Nat} {rs:List zS} {Ts:Nat->Nat} {nbs:Nat->Nat->Nat} (h:∀ i,(lsr rs i).o=false) (s:St):∀ k,jU r rs Ts nbs k s=s
 | 0=>rfl
 | k+1=>by simp only [jU];rw [zdd h s k];unfold lose;rw [h k];rfl
structure zoP (s:St) (rs:List zS) (m:Nat) (C:Nat->List (Option Rw)):Prop where
 ab:qX s.sto
 cw:zln s.sto rs m C
 ir:zeU s.sto C
 N:Jg s.N C
theorem zgg {M g K L:Nat} (h:M<g*1048576+K+1) (u:K<=14336):M<(g+1)*1048576+L+1:=qg h (by clear h;rw [Nat.add_mul];omega)
theorem zhR {r h bank:Nat} {rs:List zS} {dp:Nat->Pg} {nb1 nb2 Ts:Nat->Nat} {nb3:Nat->Nat->Nat} {C:Nat->List (Option Rw)} (a0:vu (qK h 0 rs)=0) (a6:∀ i,(lsr rs i).o=false) (hC:∀ n,n<6->(rp (qK h 0 rs) n (dp n)).ap=C n) (hk:znp C)
  (hm:∀ n,n<6->(dp n).mark<jl h 14336) (hl:(zq rs).length<=14336) :
  zoP (ym r h bank rs dp nb1 nb2 Ts nb3).a1 [qE] 1 C/\(ym r h bank rs dp nb1 nb2 Ts nb3).a1.ts=uR/\(ym r h bank rs dp nb1 nb2 Ts nb3).a1.lk=[]/\(ym r h bank rs dp nb1 nb2 Ts nb3).a1.sto.J=h+1:=by
 have h0:qX (Zn h bank rs dp).sto:=by
  refine ⟨rfl,Nat.zero_lt_succ _,fun i j n z hj=>?_,fun i f b n p hf hp hs=>?_,za _⟩
  ·obtain ⟨f,b,p,L,D⟩:=Zx z;have:f∈jA:=zC L;simp [jA,zy.none] at this;subst this;cases D
  ·have:f∈jA:=zC hf;simp [jA,zy.none] at this;subst this;cases hp
 have a3:∀ n,(Zn h bank rs dp).sto.E n=dp n:=fun n=>vn fun i z=>by obtain ⟨f,b,p,L,D⟩:=Zx z;have:f∈jA:=zC L;simp [jA,zy.none] at this;subst this;cases D
 have hlen:=zaH h rs 0;obtain ⟨L,D⟩:=zgs h0 nb1 (qK h 0 rs) rs.length (by omega);have z:=Kx nb1 (vu (qK h 0 rs)) (qK h 0 rs) (Zn h bank rs dp) rs.length;rw [a0] at z;unfold ym;rw [zdd a6,a0];generalize redoTo nb1 0 (qK h 0 rs) rs.length (Zn h bank rs dp)=s1 at L D z;rw [<- hlen,qi] at D;have a5:zeU s1.sto C:=fun n O=>by rw [D n,a3];exact hC n O
 have U:=zaL L nb2 6;have X:=zbQ L z.1 nb2 a5 hk 6 (za _);have R:=GM nb2 s1 6;generalize qb nb2 6 s1=u at U X R;have a4:u.ts=uR:=R.2.2.1.trans z.2.1;have E:=ZT U.ok u.ts;have a7:qV u.ts=[qE]:=by rw [a4];rfl
 rw [a7] at E;have hg:u.sto.J=h:=R.2.1.trans z.2.2.2.1;have hpg:∀ n,(u.sto.bb u.ts).E n=rp (qK h 0 rs) n (dp n):=fun n=>by rw [E.E,U.E,D,a3]
 have Z:zeU (u.sto.bb u.ts) C:=fun n O=>by rw [hpg];exact hC n O
 have a1:(u.sto.bb u.ts).J=h+1:=by rw [E.J,hg]
 refine ⟨⟨E.ok,zln.dm (s:=u.sto) (by simp [qE]) E.Q E.av (fun n O=>(E.dp n O).trans (E.E n).symm) (fun n O=>?_) Z,Z,X.1,X.2⟩,a4,R.2.2.2.trans z.2.2.2.2,a1⟩;show ((u.sto.bb u.ts).E n).mark<jl (u.sto.bb u.ts).J (u.sto.bb u.ts).Q.length;rw [a1,hpg];have:=zik (N:=jl h 14336) (qK h 0 rs) n (dp n) (hm n O) (fun e he=>by
  have Y:=zfe h rs 0 e he;rw [qz] at Y;exact qg Y (by unfold jl;exact Nat.add_le_add_right (Nat.add_le_add_left hl _) 1))
 exact zgg (K:=14336) this (za _)
end Go.Proofs.YtechnoogjhohfaaGreat
namespace Go.Proofs.YtechnoogjhohfaaGreat
open Go.RowKit Go.Lib
open YtechnoogjhohfaaGreatW Go.Proofs.Tryz Go.Proofs.YtechnoogjhohfaaGreat.Tryz
section
variable {bz:Nat->Prop}
structure DL where
 s:St
 ep:Int
 nx:Int
 hs:List (Int × Int)
structure DT where
 st:Nat
 ct:Nat
 ac:Option DL
def Tl.Z (l:Tl):DL:=⟨l.s.Z,l.ep,l.nx,l.hs⟩
def Tn.Z (t:Tn):DT:=⟨t.st,t.ct,t.ac.map Tl.Z⟩
section
variable {w w':World} {H D:Nat} {F F':Nat->Prop} {cur cur':Nat->Nat->List UInt8} {ts:Nat->Tn} {boots r:Nat} {l:Tl}
theorem zN.gb {c:Nat->T5} (h:qs bz w H D F cur c ts boots 4) (u:c=fun i=>(ts i).t5):zN bz w H D F cur ts boots:=by unfold zN;rw [<- u];exact h
theorem zjV (ts:Nat->Tn) (F:Nat->Prop) (r:Nat) (t:Tn) (h:t.t5=(ts r).t5):(fun i=>(ts i).t5)=fun i=>(vz ts F r t i).t5:=by
 funext i;by_cases e:i=r
 ·subst e;rw [jI,h]
 ·rw [vN _ _ _ e,Tn.et]
theorem zN.store (h:zN bz w H D F cur ts boots) (L:r<4) (z:(ts r).ac=some l) {u:Vb} {s':St} (hs:zm w' l.a u cur' s') (E:qv w w' (qd l.a l.b l.s) (qd l.a u s') cur cur' r) :
  zN bz w' H D u.F cur' (vz ts u.F r { ts r with ac:=some { l with b:=u,s:=s' } }) boots :=
 zN.gb (qs.store h (za _) L z hs E) (zjV _ _ _ _ (by unfold Tn.t5;rw [z]))
theorem zN.cv (h:zN bz w H D F cur ts boots) (z:r<4) (u:(ts r).ac=some l) {nx:Int} {hs:List (Int × Int)} (hd:Dk.DeskAt w' l.kb l.km l.ep nx hs) (E:zG (fun i=>i=l.kb∨i=l.km) w w') :
  zN bz w' H D F cur (vz ts F r { ts r with ac:=some { l with nx:=nx,hs:=hs } }) boots :=
 zN.gb (qs.cv h (za _) z u hd E) (zjV _ _ _ _ (by unfold Tn.t5;rw [u]))
theorem zN.below (h:zN bz w H D F cur ts boots) (hb:zd w w'):zN bz w' H D F cur ts boots:=qs.below h hb
theorem Dk.DeskAt.same {u z:Nat} {D nx:Int} {hs:List (Int × Int)} (h:Dk.DeskAt w u z D nx hs) (E:w'.heap[u]?=w.heap[u]?) (L:w'.heap[z]?=w.heap[z]?):Dk.DeskAt w' u z D nx hs:=⟨E.trans h.U,h.map.ba L⟩
theorem zN.bq (h:zN bz w H D F cur ts boots) (hb:js w w'):zN bz w' H D F cur ts boots:=by
 have E:∀ x,F x->w'.heap[x]?=w.heap[x]?:=fun x u=>hb.block x (h.ar.lt x u) (fun e=>by
  have z:=h.ar.ah u;simp only [zO,qU,or_false] at z;omega)
 refine ⟨(hb.block H (zj h.U) (by rw [zh h.U];decide)).trans h.U,zL.same h.ar E hb.size,h.c3,h.ea,h.cells,fun i l' R U=>?_,h.cf,h.apart,h.base.1,h.base.2.1,h.base.2.2.1,fun x u=>qg (h.base.2.2.2 x u) hb.size⟩;obtain ⟨z,L⟩:=h.ac i l' R U;have hs:∀ x,Kc l' x->w'.heap[x]?=w.heap[x]?:=fun x u=>hb.block x (z.ah x u).2 (fun e=>by
  have O:=(z.ah x u).1;simp only [zO,qU,or_false] at O;omega)
 refine ⟨⟨z.sto.same (fun x u=>?_) hb.size,z.hD,z.hr,z.hF,z.dk.same (hs _ (.inr (.inl rfl))) (hs _ (.inr (.inr rfl))),z.km⟩,L⟩;rcases zau z u with u | u
 ·exact hs x u
 ·exact E x u
end
theorem zbs {W:World} {g:Nat} {h:Int} (u:W.heap[g]?=some (.cells qI 31 (0,0))) :
  (W.setCell ⟨g,0,none⟩ (.int .i64 h)).heap[g]?=some (.cells (zQ (qo h)).toArray 31 (0,0)):=by
 rw [zB _ _ 0 _ _ _ u];rfl
theorem js.setCell {W:World} {g o:Nat} {C:Array Value} (h:W.heap[g]?=some (.cells C 31 (0,0))) (v:Value):js W (W.setCell ⟨g,o,none⟩ v) :=
 ⟨rfl,rfl,rfl,by simp,fun x _ u=>zu _ _ _ _ (fun e=>u (by subst e;exact zh h))⟩
theorem zw.setCell {A B:World} (h:zw bz A B) {g o:Nat} (L:A.heap.size<=g) (v:Value):zw bz A (B.setCell ⟨g,o,none⟩ v) :=
 ⟨fun x t c E u=>(zu _ _ _ _ (fun e=>by have:=zj u;simp only at e;omega)).trans (h.t x t c E u),h.os,h.tape,h.output,by have:=h.size;simp;omega,fun x z D=>(zu _ _ _ _ (by simp only;omega)).trans (h.old x z D)⟩
theorem zN.drew {w:World} {H D:Nat} {F:Nat->Prop} {cur:Nat->Nat->List UInt8} {ts:Nat->Tn} {boots:Nat} (h:zN bz w H D F cur ts boots):zN bz w.drew H D F cur ts boots:=h.below (zf _ _).drew
theorem zft {W:World} {g:Nat} {C:List Value} {a b c d e f z h i j:Value} (D:W.heap[g]?=some (.cells C.toArray 37 (0,0))) (hC:C=[a,b,c,d,e,f,z,h,i,j]):W.rangeAt g 3 [d,e,f]:=by
 subst hC;intro n v u;have E:n<3:=(zr.1 u).1;rw [ze W g _ _ _ _ D,<- u];obtain rfl | rfl | rfl:n=0∨n=1∨n=2:=by omega
 all_goals rfl
end
section
variable {bz:Nat->Prop}
theorem zct (ts:Nat->Tn) (F F':Nat->Prop) (r:Nat) (t t':Tn):vz (vz ts F r t) F' r t'=vz ts F' r t':=by
 funext i;by_cases e:i=r
 ·subst e;rw [jI,jI]
 ·rw [vN _ _ _ e,vN _ _ _ e,vN _ _ _ e];unfold Tn.ce;cases (ts i).ac<;>rfl
end
section
variable {bz:Nat->Prop}
theorem zbk {ts:qC}:∀ {k i n:Nat},jY ts k i=some n->i<=n/\n<=3/\ts[n]?=some none
 | 0,_,_,h=>by simp [jY] at h
 | k+1,i,n,h=>by
  unfold jY at h;split at h
  ·split at h
   ·rename_i u _ z;injection h with h;subst h;exact ⟨za _,u,z⟩
   ·have:=zbk h;exact ⟨by omega,this.2⟩
  ·cases h
def uh:Tx:=⟨[],[],0⟩
def St.an (s:St) (T:Nat):Nat × St:=match Qe s.ts with
 | none=>(0,s)
 | some i=>(i,{ s with ts:=s.ts.set i (some (T,uh)) })
theorem zdr {w:World} {a:Va} {b:Vb} {cur:Nat->Nat->List UInt8} {s:St} (h:zm w a b cur s) :
  zc 73 #[.pointer (some ⟨a.S,1,none⟩)] w fun e w'=>∃ T E,e=.returned (.int .i64 (s.an T).1)/\zm w' a E cur (s.an T).2/\qv w w' (qd a b s) (qd a E (s.an T).2) cur cur a.r:=by
 refine (zlw a.S s.ts w h.aq.row h.aq.len).mono ?_;intro e w' hm;cases D:Qe s.ts with
 | none =>
  rw [D] at hm;obtain ⟨rfl,rfl⟩:=hm;have u:s.an 0=(0,s):=by unfold St.an;rw [D]
  exact ⟨0,b,by rw [u];rfl,by rw [u];exact h,by rw [u];exact qv.refl _ _ _ _⟩
 | some i =>
  rw [D] at hm;obtain ⟨rfl,rfl⟩:=hm;obtain ⟨L,O,_⟩:=zbk D;have u:s.an w.heap.size=(i,{ s with ts:=s.ts.set i (some (w.heap.size,uh)) }):=by unfold St.an;rw [D]
  have hb:zd w (w.alloc (.cells #[.slice none 0 0,.slice none 0 0,.int .i64 0] 208)):=B_alloc (zf _ _) _;obtain ⟨R,U⟩:=h.ez (o:=some (w.heap.size,uh)) (G':=fun x=>x=w.heap.size) hb L O (fun x Y=>by omega) (fun c y e=>by
   injection e with e;cases e;refine ⟨⟨⟨.slice none 0 0,.slice none 0 0,zo _ _ rfl,qj _ _ _ _,qj _ _ _ _,fun k z=>(by cases z),fun k z=>(by cases z)⟩,rfl,fun k z=>by subst z;simp,fun k z=>by subst z;rw [zh (zo _ _ rfl)];decide⟩,⟨by simp [uh],by simp [uh],by simp [uh],fun c X=>by simp [uh] at X⟩⟩) (fun e=>by cases e)
  exact ⟨w.heap.size,_,by rw [u],by rw [u];exact R,by rw [u];exact U⟩
theorem St.dr (s:St) (T:Nat):(s.an T).1=(s.Z.an 0).1/\(s.an T).2.Z=(s.Z.an 0).2:=by
 have h:∀ k i,jY (ZS s.ts) k i=jY s.ts k i:=by
  intro k;induction k with
  | zero=>intro i;rfl
  | succ k ih =>
   intro i;unfold jY;rw [zed,ih (i+1)];cases s.ts[i]? with
   | none=>rfl
   | some o=>cases o<;>rfl
 unfold St.an;rw [show Qe s.Z.ts=Qe s.ts from h 4 1];cases Qe s.ts with
 | none=>exact ⟨rfl,rfl⟩
 | some i =>refine ⟨rfl,?_⟩;unfold St.Z;simp only [JL];rfl
theorem zkY (H a9 r:Nat) (F:Nat->Prop) (cur:Nat->Nat->List UInt8) (ts:Nat->Tn) (boots:Nat) (l:Tl) (q:Rq) (w:World) (P:An->World->Prop) (h:zN bz w H a9 F cur ts boots) (z:r<4) (hl:(ts r).ac=some l)
  (g8:q.kd=4) (e0:iok q.hd) (g7:qS l.hs q.hd=true) (h1:0<=(zW l.hs q.hd).getD 0) (hP:∀ a W U,P a W->js W U->P a U)
  (c5:0<(zW l.hs q.hd).getD 0->∀ W,zd w W->P (qo 4) W)
  (c7:∀ T,(zW l.hs q.hd).getD 0=0->(l.s.an T).1=0->∀ D W,zN bz W H a9 D.F cur (vz ts D.F r { ts r with ac:=some { l with b:=D,s:=(l.s.an T).2 } }) boots->P (qo 8) W)
  (c6:∀ T,(zW l.hs q.hd).getD 0=0->(l.s.an T).1≠0->∀ D W,zN bz W H a9 D.F cur (vz ts D.F r { ts r with ac:=some { l with b:=D,s:=(l.s.an T).2,hs:=aput l.hs q.hd (l.s.an T).1 } }) boots->P (qo 0) W) :
  zc 39 #[.pointer (some ⟨H,0,none⟩),.pointer (some ⟨H,1+r*5,none⟩),.agg (zK q).toArray] w fun e U=>∃ a,e=.returned (.agg (zQ a).toArray)/\a.Z≠10/\zw bz w U/\P a U:=by
 obtain ⟨w1,a0⟩:=ex (QJ w q);have c2:zd w w1:=by rw [a0];exact yP w q
 have a4:w1.heap[w.heap.size]?=some (.cells (zK q).toArray 37 (0,0)):=by rw [a0];exact ZO w q
 have d7:w1.heap[w.heap.size+1]?=some (.cells qI 31 (0,0)):=by rw [a0];exact Zs w q
 have k0:=xV (Value.int .i64 q.kd) 0 a4;rw [g8] at k0;have a5:=h.below c2;obtain ⟨d3,d4,_,_,_⟩:=qs.b6 a5 (by omega) z hl;obtain ⟨Z,h2⟩:=a5.ac r l z hl;have u:=Z.dk;have d6:=Z.hr;have d1:=Dk.txn_any l.kb l.km l.ep l.nx l.hs q.hd e0 w1.drew (u.below (zf _ _).drew (DeskAt.ah u).2.2.1 (DeskAt.ah u).2.2.2);have e7:(w.alloc (.cells (zK q).toArray 37)).alloc (.cells qI 31)=w1:=a0.symm;obtain ⟨txn,e1⟩:=ex ((zW l.hs q.hd).getD 0);rw [<- e1] at d1 h1 c5 c7 c6;have Y:=And.intro d4 a4;have d8:=zdr Z.sto.drew;obtain ⟨g4,a1,g6,a3,HP,f0,f3,f2,g5⟩:=zi9 d1 c2 a4 d7 hP c5 c7 c6 e7;obtain ⟨b9,HT,e9,g3⟩:=zi4 a5 Z d8 d6;clear a0 e7 c2 a4 d7 hP c5 c7 c6 d1 a5 u e1 h Z h2 d8 d6;go_enter func39,ntmps39;go_upto_region 1 with fail;rw [g5.o];refine sV [6] 8 (fun w'=>zI w' H (1+r*5+1) (.pointer (some ⟨l.kb,0,none⟩))/\w'.heap[w.heap.size]?=some (.cells (zK q).toArray 37 (0,0))) Y fun c3=>?_;refine pV 0 ?_;refine pV 1 ?_;refine pV 2 ?_;refine cV 3 (fun _ h=>h.1) ?_;refine pV 4 ?_;refine cV 5 (fun _ h=>xV (Value.int .i64 q.hd) 2 h.2) ?_;refine lC 6 g4.o ?_;rintro h5 w2 ⟨rfl,h3⟩;subst h3;refine eL ?_;refine pV 7 ?_;refine dV ?_;have h4:w1.drew.cell? ⟨H,1+r*5,none⟩=some (.pointer (some ⟨l.a.S,0,none⟩)):=d3;have h8:w1.drew.cell? ⟨w.heap.size,0,none⟩=some (.int .i64 4):=k0;clear c3 Y d4 d3 k0;by_cases e5:txn=0
 ·subst e5;go_upto_region 11 with ((with_reducible refine aV 73 e9.o ?_);rintro h6 w3 ⟨T,b3,rfl,c1,X⟩);have L:=zw.store (qs.he b9.o z hl) HT.o.sto.drew X;have d2:=L _ _ _ (by decide) (show w1.drew.heap[_]?=_ from g6.o);have a8:=L _ _ _ (by decide) (show w1.drew.heap[_]?=_ from a3.o);have E:=b9.o.drew.store z hl c1 (by rw [g3.o] at X;exact X);obtain ⟨n,O⟩:=ex ((l.s.an T).1);rw [<- O];by_cases a7:n=0
  ·have g9:((n:Int) == 0)=true:=by simp;omega
   have e2:=f3.o T (by trivial) (by rw [<- O];exact a7) b3 w3 E;have f8:=hid e2;have R:=hid a8;have HK:=hid ((zw.below a1.o.drew).trans L);clear e2 d2 a8 L E c1 X O a7;go_wp2_with ((with_reducible refine hV 6 ?_);refine wV 0 (zQ (qo 8)).toArray R.o ?_);refine jr (an:=qo 8) 6 rfl rfl rfl R.o rfl ⟨qo 8,rfl,by decide,HK.o.setRow (by omega) _,?_⟩;exact HP.o _ _ _ f8.o (js.setRow R.o _)
  ·have g9:((n:Int) == 0)=false:=by simp;omega
   have a6:(vz ts b3.F r { ts r with ac:=some { l with b:=b3,s:=(l.s.an T).2 } } r).ac=some { l with b:=b3,s:=(l.s.an T).2 }:=by rw [jI]
   obtain ⟨_,d5,_,_,_⟩:=qs.b6 E.drew (za _) z a6;have u:=(E.drew.ac r _ z a6).1.dk;have e4:=Dk.set_hit l.kb l.km l.ep l.nx l.hs q.hd n e0 w3.drew u g7;have Y:=And.intro d5 d2;obtain ⟨g0,f4,f6,f1⟩:=zi4 e4 E a6 u;have R:=hid a8;have HK:=hid ((zw.below a1.o.drew).trans L);have f7:=hid (show (l.s.an T).1≠0 by rw [<- O];exact a7);have HN:=hid O;clear d2 a8 L E c1 X O a7 e4 u a6 d5;go_upto_region 13 with fail;refine sV [7] 8 (fun w'=>zI w' H (1+r*5+1) (.pointer (some ⟨l.kb,0,none⟩))/\w'.heap[w.heap.size]?=some (.cells (zK q).toArray 37 (0,0))) Y fun c3=>?_;refine pV 0 ?_;refine pV 1 ?_;refine pV 2 ?_;refine cV 3 (fun _ h=>h.1) ?_;refine pV 4 ?_;refine cV 5 (fun _ h=>xV (Value.int .i64 q.hd) 2 h.2) ?_;refine pV 6 ?_;refine lC 7 g0.o ?_;rintro h7 w6 ⟨rfl,d9,e6⟩;refine eL ?_;refine dV ?_;have d0:zG (fun i=>i=l.kb∨i=l.km) w3.drew w6:=e6.mono (fun i _ e=>.inr e);have c9:=zw.cv (qs.fb b9.o z hl) f1.o d0;have c8:=f4.o.drew.cv z f6.o d9 d0;have e8:=c9 _ _ _ (by decide) (show w3.drew.heap[_]?=_ from R.o);rw [zct,jI,HN.o] at c8;have e3:=f2.o T (by trivial) f7.o b3 w6 c8;obtain ⟨c0,f9⟩:=zi2 e8 e3;have f5:=hid (HK.o.trans (zw.ay c9));clear e8 e3 c8 c9 e6 d0 d9 Y c3;go_wp2_with ((with_reducible refine hV 6 ?_);refine wV 0 (zQ (qo 0)).toArray c0.o ?_);refine jr (an:=qo 0) 6 rfl rfl rfl c0.o rfl ⟨qo 0,rfl,by decide,f5.o.setRow (by omega) _,?_⟩;exact HP.o _ _ _ f9.o (js.setRow c0.o _)
 ·have dt:decide ((0:Int)<txn)=true:=by simp;omega
  have g2:=hid (show 0<txn by omega);clear e5;go_wp2_with ((with_reducible refine hV 6 ?_);refine wV 0 (zQ (qo 4)).toArray (show w1.drew.heap[_]?=_ from a3.o) ?_);refine jr (an:=qo 4) 6 rfl rfl rfl (show w1.drew.heap[_]?=_ from a3.o) rfl ⟨qo 4,rfl,by decide,(zw.below a1.o.drew).setRow (by omega) _,?_⟩;exact HP.o _ _ _ (f0.o g2.o w1.drew a1.o.drew) (js.setRow (show w1.drew.heap[_]?=_ from a3.o) _)
end
section
variable {bz:Nat->Prop}
theorem zkV (H a6 r:Nat) (F:Nat->Prop) (cur:Nat->Nat->List UInt8) (ts:Nat->Tn) (boots:Nat) (l:Tl) (q:Rq) (w:World) (P:An->World->Prop) (a9:zN bz w H a6 F cur ts boots) (R:r<4) (O:(ts r).ac=some l)
  (d3:q.kd=2) (hP:∀ a W h,P a W->js W h->P a h) (e0:l.hs.length<=6) (he:0<=l.ep/\l.ep<8796093022208) (hn:0<=l.nx/\l.nx<1048575)
  (c2:l.hs.length=6->∀ W,zd w W->P (qo 8) W)
  (c1:l.hs.length≠6->∀ W,zN bz W H a6 F cur (vz ts F r { ts r with ac:=some { l with nx:=l.nx+1,hs:=aput l.hs (l.ep*1048576+(l.nx+1)) 0 } }) boots->P ⟨0,l.ep*1048576+(l.nx+1),{ data:=#[] },none,0,0,none,0,0⟩ W) :
  zc 23 #[.pointer (some ⟨H,0,none⟩),.pointer (some ⟨H,1+r*5,none⟩),.agg (zK q).toArray] w fun e h=>∃ a,e=.returned (.agg (zQ a).toArray)/\a.Z≠10/\zw bz w h/\P a h:=by
 obtain ⟨w1,z⟩:=ex (QJ w q);have a0:zd w w1:=by rw [z];exact yP w q
 have a1:w1.heap[w.heap.size]?=some (.cells (zK q).toArray 37 (0,0)):=by rw [z];exact ZO w q
 have b9:w1.heap[w.heap.size+1]?=some (.cells qI 31 (0,0)):=by rw [z];exact Zs w q
 have k0:=xV (Value.int .i64 q.kd) 0 a1;rw [d3] at k0;have L:=a9.below a0;obtain ⟨d2,d7,d8,_,_⟩:=qs.b6 L (by omega) R O;obtain ⟨hT,d4⟩:=L.ac r l R O;have c6:(w.alloc (.cells (zK q).toArray 37)).alloc (.cells qI 31)=w1:=z.symm;obtain ⟨X,d6,E,HP,d1,a8,Y⟩:=zi7 a0 a1 b9 hP c6 L hT;clear z c6 a0 a1 b9 hP L a9 hT d4;obtain ⟨c8,a7⟩:=zi2 c2 c1;clear c2 c1 d2;go_enter func23,ntmps23;go_upto_region 1 with fail;rw [d1.o];by_cases u:l.hs.length=6
 ·have D:=hid (Dk.open_full l.kb l.km l.ep l.nx l.hs w1 Y.o.dk u);have U:=hid u;clear u;go_upto_region 24 with ((with_reducible refine aV 34 D.o ?_);rintro e2 w2 ⟨rfl,d5⟩;subst d5);go_wp2_with ((with_reducible refine hV 6 ?_);refine wV 0 (zQ (qo 8)).toArray E.o ?_);refine jr (an:=qo 8) 6 rfl rfl rfl E.o rfl ⟨qo 8,rfl,by decide,(zw.below X.o).setRow (by omega) _,?_⟩;exact HP.o _ _ _ (c8.o U.o _ X.o) (js.setRow E.o _)
 ·have D:=hid (Dk.open_more l.kb l.km l.ep l.nx l.hs w1 Y.o.dk (by omega) he hn);have U:=hid u;clear u;obtain ⟨hd,a3⟩:=ex (l.ep*1048576+(l.nx+1));have d9:(hd == 0)=false:=by simp;omega
  rw [<- a3] at D a7;have HD:=hid a3;clear a3;go_upto_region 25 with ((with_reducible refine aV 34 D.o ?_);rintro e2 w2 ⟨rfl,c0,a5⟩);have a4:=zw.cv (qs.fb a8.o R O) Y.o.dk a5;have c7:=a4 _ _ _ (by decide) E.o;have c3:=a8.o.cv R O c0 a5;have c5:=a7.o U.o w2 c3;obtain ⟨Z,d0⟩:=zi2 c7 c5;have c9:=hid ((zw.below X.o).trans a4);clear a4 c7 c3 c5 c0 a5;go_wp2_with ((with_reducible refine hV 6 ?_);refine wV 0 (zQ ⟨0,hd,{ data:=#[] },none,0,0,none,0,0⟩).toArray Z.o ?_);refine jr (an:=⟨0,hd,{ data:=#[] },none,0,0,none,0,0⟩) 6 rfl rfl rfl Z.o rfl ⟨⟨0,hd,{ data:=#[] },none,0,0,none,0,0⟩,rfl,by simp,c9.o.setRow (by omega) _,?_⟩;exact HP.o _ _ _ d0.o (js.setRow Z.o _)
theorem zio (H c8 r:Nat) (F:Nat->Prop) (cur:Nat->Nat->List UInt8) (ts:Nat->Tn) (boots:Nat) (l:Tl) (q:Rq) (w:World) (P:An->World->Prop) (a7:zN bz w H c8 F cur ts boots) (hr:r<4) (hl:(ts r).ac=some l)
  (d8:q.kd=13) (hP:∀ a W u,P a W->js W u->P a u) (d7:l.s.N.length<=900) (c6:∀ y,y∈l.s.N->y.rw.t<=255/\y.rw.k.length<=15/\y.rw.v.length<=21)
  (c0:(zF l.s.ts).length≠0->∀ W,zd w W->P (qo 4) W)
  (c1:(zF l.s.ts).length=0->∀ A c W,zd w W->W.ownsRow w.heap.size 5 1 (.slice A (jG (l.s.N.map (·.rw))).length c) (jG (l.s.N.map (·.rw))).length (zE (jG (l.s.N.map (·.rw))))->P ⟨0,0,{ data:=#[] },none,0,0,A,(jG (l.s.N.map (·.rw))).length,c⟩ W) :
  zc 23 #[.pointer (some ⟨H,0,none⟩),.pointer (some ⟨H,1+r*5,none⟩),.agg (zK q).toArray] w fun e u=>∃ a,e=.returned (.agg (zQ a).toArray)/\a.Z≠10/\zw bz w u/\P a u:=by
 obtain ⟨w1,z⟩:=ex (QJ w q);have X:zd w w1:=by rw [z];exact yP w q
 have Y:w1.heap[w.heap.size]?=some (.cells (zK q).toArray 37 (0,0)):=by rw [z];exact ZO w q
 have a8:w1.heap[w.heap.size+1]?=some (.cells qI 31 (0,0)):=by rw [z];exact Zs w q
 have k0:=xV (Value.int .i64 q.kd) 0 Y;rw [d8] at k0;have L:=a7.below X;obtain ⟨e4,d4,e5,_,_⟩:=qs.b6 L (by omega) hr hl;obtain ⟨hT,d9⟩:=L.ac r l hr hl;have c7:(w.alloc (.cells (zK q).toArray 37)).alloc (.cells qI 31)=w1:=z.symm;obtain ⟨E,e3,h,HP,d3,e1,U⟩:=zi7 X Y a8 hP c7 L hT;clear z c7 X Y a8 hP L a7 hT d9;obtain ⟨a6,O,d2⟩:=zi3 c0 c1 c6;have c2:=zdD l.a.S l.s.ts w1 U.o.sto.aq.row U.o.sto.aq.len;have R:=hid c2;clear c0 c1 d4 c6 c2;go_enter func23,ntmps23;go_upto_region 1 with fail;rw [d3.o];obtain ⟨n,hn⟩:=ex ((zF l.s.ts).length);rw [<- hn] at R a6 O;clear hn;obtain ⟨pb,a3⟩:=ex (jG (l.s.N.map (·.rw)));rw [<- a3] at O;have d1:=hid a3;clear a3;cases n with
 | zero =>have d0:=hid (zpU l.a l.b cur l.s w1 U.o.sto d7);go_upto_region 20 with ((with_reducible refine aV 31 R.o ?_);rintro e2 w2 ⟨rfl,a4⟩;subst a4);go_wp2_with (first|((with_reducible refine aV 33 d0.o ?_);rintro e6 w3 ⟨v3,rfl,c3,a9⟩;obtain ⟨A3,d5,rfl⟩:=own_slice c3;have a1:(l.s.N.map (·.rw)).length=l.s.N.length:=(by simp);have a0:=ziF (l.s.N.map (·.rw)) A3 d5 _ w3 (by rw [a1];exact c3) (by omega) (by intro y hy;obtain ⟨e0,hz,rfl⟩:=List.mem_map.1 hy;exact d2.o e0 hz);rw [a1,<- d1.o] at a0;have c9:=hid a0;clear a0 a1)|((with_reducible refine aV 32 c9.o ?_);rintro e7 w4 ⟨v4,rfl,c5,d6⟩;obtain ⟨D,c4,rfl⟩:=own_slice c5;have Z:=B_call a9 d6;have a5:=zg h.o Z (zj h.o))|((with_reducible refine hV 6 ?_);refine wV 0 (zQ ⟨0,0,{ data:=#[] },none,0,0,D,pb.length,c4⟩).toArray a5 ?_));have b9:=B_call E.o Z;have e8:=Z.size;have e9:=E.o.size;have f0:=a9.size;refine jr (an:=⟨0,0,{ data:=#[] },none,0,0,D,pb.length,c4⟩) 6 rfl rfl rfl a5 rfl ⟨⟨0,0,{ data:=#[] },none,0,0,D,pb.length,c4⟩,rfl,by simp,(zw.below b9).setRow (by omega) _,?_⟩;exact HP.o _ _ _ (O.o (by trivial) D c4 w4 b9 (jM c5 (by omega))) (js.setRow a5 _)
 | succ m =>
  have q1:(0:Int)<((m:Int)+1):=by omega
  go_upto_region 19 with ((with_reducible refine aV 31 R.o ?_);rintro e2 w2 ⟨rfl,a4⟩;subst a4);go_wp2_with ((with_reducible refine hV 6 ?_);refine wV 0 (zQ (qo 4)).toArray h.o ?_);refine jr (an:=qo 4) 6 rfl rfl rfl h.o rfl ⟨qo 4,rfl,by decide,(zw.below E.o).setRow (by omega) _,?_⟩;exact HP.o _ _ _ (a6.o (by simp) _ E.o) (js.setRow h.o _)
end
section
variable {bz:Nat->Prop}
def uP (ct boots:Nat):Nat:=ct*1048576 ||| boots
theorem zfU {ct boots:Nat} (h:ct<1000000) (u:boots<1000000):uP ct boots<2199023255552:=by have:ct*1048576 ||| boots<2 ^ 40:=Nat.or_lt_two_pow (by omega) (by omega);unfold uP;omega
theorem zfV (H D z ct boots:Nat) (c:Nat->T5) (w:World) (hb:w.heap[H]?=some (.cells (hC D c boots) 73 (0,0))) (Z:ct<1000000) (h2:boots<1000000) :
  zc 45 #[.pointer (some ⟨H,0,none⟩),.agg #[.int .i64 z,.int .u64 ct]] w fun e w'=>e=.returned (.int .i64 (uP ct boots))/\zd w w':=by
 obtain ⟨w1,u⟩:=ex (w.alloc (.cells #[.int .i64 z,.int .u64 ct] 68));have E:zd w w1:=by rw [u];exact B_alloc (zf _ _) _
 have O:w1.heap[w.heap.size]?=some (.cells #[.int .i64 z,.int .u64 ct] 68 (0,0)):=by rw [u];exact zo _ _ rfl
 have L:=zg hb E (zj hb);have a1:bits .or .i64 ((ct:Int)*1048576) (boots:Int)=((uP ct boots:Nat):Int):=by
  have:=Dk.i64_or_nat (ct*1048576) boots (by omega) (by omega);have X:((ct*1048576:Nat):Int)=(ct:Int)*1048576:=by omega
  rw [X] at this;exact this
 have x1:IntKind.i64.wrap (ct:Int)=ct:=by rw [zv];omega
 have x2:IntKind.i64.wrap ((ct:Int)*1048576)=(ct:Int)*1048576:=by rw [zv];omega
 have Y:=And.intro L O;obtain ⟨R,U⟩:=zi2 E u;clear E O L u hb;go_enter func45,ntmps45;go_upto_region 1 with fail;rw [<- U.o];refine sV [] 10 (fun w'=>jK w' H (hC D c boots) 73/\jK w' w.heap.size #[.int .i64 z,.int .u64 ct] 68) Y fun a0=>?_;refine pV 0 ?_;refine cV 1 (fun _ h=>xV (Value.int .u64 ct) 1 h.2) ?_;refine kV 2 rfl (Or.inl ⟨by rfl,fun _ h=>(by go_simp;with_reducible rfl)⟩) ?_;refine pV 3 ?_;refine pV 4 ?_;refine pV 5 ?_;refine pV 6 ?_;refine cV 7 (fun _ h=>xV _ 21 h.1 (zqE D c boots)) ?_;refine pV 8 ?_;refine pV 9 ?_;refine dV ?_;go_wp2_with fail;go_ret;exact ⟨by first | rfl | simp,R.o.drew⟩
end
end Go.Proofs.YtechnoogjhohfaaGreat
