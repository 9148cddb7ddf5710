import Derived.Test.YtechnoogjhohfaaGreatS24
import Derived.Test.YtechnoogjhohfaaGreatS8
import Derived.StillTailTactics
set_option maxRecDepth 100000
set_option maxHeartbeats 6400000
set_option linter.unusedVariables false
set_option linter.unusedSimpArgs false
namespace Go.Proofs.YtechnoogjhohfaaGreat
open Go.RowKit Go.Lib
open YtechnoogjhohfaaGreatW Go.Proofs.Tryz Go.Proofs.YtechnoogjhohfaaGreat.Tryz
def Tx.bt (x:Tx):Nat × Tx:=if x.ag.length=4 then (0,x) else (x.ag.length+1,{ x with ag:=x.ag++[x.I.length] })
def Tx.b6 (x:Tx) (n:Int):Option (Nat × Tx):=if n<1∨(x.ag.length:Int)<n then none else (x.ag[n.toNat-1]?).map fun k=>(k,{ x with ag:=x.ag.take n.toNat })
theorem zlY {w:World} {B t:Nat} {A:Option Addr} {n c:Nat} {xs:List Value} (h:w.ownsRow B t 1 (.slice A n c) n xs) {k:Nat} {v:Value} (z:xs[k]?=some v):∃ g,A=some ⟨g,0,none⟩/\g<w.heap.size/\n<=c/\w.cell? ⟨g,k,none⟩=some v:=by
 have Y:=(zr.1 z).1;obtain ⟨h0,h⟩:=h;rcases h with ⟨_,Z⟩ | ⟨g,cap,cur,R,_,u,L,_,X,O⟩
 ·omega
 ·injection R with D U E;subst D E;refine ⟨g,rfl,zi u,L,?_⟩;rw [ze w g _ cur t (0,0) u,<- z,<- O,List.getElem?_take_of_lt (by omega)];simp
theorem zlF (l:List Nat) (k:Nat):uO (l++[k])=uO l++[.int .i64 k]:=by simp [uO]
theorem zpB (T:Nat) (x:Tx) (G:Nat->Prop) (w:World) (h:vz w T x G) (hx:x.ok) :
  zc 115 #[.pointer (some ⟨T,0,none⟩)] w fun e w'=>e=.returned (.int .i64 x.bt.1)/\∃ G',vz w' T x.bt.2 G'/\zA G w w'/\qN w G G':=by
 have c3:=hx.s4;have c2:=hx.len;have a1:=hx.n8;have H:=hid h;obtain ⟨lv,sv,Y,Z,e3,e4,e5⟩:=h.ex;obtain ⟨A,X,rfl⟩:=own_slice e3;obtain ⟨A1,c1,rfl⟩:=own_slice Z;have k1:=xV (Value.slice A x.ag.length X) 1 Y;obtain ⟨z,a4,D,a9,b9⟩:=zi5 Y Z e3 e4 e5;clear h Y Z e3 e4 e5;unfold Tx.bt;by_cases h4:x.ag.length=4
 ·have q1:((x.ag.length:Int) == 4)=true:=by rw [h4];rfl
  go_enter func115,ntmps115;go_wp2_with fail;go_ret;exact ⟨rfl,G,H.o,zA.refl G w,fun k hk=>.inl hk⟩
 have q1:((x.ag.length:Int) == 4)=false:=by rw [beq_eq_false_iff_ne];omega
 go_enter func115,ntmps115;go_upto_region 3 with fail;clear k1;refine sV [11,14] 15 (fun w'=>zH w' T 1 (.slice A x.ag.length X)/\zH w' T 0 (.slice A1 x.I.length c1)) ⟨(ze w T 1 _ _ _ z.o).trans rfl,(ze w T 0 _ _ _ z.o).trans rfl⟩ fun R=>?_;refine pV 0 ?_;refine pV 1 ?_;refine pV 2 ?_;refine pV 3 ?_;refine tV 4 ?_;refine pV 5 ?_;refine pV 6 ?_;refine pV 7 ?_;refine tV 8 ?_;refine pV 9 ?_;refine oV 10 fun K u=>?_;refine yv 51 3 1 8 (.tmp 22) rfl (.int .i64 x.I.length) (by rfl) underlying51 zct (by rfl) (by omega) (by omega) ?_;refine u.out _ _ ⟨yK R.1 _,yK R.2 _⟩ (fun R=>?_);clear u K;try simp only [pS]
 refine lV 11 fun K u=>?_;refine Qd (.tmp 17) (.tmp 23) 51 3 1 8 rfl underlying51 zct (by omega) (.slice A x.ag.length X) x.ag.length (uO x.ag) 0 (by rfl) (own_same D.o fun q E=>qb w.drew _ q (D.o.lt q E).2) _ 1 1 [.int .i64 x.I.length] _ (by rfl) (zL.bk (zo _ _ rfl) rfl) (by intro c4 hu;simp at hu;subst hu;rfl) (by omega) (by omega) (zT _) ?_;intro v8 w8 a3 a0 a1;obtain ⟨L,O,rfl⟩:=own_slice a3;have a5:=hid <| qq (zw (show w.drew.heap[T]?=_ from z.o) _) a0 (own_ne D.o z.o (by decide));refine u.out _ _ ?_;clear u K;try simp only [pS]
 refine pV 12 ?_;refine pV 13 ?_;refine lV 14 fun K u=>?_;refine jz 51 (.tmp 26) (.tmp 24) rfl T 1 _ 208 (.slice L (x.ag.length+1) O) (by rfl) (by rfl) (by kernel_rfl) a5.o (by simp) rfl ?_;refine u.out _ _ ?_;clear u K;try simp only [pS]
 refine dV ?_;have U:zd w (w.drew.alloc (.cells #[.int .i64 x.I.length] 3)):=B_alloc (zf _ w).drew _;obtain ⟨G1,a8,a6,a7⟩:=(H.o.below U).h2 (l':=x.ag++[x.I.length]) (zw (show w.drew.heap[T]?=_ from z.o) _) (own_same a4.o fun q E=>qb w.drew _ q (a4.o.lt q E).2) (own_same D.o fun q E=>qb w.drew _ q (D.o.lt q E).2) a9.o b9.o a0 (by rw [zl,List.length_singleton,zlF];exact a3) (a1.imp id .inl);have g2:(w8.setCell ⟨T,1,none⟩ (.slice L (x.ag.length+1) O)).heap[T]?=some (.cells #[.slice A1 x.I.length c1,.slice L (x.ag.length+1) O,.int .i64 x.ops] 208 (0,0)):=by rw [zB _ _ 1 _ _ _ a5.o];rfl
 have g3:=xV (Value.slice L (x.ag.length+1) O) 1 g2;have c0:=hid a8;have HK:=hid ((zA.ak (M:=G) U).trans a6 (fun _ h=>.inl h));have HN:=hid (a7.mono U.size);clear a8 a6 a7 U g2 a3 a0 a1 R;go_wp2_with fail;go_ret;exact ⟨by simp,G1,c0.o,HK.o,HN.o⟩
theorem zoF (T:Nat) (x:Tx) (G:Nat->Prop) (n:Int) (w:World) (h:vz w T x G) (hx:x.ok) :
  zc 146 #[.pointer (some ⟨T,0,none⟩),.int .i64 n] w fun e w'=>match x.b6 n with
   | none=>e=.returned (.tuple #[.int .i64 0,.bool false])/\vz w' T x G/\zA G w w'
   | some (k,y)=>e=.returned (.tuple #[.int .i64 k,.bool true])/\∃ G',vz w' T y G'/\zA G w w'/\qN w G G':=by
 have c2:=hx.s4;have H:=hid h;obtain ⟨lv,sv,u,E,z,L,O⟩:=h.ex;obtain ⟨A,D,rfl⟩:=own_slice z;have k1:=xV (Value.slice A x.ag.length D) 1 u;have k2:=zI w T 1 _ _ u;by_cases Z:n<1
 ·have q1:decide (n<1)=true:=by simpa using Z
  have X:=hid u;clear h u E z L O;rw [show x.b6 n=none from if_pos (by omega)];simp only;go_enter func146,ntmps146;go_wp2_with fail;go_ret2;exact ⟨rfl,H.o,zA.refl G w⟩
 have q1:decide (n<1)=false:=by simpa using Z
 by_cases h2:(x.ag.length:Int)<n
 ·have q2:decide ((x.ag.length:Int)<n)=true:=by simpa using h2
  have X:=hid u;clear h u E z L O;rw [show x.b6 n=none from if_pos (by omega)];simp only;go_enter func146,ntmps146;go_wp2_with fail;go_ret2;exact ⟨rfl,H.o,zA.refl G w⟩
 have q2:decide ((x.ag.length:Int)<n)=false:=by simpa using h2
 obtain ⟨m,rfl⟩:∃ m:Nat,n=(m:Int)+1:=⟨n.toNat-1,by omega⟩;have hm:m<x.ag.length:=by omega
 obtain ⟨k,R⟩:∃ k,x.ag[m]?=some k:=⟨_,zX hm⟩;obtain ⟨g,rfl,hg,c1,a1⟩:=zlY z (k:=m) (v:=.int .i64 k) (by unfold uO;rw [List.getElem?_map,R];rfl);have s1:IntKind.i64.wrap ((m:Int)+1-1)=(m:Int):=by rw [zu];omega
 have q3:(0:Int)<=(m:Int)+1:=by omega
 have q4:(m:Int)+1<=(D:Int):=by omega
 have q5:(0:Int)<=(m:Int):=by omega
 have q6:(m:Int)<(m:Int)+1:=by omega
 have q7:(m:Int)+1-1=(m:Int):=by omega
 have U:=zhD z (m:=m+1) (by omega);rw [Nat.mul_one] at U;have a0:uO (x.ag.take (m+1))=(uO x.ag).take (m+1):=by unfold uO;rw [List.map_take]
 have a4:(x.ag.take (m+1)).length=m+1:=by rw [qf];omega
 obtain ⟨G1,a6,a3,a5⟩:=h.h2 (w1:=w) (v':=.slice (some ⟨g,0,none⟩) (m+1) D) (l':=x.ag.take (m+1)) u E z L O ⟨rfl,rfl,rfl,za _,fun _ _ _=>rfl⟩ (by rw [a0,a4];exact U) (.inl rfl);have b9:g≠T:=fun e=>by have:=own_ne z u (by decide);exact this (by rw [e];rfl)
 have k3:(w.setCell ⟨T,1,none⟩ (.slice (some ⟨g,0,none⟩) (m+1) D)).cell? ⟨g,m,none⟩=some (.int .i64 k):=(yt (zt _ _ _ _ (fun e=>b9 e))).trans a1;have Y:(w.setCell ⟨T,1,none⟩ (.slice (some ⟨g,0,none⟩) (m+1) D)).heap[T]?=some (.cells #[lv,.slice (some ⟨g,0,none⟩) (m+1) D,.int .i64 x.ops] 208 (0,0)):=by rw [zB _ _ 1 _ _ _ u];rfl
 have g3:=xV (Value.slice (some ⟨g,0,none⟩) (m+1) D) 1 Y;obtain ⟨X,a9,a7,a8,c0⟩:=zi5 u a6 a3 a5 R;rw [show x.b6 ((m:Int)+1)=some (k,{ x with ag:=x.ag.take (m+1) }) by
  unfold Tx.b6;rw [if_neg (by omega),show ((m:Int)+1).toNat=m+1 by omega,show m+1-1=m by omega,R];rfl]
 simp only;clear h u E z L O a6 a3 a5 U a0 a4 a1 Y R H;go_enter func146,ntmps146;go_upto_region 4 with fail;go_wp2_with fail;go_ret2;exact ⟨rfl,G1,a9.o,a7.o,a8.o⟩
def St.db (s:St) (r nb txn ops:Nat):Option It->Nat × St
 | none=>(5,s)
 | some x=>if 8<=ops then (8,s) else (0,s.ready.al r nb 3 txn x.pg x.sl none)
def St.bs (s:St) (r nb txn ops t:Nat) (k:List UInt8):Nat × St :=
 if keyB s.lk txn t (zb k)=false then (6,s) else ({ s with lk:=keyS s.lk txn t (zb k) }:St).db r nb txn ops (yX s.N ⟨t,k,[]⟩)
theorem zbI {u:List It} {r:Rw} {y:It} (h:yX u r=some y):y∈u:=by
 unfold yX at h;split at h
 ·rename_i z D;split at h
  ·injection h with h;rw [<- h];exact zC D
  ·cases h
 ·cases h
theorem zqa (a:Va) (b:Vb) (cur:Nat->Nat->List UInt8) (s:St) (txn T t:Nat) (k:List UInt8) (x:Tx) (w:World) (a4:zm w a b cur s) (d0:1<=txn) (d1:txn<=3) (a8:s.ts[txn]?=some (some (T,x))) (ht:t<=1000) (hk:k.length<=1000) (hW:WF s.lk)
  (c8:qe s.N) (c6:s.N.length<=900) (f0:∀ y,y∈s.N->y.pg<6/\y.sl<5) (e9:s.sto.J+1<4294967296) :
  zc 113 #[.pointer (some ⟨a.S,0,none⟩),.int .i64 txn,.int .i64 t,.string (zb k)] w fun e w'=>∃ nb b' cur',e=.returned (.int .i64 (s.bs a.r nb txn x.ops t k).1)/\zm w' a b' cur' (s.bs a.r nb txn x.ops t k).2/\qv w w' (qd a b s) (qd a b' (s.bs a.r nb txn x.ops t k).2) cur cur' a.r:=by
 have z:=hid (zlJ a4 hW (txn:=txn) (t:=t) (k:=k) (by omega) ht hk);have k0:=a4.c0;clear a4;cases u:keyB s.lk txn t (zb k) with
 | false =>
  have hd:∀ nb,s.bs a.r nb txn x.ops t k=(6,s):=fun nb=>by unfold St.bs;rw [if_pos u]
  have c7:=zhn u;rw [u] at z;obtain ⟨L,d5⟩:=zi2 hd c7;clear hd u c7;go_enter func113,ntmps113;go_wp2_with ((with_reducible refine aV 87 z.o ?_);rintro e3 w1 ⟨rfl,b1,D,O⟩);go_ret;refine ⟨0,b1,cur,?_⟩;rw [L.o];rw [d5.o] at D O;exact ⟨rfl,D,O⟩
 | true =>
  rw [u] at z;obtain ⟨fi,a6⟩:=ex (yX s.N ⟨t,k,[]⟩);obtain ⟨s1,a0⟩:=ex ({ s with lk:=keyS s.lk txn t (zb k) }:St);rw [<- a0] at z;have hd:∀ nb,s.bs a.r nb txn x.ops t k=s1.db a.r nb txn x.ops fi:=fun nb=>by unfold St.bs;rw [if_neg (by rw [u];simp),a0,a6]
  have h1:s1.N=s.N/\s1.ts=s.ts/\s1.sto=s.sto:=by rw [a0];exact ⟨rfl,rfl,rfl⟩
  obtain ⟨L,c0,h⟩:=zi3 hd a6 h1;clear hd u a6 a0 h1;go_enter func113,ntmps113;go_upto_region 3 with ((with_reducible refine aV 87 z.o ?_);rintro e3 w1 ⟨rfl,b1,D,O⟩);have hf:=zeO D (by rw [h.o.1];exact c8) (by rw [h.o.1];exact c6) t k;rw [h.o.1,<- c0.o] at hf;obtain ⟨HF,R,a3⟩:=zi3 hf D O;clear hf D O z;cases fi with
  | none =>go_wp2_with (first|((with_reducible refine aV 90 HF.o ?_);rintro e4 w2 ⟨rfl,E⟩)|((with_reducible refine hV 9 ?_);refine nV (Zy none) (KA none) ?_));go_ret;refine ⟨0,b1,cur,?_⟩;rw [L.o];exact ⟨rfl,R.o.below (B_alloc E _),a3.o.call (B_alloc E _)⟩
  | some y =>
   have HY:=hid (f0 y (zbI c0.o.symm));go_upto_region 6 with (first|((with_reducible refine aV 90 HF.o ?_);rintro e4 w2 ⟨rfl,E⟩)|((with_reducible refine hV 9 ?_);refine nV (Zy (some y)) (KA (some y)) ?_));have Y:=zo w2 (.cells (Zy (some y)) 136) rfl;have Z:=B_alloc E (.cells (Zy (some y)) 136);generalize w2.alloc (.cells (Zy (some y)) 136)=w3 at Y Z ⊢;obtain ⟨d9,hX⟩:=ex w2.heap.size;rw [<- hX] at Y ⊢;have X:=R.o.below Z;have c4:¬ qd a b1 s1 d9:=fun hy=>by have:=R.o.lt hy;have:=E.size;omega
   have a7:=QT a.S txn s.ts (some (T,x)) w3 (by rw [<- h.o.2.1];exact X.aq.row) d0 d1 a8;simp only [qk] at a7;obtain ⟨d2,f3⟩:=X.aq.tx txn T x (by rw [h.o.2.1];exact a8);have c2:=hid a7;have c1:=hid (zji T x (b1.G txn) w3 d2);have a1:=hid X;have b9:=hid (a3.o.call Z);obtain ⟨d8,d6⟩:=zi2 Y c4;clear a7 d2 f3 X Y Z E c4 R a3 HF hX;by_cases U:8<=x.ops
   ·have e2:decide (8<=x.ops)=true:=decide_eq_true U;go_wp2_with (first|((with_reducible refine aV 88 c2.o ?_);rintro e5 w4 ⟨rfl,f1⟩;subst w4)|((with_reducible refine aV 89 c1.o ?_);rintro e6 w4 ⟨rfl,f2⟩;subst w4));go_ret;refine ⟨0,b1,cur,?_⟩;rw [L.o,show s1.db a.r 0 txn x.ops (some y)=(8,s1) from if_pos U];exact ⟨rfl,a1.o,b9.o⟩
   have e2:decide (8<=x.ops)=false:=decide_eq_false U;have d7:=hid (zbY a b1 cur s1 w3 a1.o (by rw [h.o.2.2];exact e9));go_upto_region 11 with (first|((with_reducible refine aV 88 c2.o ?_);rintro e5 w4 ⟨rfl,f1⟩;subst w4)|((with_reducible refine aV 89 c1.o ?_);rintro e6 w4 ⟨rfl,f2⟩;subst w4)|((with_reducible refine aV 63 d7.o ?_);rintro f6 w5 ⟨rfl,b5,e0,c3,a5⟩));have a9:=a5.U d6.o d8.o;have f4:=xV (Value.int .i64 y.pg) 3 a9;have f5:=xV (Value.int .i64 y.sl) 4 a9;have c5:=zaz a b5 e0 s1.ready 3 txn y.pg y.sl T x none w5 c3 (.inl rfl) d0 d1 (by rw [(Zv s1).2.1,h.o.2.1];exact a8) (fun _=>by omega) HY.o.1 HY.o.2 trivial (by rw [(Zv s1).1,h.o.1];exact c8) (by rw [(Zv s1).1,h.o.1];exact c6) (zbZ a1.o);have d3:Hid (zc 92 #[.pointer (some ⟨a.S,0,none⟩),.int .i64 3,.int .i64 txn,.int .i64 y.pg,.int .i64 y.sl,.string { data:=#[] }] _ _):=hid c5;have d4:=hid (b9.o.trans a5);clear c5 c3 a5 a9;go_wp2_with ((with_reducible refine aV 92 d3.o ?_);rintro f7 w6 ⟨rfl,nb,b6,e1,f8,e7,e8⟩);go_ret;refine ⟨nb,b6,e1,?_⟩;rw [L.o,show s1.db a.r nb txn x.ops (some y)=(0,s1.ready.al a.r nb 3 txn y.pg y.sl none) from if_neg U];exact ⟨rfl,e7,d4.o.trans e8⟩
def St.a4 (s:St) (r txn:Nat) (nbs:Nat->Nat) (T:Nat) (x:Tx) (n:Int):Nat × St:=match x.b6 n with
 | none=>(5,s)
 | some (k,y)=>(0,St.ai r txn nbs 0 (x.I.length-k) { s with ts:=s.ts.set txn (some (T,y)) })
theorem zgL {x y:Tx} {n:Int} {k:Nat} (h:∀ k,k∈x.ag->k<=x.I.length) (hb:x.b6 n=some (k,y)):k<=x.I.length/\y.I=x.I/\y.ops=x.ops/\y.ag.length<=x.ag.length:=by
 unfold Tx.b6 at hb;split at hb
 ·cases hb
 ·cases u:x.ag[n.toNat-1]? with
  | none=>rw [u] at hb;cases hb
  | some k' =>rw [u] at hb;simp only [qk,jd,Prod.mk.injEq] at hb;obtain ⟨rfl,rfl⟩:=hb;exact ⟨h _ (zC u),rfl,rfl,by simp only [qf];omega⟩
theorem zdA {α:Type} {l:List α} {i:Nat} {x:α} (h:l[i]?=some x):l.set i x=l:=by obtain ⟨u,rfl⟩:=zr.1 h;exact List.set_getElem_self u
theorem zlc (a:Va) (b:Vb) (cur:Nat->Nat->List UInt8) (s:St) (txn T:Nat) (n:Int) (x:Tx) (w:World) (h:zm w a b cur s) (a9:1<=txn) (b9:txn<=3) (u:s.ts[txn]?=some (some (T,x))) (c7:qe s.N) (c6:s.N.length<=800) (c8:∀ k,k∈x.ag->k<=x.I.length) (hfit:s.sto.Q.length+x.I.length*395<=14336) :
  zc 116 #[.pointer (some ⟨a.S,0,none⟩),.int .i64 txn,.int .i64 n] w fun e w'=>∃ nbs b' cur',e=.returned (.int .i64 (s.a4 a.r txn nbs T x n).1)/\(∀ k y,x.b6 n=some (k,y)->(s.a4 a.r txn nbs T x n).2.sto.Q.length<=s.sto.Q.length+(x.I.length-k)*395)/\zm w' a b' cur' (s.a4 a.r txn nbs T x n).2/\qv w w' (qd a b s) (qd a b' (s.a4 a.r txn nbs T x n).2) cur cur' a.r:=by
 have a5:=QT a.S txn s.ts (some (T,x)) w h.aq.row a9 b9 u;simp only [qk] at a5;obtain ⟨c0,a6⟩:=h.aq.tx txn T x u;have R:=zoF T x (b.G txn) n w c0 a6;obtain ⟨a7,D,H⟩:=zi3 a5 a6 h;have X:∀ nbs,s.a4 a.r txn nbs T x n=match x.b6 n with
  | none=>(5,s)
  | some (k,y)=>(0,St.ai a.r txn nbs 0 (x.I.length-k) { s with ts:=s.ts.set txn (some (T,y)) }):=fun nbs=>rfl
 obtain ⟨o,Z⟩:=ex (x.b6 n);have z:=hid (show x.b6 n=o from Z.symm);rw [<- Z] at R;clear h a5 c0 a6;cases o with
 | none =>
  have O:∀ nbs,s.a4 a.r txn nbs T x n=(5,s):=fun nbs=>by rw [X,z.o]
  obtain ⟨a3,a1⟩:=zi2 R O;clear R O X Z;go_enter func116,ntmps116;go_wp2_with (first|((with_reducible refine aV 88 a7.o ?_);rintro e1 w1 ⟨rfl,d0⟩;subst w1)|((with_reducible refine aV 146 a3.o ?_);rintro e2 w2 ⟨rfl,a0,Y⟩));go_ret;obtain ⟨E,L⟩:=H.o.d6 u a0 D.o Y (fun q hq=>.inl hq);rw [zdA u] at E L;refine ⟨fun _=>0,{ b with G:=zZ b.G txn (b.G txn) },cur,?_⟩;rw [a1.o];exact ⟨rfl,fun k y e=>(by rw [z.o] at e;cases e),E,L⟩
 | some p =>
  obtain ⟨k,y⟩:=p;have O:∀ nbs,s.a4 a.r txn nbs T x n=(0,St.ai a.r txn nbs 0 (x.I.length-k) { s with ts:=s.ts.set txn (some (T,y)) }):=fun nbs=>by rw [X,z.o]
  obtain ⟨a3,a1⟩:=zi2 R O;obtain ⟨hk,U,c1,d2⟩:=zgL c8 z.o;clear R O X Z;go_enter func116,ntmps116;go_upto_region 4 with (first|((with_reducible refine aV 88 a7.o ?_);rintro e1 w1 ⟨rfl,d0⟩;subst w1)|((with_reducible refine aV 146 a3.o ?_);rintro e2 w2 ⟨rfl,G2,a0,Y,a8⟩));have d1:y.ok:=⟨by rw [c1];exact D.o.n8,by rw [U,c1];exact D.o.len,zz d2 D.o.s4,by rw [U];exact D.o.al⟩;obtain ⟨E,L⟩:=H.o.d6 u a0 d1 Y a8;have d4:(x.I.length-k)*395<=x.I.length*395:=Nat.mul_le_mul_right _ (Nat.sub_le _ _);have a4:=zja a _ cur _ txn T k (14336-(s.sto.Q.length+(x.I.length-k)*395)) y w2 E a9 b9 (qw (zr.1 u).1) c7 c6 (by rw [U];exact hk) (by
   rw [U];show s.sto.Q.length+(x.I.length-k)*395+(14336-(s.sto.Q.length+(x.I.length-k)*395))<=14336;omega)
  rw [U] at a4;obtain ⟨c2,HE⟩:=zi2 a4 L;clear E L a4 a0 Y a8;go_wp2_with ((with_reducible refine aV 129 c2.o ?_);rintro e3 w3 ⟨rfl,nbs,b3,c3,_,_,_,d3,c4,c5⟩);go_ret;refine ⟨nbs,b3,c3,?_⟩;rw [a1.o];exact ⟨rfl,fun k' y' e=>(by rw [z.o] at e;injection e with e;injection e with e1 e2;subst e1;simp only;omega),c4,HE.o.trans c5⟩
def zde (n:Int):Nat:=((n.tmod 6+6).tmod 6).toNat
theorem zqV (n:Int):(n.tmod 6+6).tmod 6=(zde n:Int)/\zde n<6:=by
 unfold zde;have u:=Int.tmod_lt_of_pos n (show (0:Int)<6 by omega);have z:-6<n.tmod 6:=by
  rcases Int.le_total 0 n with h | h
  ·have:=Int.tmod_nonneg 6 h;omega
  ·obtain ⟨m,rfl⟩:∃ m:Int,n=-m:=⟨-n,by omega⟩;rw [Int.neg_tmod];have:=Int.tmod_lt_of_pos m (show (0:Int)<6 by omega);omega
 have D:=Int.tmod_nonneg 6 (show 0<=n.tmod 6+6 by omega);have E:=Int.tmod_lt_of_pos (n.tmod 6+6) (show (0:Int)<6 by omega);omega
theorem zoo (a:Va) (b:Vb) (cur:Nat->Nat->List UInt8) (s:St) (n:Int) (w:World) (h:zm w a b cur s) (hn:iok n) :
  zc 35 #[.pointer (some ⟨a.S,0,none⟩),.int .i64 n] w fun e w'=>e=.returned (.int .i64 0)/\∃ u cur',zm w' a u cur' { s with sto:=s.sto.bc (zde n) }/\qv w w' (qd a b s) (qd a u { s with sto:=s.sto.bc (zde n) }) cur cur' a.r:=by
 obtain ⟨m,hm,a0,a1⟩:∃ m:Int,n.tmod 6=m/\(m+6).tmod 6=(zde n:Int)/\-6<m/\m<6:=by
  refine ⟨_,rfl,(zqV n).1,?_,Int.tmod_lt_of_pos n (by omega)⟩;rcases Int.le_total 0 n with h | h
  ·have:=Int.tmod_nonneg 6 h;omega
  ·obtain ⟨m,rfl⟩:∃ m:Int,n=-m:=⟨-n,by omega⟩;rw [Int.neg_tmod];have:=Int.tmod_lt_of_pos m (show (0:Int)<6 by omega);omega
 have x1:IntKind.i64.wrap (m+6)=m+6:=by rw [zu];omega
 have L:=hid (zfL a.B a.D a.L a.r (zde n) b.FL b.F cur s.sto w.drew h.drew.sto);have z:=h.c6;have H:=hid h;clear h;go_enter func35,ntmps35;go_upto_region 2 with fail;refine sV [11] 13 (fun w'=>zH w' a.S 6 (.pointer (some ⟨a.B,0,none⟩))) z fun X=>?_;refine pV 0 ?_;refine pV 1 ?_;refine pV 2 ?_;refine tV 3 ?_;refine pV 4 ?_;refine pV 5 ?_;refine pV 6 ?_;refine pV 7 ?_;refine pV 8 ?_;refine pV 9 ?_;refine pV 10 ?_;refine lC 11 L.o ?_;rintro Z w1 ⟨rfl,Y,O,E,D⟩;refine eL ?_;refine pV 12 ?_;refine dV ?_;obtain ⟨R,U⟩:=H.o.drew.bu E D;clear E D X z;go_wp2_with fail;go_ret;exact ⟨rfl,_,O,R,((qv.refl _ _ _ _).call (zf _ _).drew).trans U⟩
theorem zkR {w:World} {v:Value} {l:List Nat} (h:uI w v l):∃ A n c,v=.slice A n c:=by obtain ⟨A,c,e,_⟩:=h;exact ⟨A,_,c,e⟩
def ZC (s:zn):zQ:=⟨7,0,0,0,none,none,[],yx s.fs 3⟩
theorem zht {s:zn} (h:∀ d,d∈yx s.fs 3->d<18446744073709551616):(ZC s).ok:=⟨by simp [ZC],by simp [ZC],by simp [ZC],by simp [ZC],by simp [ZC],trivial,trivial,.inl rfl,.inr ⟨rfl,GC _ _⟩,h⟩
def St.cj (s:St):St:={ s.ready with sto:=(s.ready.sto.au (ZC s.ready.sto)).bo }
theorem znO (a:Va) (b:Vb) (cur:Nat->Nat->List UInt8) (s:St) (w:World) (h:zm w a b cur s) (b9:s.sto.J+1<4294967296) (a3:∀ d,d∈yx s.ready.sto.fs 3->d<18446744073709551616) :
  zc 36 #[.pointer (some ⟨a.S,0,none⟩)] w fun e w'=>e=.returned (.int .i64 0)/\∃ X cur',zm w' a X cur' s.cj/\qv w w' (qd a b s) (qd a X s.cj) cur cur' a.r:=by
 have L:=hid (zbY a b cur s w h b9);have hfit:=zbZ h;have R:=zht a3;have c0:=yU R;unfold St.cj;obtain ⟨s1,a1⟩:=ex s.ready;rw [<- a1] at L hfit R c0 ⊢;clear h a1 a3;go_enter func36,ntmps36;go_upto_region 4 with ((with_reducible refine aV 63 L.o ?_);rintro e1 w1 ⟨rfl,b1,Y,z,Z⟩);obtain ⟨E,a4⟩:=zi2 z Z;have hS:=And.intro z.c5 z.c6;clear z Z L;refine sV [10] 16 (fun w'=>zH w' a.S 5 (.pointer (some ⟨a.L,0,none⟩))/\zH w' a.S 6 (.pointer (some ⟨a.B,0,none⟩))) hS fun u=>?_;refine pV 0 ?_;refine pV 1 ?_;refine pV 2 ?_;refine tV 3 ?_;refine pV 4 ?_;refine pV 5 ?_;refine pV 6 ?_;refine tV 7 ?_;refine oC 8 (zlv a.B a.D a.r a.L s1.sto.hand s1.sto.fs w1.drew E.o.drew.sto.ab (fun f hf b n p e=>(E.o.sto.co f hf b n p e).1)) ?_;rintro e2 w2 ⟨v2,rfl,U,D⟩;obtain ⟨A2,n2,c2,rfl⟩:=zkR U;refine eV ⟨qU u.1 D (ZR u.1),qU u.2 D (ZR u.2)⟩ fun u=>?_;refine pV 9 ?_;refine lC 10 (zbw a b1 Y s1 (ZC s1.sto) (.slice A2 n2 c2) w2 (E.o.drew.below D) R U (by omega)) ?_;rintro e3 w3 ⟨rfl,b3,O,a0⟩;refine eL ?_;refine pV 11 ?_;refine pV 12 ?_;refine pV 13 ?_;refine pV 14 ?_;refine pV 15 ?_;refine dV ?_;have k5:=O.c5;have a6:=hid (zhh a b3 Y _ w3 O);have a5:=hid ((a4.o.call ((zf _ _).drew.trans D)).trans a0);clear O a0 u hS U;go_wp2_with ((with_reducible refine aV 66 a6.o ?_);rintro e4 w4 ⟨rfl,b4,a7,a8,a9⟩);go_ret;exact ⟨rfl,b4,a7,a8,a5.o.trans a9⟩
structure zpR (W:World) (X o:Nat) (v:Value) (its:List It) (b0 t:Nat) (f:List UInt8) (z:ByteArray):Prop where
 ef:Yy W X o v its
 p0:W.heap[b0]?=some (.cells #[.pointer (some ⟨X,o,none⟩)] 186 (0,0))
 p1:W.heap[b0+1]?=some (.cells #[.int .i64 t] 3 (0,0))
 p2:W.heap[b0+2]?=some (.cells #[.string (zb f)] 9 (0,0))
 p3:W.heap[b0+3]?=some (.cells #[.string z] 9 (0,0))
def zox (k z:ByteArray):Bool:=Op.bytesLess k.toList z.toList || (k.toList == z.toList)
def Jk (t:Nat) (z:ByteArray) (x:It):Bool:=decide (x.rw.t=t) && zox (zb x.rw.k) z
def Zk (h:List It) (t:Nat) (z:ByteArray) (m:Nat):List It:=(h.drop m).takeWhile (Jk t z)
theorem zpC {E:List It} {t m k i:Nat} {z:ByteArray} {x:It} (U:i=m+k) (D:k<=(Zk E t z m).length) (R:E[i]?=some x) (h:Jk t z x=true):(Zk E t z m)[k]?=some x:=by
 subst U;unfold Zk at D ⊢;have u:(E.drop m)[k]?=some x:=by rw [List.getElem?_drop];exact R
 obtain ⟨l,O⟩:=ex (E.drop m);rw [<- O] at D u ⊢;clear O R;induction l generalizing k with
 | nil=>cases u
 | cons y l ih =>
  by_cases L:Jk t z y=true
  ·rw [List.takeWhile_cons_of_pos L] at D ⊢;cases k with
   | zero=>simpa using u
   | succ k=>exact ih (by simpa using u) (by simpa using D)
  ·rw [List.takeWhile_cons_of_neg L] at D;obtain rfl:k=0:=by simpa using D
   simp only [List.getElem?_cons_zero,jd] at u;subst u;exact absurd h L
theorem zfl {D:List It} {t m k i:Nat} {z:ByteArray} (U:i=m+k) (u:k<=(Zk D t z m).length) (h:∀ x,D[i]?=some x->Jk t z x=false):k=(Zk D t z m).length:=by
 subst U;unfold Zk at u ⊢;have L:∀ x,(D.drop m)[k]?=some x->Jk t z x=false:=fun x E=>by rw [List.getElem?_drop] at E;exact h x E
 obtain ⟨l,R⟩:=ex (D.drop m);rw [<- R] at u L ⊢;clear R h;induction l generalizing k with
 | nil=>simpa using u
 | cons y l ih =>
  by_cases O:Jk t z y=true
  ·rw [List.takeWhile_cons_of_pos O] at u ⊢;cases k with
   | zero=>have:=L y (by simp);rw [O] at this;cases this
   | succ k=>rw [qc,<- ih (k:=k) (fun x E=>L x (by simpa using E)) (by simpa using u)]
  ·rw [List.takeWhile_cons_of_neg O] at u ⊢;simpa using u
theorem zpD (X o b0 t m:Nat) (f:List UInt8) (z:ByteArray) (v:Value) (u:List It) (I:Nat->World->Prop) (hl:u.length<=1000) (hc:Cut u ⟨t,f,[]⟩ m) (hI:∀ k W,I k W->zpR W X o v u b0 t f z) :
  zgI prog 157 #[] #[.pointer (some ⟨b0,0,none⟩),.pointer (some ⟨b0+1,0,none⟩),.pointer (some ⟨b0+2,0,none⟩),.pointer (some ⟨b0+3,0,none⟩)] (Zk u t z m).length (YR (Zk u t z m)) I:=by
 intro l J w a5 a4 a9 h0;show zc 157 #[.func (.yield l) #[] #[],.pointer (some ⟨b0,0,none⟩),.pointer (some ⟨b0+1,0,none⟩),.pointer (some ⟨b0+2,0,none⟩),.pointer (some ⟨b0+3,0,none⟩)] w _;have c1:=hid a9;have HI:=hid (fun k W a0=>hI k W (a5 k W a0));obtain ⟨U,H0⟩:=zi2 a4 h0;have L:=HI.o 0 w h0;have k0:=xV (Value.pointer (some ⟨X,o,none⟩)) 0 L.p0;have k1:=xV (Value.int .i64 t) 0 L.p1;have k2:=xV (Value.string (zb f)) 0 L.p2;have a3:Hid (zc 131 #[.pointer (some ⟨X,o,none⟩),.agg #[.int .i64 t,.string (zb f),.string { data:=#[] }]] w _):=hid (zdI X o v u ⟨t,f,[]⟩ m w L.ef.cell L.ef.N hl hc);clear a5 a4 a9 h0 hI L;go_enter func157,ntmps157;go_upto_region 2 with ((with_reducible refine aV 131 a3.o ?_);rintro e1 w1 ⟨rfl,a6⟩);have a7:=U.o 0 w w1 H0.o a6;have b9:=hid a7;have c5:=Cut.le hc;clear a6 a7 a3 H0 k0 k1 k2;go_loopw [6] (fun a1 wr=>∃ i k:Nat,i=m+k/\k<=(Zk u t z m).length/\a1=.int .i64 i/\J k wr) (fun a1 _=>(u.length-jF a1).toNat)
 case atStart=>exact ⟨m,0,rfl,zT _,rfl,b9.o⟩
 case round =>
  obtain ⟨i,k,hi,Y,rfl,D⟩:=hrel;have R:=hid hi;clear hi;have hs:=HI.o k wr D;have c4:=hs.ef.cell;have k0:=xV (Value.pointer (some ⟨X,o,none⟩)) 0 hs.p0;have k1:=xV (Value.int .i64 t) 0 hs.p1;have k3:=xV (Value.string z) 0 hs.p3;obtain ⟨A,c,rfl⟩:=own_slice hs.ef.N;by_cases c3:i<u.length
  ·have q0:(0:Int)<=(i:Int):=by omega
   have q1:(i:Int)<(u.length:Int):=by omega
   obtain ⟨x,hx⟩:∃ x,u[i]?=some x:=⟨_,zX c3⟩;obtain ⟨g,rfl,_,hg,_,_,Z⟩:=qW.range hs.ef.N hx;have c6:wr.cell? ⟨g,i*5,none⟩=some (.int .i64 (x.rw.t:Int)):=Z 0 _ (show (zP x)[0]?=some (.int .i64 (x.rw.t:Int)) from rfl);have c7:=Z 1 _ (show (zP x)[1]?=some (.string (zb x.rw.k)) from rfl);obtain ⟨HX,HS,c0⟩:=zi3 hx hs Z;clear hx hs Z;by_cases ht:x.rw.t=t
   ·have q2:((x.rw.t:Int) == (t:Int))=true:=by rw [beq_iff_eq];omega
    cases E:zox (zb x.rw.k) z with
    | true =>
     have q3:=E;unfold zox at q3;have HG:=hid (zpC R.o Y HX.o (by unfold Jk;rw [E,decide_eq_true ht];rfl));clear E;go_upto_region 2 with fail;go_quiet (fail);go_upto_region 4 with fail;have a8:=(zr.1 HG.o).1;have h:=c1.o k _ a8 (U.o k wr (wr.drewN nq) D (below_drewN (zf _ _) nq));rw [Gp HG.o] at h;have HY:=hid h;have HR:=hid (show (wr.drewN nq).rangeAt g (i*5) (zP x) from c0.o);have x2:IntKind.i64.wrap ((i:Int)+1)=(i:Int)+1:=by rw [zu];omega
     clear h D HG;refine Ya (pre:=[_,_,_,_,_,_,_,_]) (post:=[_]) rfl rfl rfl (fun _ _ a0=>a0) ?_;go_wp2_with ((with_reducible refine gV 60 ?_);refine mV (zP x) HR.o ?_);refine ⟨l,.tmp 53,_,_,_,rfl,by rfl,by rfl,Kw HY.o ?_⟩;rintro e1 w5 ⟨rfl,c2⟩;refine ⟨_,rfl,?_⟩;go_wp2_with fail;refine (by assumption:∀ a w,Code.wp prog (Code.cond (.tmp 62) Code.ret Code.skip) _ a w->_) _ _ ?_;go_wp2_with fail;go_roundw
     case rel=>exact ⟨i+1,k+1,by have:=R.o;omega,a8,by simp,c2⟩
     case measure=>simp [jF];omega
    | false =>have q3:=E;unfold zox at q3;have O:=hid (zfl R.o Y (fun y h=>by rw [HX.o] at h;injection h with h;subst h;unfold Jk;rw [E];simp));clear E;go_upto_region 2 with fail;go_quiet (fail);go_wp2_with fail;refine ZS rfl rfl ?_;rw [<- O.o];exact ⟨⟨_,rfl⟩,U.o k wr _ D (below_drewN (zf _ _) nq)⟩
   ·have q2:((x.rw.t:Int) == (t:Int))=false:=by rw [beq_eq_false_iff_ne];omega
    have O:=hid (zfl R.o Y (fun y h=>by rw [HX.o] at h;injection h with h;subst h;unfold Jk;rw [decide_eq_false ht];rfl));go_upto_region 2 with fail;go_quiet (fail);go_wp2_with fail;refine ZS rfl rfl ?_;rw [<- O.o];exact ⟨⟨_,rfl⟩,U.o k wr _ D (below_drewN (zf _ _) nq)⟩
  ·have q1:¬ ((i:Int)<(u.length:Int)):=by omega
   have O:=hid (zfl R.o Y (fun y h=>by rw [List.getElem?_eq_none (by omega)] at h;cases h));go_upto_region 2 with fail;go_quiet (fail);go_wp2_with fail;refine ZS rfl rfl ?_;rw [<- O.o];exact ⟨⟨_,rfl⟩,U.o k wr _ D (below_drewN (zf _ _) nq)⟩
section
theorem zpM (B b z:Nat) (T:Tb) (u t:Int) (hn:iok t) (hw:iok u) (w:World) (h:qh w B b z T) :
  zc 144 #[.pointer (some ⟨b,0,none⟩),.int .i64 u,.int .i64 t] w fun e w' =>
   e=.returned (.bool (takeB (zp T) u (t,ByteArray.empty,true) 1))/\∃ E,qh w' B b z E/\zp E=takeS (zp T) u (t,ByteArray.empty,true) 1/\zE (fun i=>i=z∨B<=i) w w'/\jm w w' z T E:=by
 have D:=QM B b z T u 1 (t,ByteArray.empty,true) ⟨hn,vB⟩ hw w h;unfold Zb at D;obtain ⟨r,O⟩:=ex (takeB (zp T) u (t,ByteArray.empty,true) 1);rw [<- O] at D ⊢;obtain ⟨U,X⟩:=zi2 D h;clear D h O;go_enter func144,ntmps144;go_wp2_with (first|(go_at_call 130;refine U.o.mono ?_;rintro e w1 ⟨rfl,L⟩));go_ret;obtain ⟨Y,L,Z,R,o1⟩:=L;exact ⟨rfl,Y,L,Z,R.mono fun i _ hi=>X.o.d7 hi,jm.take R o1⟩
section
variable {w:World} {a:Va} {b:Vb} {cur:Nat->Nat->List UInt8} {s:St}
theorem zoj (h:zm w a b cur s) {txn t:Nat} (Z:txn<=1000) (Y:t<=1000) :
  zc 144 #[.pointer (some ⟨a.K,0,none⟩),.int .i64 txn,.int .i64 t] w fun e w'=>e=.returned (.bool (takeB s.lk txn (t,ByteArray.empty,true) 1))/\∃ u,zm w' a u cur { s with lk:=takeS s.lk txn (t,ByteArray.empty,true) 1 }/\qv w w' (qd a b s) (qd a u { s with lk:=takeS s.lk txn (t,ByteArray.empty,true) 1 }) cur cur a.r:=by
 have U:=zpM a.LB a.K a.bm b.T txn t (Yo (by omega)) (Yo (by omega)) w h.lk;refine U.mono ?_;rintro e w' ⟨rfl,X,E,L,O,R⟩;obtain ⟨z,D⟩:=h.ez E R O;rw [L,<- h.c8] at z D;rw [<- h.c8];exact ⟨rfl,_,z,D⟩
end
def St.bi (s:St) (txn t:Nat) (f:List UInt8) (z:ByteArray):Nat × List It × St :=
 if takeB s.lk txn (t,ByteArray.empty,true) 1=false then (6,[],{ s with lk:=takeS s.lk txn (t,ByteArray.empty,true) 1 })
 else (0,Zk s.N t z (jv s.N ⟨t,f,[]⟩),{ s with lk:=takeS s.lk txn (t,ByteArray.empty,true) 1 })
theorem zpG (a:Va) (b:Vb) (cur:Nat->Nat->List UInt8) (s:St) (txn t:Nat) (f:List UInt8) (z:ByteArray) (w:World) (h:zm w a b cur s) (f5:txn<=1000) (ht:t<=1000) (hl:s.N.length<=900) (f3:qe s.N) :
  zc 114 #[.pointer (some ⟨a.S,0,none⟩),.int .i64 txn,.int .i64 t,.string (zb f),.string z] w fun e w'=>∃ v b',e=.returned (.tuple #[v,.int .i64 (s.bi txn t f z).1])/\w'.ownsRow w.heap.size 34 3 v (s.bi txn t f z).2.1.length (jn ((s.bi txn t f z).2.1.map (·.rw)))/\zm w' a b' cur (s.bi txn t f z).2.2/\qv w w' (qd a b s) (qd a b' (s.bi txn t f z).2.2) cur cur a.r:=by
 have Y:=hid (zoj h f5 ht);have k0:=h.c0;obtain ⟨s1,a4⟩:=ex ({ s with lk:=takeS s.lk txn (t,ByteArray.empty,true) 1 }:St);have e0:s1.N=s.N:=by rw [a4]
 rw [<- a4] at Y;clear h;cases hb:takeB s.lk txn (t,ByteArray.empty,true) 1 with
 | false =>
  rw [hb] at Y;have hr:s.bi txn t f z=(6,[],s1):=by unfold St.bi;rw [if_pos hb,a4]
  have X:=hid hr;clear hr hb a4;go_enter func114,ntmps114;go_wp2_with ((with_reducible refine aV 144 Y.o ?_);rintro e9 w1 ⟨rfl,b1,a7,a8⟩);go_ret2;rw [X.o];exact ⟨_,b1,rfl,ql _ _ _ _,a7,a8⟩
 | true =>
  rw [hb] at Y;obtain ⟨l,c2⟩:=ex (Zk s.N t z (jv s.N ⟨t,f,[]⟩));have hr:s.bi txn t f z=(0,l,s1):=by unfold St.bi;rw [if_neg (by rw [hb];simp),a4,c2]
  obtain ⟨X,d4,e5⟩:=zi3 hr c2 e0;clear hr hb a4 c2 e0;refine Qg func114 rfl ?_;simp only [ntmps114,qH,qc,jr,Nat.reduceAdd,Nat.reduceSub,Array.replicate_succ,Array.replicate_zero,List.push_toArray,List.append_toArray,List.nil_append,List.cons_append];go_wp2_with (first|((with_reducible refine aV 144 Y.o ?_);rintro e9 w1 ⟨rfl,b1,a7,a8⟩)|(go_at_call 145;(with_reducible refine (zpE a.S 7 t (zb f) z _).mono ?_);rintro f8 w2 ⟨rfl,c6,c7,d0,b9,c1⟩));have d7:w2.heap[w1.heap.size]?=some (.cells #[.slice none 0 0] 22 (0,0)):=zg (zo w1 (.cells #[.slice none 0 0] 22) rfl) c1 (by simp);have f1:=B_call (B_alloc (zf w1.heap.size w1) (.cells #[.slice none 0 0] 22)) c1;simp only [World.size_alloc] at c6 c7 d0 b9;obtain ⟨Z,hZ⟩:=ex w1.heap.size;obtain ⟨N,hN⟩:=ex w2.heap.size;have g4:Z+5<=N:=by have:=zi b9;omega
  obtain ⟨d2,d3⟩:=zi2 a7 a8;rw [<- hZ] at d7 c6 c7 d0 b9 ⊢;obtain ⟨HZ,HN⟩:=zi2 hZ hN;have f7:w1.heap.size<=Z:=Nat.le_of_eq hZ.symm;have h1:Z<=w1.heap.size:=Nat.le_of_eq hZ;clear a7 a8 c1 Y k0 hZ hN;refine Yw (gf:=157) (bound:=#[]) (caps:=#[.pointer (some ⟨Z+1,0,none⟩),.pointer (some ⟨Z+1+1,0,none⟩),.pointer (some ⟨Z+1+2,0,none⟩),.pointer (some ⟨Z+1+3,0,none⟩)]) (by rfl) (by kernel_rfl) l.length (YR l) (zcS l) (fun k W=>Below w1.heap.size w1 W/\N+2<=W.heap.size/\(W.heap[Z+1]?=some (.cells #[.pointer (some ⟨a.S,7,none⟩)] 186 (0,0))/\W.heap[Z+1+1]?=some (.cells #[.int .i64 t] 3 (0,0))/\W.heap[Z+1+2]?=some (.cells #[.string (zb f)] 9 (0,0))/\W.heap[Z+1+3]?=some (.cells #[.string z] 9 (0,0)))/\∃ v,W.heap[Z]?=some (.cells #[v] 22 (0,0))/\W.ownsRow (N+2) 34 3 v k (jn ((l.map (·.rw)).take k))) ?h0 ?hput ?hbel (by
   rw [d4.o];exact zpD a.S 7 (Z+1) t _ f z b1.v s.N _ (by omega) (Cut.bq f3) fun k W hW=>⟨by have:=(d2.o.below hW.1).ef;rw [e5.o] at this;exact this,hW.2.2.1.1,hW.2.2.1.2.1,hW.2.2.1.2.2.1,hW.2.2.1.2.2.2⟩) ?hround ?hend
  case h0=>exact fun h5=>have hN:=HN.o;⟨B_alloc (B_alloc f1 _) _,by simp;omega,⟨zw (zw c6 _) _,zw (zw c7 _) _,zw (zw d0 _) _,zw (zw b9 _) _⟩,_,zw (zw d7 _) _,by rw [List.take_zero];exact ql _ _ _ _⟩
  case hput =>rintro k W o ⟨E,R,⟨g0,g1,g2,g3⟩,v,O,D⟩ hl;rw [<- HN.o] at hl ⊢;refine ⟨Below.put E (by omega) o,by simpa using R,⟨(World.putObj_heap_other (by omega)).trans g0,(World.putObj_heap_other (by omega)).trans g1,(World.putObj_heap_other (by omega)).trans g2,(World.putObj_heap_other (by omega)).trans g3⟩,v,(World.putObj_heap_other (by omega)).trans O,own_same D fun q L=>World.putObj_heap_other (by have:=(D.lt q L).1;omega)⟩
  case hbel =>rintro k W W' ⟨E,R,⟨g0,g1,g2,g3⟩,v,O,D⟩ hb;exact ⟨B_call E hb,zz R hb.size,⟨zg g0 hb (zi g0),zg g1 hb (zi g1),zg g2 hb (zi g2),zg g3 hb (zi g3)⟩,v,zg O hb (zi O),own_same D fun q L=>hb.block q (D.lt q L).2⟩
  case hround =>
   rintro k W hk ⟨E,R,hg,v,O,D⟩ hl;rw [<- HN.o] at hl ⊢;have hlen:l.length<=s.N.length:=by rw [d4.o];unfold Zk;have E:=(List.takeWhile_prefix (p:=Jk t z) (l:=s.N.drop (jv s.N ⟨t,f,[]⟩))).length_le;rw [qI] at E;omega
   obtain ⟨x,hx⟩:∃ p,l[k]?=some p:=⟨_,zX hk⟩;rw [Gp hx];simp only [List.zip_toArray,List.zip_cons_cons,List.zip_nil_right,List.foldl_toArray,jM,List.foldl_nil,List.setIfInBounds_toArray,List.set_cons_succ,List.set_cons_zero];refine vk (uv _) 0 rfl (fun _ _ h=>h) ?_;go_wp2_with ((with_reducible refine hV 13 ?_);refine nV (zP x).toArray (by simp [zP,Value.oneCell']) ?_);have f0:=(zf W.heap.size W).alloc (za _) (.cells (zP x).toArray 136);refine ⟨Jb.below f0 (by omega),fun o=>?_⟩;refine wpIn_block ?_;obtain ⟨u,U⟩:∃ u,(W.alloc (.cells (zP x).toArray 136)).putObj (N+1) o=u:=⟨_,rfl⟩;rw [U];have d5:Below w1.heap.size w1 u:=by rw [<- U];exact Below.put (B_alloc E _) (by omega) o
   have g8:u.heap.size=W.heap.size+1:=by rw [<- U];simp
   have e3:u.heap[W.heap.size]?=some (.cells (zP x).toArray 136 (0,0)):=by rw [<- U];exact (World.putObj_heap_other (by omega)).trans (zo _ _ rfl)
   have c3:u.heap[Z]?=some (.cells #[v] 22 (0,0)):=by rw [<- U];exact (World.putObj_heap_other (by omega)).trans (zw O _)
   have a1:∀ q,q<W.heap.size->q≠N+1->u.heap[q]?=W.heap[q]?:=fun q E R=>by rw [<- U];exact (World.putObj_heap_other R).trans (qb _ _ q E)
   have d1:u.ownsRow (N+2) 34 3 v k (jn ((l.map (·.rw)).take k)):=own_same D fun q L=>a1 q (D.lt q L).2 (by have:=(D.lt q L).1;omega);have d9:u.heap[Z+1]?=some (.cells #[.pointer (some ⟨a.S,7,none⟩)] 186 (0,0))/\u.heap[Z+1+1]?=some (.cells #[.int .i64 t] 3 (0,0))/\u.heap[Z+1+2]?=some (.cells #[.string (zb f)] 9 (0,0))/\u.heap[Z+1+3]?=some (.cells #[.string z] 9 (0,0)):=⟨(a1 _ (by omega) (by omega)).trans hg.1,(a1 _ (by omega) (by omega)).trans hg.2.1,(a1 _ (by omega) (by omega)).trans hg.2.2.1,(a1 _ (by omega) (by omega)).trans hg.2.2.2⟩;obtain ⟨A5,c5,rfl⟩:=own_slice d1;have f9:=xV (Value.slice A5 k c5) 0 c3;have e2:u.rangeAt W.heap.size 0 (qB x.rw):=by
    intro j h6 hj;have g5:j<3:=(zr.1 hj).1;rw [ze u W.heap.size _ _ _ _ e3,qy,<- hj];obtain rfl | rfl | rfl:j=0∨j=1∨j=2:=by omega
    all_goals rfl
   have e1:=zL.bk (zo u (.cells (qB x.rw).toArray 34) rfl) (size:=3) (n:=1) rfl;have d6:(u.alloc (.cells (qB x.rw).toArray 34)).ownsRow (N+2) 34 3 (.slice A5 k c5) k (jn ((l.map (·.rw)).take k)):=own_same d1 fun q L=>qb _ _ q (d1.lt q L).2;obtain ⟨e8,e7,a6,e6,e4,a5⟩:=zi6 e2 e1 d6 c3 d5 d9;clear e2 e1 d6 c3 d5 E O D U e3 hg d9 a1;refine vk (uv _) 0 rfl (fun _ _ h=>h) ?_;go_wp2_with (first|((with_reducible refine gV 32 ?_);refine mV (qB x.rw) e8.o ?_)|(show wpList _ _ _ (⟨some 33,_,_,_,_,_⟩::_) _ _;refine wpList_plain rfl fun _ hK=>yv 22 34 3 40 (.tmp 32) rfl (.agg (qB x.rw).toArray) (by rfl) underlying22 KK (by rfl) (by omega) (by omega) (hK _ _ ?_))|(show wpList _ _ _ (⟨some 34,_,_,_,_,_⟩::_) _ _;refine jX rfl (.tmp 30) (.tmp 33) 22 34 3 40 rfl underlying22 KK (by omega) _ _ _ (N+2) (by rfl) a6.o _ 1 _ _ _ (by rfl) e7.o (GP _) (by omega) (by omega) (by simp;omega) ?_;intro v8 w8 c4 a9 g6;obtain ⟨A8,c8,rfl⟩:=own_slice c4;have c0:=qq (zw e6.o _) a9 (fun e=>by have:=(a6.o.lt _ e).1;omega);have h2:=zI w8 Z 0 _ _ c0;have h4:=ze w8 Z 0 _ _ _ c0));have f4:(w8.setCell ⟨Z,0,none⟩ (.slice A8 (k+1) c8)).heap[Z]?=some (.cells #[.slice A8 (k+1) c8] 22 (0,0)):=by rw [zB _ _ 0 _ _ _ c0];rfl
   have a0:∀ q,q<u.heap.size->(Value.slice A5 k c5).ownBlock≠some q->q≠Z->(w8.setCell ⟨Z,0,none⟩ (.slice A8 (k+1) c8)).heap[q]?=u.heap[q]?:=fun q E R h3 =>
    (zt _ _ _ _ h3).trans ((a9.block q (by simp;omega) (fun e=>R e.symm)).trans (qb _ _ q E))
   have g9:u.heap.size+1<=w8.heap.size:=by have:=a9.size;simpa using this
   have a3:∀ q,q<N+2->(Value.slice A5 k c5).ownBlock≠some q:=fun q L e=>by have:=(a6.o.lt _ e).1;omega
   refine ⟨⟨?_,by simp;omega,⟨(a0 _ (by omega) (a3 _ (by omega)) (by omega)).trans a5.o.1,(a0 _ (by omega) (a3 _ (by omega)) (by omega)).trans a5.o.2.1,(a0 _ (by omega) (a3 _ (by omega)) (by omega)).trans a5.o.2.2.1,(a0 _ (by omega) (a3 _ (by omega)) (by omega)).trans a5.o.2.2.2⟩,_,f4,?_⟩,by simp;omega,a0 _ (by omega) (a3 _ (by omega)) (by omega),a0 _ (by omega) (a3 _ (by omega)) (by omega)⟩
   ·exact B_set ((B_alloc e4.o _).grown a9 (by simp;omega) (fun q e=>by have:=(a6.o.lt _ e).1;omega)) (p:=⟨Z,0,none⟩) f7 _
   ·obtain ⟨f2,f6⟩:=zr.1 hx;rw [yH (by rw [List.length_map];exact f2),List.getElem_map,f6,Kg];exact own_set1 c4 (fun e=>by have:=(c4.lt _ e).1;omega) _ _
  case hend =>
   rintro W ⟨E,R,_,v,O,D⟩ hD;rw [jG (by simp)] at D;obtain ⟨A,c,rfl⟩:=own_slice D;have k0:=xV (Value.slice A l.length c) 0 O;rw [<- HN.o] at hD ⊢;obtain ⟨HD,H5⟩:=zi2 hD D;clear hD O D;go_wp2_with fail;have d8:Below w1.heap.size w1 (W.putObj N (.deferred none)):=Below.put E (by omega) _;refine ⟨by simp,.inl ⟨_,_,rfl,run_takeDeferred HD.o,?_⟩⟩;have g7:=d3.o.ac.size;refine ⟨_,results_tmp2 rfl _ _ _,.slice A l.length c,b1,?_,?_,?_,?_⟩
   ·rw [X.o];rfl
   ·rw [X.o];exact jK (own_same H5.o fun q L=>World.putObj_heap_other (by have:=(H5.o.lt q L).1;omega)) (by omega)
   ·rw [X.o];exact d2.o.below d8
   ·rw [X.o];exact d3.o.call d8
end
end Go.Proofs.YtechnoogjhohfaaGreat
