import Derived.Test.YtechnoogjhohfaaGreatS23
import Derived.Test.YtechnoogjhohfaaGreatS8
import Derived.Test.YtechnoogjhohfaaGreatS12
import Derived.Deep.Cut
import Derived.Deep.CutRange
import Derived.WalkLawsBesides
import Derived.WalkSpells
set_option maxRecDepth 100000
set_option maxHeartbeats 6400000
set_option linter.unusedVariables false
set_option linter.unusedSimpArgs false
namespace Go.Proofs.YtechnoogjhohfaaGreat
open Go.RowKit Go.Lib
open YtechnoogjhohfaaGreatW Go.Proofs.Tryz Go.Proofs.YtechnoogjhohfaaGreat.Tryz
theorem zaz (a:Va) (b:Vb) (cur:Nat->Nat->List UInt8) (s:St) (kind txn n slot T:Nat) (x:Tx) (o:Option Rw) (w:World) (h:zm w a b cur s) (t0:kind=3∨kind=4) (t3:1<=txn) (t4:txn<=3) (c6:s.ts[txn]?=some (some (T,x))) (o4:kind=3->x.ops<8)
  (hn:n<6) (c5:slot<5) (ho:js o) (i0:qe s.N) (l4:s.N.length<=900) (hfit:s.sto.Q.length+395<=14336) :
  zc 92 #[.pointer (some ⟨a.S,0,none⟩),.int .i64 kind,.int .i64 txn,.int .i64 n,.int .i64 slot,.string (zb (zM o))] w fun e w'=>e=.returned (.int .i64 0)/\∃ nb b' cur',w.heap.size<=nb/\zm w' a b' cur' (s.al a.r nb kind txn n slot o)/\qv w w' (qd a b s) (qd a b' (s.al a.r nb kind txn n slot o)) cur cur' a.r:=by
 have k6:=h.c6;have HG:=hid (zcv a.B a.D a.L a.r n b.FL b.F cur s.sto w h.sto hn);obtain ⟨H,HO⟩:=zi2 h ho;clear h;go_enter func92,ntmps92;go_upto_region 4 with ((with_reducible refine aV 121 HG.o ?_);rintro t9 w1 ⟨nb,Y,R,rfl,m2,e0,k4⟩);obtain ⟨k,f,k8,h2,c1⟩:=Jv (s:=s.sto) nb n H.o.sto.ab.a5 H.o.sto.ab.hand;obtain ⟨l0,k9,s8⟩:=ZG s.sto nb n;obtain ⟨i8,j3⟩:=H.o.bu e0 k4;obtain ⟨E,g6⟩:=ex (s.sto.U nb n);obtain ⟨p,hp⟩:=ex (s.sto.E n);rw [<- g6,<- hp] at c1;rw [<- g6];have d9:=zC h2;have hpg:=e0.ab.bj f d9 E n p c1;obtain ⟨_,c4⟩:=e0.co f d9 E n p c1;obtain ⟨u,g5⟩:=ex (yy p slot);have g8:p.ap[slot]?=some u:=by rw [g5];unfold yy;obtain ⟨y,hy⟩:∃ y,p.ap[slot]?=some y:=⟨_,zX (by rw [c4.b5];exact c5)⟩;rw [hy];rfl
 have g7:js u:=c4.a7 u (zC g8);have r8:=hid (zhX E slot u w1 (qS.slot hpg c4 g8) g7 (zi hpg) c5);obtain ⟨d0,p8,q9,d6,d4,q3,d5,a0,e8⟩:=zi9 i8 j3 hpg c4 g7 k8 h2 c1 l0;obtain ⟨e7,HP,d3,f1⟩:=zi4 k9 hp g5 d9;clear k8 h2 c1 l0 k9 s8 i8 j3 g6 hp d9 hpg c4 g5 g8 g7 e0 k4 k6;obtain ⟨z,n0⟩:∃ z:List UInt8->Array Value,z=fun L=>#[.int .i64 kind,.int .i64 txn,.int .i64 n,.int .i64 slot,.string (zb (zM u)),.string (zb (zM o)),.string (zb L),.slice none 0 0]:=⟨_,rfl⟩;have O:=hid n0;clear n0;have p3:=hid (zll a.B a.D a.r a.L (s.sto.get nb n).hand n (s.sto.get nb n).fs (w1.alloc (.cells (z []) 144)) (d0.o.sto.ab.below (B_alloc (zf _ _) _)));have k6:=yK d0.o.c6 (.cells (z []) 144);go_upto_if 47 with (first|((with_reducible refine aV 134 r8.o ?_);rintro w8 w2 ⟨rfl,x9⟩;subst w2)|(show wpList _ _ _ (⟨none,.store 144 _ _,_,_,_,_⟩::_) _ _;refine vH rfl 144 (.tmp 15) (.tmp 41) rfl w1.heap.size rfl _ (z []) (by rfl) (by rw [O.o];rfl) (by rw [O.o];kernel_rfl) (by rw [O.o];rfl) (by rw [O.o];simp [Value.oneCell']) ?_)|((with_reducible refine aV 135 p3.o ?_);rintro x0 w3 ⟨rfl,y0⟩;subst w3));obtain ⟨L,l5⟩:=ex (if Qx (s.sto.get nb n).fs n then jD a.r n p else []);have f0:=hid l5;clear l5;go_cut [14] from 21 (fun c7 wc=>c7=.int .i64 0/\zd w1 wc/\wc.heap[w1.heap.size]?=some (.cells (z L) 144 (0,0)))
 case first =>
  have hE:=zo w1 (.cells (z []) 144) rfl;have hB:=B_alloc (zf _ w1) (.cells (z []) 144);have g0:=zw q9.o (.cells (z []) 144);have x8:=d0.o.sto.r4;cases k1:Qx (s.sto.get nb n).fs n with
  | false =>
   have c2:L=[]:=by rw [f0.o,k1];rfl
   obtain ⟨e9,HE,HB⟩:=zi3 c2 hE hB;clear c2 hE hB g0;go_wp2_with fail;go_meet
   case rel=>rw [e9.o];exact ⟨rfl,HB.o,HE.o⟩
  | true =>
   have c2:L=jD a.r n p:=by rw [f0.o,k1];rfl
   obtain ⟨e9,HE,HB,q8⟩:=zi4 c2 hE hB g0;have n7:(qj a.r n p).toArray.size=203:=by rw [qH];exact Qk d6.o
   have r9:=hid n7;clear c2 hE hB g0 n7;go_wp2_with (first|(show wpList _ _ _ (⟨some 50,_,_,_,_,_⟩::_) _ _;refine wpList_load_row rfl 204 (.tmp 49) rfl E (by rfl) 204 _ (0,0) _ q8.o underlying204 rfl (by rw [r9.o];kernel_rfl) ?_)|(go_at_call 136;(with_reducible refine (zcV a.r n p _ d6.o (by omega) (by omega)).mono ?_);rintro x1 w4 ⟨v4,rfl,s9,g3⟩)|(show wpList _ _ _ (⟨some 52,_,_,_,_,_⟩::_) _ _;refine wpList_plain rfl fun _ hK=>Qn 29 9 (.tmp 51) rfl v4 (.string (zb (jD a.r n p))) (by rfl) (um s9) (hK _ _ ?_))|(show wpList _ _ _ (⟨none,.store 9 _ _,_,_,_,_⟩::_) _ _;refine Zl rfl 9 (.tmp 53) (.tmp 52) rfl w1.heap.size 6 (z []) 144 (.string (zb (jD a.r n p))) (by rfl) (by rfl) (by kernel_rfl) (zg HE.o g3 (by simp)) (by rw [O.o];simp) rfl ?_));go_meet
   case rel =>rw [e9.o];refine ⟨rfl,B_set (B_call HB.o g3) (p:=⟨w1.heap.size,6,none⟩) (za _) _,?_⟩;rw [zB _ _ 6 _ _ _ (zg HE.o g3 (by simp)),O.o];rfl
 case rest =>
  obtain ⟨rfl,g4,f7⟩:=hcut;have a8:=d0.o.below g4;obtain ⟨X,hX⟩:=ex (yk a.r kind txn n slot (s.sto.get nb n) p o);have j8:JZ X (.slice none 0 0)=.agg (z L):=by rw [hX,O.o,f0.o];show JZ ⟨kind,txn,n,slot,yy p slot,o,_,[]⟩ _=_;rw [<- d3.o];rfl
  have g2:X.ok:=by
   rw [hX];refine ⟨by simp only [yk];omega,by simp only [yk];omega,by simp only [yk];omega,hn,c5,by simp only [yk];rw [<- d3.o];exact d4.o,HO.o,?_,.inl rfl,by simp [yk]⟩;simp only [yk];split
   ·exact .inr (vJ d6.o)
   ·exact .inl rfl
  have h3:(s.sto.get nb n).Q.length+(qG X).length<=14336:=by rw [e8.o];have:=yU g2;omega
  have h6:=zcT a.L a.D a.r (s.sto.get nb n).J (s.sto.get nb n).bank (s.sto.get nb n).Q (s.sto.get nb n).av b.FL X (.slice none 0 0) wc.drew a8.drew.sto.bg g2 (by rw [show X.Y=[] by rw [hX];rfl];exact uI.nil _) a8.sto.c3 h3;rw [j8,e7.o,e8.o] at h6;have q7:=hid h6;have hS:=And.intro a8.drew.c5 f7;obtain ⟨e3,e5,HX,p2,q4⟩:=zi5 a8 f7 hX g4 h3;have n2:(z L).size=8:=by rw [O.o];rfl
  have r5:=hid n2;clear a8 f7 hX j8 h6 g4 g2 h3 n2;go_upto_region 7 with fail;refine sV [5] 11 (fun w'=>zH w' a.S 5 (.pointer (some ⟨a.L,0,none⟩))/\jJ w' w1.heap.size (z L) 144) hS fun U=>?_;refine pV 0 ?_;refine pV 1 ?_;refine pV 2 ?_;refine tV 3 ?_;refine kV 4 rfl (qR 144 (.tmp 15) rfl (by rfl) w1.heap.size (by rfl) 144 (z L) (0,0) _ (fun _ h=>h.2) underlying144 rfl (by rw [r5.o];kernel_rfl)) ?_;refine lC 5 q7.o ?_;rintro x2 w5 ⟨rfl,Z,f9,h5,m1⟩;refine eL ?_;refine pV 6 ?_;refine pV 7 ?_;refine pV 8 ?_;refine pV 9 ?_;refine pV 10 ?_;refine dV ?_;rw [<- e7.o,<- e8.o] at f9;obtain ⟨n5,k7⟩:=e3.o.drew.sto.fy f9 h5 m1 q4.o;obtain ⟨j2,j6⟩:=e3.o.drew.bu n5 k7;have g9:w5.heap[w1.heap.size]?=some (.cells (z L) 144 (0,0)):=(h5.block _ (zi e5.o) (fun hx=>by
   have h9:=e3.o.sto.bg.a3 _ hx;rw [zh e5.o] at h9;simp at h9)).trans e5.o
  have j7:qv w w5 (qd a b s) _ cur R a.r:=(p8.o.call p2.o.drew).trans j6;have t7:w5.cell? ⟨w1.heap.size,4,none⟩=some (.string (zb (zM u))):=by rw [ze _ _ 4 _ _ _ g9,O.o];rfl
  have b9:(zb (zM u)).size<=100000:=by rw [jt];rcases Gg d4.o with h | h<;>rw [h]<;>simp
  obtain ⟨vb,W6,h1,a3,a9⟩:=zaA w5 (zb (zM u)) b9;rw [Qm] at a3;have a1:=Gv vb u d4.o W6 a3;unfold zmZ at a1;obtain ⟨p6,p0,o9,q2,i4⟩:=zi5 a1 a9 j2 j7 g9;clear f9 n5 k7 j2 j6 j7 h5 m1 g9 b9 a3 a9 a1 U hS;go_upto_if 74 with (first|((with_reducible refine aV 137 p6.o ?_);rintro x3 w6 ⟨rfl,k0⟩)|(show wpList _ _ _ (⟨none,.store 34 _ _,_,_,_,_⟩::_) _ _;refine vH rfl 34 (.tmp 17) (.tmp 71) rfl w6.heap.size rfl _ (Kc u) (by rfl) (by rfl) (by rw [Gj];kernel_rfl) (by rw [Gj];rfl) (zgU u) ?_));have d8:zd w5 (w6.alloc (.cells (Kc u) 34)):=B_alloc (B_call p0.o k0) _;obtain ⟨w7,e2⟩:∃ w7,w6.alloc (.cells (Kc u) 34)=w7:=⟨_,rfl⟩;have k3:w7.heap[w6.heap.size]?=some (.cells (Kc u) 34 (0,0)):=by rw [<- e2];exact zo _ _ rfl
  rw [e2] at d8;have d2:=hid (o9.o.below d8);obtain ⟨i3,p5⟩:=zi2 d8 k3;rw [e2];clear e2 d8 k3 k0 h1 t7;go_cut [14] from 21 (fun c7 wc=>c7=.int .i64 0/\∃ v',zm wc a { FL:=Z,F:=Y,G:=b.G,v:=v',T:=b.T } R { sto:=(s.sto.get nb n).au X,N:=jQ s.N u,ts:=s.ts,lk:=s.lk }/\qv w7 wc (qd a { b with FL:=Z,F:=Y } { s with sto:=(s.sto.get nb n).au X }) (qd a { FL:=Z,F:=Y,G:=b.G,v:=v',T:=b.T } { sto:=(s.sto.get nb n).au X,N:=jQ s.N u,ts:=s.ts,lk:=s.lk }) R R a.r)
  case first =>
   cases u with
   | none =>
    have f3:zgV none=9:=rfl;go_wp2_with fail;go_meet
    case rel=>exact ⟨rfl,b.v,d2.o,qv.refl _ _ _ _⟩
   | some r0 =>
    have f3:zgV (some r0)=0:=rfl;have n1:=zkn a.S 7 r0.t r0.k b.v s.N (jv s.N ⟨r0.t,r0.k,[]⟩) w7.drew d2.o.drew.ef (by omega) (Cut.bq i0);have r4:=hid n1;clear n1;go_upto_region 12 with fail;refine sV [7] 8 (fun w'=>jJ w' w6.heap.size #[.int .i64 r0.t,.string (zb r0.k),.string (zb r0.v)] 34) p5.o fun U=>?_;refine pV 0 ?_;refine pV 1 ?_;refine pV 2 ?_;refine pV 3 ?_;refine cV 4 (fun _ h=>xV (Value.int .i64 r0.t) 0 h) ?_;refine pV 5 ?_;refine cV 6 (fun _ h=>xV (Value.string (zb r0.k)) 1 h) ?_;refine lC 7 r4.o ?_;rintro x4 y5 ⟨rfl,w0,v',o3,l9,o1,l3⟩;refine eL ?_;refine dV ?_;obtain ⟨a4,a5⟩:=d2.o.drew.e3 o3 l9 (fun q hq=>.inl (by rw [<- o1];exact hq)) l3;obtain ⟨D,e4⟩:=zi2 a4 a5;clear a4 a5 o3 l9 o1 l3 U;go_wp2_with fail;go_meet
    case rel=>exact ⟨rfl,v',D.o,e4.o.ay⟩
  case rest =>
   obtain ⟨rfl,v1,a4,a5⟩:=hcut;have s3:=hid (d2.o.box (zg i4.o i3.o (zi i4.o)) a5);have m7:qS wc E a.r n p:=a4.sto.ab.bj f f1.o E n p a0.o;have r6:=hid (zjy E a.r n slot p o wc m7 d6.o HO.o c5);have D:=hid a4;have e4:=hid (((q2.o.call i3.o)).trans a5);clear a4 a5 m7;go_upto_region 14 with ((with_reducible refine aV 125 r6.o ?_);rintro x5 w9 ⟨rfl,h8,c3⟩);obtain ⟨m,hm⟩:=ex (jj s.sto.J s.sto.Q.length);rw [<- hm];have m3:E≠a.B:=D.o.sto.ab.ne f1.o a0.o;have m4:a.S≠E:=fun e=>by have h9:=zh D.o.row;rw [e,zh (D.o.sto.ab.bj f f1.o E n p a0.o)] at h9;cases h9
   have k6:=Qh D.o.c6 c3 m4;have s7:(({ pg:=some (E,n,p.set slot o),ae:=f.ae,a2:=f.a2 }:zx)).aw=f.aw:=by simp [zx.aw,a0.o]
   have m6:qr w9 a.B a.D a.r a.L ((s.sto.get nb n).fs.set k ⟨some (E,n,p.set slot o),f.ae,f.a2⟩) (s.sto.get nb n).hand:=by
    refine D.o.sto.ab.put (f:=f) d5.o ?_ D.o.sto.ab.hand ?_ ?_ ?_
    ·have t2:jl a.D a.r a.L ((s.sto.get nb n).fs.set k ⟨some (E,n,p.set slot o),f.ae,f.a2⟩) (s.sto.get nb n).hand=jl a.D a.r a.L (s.sto.get nb n).fs (s.sto.get nb n).hand:=Yr d5.o (by simp [qx,zx.bh,a0.o]);show w9.heap[a.B]?=some (.cells (jl a.D a.r a.L ((s.sto.get nb n).fs.set k ⟨some (E,n,p.set slot o),f.ae,f.a2⟩) (s.sto.get nb n).hand).toArray 200 (0,0));rw [t2];exact qK D.o.sto.ab.U c3 (fun e=>m3 e.symm)
    ·intro b' n' p' he;injection he with he;cases he;exact h8
    ·intro j g b' n' p' hj hg l1;refine c3.block _ (zi (D.o.sto.ab.bj g (zC hg) b' n' p' l1)) (fun e=>hj ?_);exact D.o.sto.ab.apart j k g f b' n' p' n p hg d5.o l1 (by rw [e];exact a0.o)
    ·intro b' n' p' he;injection he with he;cases he;exact .inl ⟨_,_,a0.o⟩
   have s0:=hid (zgk a.B a.D a.r a.L (s.sto.get nb n).hand n m _ w9 m6);obtain ⟨HM,r7,q6⟩:=zi3 hm h8 c3;clear hm h8 c3 m6 m3 m4 s7;go_upto_region 15 with ((with_reducible refine aV 126 s0.o ?_);rintro v3 o5 ⟨rfl,n8,l6⟩);have h7:m≠0/\m<18446744073709551616:=by
    have s5:=D.o.sto.c3;have s6:(s.sto.get nb n).J=s.sto.J:=e7.o;have x6:s.sto.J<4294967296:=by rw [<- s6];exact s5
    rw [HM.o];unfold jj;omega
   obtain ⟨n4,k5⟩:=D.o.sto.f2 (k:=k) (f:=f) q3.o d5.o a0.o r7.o q6.o n8 l6 h7.1 h7.2 HO.o;obtain ⟨f4,f5⟩:=D.o.bu n4 k5;have f8:=e4.o.trans f5;have i7:=hid (D.o.box s3.o f5);have n6:((s.sto.get nb n).au X).setRow n slot o m=s.sto.al a.r nb kind txn n slot o:=by rw [HX.o,HM.o,HP.o];rfl
   simp only [n6] at f4 f8;have b9:(zb (zM o)).size<=100000:=by rw [jt];rcases Gg HO.o with h | h<;>rw [h]<;>simp
   obtain ⟨t8,s4,h1,a3,a9⟩:=zaA o5 (zb (zM o)) b9;rw [Qm] at a3;have a1:=Gv t8 o HO.o s4 a3;unfold zmZ at a1;obtain ⟨p7,p1,o6,p9⟩:=zi4 a1 a9 f4 f8;clear b9 a3 a9 a1 n4 k5 f4 f5 f8 n6 n8 l6 h7 k6;go_upto_if 101 with (first|((with_reducible refine aV 137 p7.o ?_);rintro v5 a6 ⟨rfl,j9⟩)|(show wpList _ _ _ (⟨none,.store 34 _ _,_,_,_,_⟩::_) _ _;refine vH rfl 34 (.tmp 19) (.tmp 98) rfl a6.heap.size rfl _ (Kc o) (by rfl) (by rfl) (by rw [Gj];kernel_rfl) (by rw [Gj];rfl) (zgU o) ?_));have d7:zd o5 (a6.alloc (.cells (Kc o) 34)):=B_alloc (B_call p1.o j9) _;obtain ⟨c8,e1⟩:∃ c8,a6.alloc (.cells (Kc o) 34)=c8:=⟨_,rfl⟩;have k2:c8.heap[a6.heap.size]?=some (.cells (Kc o) 34 (0,0)):=by rw [<- e1];exact zo _ _ rfl
   rw [e1] at d7;have d1:=hid (o6.o.below d7);obtain ⟨i2,p4⟩:=zi2 d7 k2;rw [e1];clear e1 d7 k2 j9 h1;have n3:qe (jQ s.N u)/\(jQ s.N u).length<=900:=by
    cases u with
    | none=>exact ⟨i0,l4⟩
    | some r0 =>
     refine ⟨qe.rem i0,?_⟩;simp only [jQ,QY];split
     ·rw [List.length_eraseIdx];split<;>omega
     ·exact l4
   have i6:=hid n3;clear n3;go_cut [14] from 21 (fun c7 wc=>c7=.int .i64 0/\∃ v',zm wc a { FL:=Z,F:=Y,G:=b.G,v:=v',T:=b.T } R { sto:=s.sto.al a.r nb kind txn n slot o,N:=ug (jQ s.N u) o n slot,ts:=s.ts,lk:=s.lk }/\qv c8 wc (qd a { FL:=Z,F:=Y,G:=b.G,v:=v1,T:=b.T } { sto:=s.sto.al a.r nb kind txn n slot o,N:=jQ s.N u,ts:=s.ts,lk:=s.lk }) (qd a { FL:=Z,F:=Y,G:=b.G,v:=v',T:=b.T } { sto:=s.sto.al a.r nb kind txn n slot o,N:=ug (jQ s.N u) o n slot,ts:=s.ts,lk:=s.lk }) R R a.r)
   case first =>
    cases o with
    | none =>
     have f3:zgV none=9:=rfl;go_wp2_with fail;go_meet
     case rel=>exact ⟨rfl,v1,d1.o,qv.refl _ _ _ _⟩
    | some r1 =>
     have f3:zgV (some r1)=0:=rfl;have m8:=zjq a.S 7 v1 (jQ s.N u) ⟨r1,n,slot⟩ (jv (jQ s.N u) r1) c8.drew d1.o.drew.ef (by have:=i6.o.2;omega) (Cut.bq i6.o.1);have r2:=hid m8;clear m8;go_upto_region 17 with fail;refine sV [7] 8 (fun w'=>jJ w' a6.heap.size #[.int .i64 r1.t,.string (zb r1.k),.string (zb r1.v)] 34) p4.o fun U=>?_;refine pV 0 ?_;refine pV 1 ?_;refine pV 2 ?_;refine kV 3 rfl (qR 34 (.tmp 19) rfl (by rfl) a6.heap.size (by rfl) 34 #[.int .i64 r1.t,.string (zb r1.k),.string (zb r1.v)] (0,0) _ (fun _ h=>h) underlying34 rfl (by kernel_rfl)) ?_;refine pV 4 ?_;refine pV 5 ?_;refine pV 6 ?_;refine lC 7 r2.o ?_;rintro v6 y2 ⟨rfl,w0,v',o2,l7,o0,l2⟩;refine eL ?_;refine dV ?_;obtain ⟨i9,j4⟩:=d1.o.drew.e3 o2 l7 (fun q hq=>o0.elim (fun e=>.inl (by rw [<- e];exact hq)) (fun ⟨q',e,t1⟩=>.inr (by rw [e] at hq;cases hq;exact t1))) l2;obtain ⟨o7,q0⟩:=zi2 i9 j4;clear i9 j4 o2 l7 o0 l2 U;go_wp2_with fail;go_meet
     case rel=>exact ⟨rfl,v',o7.o,q0.o.ay⟩
   case rest =>
    obtain ⟨rfl,v2,j0,f6⟩:=hcut;have s2:=hid (d1.o.box (zg i7.o i2.o (zi i7.o)) f6);have a7:=hid j0;have i5:=hid ((p9.o.call i2.o).trans f6);clear j0 f6;rcases t0 with rfl | rfl
    ·obtain ⟨c,hc⟩:∃ c:Chg,c=⟨n,slot,u⟩:=⟨_,rfl⟩;have c0:s.al a.r nb 3 txn n slot o={ sto:=s.sto.al a.r nb 3 txn n slot o,N:=ug (jQ s.N u) o n slot,ts:=s.ts.set txn (some (T,⟨x.I++[c],x.ag,x.ops+1⟩)),lk:=s.lk }:=by unfold St.al;rw [<- HP.o,<- d3.o,if_pos rfl,hc];simp only [Jo,c6]
     obtain ⟨t5,i1⟩:=a7.o.aq.tx txn T x c6;have h4:=QT a.S txn s.ts (some (T,x)) wc.drew a7.o.drew.aq.row t3 t4 c6;have m9:=zpj T x c (b.G txn) wc.drew (a7.o.drew.aq.tx txn T x c6).1 i1 (o4 rfl);simp only [qk] at h4;obtain ⟨q5,r3,e6,HC,f2⟩:=zi5 h4 m9 c0 hc i1;clear h4 m9 c0 hc t5 i1;go_upto_region 19 with fail;refine sV [10] 11 (fun w'=>jJ w' w1.heap.size (z L) 144) s2.o fun U=>?_;refine pV 0 ?_;refine pV 1 ?_;refine pV 2 ?_;refine pV 3 ?_;refine pV 5 ?_;refine pV 6 ?_;refine pV 7 ?_;refine kV 8 rfl (Or.inl ⟨by rfl,fun w' h=>(by have y1:w'.cell? ⟨w1.heap.size,4,none⟩=some (.string (zb (zM u))):=(by rw [ze w' w1.heap.size 4 _ _ _ h,O.o];rfl);go_simp;with_reducible rfl)⟩) ?_;refine pV 9 ?_;refine oC 4 q5.o ?_;rintro v7 y3 ⟨rfl,t6⟩;subst t6;refine eV U fun U=>?_;refine lV 10 fun K hK=>?_;refine vI 139 _ _ [.pointer (some ⟨T,0,none⟩),.agg (zS c).toArray] rfl (by kernel_rfl) (by rw [HC.o];rfl) (r3.o.mono ?_);rintro v9 y4 ⟨rfl,G',n9,l8,m0⟩;refine ⟨_,rfl,?_⟩;refine hK.out _ _ ?_;clear hK K;try simp only [pS]
     refine dV ?_;have m5:({ I:=x.I++[c],ag:=x.ag,ops:=x.ops+1 }:Tx).ok:=by
      have x7:=o4 rfl;refine ⟨by show x.ops+1<=8;omega,by have:=f2.o.len;simp only [zl,List.length_singleton];omega,f2.o.s4,fun d hd=>?_⟩;rcases ja.1 hd with hd | hd
      ·exact f2.o.al d hd
      ·rw [List.mem_singleton.1 hd,HC.o];exact ⟨hn,c5,d4.o⟩
     obtain ⟨j1,j5⟩:=a7.o.drew.d6 c6 n9 m5 l8 m0;have o8:=hid j1;have q1:=hid (i5.o.trans j5.ay);clear j1 j5 n9 l8 m0 m5 U;go_wp2_with fail;go_ret;refine ⟨rfl,nb,m2,{ FL:=Z,F:=Y,G:=zZ b.G txn G',v:=v2,T:=b.T },R,?_⟩;rw [e6.o];exact ⟨o8.o,q1.o⟩
    ·have c0:s.al a.r nb 4 txn n slot o={ sto:=s.sto.al a.r nb 4 txn n slot o,N:=ug (jQ s.N u) o n slot,ts:=s.ts,lk:=s.lk }:=by unfold St.al;rw [<- HP.o,<- d3.o];rfl
     have e6:=hid c0;clear c0;go_wp2_with fail;go_ret;refine ⟨rfl,nb,{ FL:=Z,F:=Y,G:=b.G,v:=v2,T:=b.T },R,m2,?_⟩;rw [e6.o];exact ⟨a7.o,i5.o⟩
def zY (ts:qE) (nbs:Nat->Nat):Nat->Nat->zn->zn × Option (Nat × Nat)
 | 0,_,s=>(s,none)
 | g+1,k,s=>match QA (s.E k) (yB (zF ts) k) with
  | some i=>(s.get (nbs k) k,some (k,i))
  | none=>zY ts nbs g (k+1) (s.get (nbs k) k)
def zhF:Option (Nat × Nat)->Value
 | some (k,i)=>.tuple #[.int .i64 k,.int .i64 i,.int .i64 0]
 | none=>.tuple #[.int .i64 0,.int .i64 0,.int .i64 7]
theorem zak {ts:qE} {nbs:Nat->Nat} {g k i:Nat} {s:zn} (h:QA (s.E k) (yB (zF ts) k)=some i):zY ts nbs (g+1) k s=(s.get (nbs k) k,some (k,i)):=by simp only [zY,h]
theorem zaj {ts:qE} {nbs:Nat->Nat} {g k:Nat} {s:zn} (h:QA (s.E k) (yB (zF ts) k)=none):zY ts nbs (g+1) k s=zY ts nbs g (k+1) (s.get (nbs k) k):=by simp only [zY,h]
theorem zkf (a:Va) (b:Vb) (cur:Nat->Nat->List UInt8) (s:St) (w:World) (a3:zm w a b cur s) :
  zc 91 #[.pointer (some ⟨a.S,0,none⟩)] w fun e w'=>∃ nbs u cur',e=.returned (zhF (zY s.ts nbs 6 0 s.sto).2)/\zm w' a u cur' { s with sto:=(zY s.ts nbs 6 0 s.sto).1 }/\qv w w' (qd a b s) (qd a u { s with sto:=(zY s.ts nbs 6 0 s.sto).1 }) cur cur' a.r:=by
 have H:=hid a3;obtain ⟨R,hR⟩:∃ R:Nat->World->Prop,R=fun k wr=>∃ (nbs:Nat->Nat) (h:zn) (u:Vb) (cur':Nat->Nat->List UInt8),(∀ L:Nat->Nat,(∀ j,j<k->L j=nbs j)->zY s.ts L 6 0 s.sto=zY s.ts L (6-k) k h)/\zm wr a u cur' { s with sto:=h }/\qv w wr (qd a b s) (qd a u { s with sto:=h }) cur cur' a.r:=⟨_,rfl⟩;have c4:R 0 w:=by rw [hR];exact ⟨fun _=>0,s.sto,b,cur,fun _ _=>rfl,a3,qv.refl _ _ _ _⟩
 obtain ⟨a9,hE⟩:∃ a9:Ending->World->Prop,a9=fun e w'=>∃ nbs u cur',e=.returned (zhF (zY s.ts nbs 6 0 s.sto).2)/\zm w' a u cur' { s with sto:=(zY s.ts nbs 6 0 s.sto).1 }/\qv w w' (qd a b s) (qd a u { s with sto:=(zY s.ts nbs 6 0 s.sto).1 }) cur cur' a.r:=⟨_,rfl⟩;rw [<- hE];obtain ⟨HR,d5,HE⟩:=zi3 hR c4 hE;clear a3 hR c4 hE;go_enter func91,ntmps91;go_upto_region 2 with fail;go_loopw [9] (fun a8 wr=>∃ k:Nat,k<=6/\a8=.int .i64 k/\R k wr) (fun a8 _=>(6-jF a8).toNat)
 case atStart=>exact ⟨0,zT _,rfl,d5.o⟩
 case round =>
  obtain ⟨k,hk,rfl,d0⟩:=hrel;rw [HR.o] at d0;obtain ⟨nbs,h,bk,d7,Y,z,U⟩:=d0;by_cases e0:k<6
  ·have q1:(k:Int)<6:=by omega
   have x2:IntKind.i64.wrap ((k:Int)+1)=(k:Int)+1:=by rw [zu];omega
   have HG:=hid (zcv a.B a.D a.L a.r k bk.FL bk.F d7 h wr z.sto e0);have k6:=z.c6;obtain ⟨D,a0,O⟩:=zi3 z U Y;clear z U Y;go_upto_region 7 with ((with_reducible refine aV 121 HG.o ?_);rintro e1 w1 ⟨nb,F1,e5,rfl,e6,Z,c5⟩);obtain ⟨kf,f,d8,a5,a6⟩:=Jv (s:=h) nb k D.o.sto.ab.a5 D.o.sto.ab.hand;obtain ⟨E,c3⟩:=D.o.bu Z c5;have hpg:=Z.ab.bj f (zC a5) _ _ _ a6;have c8:=(Z.co f (zC a5) _ _ _ a6).2;have d3:=hid (znt a.S k s.ts bk.G w1 E.aq);have c7:(yB (zF s.ts) k).length<=10000:=by
    have e1:=zdn (zF s.ts) k;have e2:=E.aq.cw _ (za _);have e3:=vw s.ts 0;have e4:=E.aq.len;rw [qi] at e2;simp only at e2 e4;have:(zF s.ts).length<=4:=by rw [<- e4];exact e3
    omega
   have d1:=hid E;have d2:=hid (a0.o.trans c3);obtain ⟨c2,d4⟩:=zi2 hpg c8;clear d8 a5 a6 E c3 hpg c8 Z c5 k6;obtain ⟨fr,c6⟩:=ex (QA (h.E k) (yB (zF s.ts) k));have a1:=hid c6;clear c6;go_upto_if 32 with (first|((with_reducible refine aV 133 d3.o ?_);rintro e2 w2 ⟨v2,rfl,a7,X⟩;obtain ⟨A2,d6,rfl⟩:=own_slice a7;have c1:=hid (znl _ a.r k _ A2 d6 _ w2 (show qS w2 _ _ _ _ from zg (show w1.heap[_]?=_ from c2.o) X (zi (show w1.heap[_]?=_ from c2.o))) d4.o (zL.aj a7) c7);rw [<- a1.o] at c1)|((with_reducible refine aV 132 c1.o ?_);rintro e3 w3 ⟨rfl,e7⟩;subst w3));have b9:=hid (d1.o.below X);have c0:=hid (d2.o.call X);clear X a7 c7;cases fr with
   | some i =>
    have q2:(0:Int)<=(i:Int):=by omega
    have o1:znL (some i)=(i:Int):=rfl;go_wp2_with fail;refine ⟨rfl,_,results_tmp3 rfl _ _ _,?_⟩;rw [HE.o];have a4:zY s.ts (zZ nbs k nb) 6 0 s.sto=(h.get nb k,some (k,i)):=by rw [O.o (zZ nbs k nb) (fun j hj=>zy _ _ (by omega)),show 6-k=(5-k)+1 by omega,zak a1.o.symm,zk]
    refine ⟨zZ nbs k nb,?_⟩;rw [a4];exact ⟨_,_,rfl,b9.o,c0.o⟩
   | none =>
    have o1:znL none=-1:=rfl;go_wp2_with fail;go_roundw
    case rel =>refine ⟨k+1,by omega,by simp,?_⟩;rw [HR.o];refine ⟨zZ nbs k nb,h.get nb k,_,_,fun L hn=>?_,b9.o,c0.o⟩;rw [O.o L (fun j hj=>by rw [hn j (by omega),zy _ _ (by omega)]),show 6-k=(6-(k+1))+1 by omega,zaj a1.o.symm,hn k (by omega),zk]
    case measure=>simp [jF];omega
  ·have d9:k=6:=by omega
   subst d9;obtain ⟨D,a0,O⟩:=zi3 z U Y;clear z U Y;go_wp2_with fail;refine ⟨rfl,_,results_tmp3 rfl _ _ _,?_⟩;rw [HE.o];have a4:=O.o nbs (fun _ _=>rfl);refine ⟨nbs,?_⟩;rw [a4];exact ⟨_,_,rfl,D.o,a0.o⟩
section
theorem Yo {n:Nat} (h:n<=1000000):iok (n:Int):=iok_of ⟨by omega,by omega⟩
section
variable {w:World} {a:Va} {b:Vb} {cur:Nat->Nat->List UInt8} {s:St}
theorem zlJ (h:zm w a b cur s) (U:WF s.lk) {txn t:Nat} {k:List UInt8} (hx:txn<=1000) (ht:t<=1000) (Z:k.length<=1000) :
  zc 87 #[.pointer (some ⟨a.K,0,none⟩),.int .i64 txn,.int .i64 t,.string (zb k),.bool true] w fun e w'=>e=.returned (.bool (keyB s.lk txn t (zb k)))/\∃ u,zm w' a u cur { s with lk:=keyS s.lk txn t (zb k) }/\qv w w' (qd a b s) (qd a u { s with lk:=keyS s.lk txn t (zb k) }) cur cur a.r:=by
 have X:=zrc a.LB a.K a.bm b.T txn t (zb k) (Yo (by omega)) (by rw [jt];unfold maxLen;omega) (Yo (by omega)) w h.lk (by rw [<- h.c8];exact U);refine X.mono ?_;rintro e w' ⟨rfl,Y,E,L,O,R⟩;obtain ⟨z,D⟩:=h.ez E R O;rw [L,<- h.c8] at z D;rw [<- h.c8];exact ⟨rfl,_,z,D⟩
theorem zpm (h:zm w a b cur s) {txn t:Nat} {k:List UInt8} (hx:txn<=1000) (Z:t<=1000) (Y:k.length<=1000) :
  zc 87 #[.pointer (some ⟨a.K,0,none⟩),.int .i64 txn,.int .i64 t,.string (zb k),.bool false] w fun e w'=>e=.returned (.bool (takeB s.lk txn (t,zb k,false) 1))/\∃ u,zm w' a u cur { s with lk:=takeS s.lk txn (t,zb k,false) 1 }/\qv w w' (qd a b s) (qd a u { s with lk:=takeS s.lk txn (t,zb k,false) 1 }) cur cur a.r:=by
 have U:=zqE a.LB a.K a.bm b.T txn t (zb k) (Yo (by omega)) (by rw [jt];unfold maxLen;omega) (Yo (by omega)) w h.lk;refine U.mono ?_;rintro e w' ⟨rfl,X,E,L,O,R⟩;obtain ⟨z,D⟩:=h.ez E R O;rw [L,<- h.c8] at z D;rw [<- h.c8];exact ⟨rfl,_,z,D⟩
theorem GY (h:zm w a b cur s) {txn:Nat} (hx:txn<=1000) :
  zc 96 #[.pointer (some ⟨a.K,0,none⟩),.int .i64 txn] w fun e w'=>e=.returned (.tuple #[])/\∃ z,zm w' a z cur { s with lk:=dropM s.lk txn }/\qv w w' (qd a b s) (qd a z { s with lk:=dropM s.lk txn }) cur cur a.r:=by
 have hc:=zqc a.LB a.K a.bm b.T txn (Yo (by omega)) w h.lk;refine hc.mono ?_;rintro e w' ⟨rfl,T',R,U,D,Y⟩;obtain ⟨E,L⟩:=h.ez R (fun X Z hb O=>⟨D.block X Z (fun u=>u.elim (fun u=>u.elim hb (fun ⟨p,hp,e⟩=>O p hp e)) (fun u=>by omega)),Y X O⟩) D;rw [U,<- h.c8] at E L;exact ⟨rfl,_,E,L⟩
theorem zbF (h:zm w a b cur s) {n:Nat} (D:1<=n) (E:n<=3) :
  zc 95 #[.pointer (some ⟨a.S,1,none⟩),.int .i64 n] w fun e w'=>e=.returned (.tuple #[])/\∃ z,zm w' a z cur { s with ts:=s.ts.set n none }/\qv w w' (qd a b s) (qd a z { s with ts:=s.ts.set n none }) cur cur a.r:=by
 obtain ⟨o,R⟩:∃ o,s.ts[n]?=some o:=⟨_,zX (by rw [h.aq.len];omega)⟩;refine (zoK a.S n s.ts o w h.aq.row D E R).mono ?_;rintro e w' ⟨rfl,rfl⟩;obtain ⟨L,O⟩:=h.e1 (o:=none) (G':=fun _=>False) (zf _ w) D E (fun _ u=>u.elim) (fun _ _ e=>by cases e) (fun _ _ u=>u);exact ⟨rfl,_,L,O⟩
end
def zn.bo (s:zn):zn:={ s with av:=s.Q.length }
theorem zhh (a:Va) (b:Vb) (cur:Nat->Nat->List UInt8) (s:St) (w:World) (h:zm w a b cur s) :
  zc 66 #[.pointer (some ⟨a.L,0,none⟩)] w fun e w'=>e=.returned (.int .i64 0)/\∃ L cur',zm w' a L cur' { s with sto:=s.sto.bo }/\qv w w' (qd a b s) (qd a L { s with sto:=s.sto.bo }) cur cur' a.r:=by
 have u:=h.sto;refine (zdX a.D b.F b.FL cur a.L a.r s.sto.J s.sto.bank s.sto.Q s.sto.av w u.bg u.ar u.on u.r4 u.cm u.c3 u.len u.dm).mono ?_;rintro e w' ⟨rfl,F',cur',hL,Y,a0,U,R,E⟩;have a1:∀ x,vN a.B s.sto.fs x->w'.heap[x]?=w.heap[x]?:=fun x z=>R.block x (u.ab.lt z) (fun D=>by
  have O:=u.ab.a3 z;rcases D with D | D
  ·have:=u.bg.a3 x D;simp at O this;omega
  ·have:=u.ar.ah D;simp at O this;omega)
 have a3:qQ w' a.B a.D a.L a.r b.FL F' cur' s.sto.bo:=by
  refine ⟨u.ab.same a1,hL,Y,?_,fun n E i hi=>?_,u.r4,u.cm,u.c3,u.len,za _,u.cx,u.co⟩
  ·show yW (cur' a.r) s.sto.J s.sto.bank (s.sto.Q.take s.sto.Q.length);rw [qi];exact a0
  ·exact (U a.r _ (.inr (.inr (by omega)))).trans (u.fa n E i hi)
 have he:qv w w' (jL a.B b.FL b.F s.sto) (jL a.B b.FL F' s.sto.bo) cur cur' a.r:=by
  refine ⟨fun r' q h=>U r' q (h.imp id .inl),R.wide (fun x z=>z.elim (fun h=>.inl (.inl h)) (fun h=>.inl (.inr h))),fun x z=>?_⟩;rcases z with (z | z) | z
  ·exact .inl (.inl (.inl z))
  ·exact (E x z).imp (fun h=>.inl (.inr h)) id
  ·exact .inl (.inr z)
 obtain ⟨X,Z⟩:=h.bu a3 he;exact ⟨rfl,_,cur',X,Z⟩
theorem zbw (a:Va) (b:Vb) (cur:Nat->Nat->List UInt8) (s:St) (x:zQ) (u:Value) (w:World) (h:zm w a b cur s) (Z:x.ok) (O:uI w u x.Y) (hfit:s.sto.Q.length+(qG x).length<=14336) :
  zc 64 #[.pointer (some ⟨a.L,0,none⟩),JZ x u] w fun e w'=>e=.returned (.tuple #[.int .u64 (jj s.sto.J s.sto.Q.length),.int .i64 0])/\∃ z,zm w' a z cur { s with sto:=s.sto.au x }/\qv w w' (qd a b s) (qd a z { s with sto:=s.sto.au x }) cur cur a.r:=by
 refine (zcT a.L a.D a.r s.sto.J s.sto.bank s.sto.Q s.sto.av b.FL x u w h.sto.bg Z O h.sto.c3 hfit).mono ?_;rintro e w' ⟨rfl,a0,L,U,X⟩;obtain ⟨Y,R⟩:=h.sto.fy L U X hfit;obtain ⟨D,E⟩:=h.bu Y R;exact ⟨rfl,_,D,E⟩
def yw (txn:Nat):zQ:=⟨5,txn,0,0,none,none,[],[]⟩
def St.am (s:St) (txn:Nat) (x:Tx):St :=
 { s with sto:=if x.I=[] then s.sto else (s.sto.au (yw txn)).bo,ts:=s.ts.set txn none,lk:=dropM s.lk txn }
theorem Ko {txn:Nat} (h:txn<=255):(yw txn).ok:=⟨by simp [yw],by simp [yw],h,by simp [yw],by simp [yw],trivial,trivial,.inl rfl,.inl rfl,by simp [yw]⟩
theorem zjH (a:Va) (b:Vb) (cur:Nat->Nat->List UInt8) (s:St) (txn T:Nat) (x:Tx) (w:World) (h:zm w a b cur s) (a4:1<=txn) (a5:txn<=3) (b9:s.ts[txn]?=some (some (T,x))) (hfit:s.sto.Q.length+395<=14336) :
  zc 49 #[.pointer (some ⟨a.S,0,none⟩),.int .i64 txn] w fun e w'=>e=.returned (.int .i64 0)/\∃ b' cur',zm w' a b' cur' (s.am txn x)/\qv w w' (qd a b s) (qd a b' (s.am txn x)) cur cur' a.r:=by
 have a3:=QT a.S txn s.ts (some (T,x)) w h.aq.row a4 a5 b9;simp only [qk] at a3;obtain ⟨c0,d0⟩:=h.aq.tx txn T x b9;have a6:=hid a3;have R:=hid (zdY T x (b.G txn) w c0);have H:=hid h;have k5:=h.c5;obtain ⟨n,hn⟩:=ex x.I.length;rw [<- hn] at R;have U:=hid hn;clear h a3 c0 d0 hn;cases n with
 | zero =>
  have E:x.I=[]:=yd U.o.symm;have D:s.am txn x={ s with ts:=s.ts.set txn none,lk:=dropM s.lk txn }:=by unfold St.am;rw [if_pos E]
  have X:=hid D;clear E D;go_enter func49,ntmps49;go_upto_region 9 with (first|((with_reducible refine aV 88 a6.o ?_);rintro e1 w1 ⟨rfl,c7⟩;subst w1)|((with_reducible refine aV 94 R.o ?_);rintro e2 w2 ⟨rfl,c8⟩;subst w2)|((with_reducible refine aV 95 (zbF H.o a4 a5) ?_);rintro e3 w3 ⟨rfl,b3,u,z⟩));have k0:=u.c0;obtain ⟨L,O⟩:=zi2 u z;clear u z;go_wp2_with ((with_reducible refine aV 96 (GY L.o (by omega)) ?_);rintro e4 w4 ⟨rfl,b4,Y,a0⟩);go_ret;rw [X.o];exact ⟨rfl,b4,cur,Y,O.o.trans a0⟩
 | succ m =>
  have E:x.I≠[]:=fun e=>by rw [e] at U;exact absurd U.o (by simp)
  have D:s.am txn x={ s with sto:=(s.sto.au (yw txn)).bo,ts:=s.ts.set txn none,lk:=dropM s.lk txn }:=by unfold St.am;rw [if_neg E]
  have q1:(0:Int)<((m:Int)+1):=by omega
  have a1:=zbw a b cur s (yw txn) (.slice none 0 0) w H.o (Ko (by omega)) (uI.nil _) (by have:=yU (Ko (txn:=txn) (by omega));omega);rw [show JZ (yw txn) (.slice none 0 0)=.agg #[.int .i64 5,.int .i64 txn,.int .i64 0,.int .i64 0,.string { data:=#[] },.string { data:=#[] },.string { data:=#[] },.slice none 0 0] from rfl] at a1;obtain ⟨c3,X⟩:=zi2 a1 D;clear E D a1;go_enter func49,ntmps49;go_upto_region 5 with (first|((with_reducible refine aV 88 a6.o ?_);rintro e1 w1 ⟨rfl,c7⟩;subst w1)|((with_reducible refine aV 94 R.o ?_);rintro e2 w2 ⟨rfl,c8⟩;subst w2)|((with_reducible refine aV 64 c3.o ?_);rintro e5 w5 ⟨rfl,b5,Z,a8⟩));have d1:=Z.c5;obtain ⟨c1,c4⟩:=zi2 Z a8;clear Z a8;go_upto_region 8 with (go_at_call 66;(with_reducible refine (zhh a b5 cur _ w5 c1.o).mono ?_);rintro e6 w6 ⟨rfl,b6,c6,a7,a9⟩);have c2:=hid a7;have c5:=hid (c4.o.trans a9);clear a7 a9 d1;go_upto_region 9 with ((with_reducible refine aV 95 (zbF c2.o a4 a5) ?_);rintro e3 w3 ⟨rfl,b3,u,z⟩);have k0:=u.c0;have L:=hid u;have O:=hid (c5.o.trans z);clear u z;go_wp2_with ((with_reducible refine aV 96 (GY L.o (by omega)) ?_);rintro e4 w4 ⟨rfl,b4,Y,a0⟩);go_ret;rw [X.o];exact ⟨rfl,b4,c6,Y,O.o.trans a0⟩
end
def yX (h:List It) (r:Rw):Option It:=match h[jv h r]? with
 | some x=>if Zh x.rw r=0 then some x else none
 | none=>none
def Zy:Option It->Array Value
 | some x=>(zP x).toArray
 | none=>#[.int .i64 0,.string { data:=#[] },.string { data:=#[] },.int .i64 0,.int .i64 0]
theorem KM (o:Option It):(Zy o).size=5:=by cases o<;>rfl
theorem KA (o:Option It):(Zy o).all (·.oneCell')=true:=by cases o<;>simp [Zy,zP,Value.oneCell']
theorem znj (h:List It) (r:Rw):Gk h r (jv h r)=(.agg (Zy (yX h r)),(yX h r).isSome):=by
 unfold Gk yX;cases h[jv h r]? with
 | none=>rfl
 | some x =>simp only;split<;>rfl
theorem zeO {w:World} {a:Va} {b:Vb} {cur:Nat->Nat->List UInt8} {s:St} (h:zm w a b cur s) (hs:qe s.N) (u:s.N.length<=900) (t:Nat) (k:List UInt8) :
  zc 90 #[.pointer (some ⟨a.S,7,none⟩),.int .i64 t,.string (zb k)] w fun e w'=>e=.returned (.tuple #[.agg (Zy (yX s.N ⟨t,k,[]⟩)),.bool (yX s.N ⟨t,k,[]⟩).isSome])/\zd w w':=by
 have:=znk a.S 7 t k b.v s.N (jv s.N ⟨t,k,[]⟩) w h.c7 h.N (by omega) (Cut.bq hs);rw [znj] at this;exact this
def St.put (s:St) (r:Nat) (nbs:Nat->Nat) (nb txn ops:Nat) (rw:Rw):Nat × St :=
 if keyB s.lk txn rw.t (zb rw.k)=false then (6,s)
 else if 8<=ops then (8,{ s with lk:=keyS s.lk txn rw.t (zb rw.k) })
 else match yX s.N ⟨rw.t,rw.k,[]⟩ with
  | some x=>(0,({ s with lk:=keyS s.lk txn rw.t (zb rw.k) }:St).ready.al r nb 3 txn x.pg x.sl (some rw))
  | none=>match (zY s.ts nbs 6 0 s.sto).2 with
   | none=>(7,{ s with lk:=keyS s.lk txn rw.t (zb rw.k),sto:=(zY s.ts nbs 6 0 s.sto).1 })
   | some (n,i)=>(0,({ s with lk:=keyS s.lk txn rw.t (zb rw.k),sto:=(zY s.ts nbs 6 0 s.sto).1 }:St).ready.al r nb 3 txn n i (some rw))
theorem Zv (s:St):s.ready.N=s.N/\s.ready.ts=s.ts/\s.ready.lk=s.lk:=by unfold St.ready;split<;>exact ⟨rfl,rfl,rfl⟩
def pN:Option (Nat × Nat)->Nat
 | some (n,_)=>n
 | none=>0
def pI:Option (Nat × Nat)->Nat
 | some (_,i)=>i
 | none=>0
def znM:Option (Nat × Nat)->Int
 | some _=>0
 | none=>7
theorem zmd (o:Option (Nat × Nat)):zhF o=.tuple #[.int .i64 (pN o),.int .i64 (pI o),.int .i64 (znM o)]:=by rcases o with _ | ⟨n,i⟩<;>rfl
theorem zcQ {l:List (Option Rw)} {u:List Nat}:∀ {k i j:Nat},vD l u k i=some j->j<i+k
 | 0,i,j,h=>by simp [vD] at h
 | k+1,i,j,h=>by
  unfold vD at h;split at h
  ·injection h with h;omega
  ·have:=zcQ h;omega
theorem KU {ts:qE} {nbs:Nat->Nat}:∀ {g k:Nat} {s:zn} {n i:Nat},(zY ts nbs g k s).2=some (n,i)->n<k+g/\i<5
 | 0,k,s,n,i,h=>by simp [zY] at h
 | g+1,k,s,n,i,h=>by
  unfold zY at h;split at h
  ·rename_i j u;simp only [jd,Prod.mk.injEq] at h;obtain ⟨rfl,rfl⟩:=h;have:=zcQ u;exact ⟨by omega,by omega⟩
  ·have:=KU h;omega
theorem zbk {ts:qE} {nbs:Nat->Nat}:∀ {g k:Nat} {s:zn},(zY ts nbs g k s).1.J=s.J
 | 0,k,s=>rfl
 | g+1,k,s=>by
  unfold zY;split
  ·exact (ZG s _ _).2.1
  ·exact zbk.trans (ZG s _ _).2.1
theorem zbZ {w:World} {a:Va} {b:Vb} {cur:Nat->Nat->List UInt8} {s:St} (h:zm w a b cur s):s.ready.sto.Q.length+395<=14336:=by
 unfold St.ready;split
 ·rename_i u;unfold uA at u;omega
 ·have D:=h.aq.eb;have E:=zdw (fun r z=>(h.aq.eo r z).1);show (zq (qV s.ts)).length+395<=14336;omega
theorem zhn {M:Lk} {txn t:Nat} {k:ByteArray} (h:keyB M txn t k=false):keyS M txn t k=M:=by unfold keyS;rw [if_neg (by rw [h];simp)]
theorem zm.e5 {w:World} {a:Va} {b:Vb} {cur:Nat->Nat->List UInt8} {s:St} (h:zm w a b cur s) {x t:Nat} {C:Array Value} (O:w.heap[x]?=some (.cells C t (0,0))) (L:t ∉ [103,222,100001,136,208,150,3,200,204,194,5,81,118,86,120]):¬ qd a b s x:=fun u=>by
 obtain ⟨R,U,X,Y,E,D⟩:=h.ah;have z:=zh O;simp only [zO,qZ,or_false,not_or] at L E D;rcases u with (rfl | rfl | u | u | ⟨i,u⟩ | u | u) | u
 ·rw [R] at z;omega
 ·rw [U] at z;omega
 ·rw [X x u] at z;omega
 ·rw [Y x u] at z;omega
 ·have:=E i x u;rw [z] at this;omega
 ·have:=D x (.inl (.inl u));rw [z] at this;omega
 ·have:=D x (.inr u);rw [z] at this;omega
 ·have:=D x (.inl (.inr u));rw [z] at this;omega
theorem qv.ed {w w':World} {M u:Nat->Prop} {cur cur':Nat->Nat->List UInt8} {r x:Nat} (h:qv w w' M u cur cur' r) (z:¬ M x) (E:x<w.heap.size):¬ u x:=fun D=>(h.new x D).elim z (fun h=>by omega)
theorem qv.U {w w':World} {M z:Nat->Prop} {cur cur':Nat->Nat->List UInt8} {r x:Nat} {o:Obj} (h:qv w w' M z cur cur' r) (D:¬ M x) (u:w.heap[x]?=some o):w'.heap[x]?=some o:=(h.ac.block x (YP u) D).trans u
theorem zmj (a:Va) (b:Vb) (cur:Nat->Nat->List UInt8) (s:St) (txn T:Nat) (x:Tx) (rw:Rw) (w:World) (h:zm w a b cur s) (h7:1<=txn) (h9:txn<=3) (e6:s.ts[txn]?=some (some (T,x))) (a9:rw.ok) (hW:WF s.lk)
  (h6:qe s.N) (h3:s.N.length<=900) (l3:∀ y,y∈s.N->y.pg<6/\y.sl<5) (l0:s.sto.J+1<4294967296) :
  zc 48 #[.pointer (some ⟨a.S,0,none⟩),.int .i64 txn,.agg #[.int .i64 rw.t,.string (zb rw.k),.string (zb rw.v)]] w fun e w'=>∃ nbs nb b' cur',e=.returned (.int .i64 (s.put a.r nbs nb txn x.ops rw).1)/\zm w' a b' cur' (s.put a.r nbs nb txn x.ops rw).2/\qv w w' (qd a b s) (qd a b' (s.put a.r nbs nb txn x.ops rw).2) cur cur' a.r:=by
 obtain ⟨w1,d2⟩:=ex (w.alloc (.cells #[.int .i64 rw.t,.string (zb rw.k),.string (zb rw.v)] 34));have e2:zd w w1:=by rw [d2];exact B_alloc (zf _ _) _
 have e0:w1.heap[w.heap.size]?=some (.cells #[.int .i64 rw.t,.string (zb rw.k),.string (zb rw.v)] 34 (0,0)):=by rw [d2];exact zo _ _ rfl
 have c6:=h.below e2;have j0:=hid (zlJ c6.drew hW (txn:=txn) (t:=rw.t) (k:=rw.k) (by omega) (by have:=a9.1;omega) (by have:=a9.2.1;omega));obtain ⟨e7,i6,c3⟩:=zi3 c6 e2 e0;have hS:=And.intro c6.c0 e0;have H:=hid h;clear h e2 e0 c6;go_enter func48,ntmps48;go_upto_region 1 with fail;rw [<- d2];clear d2;refine sV [9] 11 (fun w'=>zH w' a.S 0 (.pointer (some ⟨a.K,0,none⟩))/\jJ w' w.heap.size #[.int .i64 rw.t,.string (zb rw.k),.string (zb rw.v)] 34) hS fun u=>?_;refine pV 0 ?_;refine pV 1 ?_;refine pV 2 ?_;refine tV 3 ?_;refine pV 4 ?_;refine pV 5 ?_;refine cV 6 (fun _ h=>xV (Value.int .i64 rw.t) 0 h.2) ?_;refine pV 7 ?_;refine cV 8 (fun _ h=>xV (Value.string (zb rw.k)) 1 h.2) ?_;refine lC 9 j0.o ?_;rintro m1 L ⟨rfl,b2,f8,c7⟩;refine eL ?_;refine pV 10 ?_;refine dV ?_;have h1:L.heap[w.heap.size]?=some (.cells #[.int .i64 rw.t,.string (zb rw.k),.string (zb rw.v)] 34 (0,0)):=c7.U (e7.o.drew.e5 c3.o (by decide)) c3.o;have g7:¬ qd a b2 { s with lk:=keyS s.lk txn rw.t (zb rw.k) } w.heap.size:=c7.ed (e7.o.drew.e5 c3.o (by decide)) (zi c3.o);have a3:=hid f8;have c0:=hid (((qv.refl _ _ _ _).call i6.o.drew).trans c7);obtain ⟨c4,l8⟩:=zi2 h1 g7;clear f8 c7 h1 g7 u hS;cases hk:keyB s.lk txn rw.t (zb rw.k) with
 | false =>have HK:=hid hk;clear hk;go_wp2_with fail;go_ret;refine ⟨fun _=>0,0,b2,cur,?_⟩;unfold St.put;rw [if_pos HK.o];have hA:=a3.o;have hE:=c0.o;rw [zhn HK.o] at hA hE;exact ⟨rfl,hA,hE⟩
 | true =>
  have e4:=QT a.S txn s.ts (some (T,x)) L a3.o.aq.row h7 h9 e6;simp only [qk] at e4;obtain ⟨i0,i2⟩:=a3.o.aq.tx txn T x e6;have f3:=hid e4;have f2:=hid (zji T x (b2.G txn) L i0);obtain ⟨l9,HK⟩:=zi2 i2 hk;clear hk e4 i0 i2;by_cases h8:8<=x.ops
  ·have k4:decide (8<=x.ops)=true:=decide_eq_true h8;go_wp2_with (first|((with_reducible refine aV 88 f3.o ?_);rintro k5 w3 ⟨rfl,l4⟩;subst w3)|((with_reducible refine aV 89 f2.o ?_);rintro k6 w4 ⟨rfl,l5⟩;subst w4));go_ret;refine ⟨fun _=>0,0,b2,cur,?_⟩;unfold St.put;rw [if_neg (by rw [HK.o];simp),if_pos h8];exact ⟨rfl,a3.o,c0.o⟩
  ·have k4:decide (8<=x.ops)=false:=decide_eq_false h8;go_upto_region 5 with (first|((with_reducible refine aV 88 f3.o ?_);rintro k5 w3 ⟨rfl,l4⟩;subst w3)|((with_reducible refine aV 89 f2.o ?_);rintro k6 w4 ⟨rfl,l5⟩;subst w4));have hput:∀ nbs nb,s.put a.r nbs nb txn x.ops rw=match yX s.N ⟨rw.t,rw.k,[]⟩ with
    | some y=>(0,({ s with lk:=keyS s.lk txn rw.t (zb rw.k) }:St).ready.al a.r nb 3 txn y.pg y.sl (some rw))
    | none=>match (zY s.ts nbs 6 0 s.sto).2 with
     | none=>(7,{ s with lk:=keyS s.lk txn rw.t (zb rw.k),sto:=(zY s.ts nbs 6 0 s.sto).1 })
     | some (n,i)=>(0,({ s with lk:=keyS s.lk txn rw.t (zb rw.k),sto:=(zY s.ts nbs 6 0 s.sto).1 }:St).ready.al a.r nb 3 txn n i (some rw)):=fun nbs nb=>by
    unfold St.put;rw [if_neg (by rw [HK.o];simp),if_neg h8]
   have d7:=hid hput;obtain ⟨D,e3⟩:=ex (yX s.N ⟨rw.t,rw.k,[]⟩);have c2:=hid e3;have h2:∀ W,zd L W->zc 90 #[.pointer (some ⟨a.S,7,none⟩),.int .i64 rw.t,.string (zb rw.k)] W fun e w'=>e=.returned (.tuple #[.agg (Zy D),.bool D.isSome])/\zd W w':=fun W hb=>by rw [e3];exact zeO (a3.o.below hb) h6 h3 rw.t rw.k
   have f0:=hid h2;have k1:=xV (Value.int .i64 rw.t) 0 c4.o;have k2:=xV (Value.string (zb rw.k)) 1 c4.o;clear hput e3 h2;go_cut [7,8] from 11 (fun s7 s8 wc=>∃ X,s7=.pointer (some ⟨X,0,none⟩)/\s8=.bool D.isSome/\L.heap.size<=X/\wc.heap[X]?=some (.cells (Zy D) 136 (0,0))/\zd L wc)
   case first =>
    refine sV [12] 14 (fun w'=>zH w' w.heap.size 0 (.int .i64 rw.t)/\zH w' w.heap.size 1 (.string (zb rw.k))/\zd L w') ⟨k1,k2,(zf _ _).drew⟩ fun u=>?_;refine pV 0 ?_;refine pV 1 ?_;refine pV 2 ?_;refine pV 3 ?_;refine cV 4 (fun _ h=>h.1) ?_;refine pV 5 ?_;refine cV 6 (fun _ h=>h.2.1) ?_;refine PrintLast.two_ (i:=7) (j:=11) (Ni:=some 36) (Nj:=some 7) (bA 14 255) (bA 14 2175) rfl rfl rfl rfl (by kernel_rfl) (by simp) (by simp) (fun K z=>?_) (fun K z=>?_)
    ·rw [if_pos (by rfl)];show Oper.wp _ ⟨some 36,_,_,_,_,_⟩ _ _ _ _;have a5:=u;refine vI 90 _ _ [.pointer (some ⟨a.S,7,none⟩),.int .i64 rw.t,.string (zb rw.k)] rfl (by kernel_rfl) (by rfl) ((f0.o _ u.2.2).mono ?_);rintro k7 w5 ⟨rfl,E⟩;refine ⟨_,rfl,?_⟩;refine z.out _ _ ⟨qU u.1 E (ZR u.1),qU u.2.1 E (ZR u.2.1),B_call u.2.2 E⟩ (fun u=>?_);clear z K;try simp only [pS]
     refine pV 8 ?_;refine pV 9 ?_;refine pV 10 ?_;refine oV 11 fun K z=>?_;refine zaY 136 rfl _ rfl (.agg (Zy none)) (by kernel_rfl) ?_;refine z.out _ _ ⟨yK u.1 _,yK u.2.1 _,B_alloc u.2.2 _⟩ (fun u=>?_);clear z K;try simp only [pS]
     refine lV 12 fun K z=>?_;refine QP 136 (.tmp 7) (.tmp 37) rfl _ rfl _ (Zy D) (by rfl) (by rfl) (by rw [KM];kernel_rfl) (by rw [KM];rfl) (KA D) ?_;refine z.out _ _ ?_;clear z K;try simp only [pS]
     refine pV 13 ?_;refine dV ?_;have U:=hid (zo w5 (.cells (Zy D) 136) rfl);have HB:=hid (B_alloc (B_call a5.2.2 E) (.cells (Zy D) 136));have HZ:=hid (zz a5.2.2.size E.size);clear u a5 E;go_wp2_with fail;go_meet
     case rel=>exact ⟨_,rfl,rfl,HZ.o,U.o,HB.o⟩
    ·rw [if_pos (by rfl)];show Oper.wp _ ⟨some 7,_,_,_,_,_⟩ _ _ _ _;refine zaY 136 rfl _ rfl (.agg (Zy none)) (by kernel_rfl) ?_;refine z.out _ _ ⟨yK u.1 _,yK u.2.1 _,B_alloc u.2.2 _⟩ (fun u=>?_);clear z K;try simp only [pS]
     refine oV 7 fun K z=>?_;have a5:=u;refine vI 90 _ _ [.pointer (some ⟨a.S,7,none⟩),.int .i64 rw.t,.string (zb rw.k)] rfl (by kernel_rfl) (by rfl) ((f0.o _ u.2.2).mono ?_);rintro k7 w5 ⟨rfl,E⟩;refine ⟨_,rfl,?_⟩;refine z.out _ _ ⟨qU u.1 E (ZR u.1),qU u.2.1 E (ZR u.2.1),B_call u.2.2 E⟩ (fun u=>?_);clear z K;try simp only [pS]
     refine pV 8 ?_;refine pV 9 ?_;refine pV 10 ?_;refine lV 12 fun K z=>?_;refine wp_store_row 136 (.tmp 7) (.tmp 37) rfl L.drew.heap.size (Zy D) (by rfl) (by rfl) 136 _ (zg (zo L.drew (.cells (Zy none) 136) rfl) E (by simp)) (by rw [KM];kernel_rfl) ((KM none).trans (KM D).symm) (KA D) ?_;refine z.out _ _ ?_;clear z K;try simp only [pS]
     refine pV 13 ?_;refine dV ?_;have U:=hid (setRow_heap w5 L.drew.heap.size _ (Zy D) 136 _ (zg (zo L.drew (.cells (Zy none) 136) rfl) E (by simp)));have HB:=hid (below_setRow (B_call a5.2.2 E) (show L.heap.size<=L.drew.heap.size from za _) (Zy D));clear u a5 E;go_wp2_with fail;go_meet
     case rel=>exact ⟨_,rfl,rfl,za _,U.o,HB.o⟩
   case rest =>
    obtain ⟨X,rfl,rfl,m6,hX,a8⟩:=hcut;have g2:=a3.o.below a8;have g9:¬ qd a b2 { s with lk:=keyS s.lk txn rw.t (zb rw.k) } X:=fun hy=>by have:=a3.o.lt hy;omega
    obtain ⟨d4,U,d6,l7⟩:=zi4 g2 hX g9 a8;have e9:=hid (c0.o.call a8);have c5:=hid (zg c4.o a8 (zi c4.o));clear g2 hX g9 a8 k1 k2;go_upto_if 40 with fail;go_cut [7] from 11 (fun s7 wd=>s7=.pointer (some ⟨X,0,none⟩)/\∃ (nbs:Nat->Nat) (b6:Vb) (Y:Nat->Nat->List UInt8) (a1:zn) (n i:Nat) (C:Array Value),wd.heap[X]?=some (.cells C 136 (0,0))/\C[3]?=some (.int .i64 n)/\C[4]?=some (.int .i64 i)/\n<6/\i<5/\zm wd a b6 Y { sto:=a1,N:=s.N,ts:=s.ts,lk:=keyS s.lk txn rw.t (zb rw.k) }/\qv w wd (qd a b s) (qd a b6 { sto:=a1,N:=s.N,ts:=s.ts,lk:=keyS s.lk txn rw.t (zb rw.k) }) cur Y a.r/\¬ qd a b6 { sto:=a1,N:=s.N,ts:=s.ts,lk:=keyS s.lk txn rw.t (zb rw.k) } X/\wd.heap[w.heap.size]?=some (.cells #[.int .i64 rw.t,.string (zb rw.k),.string (zb rw.v)] 34 (0,0))/\a1.J=s.sto.J/\(∀ nb,s.put a.r nbs nb txn x.ops rw=(0,({ sto:=a1,N:=s.N,ts:=s.ts,lk:=keyS s.lk txn rw.t (zb rw.k) }:St).ready.al a.r nb 3 txn n i (some rw))))
    case first =>
     cases D with
     | some y =>
      have hy:y∈s.N:=by
       have O:=c2.o;unfold yX at O;split at O
       ·rename_i n0 hz;split at O
        ·injection O with O;rw [O];exact zC hz
        ·cases O
       ·cases O
      have HY:=hid (l3 y hy);go_wp2_with fail;go_meet
      case rel=>exact ⟨rfl,fun _=>0,b2,cur,s.sto,y.pg,y.sl,_,U.o,rfl,rfl,HY.o.1,HY.o.2,d4.o,e9.o,d6.o,c5.o,rfl,fun nb=>by rw [d7.o,<- c2.o]⟩
     | none =>
      have e5:=zkf a b2 cur { s with lk:=keyS s.lk txn rw.t (zb rw.k) } wc d4.o;simp only [zmd] at e5;have j2:=hid e5;clear e5;go_upto_if 50 with (first|((with_reducible refine aV 91 j2.o ?_);rintro m2 w6 ⟨nbs,b6,Y,rfl,f9,a7⟩;have d3:=a7.U d6.o U.o)|(show wpList _ _ _ (⟨none,.store 3 (.tmp 47) _,_,_,_,_⟩::_) _ _;refine Zl rfl 3 (.tmp 47) (.tmp 44) rfl X 3 _ 136 _ (by rfl) (by rfl) (by kernel_rfl) d3 (by simp [Zy]) rfl ?_)|(show wpList _ _ _ (⟨none,.store 3 (.tmp 48) _,_,_,_,_⟩::_) _ _;refine Zl rfl 3 (.tmp 48) (.tmp 45) rfl X 4 _ 136 _ (by rfl) (by rfl) (by kernel_rfl) (zB _ _ 3 _ _ _ d3) (by simp [Zy]) rfl ?_));obtain ⟨o,ho⟩:=ex ((zY s.ts nbs 6 0 s.sto).2);have HO:=hid ho;have g6:=e9.o.trans a7;have g8:=a7.ed d6.o (zi U.o);have i1:=a7.U (d4.o.e5 c5.o (by decide)) c5.o;have k8:¬ w.heap.size=X:=fun e=>by have O:=zh c5.o;rw [e,zh U.o] at O;exact absurd O (by decide)
      obtain ⟨j5,i4,a4,f4,j6⟩:=zi5 d3 f9 g6 g8 i1;clear d3 f9 a7 g6 g8 i1;rw [<- ho];clear ho;obtain ⟨w7,a0⟩:∃ w7,(w6.setCell ⟨X,3,none⟩ (.int .i64 (pN o))).setCell ⟨X,4,none⟩ (.int .i64 (pI o))=w7:=⟨_,rfl⟩;have a6:w7.heap[X]?=some (.cells ((((Zy none).setIfInBounds 3 (.int .i64 (pN o))).setIfInBounds 4 (.int .i64 (pI o)))) 136 (0,0)):=by rw [<- a0,zB _ _ 4 _ _ _ (zB _ _ 3 _ _ _ j5.o)]
      have d0:∀ q,q≠X->w7.heap[q]?=w6.heap[q]?:=fun q hq=>by rw [<- a0];exact (zt _ _ _ _ hq).trans (zt _ _ _ _ hq)
      have l6:w7.heap.size=w6.heap.size:=by rw [<- a0];simp
      have g0:=i4.o.same (w':=w7) (fun q hq=>d0 q (fun e=>f4.o (e ▸ hq))) (by omega);have m7:w.heap.size<=X:=by have m5:=c0.o.ac.size;omega
      have Z:qv w w7 (qd a b s) (qd a b6 { s with sto:=(zY s.ts nbs 6 0 s.sto).1,lk:=keyS s.lk txn rw.t (zb rw.k) }) cur Y a.r :=
       ⟨a4.o.out,⟨by rw [<- a0];exact a4.o.ac.os,by rw [<- a0];exact a4.o.ac.tape,by rw [<- a0];exact a4.o.ac.output,by have:=a4.o.ac.size;omega,fun q hq hn=>(d0 q (by omega)).trans (a4.o.ac.block q hq hn)⟩,a4.o.new⟩
      obtain ⟨e8,c1,j7⟩:=zi3 g0 Z a6;have b9:=(d0 _ k8).trans j6.o;have d8:=hid b9;rw [a0];clear g0 Z a6 d0 b9 a0 l6;rcases o with _ | ⟨n,i⟩
      ·have k3:znM none=7:=rfl;go_wp2_with fail;go_ret;refine ⟨nbs,0,b6,Y,?_⟩;rw [d7.o,<- c2.o];simp only [<- HO.o];exact ⟨rfl,e8.o,c1.o⟩
      ·have k3:znM (some (n,i))=0:=rfl;have l2:=KU HO.o.symm;go_wp2_with fail;go_meet
       case rel=>exact ⟨rfl,nbs,b6,Y,(zY s.ts nbs 6 0 s.sto).1,n,i,_,j7.o,rfl,rfl,by omega,l2.2,e8.o,c1.o,f4.o,d8.o,zbk,fun nb=>by rw [d7.o,<- c2.o];simp only [<- HO.o]⟩
    case rest =>
     obtain ⟨rfl,nbs,b6,Y,a1,n,i,C,hX,g3,g4,hn,hi,hA,hE,hN,e1,k9,hp⟩:=hcut;have j3:=hid (zbY a b6 Y _ wc hA (by show a1.J+1 < _;rw [k9];exact l0));obtain ⟨U,i7,i8,HE,HN⟩:=zi5 hX g3 g4 hE hN;have j1:=hid (hA.e5 e1 (by decide));obtain ⟨d8,HP⟩:=zi2 e1 hp;have f1:=hid (zbZ hA);clear hX g3 g4 hA hE hN e1 hp;go_upto_region 14 with ((with_reducible refine aV 63 j3.o ?_);rintro m3 R ⟨rfl,b8,k0,d9,Z⟩);obtain ⟨s8,d1⟩:=ex (({ sto:=a1,N:=s.N,ts:=s.ts,lk:=keyS s.lk txn rw.t (zb rw.k) }:St).ready);have h4:s8.N=s.N/\s8.ts=s.ts/\s8.lk=keyS s.lk txn rw.t (zb rw.k):=by rw [d1];exact Zv _
     rw [<- d1] at d9 Z f1;have a6:=Z.U HN.o U.o;have b9:=Z.U j1.o d8.o;have f5:R.drew.cell? ⟨X,3,none⟩=some (.int .i64 n):=(ze R.drew X 3 _ _ _ a6).trans i7.o;have f6:R.drew.cell? ⟨X,4,none⟩=some (.int .i64 i):=(ze R.drew X 4 _ _ _ a6).trans i8.o;have hS:R.drew.cell? ⟨X,3,none⟩=some (.int .i64 n)/\R.drew.cell? ⟨X,4,none⟩=some (.int .i64 i)/\R.drew.heap[w.heap.size]?=some (.cells #[.int .i64 rw.t,.string (zb rw.k),.string (zb rw.v)] 34 (0,0))/\zd R R.drew:=⟨f5,f6,b9,(zf _ _).drew⟩;have i5:=hid d9;have c1:=hid (HE.o.trans Z);obtain ⟨j4,d5⟩:=zi2 d1 h4;clear d9 Z d1 h4 a6 b9 f5 f6;refine sV [9] 11 (fun w'=>zH w' X 3 (.int .i64 n)/\zH w' X 4 (.int .i64 i)/\jJ w' w.heap.size #[.int .i64 rw.t,.string (zb rw.k),.string (zb rw.v)] 34/\zd R w') hS fun u=>?_;refine pV 0 ?_;refine pV 1 ?_;refine pV 2 ?_;refine cV 3 (fun _ h=>h.1) ?_;refine pV 4 ?_;refine cV 5 (fun _ h=>h.2.1) ?_;refine kV 6 rfl (qR 34 (.tmp 5) rfl (by rfl) w.heap.size (by rfl) 34 #[.int .i64 rw.t,.string (zb rw.k),.string (zb rw.v)] (0,0) _ (fun _ h=>h.2.2.1) underlying34 rfl (by kernel_rfl)) ?_;refine oC 7 (zch a9 R.drew) ?_;rintro m4 w9 ⟨v9,rfl,h5,c8⟩;obtain ⟨A9,c9,rfl⟩:=own_slice h5;have l1:zj w9 (.slice A9 40 c9) (yZ rw):=zj.aj (QI a9).symm h5;refine eV ⟨qU u.1 c8 (ZR u.1),qU u.2.1 c8 (ZR u.2.1),zg u.2.2.1 c8 (zi u.2.2.1),B_call u.2.2.2 c8⟩ fun u=>?_;refine oV 8 fun K z=>?_;refine Qn 29 9 (.tmp 64) rfl (.slice A9 40 c9) (.string (zb (yZ rw))) (by rfl) (um l1) ?_;refine z.out _ _ u (fun u=>?_);clear z K;try simp only [pS]
     refine lC 9 (zaz a b8 k0 s8 3 txn n i T x (some rw) w9 (i5.o.below u.2.2.2) (.inl rfl) h7 h9 (by rw [d5.o.2.1];exact e6) (fun _=>by omega) hn hi a9 (by rw [d5.o.1];exact h6) (by rw [d5.o.1];exact h3) f1.o) ?_;rintro m0 m9 ⟨rfl,nb,j8,j9,m8,f7,g5⟩;refine eL ?_;refine pV 10 ?_;refine dV ?_;have i3:=hid f7;have i9:=hid ((c1.o.call u.2.2.2).trans g5);clear f7 g5 u hS;go_wp2_with fail;go_ret;refine ⟨nbs,nb,j8,j9,?_⟩;rw [HP.o,<- j4.o];exact ⟨rfl,i3.o,i9.o⟩
def uT:qE:=[none,none,none,none]
def QL:zn:=⟨jA,0,1,0,qG qF,(qG qF).length,fun _=>Jc⟩
def Zz:St:=⟨QL,[],uT,[]⟩
theorem Qu.zero {c:Nat->List UInt8} {r n:Nat} (h:∀ q,514<=q->q<538->c q=zs 64) (z:n<6):Qu c r n Jc:=fun i u=>by
 rw [h _ (by omega) (by omega)];have:jD r n Jc=zs 256:=by unfold jD;rw [if_pos (show Jc.mark=0 from rfl)]
 rw [this];unfold zs;rw [List.drop_replicate,List.take_replicate];congr 1;omega
theorem zm.dq {w:World} {a:Va} {FL F:Nat->Prop} {cur:Nat->Nat->List UInt8} {sto:zn}
  (u:w.heap[a.S]?=some (.cells (ut a uT (.slice none 0 0)).toArray 103 (0,0))) (hs:qQ w a.B a.D a.L a.r FL F cur sto) (E:qh w a.LB a.K a.bm []) :
  zm w a ⟨FL,F,fun _ _=>False,.slice none 0 0,[]⟩ cur ⟨sto,[],uT,[]⟩ :=
 ⟨u,hs,ql _ _ _ _,⟨rfl,rfl,⟨_,u,fun i D=>zaQ D⟩,fun i b x z=>(by
  have:i<4:=(zr.1 z).1;obtain rfl | rfl | rfl | rfl:i=0∨i=1∨i=2∨i=3:=by omega
  all_goals simp [uT] at z),fun _ _ _ _ h=>h.elim,fun _ _ _ h=>h⟩,E,rfl⟩
theorem zmG (D r:Nat) (F:Nat->Prop) (cur:Nat->Nat->List UInt8) (w:World) (hD:jk w D F cur) (hr:r<4) (hz:∀ q,514<=q->q<538->cur r q=zs 64) :
  zc 46 #[.pointer (some ⟨D,0,none⟩),.int .i64 r] w fun e w'=>∃ (a:Va) (b:Vb) (cur':Nat->Nat->List UInt8),e=.returned (.tuple #[.pointer (some ⟨a.S,0,none⟩),.int .i64 0])/\a.D=D/\a.r=r/\zm w' a b cur' Zz/\vq cur cur' r/\zA F w w'/\qN w F b.F/\∀ x,zbV a b Zz x->w.heap.size<=x:=by
 have a6:=hid (znv D F cur r w hD hr);go_enter func46,ntmps46;go_upto_region 4 with ((with_reducible refine aV 86 a6.o ?_);rintro e1 w1 ⟨L,X,FL,U,rfl,hL,b9,c6,a4,a3,c5,c3⟩);have a7:=hid (new_any w1);go_wp2_with (first|((with_reducible refine aV 79 a7.o ?_);rintro e2 z ⟨rfl,c4,c2,a5⟩;have a8:=hid a5;clear a5)|((with_reducible refine aV 80 (zhH D r L z) ?_);rintro e3 E ⟨rfl,c7,a1⟩));go_ret2;obtain ⟨T,hT,c1⟩:=c4;have c0:T=[]:=by
  cases T with
  | nil=>rfl
  | cons p l=>simp [zp] at c1
 subst c0;obtain ⟨a,h⟩:∃ a:Va,a=⟨E.heap.size,w1.heap.size+1,w1.heap.size,w1.heap.size+2,L,z.heap.size,D,r⟩:=⟨_,rfl⟩;have a0:zd w1 E:=B_call c2 a1;have Y:=B_alloc a0 (.cells #[.pointer (some ⟨w1.heap.size+1,0,none⟩),.pointer none,.pointer none,.pointer none,.pointer none,.pointer (some ⟨L,0,none⟩),.pointer (some ⟨z.heap.size,0,none⟩),.slice none 0 0,.int .i64 r] 103);have c8:qQ (E.alloc (.cells #[.pointer (some ⟨w1.heap.size+1,0,none⟩),.pointer none,.pointer none,.pointer none,.pointer none,.pointer (some ⟨L,0,none⟩),.pointer (some ⟨z.heap.size,0,none⟩),.slice none 0 0,.int .i64 r] 103)) z.heap.size D L r FL X U QL:=by
  refine ⟨c7.below (B_alloc (zf _ _) _),hL.below Y,zK.below b9 Y,?_,fun n hn=>Qu.zero (fun q Z h2=>(a4 r q (.inr (.inr Z))).trans (hz q Z h2)) hn,hr,by decide,by decide,?_,za _,fun _=>zmc,?_⟩
  ·show yW (U r) 1 0 ((qG qF).take (qG qF).length);rw [qi];exact c6
  ·have:=yU YN;show (qG qF).length<=14336;omega
  ·intro f O b n p R;simp only [QL,jA,zO,qZ,or_false,or_self] at O;subst O;cases R
 have hA:=zm.dq (w:=E.alloc (.cells #[.pointer (some ⟨w1.heap.size+1,0,none⟩),.pointer none,.pointer none,.pointer none,.pointer none,.pointer (some ⟨L,0,none⟩),.pointer (some ⟨z.heap.size,0,none⟩),.slice none 0 0,.int .i64 r] 103)) (a:=a) (FL:=FL) (F:=X) (cur:=U) (sto:=QL) (by rw [h];exact zo E _ rfl) (by rw [h];exact c8) (by rw [h];exact (hT.below a1).below (B_alloc (zf _ _) _));have d0:=a3.size;have d1:=a0.size;have HZ:=a8.o;refine ⟨a,⟨FL,X,fun _ _=>False,.slice none 0 0,[]⟩,U,by rw [h];rfl,by rw [h],by rw [h],hA,fun r' q a9=>a4 r' q (a9.imp id .inl),a3.call Y,c5,?_⟩;rintro x (rfl | rfl | u | u | ⟨i,u⟩ | u | u)
 ·rw [h];show _<=E.heap.size;omega
 ·rw [h];show _<=w1.heap.size+1;omega
 ·rw [h] at u;rcases u with rfl | ⟨p,R,_⟩
  ·exact d0
  ·cases R
 ·cases u
 ·exact u.elim
 ·exact c3 x u
 ·rcases u with rfl | ⟨f,O,n,p,R⟩
  ·rw [h];show _<=z.heap.size;omega
  ·simp only [Zz,QL,jA,zO,qZ,or_false,or_self] at O;subst O;cases R
def YR (h:List It) (k:Nat):Array Value:=match h[k]? with
 | some x=>#[.agg (zP x).toArray]
 | none=>#[.agg #[]]
theorem zcS (h:List It) (k:Nat):(YR h k).size=1:=by unfold YR;split<;>rfl
theorem Gp {u:List It} {k:Nat} {x:It} (h:u[k]?=some x):YR u k=#[.agg (zP x).toArray]:=by simp [YR,h]
theorem zpV (X o:Nat) (v:Value) (z:List It) (I:Nat->World->Prop) (hl:z.length<=1000) (Z:∀ k W,I k W->Yy W X o v z):zgI prog 61 #[.pointer (some ⟨X,o,none⟩)] #[] z.length (YR z) I:=by
 intro l J w a0 a9 a5 h0;show zc 61 #[.pointer (some ⟨X,o,none⟩),.func (.yield l) #[] #[]] w _;have a8:=hid a5;have HI:=hid (fun k W h=>Z k W (a0 k W h));have H0:=hid h0;clear a0 a9 a5 h0 Z;go_enter func61,ntmps61;go_upto_region 1 with fail;go_loopw [4] (fun u wr=>∃ k:Nat,k<=z.length/\u=.int .i64 k/\J k wr) (fun u _=>(z.length-jF u).toNat)
 case atStart=>exact ⟨0,zT _,rfl,H0.o⟩
 case round =>
  obtain ⟨k,hk,rfl,E⟩:=hrel;have D:=HI.o k wr E;have U:=hid (zoV X o v z wr D);by_cases a3:k<z.length
  ·have q0:(0:Int)<=(k:Int):=by omega
   have q1:(k:Int)<(z.length:Int):=by omega
   obtain ⟨x,L⟩:∃ x,z[k]?=some x:=⟨_,zX a3⟩;obtain ⟨A,c,rfl⟩:=own_slice D.N;obtain ⟨g,rfl,_,hg,_,_,a4⟩:=qW.range D.N L;have c1:=D.cell;have HR:=hid a4;have O:=a8.o k wr a3 E;rw [Gp L] at O;have HY:=hid O;have x2:IntKind.i64.wrap ((k:Int)+1)=(k:Int)+1:=by rw [zu];omega
   clear a4 E D L O;go_upto_region 3 with ((with_reducible refine aV 101 U.o ?_);rintro Y R ⟨rfl,c0⟩;subst R);refine Ya (pre:=[_,_,_,_,_,_,_,_]) (post:=[_]) rfl rfl rfl (fun _ _ h=>h) ?_;go_wp2_with ((with_reducible refine gV 18 ?_);refine mV (zP x) HR.o ?_);refine ⟨l,.tmp 11,_,_,_,rfl,by rfl,by rfl,Kw HY.o ?_⟩;rintro Y w5 ⟨rfl,b9⟩;refine ⟨_,rfl,?_⟩;go_wp2_with fail;refine (by assumption:∀ a w,Code.wp prog (Code.cond (.tmp 20) Code.ret Code.skip) _ a w->_) _ _ ?_;go_wp2_with fail;go_roundw
   case rel=>exact ⟨k+1,by omega,by simp,b9⟩
   case measure=>simp [jF];omega
  ·have a1:k=z.length:=by omega
   have q1:¬ ((k:Int)<(z.length:Int)):=by omega
   obtain ⟨a6,a7⟩:=zi2 E a1;clear E a1 D;go_wp2_with ((with_reducible refine aV 101 U.o ?_);rintro Y R ⟨rfl,c0⟩;subst R);refine ZS rfl rfl ?_;rw [<- a7.o];exact ⟨⟨_,rfl⟩,a6.o⟩
def qB (r:Rw):List Value:=[.int .i64 r.t,.string (zb r.k),.string (zb r.v)]
def jn (l:List Rw):List Value:=l.flatMap qB
theorem Kg (l:List Rw) (r:Rw):jn (l++[r])=jn l++qB r:=by simp [jn]
theorem GP (r:Rw):∀ u∈qB r,u.oneCell'=true:=by intro u h;simp only [qB,zO,qZ,or_false] at h;rcases h with rfl | rfl | rfl<;>rfl
theorem KK:ue prog 34 3 40:=ue.of (by kernel_rfl)
theorem zpw (a:Va) (b:Vb) (cur:Nat->Nat->List UInt8) (s:St) (w:World) (h:zm w a b cur s) (Z:s.N.length<=900) :
  zc 33 #[.pointer (some ⟨a.S,0,none⟩)] w fun e w'=>∃ v,e=.returned v/\w'.ownsRow w.heap.size 34 3 v s.N.length (jn (s.N.map (·.rw)))/\zd w w':=by
 have H:=hid h;clear h;refine Qg func33 rfl ?_;simp only [ntmps33,qH,qc,jr,Nat.reduceAdd,Nat.reduceSub,Array.replicate_succ,Array.replicate_zero,List.push_toArray,List.append_toArray,List.nil_append,List.cons_append];go_wp2_with fail;refine Yw (gf:=61) (bound:=#[.pointer (some ⟨a.S,7,none⟩)]) (caps:=#[]) (by rfl) (by kernel_rfl) s.N.length (YR s.N) (zcS s.N) (fun k W=>zd w W/\w.heap.size+3<=W.heap.size/\∃ v,W.heap[w.heap.size]?=some (.cells #[v] 22 (0,0))/\W.ownsRow (w.heap.size+3) 34 3 v k (jn ((s.N.map (·.rw)).take k))) ?h0 ?hput ?hbel (zpV a.S 7 b.v s.N _ (by omega) (fun k W hW=>(H.o.below hW.1).ef)) ?hround ?hend
 case h0=>exact fun d7=>⟨B_alloc (B_alloc (B_alloc (zf _ _) _) _) _,by simp,_,zw (zw (zo _ _ rfl) _) _,by rw [List.take_zero];exact ql _ _ _ _⟩
 case hput =>rintro k W o ⟨D,O,v,E,u⟩ Z;refine ⟨Below.put D (by simp<;>omega) o,by simpa using O,v,(World.putObj_heap_other (by simp<;>omega)).trans E,own_same u fun q L=>World.putObj_heap_other (by have:=(u.lt q L).1;simp<;>omega)⟩
 case hbel =>rintro k W W' ⟨D,O,v,E,u⟩ hb;exact ⟨B_call D hb,zz O hb.size,v,zg E hb (zi E),own_same u fun q L=>hb.block q (u.lt q L).2⟩
 case hround =>
  rintro k W hk ⟨D,O,v,E,u⟩ Z;obtain ⟨x,hx⟩:∃ p,s.N[k]?=some p:=⟨_,zX hk⟩;rw [Gp hx];simp only [List.zip_toArray,List.zip_cons_cons,List.zip_nil_right,List.foldl_toArray,jM,List.foldl_nil,List.setIfInBounds_toArray,List.set_cons_succ,List.set_cons_zero];refine vk (uv _) 0 rfl (fun _ _ h=>h) ?_;go_wp2_with (show wpList _ _ _ (⟨none,.store 136 _ _,_,_,_,_⟩::_) _ _;refine vH rfl 136 (.tmp 5) (.tmp 11) rfl W.heap.size rfl _ (zP x).toArray (by rfl) (by rfl) (by kernel_rfl) (by rfl) (by simp [zP,Value.oneCell']) ?_);have c4:=(zf W.heap.size W).alloc (za _) (.cells (zP x).toArray 136);refine ⟨Jb.below c4 (by simp at Z ⊢;omega),fun o=>?_⟩;refine wpIn_block ?_;obtain ⟨z,R⟩:∃ z,(W.alloc (.cells (zP x).toArray 136)).putObj (w.heap.size+1+1) o=z:=⟨_,rfl⟩;rw [R];simp only [World.size_alloc] at Z;have a5:zd w z:=by rw [<- R];exact Below.put (B_alloc D _) (by omega) o
  have d3:z.heap.size=W.heap.size+1:=by rw [<- R];simp
  have b9:z.heap[W.heap.size]?=some (.cells (zP x).toArray 136 (0,0)):=by rw [<- R];exact (World.putObj_heap_other (by omega)).trans (zo _ _ rfl)
  have a1:z.heap[w.heap.size]?=some (.cells #[v] 22 (0,0)):=by rw [<- R];exact (World.putObj_heap_other (by omega)).trans (zw E _)
  have a4:z.ownsRow (w.heap.size+3) 34 3 v k (jn ((s.N.map (·.rw)).take k)):=by rw [<- R];exact own_same u fun q L=>(World.putObj_heap_other (by have:=(u.lt q L).1;omega)).trans (qb _ _ q (u.lt q L).2)
  obtain ⟨A5,c5,rfl⟩:=own_slice a4;have f5:=xV (Value.slice A5 k c5) 0 a1;have a9:z.rangeAt W.heap.size 0 (qB x.rw):=by
   intro j d8 hj;have d1:j<3:=(zr.1 hj).1;rw [ze z W.heap.size _ _ _ _ b9,qy,<- hj];obtain rfl | rfl | rfl:j=0∨j=1∨j=2:=by omega
   all_goals rfl
  have a8:=zL.bk (zo z (.cells (qB x.rw).toArray 34) rfl) (size:=3) (n:=1) rfl;have a6:(z.alloc (.cells (qB x.rw).toArray 34)).ownsRow (w.heap.size+3) 34 3 (.slice A5 k c5) k (jn ((s.N.map (·.rw)).take k)):=own_same a4 fun q L=>qb _ _ q (a4.lt q L).2;obtain ⟨c3,c2,U,c1,c0⟩:=zi5 a9 a8 a6 a1 a5;clear a9 a8 a6 a1 a5 D E u R b9;refine vk (uv _) 0 rfl (fun _ _ h=>h) ?_;go_wp2_with (first|((with_reducible refine gV 14 ?_);refine mV (qB x.rw) c3.o ?_)|(show wpList _ _ _ (⟨some 15,_,_,_,_,_⟩::_) _ _;refine wpList_plain rfl fun _ hK=>yv 22 34 3 40 (.tmp 14) rfl (.agg (qB x.rw).toArray) (by rfl) underlying22 KK (by rfl) (by omega) (by omega) (hK _ _ ?_))|(show wpList _ _ _ (⟨some 16,_,_,_,_,_⟩::_) _ _;refine jX rfl (.tmp 12) (.tmp 15) 22 34 3 40 rfl underlying22 KK (by omega) _ _ _ (w.heap.size+3) (by rfl) U.o _ 1 _ _ _ (by rfl) c2.o (GP _) (by omega) (by omega) (by simp;omega) ?_;intro v8 X a3 Y d2;obtain ⟨A8,c8,rfl⟩:=own_slice a3;have a0:=qq (zw c1.o _) Y (fun e=>by have:=(U.o.lt _ e).1;omega);have d5:=zI X w.heap.size 0 _ _ a0;have d6:=ze X w.heap.size 0 _ _ _ a0));have c7:(X.setCell ⟨w.heap.size,0,none⟩ (.slice A8 (k+1) c8)).heap[w.heap.size]?=some (.cells #[.slice A8 (k+1) c8] 22 (0,0)):=by rw [zB _ _ 0 _ _ _ a0];rfl
  have a7:∀ q,q<z.heap.size->(Value.slice A5 k c5).ownBlock≠some q->q≠w.heap.size->(X.setCell ⟨w.heap.size,0,none⟩ (.slice A8 (k+1) c8)).heap[q]?=z.heap[q]?:=fun q D O h3 =>
   (zt _ _ _ _ h3).trans ((Y.block q (by simp;omega) (fun e=>O e.symm)).trans (qb _ _ q D))
  have d4:z.heap.size+1<=X.heap.size:=by have:=Y.size;simpa using this
  refine ⟨⟨?_,by simp;omega,_,c7,?_⟩,by simp;omega,a7 _ (by omega) (fun e=>by have:=(U.o.lt _ e).1;omega) (by omega),a7 _ (by omega) (fun e=>by have:=(U.o.lt _ e).1;omega) (by omega)⟩
  ·exact B_set ((B_alloc c0.o _).grown Y (by simp;omega) (fun q e=>by have:=(U.o.lt _ e).1;omega)) (p:=⟨w.heap.size,0,none⟩) (za _) _
  ·obtain ⟨c6,d0⟩:=zr.1 hx;rw [yH (by rw [List.length_map];exact c6),List.getElem_map,d0,Kg];exact own_set1 a3 (fun e=>by have:=(a3.lt _ e).1;omega) _ _
 case hend =>rintro W ⟨D,O,v,E,u⟩ hD;rw [jG (by simp)] at u;obtain ⟨A,c,rfl⟩:=own_slice u;have k0:=xV (Value.slice A s.N.length c) 0 E;simp only [World.size_alloc] at hD;obtain ⟨HD,H5⟩:=zi2 hD u;clear hD E u;refine (by assumption:∀ a w,Code.wp prog (Code.seq _ _) _ a w->_) _ _ ?_;go_wp2_with fail;refine ⟨by simp,.inl ⟨_,_,rfl,run_takeDeferred HD.o,?_⟩⟩;refine ⟨_,results_tmp rfl _ _ _,_,rfl,?_,Below.put D (by omega) _⟩;exact jK (own_same H5.o fun q L=>World.putObj_heap_other (by have:=(H5.o.lt q L).1;omega)) (by omega)
theorem zpg {w:World} {B D L r:Nat} {FL F:Nat->Prop} {cur:Nat->Nat->List UInt8} {s:zn} (h:qQ w B D L r FL F cur s) (n:Nat):(s.E n).ok:=by
 unfold zn.E;cases E:jT s.fs n with
 | none=>exact h.cx n
 | some k =>obtain ⟨f,b,p,u,z⟩:=Qy E;simp only [Option.bind_some,u,z];exact (h.co f (zC u) b n p z).2
theorem zcM {p:Pg} (h:p.ok) (slot:Nat):js (yy p slot):=by
 unfold yy;cases hs:p.ap[slot]? with
 | none=>trivial
 | some o=>exact h.a7 o (zC hs)
theorem zbz {r kind txn n slot:Nat} {s1:zn} {p:Pg} {o:Option Rw} (h:p.ok) (E:kind=3∨kind=4) (D:txn<=255) (u:n<6) (hs:slot<5) (z:js o):(yk r kind txn n slot s1 p o).ok:=by
 refine ⟨by simp only [yk];omega,by simp only [yk];omega,D,u,hs,zcM h slot,z,?_,.inl rfl,by simp [yk]⟩;simp only [yk];split
 ·exact .inr (vJ h)
 ·exact .inl rfl
theorem Kt (s:zn) (n slot:Nat) (o:Option Rw) (m:Nat):(s.setRow n slot o m).Q=s.Q/\(s.setRow n slot o m).J=s.J:=by
 unfold zn.setRow;split
 ·exact ⟨rfl,rfl⟩
 ·split
  ·exact ⟨rfl,rfl⟩
  ·split<;>exact ⟨rfl,rfl⟩
theorem zjd (s:zn) (r nb kind txn n slot:Nat) (o:Option Rw):(s.al r nb kind txn n slot o).Q=s.Q++qG (yk r kind txn n slot (s.get nb n) (s.E n) o)/\(s.al r nb kind txn n slot o).J=s.J:=by unfold zn.al;rw [(Kt _ _ _ _ _).1,(Kt _ _ _ _ _).2];exact ⟨by simp only [zn.au,(ZG s nb n).1],(ZG s nb n).2.1⟩
theorem YQ {u:List It} (h:qe u) (z E:Option Rw) (n slot:Nat):qe (ug (jQ u z) E n slot)/\(ug (jQ u z) E n slot).length<=u.length+1:=by
 have D:qe (jQ u z)/\(jQ u z).length<=u.length:=by
  cases z with
  | none=>exact ⟨h,za _⟩
  | some b =>
   refine ⟨qe.rem h,?_⟩;simp only [jQ,QY];split
   ·rw [List.length_eraseIdx];split<;>omega
   ·exact za _
 cases E with
 | none=>exact ⟨D.1,by have:=D.2;show (jQ u z).length<=_;omega⟩
 | some x =>
  refine ⟨qe.put D.1 (Cut.bq D.1),?_⟩;have:=D.2;simp only [ug,uC];split
  ·rw [List.length_set];omega
  ·rw [JI];omega
def St.az (s:St) (r nb txn:Nat):St:=match s.ts[txn]? with
 | some (some (T,x))=>match x.I.getLast? with
  | some c=>{ s.al r nb 4 txn c.pg c.sl c.aa with ts:=s.ts.set txn (some (T,⟨x.I.dropLast,x.ag,x.ops⟩)) }
  | none=>s
 | _=>s
def St.ai (r txn:Nat) (nbs:Nat->Nat):Nat->Nat->St->St
 | _,0,s=>s
 | j,m+1,s=>St.ai r txn nbs (j+1) m (s.az r (nbs j) txn)
theorem zja (a:Va) (b:Vb) (cur:Nat->Nat->List UInt8) (s:St) (txn T n d:Nat) (x:Tx) (w:World) (a6:zm w a b cur s) (e4:1<=txn) (e5:txn<=3) (c5:s.ts[txn]?=some (some (T,x))) (g7:qe s.N) (g4:s.N.length<=800) (hn:n<=x.I.length) (hfit:s.sto.Q.length+(x.I.length-n)*395+d<=14336) :
  zc 129 #[.pointer (some ⟨a.S,0,none⟩),.int .i64 txn,.int .i64 n] w fun e w'=>e=.returned (.int .i64 0)/\∃ nbs b' cur',(∃ x':Tx,(St.ai a.r txn nbs 0 (x.I.length-n) s).ts[txn]?=some (some (T,x')))/\qe (St.ai a.r txn nbs 0 (x.I.length-n) s).N/\(St.ai a.r txn nbs 0 (x.I.length-n) s).N.length<=810/\(St.ai a.r txn nbs 0 (x.I.length-n) s).sto.Q.length+d<=14336/\zm w' a b' cur' (St.ai a.r txn nbs 0 (x.I.length-n) s)/\qv w w' (qd a b s) (qd a b' (St.ai a.r txn nbs 0 (x.I.length-n) s)) cur cur' a.r:=by
 have R:=(a6.aq.tx txn T x c5).2;have c2:=QT a.S txn s.ts (some (T,x)) w a6.aq.row e4 e5 c5;simp only [qk] at c2;have f3:=hid c2;obtain ⟨N,hN⟩:=ex x.I.length;have h9:N<=8:=by have:=R.len;have:=R.n8;omega
 obtain ⟨a4,hR⟩:∃ a4:Nat->World->Prop,a4=fun j wr=>∃ (nbs:Nat->Nat) (h:St) (E:Vb) (a5:Nat->Nat->List UInt8) (u:Tx),(∀ a0:Nat->Nat,(∀ i,i<j->a0 i=nbs i)->St.ai a.r txn a0 0 (N-n) s=St.ai a.r txn a0 j (N-n-j) h)/\zm wr a E a5 h/\qv w wr (qd a b s) (qd a E h) cur a5 a.r/\h.ts[txn]?=some (some (T,u))/\u.I.length=N-j/\qe h.N/\h.N.length<=800+j/\h.sto.Q.length+(N-n-j)*395+d<=14336:=⟨_,rfl⟩;have d4:a4 0 w:=by rw [hR];exact ⟨fun _=>0,s,b,cur,x,fun _ _=>rfl,a6,qv.refl _ _ _ _,c5,hN.symm,g7,g4,by rw [hN];exact hfit⟩
 rw [<- hN] at hn ⊢;obtain ⟨HR,f5⟩:=zi2 hR d4;clear a6 c2 hR d4 hN R hfit;go_enter func129,ntmps129;go_upto_region 2 with ((with_reducible refine aV 88 f3.o ?_);rintro h4 w1 ⟨rfl,i5⟩;subst w1);go_loopg [] (N-n) (fun g wr=>∃ j:Nat,j+g=N-n/\a4 j wr)
 case atStart=>exact ⟨0,by omega,f5.o⟩
 case round =>
  obtain ⟨j,hj,e2⟩:=hrel;rw [HR.o] at e2;obtain ⟨nbs,h,E,a5,u,a9,L,hE,Y,c3,a7,i2,i0⟩:=e2;obtain ⟨a8,R⟩:=L.aq.tx txn T u Y;have b9:=hid (zdY T u (E.G txn) wr a8);obtain ⟨D,z⟩:=ex u.I.length;rw [<- z] at b9;have c4:D=N-j:=by rw [z];exact c3
  by_cases i3:n<D
  ·have q1:(n:Int)<(D:Int):=by omega
   obtain ⟨l,c,X⟩:∃ l c,u.I=l++[c]:=by
    have e0:u.I≠[]:=fun e=>by rw [e] at z;simp at z;omega
    exact ⟨u.I.dropLast,u.I.getLast e0,(List.dropLast_concat_getLast e0).symm⟩
   have d9:D=l.length+1:=by rw [z,X];simp
   have d5:u.I[l.length]?=some c:=by rw [X];simp
   have O:=R.al c (by rw [X];simp);have d7:=fun W (hb:zd wr W)=>zaz a E a5 h 4 txn c.pg c.sl T u c.aa W (L.below hb) (.inr rfl) e4 e5 Y (fun e=>by cases e) O.1 O.2.1 O.2.2 a7 (by omega) (by omega);have c7:=hid (zjk T u (E.G txn) wr a8 (by omega));obtain ⟨c0,HA,HE,a3,U,f1,a1,e9,h1⟩:=zi9 a9 L hE Y R d7 X d5 z;obtain ⟨c8,d0⟩:=zi2 c4 d9;have q2:(0:Int)<=(l.length:Int):=by omega
   have q3:(l.length:Int)<(D:Int):=by omega
   have x2:IntKind.i64.wrap ((D:Int)-1)=(l.length:Int):=by rw [zu];omega
   rw [<- z] at c7;clear a9 L hE Y a8 d7 X d5 z c3 d9 c4;go_upto_region 4 with (first|((with_reducible refine aV 94 b9.o ?_);rintro f7 w2 ⟨rfl,g9⟩;subst w2)|((with_reducible refine aV 69 c7.o ?_);rintro h5 w3 ⟨i6,rfl,hu,d6⟩;obtain ⟨A3,h2,rfl⟩:=own_slice hu));obtain ⟨g,rfl,hg,i1,e3⟩:=Gs hu e9.o;obtain ⟨f6,c6⟩:=zi2 e3 d6;have f8:=xV (Value.int .i64 c.pg) 0 (zo w3 (.cells (zS c).toArray 150) rfl);have f9:=xV (Value.int .i64 c.sl) 1 (zo w3 (.cells (zS c).toArray 150) rfl);have g0:=xV (Value.string (zb (zM c.aa))) 2 (zo w3 (.cells (zS c).toArray 150) rfl);have f0:Hid (zc 92 #[.pointer (some ⟨a.S,0,none⟩),.int .i64 4,.int .i64 txn,.int .i64 c.pg,.int .i64 c.sl,.string (zb (zM c.aa))] _ _):=hid (f1.o _ (B_alloc c6.o (.cells (zS c).toArray 150)));clear e3 d6 hu;go_upto_region 8 with (first|((with_reducible refine gV 27 ?_);refine mV (zS c) f6.o ?_)|((with_reducible refine hV 9 ?_);refine nV (zS c).toArray (by simp [zS,Value.oneCell']) ?_)|((with_reducible refine aV 92 f0.o ?_);rintro h6 w4 ⟨rfl,nb,b4,h3,i4,c1,d2⟩));have e6:(h.al a.r nb 4 txn c.pg c.sl c.aa).ts=h.ts:=rfl;obtain ⟨e7,_⟩:=c1.aq.tx txn T u (by rw [e6];exact a3.o);have f4:=hid (zqB T u l c (b4.G txn) w4 e7 U.o a1.o);have e8:=hid c1;have f2:=hid ((HE.o.call (B_alloc c6.o (.cells (zS c).toArray 150))).trans d2);clear c1 d2 e7 e6 f8 f9 g0;go_wp2_with ((with_reducible refine aV 151 f4.o ?_);rintro h7 w5 ⟨rfl,G',g8,g5,g6⟩);obtain ⟨g2,g3⟩:=e8.o.d6 (x':=⟨l,u.ag,u.ops⟩) a3.o g8 ⟨U.o.n8,by have:=U.o.len;rw [a1.o] at this;simp only [zl,List.length_singleton] at this;show l.length<=u.ops;omega,U.o.s4,fun d hd=>U.o.al d (by rw [a1.o];exact List.mem_append_left _ hd)⟩ g5 g6;have Z:h.az a.r nb txn={ h.al a.r nb 4 txn c.pg c.sl c.aa with ts:=h.ts.set txn (some (T,⟨l,u.ag,u.ops⟩)) }:=by unfold St.az;simp only [a3.o,a1.o,List.getLast?_append,List.getLast?_singleton,Option.some_or,List.dropLast_concat]
   have d3:=f2.o.trans g3;have d1:=g2;rw [show ({ (h.al a.r nb 4 txn c.pg c.sl c.aa) with ts:=(h.al a.r nb 4 txn c.pg c.sl c.aa).ts.set txn (some (T,⟨l,u.ag,u.ops⟩)) }:St)=h.az a.r nb txn from Z.symm] at d1 d3;go_roundg (N-n-(j+1))
   case measure=>have:=c8.o;omega
   case rel =>
    have c4:=c8.o;refine ⟨j+1,by have:=d0.o;omega,?_⟩;rw [HR.o];refine ⟨zZ nbs j nb,h.az a.r nb txn,_,_,⟨l,u.ag,u.ops⟩,fun a0 e1=>?_,d1,d3,?_,by have:=d0.o;show l.length=N-(j+1);omega,?_,?_,?_⟩
    ·rw [c0.o a0 (fun i hi=>by rw [e1 i (by omega),zy _ _ (by omega)]),show N-n-j=(N-n-(j+1))+1 by omega];simp only [St.ai];rw [e1 j (by omega),zk]
    ·rw [Z];exact qw (zr.1 a3.o).1
    ·rw [Z];exact (YQ a7 _ _ _ _).1
    ·rw [Z];have:=(YQ a7 (yy (h.sto.E c.pg) c.sl) c.aa c.pg c.sl).2;show (ug (jQ h.N (yy (h.sto.E c.pg) c.sl)) c.aa c.pg c.sl).length<=_;omega
    ·rw [Z];show (h.sto.al a.r nb 4 txn c.pg c.sl c.aa).Q.length+_+d<=_;rw [(zjd _ _ _ _ _ _ _ _).1,zl];have h8:=yU (zbz (r:=a.r) (kind:=4) (txn:=txn) (n:=c.pg) (slot:=c.sl) (s1:=h.sto.get nb c.pg) (o:=c.aa) (zpg HA.o.sto c.pg) (.inr rfl) (by omega) O.1 O.2.1 O.2.2);omega
  ·have q1:¬ ((n:Int)<(D:Int)):=by omega
   obtain ⟨c0,HA,HE⟩:=zi3 a9 L hE;clear a9 L hE a8 z c3;go_wp2_with ((with_reducible refine aV 94 b9.o ?_);rintro f7 w2 ⟨rfl,g9⟩;subst w2);go_ret;have d8:=c0.o nbs (fun _ _=>rfl);rw [show N-n-j=0 by omega] at d8;refine ⟨rfl,nbs,?_⟩;rw [d8];exact ⟨_,_,⟨u,Y⟩,a7,(show h.N.length<=810 by omega),(show h.sto.Q.length+d<=14336 by omega),HA.o,HE.o⟩
def Kd (txn:Nat):zQ:=⟨6,txn,0,0,none,none,[],[]⟩
theorem zab {txn:Nat} (h:txn<=255):(Kd txn).ok:=⟨by simp [Kd],by simp [Kd],h,by simp [Kd],by simp [Kd],trivial,trivial,.inl rfl,.inl rfl,by simp [Kd]⟩
def St.be (s:St) (r txn:Nat) (nbs:Nat->Nat) (x:Tx):St :=
 { sto:=if x.I=[] then s.sto else (St.ai r txn nbs 0 x.I.length s).sto.au (Kd txn),N:=(St.ai r txn nbs 0 x.I.length s).N,ts:=(St.ai r txn nbs 0 x.I.length s).ts.set txn none,lk:=dropM (St.ai r txn nbs 0 x.I.length s).lk txn }
theorem zfx (a:Va) (b:Vb) (cur:Nat->Nat->List UInt8) (s:St) (txn T:Nat) (x:Tx) (w:World) (h:zm w a b cur s) (a1:1<=txn) (a3:txn<=3) (c2:s.ts[txn]?=some (some (T,x))) (d5:qe s.N) (d4:s.N.length<=800) (z:Nat) (hfit:s.sto.Q.length+(if x.I=[] then 0 else (x.I.length+1)*395)+z<=14336) :
  zc 85 #[.pointer (some ⟨a.S,0,none⟩),.int .i64 txn] w fun e w'=>e=.returned (.int .i64 0)/\∃ nbs b' cur',(s.be a.r txn nbs x).sto.Q.length+z<=14336/\zm w' a b' cur' (s.be a.r txn nbs x)/\qv w w' (qd a b s) (qd a b' (s.be a.r txn nbs x)) cur cur' a.r:=by
 have c1:=QT a.S txn s.ts (some (T,x)) w h.aq.row a1 a3 c2;simp only [qk] at c1;obtain ⟨c6,d9⟩:=h.aq.tx txn T x c2;have c4:=hid c1;have a8:=hid (zdY T x (b.G txn) w c6);have H:=hid h;obtain ⟨d,hd⟩:=ex (if x.I=[] then z else 395+z);have e0:=h.sto.len;have b9:=zja a b cur s txn T 0 d x w h a1 a3 c2 d5 d4 (zT _) (by
  rw [hd];split
  ·rename_i he;rw [if_pos he] at hfit;rw [he];simp;omega
  ·rename_i he;rw [if_neg he] at hfit;omega)
 rw [Nat.sub_zero] at b9;have a5:Hid (zc 129 #[.pointer (some ⟨a.S,0,none⟩),.int .i64 txn,.int .i64 0] _ _):=hid b9;obtain ⟨n,hn⟩:=ex x.I.length;rw [<- hn] at a8 a5;obtain ⟨L,HD⟩:=zi2 hn hd;clear h c1 c6 d9 hn hd b9 hfit;cases n with
 | zero =>
  have E:x.I=[]:=yd L.o.symm;have U:=hid E;clear E;go_enter func85,ntmps85;go_upto_region 9 with (first|((with_reducible refine aV 88 c4.o ?_);rintro e1 w1 ⟨rfl,d6⟩;subst w1)|((with_reducible refine aV 94 a8.o ?_);rintro e2 w2 ⟨rfl,d7⟩;subst w2)|((with_reducible refine aV 129 a5.o ?_);rintro e3 w3 ⟨rfl,nbs,b3,X,⟨x3,d8⟩,_,_,a0,D,O⟩));obtain ⟨c7,a6⟩:=zi2 D O;clear D O;go_upto_region 10 with ((with_reducible refine aV 95 (zbF c7.o a1 a3) ?_);rintro e4 w4 ⟨rfl,b4,u,R⟩);have k0:=u.c0;have a4:=hid u;have a7:=hid (a6.o.trans R);clear u R;go_wp2_with ((with_reducible refine aV 96 (GY a4.o (by omega)) ?_);rintro e5 w5 ⟨rfl,b5,Y,Z⟩);go_ret;have c0:s.be a.r txn nbs x={ sto:=(St.ai a.r txn nbs 0 0 s).sto,N:=(St.ai a.r txn nbs 0 0 s).N,ts:=(St.ai a.r txn nbs 0 0 s).ts.set txn none,lk:=dropM (St.ai a.r txn nbs 0 0 s).lk txn }:=by unfold St.be;rw [if_pos U.o,<- L.o];rfl
  refine ⟨rfl,nbs,b5,X,?_⟩;rw [c0];exact ⟨by have h9:=a0;rw [HD.o,if_pos U.o] at h9;exact h9,Y,a7.o.trans Z⟩
 | succ m =>
  have E:x.I≠[]:=fun e=>by rw [e] at L;exact absurd L.o (by simp)
  have c5:d=395+z:=by rw [HD.o,if_neg E]
  obtain ⟨c3,U⟩:=zi2 c5 E;have q1:(0:Int)<((m:Int)+1):=by omega
  clear E c5;go_enter func85,ntmps85;go_upto_region 6 with (first|((with_reducible refine aV 88 c4.o ?_);rintro e1 w1 ⟨rfl,d6⟩;subst w1)|((with_reducible refine aV 94 a8.o ?_);rintro e2 w2 ⟨rfl,d7⟩;subst w2)|((with_reducible refine aV 129 a5.o ?_);rintro e3 w3 ⟨rfl,nbs,b3,X,⟨x3,d8⟩,_,_,a0,D,O⟩));have k5:=D.c5;have a9:=zbw a b3 X _ (Kd txn) (.slice none 0 0) w3 D (zab (by omega)) (uI.nil _) (by have:=yU (zab (txn:=txn) (by omega));rw [c3.o] at a0;omega);rw [show JZ (Kd txn) (.slice none 0 0)=.agg #[.int .i64 6,.int .i64 txn,.int .i64 0,.int .i64 0,.string { data:=#[] },.string { data:=#[] },.string { data:=#[] },.slice none 0 0] from rfl] at a9;obtain ⟨d0,a6⟩:=zi2 a9 O;clear D O a9;go_upto_region 9 with ((with_reducible refine aV 64 d0.o ?_);rintro e5 w5 ⟨rfl,b5,Y,Z⟩);have c8:=hid Y;have d1:=hid (a6.o.trans Z);clear Y Z;go_upto_region 10 with ((with_reducible refine aV 95 (zbF c8.o a1 a3) ?_);rintro e4 w4 ⟨rfl,b4,u,R⟩);have k0:=u.c0;have a4:=hid u;have a7:=hid (d1.o.trans R);clear u R;go_wp2_with ((with_reducible refine aV 96 (GY a4.o (by omega)) ?_);rintro e6 w6 ⟨rfl,b6,d2,d3⟩);go_ret;have c0:s.be a.r txn nbs x={ sto:=(St.ai a.r txn nbs 0 (m+1) s).sto.au (Kd txn),N:=(St.ai a.r txn nbs 0 (m+1) s).N,ts:=(St.ai a.r txn nbs 0 (m+1) s).ts.set txn none,lk:=dropM (St.ai a.r txn nbs 0 (m+1) s).lk txn }:=by unfold St.be;rw [if_neg U.o,<- L.o]
  refine ⟨rfl,nbs,b6,X,?_⟩;rw [c0];refine ⟨?_,d2,a7.o.trans d3⟩;have h9:=yU (zab (txn:=txn) (by omega));have h8:=a0;rw [c3.o] at h8;show ((St.ai a.r txn nbs 0 (m+1) s).sto.Q++qG (Kd txn)).length+z<=14336;rw [zl];omega
def zfb (s:St) (txn t:Nat) (k:List UInt8):St:={ s with lk:=takeS s.lk txn (t,zb k,false) 1 }
def zoy:Option It->List UInt8 × Nat
 | some x=>(x.rw.v,0)
 | none=>([],5)
def St.cp (s:St) (txn t:Nat) (k:List UInt8):List UInt8 × Nat :=
 if takeB s.lk txn (t,zb k,false) 1=false then ([],6)
 else zoy (yX s.N ⟨t,k,[]⟩)
theorem zmk (a:Va) (b:Vb) (cur:Nat->Nat->List UInt8) (s:St) (txn t:Nat) (k:List UInt8) (w:World) (h:zm w a b cur s) (ht:txn<=1000) (a4:t<=1000) (hk:k.length<=1000) (a3:qe s.N) (a1:s.N.length<=900) :
  zc 112 #[.pointer (some ⟨a.S,0,none⟩),.int .i64 txn,.int .i64 t,.string (zb k)] w fun e w'=>e=.returned (.tuple #[.string (zb (s.cp txn t k).1),.int .i64 (s.cp txn t k).2])/\∃ b',zm w' a b' cur (zfb s txn t k)/\qv w w' (qd a b s) (qd a b' (zfb s txn t k)) cur cur a.r:=by
 have L:=hid (zpm h ht a4 hk);have k0:=h.c0;clear h;cases hb:takeB s.lk txn (t,zb k,false) 1 with
 | false =>
  have D:s.cp txn t k=([],6):=by unfold St.cp;rw [if_pos hb]
  rw [hb] at L;have E:=hid D;clear D hb;go_enter func112,ntmps112;go_wp2_with ((with_reducible refine aV 87 L.o ?_);rintro e1 w1 ⟨rfl,b1,u,O⟩);go_ret2;rw [E.o];exact ⟨rfl,b1,u,O⟩
 | true =>
  rw [hb] at L;obtain ⟨fi,U⟩:=ex (yX s.N ⟨t,k,[]⟩);have D:s.cp txn t k=zoy fi:=by unfold St.cp;rw [if_neg (by rw [hb];simp),U]
  obtain ⟨E,a0⟩:=zi2 D U;clear D hb U;go_enter func112,ntmps112;go_upto_region 3 with ((with_reducible refine aV 87 L.o ?_);rintro e1 w1 ⟨rfl,b1,u,O⟩);have R:=zeO u a3 a1 t k;rw [<- a0.o] at R;obtain ⟨Z,X,Y⟩:=zi3 R u O;clear R u O;cases fi with
  | none =>go_wp2_with (first|((with_reducible refine aV 90 Z.o ?_);rintro e2 w2 ⟨rfl,z⟩)|((with_reducible refine hV 10 ?_);refine nV (Zy none) (KA none) ?_));go_ret2;rw [E.o];exact ⟨rfl,b1,(X.o.below (B_alloc z _)),Y.o.call (B_alloc z _)⟩
  | some x =>go_upto_region 6 with (first|((with_reducible refine aV 90 Z.o ?_);rintro e2 w2 ⟨rfl,z⟩)|((with_reducible refine hV 10 ?_);refine nV (Zy (some x)) (KA (some x)) ?_));have f2:=xV (Value.string (zb x.rw.v)) 2 (zo w2 (.cells (Zy (some x)) 136) rfl);go_wp2_with fail;go_ret2;rw [E.o];exact ⟨rfl,b1,(X.o.below (B_alloc z _)),Y.o.call (B_alloc z _)⟩
def yT (u h:Nat):List UInt8:=zR 1 u++zR 4 h
theorem zbP (u h:Nat):(yT u h).length=5:=by simp [yT,zG]
def zdZ (u h:Nat):Value:=.agg #[.int .i64 u,.int .u64 h]
theorem zoO:prog.eqGuardType prog.depth 68=false:=by kernel_rfl
theorem zre (z h:Nat):∃ b,∀ W,(binOp .neq 68 (.agg #[.int .i64 z,.int .u64 h]) (.agg #[.int .i64 0,.int .u64 0])).run prog W=.ok (.bool b) W:=by
 by_cases u:(z:Int)=0
 ·by_cases D:(h:Int)=0
  ·exact ⟨false,fun W=>by rw [u,D];kernel_rfl⟩
  ·refine ⟨true,fun W=>?_⟩;rw [u];go_simp;omega
 ·refine ⟨true,fun W=>?_⟩;go_simp;omega
theorem zmm (D:Nat) (F:Nat->Prop) (cur:Nat->Nat->List UInt8) (r h u:Nat) (w:World) (hD:jk w D F cur) (hr:r<4) (hl:cur r 0=jN (yT h u)) (d3:h<=2) (hc:u<4294967296) :
  zc 76 #[.pointer (some ⟨D,0,none⟩),.int .i64 r] w fun e w'=>e=.returned (.tuple #[zdZ h u,.int .i64 0])/\zd w w':=by
 have a0:=hD.below (B_alloc (zf _ w) (.cells #[.int .i64 0,.int .u64 0] 68));have L:=Ys D F cur (fun _=>0) r 0 _ a0 (by omega) (by omega) (by omega) (by omega);simp only [qp,Int.toNat_zero] at L;rw [hl] at L;have b9:(jN (yT h u)).length=64:=zfU (by rw [zbP];omega);have c2:jN (yT h u)=zR 1 h++(zR 4 u++zs 59):=by unfold jN;rw [zbP];simp [yT]
 obtain ⟨c8,c7,d0⟩:=zi3 L b9 c2;have HX:=hid (zo w (.cells #[.int .i64 0,.int .u64 0] 68) rfl);clear L b9 c2 a0 hl;go_enter func76,ntmps76;go_upto_region 4 with ((with_reducible refine aV 117 c8.o ?_);rintro e1 w1 ⟨v1,rfl,a9,a1⟩);have U:=zj.aj c7.o.symm a9;rw [d0.o] at U;have HN:=hid (Jh v1 _ w1 U);have z:=hid a1;clear U a9 a1;go_upto_region 5 with ((with_reducible refine aV 51 HN.o ?_);rintro e2 w2 ⟨rfl,c0,a3⟩);have E:=hid a3;have c5:=hid (JJ w1.heap.size h (zR 4 u++zs 59) w2 c0 (by omega) (by rw [zl,zG];simp [zs]));clear c0 a3;have x1:IntKind.i64.wrap (h:Int)=h:=by rw [zu];omega
 have d2:(zdZ h u)=.agg #[.int .i64 h,.int .u64 u]:=rfl;go_upto_region 6 with (first|((with_reducible refine aV 52 c5.o ?_);rintro e3 w3 ⟨rfl,c1,a7⟩;have O:=hid a7;have c6:=hid (zcx w1.heap.size u (zs 59) w3 c1 hc (by simp [zs]));clear c1 a7)|((with_reducible refine aV 52 c6.o ?_);rintro e4 w4 ⟨rfl,d1,a8⟩;have Z:=hid a8;clear d1 a8)|((with_reducible refine hV 9 ?_);refine nV #[.int .i64 h,.int .u64 u] (by simp [Value.oneCell']) ?_));have a5:zd w (w4.alloc (.cells #[.int .i64 h,.int .u64 u] 68)):=by have X:=z.o.size;simp at X;exact B_alloc (((B_call (B_call (B_alloc (zf _ w) _) z.o) E.o).grown O.o (by have:=E.o.size;omega) (fun q e=>by cases e;omega)).grown Z.o (by have:=E.o.size;have:=O.o.size;omega) (fun q e=>by cases e;omega)) _
 have R:=zo w4 (.cells #[.int .i64 h,.int .u64 u] 68) rfl;have a6:(w4.alloc (.cells #[.int .i64 h,.int .u64 u] 68)).heap[w.heap.size]?=some (.cells #[.int .i64 0,.int .u64 0] 68 (0,0)):=by have X:=z.o.size;simp at X;have h1:=zg HX.o z.o (by simp);have h2:=zg h1 E.o (zi h1);have h3:=qq h2 O.o (fun e=>by injection e with e;omega);exact zw (qq h3 Z.o (fun e=>by injection e with e;omega)) _
 have y0:=xV (Value.int .i64 h) 0 R;have q1:¬ ((2:Int)<(h:Int)):=by omega
 obtain ⟨bq,a4⟩:=zre h u;obtain ⟨c3,c4,HY,Y⟩:=zi4 a4 a5 R a6;clear a5 R a6 a4;go_upto_if 35 with (first|(show wpList _ _ _ (⟨some 30,_,_,_,_,_⟩::_) _ _;refine jE rfl _ _ (KC .neq 68 68 (.tmp 28) (.tmp 29) rfl (.agg #[.int .i64 h,.int .u64 u]) (.agg #[.int .i64 0,.int .u64 0]) _ (by rfl) (by rfl) (zfk _ .neq 68 _ _ _ _ zoO) (c3.o _)) ?_)|((with_reducible refine gV 28 ?_);refine rV HY.o ?_))
 all_goals (go_wp2_with (first
  | ((with_reducible refine gV 37 ?_);refine rV HY.o ?_)
  | (show wpList _ _ _ (⟨none,.store 68 (.tmp 4) _,_,_,_,_⟩::_) _ _;refine wpList_store_row rfl 68 (.tmp 4) (.tmp 37) rfl w.heap.size #[.int .i64 h,.int .u64 u] (by rfl) (by rfl) 68 _ Y.o (by kernel_rfl) (by rfl) (by simp [Value.oneCell']) ?_)))
 all_goals exact yG 4 5 68 rfl rfl w.heap.size 68 #[.int .i64 h,.int .u64 u] (0,0) _ (.int .i64 0) rfl rfl (setRow_heap _ _ _ _ _ _ Y.o) underlying68 rfl (by kernel_rfl) ⟨rfl,below_setRow c4.o (za _) _⟩
theorem zgg (D:Nat) (F:Nat->Prop) (cur:Nat->Nat->List UInt8) (r:Nat) (w:World) (L:jk w D F cur) (U:r<4) :
  zc 77 #[.pointer (some ⟨D,0,none⟩),.int .i64 r] w fun e w'=>e=.returned (.int .i64 0)/\∃ F',jk w' D F' (yR cur r 1 538)/\zA F w w'/\qN w F F':=by
 have u:zc 110 #[.pointer (some ⟨D,0,none⟩),.int .i64 r,.int .i64 1,.int .i64 538] w _:=zdC D F cur (fun _=>0) r 1 538 w L U (by omega) (zT _);have E:=hid u;clear u;go_enter func77,ntmps77;go_wp2_with ((with_reducible refine aV 110 E.o ?_);rintro X w1 ⟨rfl,z,h,O,R⟩);go_ret;refine ⟨rfl,z,?_,O,R⟩;have:zZ (fun _=>0) r 0=(fun _:Nat=>0):=by funext i;unfold zZ;split<;>rfl
 rw [this] at h;exact h
theorem zaP (D:Nat) (F:Nat->Prop) (cur:Nat->Nat->List UInt8) (r z E:Nat) (w:World) (hD:jk w D F cur) (hr:r<4) (a7:z<=2) (hc:E<4294967296) :
  zc 50 #[.pointer (some ⟨D,0,none⟩),.int .i64 r,.agg #[.int .i64 z,.int .u64 E]] w fun e w'=>e=.returned (.int .i64 0)/\∃ F',jk w' D F' (ve cur r 0 (jN (yT z E)))/\zA F w w'/\qN w F F':=by
 have HX:=hid (zo w (.cells #[.int .i64 z,.int .u64 E] 68) rfl);have HD:=hid hD;go_enter func50,ntmps50;go_upto_region 1 with fail;have x1:IntKind.u64.wrap (z:Int)=z:=vG _ (by omega);refine sV [9] 11 (fun w'=>jJ w' w.heap.size #[.int .i64 z,.int .u64 E] 68/\zd w w') ⟨HX.o,(B_alloc (zf _ _) _).drew⟩ fun u=>?_;refine pV 0 ?_;refine pV 1 ?_;refine pV 2 ?_;refine cV 3 (fun _ h=>xV (Value.int .i64 z) 0 h.1) ?_;refine kV 4 rfl (Or.inl ⟨by rfl,fun _ _=>(by go_simp;with_reducible rfl)⟩) ?_;refine pV 6 ?_;refine cV 7 (fun _ h=>xV (Value.int .u64 E) 1 h.1) ?_;refine oC 5 (ur (.slice none 0 0) [] 1 z _ (zj.nil _) (by omega) (by omega) (by simp)) ?_;rintro e2 w2 ⟨v2,rfl,a1,U⟩;refine eV ⟨zg u.1 U (zi u.1),B_call u.2 U⟩ fun u=>?_;refine oC 8 (ur v2 (zR 1 z) 4 E w2 (zj.aj (by rw [zG];rfl) a1) (by omega) (by omega) (by rw [zG];omega)) ?_;rintro e3 w3 ⟨v3,rfl,a3,L⟩;have a5:=hid ((HD.o.below u.2).below L);refine eV ⟨zg u.1 L (zi u.1),B_call u.2 L⟩ fun u=>?_;refine lC 9 (Ka D F cur (fun _=>0) r 0 v3 (yT z E) w3 a5.o (by omega) (by omega) (by omega) (by omega) (zj.aj (by simp [yT,zG]) a3) (by rw [zbP];omega) (zT _)) ?_;rintro e4 w4 ⟨rfl,O,R,Z,a0⟩;refine eL ?_;refine pV 10 ?_;refine dV ?_;simp only [qp,Int.toNat_zero] at R;have hb:=Qf D O (ve cur r 0 (jN (yT z E))) (KH (fun _=>0) r) r w4 R (by omega) (by omega) (by simp only [qp];unfold KH;rw [zk];show 0+1<=100000;omega);have a4:=hid hb;have HK:=hid ((zA.ak (M:=F) u.2).trans Z (fun _ h=>.inl h));have X:=hid (qN.mono (show qN w3 F O from a0) u.2.size);clear hb R Z a0 u a1 a3 U L;go_wp2_with ((with_reducible refine aV 98 a4.o ?_);rintro e5 w5 ⟨rfl,Y,a6⟩);go_ret;refine ⟨rfl,O,?_,HK.o.next a6 X.o,X.o⟩;have:zZ (KH (fun _=>0) r) r 0=(fun _:Nat=>0):=by funext i;unfold KH zZ;split<;>rfl
 rw [qp,this] at Y;exact Y
def uW (cur:Nat->Nat->List UInt8) (r h u:Nat):Nat->Nat->List UInt8 :=
 if h=1 then cur else if h=2 then ve (yR cur r 1 538) r 0 (jN (yT 0 u)) else yR cur r 1 538
def zkH (h:Nat):Nat:=if h=2 then 0 else h
theorem zcY (D:Nat) (F:Nat->Prop) (cur:Nat->Nat->List UInt8) (r L z:Nat) (w:World) (hD:jk w D F cur) (hr:r<4) (hl:cur r 0=jN (yT L z)) (e4:L<=2) (hc:z<4294967296) :
  zc 42 #[.pointer (some ⟨D,0,none⟩),.int .i64 r] w fun e w'=>e=.returned (.tuple #[zdZ (zkH L) z,.int .i64 0])/\∃ F',jk w' D F' (uW cur r L z)/\zA F w w'/\qN w F F':=by
 have HX:=hid (zo w (.cells #[.int .i64 0,.int .u64 0] 68) rfl);have c2:=B_alloc (zf _ w) (.cells #[.int .i64 0,.int .u64 0] 68);have c4:=zmm D F cur r L z _ (hD.below c2) hr hl e4 hc;unfold zdZ at c4 ⊢;obtain ⟨d8,d5,HD⟩:=zi3 c4 c2 hD;clear c4 c2 hD hl;go_enter func42,ntmps42;go_upto_region 2 with (first|((with_reducible refine aV 76 d8.o ?_);rintro e6 w1 ⟨rfl,a9⟩)|((with_reducible refine hV 6 ?_);refine nV #[.int .i64 L,.int .u64 z] (by simp [Value.oneCell']) ?_));obtain ⟨w2,a6⟩:∃ w2,w1.alloc (.cells #[.int .i64 L,.int .u64 z] 68)=w2:=⟨_,rfl⟩;have hY:w2.heap[w1.heap.size]?=some (.cells #[.int .i64 L,.int .u64 z] 68 (0,0)):=by rw [<- a6];exact zo _ _ rfl
 have d1:w2.heap[w.heap.size]?=some (.cells #[.int .i64 0,.int .u64 0] 68 (0,0)):=by rw [<- a6];exact zw (zg HX.o a9 (by simp)) _
 have c3:zd w w2:=by rw [<- a6];exact B_alloc (B_call d5.o a9) _
 have e5:w.heap.size<w1.heap.size:=by have:=a9.size;simp at this;omega
 have e2:w.heap.size≠w1.heap.size:=by omega
 have d0:=HD.o.below c3;have y0:=xV (Value.int .i64 L) 0 hY;obtain ⟨Z,a0,X,R⟩:=zi4 hY d1 c3 d0;rw [a6];clear a6 hY d1 c3 a9 d0;obtain rfl | rfl | rfl:L=1∨L=0∨L=2:=by omega
 ·have U:uW cur r 1 z=cur:=rfl;have HC:=hid U;clear U;go_wp2_with (first|((with_reducible refine gV 22 ?_);refine rV Z.o ?_)|(show wpList _ _ _ (⟨none,.store 68 (.tmp 4) _,_,_,_,_⟩::_) _ _;refine wpList_store_row rfl 68 (.tmp 4) (.tmp 22) rfl w.heap.size #[.int .i64 (1:Nat),.int .u64 z] (by rfl) (by rfl) 68 _ a0.o (by kernel_rfl) (by rfl) (by simp [Value.oneCell']) ?_));refine yG 4 5 68 rfl rfl w.heap.size 68 #[.int .i64 (1:Nat),.int .u64 z] (0,0) _ (.int .i64 0) rfl rfl (setRow_heap _ _ _ _ _ _ a0.o) underlying68 rfl (by kernel_rfl) ?_;rw [HC.o];exact ⟨rfl,F,R.o.same (fun k hk=>setRow_other _ _ _ _ (fun e=>by have:=HD.o.lt k hk;omega)) (by simp),(zA.ak (M:=F) X.o).setRow (.inr (za _)) _,qN.refl _ _⟩
 ·have U:uW cur r 0 z=yR cur r 1 538:=rfl;have HC:=hid U;clear U;go_upto_if 33 with ((with_reducible refine aV 77 (zgg D F cur r w2 R.o hr) ?_);rintro e3 w3 ⟨rfl,F3,a1,O,a5⟩;have y3:=Qh y0 O (fun E=>by have u:=zK.ah R.o E;rw [zh Z.o] at u;simp at u));have c0:=hid (qK Z.o O (fun E=>by have u:=zK.ah R.o E;rw [zh Z.o] at u;simp at u));have Y:=hid (qK a0.o O (fun E=>by have u:=zK.ah R.o E;rw [zh a0.o] at u;simp at u));obtain ⟨c5,a7,a8⟩:=zi3 a1 O a5;clear a1 O a5 y3 y0;go_wp2_with (first|((with_reducible refine gV 39 ?_);refine rV c0.o ?_)|(show wpList _ _ _ (⟨none,.store 68 (.tmp 4) _,_,_,_,_⟩::_) _ _;refine wpList_store_row rfl 68 (.tmp 4) (.tmp 39) rfl w.heap.size #[.int .i64 (0:Nat),.int .u64 z] (by rfl) (by rfl) 68 _ Y.o (by kernel_rfl) (by rfl) (by simp [Value.oneCell']) ?_));refine yG 4 5 68 rfl rfl w.heap.size 68 #[.int .i64 (0:Nat),.int .u64 z] (0,0) _ (.int .i64 0) rfl rfl (setRow_heap _ _ _ _ _ _ Y.o) underlying68 rfl (by kernel_rfl) ?_;rw [HC.o];refine ⟨rfl,F3,c5.o.same (fun k hk=>setRow_other _ _ _ _ (fun e=>?_)) (by simp),((zA.ak (M:=F) X.o).trans a7.o (fun _ h=>.inl h)).setRow (.inr (za _)) _,a8.o.mono X.o.size⟩;have u:=zK.ah c5.o hk;rw [e,zh Y.o] at u;simp at u
 ·have U:uW cur r 2 z=ve (yR cur r 1 538) r 0 (jN (yT 0 z)):=rfl;have HC:=hid U;clear U;go_upto_if 33 with ((with_reducible refine aV 77 (zgg D F cur r w2 R.o hr) ?_);rintro e3 w3 ⟨rfl,F3,a1,O,a5⟩;have y3:=Qh y0 O (fun E=>by have u:=zK.ah R.o E;rw [zh Z.o] at u;simp at u));have a4:=hid (qK Z.o O (fun E=>by have u:=zK.ah R.o E;rw [zh Z.o] at u;simp at u));have e0:=hid (qK a0.o O (fun E=>by have u:=zK.ah R.o E;rw [zh a0.o] at u;simp at u));have d2:(w3.setCell ⟨w1.heap.size,0,none⟩ (.int .i64 0)).heap[w1.heap.size]?=some (.cells #[.int .i64 0,.int .u64 z] 68 (0,0)):=by rw [zB _ _ 0 _ _ _ a4.o];rfl
  have a3:jk (w3.setCell ⟨w1.heap.size,0,none⟩ (.int .i64 0)) D F3 (yR cur r 1 538):=a1.same (fun k hk=>zt _ _ _ _ (fun e=>by
   have u:=zK.ah a1 hk;rw [show k=w1.heap.size from e,zh a4.o] at u;simp at u)) (by simp)
  have c1:=hid d2;have c8:=hid ((zt (w:=w3) ⟨w1.heap.size,0,none⟩ _ (.int .i64 0) e2).trans e0.o);have d4:zc 50 #[.pointer (some ⟨D,0,none⟩),.int .i64 r,.agg #[.int .i64 0,.int .u64 z]] (w3.setCell ⟨w1.heap.size,0,none⟩ (.int .i64 0)) _:=zaP D F3 (yR cur r 1 538) r 0 z _ a3 hr (by omega) hc;have d9:=hid d4;clear d4;obtain ⟨c6,a7,a8⟩:=zi3 a3 O a5;have y4:=xV (Value.int .i64 (2:Nat)) 0 a4.o;have yf:=zI w3 w1.heap.size 0 _ _ a4.o;clear a1 O a5 d2 a3 y3;go_wp2_with (first|(show wpList _ _ _ (⟨none,.store 3 _ _,_,_,_,_⟩::_) _ _;refine Zl rfl 3 (.tmp 34) (.const (.int .i64 0)) rfl w1.heap.size 0 _ 68 (.int .i64 0) (by rfl) (by rfl) (by kernel_rfl) a4.o (by simp) rfl ?_)|((with_reducible refine gV 37 ?_);refine rV c1.o ?_)|((with_reducible refine aV 50 d9.o ?_);rintro e7 w4 ⟨rfl,F4,a3,b9,d3⟩;have c0:=hid (qK c1.o b9 (fun E=>by have u:=zK.ah c6.o E;rw [zh c1.o] at u;simp at u));have Y:=hid (qK c8.o b9 (fun E=>by have u:=zK.ah c6.o E;rw [zh c8.o] at u;simp at u));obtain ⟨c7,d6,d7⟩:=zi3 a3 b9 d3;clear a3 b9 d3 y4)|((with_reducible refine gV 39 ?_);refine rV c0.o ?_)|(show wpList _ _ _ (⟨none,.store 68 (.tmp 4) _,_,_,_,_⟩::_) _ _;refine wpList_store_row rfl 68 (.tmp 4) (.tmp 39) rfl w.heap.size #[.int .i64 0,.int .u64 z] (by rfl) (by rfl) 68 _ Y.o (by kernel_rfl) (by rfl) (by simp [Value.oneCell']) ?_));refine yG 4 5 68 rfl rfl w.heap.size 68 #[.int .i64 0,.int .u64 z] (0,0) _ (.int .i64 0) rfl rfl (setRow_heap _ _ _ _ _ _ Y.o) underlying68 rfl (by kernel_rfl) ?_;rw [HC.o];have e1:zA F w w4:=(((zA.ak (M:=F) X.o).trans a7.o (fun _ h=>.inl h)).set (p:=⟨w1.heap.size,0,none⟩) (.inr (Nat.le_of_lt e5)) (.int .i64 0)).next d6.o (a8.o.mono X.o.size);refine ⟨rfl,F4,c7.o.same (fun k hk=>setRow_other _ _ _ _ (fun e=>?_)) (by simp),e1.setRow (.inr (za _)) _,fun x hx=>?_⟩
  ·have u:=zK.ah c7.o hk;rw [e,zh Y.o] at u;simp at u
  ·rcases d7.o x hx with h | h
   ·exact (a8.o.mono X.o.size) x h
   ·have h1:=a7.o.size;have h2:=X.o.size;simp at h;exact .inr (by omega)
def jc:List (Option Rw)->Nat->List (Nat × Rw)
 | [],_=>[]
 | none::l,i=>jc l (i+1)
 | some x::l,i=>(i,x)::jc l (i+1)
def uc (p:Pg):List (Nat × Rw):=jc p.ap 0
theorem QK:∀ (a b:List (Option Rw)) (i:Nat),jc (a++b) i=jc a i++jc b (i+a.length)
 | [],b,i=>by simp [jc]
 | none::a,b,i=>by simp only [List.cons_append,jc,QK a b,qc];rw [show i+1+a.length=i+(a.length+1) by omega]
 | some x::a,b,i=>by simp only [List.cons_append,jc,QK a b,qc];rw [show i+1+a.length=i+(a.length+1) by omega]
theorem zgC {ts:List (Option Rw)} {i:Nat} (h:ts[i]?=some none):jc (ts.take (i+1)) 0=jc (ts.take i) 0:=by obtain ⟨u,z⟩:=zr.1 h;rw [yH u,z,QK];simp [jc]
theorem zbm {ts:List (Option Rw)} {i:Nat} {x:Rw} (h:ts[i]?=some (some x)):jc (ts.take (i+1)) 0=jc (ts.take i) 0++[(i,x)]:=by obtain ⟨u,z⟩:=zr.1 h;rw [yH u,z,QK];simp [jc,Nat.min_eq_left (Nat.le_of_lt u)]
theorem ziR {ts:List (Option Rw)} {i:Nat} {x:Rw} (h:ts[i]?=some (some x)):(jc ts 0)[(jc (ts.take i) 0).length]?=some (i,x):=by
 have u:jc ts 0=jc (ts.take (i+1)) 0++jc (ts.drop (i+1)) (0+(ts.take (i+1)).length):=by
  conv=>lhs;rw [<- List.take_append_drop (i+1) ts]
  exact QK _ _ 0
 rw [u,zbm h,jq,vg (za _)];simp
def zai (p:Pg) (k:Nat):Array Value:=match (uc p)[k]? with
 | some (i,r)=>#[.int .i64 i,.agg #[.int .i64 r.t,.string (zb r.k),.string (zb r.v)]]
 | none=>#[.int .i64 0,.agg #[]]
theorem ziH (p:Pg) (k:Nat):(zai p k).size=2:=by unfold zai;split<;>rfl
theorem zfV {p:Pg} {k i:Nat} {r:Rw} (h:(uc p)[k]?=some (i,r)):zai p k=#[.int .i64 i,.agg #[.int .i64 r.t,.string (zb r.k),.string (zb r.v)]]:=by simp [zai,h]
theorem zpu (b t n:Nat) (p:Pg) (I:Nat->World->Prop) (hp:p.ok) (hI:∀ k W,I k W->qS W b t n p):zgI prog 127 #[.pointer (some ⟨b,0,none⟩)] #[] (uc p).length (zai p) I:=by
 intro l J w a5 a4 a6 h0;show zc 127 #[.pointer (some ⟨b,0,none⟩),.func (.yield l) #[] #[]] w _;have a9:=hid a6;have HI:=hid (fun k W h=>hI k W (a5 k W h));obtain ⟨a1,H0,E⟩:=zi3 a4 h0 hp;clear a5 a4 a6 h0 hI hp;go_enter func127,ntmps127;go_upto_region 2 with fail;go_loopw [4,5,6,9] (fun _ _ _ a0 wr=>∃ k:Nat,k<=5/\a0=.int .i64 k/\J (jc (p.ap.take k) 0).length wr) (fun _ _ _ a0 _=>(5-jF a0).toNat)
 case atStart=>exact ⟨0,zT _,rfl,by simpa [jc] using H0.o⟩
 case round =>
  obtain ⟨k,hk,rfl,z⟩:=hrel;by_cases c1:k<5
  ·have q1:(k:Int)<5:=by omega
   have hpg:=HI.o _ wr z;obtain ⟨o,O⟩:∃ o,p.ap[k]?=some o:=⟨_,zX (by have:=E.o.b5;omega)⟩;have L:=E.o.a7 o (zC O);have a3:=hid (zj.cd (n:=40) (qS.slot hpg E.o O) (zi hpg) (yS L).symm (by rw [yS L];omega));obtain ⟨D,U,a7⟩:=zi3 z O L;clear z hpg O L;cases o with
   | none =>
    go_wp2_with (go_at_call 137;(with_reducible refine (Gw _ wr a3.o).mono ?_);rintro e1 wb ⟨rfl,u⟩;have R:=hid u;clear u);go_roundw
    case rel=>exact ⟨k+1,by omega,by simp,by rw [zgC U.o];exact a1.o _ wr _ D.o (B_alloc R.o _)⟩
    case measure=>simp [jF];omega
   | some r =>
    have Y:=Jp _ r a7.o wr a3.o;unfold zfg at Y;have a8:=hid Y;clear Y;go_upto_region 5 with ((with_reducible refine aV 137 a8.o ?_);rintro e1 wb ⟨rfl,u⟩;have R:=hid u;clear u);have X:=ziR U.o;have Z:=a9.o _ _ (zr.1 X).1 (a1.o _ wr _ D.o (B_alloc R.o (.cells #[.int .i64 r.t,.string (zb r.k),.string (zb r.v)] 34)));rw [zfV X] at Z;have HY:=hid Z;clear X Z;refine Ya (pre:=[_,_,_,_,_,_]) (post:=[_,_]) rfl rfl rfl (fun _ _ h=>h) ?_;go_wp2_with fail;refine ⟨by rfl,l,.tmp 25,_,_,_,rfl,by rfl,by rfl,Kw HY.o ?_⟩;rintro e1 w5 ⟨rfl,b9⟩;refine ⟨_,rfl,?_⟩;go_wp2_with fail;refine (by assumption:∀ a w,Code.wp prog (Code.cond (.tmp 30) Code.ret Code.skip) _ a w->_) _ _ ?_;go_wp2_with fail;go_roundw
    case rel=>exact ⟨k+1,by omega,by simp,by rw [zbm U.o,zl];exact b9⟩
    case measure=>simp [jF];omega
  ·have c0:k=5:=by omega
   subst c0;have D:=hid z;clear z;go_wp2_with fail;refine ZS rfl rfl ?_;refine ⟨⟨_,rfl⟩,?_⟩;have h9:=D.o;rw [jG (by rw [E.o.b5];omega)] at h9;exact h9
def vQ (l:List (Nat × Obj)) (w:World) (M:Nat->Prop):Prop:=∀ p∈l,w.heap[p.1]?=some p.2/\¬ M p.1
theorem vQ.h6 {l:List (Nat × Obj)} {w w':World} {M z:Nat->Prop} {cur cur':Nat->Nat->List UInt8} {r:Nat} (h:vQ l w M) (D:qv w w' M z cur cur' r):vQ l w' z:=fun p u =>
 ⟨D.U (h p u).2 (h p u).1,D.ed (h p u).2 (zi (h p u).1)⟩
theorem vQ.below {l:List (Nat × Obj)} {w w':World} {M:Nat->Prop} (h:vQ l w M) (hb:zd w w'):vQ l w' M:=fun p u =>
 ⟨zg (h p u).1 hb (zi (h p u).1),(h p u).2⟩
theorem vQ.cons {l:List (Nat × Obj)} {w:World} {M:Nat->Prop} {k:Nat} {o:Obj} (z:w.heap[k]?=some o) (D:¬ M k) (h:vQ l w M):vQ ((k,o)::l) w M:=fun p u=>by
 rcases zO.1 u with rfl | u
 ·exact ⟨z,D⟩
 ·exact h p u
theorem vQ.nil {w:World} {M:Nat->Prop}:vQ [] w M:=fun _ h=>by simp at h
theorem vQ.put {l:List (Nat × Obj)} {w:World} {M:Nat->Prop} (h:vQ l w M) {x:Nat} (z:∀ p∈l,p.1≠x) (o:Obj):vQ l (w.putObj x o) M:=fun p u =>
 ⟨(World.putObj_heap_other (z p u)).trans (h p u).1,(h p u).2⟩
def zbR (r:Nat):Deferred:={ target:=.collected r,args:=#[] }
def KB (r:Nat):Nat × Obj:=(r,.deferred (some []))
theorem zbO {P:Program} {F:Fence} {n:Nat} {D:Func} {tmps:Array Value} {R:Ending->World->Prop} {u:FrameMode} (E:u≠.run) (K:World->Prop) (hend:∀ W,K W->LeavesInM F n P D tmps R [] u W) :
  ∀ (rs:List Nat) (W:World),(∀ W,∀ r∈rs,W.heap[r]?=some (.deferred (some []))->K W->K (W.putObj r (.deferred none)))->rs.Nodup->(∀ r∈rs,W.heap[r]?=some (.deferred (some [])))->K W->LeavesInM F n P D tmps R (rs.map zbR) u W
 | [],W,_,_,_,h=>hend W h
 | r::rs,W,hK,hn,hr,h=>by obtain ⟨L,O⟩:=List.nodup_cons.1 hn;refine ⟨E,.inl ⟨r,_,rfl,run_takeDeferred (hr r (by simp)),?_⟩⟩;exact zbO E K hend rs _ (fun W q z=>hK W q (by simp [z])) O (fun q z=>(World.putObj_heap_other (fun e=>L (by rw [<- e];exact z))).trans (hr q (by simp [z]))) (hK W r (by simp) (hr r (by simp)) h)
def yl (n:Nat) (l:List (Nat × Rw)) (h:List It):List It:=l.foldl (fun h p=>ug h (some p.2) n p.1) h
def zad (s:St) (nb n:Nat):St:={ s with sto:=s.sto.get nb n,N:=yl n (uc (s.sto.E n)) s.N }
def qa (nbs:Nat->Nat):Nat->St->St
 | 0,s=>s
 | k+1,s=>zad (qa nbs k s) (nbs k) k
theorem zbi {nbs u:Nat->Nat}:∀ {k:Nat} {s:St},(∀ j,j<k->u j=nbs j)->qa u k s=qa nbs k s
 | 0,_,_=>rfl
 | k+1,s,h=>by simp only [qa];rw [zbi (fun j z=>h j (by omega)),h k (Nat.lt_succ_self k)]
theorem zhl {u:List It} (h:qe u) (x:Rw) (n slot:Nat):qe (ug u (some x) n slot)/\(ug u (some x) n slot).length<=u.length+1 :=
 YQ h none (some x) n slot
theorem zeR (n:Nat) (l:List (Nat × Rw)) (p:Nat × Rw) (h:List It):yl n (l++[p]) h=ug (yl n l h) (some p.2) n p.1:=by simp [yl]
theorem zeS {n k:Nat} {l:List (Nat × Rw)} {p:Nat × Rw} {u:List It} (h:l[k]?=some p):yl n (l.take (k+1)) u=ug (yl n (l.take k) u) (some p.2) n p.1:=by obtain ⟨z,D⟩:=zr.1 h;rw [yH z,D,zeR]
theorem KO {n:Nat}:∀ (l:List (Nat × Rw)) {its:List It},qe its->qe (yl n l its)/\(yl n l its).length<=its.length+l.length
 | [],its,h=>⟨h,za _⟩
 | p::l,its,h=>by have u:=zhl h p.2 n p.1;have z:=KO (n:=n) l u.1;refine ⟨z.1,?_⟩;have D:=z.2;have E:=u.2;simp only [qc];show (yl n l (ug its (some p.2) n p.1)).length<=_;omega
theorem KX:∀ (l:List (Option Rw)) (i:Nat),(jc l i).length<=l.length
 | [],_=>za _
 | none::l,i=>by have:=KX l (i+1);simp [jc];omega
 | some x::l,i=>by have:=KX l (i+1);simp [jc];omega
theorem zeh {p:Pg} (h:p.ok):(uc p).length<=5:=by have:=KX p.ap 0;rw [h.b5] at this;exact this
theorem zlP (a:Va) (b:Vb) (cur:Nat->Nat->List UInt8) (s:St) (w:World) (h:zm w a b cur s) (e3:qe s.N) (k3:s.N.length<=800) :
  zc 83 #[.pointer (some ⟨a.S,0,none⟩)] w fun e w'=>e=.returned (.int .i64 0)/\∃ nbs Z cur',qe (qa nbs 6 s).N/\(qa nbs 6 s).N.length<=s.N.length+30/\zm w' a Z cur' (qa nbs 6 s)/\qv w w' (qd a b s) (qd a Z (qa nbs 6 s)) cur cur' a.r:=by
 have H:=hid h;have h0:¬ qd a b s w.heap.size:=fun X=>by have:=h.lt X;omega
 obtain ⟨c0,hR⟩:∃ c0:List Deferred->Nat->World->Prop,c0=fun ds k wr=>∃ (rs:List Nat) (nbs:Nat->Nat) (Z:Vb) (cur':Nat->Nat->List UInt8),ds=rs.map zbR/\rs.Nodup/\(∀ q∈rs,w.heap.size<q)/\zm wr a Z cur' (qa nbs k s)/\qe (qa nbs k s).N/\(qa nbs k s).N.length<=s.N.length+5*k/\qv w wr (qd a b s) (qd a Z (qa nbs k s)) cur cur' a.r/\vQ ((w.heap.size,.cells #[.pointer (some ⟨a.S,0,none⟩)] 65)::rs.map KB) wr (qd a Z (qa nbs k s)):=⟨_,rfl⟩;have f1:c0 [] 0 (w.alloc (.cells #[.pointer (some ⟨a.S,0,none⟩)] 65)):=by rw [hR];exact ⟨[],fun _=>0,b,cur,rfl,List.nodup_nil,fun _ h=>by simp at h,h.below (B_alloc (zf _ _) _),e3,Nat.le_add_right _ _,(qv.refl _ _ _ _).call (B_alloc (zf _ _) _),vQ.cons (zo _ _ rfl) h0 vQ.nil⟩
 obtain ⟨HR,h9,j9⟩:=zi3 hR f1 e3;clear h h0 hR f1 e3;refine Qg func83 rfl ?_;simp only [ntmps83,qH,qc,jr,Nat.reduceAdd,Nat.reduceSub,Array.replicate_succ,Array.replicate_zero,List.push_toArray,List.append_toArray,List.nil_append,List.cons_append];go_upto_region 2 with fail;refine wp_loop (fun a' w'=>∃ u3 u4 u5 u6 u7 u8 u9 u10 u11 u12 u13 u14 u15 u16 u17 u18 u19 u20 u21 u22 u23 u24 u25 u26 u27 u28 u29 u30 u31 u32 u33 u34 u35:Value,∃ ds:List Deferred,(∃ k:Nat,k<=6/\u8=.int .i64 k/\c0 ds k w')/\a'={ tmps:=[.pointer (some ⟨a.S,0,none⟩),.pointer (some ⟨w.heap.size,0,none⟩),.int .i64 0,u3,u4,u5,u6,u7,u8,u9,u10,u11,u12,u13,u14,u15,u16,u17,u18,u19,u20,u21,u22,u23,u24,u25,u26,u27,u28,u29,u30,u31,u32,u33,u34,u35].toArray,defers:=ds }) (fun a' _=>(6-jF (a'.tmps.getD 8 undef)).toNat) ?start ?round
 case start =>
  (repeat apply Exists.intro)
  refine ⟨?_,rfl⟩;exact ⟨0,zT _,rfl,h9.o⟩
 case round =>
  rintro _ wr ⟨u3,u4,u5,u6,u7,u8,u9,u10,u11,u12,u13,u14,u15,u16,u17,u18,u19,u20,u21,u22,u23,u24,u25,u26,u27,u28,u29,u30,u31,u32,u33,u34,u35,ds,⟨k,hk,rfl,f6⟩,rfl⟩;rw [HR.o] at f6;obtain ⟨rs,nbs,b1,i5,rfl,c7,c5,hA,c8,a5,hE,hS⟩:=f6;by_cases j4:k<6
  ·have q1:(k:Int)<6:=by omega
   have x2:IntKind.i64.wrap ((k:Int)+1)=(k:Int)+1:=by rw [zu];omega
   have hN:¬ qd a b1 (qa nbs k s) wr.heap.size:=fun X=>by have:=hA.lt X;omega
   obtain ⟨w1,d0⟩:=ex (wr.alloc (.cells #[.int .i64 k] 3));have c1:zd wr w1:=by rw [d0];exact B_alloc (zf _ _) _
   have f0:w1.heap[wr.heap.size]?=some (.cells #[.int .i64 k] 3 (0,0)):=by rw [d0];exact zo _ _ rfl
   have a9:=hid (hA.below c1);have g4:=hid (hE.call c1);have d4:=hid (vQ.cons f0 hN (hS.below c1));obtain ⟨e5,e4,d2,d1⟩:=zi4 c8 a5 c7 c5;clear hA hE hS hN f0 c8 a5 c7 c5;have hS:=(And.intro a9.o.drew.c6 (And.intro (show w1.drew.heap[w.heap.size]?=_ from (d4.o _ (.tail _ (.head _))).1) (show w1.drew.heap[wr.heap.size]?=_ from (d4.o _ (.head _)).1)));have g9:=hid (zcv a.B a.D a.L a.r k b1.FL b1.F i5 (qa nbs k s).sto w1.drew a9.o.drew.sto j4);have i3:=hid d0;clear d0 c1;go_upto_region 4 with fail;rw [<- i3.o];refine sV [5] 11 (fun w'=>zH w' a.S 6 (.pointer (some ⟨a.B,0,none⟩))/\jJ w' w.heap.size #[.pointer (some ⟨a.S,0,none⟩)] 65/\jJ w' wr.heap.size #[.int .i64 k] 3) hS fun i6=>?_;refine cV 0 (fun _ h=>xV (Value.pointer (some ⟨a.S,0,none⟩)) 0 h.2.1) ?_;refine pV 1 ?_;refine pV 2 ?_;refine cV 3 (fun _ h=>h.1) ?_;refine cV 4 (fun _ h=>xV (Value.int .i64 k) 0 h.2.2) ?_;refine lC 5 g9.o ?_;rintro k2 O ⟨nb,F2,a7,rfl,k4,e1,f2⟩;refine eL ?_;refine pV 6 ?_;refine pV 7 ?_;refine pV 8 ?_;refine pV 9 ?_;refine pV 10 ?_;refine dV ?_;obtain ⟨kf,f,i7,c3,c4⟩:=Jv (s:=(qa nbs k s).sto) nb k a9.o.sto.ab.a5 a9.o.sto.ab.hand;have f4:=zC c3;have e0:=(e1.co f f4 _ _ _ c4).2;obtain ⟨a0,a8⟩:=a9.o.drew.bu e1 f2;have a3:vQ _ O _:=vQ.h6 (show vQ _ w1.drew _ from d4.o) a8;obtain ⟨T,hT⟩:=ex (qa nbs k s);rw [<- hT] at a0 a8 a3 c4 c3 e0;obtain ⟨D,f7⟩:∃ D:Nat->St,D=fun j=>{ T with sto:=T.sto.get nb k,N:=yl k ((uc (T.sto.E k)).take j) T.N }:=⟨_,rfl⟩;have e8:¬ qd a { b1 with FL:=b1.FL,F:=F2 } { T with sto:=T.sto.get nb k } O.heap.size:=fun X=>by have:=a0.lt X;omega
   have e9:¬ qd a { b1 with FL:=b1.FL,F:=F2 } { T with sto:=T.sto.get nb k } (O.heap.size+1):=fun X=>by have:=a0.lt X;omega
   obtain ⟨I,hI⟩:∃ I:Nat->World->Prop,I=fun j W=>∃ z:Vb,O.heap.size+2<=W.heap.size/\zm W a z a7 (D j)/\qv O W (qd a { b1 with FL:=b1.FL,F:=F2 } { T with sto:=T.sto.get nb k }) (qd a z (D j)) a7 a7 a.r/\vQ ((wr.heap.size,.cells #[.int .i64 k] 3)::(w.heap.size,.cells #[.pointer (some ⟨a.S,0,none⟩)] 65)::rs.map KB) W (qd a z (D j))/\¬ qd a z (D j) O.heap.size/\¬ qd a z (D j) (O.heap.size+1):=⟨_,rfl⟩;obtain ⟨g5,g8,g7,d3,a6,HT,HI,g2,b9⟩:=zi9 a8 c4 c3 e0 f7 hT hI a0 a3;obtain ⟨h2,h3⟩:=zi2 e8 e9;clear a8 c4 c3 e0 f7 hT hI a0 a3 e8 e9 e1 f2 i7 f4;go_wp2_with fail;refine Yw (gf:=127) (bound:=#[.pointer (some ⟨(qa nbs k s).sto.U nb k,0,none⟩)]) (caps:=#[]) (by rfl) (by kernel_rfl) (uc (T.sto.E k)).length (zai (T.sto.E k)) (ziH _) I ?h0 ?hput ?hbel (zpu _ a.r k (T.sto.E k) _ d3.o ?hpg) ?hround ?hend
   case h0 =>intro j7;rw [HI.o];have hb:zd O ((O.alloc (.deferred (some []))).alloc (.loop j7)):=B_alloc (B_alloc (zf _ _) _) _;refine ⟨{ b1 with FL:=b1.FL,F:=F2 },by simp,?_⟩;rw [show D 0={ T with sto:=T.sto.get nb k } by rw [a6.o];rfl];exact ⟨g2.o.below hb,(qv.refl _ _ _ _).call hb,b9.o.below hb,h2.o,h3.o⟩
   case hput =>intro j W o hj hl;rw [HI.o] at hj ⊢;obtain ⟨z,Y,u,U,E,h5,h6⟩:=hj;refine ⟨z,by simpa using Y,u.same (fun x X=>World.putObj_heap_other (fun e=>h6 (e ▸ X))) (by simp),U.put (by omega) o,E.put (fun p hp e=>?_) o,h5,h6⟩;have:=zi (b9.o p hp).1;omega
   case hbel =>intro j W W' hj hb;rw [HI.o] at hj ⊢;obtain ⟨z,Y,u,U,E,h5,h6⟩:=hj;exact ⟨z,zz Y hb.size,u.below hb,U.call hb,E.below hb,h5,h6⟩
   case hpg =>intro j W hj;rw [HI.o] at hj;obtain ⟨z,Y,u,U,E,h5,h6⟩:=hj;rw [<- HT.o];have h7:=u.sto;rw [show (D j).sto=T.sto.get nb k by rw [a6.o]] at h7;exact h7.ab.bj f (zC g7.o) _ _ _ g8.o
   case hround =>
    rintro j W hj hI hl;rw [HI.o] at hI;obtain ⟨z,Y,u,U,E,h5,h6⟩:=hI;obtain ⟨⟨i,x⟩,X⟩:∃ p,(uc (T.sto.E k))[j]?=some p:=⟨_,zX hj⟩;rw [zfV X];simp only [List.zip_toArray,List.zip_cons_cons,List.zip_nil_right,List.foldl_toArray,jM,List.foldl_nil,List.setIfInBounds_toArray,List.set_cons_succ,List.set_cons_zero];refine wpIn_seq ?_;refine vk (uv _) 0 rfl (fun _ _ h=>h) ?_;go_wp2_with fail;refine vk (uv _) 0 rfl (fun _ _ h=>h) ?_;go_wp2_with ((with_reducible refine hV 7 ?_);refine nV #[.int .i64 x.t,.string (zb x.k),.string (zb x.v)] (by simp [Value.oneCell']) ?_);have c2:zd W (W.alloc (.cells #[.int .i64 x.t,.string (zb x.k),.string (zb x.v)] 34)):=B_alloc (zf _ _) _;refine ⟨Jb.below c2 (by omega),fun o=>?_⟩;refine wpIn_block ?_;obtain ⟨R,a4⟩:∃ R,(W.alloc (.cells #[.int .i64 x.t,.string (zb x.k),.string (zb x.v)] 34)).putObj (O.heap.size+1) o=R:=⟨_,rfl⟩;rw [a4];have e7:∀ q,q<W.heap.size->q≠O.heap.size+1->R.heap[q]?=W.heap[q]?:=fun q L hn=>by rw [<- a4];exact (World.putObj_heap_other hn).trans (qb _ _ _ L)
    have f9:R.heap[W.heap.size]?=some (.cells #[.int .i64 x.t,.string (zb x.k),.string (zb x.v)] 34 (0,0)):=by rw [<- a4];exact (World.putObj_heap_other (by omega)).trans (zo _ _ rfl)
    have g0:R.heap.size=W.heap.size+1:=by rw [<- a4];simp
    have a0:zm R a z a7 (D j):=u.same (fun q L=>e7 q (u.lt L) (fun e=>h6 (e ▸ L))) (by omega);have a8:qv O R (qd a { b1 with FL:=b1.FL,F:=F2 } { T with sto:=T.sto.get nb k }) (qd a z (D j)) a7 a7 a.r:=by rw [<- a4];exact (U.call c2).put (by omega) o
    have a3:vQ ((wr.heap.size,.cells #[.int .i64 k] 3)::(w.heap.size,.cells #[.pointer (some ⟨a.S,0,none⟩)] 65)::rs.map KB) R (qd a z (D j)):=by rw [<- a4];refine (E.below c2).put (fun p hp e=>?_) o;have:=zi (b9.o p hp).1;omega
    have d8:=a0.drew.ef;obtain ⟨ij,c6⟩:=ex (yl k ((uc (T.sto.E k)).take j) T.N);have e2:(D j).N=ij:=by rw [c6,a6.o]
    have hok:=KO (n:=k) ((uc (T.sto.E k)).take j) (show qe T.N by rw [HT.o];exact e5.o);rw [<- c6] at hok;have d9:=zeh d3.o;have d5:T.N.length<=s.N.length+5*k:=by rw [HT.o];exact e4.o
    have i9:ij.length<=900:=by have:=hok.2;rw [qf] at this;omega
    rw [e2] at d8;have f5:=zjq a.S 7 z.v ij ⟨x,k,i⟩ (jv ij x) R.drew d8 (by omega) (Cut.bq hok.1);have hS:R.drew.heap[w.heap.size]?=some (.cells #[.pointer (some ⟨a.S,0,none⟩)] 65 (0,0))/\R.drew.heap[wr.heap.size]?=some (.cells #[.int .i64 k] 3 (0,0))/\R.drew.heap[W.heap.size]?=some (.cells #[.int .i64 x.t,.string (zb x.k),.string (zb x.v)] 34 (0,0)):=⟨(a3 (w.heap.size,_) (.tail _ (.head _))).1,(a3 (wr.heap.size,_) (.head _)).1,f9⟩;have f8:(D (j+1)).N=ug ij (some x) k i:=by rw [a6.o,c6];exact zeS X
    obtain ⟨h4,g3,g6,i0,i2,H1,H5,H6,i4⟩:=zi9 f5 a0 a8 a3 f8 Y h5 h6 g0;obtain ⟨k0,j8⟩:=zi2 a4 e2;clear f5 a0 a8 a3 f8 Y u U E h5 h6 g0 a4 e7 f9 d8 hok d9 d5 i9 c6 X e2 c2;refine zib (uv _) (n:=8) (S:=(fun w'=>w'.heap[w.heap.size]?=some (.cells #[.pointer (some ⟨a.S,0,none⟩)] 65 (0,0))/\w'.heap[wr.heap.size]?=some (.cells #[.int .i64 k] 3 (0,0))/\w'.heap[W.heap.size]?=some (.cells #[.int .i64 x.t,.string (zb x.k),.string (zb x.v)] 34 (0,0)))) (ds:=[7]) (bA 8 0) rfl (fun _ _ h=>h) (by kernel_rfl) rfl (by kernel_rfl) hS (fun i6=>?_);refine cV 0 (fun _ h=>xV (Value.pointer (some ⟨a.S,0,none⟩)) 0 h.1) ?_;refine pV 1 ?_;refine pV 2 ?_;refine kV 3 rfl (qR 34 (.tmp 7) rfl (by rfl) W.heap.size (by rfl) 34 #[.int .i64 x.t,.string (zb x.k),.string (zb x.v)] (0,0) _ (fun _ h=>h.2.2) underlying34 rfl (by kernel_rfl)) ?_;refine cV 4 (fun _ h=>xV (Value.int .i64 k) 0 h.2.1) ?_;refine pV 5 ?_;refine pV 6 ?_;refine lC 7 h4.o ?_;rintro k1 k5 ⟨rfl,w0,v',j6,j1,j5,i8⟩;refine eL ?_;refine PrintLast.done_ (by kernel_rfl) ?_;obtain ⟨e6,a1⟩:=g3.o.drew.e3 j6 j1 (fun q L=>j5.elim (fun e=>.inl (by rw [<- e];exact L)) (fun ⟨q',e,j3⟩=>.inr (by rw [e] at L;cases L;exact j3))) i8;have j0:({ D j with N:=uC ij (jv ij x) ⟨x,k,i⟩ }:St)=D (j+1):=by have h8:=i2.o;rw [a6.o] at h8 ⊢;simp only at h8 ⊢;rw [h8];rfl
    rw [j0] at e6 a1;have f3:O.heap.size+1<R.drew.heap.size:=by show _<R.heap.size;have:=i4.o;have:=H1.o;omega
    refine ⟨?_,a1.ac.size,a1.ac.block _ (by omega) H5.o,a1.ac.block _ f3 H6.o⟩;rw [HI.o];exact ⟨_,by have:=a1.ac.size;omega,e6,g6.o.trans a1.ay,vQ.h6 (show vQ _ R.drew _ from i0.o) a1,a1.ed H5.o (by omega),a1.ed H6.o f3⟩
   case hend =>
    intro W hI hD;rw [HI.o] at hI;obtain ⟨z,Y,u,U,E,h5,h6⟩:=hI;have a5:=KO (n:=k) (uc (T.sto.E k)) (show qe T.N by rw [HT.o];exact e5.o);have d9:=zeh d3.o;have d5:T.N.length<=s.N.length+5*k:=by rw [HT.o];exact e4.o
    have d6:D (uc (T.sto.E k)).length=qa (zZ nbs k nb) (k+1) s:=by rw [qa,zk,zbi (nbs:=nbs) (fun j hj=>zy _ _ (by omega)),<- HT.o,a6.o];simp only [qi];rfl
    have d7:(qa (zZ nbs k nb) (k+1) s).N=yl k (uc (T.sto.E k)) T.N:=by rw [<- d6,a6.o];simp only [qi]
    rw [d6] at u U E;have HF:=hid (show c0 (zbR O.heap.size::rs.map zbR) (k+1) W from by
     rw [HR.o];refine ⟨O.heap.size::rs,zZ nbs k nb,z,a7,rfl,List.nodup_cons.2 ⟨fun hm=>?_,d2.o⟩,fun q L=>?_,u,by rw [d7];exact a5.1,by rw [d7];have:=a5.2;omega,(show qv w w1 _ (qd a b1 T) _ _ _ by rw [HT.o];exact g4.o).trans (g5.o.ay.trans U),?_⟩
     ·have:=zi (b9.o (KB O.heap.size) (.tail _ (.tail _ (List.mem_map_of_mem hm)))).1;simp [KB] at this
     ·rcases zO.1 L with rfl | L
      ·exact zi (b9.o (w.heap.size,_) (.tail _ (.head _))).1
      ·exact d1.o q L
     ·intro p hp;rcases zO.1 hp with rfl | hp
      ·exact E _ (.tail _ (.head _))
      ·rcases zO.1 hp with rfl | hp
       ·exact ⟨hD,u.eu hD⟩
       ·exact E p (.tail _ (.tail _ hp)))
    clear Y u U E h5 h6 a5 d9 d5 d6 d7 hD;refine (by assumption:∀ a w,Code.wp prog (Code.region _ _ _) _ a w->_) _ _ ?_;go_wp2_with fail;refine ⟨?_,?measure⟩
    ·(repeat apply Exists.intro)
     refine ⟨?rel,rfl⟩;exact ⟨k+1,by omega,by simp,HF.o⟩
    ·simp [jF];omega
  ·have j2:k=6:=by omega
   subst j2;obtain ⟨HA,HE,HS,d2,d1,i1,h1⟩:=zi7 hA hE hS c7 c5 c8 a5;clear hA hE hS c7 c5 a5 c8;go_wp2_with fail;show LeavesInM Fence.wide 0 prog _ _ _ (rs.map zbR) .returning wr;refine zbO (by simp) (fun W=>∃ nbs Z cur',qe (qa nbs 6 s).N/\(qa nbs 6 s).N.length<=s.N.length+30/\zm W a Z cur' (qa nbs 6 s)/\qv w W (qd a b s) (qd a Z (qa nbs 6 s)) cur cur' a.r) ?_ rs wr ?_ d2.o (fun q L=>(HS.o (KB q) (.tail _ (List.mem_map_of_mem L))).1) ⟨_,_,_,i1.o,h1.o,HA.o,HE.o⟩
   ·rintro W ⟨nbs,Z,cur',U,E,Y,u⟩;exact ⟨_,results_tmp rfl _ _ _,rfl,nbs,Z,cur',U,E,Y,u⟩
   ·rintro W q L hD ⟨nbs,Z,cur',U,E,Y,u⟩;exact ⟨nbs,Z,cur',U,E,Y.same (fun x X=>World.putObj_heap_other (fun e=>Y.eu hD (e ▸ X))) (by simp),u.put (Nat.le_of_lt (d1.o q L)) _⟩
theorem zm.ax {w E:World} {a:Va} {b:Vb} {cur:Nat->Nat->List UInt8} {s:St} (h:zm w a b cur s) {k u n slot:Nat} {f:zx} {p:Pg} {o:Option Rw} (O:s.sto.fs[k]?=some f) (D:f.pg=some (u,n,p)) (a6:qS E u a.r n (p.set slot o)) (X:zA (fun x=>x=u) w E) :
  qr E a.B a.D a.r a.L (s.sto.fs.set k ⟨some (u,n,p.set slot o),f.ae,f.a2⟩) s.sto.hand/\E.cell? ⟨a.S,6,none⟩=some (.pointer (some ⟨a.B,0,none⟩)):=by
 have a1:=zC O;have a3:u≠a.B:=h.sto.ab.ne a1 D;have a4:a.S≠u:=fun e=>by have Y:=zh h.row;rw [e,zh (h.sto.ab.bj f a1 u n p D)] at Y;cases Y
 refine ⟨?_,Qh h.c6 X a4⟩;refine h.sto.ab.put (f:=f) O ?_ h.sto.ab.hand ?_ ?_ ?_
 ·have a5:jl a.D a.r a.L (s.sto.fs.set k ⟨some (u,n,p.set slot o),f.ae,f.a2⟩) s.sto.hand=jl a.D a.r a.L s.sto.fs s.sto.hand:=Yr O (by simp [qx,zx.bh,D]);show E.heap[a.B]?=some (.cells (jl a.D a.r a.L (s.sto.fs.set k ⟨some (u,n,p.set slot o),f.ae,f.a2⟩) s.sto.hand).toArray 200 (0,0));rw [a5];exact qK h.sto.ab.U X (fun e=>a3 e.symm)
 ·intro L R U z;injection z with z;cases z;exact a6
 ·intro j g L R U hj Z a0;refine X.block _ (zi (h.sto.ab.bj g (zC Z) L R U a0)) (fun e=>hj ?_);exact h.sto.ab.apart j k g f L R U n p Z O a0 (by rw [e];exact D)
 ·intro L R U z;injection z with z;cases z;exact .inl ⟨_,_,D⟩
def zn.ax (s:zn) (nb fr h:Nat) (x:zQ):zn :=
 if fr<=h/\(s.E x.E).mark<h then (s.get nb x.E).setRow x.E x.slot x.after h else s.get nb x.E
def St.ax (s:St) (nb fr h:Nat) (x:zQ):St:=if x.kind=3∨x.kind=4 then { s with sto:=s.sto.ax nb fr h x } else s
def ZV (fr:Nat) (A:Nat->Option Addr) (n c:Nat->Nat) (o:Nat->Bool):List Value:=[.int .u64 fr,.slice (A 0) (n 0) (c 0),.slice (A 1) (n 1) (c 1),.slice (A 2) (n 2) (c 2),.slice (A 3) (n 3) (c 3),.bool (o 0),.bool (o 1),.bool (o 2),.bool (o 3)]
def Ju (D:Nat) (x:zQ) (h:Option Addr) (z u:Nat):List Value:=[.int .u64 D,.int .i64 x.kind,.int .i64 x.txn,.int .i64 x.E,.int .i64 x.slot,.string (zb (zM x.aa)),.string (zb (zM x.after)),.string (zb x.ao),.slice h z u]
theorem zla (fr:Nat) (A:Nat->Option Addr) (n c:Nat->Nat) (o:Nat->Bool) (u:Nat) (x:zQ) (z:Option Addr) (E D:Nat) (mark:Nat) (w:World) :
  zc 122 #[.agg (ZV fr A n c o).toArray,.agg (Ju u x z E D).toArray,.int .u64 mark,.bool false] w fun r w'=>r=.returned (.bool (decide (x.kind=3∨x.kind=4) && decide (fr<=u/\mark<u)))/\zd w w':=by
 have h:=Rs.again_any fr (.slice (A 0) (n 0) (c 0)) (.slice (A 1) (n 1) (c 1)) (.slice (A 2) (n 2) (c 2)) (.slice (A 3) (n 3) (c 3)) (o 0) (o 1) (o 2) (o 3) ⟨u,x.kind,x.txn,x.E,x.slot,zb (zM x.aa),zb (zM x.after),zb x.ao,.slice z E D,[]⟩ mark false w;refine Calls.mono h ?_;rintro e w' ⟨rfl,hb⟩;refine ⟨?_,hb⟩;congr 2;unfold Rs.againB;simp only [Bool.false_eq_true,if_false];have L:((x.kind:Int)=3)↔x.kind=3:=by omega
 have O:((x.kind:Int)=4)↔x.kind=4:=by omega
 have R:((fr:Int)<=(u:Int))↔fr<=u:=by omega
 have U:((mark:Int)<(u:Int))↔mark<u:=by omega
 simp only [L,O,R,U,Bool.decide_or,Bool.decide_and,Bool.and_assoc]
theorem zmS (a:Va) (b:Vb) (cur:Nat->Nat->List UInt8) (s:St) (fr:Nat) (A:Nat->Option Addr) (pn pc:Nat->Nat) (po:Nat->Bool) (u:Nat) (x:zQ) (D:Option Addr) (L E:Nat) (w:World) (h:zm w a b cur s) (R:x.ok) (h8:u≠0) (hp:u<18446744073709551616) :
  zc 82 #[.pointer (some ⟨a.S,0,none⟩),.agg (ZV fr A pn pc po).toArray,.agg (Ju u x D L E).toArray] w fun e w'=>e=.returned (.int .i64 0)/\∃ nb z cur',zm w' a z cur' (s.ax nb fr u x)/\qv w w' (qd a b s) (qd a z (s.ax nb fr u x)) cur cur' a.r:=by
 obtain ⟨H,HX⟩:=zi2 h R;clear h R;obtain ⟨w1,a4⟩:=ex ((w.alloc (.cells (ZV fr A pn pc po).toArray 164)).alloc (.cells (Ju u x D L E).toArray 167));have d9:zd w w1:=by rw [a4];exact B_alloc (B_alloc (zf _ _) _) _
 have e6:w1.heap[w.heap.size]?=some (.cells (ZV fr A pn pc po).toArray 164 (0,0)):=by rw [a4];exact zw (zo _ _ rfl) _
 have c5:w1.heap[w.heap.size+1]?=some (.cells (Ju u x D L E).toArray 167 (0,0)):=by rw [a4];exact zo _ _ (by simp)
 have kk:=xV (Value.int .i64 x.kind) 1 c5;unfold ZV Ju at *;obtain ⟨U,h4,d5,d4⟩:=zi4 d9 e6 c5 a4;clear d9 e6 c5 a4;by_cases hk:x.kind=3∨x.kind=4
 ·have HG:=hid (zcv a.B a.D a.L a.r x.E b.FL b.F cur s.sto w1.drew (H.o.below U.o).drew.sto HX.o.E);have c3:=H.o.below U.o;have Z:=(And.intro c3.drew.c6 (show w1.drew.heap[w.heap.size+1]?=_ from d5.o));have a9:=hid c3;have e4:vQ [(w.heap.size,.cells (ZV fr A pn pc po).toArray 164),(w.heap.size+1,.cells (Ju u x D L E).toArray 167)] w1.drew (qd a b s) :=
   vQ.cons h4.o (fun R=>by have:=H.o.lt R;omega) (vQ.cons d5.o (fun R=>by have:=H.o.lt R;omega) vQ.nil)
  have g9:=hid e4;have e3:∀ nb,s.ax nb fr u x={ s with sto:=s.sto.ax nb fr u x }:=fun nb=>by unfold St.ax;rw [if_pos hk]
  have d3:=hid e3;clear c3 e4 e3;have HK:=hid hk;obtain ⟨K,hK,h7⟩:∃ K:Int,(x.kind:Int)=K/\(K=3∨K=4):=⟨_,rfl,by omega⟩;rw [hK] at kk;clear hk hK;rcases h7 with rfl | rfl
  all_goals
   go_enter func82,ntmps82;go_upto_region 1 with fail;rw [<- d4.o];go_upto_region 3 with fail;refine sV [7] 13 (fun w'=>zH w' a.S 6 (.pointer (some ⟨a.B,0,none⟩))/\w'.heap[w.heap.size+1]?=some (.cells (Ju u x D L E).toArray 167 (0,0))) Z fun e1=>?_;refine pV 0 ?_;refine pV 1 ?_;refine pV 2 ?_;refine cV 3 (fun _ h=>h.1) ?_;refine pV 4 ?_;refine pV 5 ?_;refine cV 6 (fun _ h=>xV (Value.int .i64 x.E) 3 h.2) ?_;refine lC 7 HG.o ?_;rintro i3 w2 ⟨nb,F2,h9,rfl,i8,a8,e9⟩;refine eL ?_;refine pV 8 ?_;refine pV 9 ?_;refine pV 10 ?_;refine pV 11 ?_;refine pV 12 ?_;refine dV ?_;obtain ⟨k,f,f0,c7,a3⟩:=Jv (s:=s.sto) nb x.E a9.o.sto.ab.a5 a9.o.sto.ab.hand;obtain ⟨d8,c4⟩:=a9.o.drew.bu a8 e9;have e5:=g9.o.h6 c4;obtain ⟨Y,c6⟩:=ex (s.sto.U nb x.E);obtain ⟨p,hp⟩:=ex (s.sto.E x.E);rw [<- c6,<- hp] at a3;rw [<- c6];have a7:=zC c7;have hpg:=a8.ab.bj f a7 Y x.E p a3;obtain ⟨_,f5⟩:=a8.co f a7 Y x.E p a3;have km:=xV (Value.int .u64 p.mark) 0 hpg;have b9:=hid (zla fr A pn pc po u x D L E p.mark w2);obtain ⟨c2,O⟩:∃ c2:Bool,c2=decide (fr<=u/\p.mark<u):=⟨_,rfl⟩;rw [<- O] at b9;have d6:decide (x.kind=3∨x.kind=4)=true:=by simpa using HK.o
   rw [d6,Bool.true_and] at b9;have g0:=hid d8;have g2:=hid (((qv.refl _ _ _ _).call U.o.drew).trans c4);obtain ⟨c1,d2,g7,g3,d1,c0,HP,HR,g5⟩:=zi9 e5 hpg f5 f0 c7 a3 hp O a7;clear f0 c7 a3 d8 c4 c6 hp a7 hpg f5 a8 e9 O e5 d6 Z;go_upto_if 54 with (first|((with_reducible refine gV 49 ?_);refine rV (c1.o (w.heap.size,_) (.head _)).1 ?_)|((with_reducible refine gV 50 ?_);refine rV (c1.o (w.heap.size+1,_) (.tail _ (.head _))).1 ?_)|((with_reducible refine aV 122 b9.o ?_);rintro i4 w3 ⟨rfl,a0⟩));have a5:=hid (g0.o.below a0);have d0:=hid (g2.o.call a0);have X:=hid (c1.o.below a0);have g6:=hid (show qS w3 Y a.r x.E p from zg (show w2.heap[_]?=_ from d2.o) a0 (zi (show w2.heap[_]?=_ from d2.o)));clear a0 km;cases c2 with
   | false =>
    have f3:¬ (fr<=u/\p.mark<u):=by simpa using HR.o.symm
    have a1:s.ax nb fr u x={ s with sto:=s.sto.get nb x.E }:=by rw [d3.o];unfold zn.ax;rw [<- HP.o,if_neg f3]
    have HF:=hid a1;clear a1 f3;go_wp2_with fail;refine ⟨rfl,_,results_tmp rfl _ _ _,rfl,nb,?_⟩;rw [HF.o];exact ⟨_,_,a5.o,d0.o⟩
   | true =>
    have f8:fr<=u/\p.mark<u:=by simpa using HR.o.symm
    have a1:s.ax nb fr u x={ s with sto:=(s.sto.get nb x.E).setRow x.E x.slot x.after u }:=by rw [d3.o];unfold zn.ax;rw [<- HP.o,if_pos f8]
    have HF:=hid a1;clear a1 f8;have h5:=xV (Value.int .i64 x.slot) 4 (X.o (w.heap.size+1,_) (.tail _ (.head _))).1;have h6:=xV (Value.string (zb (zM x.after))) 6 (X.o (w.heap.size+1,_) (.tail _ (.head _))).1;have h1:=hid (zjy Y a.r x.E x.slot p x.after w3 g6.o g7.o HX.o.after HX.o.slot);go_upto_region 20 with ((with_reducible refine aV 125 h1.o ?_);rintro i5 w9 ⟨rfl,c8,a6⟩);obtain ⟨f4,k6⟩:=a5.o.ax d1.o c0.o c8 a6;have f2:w.heap.size+1≠Y:=fun e=>(X.o (w.heap.size+1,_) (.tail _ (.head _))).2 (.inl (.inr (.inr (.inr (.inr (.inr (.inr (.inr ⟨f,g5.o,_,_,by rw [c0.o,e]⟩))))))));have e7:w9.heap[w.heap.size+1]?=_:=(a6.block _ (zi (X.o (w.heap.size+1,_) (.tail _ (.head _))).1) f2).trans (X.o (w.heap.size+1,_) (.tail _ (.head _))).1;have h3:=hid (zgk a.B a.D a.r a.L (s.sto.get nb x.E).hand x.E u _ w9.drew (f4.below (zf _ _).drew));have Z:=(And.intro (show w9.drew.cell? ⟨a.S,6,none⟩=_ from k6) (show w9.drew.heap[w.heap.size+1]?=_ from e7));obtain ⟨h2,g4⟩:=zi2 c8 a6;clear c8 a6 f4 k6 e7 f2 h5 h6;go_upto_region 20 with fail;refine sV [9] 10 (fun w'=>zH w' a.S 6 (.pointer (some ⟨a.B,0,none⟩))/\w'.heap[w.heap.size+1]?=some (.cells (Ju u x D L E).toArray 167 (0,0))) Z fun e1=>?_;refine pV 0 ?_;refine pV 1 ?_;refine pV 2 ?_;refine cV 3 (fun _ h=>h.1) ?_;refine pV 4 ?_;refine pV 5 ?_;refine cV 6 (fun _ h=>xV (Value.int .i64 x.E) 3 h.2) ?_;refine pV 7 ?_;refine cV 8 (fun _ h=>xV (Value.int .u64 u) 0 h.2) ?_;refine lC 9 h3.o ?_;rintro i2 f9 ⟨rfl,f7,f1⟩;refine eL ?_;refine dV ?_;obtain ⟨f6,e8⟩:=a5.o.sto.f2 (k:=k) (f:=f) (w4:=w9.drew) g3.o d1.o c0.o h2.o g4.o.drew f7 f1 h8 hp HX.o.after;obtain ⟨d7,e0⟩:=a5.o.bu f6 e8;have e2:∃ nb z cur',zm f9 a z cur' (s.ax nb fr u x)/\qv w f9 (qd a b s) (qd a z (s.ax nb fr u x)) cur cur' a.r:=by refine ⟨nb,?_⟩;rw [HF.o];exact ⟨_,_,d7,d0.o.trans e0⟩
    have g8:=hid e2;clear f6 e8 d7 e0 f7 f1 e2 e1 Z;go_wp2_with fail;refine ⟨rfl,_,results_tmp rfl _ _ _,rfl,g8.o⟩
 ·have i6:¬ ((x.kind:Int)=3):=by omega
  have i7:¬ ((x.kind:Int)=4):=by omega
  have i0:((x.kind:Int) != 3)=true:=by simp;omega
  have i1:((x.kind:Int) != 4)=true:=by simp;omega
  have O:∃ nb z cur',zm w1 a z cur' (s.ax nb fr u x)/\qv w w1 (qd a b s) (qd a z (s.ax nb fr u x)) cur cur' a.r:=by refine ⟨0,b,cur,?_⟩;rw [show s.ax 0 fr u x=s by unfold St.ax;rw [if_neg hk]];exact ⟨H.o.below U.o,(qv.refl _ _ _ _).call U.o⟩
  have HR:=hid O;clear O;go_enter func82,ntmps82;go_upto_region 1 with fail;rw [<- d4.o];go_wp2_with fail;exact ⟨rfl,_,results_tmp rfl _ _ _,rfl,HR.o⟩
theorem zkr {o:Oper} {a:Act} {w:World} (x:Operand) (h:o.op=.box 208 x) (p q r:Value) (u:a.eval x=.agg #[p,q,r]) (z:p.oneCell'=true) (D:q.oneCell'=true) (E:r.oneCell'=true) :
  (execOp a.eval o).run prog w=.ok (.value (.pointer (some ⟨w.heap.size,0,none⟩))) (w.alloc (.cells #[p,q,r] 208)):=by
 unfold execOp;simp only [h,u];simp [go_sem,Instr.box]
theorem znz (S n:Nat) (ts:qE) (L:List Chg) (A:Option Addr) (c B:Nat) (w:World) (a4:vR w S ts) (h4:ts.length=4) (h1:1<=n) (h3:n<=3) (hr:zL w B 3 A L.length (qD L)) (hL:L.length<=1000) :
  zc 84 #[.pointer (some ⟨S,1,none⟩),.int .i64 n,.slice A L.length c] w fun e w'=>e=.returned (.tuple #[])/\∃ w1 C G',zd w w1/\w'=w1.setCell ⟨S,1+n,none⟩ (.pointer (some ⟨C,0,none⟩))/\vz w1 C ⟨L,[],L.length⟩ G'/\∀ x,G' x->w.heap.size<=x:=by
 have q1:(1:Int)<=(n:Int):=by omega
 have q3:(n:Int)<=3:=by omega
 have d1:decide ((1:Int)<=(n:Int))=true:=by simpa using q1
 have d3:decide ((n:Int)<=3)=true:=by simpa using q3
 have q0:(0:Int)<=(n:Int):=by omega
 have q4:(n:Int)<4:=by omega
 obtain ⟨o,ho⟩:∃ o,ts[n]?=some o:=⟨_,zX (by omega)⟩;obtain ⟨X,a0,Z⟩:=a4;have a5:1+n<X.size:=by have:=Z n (by omega);rw [show (vF ts)[n]?=some (.pointer (o.map fun p=>⟨p.1,0,none⟩)) by simp [vF,ho]] at this;exact (qu.1 this).1
 obtain ⟨HR,Y,a3⟩:=zi3 hr a0 a5;clear hr a0 Z ho;go_enter func84,ntmps84;go_upto_region 1 with fail;refine sV [11] 12 (fun _=>True) trivial fun a1=>?_;refine pV 0 ?_;refine pV 1 ?_;refine pV 2 ?_;refine pV 4 ?_;refine pV 5 ?_;refine pV 8 ?_;refine pV 9 ?_;refine oV 3 fun K u=>?_;refine Qd (.const (.slice none 0 0)) (.tmp 14) 147 150 3 32 rfl underlying147 GZ (by omega) (.slice none 0 0) 0 [] w.heap.size (by rfl) (ql _ _ _ _) _ L.length _ _ B (by rfl) HR.o (zgP _) (by omega) (by omega) (za _) ?_;intro v1 w1 R hg a7;rw [qy,List.nil_append] at R;obtain ⟨z,D,rfl⟩:=own_slice R;refine u.out _ _ trivial (fun a1=>?_);clear u K;try simp only [pS]
 refine pV 6 ?_;refine oV 7 fun K u=>?_;refine uL (zkr (.tmp 18) rfl (.slice z L.length D) (.slice none 0 0) (.int .i64 L.length) (by rfl) rfl rfl rfl) ?_;refine u.out _ _ trivial (fun a1=>?_);clear u K;try simp only [pS]
 refine pV 10 ?_;refine lV 11 fun K u=>?_;have E:zd w w1:=uE ((zf _ w.drew).grown hg (za _) (fun q e=>by cases e));have U:zd w (w1.alloc (.cells #[.slice z L.length D,.slice none 0 0,.int .i64 L.length] 208)):=B_alloc E _;refine jz 93 (.tmp 22) (.tmp 19) rfl S (1+n) X 103 (.pointer (some ⟨w1.heap.size,0,none⟩)) (by rfl) (by rfl) (by kernel_rfl) (zg Y.o U (zi Y.o)) a3.o rfl ?_;refine u.out _ _ ?_;clear u K;try simp only [pS]
 refine dV ?_;have E:zd w w1:=uE ((zf _ w.drew).grown hg (za _) (fun q e=>by cases e));have U:=B_alloc E (.cells #[.slice z L.length D,.slice none 0 0,.int .i64 L.length] 208);have a6:=E.size;have O:(w1.alloc (.cells #[.slice z L.length D,.slice none 0 0,.int .i64 L.length] 208)).ownsRow w.heap.size 150 3 (.slice z L.length D) L.length (qD L):=own_same R fun q hq=>qb _ _ q (R.lt q hq).2;refine ZS rfl rfl ⟨rfl,_,w1.heap.size,fun x=>x=w1.heap.size∨(Value.slice z L.length D).ownBlock=some x,U,rfl,⟨⟨_,.slice none 0 0,zo _ _ rfl,jK O (zT _),ql _ _ _ _,fun k h=>.inr h,fun k h=>by cases h⟩,.inl rfl,?_,?_⟩,?_⟩
 ·rintro k (rfl | h)
  ·simp
  ·exact (O.lt k h).2
 ·rintro k (rfl | h)
  ·rw [zh (zo _ _ rfl)];decide
  ·rw [own_tag O h];decide
 ·rintro k (rfl | h)
  ·exact a6
  ·exact (O.lt k h).1
theorem zoW {w:World} {a:Va} {b:Vb} {cur:Nat->Nat->List UInt8} {s:St} (h:zm w a b cur s) {n:Nat} (z:1<=n) (D:n<=3) (L:List Chg) (A:Option Addr) (c B:Nat) (X:zL w B 3 A L.length (qD L)) (U:L.length<=8) (hok:∀ c,c∈L->c.pg<6/\c.sl<5/\js c.aa) :
  zc 84 #[.pointer (some ⟨a.S,1,none⟩),.int .i64 n,.slice A L.length c] w fun e w'=>e=.returned (.tuple #[])/\∃ u T,zm w' a u cur { s with ts:=s.ts.set n (some (T,⟨L,[],L.length⟩)) }/\qv w w' (qd a b s) (qd a u { s with ts:=s.ts.set n (some (T,⟨L,[],L.length⟩)) }) cur cur a.r:=by
 refine (znz a.S n s.ts L A c B w h.aq.row h.aq.len z D X (by omega)).mono ?_;rintro e w' ⟨rfl,w1,C,G',hb,rfl,Y,R⟩;obtain ⟨E,O⟩:=h.e1 (o:=some (C,⟨L,[],L.length⟩)) (G':=G') hb z D R (fun _ _ e=>by cases e;exact ⟨Y,⟨U,za _,by simp,hok⟩⟩) (fun e=>by cases e);exact ⟨rfl,_,C,E,O⟩
structure JC where
 l:List Chg
 o:Bool
def JC.step (s:JC) (x:zQ):JC :=
 if x.kind=2∨x.kind=3 then ⟨s.l++[⟨x.E,x.slot,x.aa⟩],true⟩ else if x.kind=4 then ⟨s.l.dropLast,s.o⟩ else if x.kind=5∨x.kind=6 then ⟨[],false⟩ else s
def uh (rs:List zQ) (i:Nat):JC:=rs.foldl (fun s x=>if x.txn=i/\x.kind≠7 then s.step x else s) ⟨[],false⟩
def lsr (rs:List zQ) (i:Nat):JC:=if 1<=i/\i<=3 then uh rs i else ⟨[],false⟩
def zbN (a:Nat) (l:List Nat):Nat:=l.foldl (fun a d=>if 0<d then (if d<a then d else a) else a) a
def vr (es:List (Nat × zQ)):Nat:=es.foldl (fun a e=>if e.2.kind=7 then zbN e.1 e.2.Y else a) 0
def zpX (c:Chg):Rs.Chg:=⟨c.pg,c.sl,zb (zM c.aa)⟩
def vC (e:Ent):Rs.Ent:=⟨e.pl,e.rc.kind,e.rc.txn,e.rc.E,e.rc.slot,zb (zM e.rc.aa),zb (zM e.rc.after),zb e.rc.ao,e.dv,e.rc.Y.map Int.ofNat⟩
theorem zin (es:List Ent):yI es=Rs.rowOf (es.map vC):=by unfold yI Rs.rowOf;rw [List.flatMap_map];rfl
theorem znx (a:Nat) (l:List Nat):Rs.leastOf (a:Int) (l.map Int.ofNat)=(zbN a l:Int):=by
 induction l generalizing a with
 | nil=>rfl
 | cons d l ih =>
  show Rs.leastOf (if (0:Int)<Int.ofNat d then (if Int.ofNat d<(a:Int) then Int.ofNat d else (a:Int)) else (a:Int)) (l.map Int.ofNat)=(zbN (if 0<d then (if d<a then d else a) else a) l:Int);rw [<- ih];congr 1;have h:((0:Int)<Int.ofNat d)↔0<d:=by simp
  have u:(Int.ofNat d<(a:Int))↔d<a:=by simp
  simp only [h,u];split
  ·split<;>rfl
  ·rfl
theorem ziu (es:List (Nat × zQ)) (e:Nat × zQ):vr (es++[e])=if e.2.kind=7 then zbN e.1 e.2.Y else vr es:=by simp [vr]
theorem JV (rs:List zQ) (x:zQ) (i:Nat):uh (rs++[x]) i=if x.txn=i/\x.kind≠7 then (uh rs i).step x else uh rs i:=by simp [uh]
def KP (s:JC):Rs.One:=⟨s.l.map zpX,s.o⟩
theorem zqQ (s:JC) (e:Ent):(KP s).step (vC e)=KP (s.step e.rc):=by
 unfold Rs.One.step JC.step;have h:((vC e).kd=2)↔e.rc.kind=2:=by simp only [vC];omega
 have u:((vC e).kd=3)↔e.rc.kind=3:=by simp only [vC];omega
 have z:((vC e).kd=4)↔e.rc.kind=4:=by simp only [vC];omega
 have D:((vC e).kd=5)↔e.rc.kind=5:=by simp only [vC];omega
 have E:((vC e).kd=6)↔e.rc.kind=6:=by simp only [vC];omega
 simp only [h,u,z,D,E];split
 ·simp [KP,Rs.Ent.al,vC,zpX]
 ·split
  ·simp [KP,List.map_dropLast]
  ·split<;>rfl
theorem zmx {t i:Nat} (h:1<=i) (u:i<=3):(i=Rs.slotOf (t:Int))↔t=i:=by unfold Rs.slotOf;split<;>omega
theorem zdv:∀ (n:Nat) (es:List Ent),es.length=n->(Rs.planOf (es.map vC)).fr=(vr (es.map fun e=>(e.pl,e.rc)):Int)/\∀ i,1<=i->i<=3->(Rs.planOf (es.map vC)).s i=KP (uh (es.map (·.rc)) i)
 | 0,es,h=>by have:es=[]:=yd h;subst this;exact ⟨rfl,fun _ _ _=>rfl⟩
 | n+1,es,h=>by
  obtain ⟨O,e,rfl⟩:∃ O e,es=O++[e]:=⟨es.dropLast,es.getLast (fun e=>by rw [e] at h;simp at h),(List.dropLast_concat_getLast _).symm⟩;have L:=zdv n O (by simpa using h);simp only [List.map_append,List.map_cons,List.map_nil];rw [Rs.planOf_snoc,ziu];have R:((vC e).kd=7)↔e.rc.kind=7:=by simp only [vC];omega
  by_cases u:e.rc.kind=7
  ·rw [Rs.Pln.fd _ _ (R.2 u),if_pos u];refine ⟨znx _ _,fun i z D=>?_⟩;rw [JV,if_neg (fun h=>h.2 u)];exact L.2 i z D
  ·rw [Rs.Pln.cv _ _ (fun h=>u (R.1 h)),if_neg u];refine ⟨L.1,fun i z D=>?_⟩;rw [JV];show (if i=Rs.slotOf (vC e).tx then _ else _)=_;have U:i=Rs.slotOf (vC e).tx↔e.rc.txn=i:=zmx (t:=e.rc.txn) z D;by_cases E:e.rc.txn=i
   ·rw [if_pos (U.2 E),if_pos ⟨E,u⟩,L.2 i z D,zqQ]
   ·rw [if_neg (fun h=>E (U.1 h)),if_neg (fun h=>E h.1)];exact L.2 i z D
theorem zlb (es:List Ent) {i:Nat} (h:i<4):(Rs.anal (es.map vC)).s i=KP (lsr (es.map (·.rc)) i):=by
 unfold Rs.anal lsr;simp only;by_cases h0:i=0
 ·subst h0;rfl
 ·rw [if_neg h0,if_pos ⟨by omega,by omega⟩];exact (zdv _ es rfl).2 i (by omega) (by omega)
theorem zoH {w:World} {B:Nat} {e:Ent} (h:w.ownsRow B 35 1 e.dv e.rc.Y.length (uH e.rc.Y)):Rs.DirtyAt w (vC e):=by
 rcases h.2 with ⟨z,D⟩ | ⟨g,cap,cur,R,U,L,X,hm,Y,E⟩
 ·exact .inl ⟨z,by simp [vC,yd D]⟩
 ·refine .inr ⟨g,0,cap,cur,35,by simp [vC,R],by decide,by decide,by decide,L,by simp [vC];omega,fun i O=>?_⟩;have u:i<e.rc.Y.length:=by simpa [vC] using O
  have:(cur.toList.take (e.rc.Y.length*1))[i]?=some (Value.int .u64 (e.rc.Y[i]:Nat)):=by rw [E];simp [uH,u]
  rw [List.getElem?_take] at this;split at this
  ·rw [qy];simp only [vC,List.getD,List.getElem?_map,zX u,qk,Option.getD_some];simpa using this
  ·cases this
theorem znU (r:zQ):11<=(qG r).length:=by simp only [qG,vX,Qb,Ji,uD,zl,zG,qc,jr];omega
theorem zgb:∀ (rs:List zQ),rs.length*11<=(zq rs).length
 | []=>by simp [zq]
 | r::rs=>by have h:=zgb rs;have u:=znU r;show _<=(qG r++zq rs).length;rw [zl,qc];omega
theorem GV.a7 {w:World} {B:Nat} {A:Option Addr} {n c:Nat} {es:List Ent} (h:GV w B (.slice A n c) es) (u:es.length=n):Rs.RowsAt w A (es.map vC):=by
 refine Rs.RowsAt.aj (B:=B) (n:=n) (c:=c) ?_ (by simpa using u) ?_
 ·have:=h.ba;rw [zin,u] at this;exact this
 ·intro e E;obtain ⟨z,D,rfl⟩:=List.mem_map.1 E;exact zoH (h.Y z D)
theorem zii (A:Option Addr) (n c B:Nat) (es:List Ent) (w:World) (U:es.length=n) (hlen:n<=2000) (h:GV w B (.slice A n c) es) :
  zc 81 #[.slice A n c] w fun e w'=>∃ (u:Nat->Option Addr) (z:Nat->Nat),e=.returned (.agg (ZV (vr (es.map fun e=>(e.pl,e.rc))) u (fun i=>(lsr (es.map (·.rc)) i).l.length) z (fun i=>(lsr (es.map (·.rc)) i).o)).toArray) /\
   (∀ i,1<=i->i<=3->w'.ownsRow w.heap.size 150 3 (.slice (u i) (lsr (es.map (·.rc)) i).l.length (z i)) (lsr (es.map (·.rc)) i).l.length (qD (lsr (es.map (·.rc)) i).l))/\zd w w':=by
 refine (Rs.analyse_any A n c (es.map vC) w (by simpa using U) hlen (h.a7 U)).mono ?_;rintro r w' ⟨⟨V,rfl,hV⟩,hb⟩;have hs:∀ i,1<=i->i<4->(Rs.planOf (es.map vC)).s i=KP (lsr (es.map (·.rc)) i):=fun i D Z=>by have:=zlb es Z;rw [<- this];unfold Rs.anal;simp only;rw [if_neg (by omega)]
 have hw:∀ i,i<4->∃ (u:Option Addr) (z:Nat),(if i=0 then Value.slice none 0 0 else V i)=.slice u (lsr (es.map (·.rc)) i).l.length z/\(1<=i->w'.ownsRow w.heap.size 150 3 (.slice u (lsr (es.map (·.rc)) i).l.length z) (lsr (es.map (·.rc)) i).l.length (qD (lsr (es.map (·.rc)) i).l)):=by
  intro i E;by_cases h0:i=0
  ·subst h0;exact ⟨none,0,rfl,fun h=>by omega⟩
  ·have D:=hV i (by omega) E;rw [hs i (by omega) E] at D;obtain ⟨u,z,e⟩:=own_slice D;rw [if_neg h0];have O:(KP (lsr (es.map (·.rc)) i)).l.length=(lsr (es.map (·.rc)) i).l.length:=by simp [KP]
   have X:Rs.chgs (KP (lsr (es.map (·.rc)) i)).l=qD (lsr (es.map (·.rc)) i).l:=by simp only [KP,Rs.chgs,qD,List.flatMap_map];rfl
   rw [O] at e;rw [O,X,e] at D;exact ⟨u,z,e,fun _=>D⟩
 obtain ⟨u,z,R⟩:=Rs.four (P:=fun i u z=>(if i=0 then Value.slice none 0 0 else V i)=.slice u (lsr (es.map (·.rc)) i).l.length z/\(1<=i->w'.ownsRow w.heap.size 150 3 (.slice u (lsr (es.map (·.rc)) i).l.length z) (lsr (es.map (·.rc)) i).l.length (qD (lsr (es.map (·.rc)) i).l))) hw;refine ⟨u,z,?_,fun i D h3=>(R i (by omega)).2 D,hb⟩;have e:∀ i,i<4->(fun i=>if i=0 then Value.slice none 0 0 else V i) i=Value.slice (u i) (lsr (es.map (·.rc)) i).l.length (z i):=fun i E=>(R i E).1;have Y:(Rs.planOf (es.map vC)).fr=(vr (es.map fun e=>(e.pl,e.rc)):Int):=(zdv _ es rfl).1;have L:∀ i,i<4->(if i=0 then (⟨[],false⟩:Rs.One) else (Rs.planOf (es.map vC)).s i).o=(lsr (es.map (·.rc)) i).o:=fun i E=>by have:=zlb es E;unfold Rs.anal at this;simp only at this;rw [this];rfl
 unfold Rs.planCells ZV;rw [e 0 (by omega),e 1 (by omega),e 2 (by omega),e 3 (by omega)];dsimp only;rw [Y,L 0 (by omega),L 1 (by omega),L 2 (by omega),L 3 (by omega)]
def redoTo (nbs:Nat->Nat) (fr:Nat) (es:List (Nat × zQ)):Nat->St->St
 | 0,s=>s
 | j+1,s=>match es[j]? with
  | some e=>(redoTo nbs fr es j s).ax (nbs j) fr e.1 e.2
  | none=>redoTo nbs fr es j s
theorem zcf {nbs u:Nat->Nat} {fr:Nat} {es:List (Nat × zQ)}:∀ {k:Nat} {s:St},(∀ j,j<k->u j=nbs j)->redoTo u fr es k s=redoTo nbs fr es k s
 | 0,_,_=>rfl
 | k+1,s,h=>by simp only [redoTo];rw [zcf (fun j z=>h j (by omega)),h k (Nat.lt_succ_self k)]
def lose (r:Nat) (rs:List zQ) (n T:Nat) (nbs:Nat->Nat) (s:St):St :=
 if (lsr rs n).o then ({ s with ts:=s.ts.set n (some (T,⟨(lsr rs n).l,[],(lsr rs n).l.length⟩)) }:St).be r n nbs ⟨(lsr rs n).l,[],(lsr rs n).l.length⟩ else s
def yb (r:Nat) (rs:List zQ) (Ts:Nat->Nat) (nbs:Nat->Nat->Nat):Nat->St->St
 | 0,s=>s
 | k+1,s=>lose r rs k (Ts k) (nbs k) (yb r rs Ts nbs k s)
theorem zbQ {r:Nat} {rs:List zQ} {Ts u:Nat->Nat} {nbs z:Nat->Nat->Nat}:∀ {k:Nat} {s:St},(∀ j,j<k->u j=Ts j/\z j=nbs j)->yb r rs u z k s=yb r rs Ts nbs k s
 | 0,_,_=>rfl
 | k+1,s,h=>by simp only [yb];rw [zbQ (fun j D=>h j (by omega)),(h k (Nat.lt_succ_self k)).1,(h k (Nat.lt_succ_self k)).2]
def zaV (h bank:Nat) (rs:List zQ) (dp:Nat->Pg):zn:=⟨jA,0,h,bank,zq rs,(zq rs).length,dp⟩
def Zj (h bank:Nat) (rs:List zQ) (dp:Nat->Pg):St:=⟨zaV h bank rs dp,[],uT,[]⟩
def yn (r h bank:Nat) (rs:List zQ) (dp:Nat->Pg) (nb1 nb2 Ts:Nat->Nat) (nb3:Nat->Nat->Nat):St :=
 yb r rs Ts nb3 4 (qa nb2 6 (redoTo nb1 (vr (qL h 0 rs)) (qL h 0 rs) rs.length (Zj h bank rs dp)))
def St.a1 (s:St):St:={ s with sto:=s.sto.bb s.ts }
def yP (rs:List zQ) (n:Nat):Nat:=if (lsr rs n).o=false∨(lsr rs n).l=[] then 0 else ((lsr rs n).l.length+1)*395
theorem zdx (s:St) (nb fr h:Nat) (x:zQ):(s.ax nb fr h x).N=s.N/\(s.ax nb fr h x).ts=s.ts/\(s.ax nb fr h x).sto.Q=s.sto.Q/\(s.ax nb fr h x).sto.J=s.sto.J/\(s.ax nb fr h x).lk=s.lk:=by
 unfold St.ax;split
 ·refine ⟨rfl,rfl,?_,?_,rfl⟩
  ·show (s.sto.ax nb fr h x).Q=_;unfold zn.ax;split
   ·rw [(Kt _ _ _ _ _).1,(ZG _ _ _).1]
   ·rw [(ZG _ _ _).1]
  ·show (s.sto.ax nb fr h x).J=_;unfold zn.ax;split
   ·rw [(Kt _ _ _ _ _).2,(ZG _ _ _).2.1]
   ·rw [(ZG _ _ _).2.1]
 ·exact ⟨rfl,rfl,rfl,rfl,rfl⟩
theorem zaN (nbs:Nat->Nat) (fr:Nat) (es:List (Nat × zQ)) (s:St):∀ j,(redoTo nbs fr es j s).N=s.N/\(redoTo nbs fr es j s).ts=s.ts/\(redoTo nbs fr es j s).sto.Q=s.sto.Q/\(redoTo nbs fr es j s).sto.J=s.sto.J/\(redoTo nbs fr es j s).lk=s.lk
 | 0=>⟨rfl,rfl,rfl,rfl,rfl⟩
 | j+1=>by
  have u:=zaN nbs fr es s j;simp only [redoTo];split
  ·have h:=zdx (redoTo nbs fr es j s) (nbs j) fr (by assumption:Nat × zQ).1 (by assumption:Nat × zQ).2;exact ⟨h.1.trans u.1,h.2.1.trans u.2.1,h.2.2.1.trans u.2.2.1,h.2.2.2.1.trans u.2.2.2.1,h.2.2.2.2.trans u.2.2.2.2⟩
  ·exact u
theorem GH (nbs:Nat->Nat) (s:St):∀ k,(qa nbs k s).sto.Q=s.sto.Q/\(qa nbs k s).sto.J=s.sto.J/\(qa nbs k s).ts=s.ts/\(qa nbs k s).lk=s.lk
 | 0=>⟨rfl,rfl,rfl,rfl⟩
 | k+1=>by have h:=GH nbs s k;simp only [qa,zad];exact ⟨(ZG _ _ _).1.trans h.1,(ZG _ _ _).2.1.trans h.2.1,h.2.2.1,h.2.2.2⟩
theorem zmM {s:St} (h:qe s.N) (r nb txn:Nat):qe (s.az r nb txn).N/\(s.az r nb txn).N.length<=s.N.length+1/\(s.az r nb txn).sto.J=s.sto.J:=by
 unfold St.az;split
 ·split
  ·have u:=YQ h (yy (s.sto.E (by assumption:Chg).pg) (by assumption:Chg).sl) (by assumption:Chg).aa (by assumption:Chg).pg (by assumption:Chg).sl;exact ⟨u.1,u.2,(zjd _ _ _ _ _ _ _ _).2⟩
  ·exact ⟨h,by omega,rfl⟩
 ·exact ⟨h,by omega,rfl⟩
theorem zgl (r txn:Nat) (nbs:Nat->Nat):∀ (m j:Nat) {s:St},qe s.N->qe (St.ai r txn nbs j m s).N/\(St.ai r txn nbs j m s).N.length<=s.N.length+m/\(St.ai r txn nbs j m s).sto.J=s.sto.J
 | 0,_,s,h=>⟨h,by simp [St.ai],rfl⟩
 | m+1,j,s,h=>by have u:=zmM h r (nbs j) txn;have z:=zgl r txn nbs m (j+1) u.1;exact ⟨z.1,by have:=u.2.1;have:=z.2.1;simp only [St.ai];omega,z.2.2.trans u.2.2⟩
theorem zkZ {s:St} (h:qe s.N) (r txn:Nat) (nbs:Nat->Nat) (x:Tx):qe (s.be r txn nbs x).N/\(s.be r txn nbs x).N.length<=s.N.length+x.I.length/\(s.be r txn nbs x).sto.J=s.sto.J:=by
 have u:=zgl r txn nbs x.I.length 0 h;refine ⟨u.1,u.2.1,?_⟩;unfold St.be;simp only;split
 ·rfl
 ·exact u.2.2
theorem znA {rs:List zQ} (hok:∀ x,x∈rs->x.ok) (i:Nat):∀ c,c∈(lsr rs i).l->c.pg<6/\c.sl<5/\js c.aa:=by
 have key:∀ (n:Nat) (rs:List zQ),rs.length=n->(∀ x,x∈rs->x.ok)->∀ c,c∈(uh rs i).l->c.pg<6/\c.sl<5/\js c.aa:=by
  intro n;induction n with
  | zero =>intro rs u _ c h;have:rs=[]:=yd u;subst this;simp [uh] at h
  | succ n ih =>
   intro rs u hok c h;obtain ⟨E,x,rfl⟩:∃ E x,rs=E++[x]:=⟨rs.dropLast,rs.getLast (fun e=>by rw [e] at u;simp at u),(List.dropLast_concat_getLast _).symm⟩;have z:=ih E (by simpa using u) (fun y L=>hok y (by simp [L]));have D:=hok x (by simp);rw [JV] at h;split at h
   ·unfold JC.step at h;split at h
    ·rcases ja.1 h with h | h
     ·exact z c h
     ·simp only [List.mem_singleton] at h;subst h;exact ⟨D.E,D.slot,D.aa⟩
    ·split at h
     ·exact z c (List.dropLast_sublist _ |>.subset h)
     ·split at h
      ·simp at h
      ·exact z c h
   ·exact z c h
 intro c h;unfold lsr at h;split at h
 ·exact key _ rs rfl hok c h
 ·simp at h
theorem znd (l:List Ent):(yI l).length=l.length*9:=by
 induction l with
 | nil=>rfl
 | cons e l h=>show (yz e++yI l).length=_;rw [zl,h];simp [yz];omega
theorem zjh:∀ (l:List Ent) (k:Nat) (x:Ent) (j:Nat),l[k]?=some x->j<9->(yI l)[k*9+j]?=(yz x)[j]?
 | [],k,x,j,h,_=>by simp at h
 | e::l,0,x,j,h,hj=>by simp at h;subst h;show (yz e++yI l)[_]?=_;rw [vZ (by simp [yz];omega)];simp
 | e::l,k+1,x,j,h,hj=>by have u:=zjh l k x j (by simpa using h) hj;show (yz e++yI l)[_]?=_;rw [vg (by simp [yz];omega),<- u];congr 1;simp [yz];omega
theorem zjM {w:World} {B:Nat} {A:Option Addr} {n c:Nat} {l:List Ent} (h:w.ownsRow B 167 9 (.slice A n c) n (yI l)) {k:Nat} {x:Ent} (E:l[k]?=some x):∃ g,A=some ⟨g,0,none⟩/\g<w.heap.size/\n<=c/\w.rangeAt g (k*9) (yz x):=by
 have hl:=(zr.1 E).1;obtain ⟨h0,h⟩:=h;rw [znd] at h0;rcases h with ⟨_,hn⟩ | ⟨g,cap,cur,Y,_,z,R,_,h3,U⟩
 ·omega
 ·injection Y with L Z O;subst L O;refine ⟨g,rfl,zi z,R,fun j v D=>?_⟩;have X:j<9:=by have:=(zr.1 D).1;simpa [yz] using this
  rw [ze w g _ cur 167 (0,0) z];have u:=(zjh l k x j E X).trans D;rw [<- U,List.getElem?_take_of_lt (by omega)] at u;rw [<- Array.getElem?_toList];exact u
theorem zm.cc {w:World} {a:Va} {b:Vb} {cur:Nat->Nat->List UInt8} {s:St} (h:zm w a b cur s) {x t:Nat} (z:qP w x=t) (L:t ∉ [103,222,100001,136,208,150,3,200,204,194,5,81,118,86,120]):¬ qd a b s x:=fun u=>by
 obtain ⟨O,R,U,X,E,D⟩:=h.ah;simp only [zO,qZ,or_false,not_or] at L E D;rcases u with (rfl | rfl | u | u | ⟨i,u⟩ | u | u) | u
 ·rw [O] at z;omega
 ·rw [R] at z;omega
 ·rw [U x u] at z;omega
 ·rw [X x u] at z;omega
 ·have:=E i x u;omega
 ·have:=D x (.inl (.inl u));omega
 ·have:=D x (.inr u);omega
 ·have:=D x (.inl (.inr u));omega
theorem zfF {u:Nat}:∀ (rs:List zQ) (n:Nat) (e:Nat × zQ),e∈qL u n rs->(∃ m,m<=n+(zq rs).length/\e.1=jj u m)/\e.2∈rs
 | [],n,e,h=>by simp [qL] at h
 | r::rs,n,e,h=>by
  have L:(zq (r::rs)).length=(qG r).length+(zq rs).length:=by simp [zq]
  rcases zO.1 h with rfl | h
  ·exact ⟨⟨n,by omega,rfl⟩,by simp⟩
  ·obtain ⟨⟨m,E,z⟩,D⟩:=zfF rs _ e h;exact ⟨⟨m,by omega,z⟩,by simp [D]⟩
theorem zdO (h:Nat):∀ (rs:List zQ) (n:Nat),(qL h n rs).map (·.2)=rs
 | [],_=>rfl
 | r::rs,n=>by simp [qL,zdO h rs]
def uG (rs:List zQ) (n:Nat):Nat:=(if n<=1 then yP rs 1 else 0)+(if n<=2 then yP rs 2 else 0)+(if n<=3 then yP rs 3 else 0)
theorem zbj (rs:List zQ) {n:Nat} (h:1<=n) (u:n<=3):uG rs n=yP rs n+uG rs (n+1):=by
 obtain rfl | rfl | rfl:n=1∨n=2∨n=3:=by omega
 all_goals simp [uG]
 all_goals omega
theorem zgx (rs:List zQ):uG rs 0=uG rs 1:=by simp [uG]
theorem zpi {fr:Nat} {A:Nat->Option Addr} {D z:Nat->Nat} {h:Nat->Bool} {n:Nat} (u:n<4):(ZV fr A D z h).toArray[5+n]?=some (.bool (h n)):=by
 match n,u with
 | 0,_=>rfl
 | 1,_=>rfl
 | 2,_=>rfl
 | 3,_=>rfl
theorem zph {fr:Nat} {A:Nat->Option Addr} {u h:Nat->Nat} {D:Nat->Bool} {n:Nat} (z:n<4):(ZV fr A u h D).toArray[1+n]?=some (.slice (A n) (u n) (h n)):=by
 match n,z with
 | 0,_=>rfl
 | 1,_=>rfl
 | 2,_=>rfl
 | 3,_=>rfl
theorem zkO (a0 r u bank:Nat) (rs:List zQ) (dp:Nat->Pg) (F:Nat->Prop) (cur:Nat->Nat->List UInt8) (w:World) (hD:jk w a0 F cur) (hr:r<4) (i5:yW (cur r) u bank (zq rs)) (hok:∀ x,x∈rs->x.ok) (l6:bank<=1) (v9:0<u) (hg:u+1<4294967296)
  (hb:(zq rs).length+(yP rs 1+yP rs 2+yP rs 3)<=14336) (x0:0<rs.length) (hp:∀ n,n<6->Qu (cur r) r n (dp n)) (l8:∀ n,(dp n).ok) (h8:∀ i,(lsr rs i).l.length<=8) :
  zc 43 #[.pointer (some ⟨a0,0,none⟩),.int .i64 r] w fun e w'=>∃ (a:Va) (b:Vb) (cur':Nat->Nat->List UInt8) (nb1 nb2 Ts:Nat->Nat) (nb3:Nat->Nat->Nat),e=.returned (.tuple #[.pointer (some ⟨a.S,0,none⟩),.int .i64 0])/\a.D=a0/\a.r=r/\zm w' a b cur' (yn r u bank rs dp nb1 nb2 Ts nb3).a1/\qv w w' F (qd a b (yn r u bank rs dp nb1 nb2 Ts nb3).a1) cur cur' r/\qe (yn r u bank rs dp nb1 nb2 Ts nb3).N/\(yn r u bank rs dp nb1 nb2 Ts nb3).N.length<=62:=by
 have p9:=hid (zlL a0 F cur r u bank rs w hD i5 hok hr l6 v9 (by omega) (by omega) x0);have z1:=zgb rs;have hlen:(zq rs).length<=14336:=by omega
 obtain ⟨q6,q5,HP,o2,H8,HB⟩:=zi6 i5 hok hp l8 h8 hb;clear i5 hok hp l8 h8 hb hD;go_enter func43,ntmps43;go_upto_region 4 with ((with_reducible refine aV 78 p9.o ?_);rintro y3 w1 ⟨d7,v,F1,FL,es,rfl,hL,k3,h6,i3,m5,m7,m2⟩);have m0:es.length=rs.length:=by have:=congrArg List.length i3;rw [List.length_map,zaC] at this;exact this
 obtain ⟨A,cE,rfl⟩:=own_slice h6.ba;have q4:=hid (new_any w1);obtain ⟨a6,f1,e9,HL,o1,j7,q3,o8⟩:=zi8 h6 i3 m0 hL k3 m5 m7 m2;clear h6 i3 m0 hL k3 m5 m7 m2;go_upto_region 5 with (first|((with_reducible refine aV 79 q4.o ?_);rintro t8 w2 ⟨rfl,w9,h2,j2⟩;have s8:=hid j2;clear j2)|((with_reducible refine aV 80 (zhH a0 r d7 w2) ?_);rintro t9 w3 ⟨rfl,m9,h4⟩));obtain ⟨T,hT,l1⟩:=w9;have v7:T=[]:=by
  cases T with
  | nil=>rfl
  | cons p l=>simp [zp] at l1
 subst v7;obtain ⟨a,R⟩:∃ a:Va,a=⟨w3.heap.size,w1.heap.size+1,w1.heap.size,w1.heap.size+2,d7,w2.heap.size,a0,r⟩:=⟨_,rfl⟩;obtain ⟨w4,c5⟩:=ex (w3.alloc (.cells #[.pointer (some ⟨w1.heap.size+1,0,none⟩),.pointer none,.pointer none,.pointer none,.pointer none,.pointer (some ⟨d7,0,none⟩),.pointer (some ⟨w2.heap.size,0,none⟩),.slice none 0 0,.int .i64 r] 103));have h1:zd w1 w3:=B_call h2 h4;have c3:zd w1 w4:=by rw [c5];exact B_alloc h1 _
 have d5:qQ w4 w2.heap.size a0 d7 r FL F1 cur (zaV u bank rs dp):=by
  refine ⟨m9.below (by rw [c5];exact B_alloc (zf _ _) _),HL.o.below c3,zK.below o1.o c3,?_,HP.o,hr,l6,(by show u < _;omega),(by show (zq rs).length<=_;have:=HB.o;omega),za _,o2.o,?_⟩
  ·show yW (cur r) u bank ((zq rs).take (zq rs).length);rw [qi];exact q6.o
  ·intro f hf b n p hp;simp only [zaV,jA,zO,qZ,or_false,or_self] at hf;subst hf;cases hp
 have hA:=zm.dq (w:=w4) (a:=a) (FL:=FL) (F:=F1) (cur:=cur) (sto:=zaV u bank rs dp) (by rw [R,c5];exact zo w3 _ rfl) (by rw [R];exact d5) (by rw [R,c5];exact (hT.below h4).below (B_alloc (zf _ _) _));have x5:=h1.size;have m8:∀ x,zbV a ⟨FL,F1,fun _ _=>False,.slice none 0 0,[]⟩ (Zj u bank rs dp) x->w.heap.size<=x:=by
  have x4:=j7.o.size;have HZ:=s8.o;have j2:=h2.size;rintro x (rfl | rfl | z | z | ⟨i,z⟩ | z | z)
  ·rw [R];show _<=w3.heap.size;omega
  ·rw [R];show _<=w1.heap.size+1;omega
  ·rw [R] at z;rcases z with rfl | ⟨p,hp,_⟩
   ·exact x4
   ·cases hp
  ·cases z
  ·exact z.elim
  ·exact o8.o x z
  ·rcases z with rfl | ⟨f,hf,n,p,hp⟩
   ·rw [R];show _<=w2.heap.size;omega
   ·simp only [Zj,zaV,jA,zO,qZ,or_false,or_self] at hf;subst hf;cases hp
 have f9:a.S=w3.heap.size:=by rw [R]
 have h5:GV w4 w.heap.size (.slice A es.length cE) es:=⟨own_same a6.o.ba fun q D=>c3.block q (a6.o.ba.lt q D).2,fun e he=>own_same (a6.o.Y e he) fun q D=>c3.block q ((a6.o.Y e he).lt q D).2,a6.o.ok⟩;have g9:=zii A es.length cE w.heap.size es w4 rfl (by rw [e9.o];omega) h5;have i8:es.map (·.rc)=rs:=by have O:=congrArg (List.map (·.2)) f1.o;rw [List.map_map,zdO] at O;exact O
 rw [f1.o,i8] at g9;obtain ⟨n8,y1⟩:=zi2 g9 i8;clear i8;obtain ⟨HA,q7⟩:=zi2 hA m8;have p5:=hid (j7.o.call c3);have j4:=hid h5;have k2:a.D=a0/\a.r=r:=by rw [R];exact ⟨rfl,rfl⟩
 have a5:=hid k2;rw [<- c5,<- f9];have y0:=hid f9;clear l1 m9 h2 h4 R c5 h1 c3 d5 hA x5 m8 h5 g9 k2 hT f9;go_upto_region 6 with (first|((with_reducible refine aV 81 n8.o ?_);rintro v1 w5 ⟨X,pc,rfl,k7,l4⟩)|((with_reducible refine hV 10 ?_);refine nV (ZV _ _ _ _ _).toArray (by simp [ZV,Value.oneCell']) ?_));obtain ⟨w0,d6⟩:=ex (w5.alloc (.cells (ZV (vr (qL u 0 rs)) X (fun i=>(lsr rs i).l.length) pc (fun i=>(lsr rs i).o)).toArray 164));have e1:zd w4 w0:=by rw [d6];exact B_alloc l4 _
 have d1:w0.heap[w5.heap.size]?=some (.cells (ZV (vr (qL u 0 rs)) X (fun i=>(lsr rs i).l.length) pc (fun i=>(lsr rs i).o)).toArray 164 (0,0)):=by rw [d6];exact zo _ _ rfl
 have c8:=HA.o.below e1;obtain ⟨b0,d2⟩:∃ b0:Vb,b0=⟨FL,F1,fun _ _=>False,.slice none 0 0,[]⟩:=⟨_,rfl⟩;rw [<- d2] at c8;have k8:∀ i,1<=i->i<=3->w0.ownsRow w4.heap.size 150 3 (.slice (X i) (lsr rs i).l.length (pc i)) (lsr rs i).l.length (qD (lsr rs i).l)/\∀ q,(Value.slice (X i) (lsr rs i).l.length (pc i)).ownBlock=some q->¬ qd a b0 (Zj u bank rs dp) q:=fun i L h3=>by have O:=k7 i L h3;refine ⟨own_same O fun q D=>by rw [d6];exact qb _ _ _ (O.lt q D).2,fun q D z=>?_⟩;have h8:=HA.o.lt (by rw [d2] at z;exact z);have:=(O.lt q D).1;omega
 have g3:w0.ownsRow w.heap.size 167 9 (.slice A es.length cE) es.length (yI es):=own_same j4.o.ba fun q D=>e1.block q (j4.o.ba.lt q D).2;have k5:∀ q,(Value.slice A es.length cE).ownBlock=some q->¬ qd a b0 (Zj u bank rs dp) q:=fun q D=>c8.cc (own_tag g3 D) (by decide);have g7:=c8.e5 d1 (by decide);have v6:=zi d1;obtain ⟨PB,g5⟩:=ex w5.heap.size;rw [<- g5] at d1 g7 v6;rw [<- d6,<- g5];have p6:=hid (p5.o.call e1);obtain ⟨n5,j8,j9,f2,j5,o6⟩:=zi6 c8 d1 g7 k8 g3 k5;have q8:Hid (∀ x,zbV a b0 (Zj u bank rs dp) x->w.heap.size<=x):=by rw [d2];exact q7
 have l5:b0.F=F1:=by rw [d2]
 have o0:=hid l5;clear e1 c8 d1 g7 k8 g3 k5 d6 g5 d2 k7 l4 l5;obtain ⟨a1,hE⟩:=ex (qL u 0 rs);rw [<- hE];obtain ⟨fr,m3⟩:=ex (vr a1);obtain ⟨c7,hR⟩:∃ c7:Nat->World->Prop,c7=fun j wr=>∃ (nbs:Nat->Nat) (b':Vb) (cur':Nat->Nat->List UInt8),zm wr a b' cur' (redoTo nbs fr a1 j (Zj u bank rs dp))/\qv w0 wr (qd a b0 (Zj u bank rs dp)) (qd a b' (redoTo nbs fr a1 j (Zj u bank rs dp))) cur cur' r:=⟨_,rfl⟩;have k9:c7 0 w0:=by rw [hR];exact ⟨fun _=>0,b0,cur,n5.o,qv.refl _ _ _ _⟩
 obtain ⟨HR,r2,HE,j6⟩:=zi4 hR k9 hE m3;clear hR k9 hE m3;go_upto_region 7 with fail;go_loopw [41] (fun c2 wr=>∃ j:Nat,j<=es.length/\c2=.int .i64 j/\c7 j wr) (fun c2 _=>(es.length-jF c2).toNat)
 case atStart=>exact ⟨0,zT _,rfl,r2.o⟩
 case round =>
  obtain ⟨j,hj,rfl,n1⟩:=hrel;rw [HR.o] at n1;obtain ⟨nbs,bj,k0,d0,a8⟩:=n1;by_cases d4:j<es.length
  ·obtain ⟨x,z⟩:∃ x,es[j]?=some x:=⟨_,zX d4⟩;have i4:=zC z;obtain ⟨dA,dc,l9⟩:=own_slice (a6.o.Y x i4);have l7:yz x=Ju x.pl x.rc dA x.rc.Y.length dc:=by unfold yz Ju;rw [l9]
   have k6:wr.ownsRow w.heap.size 167 9 (.slice A es.length cE) es.length (yI es):=own_same j5.o fun q D=>a8.ac.block q (j5.o.lt q D).2 (o6.o q D);obtain ⟨g,rfl,z0,y9,i9⟩:=zjM k6 z;rw [l7] at i9;have g4:a1[j]?=some (x.pl,x.rc):=by rw [HE.o,<- f1.o,List.getElem?_map,z];rfl
   obtain ⟨⟨pm,x2,i7⟩,x3⟩:=zfF rs 0 _ (by rw [<- HE.o];exact zC g4);have i6:x.pl≠0/\x.pl<18446744073709551616:=by simp only at i7;rw [i7];unfold jj;omega
   have g6:=a8.U j9.o j8.o;obtain ⟨w7,e7⟩:=ex (wr.alloc (.cells (Ju x.pl x.rc dA x.rc.Y.length dc).toArray 167));have e2:zd wr w7:=by rw [e7];exact B_alloc (zf _ _) _
   have l2:w7.heap[wr.heap.size]?=some (.cells (Ju x.pl x.rc dA x.rc.Y.length dc).toArray 167 (0,0)):=by rw [e7];exact zo _ _ rfl
   have n7:=hid (zmS a bj k0 _ fr X (fun i=>(lsr rs i).l.length) pc (fun i=>(lsr rs i).o) x.pl x.rc dA x.rc.Y.length dc w7 (d0.below e2) (a6.o.ok x i4) i6.1 i6.2);have d5:∀ e8,redoTo e8 fr a1 (j+1) (Zj u bank rs dp)=(redoTo e8 fr a1 j (Zj u bank rs dp)).ax (e8 j) fr x.pl x.rc:=fun e8=>by simp only [redoTo,g4]
   have x6:(0:Int)<=(j:Int):=by omega
   have x7:(j:Int)<(es.length:Int):=by omega
   have x9:IntKind.i64.wrap ((j:Int)+1)=(j:Int)+1:=by have:=e9.o;rw [zu];omega
   obtain ⟨r4,s6,s7⟩:=zi3 i9 e7 l2;have q9:=hid (zg g6 e2 (zi g6));have s0:=hid d5;have o4:=hid (a8.call e2);have r1:=hid (show w7.heap[PB]?=some (.cells (ZV fr X (fun i=>(lsr rs i).l.length) pc (fun i=>(lsr rs i).o)).toArray 164 (0,0)) by rw [j6.o,HE.o];exact q9.o);clear z i4 l9 l7 k6 i9 g4 i7 x3 i6 g6 e7 e2 l2 d5 d0 a8 x2;go_upto_region 9 with (first|((with_reducible refine gV 44 ?_);refine mV (Ju x.pl x.rc dA x.rc.Y.length dc) r4.o ?_)|((with_reducible refine hV 12 ?_);refine nV (Ju x.pl x.rc dA x.rc.Y.length dc).toArray (by simp [Ju,Value.oneCell']) ?_));rw [<- s6.o];go_wp2_with (first|((with_reducible refine gV 46 ?_);refine rV r1.o ?_)|((with_reducible refine gV 47 ?_);refine rV s7.o ?_)|((with_reducible refine aV 82 n7.o ?_);rintro y5 x8 ⟨rfl,nb,b8,t7,k1,k4⟩));have a4:c7 (j+1) x8:=by rw [HR.o];refine ⟨zZ nbs j nb,b8,t7,?_⟩;rw [s0.o,zk,zcf (nbs:=nbs) (fun i hi=>zy _ _ (by omega))];exact ⟨k1,o4.o.trans (by rw [<- a5.o.2];exact k4)⟩
   have c6:=hid a4;clear k1 k4 a4;go_wp2_with fail;go_roundw
   case rel=>exact ⟨j+1,by omega,by simp,c6.o⟩
   case measure=>simp [jF];omega
  ·have w6:j=es.length:=by omega
   subst w6;obtain ⟨s1,e4⟩:=ex (redoTo nbs fr a1 es.length (Zj u bank rs dp));rw [<- e4] at d0 a8;obtain ⟨t1,t2,t3,t4,t5⟩:=zaN nbs fr a1 (Zj u bank rs dp) es.length;rw [<- e4] at t1 t2 t3 t4 t5;have p7:=hid (zlP a bj k0 s1 wr d0 (by rw [t1];exact List.Pairwise.nil) (by rw [t1];simp [Zj]));obtain ⟨o5,r5,s2,y2,s4,s5⟩:=zi6 a8 e4 t1 t2 t3 t4;clear d0 a8 e4 t1 t2 t3 t4 t5 hj d4;go_upto_region 17 with ((with_reducible refine aV 83 p7.o ?_);rintro t8 w2 ⟨rfl,nb2,b2,s9,j1,e3,f6,g0⟩);obtain ⟨E,e5⟩:=ex (qa nb2 6 s1);rw [<- e5] at f6 g0 j1 e3;obtain ⟨u1,u2,u3,u4⟩:=GH nb2 s1 6;rw [<- e5] at u1 u2 u3 u4;obtain ⟨R2,g8⟩:∃ R2:Nat->World->Prop,R2=fun n wr=>∃ (Ts:Nat->Nat) (nb3:Nat->Nat->Nat) (b':Vb) (cur':Nat->Nat->List UInt8),zm wr a b' cur' (yb r rs Ts nb3 n E)/\qv w0 wr (qd a b0 (Zj u bank rs dp)) (qd a b' (yb r rs Ts nb3 n E)) cur cur' r/\qe (yb r rs Ts nb3 n E).N/\(yb r rs Ts nb3 n E).N.length<=30+8*n/\(yb r rs Ts nb3 n E).sto.Q.length+uG rs n<=14336/\(yb r rs Ts nb3 n E).sto.J=u:=⟨_,rfl⟩;have l0:R2 0 w2:=by
    rw [g8];refine ⟨fun _=>0,fun _ _=>0,b2,s9,f6,o5.o.trans (by rw [<- a5.o.2];exact g0),j1,?_,?_,?_⟩
    ·rw [s2.o] at e3;show E.N.length<=30+8*0;simpa [Zj] using e3
    ·show E.sto.Q.length+_<=_;rw [u1,s4.o];show (zq rs).length+_<=_;have:=HB.o;simp [uG];omega
    ·show E.sto.J=u;rw [u2,s5.o];rfl
   obtain ⟨f3,r3,r6⟩:=zi3 g8 l0 e5;clear f6 g0 j1 e3 u1 u2 u3 u4 g8 l0 e5;go_loopw [58] (fun c2 wr=>∃ n:Nat,n<=4/\c2=.int .i64 n/\R2 n wr) (fun c2 _=>(4-jF c2).toNat)
   case atStart=>exact ⟨0,zT _,rfl,r3.o⟩
   case round =>
    obtain ⟨n,hn,rfl,n2⟩:=hrel;rw [f3.o] at n2;obtain ⟨Ts,nb3,bn,f5,a3,Y,c1,c4,d3,a9⟩:=n2;by_cases d4:n<4
    ·have x7:(n:Int)<4:=by omega
     have x6:(0:Int)<=(n:Int):=by omega
     have x9:IntKind.i64.wrap ((n:Int)+1)=(n:Int)+1:=by rw [zu];omega
     have e0:=Y.U j9.o j8.o;have kO:=xV _ (5+n) e0 (zpi d4);have kL:=xV _ (1+n) e0 (zph d4);obtain ⟨o,ho⟩:=ex ((lsr rs n).o);rw [<- ho] at kO;obtain ⟨lv,i2⟩:=ex (Value.slice (X n) (lsr rs n).l.length (pc n));rw [<- i2] at kL;have q2:=hid i2;clear i2;cases o with
     | false =>
      have Z:∀ f4 j3,yb r rs f4 j3 (n+1) E=yb r rs f4 j3 n E:=fun f4 j3=>by simp only [yb,lose,<- ho,Bool.false_eq_true,if_false]
      have w8:uG rs (n+1)<=uG rs n:=by
       by_cases L:1<=n
       ·rw [zbj rs L (by omega)];omega
       ·have:n=0:=by omega
        subst this;rw [zgx];exact za _
      have a4:R2 (n+1) wr:=by rw [f3.o];refine ⟨Ts,nb3,bn,f5,?_⟩;rw [Z];exact ⟨a3,Y,c1,by omega,by omega,a9⟩
      have c6:=hid a4;clear Z w8 a4 ho a3 Y c1 c4 d3 a9 e0;go_wp2_with fail;go_roundw
      case rel=>exact ⟨n+1,by omega,by simp,c6.o⟩
      case measure=>simp [jF];omega
     | true =>
      have L:1<=n:=by
       rcases Nat.eq_zero_or_pos n with h | h
       ·subst h;simp [lsr] at ho
       ·exact h
      have h3:n<=3:=by omega
      have n0:zL wr.drew wr.drew.heap.size 3 (X n) (lsr rs n).l.length (qD (lsr rs n).l) :=
       zL.aj (own_same (f2.o n L h3).1 fun q D=>Y.ac.block q ((f2.o n L h3).1.lt q D).2 ((f2.o n L h3).2 q D))
      have Z:=zoW a3.drew L h3 (lsr rs n).l (X n) (pc n) _ n0 (H8.o n) (znA q5.o n);rw [<- q2.o] at Z;obtain ⟨q0,HO,n9,f0,r9,p3,p8,o9⟩:=zi8 Z ho a3 Y c1 c4 d3 a9;have hS:=kL;clear n0 Z ho a3 Y c1 c4 d3 a9 e0 kL;go_upto_region 20 with fail;refine sV [8] 9 (fun w'=>zH w' PB (1+n) lv) hS fun v5=>?_;refine pV 0 ?_;refine pV 1 ?_;refine pV 2 ?_;refine pV 3 ?_;refine pV 4 ?_;refine pV 5 ?_;refine pV 6 ?_;refine cV 7 (fun _ h=>h) ?_;refine lC 8 q0.o ?_;rintro t9 w3 ⟨rfl,b3,T3,f7,d8⟩;refine eL ?_;refine dV ?_;obtain ⟨U,c0⟩:=ex (yb r rs Ts nb3 n E);rw [<- c0] at f7 d8;have e6:=r9.o;have h9:=p3.o;have i1:=p8.o;have h7:=o9.o;rw [<- c0] at e6 h9 i1 h7;have v2:U.ts.length=4:=by rw [c0];exact n9.o.aq.len
      have m6:yP rs n=if (lsr rs n).l=[] then 0 else ((lsr rs n).l.length+1)*395:=by unfold yP;rw [<- HO.o];simp
      have l3:=zfx a b3 f5 { U with ts:=U.ts.set n (some (T3,⟨(lsr rs n).l,[],(lsr rs n).l.length⟩)) } n T3 ⟨(lsr rs n).l,[],(lsr rs n).l.length⟩ w3 f7 L h3 (qw (by omega)) e6 (show U.N.length<=800 by omega) (uG rs (n+1)) (by
       rw [zbj rs L h3,m6] at i1;show U.sto.Q.length+(if (lsr rs n).l=[] then 0 else ((lsr rs n).l.length+1)*395)+uG rs (n+1)<=14336;omega)
      have m4:=fun nbs=>zkZ (s:={ U with ts:=U.ts.set n (some (T3,⟨(lsr rs n).l,[],(lsr rs n).l.length⟩)) }) e6 r n nbs ⟨(lsr rs n).l,[],(lsr rs n).l.length⟩;have Z:∀ nbs,yb r rs (zZ Ts n T3) (zZ nb3 n nbs) (n+1) E=({ U with ts:=U.ts.set n (some (T3,⟨(lsr rs n).l,[],(lsr rs n).l.length⟩)) }:St).be r n nbs ⟨(lsr rs n).l,[],(lsr rs n).l.length⟩:=fun nbs=>by simp only [yb];rw [zk,zk,zbQ (Ts:=Ts) (nbs:=nb3) (fun i hi=>⟨zy _ _ (by omega),zy _ _ (by omega)⟩),<- c0];unfold lose;rw [<- HO.o];simp
      obtain ⟨n6,q1,p4⟩:=zi3 l3 Z m4;rw [a5.o.2] at d8;have g2:=d8.ay;rw [c0] at g2;have o3:=hid (f0.o.trans g2);clear g2;obtain ⟨r7,p2,p0⟩:=zi3 c0 h9 h7;clear f7 d8 l3 Z m4 c0 e6 h9 i1 h7 v2 m6 hS v5;go_upto_region 24 with ((with_reducible refine aV 85 n6.o ?_);rintro y4 w4 ⟨rfl,n4,b4,t0,i0,f8,d9⟩);have a4:R2 (n+1) w4:=by rw [f3.o];refine ⟨zZ Ts n T3,zZ nb3 n n4,b4,t0,?_⟩;rw [q1.o];rw [a5.o.2] at f8 d9 i0;have O:=p4.o n4;have y6:=H8.o n;have y7:=p2.o;refine ⟨f8,o3.o.trans (by rw [r7.o] at d9 ⊢;exact d9),O.1,?_,i0,O.2.2.trans p0.o⟩;have y8:_<=U.N.length+(lsr rs n).l.length:=O.2.1;omega
      have c6:=hid a4;clear i0 f8 d9 a4;go_wp2_with fail;go_roundw
      case rel=>exact ⟨n+1,by omega,by simp,c6.o⟩
      case measure=>simp [jF];omega
    ·have x1:n=4:=by omega
     subst x1;obtain ⟨s3,j0⟩:=ex (yb r rs Ts nb3 4 E);rw [<- j0] at a3 Y c1 c4 d3 a9;have r0:=hid (zdu a bn f5 s3 wr a3 (by rw [a9];exact hg));have f0:=hid Y;have m1:yn r u bank rs dp nbs nb2 Ts nb3=s3:=by unfold yn;rw [j0,r6.o,r5.o,j6.o,HE.o,e9.o]
     obtain ⟨o7,r8,p1⟩:=zi3 m1 c1 c4;clear j0 a3 Y c1 c4 d3 a9 m1;go_wp2_with ((with_reducible refine aV 37 r0.o ?_);rintro v1 w5 ⟨rfl,b5,t6,v3,v4⟩);go_ret2;have a7:=f0.o.trans (by rw [<- a5.o.2];exact v4);have b9:=p6.o;refine ⟨a,b5,t6,nbs,nb2,Ts,nb3,rfl,a5.o.1,a5.o.2,?_⟩;rw [o7.o];have n3:∀ x,qd a b0 (Zj u bank rs dp) x->F x∨w.heap.size<=x:=fun x z=>by
      rcases z with z | z
      ·exact .inr (q8.o x z)
      ·rw [o0.o] at z;exact q3.o x z
     refine ⟨v3,⟨a7.out,⟨?_,?_,?_,zz b9.size a7.ac.size,fun k hk hn=>?_⟩,fun x z=>?_⟩,r8.o,by have:=p1.o;omega⟩
     ·exact a7.ac.os.trans b9.os
     ·exact a7.ac.tape.trans b9.tape
     ·exact a7.ac.output.trans b9.output
     ·refine (a7.ac.block k (qg hk b9.size) (fun z=>?_)).trans (b9.block k hk hn);rcases n3 k z with h | h
      ·exact hn h
      ·omega
     ·rcases a7.new x z with h | h
      ·exact n3 x h
      ·exact .inr (zz b9.size h)
end Go.Proofs.YtechnoogjhohfaaGreat
namespace Go.Proofs.YtechnoogjhohfaaGreat.Dk
open Go.RowKit Go.Maps Go.Proofs.YtechnoogjhohfaaGreat
theorem iok_of {x:Int} (h:-9223372036854775808<=x/\x<=9223372036854775807):iok x:=WalkArith.wf_i64 h
theorem zbS (a:Nat) (h:a<9223372036854775808):(BitVec.ofInt 64 (a:Int)).toNat=a:=by rw [BitVec.ofInt_natCast,BitVec.toNat_ofNat];exact Nat.mod_eq_of_lt (by omega)
theorem i64_or_nat (a b:Nat) (h:a<9223372036854775808) (hb:b<9223372036854775808):bits .or .i64 (a:Int) (b:Int)=((a ||| b:Nat):Int):=by have u:a ||| b<2 ^ 63:=Nat.or_lt_two_pow (by omega) (by omega);show IntKind.i64.wrap ((BitVec.ofInt 64 (a:Int) ||| BitVec.ofInt 64 (b:Int)).toNat:Int)=_;rw [BitVec.toNat_or,zbS a h,zbS b hb,zu];omega
theorem zpf {u nx:Int} (O:0<=u/\u<8796093022208) (R:0<=nx/\nx<1048575):bits .or .i64 (u*1048576) (nx+1)=u*1048576+(nx+1):=by
 obtain ⟨e,rfl⟩:=Int.eq_ofNat_of_zero_le O.1;obtain ⟨n,rfl⟩:=Int.eq_ofNat_of_zero_le R.1;have h:=i64_or_nat (e*1048576) (n+1) (by omega) (by omega);have L:e*1048576 ||| (n+1)=e*1048576+(n+1):=by
  have:=Nat.two_pow_add_eq_or_of_lt (i:=20) (b:=n+1) (by omega) e;have E:e*1048576=2 ^ 20*e:=by omega
  rw [E];exact this.symm
 rw [L] at h;have z:((e*1048576:Nat):Int)=(e:Int)*1048576:=by omega
 have D:((n+1:Nat):Int)=(n:Int)+1:=by omega
 rw [z,D,Int.natCast_add,z,D] at h;exact h
structure DeskAt (w:World) (b m:Nat) (ep nx:Int) (l:List (Int × Int)):Prop where
 U:w.heap[b]?=some (.cells #[.int .i64 ep,.int .i64 nx,.map (some m)] 139 (0,0))
 map:qz w uo iok uo m l
theorem DeskAt.ne {w:World} {b m:Nat} {u nx:Int} {l:List (Int × Int)} (h:DeskAt w b m u nx l):m≠b:=by rintro rfl;obtain ⟨es,z,hb,_⟩:=h.map;rw [h.U] at hb;cases hb
theorem has_any (b m:Nat) (u nx:Int) (l:List (Int × Int)) (x:Int) (z:iok x) (w:World) (h:DeskAt w b m u nx l) :
  zc 38 #[.pointer (some ⟨b,0,none⟩),.int .i64 x] w fun e w'=>e=.returned (.bool (qT l x))/\w=w':=by
 have D:=xV (.map (some m)) 2 h.U;have hm:=h.map;clear h;go_enter Tryz.func38,Tryz.ntmps38;go_wp2_with (first|(at_lookup;refine zbs _ rfl _ _ 137 3 rfl Qo Tryz.underlying137 0 (GB _) rfl hm x rfl z ?_));go_ret;exact ⟨rfl,rfl⟩
theorem txn_any (b m:Nat) (u nx:Int) (l:List (Int × Int)) (x:Int) (z:iok x) (w:World) (h:DeskAt w b m u nx l) :
  zc 71 #[.pointer (some ⟨b,0,none⟩),.int .i64 x] w fun e w'=>e=.returned (.int .i64 ((zU l x).getD 0))/\w=w':=by
 have D:=xV (.map (some m)) 2 h.U;have hm:=h.map;clear h;go_enter Tryz.func71,Tryz.ntmps71;go_wp2_with (first|(at_lookup;refine JB _ rfl _ _ 137 3 rfl Qo Tryz.underlying137 0 (GB _) rfl hm x rfl z ?_));go_ret;exact ⟨rfl,rfl⟩
theorem set_hit (b m:Nat) (u nx:Int) (l:List (Int × Int)) (x y:Int) (D:iok x) (w:World) (h:DeskAt w b m u nx l) (R:qT l x=true) :
  zc 74 #[.pointer (some ⟨b,0,none⟩),.int .i64 x,.int .i64 y] w fun e w'=>e=.returned (.tuple #[])/\DeskAt w' b m u nx (aput l x y)/\zE (·=m) w w':=by
 have X:=xV (.map (some m)) 2 h.U;have U:=h.ne;have hm:=h.map;have hb:=h.U;have O:=hid h;clear h;have z:=has_any b m u nx l x D w O.o;rw [R] at z;go_enter Tryz.func74,Tryz.ntmps74;go_wp2_with (first|(go_at_call 38;refine z.mono ?_;rintro e w' ⟨rfl,rfl⟩)|(at_mapUpdate;refine Ze _ rfl _ _ _ 137 3 rfl Qo Tryz.underlying137 rfl hm x rfl D y rfl ?_;intro w1 L E));go_end0;refine ⟨rfl,⟨?_,L⟩,(zE.refl _ _).bw E (.inr rfl)⟩;have:=((zE.refl (·=m) w).bw E (.inr rfl)).block b (qu.1 hb).1 (fun e=>U e.symm);exact this.trans hb
theorem shut_busy (b m:Nat) (z nx:Int) (l:List (Int × Int)) (x:Int) (L:iok x) (w:World) (h:DeskAt w b m z nx l) (E:qT l x=true) (h0:(zU l x).getD 0≠0) :
  zc 72 #[.pointer (some ⟨b,0,none⟩),.int .i64 x] w fun e w'=>e=.returned (.bool false)/\w=w':=by
 have R:=xV (.map (some m)) 2 h.U;have D:=has_any b m z nx l x L w h;rw [E] at D;have hm:=h.map;obtain ⟨v,u⟩:=ex ((zU l x).getD 0);rw [<- u] at h0;have hb:(v == 0)=false:=by simpa using h0
 have U:(v != 0)=true:=by simpa using h0
 have O:=hid u;clear h u h0 E;go_enter Tryz.func72,Tryz.ntmps72;go_wp2_with (first|(go_at_call 38;refine D.mono ?_;rintro e w' ⟨rfl,rfl⟩)|(at_lookup;refine JB _ rfl _ _ 137 3 rfl Qo Tryz.underlying137 0 (GB _) rfl hm x rfl L ?_;rw [<- O.o];simp only [uo]));go_ret;exact ⟨rfl,rfl⟩
theorem shut_free (b m:Nat) (u nx:Int) (l:List (Int × Int)) (x:Int) (z:iok x) (w:World) (h:DeskAt w b m u nx l) (E:qT l x=true) (h0:(zU l x).getD 0=0) :
  zc 72 #[.pointer (some ⟨b,0,none⟩),.int .i64 x] w fun e w'=>e=.returned (.bool true)/\DeskAt w' b m u nx (adel l x)/\zE (·=m) w w':=by
 have X:=xV (.map (some m)) 2 h.U;have D:=has_any b m u nx l x z w h;rw [E] at D;have hm:=h.map;have hb:=h.U;have U:=h.ne;have O:=hid h0;clear h h0 E;go_enter Tryz.func72,Tryz.ntmps72;go_wp2_with (first|(go_at_call 38;refine D.mono ?_;rintro e w' ⟨rfl,rfl⟩)|(at_lookup;refine JB _ rfl _ _ 137 3 rfl Qo Tryz.underlying137 0 (GB _) rfl hm x rfl z ?_;rw [O.o];simp only [uo])|(at_delete;refine Zd _ rfl _ _ 137 3 rfl Qo Tryz.underlying137 rfl hm x rfl z ?_;intro w1 R L));go_ret;refine ⟨rfl,⟨?_,R⟩,(zE.refl _ _).bw L (.inr rfl)⟩;have:=((zE.refl (·=m) w).bw L (.inr rfl)).block b (qu.1 hb).1 (fun e=>U e.symm);exact this.trans hb
theorem new_any (h:Int) (w:World) :
  zc 44 #[.int .i64 h] w fun e w'=>e=.returned (.pointer (some ⟨w.heap.size+1,0,none⟩))/\DeskAt w' (w.heap.size+1) w.heap.size h 0 []/\zd w w'/\w'.heap.size=w.heap.size+2:=by
 have u:=@run_makeMap Tryz.prog;go_enter Tryz.func44,Tryz.ntmps44;go_wp2;go_ret;exact ⟨rfl,⟨by simpa using heap_alloc_new (w.alloc (.map #[] 0)) _,(qz.g1 w _ _ _).alloc _⟩,((zf _ _).alloc (za _) _).alloc (by simp) _,by simp⟩
theorem open_full (b m:Nat) (D nx:Int) (l:List (Int × Int)) (w:World) (h:DeskAt w b m D nx l) (u:l.length=6) :
  zc 34 #[.pointer (some ⟨b,0,none⟩)] w fun e w'=>e=.returned (.int .i64 0)/\w=w':=by
 have E:=xV (.map (some m)) 2 h.U;have hm:=h.map;have z:=hid u;clear h u;go_enter Tryz.func34,Tryz.ntmps34;go_wp2_with (first|(at_len;refine Kk _ rfl _ 137 3 rfl Tryz.underlying137 rfl hm ?_;rw [z.o]));go_ret;exact ⟨rfl,rfl⟩
theorem open_more (b m:Nat) (u nx:Int) (l:List (Int × Int)) (w:World) (h:DeskAt w b m u nx l) (O:l.length<6) (U:0<=u/\u<8796093022208) (Y:0<=nx/\nx<1048575) :
  zc 34 #[.pointer (some ⟨b,0,none⟩)] w fun e w'=>e=.returned (.int .i64 (u*1048576+(nx+1)))/\DeskAt w' b m u (nx+1) (aput l (u*1048576+(nx+1)) 0)/\zE (fun i=>i=b∨i=m) w w':=by
 have Z:=xV (.int .i64 u) 0 h.U;have c1:=xV (.int .i64 nx) 1 h.U;have c2:=xV (.map (some m)) 2 h.U;have f1:w.frozen? ⟨b,1,none⟩=false:=by simp [World.frozen?,h.U]
 have hm:=h.map;have hl:((l.length:Int) == 6)=false:=by simp;omega
 have z:=h.ne;have hb:=h.U;have X:∀ n,qz ((w.setCell ⟨b,1,none⟩ (.int .i64 (nx+1))).drewN n) uo iok uo m l:=fun n=>hm.setCell (p:=⟨b,1,none⟩) z _;have a0:bits .or .i64 (u*1048576) (nx+1)=u*1048576+(nx+1):=zpf U Y;clear h O;go_enter Tryz.func34,Tryz.ntmps34;go_wp2_with (first|(at_len;refine Kk _ rfl _ 137 3 rfl Tryz.underlying137 rfl hm ?_));go_quiet (fail);go_wp2_with (first|(at_mapUpdate;refine Ze _ rfl _ _ _ 137 3 rfl Qo Tryz.underlying137 rfl (X _) (u*1048576+(nx+1)) rfl (iok_of (by omega)) 0 rfl ?_;intro w1 E D));go_ret;have R:=(((zE.refl (fun i=>i=b∨i=m) w).setCell (p:=⟨b,1,none⟩) (.inr (.inl rfl)) (.int .i64 (nx+1))).drewN nq);refine ⟨rfl,⟨?_,E⟩,R.bw D (.inr (.inr rfl))⟩;have L:=((zE.refl (·=m) _).bw D (.inr rfl)).block b (by simpa [World.setCell] using (qu.1 hb).1) (fun e=>z e.symm);rw [L];simp [World.setCell,Array.getElem?_modify,hb]
theorem DeskAt.below {B:Nat} {w w':World} {b m:Nat} {u nx:Int} {l:List (Int × Int)} (h:DeskAt w b m u nx l) (k:Below B w w') (hb:b<B) (hm:m<B):DeskAt w' b m u nx l :=
 ⟨(k.block b hb).trans h.U,h.map.below k hm⟩
theorem and_mask (a:Int) (k:Nat) (z:k<63):0<=bits .and .i64 a ((2 ^ k-1:Nat):Int)/\bits .and .i64 a ((2 ^ k-1:Nat):Int)<2 ^ k:=by
 have D:2 ^ k<=2 ^ 62:=Nat.pow_le_pow_right (by omega) (by omega);have u:(BitVec.ofInt 64 a &&& BitVec.ofInt 64 ((2 ^ k-1:Nat):Int)).toNat<2 ^ k:=by rw [BitVec.toNat_and,zbS _ (by omega),Nat.and_two_pow_sub_one_eq_mod];exact Nat.mod_lt _ (Nat.two_pow_pos k)
 have e:bits .and .i64 a ((2 ^ k-1:Nat):Int)=IntKind.i64.wrap ((BitVec.ofInt 64 a &&& BitVec.ofInt 64 ((2 ^ k-1:Nat):Int)).toNat:Int):=rfl;rw [e,zu];generalize (BitVec.ofInt 64 a &&& BitVec.ofInt 64 ((2 ^ k-1:Nat):Int)).toNat=q at u;have h:((2 ^ k:Nat):Int)=(2:Int) ^ k:=by simp
 rw [<- h];omega
end Go.Proofs.YtechnoogjhohfaaGreat.Dk
