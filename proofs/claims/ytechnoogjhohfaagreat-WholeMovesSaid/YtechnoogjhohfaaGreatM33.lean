import Derived.Test.YtechnoogjhohfaaGreatM32
import Derived.Test.YtechnoogjhohfaaGreatM9
import Derived.Test.YtechnoogjhohfaaGreatM8
import Derived.Deep.CutBlock
set_option maxRecDepth 100000
set_option maxHeartbeats 6400000
set_option linter.unusedVariables false
set_option linter.unusedSimpArgs false
namespace Go.Proofs.YtechnoogjhohfaaGreat
open Go.RowKit Go.Lib
open YtechnoogjhohfaaGreatW Go.Proofs.Tryz Go.Proofs.YtechnoogjhohfaaGreat.Tryz
section
variable {bz:Nat->Prop}
theorem Zg {O w4:World} {H D r:Nat} {F:Nat->Prop} {cur u:Nat->Nat->List UInt8} {ts:Nat->Tn} {boots:Nat} {l:Tl} {b4:Vb} {s':St} (z:zN bz O H D F cur ts boots) (L:r<4) (E:(ts r).ac=some l) (X:zm w4 l.a b4 u s') (R:qv O w4 (qd l.a l.b l.s) (qd l.a b4 s') cur u l.a.r) :
  zw bz O w4/\zN bz w4 H D b4.F u (vz ts b4.F r { ts r with ac:=some { l with b:=b4,s:=s' } }) boots:=by
 obtain ⟨U,_⟩:=z.ac r l L E;exact ⟨zw.store (qs.he z L E) U.sto R,z.store L E X (by have h:=R;rw [U.hr] at h;exact ⟨h.out,⟨h.ad.os,h.ad.tape,h.ad.output,h.ad.size,h.ad.block⟩,h.new⟩)⟩
def JT (bz:Nat->Prop) (P:An->World->Prop) (w:World) (g:Nat) (wc:World):Prop:=∃ an:An,wc.heap[g]?=some (.cells (zQ an).toArray 31 (0,0))/\wc.heap[w.heap.size+1]?=some (.cells qI 31 (0,0))/\zw bz w wc/\an.Z≠10/\P an wc
theorem JT.one {P:An->World->Prop} {w w4:World} {g:Nat} {h:Int} (z:w4.heap[g]?=some (.cells qI 31 (0,0))) (u:w4.heap[w.heap.size+1]?=some (.cells qI 31 (0,0))) (E:zw bz w w4) (O:w.heap.size+2<=g) (L:h≠10) (D:P (qo h) (w4.setCell ⟨g,0,none⟩ (.int .i64 h))):JT bz P w g (w4.setCell ⟨g,0,none⟩ (.int .i64 h)) :=
 ⟨qo h,by rw [zB _ _ 0 _ _ _ z];rfl,(zu _ _ _ _ (by simp only;omega)).trans u,E.setCell (by omega) _,L,D⟩
theorem zgu {t:Int} {k v:ByteArray} (h:yZ t k v=true):∃ rw:Rw,rw.ok/\t=rw.t/\k=zb rw.k/\v=zb rw.v:=by
 unfold yZ at h;simp only [Bool.and_eq_true,decide_eq_true_eq] at h;refine ⟨⟨t.toNat,k.data.toList,v.data.toList⟩,⟨?_,?_,?_⟩,?_,rfl,rfl⟩
 ·show t.toNat<4;omega
 ·show k.data.toList.length<=15;rw [Array.length_toList];have:k.data.size=k.size:=rfl;omega
 ·show v.data.toList.length<=21;rw [Array.length_toList];have:v.data.size=v.size:=rfl;omega
 ·show t=(t.toNat:Int);omega
theorem zpZ {x:Tx} (h:x.ok):x.bs.2.ok:=by
 unfold Tx.bs;split
 ·exact h
 ·rename_i u;exact ⟨h.n8,h.len,by have:=h.s4;simp only [zl,List.length_singleton];omega,h.al⟩
theorem zgF {P:An->World->Prop} {w h:World} {H D r g:Nat} {F:Nat->Prop} {cur:Nat->Nat->List UInt8} {ts:Nat->Tn} {boots:Nat} {l:Tl} {q:Rq} {C:Array Value} (hP:∀ a W O,P a W->js W O->P a O) (u:zN bz h H D F cur ts boots) (E:r<4) (z:(ts r).ac=some l) (Z:h.heap[g]?=some (.cells (zQ (qo 0)).toArray 31 (0,0))) (Y:h.heap[w.heap.size+1]?=some (.cells qI 31 (0,0))) (h6:h.heap[w.heap.size]?=some (.cells C 37 (0,0))) (hk:zw bz w h) (hg:w.heap.size+2<=g) (a4:iok q.hd) (a3:qS l.hs q.hd=true)
  (hend:∀ W,zN bz W H D l.b.F cur (vz ts l.b.F r { ts r with ac:=some { l with hs:=aput l.hs q.hd 0 } }) boots->P (qo 0) W) :
  zc 74 #[.pointer (some ⟨l.kb,0,none⟩),.int .i64 q.hd,.int .i64 0] h.drew fun e W=>e=.returned (.tuple #[])/\JT bz P w g W:=by
 have R:=(u.drew.ac r _ E z).1.dk;refine (Dk.set_hit l.kb l.km l.ep l.nx l.hs q.hd 0 a4 h.drew R a3).mono ?_;rintro e6 X ⟨rfl,a0,a5⟩;have U:zG (fun i=>i=l.kb∨i=l.km) h.drew X:=a5.mono (fun i _ e=>.inr e);have L:=zw.cv (qs.fb u E z) R U;have a1:=u.drew.cv E z a0 U;have hF:=(u.ac r l E z).1.hF;refine ⟨rfl,qo 0,L _ _ _ (by decide) (show h.drew.heap[_]?=_ from Z),L _ _ _ (by decide) (show h.drew.heap[_]?=_ from Y),hk.trans (zw.ay L),by decide,hend X ?_⟩;rw [hF];exact a1
theorem zoL (H g4 r:Nat) (F:Nat->Prop) (cur:Nat->Nat->List UInt8) (ts:Nat->Tn) (boots:Nat) (l:Tl) (q:Rq) (txn T:Nat) (x:Tx) (w:World) (P:An->World->Prop) (h:zN bz w H g4 F cur ts boots) (hr:r<4) (hl:(ts r).ac=some l)
  (hP:∀ a W W',P a W->js W W'->P a W') (D:5<=q.kd/\q.kd<=12) (k3:iok q.hd) (e1:1<=txn) (e2:txn<=3) (c7:l.s.ts[txn]?=some (some (T,x))) (l4:zab l.s x) (k2:qS l.hs q.hd=true)
  (k1:∀ W,(yZ q.rt q.rk q.rv && decide (q.tt.size<=15))=false->zN bz W H g4 F cur ts boots->P (qo 1) W)
  (hend:∀ rw v e s' b' cur' a W,rw.ok->q.rt=rw.t->q.rk=zb rw.k->q.rv=zb rw.v->q.tt.size<=15->Gg l.a.r l.s txn T x q rw v e s'->Kf W a v->zN bz W H g4 b'.F cur' (vz ts b'.F r { ts r with ac:=some { l with b:=b',s:=s',hs:=if e then aput l.hs q.hd 0 else l.hs } }) boots->P a W) :
  zc 75 #[.pointer (some ⟨H,0,none⟩),.pointer (some ⟨H,1+r*5,none⟩),.agg (zK q).toArray,.int .i64 txn] w fun e W'=>∃ a,e=.returned (.agg (zQ a).toArray)/\a.Z≠10/\zw bz w W'/\P a W':=by
 obtain ⟨w1,f1⟩:=ex (QJ w q);have j8:zd w w1:=by rw [f1];exact yP w q
 have f8:w1.heap[w.heap.size]?=some (.cells (zK q).toArray 37 (0,0)):=by rw [f1];exact ZO w q
 have j9:w1.heap[w.heap.size+1]?=some (.cells qI 31 (0,0)):=by rw [f1];exact Zs w q
 have l3:(w.alloc (.cells (zK q).toArray 37)).alloc (.cells qI 31)=w1:=f1.symm;have d6:=hid (YZ q.rt q.rk q.rv w1);obtain ⟨d4,g9,a6⟩:=zi3 j8 f8 j9;have f6:=hid (zft f8 (show zK q=[.int .i64 q.kd,.int .i64 q.tn,.int .i64 q.hd,.int .i64 q.rt,.string q.rk,.string q.rv,.string q.tt,.int .i64 q.n,.int .u64 q.mask,.slice q.dA q.dn q.dc] from rfl));obtain ⟨g8,HP,i1,e3,H0,l9,O⟩:=zi7 l3 hP hend k1 h D l4;have k6:=xV (Value.string q.tt) 6 f8;clear f1 j8 f8 j9 l3 hP hend h k1 D l4;have l5:w1.heap.size=w.heap.size+2:=by rw [<- g8.o];simp
 have j3:=hid l5;clear l5;go_enter func75,ntmps75;go_upto_region 1 with fail;rw [g8.o];cases d9:yZ q.rt q.rk q.rv with
 | false =>rw [d9] at d6 e3;have m8:=hid d9;clear d9;go_wp2_with (first|((with_reducible refine gV 11 ?_);refine mV [.int .i64 q.rt,.string q.rk,.string q.rv] f6.o ?_)|((with_reducible refine aV 56 d6.o ?_);rintro j6 w2 ⟨rfl,a1⟩)|((with_reducible refine hV 8 ?_);refine wV 0 (zQ (qo 1)).toArray (zg a6.o a1 (zj a6.o)) ?_));refine jr (an:=qo 1) 8 rfl rfl rfl (zg a6.o a1 (zj a6.o)) rfl ⟨qo 1,rfl,by decide,(zw.below (B_call d4.o a1)).setRow (by omega) _,?_⟩;exact HP.o _ _ _ (e3.o w2 (by simp) (H0.o.below (B_call d4.o a1))) (js.setRow (zg a6.o a1 (zj a6.o)) _)
 | true =>
 rw [d9] at d6 e3;by_cases f0:¬ q.tt.size<=15
 ·have j5:decide ((15:Int)<(q.tt.size:Int))=true:=by simp;omega
  go_wp2_with (first|((with_reducible refine gV 11 ?_);refine mV [.int .i64 q.rt,.string q.rk,.string q.rv] f6.o ?_)|((with_reducible refine aV 56 d6.o ?_);rintro j6 w2 ⟨rfl,a1⟩;have l6:=jb k6 a1 (ZY k6))|((with_reducible refine hV 8 ?_);refine wV 0 (zQ (qo 1)).toArray (zg a6.o a1 (zj a6.o)) ?_));refine jr (an:=qo 1) 8 rfl rfl rfl (zg a6.o a1 (zj a6.o)) rfl ⟨qo 1,rfl,by decide,(zw.below (B_call d4.o a1)).setRow (by omega) _,?_⟩;exact HP.o _ _ _ (e3.o w2 (by simpa using f0) (H0.o.below (B_call d4.o a1))) (js.setRow (zg a6.o a1 (zj a6.o)) _)
 replace f0:=Classical.not_not.1 f0;have j5:decide ((15:Int)<(q.tt.size:Int))=false:=by simp;omega
 obtain ⟨rw,hok,l1,l0,e0⟩:=zgu d9;obtain ⟨i7,i6,i9⟩:=zi3 l1 l0 e0;clear d9 l1 l0 e0;go_upto_region 4 with (first|((with_reducible refine gV 11 ?_);refine mV [.int .i64 q.rt,.string q.rk,.string q.rv] f6.o ?_)|((with_reducible refine aV 56 d6.o ?_);rintro j6 w2 ⟨rfl,a1⟩;have l6:=jb k6 a1 (ZY k6)));obtain ⟨X,g3⟩:=ex (w2.alloc (.cells qI 31));rw [<- g3];have g2:zd w1 X:=by rw [g3];exact B_alloc a1 _
 have h3:X.heap[w2.heap.size]?=some (.cells qI 31 (0,0)):=by rw [g3];exact zo _ _ rfl
 have g0:=zg g9.o g2 (zj g9.o);have k0:=zg a6.o g2 (zj a6.o);have h4:zd w X:=B_call d4.o g2;have d7:=H0.o.below h4;obtain ⟨g,hg⟩:=ex w2.heap.size;have e8:w.heap.size+2<=g:=by have j7:=a1.size;have n2:=j3.o;omega
 rw [<- hg] at h3 ⊢;obtain ⟨d1,j4,_,_,_⟩:=qs.b6 d7 (za _) hr hl;have kk:=xV (Value.int .i64 q.kd) 0 g0;obtain ⟨hT,m6⟩:=d7.ac r l hr hl;have e6:=hid (fun hx:qd l.a l.b l.s H=>qs.dx d7 hr hl (zau hT hx) rfl);have e5:=hid (zj d7.U);obtain ⟨c1,HT,c0,c3,d0,c2⟩:=zi6 d7 hT h4 h3 g0 k0;have n0:=hid hT.hr;have a9:=hid (fun (v:um) e s' b' cur' a W (j7:Gg l.a.r l.s txn T x q rw v e s')=>i1.o rw v e s' b' cur' a W hok i7.o i6.o i9.o f0 j7);have h7:(zK q)=[.int .i64 q.kd,.int .i64 q.tn,.int .i64 q.hd,.int .i64 rw.t,.string (zb rw.k),.string (zb rw.v),.string q.tt,.int .i64 q.n,.int .u64 q.mask,.slice q.dA q.dn q.dc]:=by unfold zK;rw [i7.o,i6.o,i9.o]
 have c9:=hid h7;have m9:=hid (zft g0 h7);obtain ⟨d5,i3⟩:=zi2 hok k2;clear g3 g2 a1 h3 g0 k0 h4 d7 hT m6 k6 l6 d6 f0 j5 f6 i1 e3 H0 d4 g9 a6 g8 j3 hg h7 k2 hok;go_upto_block 0 with fail;go_cut [26] from 23 to 154 (fun _ wc=>JT bz P w g wc)
 case first =>
  obtain D | D | D | D | D | D | D | D:q.kd=5∨q.kd=6∨q.kd=7∨q.kd=8∨q.kd=9∨q.kd=10∨q.kd=11∨q.kd=12:=by have:=l9.o;omega
  ·rw [D];have a3:=hid D;clear D;obtain ⟨rv,e0⟩:=ex (l.s.cq txn rw.t rw.k);have i8:=hid e0;have i5:=hid (zmH l.a l.b cur l.s txn rw.t rw.k X.drew HT.o.sto.drew (by omega) (by have:=d5.o.1;omega) (by have:=d5.o.2.1;omega) O.o.so (zA O.o.il (by decide)));rw [<- e0] at i5;clear e0;go_upto_region 6 with fail;refine sV [16,18] 19 (fun w'=>zI w' H (1+r*5) (.pointer (some ⟨l.a.S,0,none⟩))/\w'.heap[w.heap.size]?=some (.cells (zK q).toArray 37 (0,0))) ⟨d1,d0.o⟩ fun L=>?_;refine pV 0 ?_;refine pV 1 ?_;refine pV 2 ?_;refine cV 3 (fun _ h=>h.1) ?_;refine pV 4 ?_;refine pV 5 ?_;refine pV 6 ?_;refine cV 7 (fun _ h=>xV (Value.int .i64 rw.t) 3 h.2 (by rw [c9.o];rfl)) ?_;refine pV 8 ?_;refine pV 9 ?_;refine cV 10 (fun _ h=>xV (Value.string (zb rw.k)) 4 h.2 (by rw [c9.o];rfl)) ?_;refine oC 11 i5.o ?_;rintro e4 w4 ⟨rfl,b4,R,E⟩;obtain ⟨z,U⟩:=Zg c1.o.drew hr hl R E;have u:=z _ _ _ (by decide) (show X.drew.heap[_]?=_ from c3.o);refine eV ⟨(yI (E.ad.block H e5.o e6.o)).trans L.1,z _ _ _ (by decide) L.2⟩ fun L=>?_;refine pV 12 ?_;refine pV 13 ?_;refine pV 14 ?_;refine pV 15 ?_;refine lV 16 fun K Y=>?_;refine jz 9 (.tmp 41) (.tmp 39) rfl g 2 _ 31 (.string (zb rv.1)) (by rfl) (by rfl) (by kernel_rfl) u (by simp) rfl ?_;refine Y.out _ _ ?_;clear Y K;try simp only [pS]
   refine pV 17 ?_;refine lV 18 fun K Y=>?_;have a4:=zB w4 g 2 _ _ (.string (zb rv.1)) u;refine jz 28 (.tmp 42) (.tmp 40) rfl g 0 _ 31 (.int .i64 rv.2) (by rfl) (by rfl) (by kernel_rfl) a4 (by simp) rfl ?_;refine Y.out _ _ ?_;clear Y K;try simp only [pS]
   refine dV ?_;have Z:=a9.o ⟨rv.2,0,rv.1,[],[]⟩ false (zie l.s txn rw.t rw.k) b4 cur ⟨rv.2,0,zb rv.1,none,0,0,none,0,0⟩ _ (.inl ⟨a3.o,by rw [i8.o],rfl,rfl⟩) ⟨rfl,rfl,rfl,qj _ _ _ _,qj _ _ _ _⟩ ((U.bq (js.setCell (o:=2) u (.string (zb rv.1)))).bq (js.setCell (o:=0) a4 (.int .i64 rv.2)));have HM:=hid (show JT bz P w g _ from ⟨⟨rv.2,0,zb rv.1,none,0,0,none,0,0⟩,by rw [zB _ _ 0 _ _ _ a4];rfl,(zu _ _ _ _ (by simp only;omega)).trans ((zu _ _ _ _ (by simp only;omega)).trans (z _ _ _ (by decide) (show X.drew.heap[_]?=_ from c2.o))),(((zw.below c0.o).trans (zw.ay z)).setCell (by omega) _).setCell (by omega) _,by rw [i8.o];exact zpJ _ _ _ _,Z⟩);clear Z U z u a4 R E L;go_wp2_with fail;go_meet
   case rel=>exact HM.o
  ·rw [D];have a3:=hid D;clear D;go_upto_region 8 with fail;refine sV [9] 10 (fun w'=>zI w' H (1+r*5) (.pointer (some ⟨l.a.S,0,none⟩))/\w'.heap[w.heap.size]?=some (.cells (zK q).toArray 37 (0,0))) ⟨d1,d0.o⟩ fun L=>?_;refine pV 0 ?_;refine pV 1 ?_;refine pV 2 ?_;refine cV 3 (fun _ h=>h.1) ?_;refine pV 4 ?_;refine pV 5 ?_;refine kV 6 rfl (yieldsIf_load_mid (by rfl) 34 (.tmp 50) rfl w.heap.size 3 (by rfl) [.int .i64 rw.t,.string (zb rw.k),.string (zb rw.v)] _ (fun _ h=>zft h.2 c9.o) underlying34 rfl (by kernel_rfl)) ?_;refine oC 7 (zmG l.a l.b cur l.s txn T x rw X.drew HT.o.sto.drew e1 e2 c7 d5.o O.o.wf O.o.so (zA O.o.il (by decide)) O.o.pos O.o.J) ?_;rintro e4 w4 ⟨a5,a8,b4,b9,rfl,R,E⟩;obtain ⟨z,U⟩:=Zg c1.o.drew hr hl R E;have u:=z _ _ _ (by decide) (show X.drew.heap[_]?=_ from c3.o);refine eV ⟨(yI (E.ad.block H e5.o e6.o)).trans L.1,z _ _ _ (by decide) L.2⟩ fun L=>?_;refine pV 8 ?_;refine lV 9 fun K Y=>?_;refine jz 28 (.tmp 53) (.tmp 52) rfl g 0 _ 31 (.int .i64 (l.s.put l.a.r a5 a8 txn x.ops rw).1) (by rfl) (by rfl) (by kernel_rfl) u (by simp) rfl ?_;refine Y.out _ _ ?_;clear Y K;try simp only [pS]
   refine dV ?_;have Z:=a9.o (jD (l.s.put l.a.r a5 a8 txn x.ops rw).1) false ((l.s.put l.a.r a5 a8 txn x.ops rw).2) b4 b9 (qo (l.s.put l.a.r a5 a8 txn x.ops rw).1) _ (.inr (.inl ⟨a3.o,a5,a8,rfl,rfl,rfl⟩)) (Kf.e _ _) (U.bq (js.setCell (o:=0) u (.int .i64 (l.s.put l.a.r a5 a8 txn x.ops rw).1)));have HM:=hid (JT.one (P:=P) u (z _ _ _ (by decide) (show X.drew.heap[_]?=_ from c2.o)) ((zw.below c0.o).trans (zw.ay z)) e8 (zrd _ _ _ _ _ _ _) Z);clear Z U z u R E L;go_wp2_with fail;go_meet
   case rel=>exact HM.o
  ·rw [D];have a3:=hid D;clear D;go_upto_region 10 with fail;refine sV [13] 14 (fun w'=>zI w' H (1+r*5) (.pointer (some ⟨l.a.S,0,none⟩))/\w'.heap[w.heap.size]?=some (.cells (zK q).toArray 37 (0,0))) ⟨d1,d0.o⟩ fun L=>?_;refine pV 0 ?_;refine pV 1 ?_;refine pV 2 ?_;refine cV 3 (fun _ h=>h.1) ?_;refine pV 4 ?_;refine pV 5 ?_;refine pV 6 ?_;refine cV 7 (fun _ h=>xV (Value.int .i64 rw.t) 3 h.2 (by rw [c9.o];rfl)) ?_;refine pV 8 ?_;refine pV 9 ?_;refine cV 10 (fun _ h=>xV (Value.string (zb rw.k)) 4 h.2 (by rw [c9.o];rfl)) ?_;refine oC 11 (zqA l.a l.b cur l.s txn T rw.t rw.k x X.drew HT.o.sto.drew e1 e2 c7 (by have:=d5.o.1;omega) (by have:=d5.o.2.1;omega) O.o.wf O.o.so (zA O.o.il (by decide)) O.o.pos O.o.J) ?_;rintro e4 w4 ⟨a8,b4,b9,rfl,R,E⟩;obtain ⟨z,U⟩:=Zg c1.o.drew hr hl R E;have u:=z _ _ _ (by decide) (show X.drew.heap[_]?=_ from c3.o);refine eV ⟨(yI (E.ad.block H e5.o e6.o)).trans L.1,z _ _ _ (by decide) L.2⟩ fun L=>?_;refine pV 12 ?_;refine lV 13 fun K Y=>?_;refine jz 28 (.tmp 68) (.tmp 67) rfl g 0 _ 31 (.int .i64 (l.s.bt l.a.r a8 txn x.ops rw.t rw.k).1) (by rfl) (by rfl) (by kernel_rfl) u (by simp) rfl ?_;refine Y.out _ _ ?_;clear Y K;try simp only [pS]
   refine dV ?_;have Z:=a9.o (jD (l.s.bt l.a.r a8 txn x.ops rw.t rw.k).1) false ((l.s.bt l.a.r a8 txn x.ops rw.t rw.k).2) b4 b9 (qo (l.s.bt l.a.r a8 txn x.ops rw.t rw.k).1) _ (.inr (.inr (.inl ⟨a3.o,a8,rfl,rfl,rfl⟩))) (Kf.e _ _) (U.bq (js.setCell (o:=0) u (.int .i64 (l.s.bt l.a.r a8 txn x.ops rw.t rw.k).1)));have HM:=hid (JT.one (P:=P) u (z _ _ _ (by decide) (show X.drew.heap[_]?=_ from c2.o)) ((zw.below c0.o).trans (zw.ay z)) e8 (zqz _ _ _ _ _ _ _) Z);clear Z U z u R E L;go_wp2_with fail;go_meet
   case rel=>exact HM.o
  ·rw [D];have a3:=hid D;clear D;obtain ⟨sc,h8⟩:=ex (l.s.bk txn rw.t rw.k q.tt);have g7:=hid h8;have j0:=hid (zqf l.a l.b cur l.s txn rw.t rw.k q.tt X.drew HT.o.sto.drew (by omega) (by have:=d5.o.1;omega) (zA O.o.il (by decide)) O.o.so);rw [<- h8] at j0;clear h8;go_upto_region 12 with fail;refine sV [18,20] 21 (fun w'=>zI w' H (1+r*5) (.pointer (some ⟨l.a.S,0,none⟩))/\w'.heap[w.heap.size]?=some (.cells (zK q).toArray 37 (0,0))) ⟨d1,d0.o⟩ fun L=>?_;refine pV 0 ?_;refine pV 1 ?_;refine pV 2 ?_;refine cV 3 (fun _ h=>h.1) ?_;refine pV 4 ?_;refine pV 5 ?_;refine pV 6 ?_;refine cV 7 (fun _ h=>xV (Value.int .i64 rw.t) 3 h.2 (by rw [c9.o];rfl)) ?_;refine pV 8 ?_;refine pV 9 ?_;refine cV 10 (fun _ h=>xV (Value.string (zb rw.k)) 4 h.2 (by rw [c9.o];rfl)) ?_;refine pV 11 ?_;refine cV 12 (fun _ h=>xV (Value.string q.tt) 6 h.2) ?_;refine oC 13 (j0.o) ?_;rintro e4 w4 ⟨v4,b4,rfl,d8,R,E⟩;obtain ⟨A4,c4,rfl⟩:=own_slice d8;obtain ⟨z,U⟩:=Zg c1.o.drew hr hl R E;have u:=z _ _ _ (by decide) (show X.drew.heap[_]?=_ from c3.o);refine eV ⟨(yI (E.ad.block H e5.o e6.o)).trans L.1,z _ _ _ (by decide) L.2⟩ fun L=>?_;refine pV 14 ?_;refine pV 15 ?_;refine pV 16 ?_;refine pV 17 ?_;refine lV 18 fun K Y=>?_;refine jz 22 (.tmp 88) (.tmp 86) rfl g 3 _ 31 (.slice A4 sc.2.1.length c4) (by rfl) (by rfl) (by kernel_rfl) u (by simp) rfl ?_;refine Y.out _ _ ?_;clear Y K;try simp only [pS]
   refine pV 19 ?_;refine lV 20 fun K Y=>?_;have a4:=zB w4 g 3 _ _ (.slice A4 sc.2.1.length c4) u;refine jz 28 (.tmp 89) (.tmp 87) rfl g 0 _ 31 (.int .i64 sc.1) (by rfl) (by rfl) (by kernel_rfl) a4 (by simp) rfl ?_;refine Y.out _ _ ?_;clear Y K;try simp only [pS]
   refine dV ?_;have k7:((w4.setCell ⟨g,3,none⟩ (.slice A4 sc.2.1.length c4)).setCell ⟨g,0,none⟩ (.int .i64 sc.1)).ownsRow 0 34 3 (.slice A4 sc.2.1.length c4) (sc.2.1.map (·.rw)).length (jq (sc.2.1.map (·.rw))):=by rw [List.length_map];exact jM (own_set1 (own_set1 d8 (own_ne d8 u (by decide)) _ _) (own_ne (own_set1 d8 (own_ne d8 u (by decide)) 3 _) a4 (by decide)) _ _) (zU _)
   have Z:=a9.o ⟨sc.1,0,[],sc.2.1.map (·.rw),[]⟩ false sc.2.2 b4 cur ⟨sc.1,0,zb [],A4,sc.2.1.length,c4,none,0,0⟩ _ (.inr (.inr (.inr (.inl ⟨a3.o,by rw [g7.o],rfl,by rw [g7.o]⟩)))) ⟨rfl,rfl,rfl,k7,qj _ _ _ _⟩ ((U.bq (js.setCell (o:=3) u (.slice A4 sc.2.1.length c4))).bq (js.setCell (o:=0) a4 (.int .i64 sc.1)));have HM:=hid (show JT bz P w g _ from ⟨⟨sc.1,0,zb [],A4,sc.2.1.length,c4,none,0,0⟩,by rw [zB _ _ 0 _ _ _ a4];rfl,(zu _ _ _ _ (by simp only;omega)).trans ((zu _ _ _ _ (by simp only;omega)).trans (z _ _ _ (by decide) (show X.drew.heap[_]?=_ from c2.o))),(((zw.below c0.o).trans (zw.ay z)).setCell (by omega) _).setCell (by omega) _,by rw [g7.o];exact zqe _ _ _ _ _,Z⟩);clear Z U z u a4 R E L d8 k7;go_wp2_with fail;go_meet
   case rel=>exact HM.o
  ·rw [D];have a3:=hid D;clear D;have h5:=QX l.a.S txn l.s.ts (some (T,x)) X HT.o.sto.aq.row e1 e2 c7;simp only [ql] at h5;obtain ⟨l2,i0⟩:=HT.o.sto.aq.tx txn T x c7;have l7:=hid h5;have j2:=hid (zqa T x (l.b.G txn) X l2 i0);have j1:=hid (zpZ i0);obtain ⟨sv,h9⟩:=ex x.bs;have f7:=hid h9;rw [<- h9] at j2 j1;clear h5 l2 i0 h9;go_upto_if 104 with (first|((with_reducible refine aV 88 l7.o ?_);rintro e4 w4 ⟨rfl,n3⟩;subst w4)|((with_reducible refine aV 115 j2.o ?_);rintro e4 w4 ⟨rfl,G4,m7,m4,m5⟩;obtain ⟨R,E⟩:=HT.o.sto.d4 c7 m7 j1.o m4 m5;obtain ⟨z,U⟩:=Zg c1.o hr hl R E;have u:=z _ _ _ (by decide) c3.o;have f9:=zH w4 g 1 _ _ u;have k9:=ze w4 g 1 _ _ _ u));have a4:=zB w4 g 1 _ _ (.int .i64 sv.1) u;have h2:(w4.setCell ⟨g,1,none⟩ (.int .i64 sv.1)).heap[w.heap.size+1]?=_:=(zu _ _ _ _ (by simp only;omega)).trans (z _ _ _ (by decide) c2.o);have h6:=(((zw.below c0.o).trans z)).setCell (g:=g) (o:=1) (by omega) (.int .i64 sv.1);have a7:=U.bq (js.setCell (o:=1) u (.int .i64 sv.1));obtain ⟨w5,a0⟩:=ex (w4.setCell ⟨g,1,none⟩ (.int .i64 sv.1));rw [<- a0] at a4 h2 h6 a7 ⊢;have n1:=zH w5 g 0 _ _ a4;have n4:=ze w5 g 0 _ _ _ a4;have HX:=hid a4;have H8:=hid h2;have i4:=hid h6;have i2:=hid a7;clear a0 a4 h2 h6 a7 U z R E u f9 k9;by_cases h0:sv.1=0
   ·have q1:((sv.1:Int) == 0)=true:=by rw [h0];rfl
    have Z:=a9.o ⟨8,sv.1,[],[],[]⟩ false { l.s with ts:=l.s.ts.set txn (some (T,sv.2)) } { l.b with G:=zV l.b.G txn G4 } cur ⟨8,sv.1,zb [],none,0,0,none,0,0⟩ _ (.inr (.inr (.inr (.inr (.inl ⟨a3.o,by rw [<- f7.o,if_pos h0],rfl,by rw [f7.o]⟩))))) ⟨rfl,rfl,rfl,qj _ _ _ _,qj _ _ _ _⟩ (i2.o.bq (js.setCell (o:=0) HX.o (.int .i64 8)));have HM:=hid (show JT bz P w g _ from ⟨⟨8,sv.1,zb [],none,0,0,none,0,0⟩,by rw [zB _ _ 0 _ _ _ HX.o];rfl,(zu _ _ _ _ (by simp only;omega)).trans H8.o,i4.o.setCell (by omega) _,by show (8:Int)≠10;decide,Z⟩);clear Z;go_wp2_with fail;go_meet
    case rel=>exact HM.o
   ·have q1:((sv.1:Int) == 0)=false:=by rw [beq_eq_false_iff_ne];omega
    have Z:=a9.o ⟨0,sv.1,[],[],[]⟩ false { l.s with ts:=l.s.ts.set txn (some (T,sv.2)) } { l.b with G:=zV l.b.G txn G4 } cur ⟨0,sv.1,zb [],none,0,0,none,0,0⟩ _ (.inr (.inr (.inr (.inr (.inl ⟨a3.o,by rw [<- f7.o,if_neg h0],rfl,by rw [f7.o]⟩))))) ⟨rfl,rfl,rfl,qj _ _ _ _,qj _ _ _ _⟩ i2.o;have HM:=hid (show JT bz P w g _ from ⟨⟨0,sv.1,zb [],none,0,0,none,0,0⟩,by rw [HX.o];rfl,H8.o,i4.o,by show (0:Int)≠10;decide,Z⟩);clear Z;go_wp2_with fail;go_meet
    case rel=>exact HM.o
  ·rw [D];have a3:=hid D;clear D;go_upto_region 18 with fail;refine sV [9] 10 (fun w'=>zI w' H (1+r*5) (.pointer (some ⟨l.a.S,0,none⟩))/\w'.heap[w.heap.size]?=some (.cells (zK q).toArray 37 (0,0))) ⟨d1,d0.o⟩ fun L=>?_;refine pV 0 ?_;refine pV 1 ?_;refine pV 2 ?_;refine cV 3 (fun _ h=>h.1) ?_;refine pV 4 ?_;refine pV 5 ?_;refine cV 6 (fun _ h=>xV (Value.int .i64 q.n) 7 h.2) ?_;refine oC 7 (zlu l.a l.b cur l.s txn T q.n x X.drew HT.o.sto.drew e1 e2 c7 O.o.so O.o.il O.o.sv (O.o.ig HT.o.sto)) ?_;rintro e4 w4 ⟨a5,b4,b9,rfl,k4,R,E⟩;obtain ⟨z,U⟩:=Zg c1.o.drew hr hl R E;have u:=z _ _ _ (by decide) (show X.drew.heap[_]?=_ from c3.o);refine eV ⟨(yI (E.ad.block H e5.o e6.o)).trans L.1,z _ _ _ (by decide) L.2⟩ fun L=>?_;refine pV 8 ?_;refine lV 9 fun K Y=>?_;refine jz 28 (.tmp 116) (.tmp 115) rfl g 0 _ 31 (.int .i64 (l.s.a5 l.a.r txn a5 T x q.n).1) (by rfl) (by rfl) (by kernel_rfl) u (by simp) rfl ?_;refine Y.out _ _ ?_;clear Y K;try simp only [pS]
   refine dV ?_;have Z:=a9.o (jD (l.s.a5 l.a.r txn a5 T x q.n).1) false ((l.s.a5 l.a.r txn a5 T x q.n).2) b4 b9 (qo (l.s.a5 l.a.r txn a5 T x q.n).1) _ (.inr (.inr (.inr (.inr (.inr (.inl ⟨a3.o,a5,rfl,rfl,rfl,k4⟩)))))) (Kf.e _ _) (U.bq (js.setCell (o:=0) u (.int .i64 (l.s.a5 l.a.r txn a5 T x q.n).1)));have HM:=hid (JT.one (P:=P) u (z _ _ _ (by decide) (show X.drew.heap[_]?=_ from c2.o)) ((zw.below c0.o).trans (zw.ay z)) e8 (zpb _ _ _ _ _ _ _) Z);clear Z U z u R E L;go_wp2_with fail;go_meet
   case rel=>exact HM.o
  ·rw [D];have a3:=hid D;clear D;have g5:=hid (zbF l.a l.b cur l.s txn T x X HT.o.sto e1 e2 c7 O.o.ie);go_upto_region 22 with ((with_reducible refine aV 49 g5.o ?_);rintro e4 w4 ⟨rfl,b4,b9,R,E⟩;obtain ⟨z,U⟩:=Zg c1.o hr hl R E;have u:=z _ _ _ (by decide) c3.o;have f9:=zH w4 g 0 _ _ u;have k9:=ze w4 g 0 _ _ _ u);have c8:=z _ _ _ (by decide) c2.o;have f3:=z _ _ _ (by decide) d0.o;obtain ⟨w5,a0⟩:=ex (w4.setCell ⟨g,0,none⟩ (.int .i64 0));rw [<- a0];have f5:w5.heap[g]?=some (.cells (zQ (qo 0)).toArray 31 (0,0)):=by rw [a0];exact zbs u
   have f4:w5.heap[w.heap.size+1]?=some (.cells qI 31 (0,0)):=by rw [a0];exact (zu _ _ _ _ (by simp only;omega)).trans c8
   have d3:w5.heap[w.heap.size]?=some (.cells (zK q).toArray 37 (0,0)):=by rw [a0];exact (zu _ _ _ _ (by simp only;omega)).trans f3
   have a7:=U.bq (js.setCell (o:=0) u (.int .i64 0));rw [<- a0] at a7;have c5:zw bz w w5:=by rw [a0];exact ((zw.below c0.o).trans z).setCell (by omega) _
   obtain ⟨s4,c6⟩:=ex (l.s.am txn x);rw [<- c6] at a7;have d2:(vz ts b4.F r { ts r with ac:=some { l with b:=b4,s:=s4 } } r).ac=some { l with b:=b4,s:=s4 }:=by rw [jI]
   have f2:Gg l.a.r l.s txn T x q rw (jD 0) true s4:=.inr (.inr (.inr (.inr (.inr (.inr (.inl ⟨a3.o,rfl,rfl,c6⟩))))));have g6:=hid (zgF HP.o a7 hr d2 f5 f4 d3 c5 e8 k3 i3.o (fun W hW=>by
    have:=a9.o (jD 0) true s4 b4 b9 (qo 0) W f2 (Kf.e _ _);rw [zct,jI] at hW;exact this hW))
   obtain ⟨_,e7,_,_,_⟩:=qs.b6 a7.drew (za _) hr d2;have hS:=And.intro e7 d3;clear a0 f5 f4 d3 c5 U a7 R E z u c8 f3 d1 j4 f9 k9 e7 d2 c6 f2;refine sV [6] 7 (fun w'=>zI w' H (1+r*5+1) (.pointer (some ⟨l.kb,0,none⟩))/\w'.heap[w.heap.size]?=some (.cells (zK q).toArray 37 (0,0))) hS fun L=>?_;refine pV 0 ?_;refine pV 1 ?_;refine pV 2 ?_;refine cV 3 (fun _ h=>h.1) ?_;refine pV 4 ?_;refine cV 5 (fun _ h=>xV (Value.int .i64 q.hd) 2 h.2) ?_;refine lC 6 g6.o ?_;rintro m3 w6 ⟨rfl,e9⟩;refine eL ?_;refine dV ?_;have HM:=hid e9;clear e9 hS L;go_wp2_with fail;go_meet
   case rel=>exact HM.o
  ·rw [D];have a3:=hid D;clear D;have g5:=hid (zfL l.a l.b cur l.s txn T x X HT.o.sto e1 e2 c7 O.o.so O.o.il (14336-(l.s.sto.Q.length+(if x.I=[] then 0 else (x.I.length+1)*395))) (by have:=O.o.db;omega));go_upto_region 26 with ((with_reducible refine aV 85 g5.o ?_);rintro e4 w4 ⟨rfl,a5,b4,b9,k4,R,E⟩;obtain ⟨z,U⟩:=Zg c1.o hr hl R E;have u:=z _ _ _ (by decide) c3.o;have f9:=zH w4 g 0 _ _ u;have k9:=ze w4 g 0 _ _ _ u);have c8:=z _ _ _ (by decide) c2.o;have f3:=z _ _ _ (by decide) d0.o;obtain ⟨w5,a0⟩:=ex (w4.setCell ⟨g,0,none⟩ (.int .i64 0));rw [<- a0];have f5:w5.heap[g]?=some (.cells (zQ (qo 0)).toArray 31 (0,0)):=by rw [a0];exact zbs u
   have f4:w5.heap[w.heap.size+1]?=some (.cells qI 31 (0,0)):=by rw [a0];exact (zu _ _ _ _ (by simp only;omega)).trans c8
   have d3:w5.heap[w.heap.size]?=some (.cells (zK q).toArray 37 (0,0)):=by rw [a0];exact (zu _ _ _ _ (by simp only;omega)).trans f3
   have a7:=U.bq (js.setCell (o:=0) u (.int .i64 0));rw [<- a0] at a7;have c5:zw bz w w5:=by rw [a0];exact ((zw.below c0.o).trans z).setCell (by omega) _
   obtain ⟨s4,c6⟩:=ex (l.s.be l.a.r txn a5 x);rw [<- c6] at a7;have d2:(vz ts b4.F r { ts r with ac:=some { l with b:=b4,s:=s4 } } r).ac=some { l with b:=b4,s:=s4 }:=by rw [jI]
   have f2:Gg l.a.r l.s txn T x q rw (jD 0) true s4:=.inr (.inr (.inr (.inr (.inr (.inr (.inr ⟨a3.o,a5,rfl,rfl,c6,by have:=O.o.db;rw [c6];omega⟩))))));have g6:=hid (zgF HP.o a7 hr d2 f5 f4 d3 c5 e8 k3 i3.o (fun W hW=>by
    have:=a9.o (jD 0) true s4 b4 b9 (qo 0) W f2 (Kf.e _ _);rw [zct,jI] at hW;exact this hW))
   obtain ⟨_,e7,_,_,_⟩:=qs.b6 a7.drew (za _) hr d2;have hS:=And.intro e7 d3;clear a0 f5 f4 d3 c5 U a7 R E z u c8 f3 d1 j4 f9 k9 e7 d2 c6 f2;refine sV [6] 7 (fun w'=>zI w' H (1+r*5+1) (.pointer (some ⟨l.kb,0,none⟩))/\w'.heap[w.heap.size]?=some (.cells (zK q).toArray 37 (0,0))) hS fun L=>?_;refine pV 0 ?_;refine pV 1 ?_;refine pV 2 ?_;refine cV 3 (fun _ h=>h.1) ?_;refine pV 4 ?_;refine cV 5 (fun _ h=>xV (Value.int .i64 q.hd) 2 h.2) ?_;refine lC 6 g6.o ?_;rintro m3 w6 ⟨rfl,e9⟩;refine eL ?_;refine dV ?_;have HM:=hid e9;clear e9 hS L;go_wp2_with fail;go_meet
   case rel=>exact HM.o
 case rest =>obtain ⟨an,u,c8,c5,k5,k8⟩:=hcut;obtain ⟨m2,h1,l8,m1,m0⟩:=zi5 u c8 c5 k8 k5;clear u c8 c5 k8 k5;go_wp2_with (first|((with_reducible refine gV 155 ?_);refine rV m2.o ?_)|((with_reducible refine hV 8 ?_);refine wV 0 (zQ an).toArray h1.o ?_));refine jr (an:=an) 8 rfl rfl rfl h1.o rfl ⟨an,rfl,m0.o,l8.o.setRow (by omega) _,?_⟩;exact HP.o _ _ _ m1.o (js.setRow h1.o _)
end
def yu (s:List UInt8 × Bool) (k:Nat):Nat × List UInt8 × Bool:=if s.2=true∨s.1.length<k then (0,s.1,true) else (QM (s.1.take k),s.1.drop k,false)
def Zt (s:List UInt8 × Bool):List UInt8 × List UInt8 × Bool:=if (yu s 1).2.2=true∨(yu s 1).2.1.length<(yu s 1).1 then ([],(yu s 1).2.1,true) else ((yu s 1).2.1.take (yu s 1).1,(yu s 1).2.1.drop (yu s 1).1,false)
theorem zfo (G k:Nat) (s:List UInt8 × Bool) (w:World) (h:jw w G s.1 s.2) (O:1<=k) (R:k<=8) (hs:s.1.length<=1000000) :
  zc 52 #[.pointer (some ⟨G,0,none⟩),.int .i64 k] w fun r w'=>r=.returned (.int .u64 (yu s k).1)/\jw w' G (yu s k).2.1 (yu s k).2.2/\w.grownBy w' (some G):=by
 obtain ⟨l,z⟩:=s;unfold yu;simp only at h hs ⊢;by_cases u:z=true∨l.length<k
 ·rw [if_pos u];obtain ⟨A,c,D⟩:=h;have E:=hid (YK G A l.length c (zE l) z k w D (by rcases u with u | u;exact .inl u;exact .inr (.inr (by omega))));have U:decide ((k:Int)<1)=false:=by simp;omega
  have X:decide ((8:Int)<(k:Int))=false:=by simp;omega
  clear D;go_enter func52,ntmps52;go_wp2_with ((with_reducible refine aV 99 E.o ?_);rintro r w1 ⟨rfl,D,L⟩);refine wp_loop_rounds 1 ?_;rw [rounds_succ];go_wp2_with fail;go_ret;exact ⟨rfl,⟨A,c,D⟩,L⟩
 ·rw [if_neg u];have hb:z=false:=by cases z with | false=>rfl | true=>exact absurd (.inl rfl) u
  subst hb;exact zak G l k w h (by omega) (by omega) (by omega) hs
theorem ziw (G:Nat) (s:List UInt8 × Bool) (w:World) (h:jw w G s.1 s.2) (hs:s.1.length<=1000000) :
  zc 54 #[.pointer (some ⟨G,0,none⟩)] w fun r w'=>r=.returned (.string (zb (Zt s).1))/\jw w' G (Zt s).2.1 (Zt s).2.2/\w.grownBy w' (some G):=by
 have E:Hid (zc 52 #[.pointer (some ⟨G,0,none⟩),.int .i64 1] w _):=hid (zfo G 1 s w h (by omega) (by omega) hs);have U:(yu s 1).2.1.length<=1000000:=by
  unfold yu;split
  ·exact hs
  ·simp only [qH];omega
 have Y:(yu s 1).1<256:=by
  unfold yu;split
  ·simp
  ·rename_i u;rw [zoc s.1 (by omega)];exact UInt8.toNat_lt _
 unfold Zt;obtain ⟨n,l,z,Z⟩:∃ n l z,yu s 1=(n,l,z):=⟨_,_,_,rfl⟩;rw [Z] at E U Y ⊢;simp only at E U Y ⊢;have x1:IntKind.i64.wrap (n:Int)=(n:Int):=by rw [zv];omega
 clear h hs Z;by_cases u:z=true∨l.length<n
 ·rw [if_pos u];go_enter func54,ntmps54;go_wp2_with (first|((with_reducible refine aV 52 E.o ?_);rintro r1 w1 ⟨rfl,D,O⟩;obtain ⟨A,c,D⟩:=D)|((with_reducible refine aV 99 (YK G A l.length c (zE l) z n w1 D (by rcases u with u | u;exact .inl u;exact .inr (.inr (by omega)))) ?_);rintro r2 X ⟨rfl,L,R⟩;have a0:=yk (zi.aj (l:=[]) rfl (qj X 0 5 1))));go_ret;exact ⟨rfl,⟨A,c,L⟩,O.trans R⟩
 ·rw [if_neg u];have hb:z=false:=by cases z with | false=>rfl | true=>exact absurd (.inl rfl) u
  subst hb;have hk:(n:Int)<=(l.length:Int):=by omega
  go_enter func54,ntmps54;go_wp2_with (first|((with_reducible refine aV 52 E.o ?_);rintro r1 w1 ⟨rfl,D,O⟩)|((with_reducible refine aV 99 (zfD G l n w1 D (by omega) hk U) ?_);rintro r2 X ⟨v,rfl,a1,L,R⟩;have a3:X.ownsRow w1.heap.size 5 1 v n (zE (l.take n)):=(by simpa using a1);have a0:=yk (zi.aj (by rw [qf];omega) a3)));go_ret;simp only [qp] at L;exact ⟨rfl,L,O.trans R⟩
def Ka (s:List UInt8 × Bool):Rw × List UInt8 × Bool:=(⟨(yu s 1).1,(Zt (yu s 1).2).1,(Zt (Zt (yu s 1).2).2).1⟩,(Zt (Zt (yu s 1).2).2).2)
def Qw (h:List Rw) (s:List UInt8 × Bool):Bool:=(Ka s).2.2 || (!yZ (Ka s).1.t (zb (Ka s).1.k) (zb (Ka s).1.v) || match h.getLast? with
 | some y=>!Ja y.t (zb y.k) (Ka s).1.t (zb (Ka s).1.k)
 | none=>false)
def ZG:Nat->List UInt8 × Bool->List Rw->Option (List Rw × List UInt8 × Bool)
 | 0,s,acc=>some (acc,s)
 | n+1,s,acc=>if Qw acc s=true then none else ZG n (Ka s).2 (acc++[(Ka s).1])
def YX:List UInt8:=[84,78,77,49]
def qY (b:List UInt8):Nat × List Rw :=
 if b.length<10∨b.take 4≠YX then (9,[])
 else if QM ((b.drop (b.length-4)).take 4)≠Zr (b.take (b.length-4)) then (9,[])
 else match ZG (yu ((b.drop 4).take (b.length-4-4),false) 2).1 (yu ((b.drop 4).take (b.length-4-4),false) 2).2 [] with
  | none=>(9,[])
  | some (l,s)=>if s.2=true∨0<s.1.length then (9,[]) else if 30<l.length then (7,[]) else (0,l)
theorem zpy:∀ (l:List UInt8),QM l<256 ^ l.length:=by
 intro l;have key:∀ (l:List UInt8) (a m:Nat),a<256 ^ m->l.foldl (fun a b=>a*256+b.toNat) a<256 ^ (m+l.length):=by
  intro l;induction l with
  | nil=>intro a m h;simpa using h
  | cons x l ih =>intro a m h;rw [jP,zX,show m+(l.length+1)=(m+1)+l.length by omega];refine ih _ _ ?_;have:=x.toNat_lt;rw [Nat.pow_succ];omega
 have:=key l 0 0 (by simp);rw [qz] at this;exact this
theorem zjG {s:List UInt8 × Bool} {k:Nat} (z:1<=k):(yu s k).1<256 ^ k:=by
 unfold yu;split
 ·exact Nat.pow_pos (by decide)
 ·rename_i h;have u:=zpy (s.1.take k);rw [qf,Nat.min_eq_left (by omega)] at u;exact u
theorem KT (s:List UInt8 × Bool) (k:Nat):(yu s k).2.1.length<=s.1.length:=by
 unfold yu;split
 ·exact za _
 ·simp only [qH];omega
theorem zcs (s:List UInt8 × Bool):(Zt s).2.1.length<=s.1.length:=by
 have:=KT s 1;unfold Zt;split
 ·exact this
 ·simp only [qH];omega
theorem zpX (s:List UInt8 × Bool):(Ka s).2.1.length<=s.1.length:=zA (zcs _) (zA (zcs _) (KT _ _))
theorem zfa:ue prog 29 1 24:=ue.of (by kernel_rfl)
theorem zhk (l:List UInt8):Zr l<4294967296:=by unfold Zr;exact Nat.xor_lt_two_pow (n:=32) (by decide) (KD _ _ (by decide))
theorem zdf (v:Value) (b:List UInt8) (w:World) (h:zi w v b) (hl:b.length<=100000) :
  zc 29 #[v] w fun e w'=>∃ rv,e=.returned (.tuple #[rv,.int .i64 (qY b).1])/\w'.ownsRow w.heap.size 34 3 rv (qY b).2.length (jq (qY b).2)/\zd w w':=by
 obtain ⟨A,c,rfl,Y,n5,n6⟩:=h;by_cases g2:b.length<10
 ·have q1:decide ((b.length:Int)<10)=true:=by simp;omega
  go_enter func29,ntmps29;go_wp2_with fail;go_ret2;have hd:qY b=(9,[]):=by unfold qY;rw [if_pos (.inl g2)]
  rw [hd];exact ⟨_,rfl,qj _ _ _ _,zf _ _⟩
 have q1:decide ((b.length:Int)<10)=false:=by simp;omega
 obtain ⟨O,rfl⟩:∃ O,A=some O:=by obtain ⟨O,e,_⟩:=Y.2 (by omega);exact ⟨O,e⟩
 have R:zi w (.slice (some O) b.length c) b:=⟨_,_,rfl,Y,n5,n6⟩;have p2:=yk (show zi w (.slice (some O) 4 c) (b.take 4) from zi.sub R 0 4 (by omega) (by omega));have g5:(zb YX).toList=[84,78,77,49]:=by kernel_rfl
 have f3:((zb (b.take 4)).toList == [84,78,77,49])=(b.take 4 == YX):=by rw [<- g5];exact zcL _ _
 by_cases a7:b.take 4≠YX
 ·have qm:((zb (b.take 4)).toList == [84,78,77,49])=false:=by rw [f3];simpa using a7
  have hd:qY b=(9,[]):=by unfold qY;rw [if_pos (.inr a7)]
  have HD:=hid hd;clear f3 g5 hd a7;go_enter func29,ntmps29;go_wp2_with fail;go_ret2;rw [HD.o];exact ⟨_,rfl,qj _ _ _ _,zf _ _⟩
 replace a7:=Classical.not_not.1 a7;have qm:((zb (b.take 4)).toList == [84,78,77,49])=true:=by rw [f3];simpa using a7
 obtain ⟨e,he⟩:∃ e,b.length=e+4:=⟨b.length-4,by omega⟩;have x1:IntKind.i64.wrap ((b.length:Int)-4)=(e:Int):=by rw [zv];omega
 have p5:b.length-e=4:=by omega
 have p7:¬ c=e:=by omega
 have l5:zi w (.slice (some (O.add e)) 4 (c-e)) ((b.drop e).take 4):=zi.sub R e 4 (by omega) (by omega);have l6:zi w (.slice (some O) e c) (b.take e):=zi.sub R 0 e (by omega) (by omega);have l8:zi w (.slice (some (O.add 4)) (e-4) (c-4)) ((b.drop 4).take (e-4)):=zi.sub R 4 (e-4) (by omega) (by omega);obtain ⟨HE,i0,i4,f8,m9⟩:=zi5 he a7 l5 l6 l8;have q4:(0:Int)<=(e:Int):=by omega
 have q9:(e:Int)<=(b.length:Int):=by omega
 have r0:(e:Int)<=(c:Int):=by omega
 have c6:=hid (show ((b.drop e).take 4).length=4 by rw [qf,qH];omega);have p8:=zhk (b.take e);have q3:IntKind.u64.wrap (Zr (b.take e):Int)=(Zr (b.take e):Int):=by rw [IntKind.wrap_u64];omega
 clear f3 g5 a7 l5 l6 l8 he Y R;go_enter func29,ntmps29;go_upto_region 4 with fail;have hS:zd w w.drew:=(zf _ _).drew;go_cut [31] from 20 to 31 (fun o6 wc=>∃ sb:Bool,o6=.bool sb/\(sb=true↔QM ((b.drop e).take 4)≠Zr (b.take e))/\zd w wc)
 case first =>
  refine sV [9] 12 (fun w'=>zd w w') hS fun u=>?_;refine pV 0 ?_;refine pV 1 ?_;refine pV 2 ?_;refine pV 5 ?_;refine pV 6 ?_;refine pV 7 ?_;refine PrintLast.two_ (i:=3) (j:=8) (Ni:=some 23) (Nj:=some 28) (bA 12 239) (bA 12 487) rfl rfl rfl rfl (by kernel_rfl) (by simp) (by simp) (fun K E=>?_) (fun K E=>?_)
  ·rw [if_pos (by rfl)];show Oper.wp _ ⟨some 23,_,_,_,_,_⟩ _ _ _ _;refine vL 51 _ _ [.slice (some (O.add e)) 4 (c-e)] rfl (by kernel_rfl) (by rfl) ((Jl _ _ _ (i4.o.below u)).mono ?_);rintro e1 w1 ⟨rfl,a1,f0⟩;refine ⟨_,rfl,?_⟩;refine E.out _ _ (B_call u f0) (fun u=>?_);clear E K;try simp only [pS]
   refine PrintLast.two_ (i:=4) (j:=8) (Ni:=some 24) (Nj:=some 28) (bA 12 255) (bA 12 495) rfl rfl rfl rfl (by kernel_rfl) (by simp) (by simp) (fun K E=>?_) (fun K E=>?_)
   ·rw [if_pos (by rfl)];show Oper.wp _ ⟨some 24,_,_,_,_,_⟩ _ _ _ _;refine vL 52 _ _ [.pointer (some ⟨w.drew.heap.size,0,none⟩),.int .i64 4] rfl (by kernel_rfl) (by rfl) ((zak w.drew.heap.size ((b.drop e).take 4) 4 _ a1 (by omega) (by omega) (by rw [c6.o];decide) (by rw [c6.o];decide)).mono ?_);rintro e2 w2 ⟨rfl,j0,c2⟩;refine ⟨_,rfl,?_⟩;refine E.out _ _ (u.grown c2 (Nat.le_of_lt (jw.lt a1)) (fun q D=>by injection D with D;subst D;exact za _)) (fun u=>?_);clear E K;try simp only [pS]
    refine oV 8 fun K E=>?_;refine yo 184 29 1 24 (.tmp 27) rfl (.slice (some O) e c) (by rfl) underlying184 zfa (by rfl) (by omega) (by omega) ?_;refine E.out _ _ (B_alloc u _) (fun u=>?_);clear E K;try simp only [pS]
    refine lC 9 (zcM w2.heap.size 0 1 (.slice (some O) e c) (b.take e) _ ((ze _ w2.heap.size 0 _ _ _ (zo w2 (.cells #[.slice (some O) e c] 29) rfl)).trans rfl) (f8.o.below u) (by rw [qf];omega)) ?_;rintro g0 w3 ⟨rfl,d6⟩;subst d6;refine eL ?_;refine tV 10 ?_;refine pV 11 ?_;refine dV ?_;go_wp2_with fail;go_meet
    case rel=>exact ⟨_,rfl,by rw [List.take_take];simp;exact not_congr Int.ofNat_inj,u⟩
   ·rw [if_pos (by rfl)];show Oper.wp _ ⟨some 28,_,_,_,_,_⟩ _ _ _ _;refine yo 184 29 1 24 (.tmp 27) rfl (.slice (some O) e c) (by rfl) underlying184 zfa (by rfl) (by omega) (by omega) ?_;refine E.out _ _ (B_alloc u _) (fun u=>?_);clear E K;try simp only [pS]
    refine oC 4 (zak w.drew.heap.size ((b.drop e).take 4) 4 _ (a1.same fun k hk=>qc _ _ k (Nat.lt_of_le_of_lt hk (jw.lt a1))) (by omega) (by omega) (by rw [c6.o];decide) (by rw [c6.o];decide)) ?_;rintro e2 w2 ⟨rfl,j0,c2⟩;refine eV (u.grown c2 (by have:=jw.lt a1;simp;exact Nat.le_of_lt (Nat.lt_succ_of_lt this)) (fun q D=>by injection D with D;subst D;exact za _)) fun u=>?_;refine lC 9 (zcM w1.heap.size 0 1 (.slice (some O) e c) (b.take e) _ ((ze _ w1.heap.size 0 _ _ _ (qq (zo w1 (.cells #[.slice (some O) e c] 29) rfl) c2 (fun e=>by injection e with e;have:=jw.lt a1;omega))).trans rfl) (f8.o.below u) (by rw [qf];omega)) ?_;rintro g0 w3 ⟨rfl,d6⟩;subst d6;refine eL ?_;refine tV 10 ?_;refine pV 11 ?_;refine dV ?_;go_wp2_with fail;go_meet
    case rel=>exact ⟨_,rfl,by rw [List.take_take];simp;exact not_congr Int.ofNat_inj,u⟩
  ·rw [if_pos (by rfl)];show Oper.wp _ ⟨some 28,_,_,_,_,_⟩ _ _ _ _;refine yo 184 29 1 24 (.tmp 27) rfl (.slice (some O) e c) (by rfl) underlying184 zfa (by rfl) (by omega) (by omega) ?_;refine E.out _ _ (B_alloc u _) (fun u=>?_);clear E K;try simp only [pS]
   refine oC 3 (Jl _ _ _ (i4.o.below u)) ?_;rintro e1 w1 ⟨rfl,a1,f0⟩;refine eV (B_call u f0) fun u=>?_;refine oC 4 (zak (w.drew.alloc (.cells #[.slice (some O) e c] 29)).heap.size ((b.drop e).take 4) 4 _ a1 (by omega) (by omega) (by rw [c6.o];decide) (by rw [c6.o];decide)) ?_;rintro e2 w2 ⟨rfl,j0,c2⟩;refine eV (u.grown c2 (zA (by simp) (Nat.le_of_lt (jw.lt a1))) (fun q D=>by injection D with D;subst D;simp)) fun u=>?_;refine lC 9 (zcM w.drew.heap.size 0 1 (.slice (some O) e c) (b.take e) _ ((ze _ w.drew.heap.size 0 _ _ _ (qq (zg (zo w.drew (.cells #[.slice (some O) e c] 29) rfl) f0 (by simp)) c2 (fun e=>by injection e with e;simp at e))).trans rfl) (f8.o.below u) (by rw [qf];omega)) ?_;rintro g0 w3 ⟨rfl,d6⟩;subst d6;refine eL ?_;refine tV 10 ?_;refine pV 11 ?_;refine dV ?_;go_wp2_with fail;go_meet
   case rel=>exact ⟨_,rfl,by rw [List.take_take];simp;exact not_congr Int.ofNat_inj,u⟩
 case rest =>
 obtain ⟨sb,rfl,f5,d2⟩:=hcut;cases sb with
 | true =>
  have k7:=f5.1 rfl;have hd:qY b=(9,[]):=by unfold qY;rw [if_neg (fun X=>X.elim (fun X=>g2 X) (fun X=>X i0.o)),show b.length-4=e by have:=HE.o;omega,if_pos k7]
  obtain ⟨HD,d7⟩:=zi2 hd d2;clear hd d2 f5 k7;go_wp2_with fail;go_ret2;rw [HD.o];exact ⟨_,rfl,qj _ _ _ _,d7.o⟩
 | false =>
 have k0:¬ QM ((b.drop e).take 4)≠Zr (b.take e):=fun h=>by have:=f5.2 h;cases this
 obtain ⟨s0,f4⟩:=ex (((b.drop 4).take (e-4),false):List UInt8 × Bool);have hd:qY b=match ZG (yu s0 2).1 (yu s0 2).2 [] with
  | none=>(9,[])
  | some (l,s)=>if s.2=true∨0<s.1.length then (9,[]) else if 30<l.length then (7,[]) else (0,l):=by
  unfold qY;rw [if_neg (fun X=>X.elim (fun X=>g2 X) (fun X=>X i0.o)),show b.length-4=e by have:=HE.o;omega,if_neg k0,f4]
 have k5:s0.1.length<=100000:=by rw [f4];simp only [qf,qH];omega
 obtain ⟨HD,h9⟩:=zi2 hd k5;have r1:(4:Int)<=(e:Int):=by have:=HE.o;omega
 have p6:¬ c=4:=by have:=HE.o;omega
 have i5:Hid (zi wc (.slice (some ⟨O.block,O.off+4,none⟩) (e-4) (c-4)) ((b.drop 4).take (e-4))):=hid (m9.o.below d2);obtain ⟨d7,m7⟩:=zi2 d2 f4;clear hd d2 f5 k0 f4 k5;go_upto_region 8 with (go_at_call 51;(with_reducible refine (Jl _ _ wc i5.o).mono ?_);rintro o9 w5 ⟨rfl,j1,j7⟩);obtain ⟨G,hG⟩:=ex wc.heap.size;have j2:jw w5 G s0.1 s0.2:=by rw [hG,m7.o];exact j1
 have h7:=hid (B_call d7.o j7);have i2:Hid (zc 52 #[.pointer (some ⟨G,0,none⟩),.int .i64 2] w5 _):=hid (zfo G 2 s0 w5 j2 (by omega) (by omega) (by have:=h9.o;omega));have d9:=hid (show w.heap.size<=G by rw [hG];exact d7.o.size);rw [<- hG];clear j1 j7 hG j2 i5;go_upto_region 9 with ((with_reducible refine aV 52 i2.o ?_);rintro p0 w6 ⟨rfl,e6,k3⟩);obtain ⟨N,s1,D⟩:∃ N s1,yu s0 2=(N,s1):=⟨_,_,rfl⟩;have hN:N<65536:=by have:=zjG (s:=s0) (k:=2) (by omega);rw [D] at this;exact this
 have n9:s1.1.length<=100000:=by have:=KT s0 2;rw [D] at this;exact zA this h9.o
 rw [D] at HD e6 ⊢;simp only at HD e6 ⊢;have i8:zd w w6:=h7.o.grown k3 h7.o.size (fun q D=>by injection D with D;subst D;exact d9.o);obtain ⟨e5,hR⟩:∃ e5:Nat->Value->World->Prop,e5=fun j v6 wr=>∃ (z:List Rw) (s:List UInt8 × Bool),ZG (N-j) s z=ZG N s1 []/\z.length<=j/\(∀ r,r∈z->r.ok)/\s.1.length<=100000/\jw wr G s.1 s.2/\wr.ownsRow (G+1) 34 3 v6 z.length (jq z)/\zd w wr:=⟨_,rfl⟩;have i9:e5 0 (.slice none 0 0) w6:=by rw [hR];exact ⟨[],s1,rfl,za _,fun r h=>(by cases h),n9,e6,qj _ _ _ _,i8⟩
 obtain ⟨HR,i3⟩:=zi2 hR i9;clear hR i9 e6 k3 i8 i2 D;go_loopw [6,38] (fun v6 h4 wr=>∃ j:Nat,j<=N/\h4=.int .u64 j/\e5 j v6 wr) (fun _ h4 _=>N-(jL h4).toNat)
 case atStart=>exact ⟨0,zU _,rfl,i3.o⟩
 case round =>
  clear i3;obtain ⟨j,hj,rfl,hrel⟩:=hrel;rw [HR.o] at hrel;obtain ⟨z,s,d3,p4,g4,o4,d5,d4,f2⟩:=hrel;obtain ⟨A6,i6,rfl⟩:=own_slice d4;by_cases k6:j<N
  ·have q5:decide ((j:Int)<(N:Int))=true:=by simpa using k6
   obtain ⟨h8,m4,a4,b9⟩:=zi4 d3 g4 f2 d4;have i1:Hid (zc 52 #[.pointer (some ⟨G,0,none⟩),.int .i64 1] wr _):=hid (zfo G 1 s wr d5 (by omega) (by omega) (by omega));have o1:=zjG (s:=s) (k:=1) (by omega);have x3:IntKind.i64.wrap ((yu s 1).1:Int)=((yu s 1).1:Int):=by rw [zv];omega
   clear d3 g4 f2 d4 d5;go_upto_region 11 with (first|((with_reducible refine aV 52 i1.o ?_);rintro e7 w7 ⟨rfl,j3,k4⟩)|((with_reducible refine aV 54 (ziw G (Zt (yu s 1).2).2 Z j4 (by have:=zcs (yu s 1).2;have:=KT s 1;omega)) ?_);rintro p1 w9 ⟨rfl,g3,c9⟩)|((with_reducible refine aV 54 (ziw G (yu s 1).2 w7 j3 (by have:=KT s 1;omega)) ?_);rintro e8 Z ⟨rfl,j4,c8⟩));obtain ⟨x,L,f6⟩:∃ x L,Ka s=(x,L):=⟨_,_,rfl⟩;obtain ⟨U,d0⟩:=ex (w9.alloc (.cells #[.int .i64 x.t,.string (zb x.k),.string (zb x.v)] 34));have m2:x=(Ka s).1:=by rw [f6]
   have g8:L=(Ka s).2:=by rw [f6]
   have l9:w9.alloc (.cells #[.int .i64 (yu s 1).1,.string (zb (Zt (yu s 1).2).1),.string (zb (Zt (Zt (yu s 1).2).2).1)] 34)=U:=by rw [d0,m2];rfl
   obtain ⟨a0,hX⟩:=ex w9.heap.size;rw [l9,<- hX];have m0:U.heap[a0]?=some (.cells #[.int .i64 x.t,.string (zb x.k),.string (zb x.v)] 34 (0,0)):=by rw [d0,hX];exact zo _ _ rfl
   have l3:jw w9 G L.1 L.2:=by rw [g8];exact g3
   have l2:jw U G L.1 L.2:=by rw [d0];exact l3.same fun k hk=>qc _ _ k (Nat.lt_of_le_of_lt hk (jw.lt g3))
   have c9:=(k4.trans c8).trans c9;have j8:zd w w9:=a4.o.grown c9 a4.o.size (fun q D=>by injection D with D;subst D;exact d9.o);have j6:zd w U:=by rw [d0];exact B_alloc j8 _
   have k9:U.ownsRow (G+1) 34 3 (.slice A6 z.length i6) z.length (jq z):=by rw [d0];exact own_same b9.o fun q D=>(qc _ _ q (qg (b9.o.lt q D).2 c9.size)).trans (c9.block q (b9.o.lt q D).2 (fun e=>by injection e with e;have:=(b9.o.lt q D).1;omega))
   have l7:L.1.length<=100000:=by rw [g8];exact zA (zpX s) o4
   obtain ⟨c0,a6,f7,e0,m8,f9⟩:=zi6 m0 l2 j6 k9 l7 f6;clear d0 l9 hX m0 l3 l2 j8 j6 k9 c9 l7 g3 j4 j3 k4 c8 a4 b9 i1 x3 o1 m2 g8 f6;go_cut [70] from 48 to 70 (fun o7 wc=>o7=.bool (Qw z s)/\zd U wc)
   case first =>
    have a8:Qw z s=(L.2 || (!yZ x.t (zb x.k) (zb x.v) || match z.getLast? with
     | some y=>!Ja y.t (zb y.k) x.t (zb x.k)
     | none=>false)):=by unfold Qw;rw [f9.o]
    have c7:=hid a8;clear a8;cases j9:L.2 with
    | true =>
     have R:Qw z s=true:=by rw [c7.o,j9];rfl
     have a9:=hid R;clear R;refine sV [19] 23 (fun w'=>zd U w'/\jK w' a0 #[.int .i64 x.t,.string (zb x.k),.string (zb x.v)] 34) ⟨(zf _ _).drew,c0.o⟩ fun u=>?_;refine pV 0 ?_;refine oC 1 (JP G L.1 L.2 U.drew (a6.o.same fun k _=>rfl)) ?_;rintro e1 h5 ⟨rfl,c3⟩;subst c3;refine eV u fun u=>?_;refine pV 2 ?_;refine uV 3 ?_;refine PrintLast.one_ (i:=4) (N:=some 52) (bA 23 31) rfl rfl (by kernel_rfl) (by simp) (fun K E=>?_);rw [if_neg (by rw [show Region.wanted _ (yielded _ _)=false from rfl];simp)];refine E.out _ _ (by assumption) (fun u=>?_);clear E K;try simp only [pS]
     refine uV 5 ?_;try simp only [pS]
     refine pV 6 ?_;refine pV 7 ?_;refine uV 8 ?_;try simp only [pS]
     refine uV 9 ?_;try simp only [pS]
     refine uV 10 ?_;try simp only [pS]
     refine uV 11 ?_;try simp only [pS]
     refine uV 12 ?_;try simp only [pS]
     refine uV 13 ?_;try simp only [pS]
     refine uV 14 ?_;try simp only [pS]
     refine uV 15 ?_;try simp only [pS]
     refine uV 16 ?_;try simp only [pS]
     refine uV 17 ?_;refine uV 18 ?_;refine PrintLast.last_ (i:=19) (N:=some 67) (bA 23 1048575) rfl rfl (by kernel_rfl) (by simp) (fun K E=>?_);rw [if_neg (by rw [show Region.wanted _ (yielded _ _)=false from rfl];simp)];refine E.out _ _ ?_;clear E K;try simp only [pS]
     refine uV 20 ?_;try simp only [pS]
     refine uV 21 ?_;try simp only [pS]
     refine pV 22 ?_;refine dV ?_;go_wp2_with fail;go_meet
     case rel=>exact ⟨by rw [a9.o],u.1⟩
    | false =>
    rw [j9] at c7;cases l4:yZ x.t (zb x.k) (zb x.v) with
    | false =>
     have R:Qw z s=true:=by rw [c7.o,l4];rfl
     have a9:=hid R;clear R;refine sV [19] 23 (fun w'=>zd U w'/\jK w' a0 #[.int .i64 x.t,.string (zb x.k),.string (zb x.v)] 34) ⟨(zf _ _).drew,c0.o⟩ fun u=>?_;refine pV 0 ?_;refine oC 1 (JP G L.1 L.2 U.drew (a6.o.same fun k _=>rfl)) ?_;rintro e1 h5 ⟨rfl,c3⟩;subst c3;refine eV u fun u=>?_;refine pV 2 ?_;refine kV 3 rfl (qQ 34 (.tmp 7) rfl (by rfl) a0 (by rfl) 34 #[.int .i64 x.t,.string (zb x.k),.string (zb x.v)] (0,0) _ (fun _ h=>h.2) underlying34 rfl (by kernel_rfl)) ?_;refine oC 4 (YZ x.t (zb x.k) (zb x.v) U.drew) ?_;rintro e2 h6 ⟨rfl,a3⟩;refine eV ⟨B_call u.1 a3,zg u.2 a3 (zj u.2)⟩ fun u=>?_;refine pV 5 ?_;refine pV 6 ?_;refine pV 7 ?_;refine uV 8 ?_;try simp only [pS]
     refine uV 9 ?_;try simp only [pS]
     refine uV 10 ?_;try simp only [pS]
     refine uV 11 ?_;try simp only [pS]
     refine uV 12 ?_;try simp only [pS]
     refine uV 13 ?_;try simp only [pS]
     refine uV 14 ?_;try simp only [pS]
     refine uV 15 ?_;try simp only [pS]
     refine uV 16 ?_;try simp only [pS]
     refine uV 17 ?_;refine uV 18 ?_;refine PrintLast.last_ (i:=19) (N:=some 67) (bA 23 1048575) rfl rfl (by kernel_rfl) (by simp) (fun K E=>?_);rw [if_neg (by rw [show Region.wanted _ (yielded _ _)=false from rfl];simp)];refine E.out _ _ ?_;clear E K;try simp only [pS]
     refine uV 20 ?_;try simp only [pS]
     refine uV 21 ?_;try simp only [pS]
     refine pV 22 ?_;refine dV ?_;go_wp2_with fail;go_meet
     case rel=>exact ⟨by rw [a9.o],u.1⟩
    | true =>
    rw [l4] at c7;rcases List.eq_nil_or_concat z with k8 | ⟨l,y,e9⟩
    ·have R:Qw z s=false:=by rw [c7.o,k8];rfl
     have q7:decide ((0:Int)<(z.length:Int))=false:=by rw [k8];rfl
     have a9:=hid R;clear R;refine sV [19] 23 (fun w'=>zd U w'/\jK w' a0 #[.int .i64 x.t,.string (zb x.k),.string (zb x.v)] 34) ⟨(zf _ _).drew,c0.o⟩ fun u=>?_;refine pV 0 ?_;refine oC 1 (JP G L.1 L.2 U.drew (a6.o.same fun k _=>rfl)) ?_;rintro e1 h5 ⟨rfl,c3⟩;subst c3;refine eV u fun u=>?_;refine pV 2 ?_;refine kV 3 rfl (qQ 34 (.tmp 7) rfl (by rfl) a0 (by rfl) 34 #[.int .i64 x.t,.string (zb x.k),.string (zb x.v)] (0,0) _ (fun _ h=>h.2) underlying34 rfl (by kernel_rfl)) ?_;refine oC 4 (YZ x.t (zb x.k) (zb x.v) U.drew) ?_;rintro e2 h6 ⟨rfl,a3⟩;refine eV ⟨B_call u.1 a3,zg u.2 a3 (zj u.2)⟩ fun u=>?_;refine pV 5 ?_;refine pV 6 ?_;refine pV 7 ?_;refine pV 8 ?_;refine pV 9 ?_;refine pV 10 ?_;refine pV 11 ?_;refine uV 12 ?_;try simp only [pS]
     refine uV 13 ?_;try simp only [pS]
     refine uV 14 ?_;try simp only [pS]
     refine uV 15 ?_;try simp only [pS]
     refine uV 16 ?_;try simp only [pS]
     refine uV 17 ?_;refine uV 18 ?_;refine PrintLast.last_ (i:=19) (N:=some 67) (bA 23 1048575) rfl rfl (by kernel_rfl) (by simp) (fun K E=>?_);rw [if_neg (by rw [show Region.wanted _ (yielded _ _)=false from rfl];simp)];refine E.out _ _ ?_;clear E K;try simp only [pS]
     refine uV 20 ?_;try simp only [pS]
     refine pV 21 ?_;refine pV 22 ?_;refine dV ?_;go_wp2_with fail;go_meet
     case rel=>exact ⟨by rw [a9.o],u.1⟩
    ·obtain ⟨m,hm⟩:=ex l.length;have o0:z.length=m+1:=by rw [e9,hm];simp
     have j5:z[m]?=some y:=by rw [e9,hm];simp
     have R:Qw z s=!Ja y.t (zb y.k) x.t (zb x.k):=by rw [c7.o,e9];simp
     have q7:decide ((0:Int)<(z.length:Int))=true:=by simp;omega
     have o5:0<z.length:=by omega
     have q8:decide (0<z.length)=true:=by simpa using o5
     have x4:IntKind.i64.wrap ((z.length:Int)-1)=(m:Int):=by rw [zv];omega
     have r2:(0:Int)<=(m:Int):=by omega
     have r3:(m:Int)<(z.length:Int):=by omega
     obtain ⟨gA,rfl,n7,p9,o3⟩:=zcn e0.o j5;have a9:=hid R;clear R e9 hm o0 j5;refine sV [19] 23 (fun w'=>zd U w'/\jK w' a0 #[.int .i64 x.t,.string (zb x.k),.string (zb x.v)] 34/\w'.rangeAt gA (m*3) (qZ y)) ⟨(zf _ _).drew,c0.o,o3⟩ fun u=>?_;refine pV 0 ?_;refine oC 1 (JP G L.1 L.2 U.drew (a6.o.same fun k _=>rfl)) ?_;rintro e1 h5 ⟨rfl,c3⟩;subst c3;refine eV u fun u=>?_;refine pV 2 ?_;refine kV 3 rfl (qQ 34 (.tmp 7) rfl (by rfl) a0 (by rfl) 34 #[.int .i64 x.t,.string (zb x.k),.string (zb x.v)] (0,0) _ (fun _ h=>h.2.1) underlying34 rfl (by kernel_rfl)) ?_;refine oC 4 (YZ x.t (zb x.k) (zb x.v) U.drew) ?_;rintro e2 h6 ⟨rfl,a3⟩;refine eV ⟨B_call u.1 a3,zg u.2.1 a3 (zj u.2.1),Qr u.2.2 a3 (qg n7 u.1.size)⟩ fun u=>?_;refine pV 5 ?_;refine pV 6 ?_;refine pV 7 ?_;refine pV 8 ?_;refine pV 9 ?_;refine pV 10 ?_;refine pV 11 ?_;refine pV 12 ?_;refine pV 13 ?_;refine pV 14 ?_;refine pV 15 ?_;refine pV 16 ?_;refine kV 17 rfl (yieldsIf_load_mid (by rfl) 34 (.tmp 64) rfl gA (m*3) (by rfl) (qZ y) _ (fun _ h=>h.2.2) underlying34 rfl (by kernel_rfl)) ?_;refine kV 18 rfl (qQ 34 (.tmp 7) rfl (by rfl) a0 (by rfl) 34 #[.int .i64 x.t,.string (zb x.k),.string (zb x.v)] (0,0) _ (fun _ h=>h.2.1) underlying34 rfl (by kernel_rfl)) ?_;refine lC 19 (Yt y.t x.t (zb y.k) (zb y.v) (zb x.k) (zb x.v) h6) ?_;rintro g0 r4 ⟨rfl,n4⟩;refine eL ?_;refine pV 20 ?_;refine pV 21 ?_;refine pV 22 ?_;refine dV ?_;go_wp2_with fail;go_meet
     case rel=>exact ⟨by rw [a9.o],B_call u.1 n4⟩
   case rest =>
   obtain ⟨rfl,c1⟩:=hcut;cases a8:Qw z s with
   | true =>
    have k2:ZG N s1 []=none:=by rw [<- h8.o,show N-j=(N-j-1)+1 by omega];unfold ZG;rw [if_pos a8]
    have hd:qY b=(9,[]):=by rw [HD.o,k2]
    have a5:=hid hd;have d8:=hid (B_call f7.o c1);clear hd k2 a8 c1;go_wp2_with fail;go_ret2;rw [a5.o];exact ⟨_,rfl,qj _ _ _ _,d8.o⟩
   | false =>
    have k1:ZG (N-(j+1)) L (z++[x])=ZG N s1 []:=by
     rw [<- h8.o,show N-j=(N-(j+1))+1 by omega]
     conv=>rhs;unfold ZG
     rw [if_neg (by rw [a8];simp),f9.o]
    have m3:x.ok:=by
     have h1:Qw z s=(L.2 || (!yZ x.t (zb x.k) (zb x.v) || match z.getLast? with
      | some y=>!Ja y.t (zb y.k) x.t (zb x.k)
      | none=>false)):=by unfold Qw;rw [f9.o]
     rw [a8] at h1;have h2:yZ x.t (zb x.k) (zb x.v)=true:=by
      cases n2:yZ x.t (zb x.k) (zb x.v) with
      | true=>rfl
      | false=>rw [n2] at h1;simp at h1
     unfold yZ at h2;rw [jm,jm] at h2;simp only [Bool.and_eq_true,decide_eq_true_eq] at h2;exact ⟨by omega,by omega,by omega⟩
    have m1:=zg c0.o c1 (zj c0.o);have g7:jw wc G L.1 L.2:=a6.o.same fun k hk=>c1.block k (Nat.lt_of_le_of_lt hk (jw.lt a6.o));have l0:=own_same e0.o fun q D=>c1.block q (e0.o.lt q D).2;obtain ⟨n0,m6,e3⟩:=zi3 m1 g7 l0;have d8:=hid (B_call f7.o c1);obtain ⟨m5,n1⟩:=zi2 k1 m3;have n3:=a6.o;have p3:G+1<=wc.heap.size:=by have:=jw.lt g7;omega
    have x5:IntKind.u64.wrap ((j:Int)+1)=(j:Int)+1:=by rw [IntKind.wrap_u64];omega
    clear k1 m3 m1 g7 l0 a8 c1 c0 a6 e0 f7 n3;go_wp2_with (first|((with_reducible refine gV 72 ?_);refine rV n0.o ?_)|(show wpList _ _ _ (⟨some 73,_,_,_,_,_⟩::_) _ _;refine wpList_plain rfl fun _ E=>yo 22 34 3 40 (.tmp 72) rfl (.agg (qZ x).toArray) (by rfl) underlying22 KM (by rfl) (by omega) (by omega) (E _ _ ?_))|(show wpList _ _ _ (⟨some 74,_,_,_,_,_⟩::_) _ _;refine jO rfl (.tmp 71) (.tmp 73) 22 34 3 40 rfl underlying22 KM (by omega) _ _ _ (G+1) (by rfl) (own_same e3.o fun q D=>qc _ _ q (e3.o.lt q D).2) _ 1 _ _ _ (by rfl) (zJ.bi (zo wc (.cells (qZ x).toArray 34) rfl) (size:=3) (n:=1) rfl) (GT _) (by omega) (by omega) (by simp;omega) ?_;intro v8 Z l1 c8 q0;obtain ⟨A8,o8,rfl⟩:=own_slice l1));have q2:=c8.size;have o2:∀ q,q<=G->(Value.slice A6 z.length i6).ownBlock≠some q:=fun q D e=>by have:=(e3.o.lt _ e).1;omega
    refine ⟨⟨j+1,by omega,by simp,?_⟩,by simp [jL];omega⟩;rw [HR.o];refine ⟨z++[x],L,m5.o,by simp;omega,fun r Y=>?_,m8.o,m6.o.same fun k hk=>(c8.block k (by simp;omega) (fun e=>o2 k hk e.symm)).trans (qc _ _ k (by omega)),?_,(B_alloc d8.o _).grown c8 (by have:=d8.o.size;simp;omega) fun q e=>by have:=(e3.o.lt _ e).1;have:=d9.o;omega⟩
    ·rcases ja.1 Y with Y | Y
     ·exact m4.o r Y
     ·simp at Y;subst Y;exact n1.o
    ·rw [zl,List.length_singleton,Kk];exact l1
  ·have n8:N-j=0:=by omega
   rw [n8] at d3;have q5:decide ((j:Int)<(N:Int))=false:=by simpa using k6
   have hd:qY b=if s.2=true∨0<s.1.length then (9,[]) else if 30<z.length then (7,[]) else (0,z):=by rw [HD.o,<- d3];rfl
   obtain ⟨a5,a4,b9⟩:=zi3 hd f2 d4;have c5:=hid (JP G s.1 s.2 wr d5);have e4:=hid (zim G s.1 s.2 wr d5);clear hd d3 f2 d4 d5 g4 HD HR;cases f1:s.2 with
   | true =>rw [f1] at c5 a5;clear f1;go_wp2_with (first|((with_reducible refine aV 55 c5.o ?_);rintro e7 w7 ⟨rfl,g9⟩;subst w7)|((with_reducible refine aV 58 e4.o ?_);rintro e8 Z ⟨rfl,h3⟩;subst Z));go_ret2;rw [a5.o];exact ⟨_,rfl,qj _ _ _ _,a4.o⟩
   | false =>
    rw [f1] at c5 a5;clear f1;by_cases g6:0<s.1.length
    ·have q6:decide ((0:Int)<(s.1.length:Int))=true:=by simp;omega
     have hd:qY b=(9,[]):=by rw [a5.o,if_pos (.inr g6)]
     have d1:=hid hd;clear hd;go_wp2_with (first|((with_reducible refine aV 55 c5.o ?_);rintro e7 w7 ⟨rfl,g9⟩;subst w7)|((with_reducible refine aV 58 e4.o ?_);rintro e8 Z ⟨rfl,h3⟩;subst Z));go_ret2;rw [d1.o];exact ⟨_,rfl,qj _ _ _ _,a4.o⟩
    have q6:decide ((0:Int)<(s.1.length:Int))=false:=decide_eq_false (by omega);by_cases i7:30<z.length
    ·have q7:decide ((30:Int)<(z.length:Int))=true:=by simp;omega
     have hd:qY b=(7,[]):=by rw [a5.o,if_neg (fun h=>h.elim (fun h=>by cases h) g6),if_pos i7]
     have d1:=hid hd;clear hd;go_wp2_with (first|((with_reducible refine aV 55 c5.o ?_);rintro e7 w7 ⟨rfl,g9⟩;subst w7)|((with_reducible refine aV 58 e4.o ?_);rintro e8 Z ⟨rfl,h3⟩;subst Z));go_ret2;rw [d1.o];exact ⟨_,rfl,qj _ _ _ _,a4.o⟩
    ·have q7:decide ((30:Int)<(z.length:Int))=false:=by simp;omega
     have hd:qY b=(0,z):=by rw [a5.o,if_neg (fun h=>h.elim (fun h=>by cases h) g6),if_neg i7]
     have d1:=hid hd;clear hd;go_wp2_with (first|((with_reducible refine aV 55 c5.o ?_);rintro e7 w7 ⟨rfl,g9⟩;subst w7)|((with_reducible refine aV 58 e4.o ?_);rintro e8 Z ⟨rfl,h3⟩;subst Z));go_ret2;rw [d1.o];exact ⟨_,rfl,jM b9.o (by have:=d9.o;omega),a4.o⟩
end Go.Proofs.YtechnoogjhohfaaGreat
