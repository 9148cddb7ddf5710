import Derived.Test.YtechnoogjhohfaaGreatS30
import Derived.Test.YtechnoogjhohfaaGreatS9
import Derived.Test.YtechnoogjhohfaaGreatS8
import Derived.Deep.CutBlock
set_option maxRecDepth 100000
set_option maxHeartbeats 6400000
set_option linter.unusedVariables false
set_option linter.unusedSimpArgs false
namespace Go.Proofs.YtechnoogjhohfaaGreat
open Go.RowKit Go.Lib
open YtechnoogjhohfaaGreatW Go.Proofs.Tryz Go.Proofs.YtechnoogjhohfaaGreat.Tryz
section
variable {bz:Nat->Prop}
theorem Zc {O w4:World} {H D r:Nat} {F:Nat->Prop} {cur u:Nat->Nat->List UInt8} {ts:Nat->Tn} {boots:Nat} {l:Tl} {b4:Vb} {s':St} (z:zN bz O H D F cur ts boots) (L:r<4) (E:(ts r).ad=some l) (X:zm w4 l.a b4 u s') (R:qv O w4 (qd l.a l.b l.s) (qd l.a b4 s') cur u l.a.r) :
  zv bz O w4/\zN bz w4 H D b4.F u (vt ts b4.F r { ts r with ad:=some { l with b:=b4,s:=s' } }) boots:=by
 obtain ⟨U,_⟩:=z.ad r l L E;exact ⟨zv.store (qs.hj z L E) U.sto R,z.store L E X (by have h:=R;rw [U.hr] at h;exact ⟨h.out,⟨h.ac.os,h.ac.tape,h.ac.output,h.ac.size,h.ac.block⟩,h.new⟩)⟩
def JP (bz:Nat->Prop) (P:An->World->Prop) (w:World) (g:Nat) (wc:World):Prop:=∃ an:An,wc.heap[g]?=some (.cells (zV an).toArray 31 (0,0))/\wc.heap[w.heap.size+1]?=some (.cells qJ 31 (0,0))/\zv bz w wc/\an.Z≠10/\P an wc
theorem JP.one {P:An->World->Prop} {w w4:World} {g:Nat} {h:Int} (z:w4.heap[g]?=some (.cells qJ 31 (0,0))) (u:w4.heap[w.heap.size+1]?=some (.cells qJ 31 (0,0))) (E:zv bz w w4) (O:w.heap.size+2<=g) (L:h≠10) (D:P (qo h) (w4.setCell ⟨g,0,none⟩ (.int .i64 h))):JP bz P w g (w4.setCell ⟨g,0,none⟩ (.int .i64 h)) :=
 ⟨qo h,by rw [zB _ _ 0 _ _ _ z];rfl,(zt _ _ _ _ (by simp only;omega)).trans u,E.setCell (by omega) _,L,D⟩
theorem zgf {t:Int} {k v:ByteArray} (h:vK t k v=true):∃ rw:Rw,rw.ok/\t=rw.t/\k=zb rw.k/\v=zb rw.v:=by
 unfold vK at h;simp only [Bool.and_eq_true,decide_eq_true_eq] at h;refine ⟨⟨t.toNat,k.data.toList,v.data.toList⟩,⟨?_,?_,?_⟩,?_,rfl,rfl⟩
 ·show t.toNat<4;omega
 ·show k.data.toList.length<=15;rw [Array.length_toList];have:k.data.size=k.size:=rfl;omega
 ·show v.data.toList.length<=21;rw [Array.length_toList];have:v.data.size=v.size:=rfl;omega
 ·show t=(t.toNat:Int);omega
theorem zpA {x:Tx} (h:x.ok):x.bt.2.ok:=by
 unfold Tx.bt;split
 ·exact h
 ·rename_i u;exact ⟨h.n8,h.len,by have:=h.s4;simp only [zl,List.length_singleton];omega,h.al⟩
theorem zgo {P:An->World->Prop} {w h:World} {H D r g:Nat} {F:Nat->Prop} {cur:Nat->Nat->List UInt8} {ts:Nat->Tn} {boots:Nat} {l:Tl} {q:Rq} {C:Array Value} (hP:∀ a W O,P a W->jp W O->P a O) (u:zN bz h H D F cur ts boots) (E:r<4) (z:(ts r).ad=some l) (Z:h.heap[g]?=some (.cells (zV (qo 0)).toArray 31 (0,0))) (Y:h.heap[w.heap.size+1]?=some (.cells qJ 31 (0,0))) (h6:h.heap[w.heap.size]?=some (.cells C 37 (0,0))) (hk:zv bz w h) (hg:w.heap.size+2<=g) (a4:iok q.hd) (a3:qT l.hs q.hd=true)
  (hend:∀ W,zN bz W H D l.b.F cur (vt ts l.b.F r { ts r with ad:=some { l with hs:=aput l.hs q.hd 0 } }) boots->P (qo 0) W) :
  zc 74 #[.pointer (some ⟨l.kb,0,none⟩),.int .i64 q.hd,.int .i64 0] h.drew fun e W=>e=.returned (.tuple #[])/\JP bz P w g W:=by
 have R:=(u.drew.ad r _ E z).1.dk;refine (Dk.set_hit l.kb l.km l.ep l.nx l.hs q.hd 0 a4 h.drew R a3).mono ?_;rintro e6 X ⟨rfl,a0,a5⟩;have U:zE (fun i=>i=l.kb∨i=l.km) h.drew X:=a5.mono (fun i _ e=>.inr e);have L:=zv.cq (qs.fh u E z) R U;have a1:=u.drew.cq E z a0 U;have hF:=(u.ad r l E z).1.hF;refine ⟨rfl,qo 0,L _ _ _ (by decide) (show h.drew.heap[_]?=_ from Z),L _ _ _ (by decide) (show h.drew.heap[_]?=_ from Y),hk.trans (zv.ay L),by decide,hend X ?_⟩;rw [hF];exact a1
theorem zon (H g5 r:Nat) (F:Nat->Prop) (cur:Nat->Nat->List UInt8) (ts:Nat->Tn) (boots:Nat) (l:Tl) (q:Rq) (txn T:Nat) (x:Tx) (w:World) (P:An->World->Prop) (h:zN bz w H g5 F cur ts boots) (hr:r<4) (hl:(ts r).ad=some l)
  (hP:∀ a W W',P a W->jp W W'->P a W') (D:5<=q.kd/\q.kd<=12) (k4:iok q.hd) (e2:1<=txn) (e3:txn<=3) (c6:l.s.ts[txn]?=some (some (T,x))) (l5:GX l.s x) (k3:qT l.hs q.hd=true)
  (k2:∀ W,(vK q.rt q.rk q.rv && decide (q.tt.size<=15))=false->zN bz W H g5 F cur ts boots->P (qo 1) W)
  (hend:∀ rw v e s' b' cur' a W,rw.ok->q.rt=rw.t->q.rk=zb rw.k->q.rv=zb rw.v->q.tt.size<=15->Ge l.a.r l.s txn T x q rw v e s'->Kb W a v->zN bz W H g5 b'.F cur' (vt ts b'.F r { ts r with ad:=some { l with b:=b',s:=s',hs:=if e then aput l.hs q.hd 0 else l.hs } }) boots->P a W) :
  zc 75 #[.pointer (some ⟨H,0,none⟩),.pointer (some ⟨H,1+r*5,none⟩),.agg (zJ q).toArray,.int .i64 txn] w fun e W'=>∃ a,e=.returned (.agg (zV a).toArray)/\a.Z≠10/\zv bz w W'/\P a W':=by
 obtain ⟨w1,f2⟩:=ex (QD w q);have j9:zd w w1:=by rw [f2];exact yO w q
 have g0:w1.heap[w.heap.size]?=some (.cells (zJ q).toArray 37 (0,0)):=by rw [f2];exact ZI w q
 have k0:w1.heap[w.heap.size+1]?=some (.cells qJ 31 (0,0)):=by rw [f2];exact Zn w q
 have l4:(w.alloc (.cells (zJ q).toArray 37)).alloc (.cells qJ 31)=w1:=f2.symm;have d7:=hid (YV q.rt q.rk q.rv w1);obtain ⟨d5,h1,a6⟩:=zi3 j9 g0 k0;have f7:=hid (zfe g0 (show zJ q=[.int .i64 q.kd,.int .i64 q.tn,.int .i64 q.hd,.int .i64 q.rt,.string q.rk,.string q.rv,.string q.tt,.int .i64 q.n,.int .u64 q.mask,.slice q.dA q.dn q.dc] from rfl));obtain ⟨g9,HP,i2,e5,H0,m0,O⟩:=zi7 l4 hP hend k2 h D l5;have k6:=xV (Value.string q.tt) 6 g0;clear f2 j9 g0 k0 l4 hP hend h k2 D l5;have l6:w1.heap.size=w.heap.size+2:=by rw [<- g9.o];simp
 have j4:=hid l6;clear l6;go_enter func75,ntmps75;go_upto_region 1 with fail;rw [g9.o];cases e0:vK q.rt q.rk q.rv with
 | false =>rw [e0] at d7 e5;have m9:=hid e0;clear e0;go_wp2_with (first|((with_reducible refine gV 11 ?_);refine mV [.int .i64 q.rt,.string q.rk,.string q.rv] f7.o ?_)|((with_reducible refine aV 56 d7.o ?_);rintro j7 w2 ⟨rfl,a1⟩)|((with_reducible refine hV 8 ?_);refine wV 0 (zV (qo 1)).toArray (zg a6.o a1 (zi a6.o)) ?_));refine jo (an:=qo 1) 8 rfl rfl rfl (zg a6.o a1 (zi a6.o)) rfl ⟨qo 1,rfl,by decide,(zv.below (B_call d5.o a1)).setRow (by omega) _,?_⟩;exact HP.o _ _ _ (e5.o w2 (by simp) (H0.o.below (B_call d5.o a1))) (jp.setRow (zg a6.o a1 (zi a6.o)) _)
 | true =>
 rw [e0] at d7 e5;by_cases f1:¬ q.tt.size<=15
 ·have j6:decide ((15:Int)<(q.tt.size:Int))=true:=by simp;omega
  go_wp2_with (first|((with_reducible refine gV 11 ?_);refine mV [.int .i64 q.rt,.string q.rk,.string q.rv] f7.o ?_)|((with_reducible refine aV 56 d7.o ?_);rintro j7 w2 ⟨rfl,a1⟩;have l7:=qU k6 a1 (ZR k6))|((with_reducible refine hV 8 ?_);refine wV 0 (zV (qo 1)).toArray (zg a6.o a1 (zi a6.o)) ?_));refine jo (an:=qo 1) 8 rfl rfl rfl (zg a6.o a1 (zi a6.o)) rfl ⟨qo 1,rfl,by decide,(zv.below (B_call d5.o a1)).setRow (by omega) _,?_⟩;exact HP.o _ _ _ (e5.o w2 (by simpa using f1) (H0.o.below (B_call d5.o a1))) (jp.setRow (zg a6.o a1 (zi a6.o)) _)
 replace f1:=Classical.not_not.1 f1;have j6:decide ((15:Int)<(q.tt.size:Int))=false:=by simp;omega
 obtain ⟨rw,hok,l2,l1,e1⟩:=zgf e0;obtain ⟨i8,i7,j0⟩:=zi3 l2 l1 e1;clear e0 l2 l1 e1;go_upto_region 4 with (first|((with_reducible refine gV 11 ?_);refine mV [.int .i64 q.rt,.string q.rk,.string q.rv] f7.o ?_)|((with_reducible refine aV 56 d7.o ?_);rintro j7 w2 ⟨rfl,a1⟩;have l7:=qU k6 a1 (ZR k6)));obtain ⟨X,g4⟩:=ex (w2.alloc (.cells qJ 31));rw [<- g4];have g3:zd w1 X:=by rw [g4];exact B_alloc a1 _
 have h4:X.heap[w2.heap.size]?=some (.cells qJ 31 (0,0)):=by rw [g4];exact zo _ _ rfl
 have g2:=zg h1.o g3 (zi h1.o);have k1:=zg a6.o g3 (zi a6.o);have h5:zd w X:=B_call d5.o g3;have d8:=H0.o.below h5;obtain ⟨g,hg⟩:=ex w2.heap.size;have e9:w.heap.size+2<=g:=by have j8:=a1.size;have n3:=j4.o;omega
 rw [<- hg] at h4 ⊢;obtain ⟨d1,j5,_,_,_⟩:=qs.b8 d8 (za _) hr hl;have kk:=xV (Value.int .i64 q.kd) 0 g2;obtain ⟨hT,m7⟩:=d8.ad r l hr hl;have e7:=hid (fun hx:qd l.a l.b l.s H=>qs.d4 d8 hr hl (zap hT hx) rfl);have e6:=hid (zi d8.U);obtain ⟨c1,HT,c0,c3,d0,c2⟩:=zi6 d8 hT h5 h4 g2 k1;have n1:=hid hT.hr;have a9:=hid (fun (v:ui) e s' b' cur' a W (j8:Ge l.a.r l.s txn T x q rw v e s')=>i2.o rw v e s' b' cur' a W hok i8.o i7.o j0.o f1 j8);have h8:(zJ q)=[.int .i64 q.kd,.int .i64 q.tn,.int .i64 q.hd,.int .i64 rw.t,.string (zb rw.k),.string (zb rw.v),.string q.tt,.int .i64 q.n,.int .u64 q.mask,.slice q.dA q.dn q.dc]:=by unfold zJ;rw [i8.o,i7.o,j0.o]
 have c8:=hid h8;have n0:=hid (zfe g2 h8);obtain ⟨d6,i4⟩:=zi2 hok k3;clear g4 g3 a1 h4 g2 k1 h5 d8 hT m7 k6 l7 d7 f1 j6 f7 i2 e5 H0 d5 h1 a6 g9 j4 hg h8 k3 hok;go_upto_block 0 with fail;go_cut [26] from 23 to 154 (fun _ wc=>JP bz P w g wc)
 case first =>
  obtain D | D | D | D | D | D | D | D:q.kd=5∨q.kd=6∨q.kd=7∨q.kd=8∨q.kd=9∨q.kd=10∨q.kd=11∨q.kd=12:=by have:=m0.o;omega
  ·rw [D];have a3:=hid D;clear D;obtain ⟨rv,e1⟩:=ex (l.s.cp txn rw.t rw.k);have i9:=hid e1;have i6:=hid (zmk l.a l.b cur l.s txn rw.t rw.k X.drew HT.o.sto.drew (by omega) (by have:=d6.o.1;omega) (by have:=d6.o.2.1;omega) O.o.so (zz O.o.il (by decide)));rw [<- e1] at i6;clear e1;go_upto_region 6 with fail;refine sV [16,18] 19 (fun w'=>zH w' H (1+r*5) (.pointer (some ⟨l.a.S,0,none⟩))/\w'.heap[w.heap.size]?=some (.cells (zJ q).toArray 37 (0,0))) ⟨d1,d0.o⟩ fun L=>?_;refine pV 0 ?_;refine pV 1 ?_;refine pV 2 ?_;refine cV 3 (fun _ h=>h.1) ?_;refine pV 4 ?_;refine pV 5 ?_;refine pV 6 ?_;refine cV 7 (fun _ h=>xV (Value.int .i64 rw.t) 3 h.2 (by rw [c8.o];rfl)) ?_;refine pV 8 ?_;refine pV 9 ?_;refine cV 10 (fun _ h=>xV (Value.string (zb rw.k)) 4 h.2 (by rw [c8.o];rfl)) ?_;refine oC 11 i6.o ?_;rintro e4 w4 ⟨rfl,b4,R,E⟩;obtain ⟨z,U⟩:=Zc c1.o.drew hr hl R E;have u:=z _ _ _ (by decide) (show X.drew.heap[_]?=_ from c3.o);refine eV ⟨(yt (E.ac.block H e6.o e7.o)).trans L.1,z _ _ _ (by decide) L.2⟩ fun L=>?_;refine pV 12 ?_;refine pV 13 ?_;refine pV 14 ?_;refine pV 15 ?_;refine lV 16 fun K Y=>?_;refine jz 9 (.tmp 41) (.tmp 39) rfl g 2 _ 31 (.string (zb rv.1)) (by rfl) (by rfl) (by kernel_rfl) u (by simp) rfl ?_;refine Y.out _ _ ?_;clear Y K;try simp only [pS]
   refine pV 17 ?_;refine lV 18 fun K Y=>?_;have a4:=zB w4 g 2 _ _ (.string (zb rv.1)) u;refine jz 28 (.tmp 42) (.tmp 40) rfl g 0 _ 31 (.int .i64 rv.2) (by rfl) (by rfl) (by kernel_rfl) a4 (by simp) rfl ?_;refine Y.out _ _ ?_;clear Y K;try simp only [pS]
   refine dV ?_;have Z:=a9.o ⟨rv.2,0,rv.1,[],[]⟩ false (zfb l.s txn rw.t rw.k) b4 cur ⟨rv.2,0,zb rv.1,none,0,0,none,0,0⟩ _ (.inl ⟨a3.o,by rw [i9.o],rfl,rfl⟩) ⟨rfl,rfl,rfl,ql _ _ _ _,ql _ _ _ _⟩ ((U.br (jp.setCell (o:=2) u (.string (zb rv.1)))).br (jp.setCell (o:=0) a4 (.int .i64 rv.2)));have HM:=hid (show JP bz P w g _ from ⟨⟨rv.2,0,zb rv.1,none,0,0,none,0,0⟩,by rw [zB _ _ 0 _ _ _ a4];rfl,(zt _ _ _ _ (by simp only;omega)).trans ((zt _ _ _ _ (by simp only;omega)).trans (z _ _ _ (by decide) (show X.drew.heap[_]?=_ from c2.o))),(((zv.below c0.o).trans (zv.ay z)).setCell (by omega) _).setCell (by omega) _,by rw [i9.o];exact zpl _ _ _ _,Z⟩);clear Z U z u a4 R E L;go_wp2_with fail;go_meet
   case rel=>exact HM.o
  ·rw [D];have a3:=hid D;clear D;go_upto_region 8 with fail;refine sV [9] 10 (fun w'=>zH w' H (1+r*5) (.pointer (some ⟨l.a.S,0,none⟩))/\w'.heap[w.heap.size]?=some (.cells (zJ q).toArray 37 (0,0))) ⟨d1,d0.o⟩ fun L=>?_;refine pV 0 ?_;refine pV 1 ?_;refine pV 2 ?_;refine cV 3 (fun _ h=>h.1) ?_;refine pV 4 ?_;refine pV 5 ?_;refine kV 6 rfl (yieldsIf_load_mid (by rfl) 34 (.tmp 50) rfl w.heap.size 3 (by rfl) [.int .i64 rw.t,.string (zb rw.k),.string (zb rw.v)] _ (fun _ h=>zfe h.2 c8.o) underlying34 rfl (by kernel_rfl)) ?_;refine oC 7 (zmj l.a l.b cur l.s txn T x rw X.drew HT.o.sto.drew e2 e3 c6 d6.o O.o.wf O.o.so (zz O.o.il (by decide)) O.o.pos O.o.J) ?_;rintro e4 w4 ⟨a5,a8,b4,b9,rfl,R,E⟩;obtain ⟨z,U⟩:=Zc c1.o.drew hr hl R E;have u:=z _ _ _ (by decide) (show X.drew.heap[_]?=_ from c3.o);refine eV ⟨(yt (E.ac.block H e6.o e7.o)).trans L.1,z _ _ _ (by decide) L.2⟩ fun L=>?_;refine pV 8 ?_;refine lV 9 fun K Y=>?_;refine jz 28 (.tmp 53) (.tmp 52) rfl g 0 _ 31 (.int .i64 (l.s.put l.a.r a5 a8 txn x.ops rw).1) (by rfl) (by rfl) (by kernel_rfl) u (by simp) rfl ?_;refine Y.out _ _ ?_;clear Y K;try simp only [pS]
   refine dV ?_;have Z:=a9.o (yj (l.s.put l.a.r a5 a8 txn x.ops rw).1) false ((l.s.put l.a.r a5 a8 txn x.ops rw).2) b4 b9 (qo (l.s.put l.a.r a5 a8 txn x.ops rw).1) _ (.inr (.inl ⟨a3.o,a5,a8,rfl,rfl,rfl⟩)) (Kb.e _ _) (U.br (jp.setCell (o:=0) u (.int .i64 (l.s.put l.a.r a5 a8 txn x.ops rw).1)));have HM:=hid (JP.one (P:=P) u (z _ _ _ (by decide) (show X.drew.heap[_]?=_ from c2.o)) ((zv.below c0.o).trans (zv.ay z)) e9 (zqD _ _ _ _ _ _ _) Z);clear Z U z u R E L;go_wp2_with fail;go_meet
   case rel=>exact HM.o
  ·rw [D];have a3:=hid D;clear D;go_upto_region 10 with fail;refine sV [13] 14 (fun w'=>zH w' H (1+r*5) (.pointer (some ⟨l.a.S,0,none⟩))/\w'.heap[w.heap.size]?=some (.cells (zJ q).toArray 37 (0,0))) ⟨d1,d0.o⟩ fun L=>?_;refine pV 0 ?_;refine pV 1 ?_;refine pV 2 ?_;refine cV 3 (fun _ h=>h.1) ?_;refine pV 4 ?_;refine pV 5 ?_;refine pV 6 ?_;refine cV 7 (fun _ h=>xV (Value.int .i64 rw.t) 3 h.2 (by rw [c8.o];rfl)) ?_;refine pV 8 ?_;refine pV 9 ?_;refine cV 10 (fun _ h=>xV (Value.string (zb rw.k)) 4 h.2 (by rw [c8.o];rfl)) ?_;refine oC 11 (zqa l.a l.b cur l.s txn T rw.t rw.k x X.drew HT.o.sto.drew e2 e3 c6 (by have:=d6.o.1;omega) (by have:=d6.o.2.1;omega) O.o.wf O.o.so (zz O.o.il (by decide)) O.o.pos O.o.J) ?_;rintro e4 w4 ⟨a8,b4,b9,rfl,R,E⟩;obtain ⟨z,U⟩:=Zc c1.o.drew hr hl R E;have u:=z _ _ _ (by decide) (show X.drew.heap[_]?=_ from c3.o);refine eV ⟨(yt (E.ac.block H e6.o e7.o)).trans L.1,z _ _ _ (by decide) L.2⟩ fun L=>?_;refine pV 12 ?_;refine lV 13 fun K Y=>?_;refine jz 28 (.tmp 68) (.tmp 67) rfl g 0 _ 31 (.int .i64 (l.s.bs l.a.r a8 txn x.ops rw.t rw.k).1) (by rfl) (by rfl) (by kernel_rfl) u (by simp) rfl ?_;refine Y.out _ _ ?_;clear Y K;try simp only [pS]
   refine dV ?_;have Z:=a9.o (yj (l.s.bs l.a.r a8 txn x.ops rw.t rw.k).1) false ((l.s.bs l.a.r a8 txn x.ops rw.t rw.k).2) b4 b9 (qo (l.s.bs l.a.r a8 txn x.ops rw.t rw.k).1) _ (.inr (.inr (.inl ⟨a3.o,a8,rfl,rfl,rfl⟩))) (Kb.e _ _) (U.br (jp.setCell (o:=0) u (.int .i64 (l.s.bs l.a.r a8 txn x.ops rw.t rw.k).1)));have HM:=hid (JP.one (P:=P) u (z _ _ _ (by decide) (show X.drew.heap[_]?=_ from c2.o)) ((zv.below c0.o).trans (zv.ay z)) e9 (zpZ _ _ _ _ _ _ _) Z);clear Z U z u R E L;go_wp2_with fail;go_meet
   case rel=>exact HM.o
  ·rw [D];have a3:=hid D;clear D;obtain ⟨sc,h9⟩:=ex (l.s.bi txn rw.t rw.k q.tt);have g8:=hid h9;have j1:=hid (zpG l.a l.b cur l.s txn rw.t rw.k q.tt X.drew HT.o.sto.drew (by omega) (by have:=d6.o.1;omega) (zz O.o.il (by decide)) O.o.so);rw [<- h9] at j1;clear h9;go_upto_region 12 with fail;refine sV [18,20] 21 (fun w'=>zH w' H (1+r*5) (.pointer (some ⟨l.a.S,0,none⟩))/\w'.heap[w.heap.size]?=some (.cells (zJ q).toArray 37 (0,0))) ⟨d1,d0.o⟩ fun L=>?_;refine pV 0 ?_;refine pV 1 ?_;refine pV 2 ?_;refine cV 3 (fun _ h=>h.1) ?_;refine pV 4 ?_;refine pV 5 ?_;refine pV 6 ?_;refine cV 7 (fun _ h=>xV (Value.int .i64 rw.t) 3 h.2 (by rw [c8.o];rfl)) ?_;refine pV 8 ?_;refine pV 9 ?_;refine cV 10 (fun _ h=>xV (Value.string (zb rw.k)) 4 h.2 (by rw [c8.o];rfl)) ?_;refine pV 11 ?_;refine cV 12 (fun _ h=>xV (Value.string q.tt) 6 h.2) ?_;refine oC 13 (j1.o) ?_;rintro e4 w4 ⟨v4,b4,rfl,d9,R,E⟩;obtain ⟨A4,d2,rfl⟩:=own_slice d9;obtain ⟨z,U⟩:=Zc c1.o.drew hr hl R E;have u:=z _ _ _ (by decide) (show X.drew.heap[_]?=_ from c3.o);refine eV ⟨(yt (E.ac.block H e6.o e7.o)).trans L.1,z _ _ _ (by decide) L.2⟩ fun L=>?_;refine pV 14 ?_;refine pV 15 ?_;refine pV 16 ?_;refine pV 17 ?_;refine lV 18 fun K Y=>?_;refine jz 22 (.tmp 88) (.tmp 86) rfl g 3 _ 31 (.slice A4 sc.2.1.length d2) (by rfl) (by rfl) (by kernel_rfl) u (by simp) rfl ?_;refine Y.out _ _ ?_;clear Y K;try simp only [pS]
   refine pV 19 ?_;refine lV 20 fun K Y=>?_;have a4:=zB w4 g 3 _ _ (.slice A4 sc.2.1.length d2) u;refine jz 28 (.tmp 89) (.tmp 87) rfl g 0 _ 31 (.int .i64 sc.1) (by rfl) (by rfl) (by kernel_rfl) a4 (by simp) rfl ?_;refine Y.out _ _ ?_;clear Y K;try simp only [pS]
   refine dV ?_;have k8:((w4.setCell ⟨g,3,none⟩ (.slice A4 sc.2.1.length d2)).setCell ⟨g,0,none⟩ (.int .i64 sc.1)).ownsRow 0 34 3 (.slice A4 sc.2.1.length d2) (sc.2.1.map (·.rw)).length (jn (sc.2.1.map (·.rw))):=by rw [List.length_map];exact jK (own_set1 (own_set1 d9 (own_ne d9 u (by decide)) _ _) (own_ne (own_set1 d9 (own_ne d9 u (by decide)) 3 _) a4 (by decide)) _ _) (zT _)
   have Z:=a9.o ⟨sc.1,0,[],sc.2.1.map (·.rw),[]⟩ false sc.2.2 b4 cur ⟨sc.1,0,zb [],A4,sc.2.1.length,d2,none,0,0⟩ _ (.inr (.inr (.inr (.inl ⟨a3.o,by rw [g8.o],rfl,by rw [g8.o]⟩)))) ⟨rfl,rfl,rfl,k8,ql _ _ _ _⟩ ((U.br (jp.setCell (o:=3) u (.slice A4 sc.2.1.length d2))).br (jp.setCell (o:=0) a4 (.int .i64 sc.1)));have HM:=hid (show JP bz P w g _ from ⟨⟨sc.1,0,zb [],A4,sc.2.1.length,d2,none,0,0⟩,by rw [zB _ _ 0 _ _ _ a4];rfl,(zt _ _ _ _ (by simp only;omega)).trans ((zt _ _ _ _ (by simp only;omega)).trans (z _ _ _ (by decide) (show X.drew.heap[_]?=_ from c2.o))),(((zv.below c0.o).trans (zv.ay z)).setCell (by omega) _).setCell (by omega) _,by rw [g8.o];exact zpF _ _ _ _ _,Z⟩);clear Z U z u a4 R E L d9 k8;go_wp2_with fail;go_meet
   case rel=>exact HM.o
  ·rw [D];have a3:=hid D;clear D;have h6:=QT l.a.S txn l.s.ts (some (T,x)) X HT.o.sto.aq.row e2 e3 c6;simp only [qk] at h6;obtain ⟨l3,i1⟩:=HT.o.sto.aq.tx txn T x c6;have l8:=hid h6;have j3:=hid (zpB T x (l.b.G txn) X l3 i1);have j2:=hid (zpA i1);obtain ⟨sv,i0⟩:=ex x.bt;have f8:=hid i0;rw [<- i0] at j3 j2;clear h6 l3 i1 i0;go_upto_if 104 with (first|((with_reducible refine aV 88 l8.o ?_);rintro e4 w4 ⟨rfl,n4⟩;subst w4)|((with_reducible refine aV 115 j3.o ?_);rintro e4 w4 ⟨rfl,G4,m8,m5,m6⟩;obtain ⟨R,E⟩:=HT.o.sto.d6 c6 m8 j2.o m5 m6;obtain ⟨z,U⟩:=Zc c1.o hr hl R E;have u:=z _ _ _ (by decide) c3.o;have f9:=zI w4 g 1 _ _ u;have k9:=ze w4 g 1 _ _ _ u));have a4:=zB w4 g 1 _ _ (.int .i64 sv.1) u;have h3:(w4.setCell ⟨g,1,none⟩ (.int .i64 sv.1)).heap[w.heap.size+1]?=_:=(zt _ _ _ _ (by simp only;omega)).trans (z _ _ _ (by decide) c2.o);have h7:=(((zv.below c0.o).trans z)).setCell (g:=g) (o:=1) (by omega) (.int .i64 sv.1);have a7:=U.br (jp.setCell (o:=1) u (.int .i64 sv.1));obtain ⟨w5,a0⟩:=ex (w4.setCell ⟨g,1,none⟩ (.int .i64 sv.1));rw [<- a0] at a4 h3 h7 a7 ⊢;have n2:=zI w5 g 0 _ _ a4;have n5:=ze w5 g 0 _ _ _ a4;have HX:=hid a4;have H8:=hid h3;have i5:=hid h7;have i3:=hid a7;clear a0 a4 h3 h7 a7 U z R E u f9 k9;by_cases h0:sv.1=0
   ·have q1:((sv.1:Int) == 0)=true:=by rw [h0];rfl
    have Z:=a9.o ⟨8,sv.1,[],[],[]⟩ false { l.s with ts:=l.s.ts.set txn (some (T,sv.2)) } { l.b with G:=zZ l.b.G txn G4 } cur ⟨8,sv.1,zb [],none,0,0,none,0,0⟩ _ (.inr (.inr (.inr (.inr (.inl ⟨a3.o,by rw [<- f8.o,if_pos h0],rfl,by rw [f8.o]⟩))))) ⟨rfl,rfl,rfl,ql _ _ _ _,ql _ _ _ _⟩ (i3.o.br (jp.setCell (o:=0) HX.o (.int .i64 8)));have HM:=hid (show JP bz P w g _ from ⟨⟨8,sv.1,zb [],none,0,0,none,0,0⟩,by rw [zB _ _ 0 _ _ _ HX.o];rfl,(zt _ _ _ _ (by simp only;omega)).trans H8.o,i5.o.setCell (by omega) _,by show (8:Int)≠10;decide,Z⟩);clear Z;go_wp2_with fail;go_meet
    case rel=>exact HM.o
   ·have q1:((sv.1:Int) == 0)=false:=by rw [beq_eq_false_iff_ne];omega
    have Z:=a9.o ⟨0,sv.1,[],[],[]⟩ false { l.s with ts:=l.s.ts.set txn (some (T,sv.2)) } { l.b with G:=zZ l.b.G txn G4 } cur ⟨0,sv.1,zb [],none,0,0,none,0,0⟩ _ (.inr (.inr (.inr (.inr (.inl ⟨a3.o,by rw [<- f8.o,if_neg h0],rfl,by rw [f8.o]⟩))))) ⟨rfl,rfl,rfl,ql _ _ _ _,ql _ _ _ _⟩ i3.o;have HM:=hid (show JP bz P w g _ from ⟨⟨0,sv.1,zb [],none,0,0,none,0,0⟩,by rw [HX.o];rfl,H8.o,i5.o,by show (0:Int)≠10;decide,Z⟩);clear Z;go_wp2_with fail;go_meet
    case rel=>exact HM.o
  ·rw [D];have a3:=hid D;clear D;go_upto_region 18 with fail;refine sV [9] 10 (fun w'=>zH w' H (1+r*5) (.pointer (some ⟨l.a.S,0,none⟩))/\w'.heap[w.heap.size]?=some (.cells (zJ q).toArray 37 (0,0))) ⟨d1,d0.o⟩ fun L=>?_;refine pV 0 ?_;refine pV 1 ?_;refine pV 2 ?_;refine cV 3 (fun _ h=>h.1) ?_;refine pV 4 ?_;refine pV 5 ?_;refine cV 6 (fun _ h=>xV (Value.int .i64 q.n) 7 h.2) ?_;refine oC 7 (zlc l.a l.b cur l.s txn T q.n x X.drew HT.o.sto.drew e2 e3 c6 O.o.so O.o.il O.o.sv (O.o.iv HT.o.sto)) ?_;rintro e4 w4 ⟨a5,b4,b9,rfl,k5,R,E⟩;obtain ⟨z,U⟩:=Zc c1.o.drew hr hl R E;have u:=z _ _ _ (by decide) (show X.drew.heap[_]?=_ from c3.o);refine eV ⟨(yt (E.ac.block H e6.o e7.o)).trans L.1,z _ _ _ (by decide) L.2⟩ fun L=>?_;refine pV 8 ?_;refine lV 9 fun K Y=>?_;refine jz 28 (.tmp 116) (.tmp 115) rfl g 0 _ 31 (.int .i64 (l.s.a4 l.a.r txn a5 T x q.n).1) (by rfl) (by rfl) (by kernel_rfl) u (by simp) rfl ?_;refine Y.out _ _ ?_;clear Y K;try simp only [pS]
   refine dV ?_;have Z:=a9.o (yj (l.s.a4 l.a.r txn a5 T x q.n).1) false ((l.s.a4 l.a.r txn a5 T x q.n).2) b4 b9 (qo (l.s.a4 l.a.r txn a5 T x q.n).1) _ (.inr (.inr (.inr (.inr (.inr (.inl ⟨a3.o,a5,rfl,rfl,rfl,k5⟩)))))) (Kb.e _ _) (U.br (jp.setCell (o:=0) u (.int .i64 (l.s.a4 l.a.r txn a5 T x q.n).1)));have HM:=hid (JP.one (P:=P) u (z _ _ _ (by decide) (show X.drew.heap[_]?=_ from c2.o)) ((zv.below c0.o).trans (zv.ay z)) e9 (zoE _ _ _ _ _ _ _) Z);clear Z U z u R E L;go_wp2_with fail;go_meet
   case rel=>exact HM.o
  ·rw [D];have a3:=hid D;clear D;have g6:=hid (zbB l.a l.b cur l.s txn T x X HT.o.sto e2 e3 c6 O.o.ii);go_upto_region 22 with ((with_reducible refine aV 49 g6.o ?_);rintro e4 w4 ⟨rfl,b4,b9,R,E⟩;obtain ⟨z,U⟩:=Zc c1.o hr hl R E;have u:=z _ _ _ (by decide) c3.o;have f9:=zI w4 g 0 _ _ u;have k9:=ze w4 g 0 _ _ _ u);have c7:=z _ _ _ (by decide) c2.o;have f4:=z _ _ _ (by decide) d0.o;obtain ⟨w5,a0⟩:=ex (w4.setCell ⟨g,0,none⟩ (.int .i64 0));rw [<- a0];have f6:w5.heap[g]?=some (.cells (zV (qo 0)).toArray 31 (0,0)):=by rw [a0];exact zbn u
   have f5:w5.heap[w.heap.size+1]?=some (.cells qJ 31 (0,0)):=by rw [a0];exact (zt _ _ _ _ (by simp only;omega)).trans c7
   have d4:w5.heap[w.heap.size]?=some (.cells (zJ q).toArray 37 (0,0)):=by rw [a0];exact (zt _ _ _ _ (by simp only;omega)).trans f4
   have a7:=U.br (jp.setCell (o:=0) u (.int .i64 0));rw [<- a0] at a7;have c4:zv bz w w5:=by rw [a0];exact ((zv.below c0.o).trans z).setCell (by omega) _
   obtain ⟨s4,c5⟩:=ex (l.s.am txn x);rw [<- c5] at a7;have d3:(vt ts b4.F r { ts r with ad:=some { l with b:=b4,s:=s4 } } r).ad=some { l with b:=b4,s:=s4 }:=by rw [jH]
   have f3:Ge l.a.r l.s txn T x q rw (yj 0) true s4:=.inr (.inr (.inr (.inr (.inr (.inr (.inl ⟨a3.o,rfl,rfl,c5⟩))))));have g7:=hid (zgo HP.o a7 hr d3 f6 f5 d4 c4 e9 k4 i4.o (fun W hW=>by
    have:=a9.o (yj 0) true s4 b4 b9 (qo 0) W f3 (Kb.e _ _);rw [zcn,jH] at hW;exact this hW))
   obtain ⟨_,e8,_,_,_⟩:=qs.b8 a7.drew (za _) hr d3;have hS:=And.intro e8 d4;clear a0 f6 f5 d4 c4 U a7 R E z u c7 f4 d1 j5 f9 k9 e8 d3 c5 f3;refine sV [6] 7 (fun w'=>zH w' H (1+r*5+1) (.pointer (some ⟨l.kb,0,none⟩))/\w'.heap[w.heap.size]?=some (.cells (zJ q).toArray 37 (0,0))) hS fun L=>?_;refine pV 0 ?_;refine pV 1 ?_;refine pV 2 ?_;refine cV 3 (fun _ h=>h.1) ?_;refine pV 4 ?_;refine cV 5 (fun _ h=>xV (Value.int .i64 q.hd) 2 h.2) ?_;refine lC 6 g7.o ?_;rintro m4 w6 ⟨rfl,f0⟩;refine eL ?_;refine dV ?_;have HM:=hid f0;clear f0 hS L;go_wp2_with fail;go_meet
   case rel=>exact HM.o
  ·rw [D];have a3:=hid D;clear D;have g6:=hid (zfx l.a l.b cur l.s txn T x X HT.o.sto e2 e3 c6 O.o.so O.o.il (14336-(l.s.sto.Q.length+(if x.I=[] then 0 else (x.I.length+1)*395))) (by have:=O.o.di;omega));go_upto_region 26 with ((with_reducible refine aV 85 g6.o ?_);rintro e4 w4 ⟨rfl,a5,b4,b9,k5,R,E⟩;obtain ⟨z,U⟩:=Zc c1.o hr hl R E;have u:=z _ _ _ (by decide) c3.o;have f9:=zI w4 g 0 _ _ u;have k9:=ze w4 g 0 _ _ _ u);have c7:=z _ _ _ (by decide) c2.o;have f4:=z _ _ _ (by decide) d0.o;obtain ⟨w5,a0⟩:=ex (w4.setCell ⟨g,0,none⟩ (.int .i64 0));rw [<- a0];have f6:w5.heap[g]?=some (.cells (zV (qo 0)).toArray 31 (0,0)):=by rw [a0];exact zbn u
   have f5:w5.heap[w.heap.size+1]?=some (.cells qJ 31 (0,0)):=by rw [a0];exact (zt _ _ _ _ (by simp only;omega)).trans c7
   have d4:w5.heap[w.heap.size]?=some (.cells (zJ q).toArray 37 (0,0)):=by rw [a0];exact (zt _ _ _ _ (by simp only;omega)).trans f4
   have a7:=U.br (jp.setCell (o:=0) u (.int .i64 0));rw [<- a0] at a7;have c4:zv bz w w5:=by rw [a0];exact ((zv.below c0.o).trans z).setCell (by omega) _
   obtain ⟨s4,c5⟩:=ex (l.s.be l.a.r txn a5 x);rw [<- c5] at a7;have d3:(vt ts b4.F r { ts r with ad:=some { l with b:=b4,s:=s4 } } r).ad=some { l with b:=b4,s:=s4 }:=by rw [jH]
   have f3:Ge l.a.r l.s txn T x q rw (yj 0) true s4:=.inr (.inr (.inr (.inr (.inr (.inr (.inr ⟨a3.o,a5,rfl,rfl,c5,by have:=O.o.di;rw [c5];omega⟩))))));have g7:=hid (zgo HP.o a7 hr d3 f6 f5 d4 c4 e9 k4 i4.o (fun W hW=>by
    have:=a9.o (yj 0) true s4 b4 b9 (qo 0) W f3 (Kb.e _ _);rw [zcn,jH] at hW;exact this hW))
   obtain ⟨_,e8,_,_,_⟩:=qs.b8 a7.drew (za _) hr d3;have hS:=And.intro e8 d4;clear a0 f6 f5 d4 c4 U a7 R E z u c7 f4 d1 j5 f9 k9 e8 d3 c5 f3;refine sV [6] 7 (fun w'=>zH w' H (1+r*5+1) (.pointer (some ⟨l.kb,0,none⟩))/\w'.heap[w.heap.size]?=some (.cells (zJ q).toArray 37 (0,0))) hS fun L=>?_;refine pV 0 ?_;refine pV 1 ?_;refine pV 2 ?_;refine cV 3 (fun _ h=>h.1) ?_;refine pV 4 ?_;refine cV 5 (fun _ h=>xV (Value.int .i64 q.hd) 2 h.2) ?_;refine lC 6 g7.o ?_;rintro m4 w6 ⟨rfl,f0⟩;refine eL ?_;refine dV ?_;have HM:=hid f0;clear f0 hS L;go_wp2_with fail;go_meet
   case rel=>exact HM.o
 case rest =>obtain ⟨an,u,c7,c4,k7,l0⟩:=hcut;obtain ⟨m3,h2,l9,m2,m1⟩:=zi5 u c7 c4 l0 k7;clear u c7 c4 l0 k7;go_wp2_with (first|((with_reducible refine gV 155 ?_);refine rV m3.o ?_)|((with_reducible refine hV 8 ?_);refine wV 0 (zV an).toArray h2.o ?_));refine jo (an:=an) 8 rfl rfl rfl h2.o rfl ⟨an,rfl,m1.o,l9.o.setRow (by omega) _,?_⟩;exact HP.o _ _ _ m2.o (jp.setRow h2.o _)
end
def yD (s:List UInt8 × Bool) (k:Nat):Nat × List UInt8 × Bool:=if s.2=true∨s.1.length<k then (0,s.1,true) else (QG (s.1.take k),s.1.drop k,false)
def ZW (s:List UInt8 × Bool):List UInt8 × List UInt8 × Bool:=if (yD s 1).2.2=true∨(yD s 1).2.1.length<(yD s 1).1 then ([],(yD s 1).2.1,true) else ((yD s 1).2.1.take (yD s 1).1,(yD s 1).2.1.drop (yD s 1).1,false)
theorem zeY (G k:Nat) (s:List UInt8 × Bool) (w:World) (h:jw w G s.1 s.2) (O:1<=k) (R:k<=8) (hs:s.1.length<=1000000) :
  zc 52 #[.pointer (some ⟨G,0,none⟩),.int .i64 k] w fun r w'=>r=.returned (.int .u64 (yD s k).1)/\jw w' G (yD s k).2.1 (yD s k).2.2/\w.grownBy w' (some G):=by
 obtain ⟨l,z⟩:=s;unfold yD;simp only at h hs ⊢;by_cases u:z=true∨l.length<k
 ·rw [if_pos u];obtain ⟨A,c,D⟩:=h;have E:=hid (YH G A l.length c (zD l) z k w D (by rcases u with u | u;exact .inl u;exact .inr (.inr (by omega))));have U:decide ((k:Int)<1)=false:=by simp;omega
  have X:decide ((8:Int)<(k:Int))=false:=by simp;omega
  clear D;go_enter func52,ntmps52;go_wp2_with ((with_reducible refine aV 99 E.o ?_);rintro r w1 ⟨rfl,D,L⟩);refine wp_loop_rounds 1 ?_;rw [rounds_succ];go_wp2_with fail;go_ret;exact ⟨rfl,⟨A,c,D⟩,L⟩
 ·rw [if_neg u];have hb:z=false:=by cases z with | false=>rfl | true=>exact absurd (.inl rfl) u
  subst hb;exact zag G l k w h (by omega) (by omega) (by omega) hs
theorem zid (G:Nat) (s:List UInt8 × Bool) (w:World) (h:jw w G s.1 s.2) (hs:s.1.length<=1000000) :
  zc 54 #[.pointer (some ⟨G,0,none⟩)] w fun r w'=>r=.returned (.string (zb (ZW s).1))/\jw w' G (ZW s).2.1 (ZW s).2.2/\w.grownBy w' (some G):=by
 have E:Hid (zc 52 #[.pointer (some ⟨G,0,none⟩),.int .i64 1] w _):=hid (zeY G 1 s w h (by omega) (by omega) hs);have U:(yD s 1).2.1.length<=1000000:=by
  unfold yD;split
  ·exact hs
  ·simp only [qI];omega
 have Y:(yD s 1).1<256:=by
  unfold yD;split
  ·simp
  ·rename_i u;rw [znE s.1 (by omega)];exact UInt8.toNat_lt _
 unfold ZW;obtain ⟨n,l,z,Z⟩:∃ n l z,yD s 1=(n,l,z):=⟨_,_,_,rfl⟩;rw [Z] at E U Y ⊢;simp only at E U Y ⊢;have x1:IntKind.i64.wrap (n:Int)=(n:Int):=by rw [zu];omega
 clear h hs Z;by_cases u:z=true∨l.length<n
 ·rw [if_pos u];go_enter func54,ntmps54;go_wp2_with (first|((with_reducible refine aV 52 E.o ?_);rintro r1 w1 ⟨rfl,D,O⟩;obtain ⟨A,c,D⟩:=D)|((with_reducible refine aV 99 (YH G A l.length c (zD l) z n w1 D (by rcases u with u | u;exact .inl u;exact .inr (.inr (by omega)))) ?_);rintro r2 X ⟨rfl,L,R⟩;have a0:=yh (zj.aj (l:=[]) rfl (ql X 0 5 1))));go_ret;exact ⟨rfl,⟨A,c,L⟩,O.trans R⟩
 ·rw [if_neg u];have hb:z=false:=by cases z with | false=>rfl | true=>exact absurd (.inl rfl) u
  subst hb;have hk:(n:Int)<=(l.length:Int):=by omega
  go_enter func54,ntmps54;go_wp2_with (first|((with_reducible refine aV 52 E.o ?_);rintro r1 w1 ⟨rfl,D,O⟩)|((with_reducible refine aV 99 (zfq G l n w1 D (by omega) hk U) ?_);rintro r2 X ⟨v,rfl,a1,L,R⟩;have a3:X.ownsRow w1.heap.size 5 1 v n (zD (l.take n)):=(by simpa using a1);have a0:=yh (zj.aj (by rw [qf];omega) a3)));go_ret;simp only [qp] at L;exact ⟨rfl,L,O.trans R⟩
def KZ (s:List UInt8 × Bool):Rw × List UInt8 × Bool:=(⟨(yD s 1).1,(ZW (yD s 1).2).1,(ZW (ZW (yD s 1).2).2).1⟩,(ZW (ZW (yD s 1).2).2).2)
def Jq (h:List Rw) (s:List UInt8 × Bool):Bool:=(KZ s).2.2 || (!vK (KZ s).1.t (zb (KZ s).1.k) (zb (KZ s).1.v) || match h.getLast? with
 | some y=>!QW y.t (zb y.k) (KZ s).1.t (zb (KZ s).1.k)
 | none=>false)
def QR:Nat->List UInt8 × Bool->List Rw->Option (List Rw × List UInt8 × Bool)
 | 0,s,acc=>some (acc,s)
 | n+1,s,acc=>if Jq acc s=true then none else QR n (KZ s).2 (acc++[(KZ s).1])
def Gu:List UInt8:=[84,78,77,49]
def jb (b:List UInt8):Nat × List Rw :=
 if b.length<10∨b.take 4≠Gu then (9,[])
 else if QG ((b.drop (b.length-4)).take 4)≠ZB (b.take (b.length-4)) then (9,[])
 else match QR (yD ((b.drop 4).take (b.length-4-4),false) 2).1 (yD ((b.drop 4).take (b.length-4-4),false) 2).2 [] with
  | none=>(9,[])
  | some (l,s)=>if s.2=true∨0<s.1.length then (9,[]) else if 30<l.length then (7,[]) else (0,l)
theorem zpb:∀ (l:List UInt8),QG l<256 ^ l.length:=by
 intro l;have key:∀ (l:List UInt8) (a m:Nat),a<256 ^ m->l.foldl (fun a b=>a*256+b.toNat) a<256 ^ (m+l.length):=by
  intro l;induction l with
  | nil=>intro a m h;simpa using h
  | cons x l ih =>intro a m h;rw [jM,qc,show m+(l.length+1)=(m+1)+l.length by omega];refine ih _ _ ?_;have:=x.toNat_lt;rw [Nat.pow_succ];omega
 have:=key l 0 0 (by simp);rw [qy] at this;exact this
theorem zjl {s:List UInt8 × Bool} {k:Nat} (z:1<=k):(yD s k).1<256 ^ k:=by
 unfold yD;split
 ·exact Nat.pow_pos (by decide)
 ·rename_i h;have u:=zpb (s.1.take k);rw [qf,Nat.min_eq_left (by omega)] at u;exact u
theorem KR (s:List UInt8 × Bool) (k:Nat):(yD s k).2.1.length<=s.1.length:=by
 unfold yD;split
 ·exact za _
 ·simp only [qI];omega
theorem zcm (s:List UInt8 × Bool):(ZW s).2.1.length<=s.1.length:=by
 have:=KR s 1;unfold ZW;split
 ·exact this
 ·simp only [qI];omega
theorem zpy (s:List UInt8 × Bool):(KZ s).2.1.length<=s.1.length:=zz (zcm _) (zz (zcm _) (KR _ _))
theorem zeJ:ue prog 29 1 24:=ue.of (by kernel_rfl)
theorem zmY (l:List UInt8):ZB l<4294967296:=by unfold ZB;exact Nat.xor_lt_two_pow (n:=32) (by decide) (Ky _ _ (by decide))
theorem zcW (v:Value) (b:List UInt8) (w:World) (h:zj w v b) (hl:b.length<=100000) :
  zc 29 #[v] w fun e w'=>∃ rv,e=.returned (.tuple #[rv,.int .i64 (jb b).1])/\w'.ownsRow w.heap.size 34 3 rv (jb b).2.length (jn (jb b).2)/\zd w w':=by
 obtain ⟨A,c,rfl,X,n5,n6⟩:=h;by_cases g2:b.length<10
 ·have q1:decide ((b.length:Int)<10)=true:=by simp;omega
  go_enter func29,ntmps29;go_wp2_with fail;go_ret2;have hd:jb b=(9,[]):=by unfold jb;rw [if_pos (.inl g2)]
  rw [hd];exact ⟨_,rfl,ql _ _ _ _,zf _ _⟩
 have q1:decide ((b.length:Int)<10)=false:=by simp;omega
 obtain ⟨ad,rfl⟩:∃ ad,A=some ad:=by obtain ⟨ad,e,_⟩:=X.2 (by omega);exact ⟨ad,e⟩
 have O:zj w (.slice (some ad) b.length c) b:=⟨_,_,rfl,X,n5,n6⟩;have p2:=yh (show zj w (.slice (some ad) 4 c) (b.take 4) from zj.sub O 0 4 (by omega) (by omega));have g5:(zb Gu).toList=[84,78,77,49]:=by kernel_rfl
 have f3:((zb (b.take 4)).toList == [84,78,77,49])=(b.take 4 == Gu):=by rw [<- g5];exact zcC _ _
 by_cases a7:b.take 4≠Gu
 ·have qm:((zb (b.take 4)).toList == [84,78,77,49])=false:=by rw [f3];simpa using a7
  have hd:jb b=(9,[]):=by unfold jb;rw [if_pos (.inr a7)]
  have Z:=hid hd;clear f3 g5 hd a7;go_enter func29,ntmps29;go_wp2_with fail;go_ret2;rw [Z.o];exact ⟨_,rfl,ql _ _ _ _,zf _ _⟩
 replace a7:=Classical.not_not.1 a7;have qm:((zb (b.take 4)).toList == [84,78,77,49])=true:=by rw [f3];simpa using a7
 obtain ⟨e,he⟩:∃ e,b.length=e+4:=⟨b.length-4,by omega⟩;have x1:IntKind.i64.wrap ((b.length:Int)-4)=(e:Int):=by rw [zu];omega
 have p5:b.length-e=4:=by omega
 have p7:¬ c=e:=by omega
 have l5:zj w (.slice (some (ad.add e)) 4 (c-e)) ((b.drop e).take 4):=zj.sub O e 4 (by omega) (by omega);have l6:zj w (.slice (some ad) e c) (b.take e):=zj.sub O 0 e (by omega) (by omega);have l8:zj w (.slice (some (ad.add 4)) (e-4) (c-4)) ((b.drop 4).take (e-4)):=zj.sub O 4 (e-4) (by omega) (by omega);obtain ⟨HE,i0,i4,f8,m9⟩:=zi5 he a7 l5 l6 l8;have q4:(0:Int)<=(e:Int):=by omega
 have q9:(e:Int)<=(b.length:Int):=by omega
 have r0:(e:Int)<=(c:Int):=by omega
 have c5:=hid (show ((b.drop e).take 4).length=4 by rw [qf,qI];omega);have p8:=zmY (b.take e);have q3:IntKind.u64.wrap (ZB (b.take e):Int)=(ZB (b.take e):Int):=by rw [IntKind.wrap_u64];omega
 clear f3 g5 a7 l5 l6 l8 he X O;go_enter func29,ntmps29;go_upto_region 4 with fail;have hS:zd w w.drew:=(zf _ _).drew;go_cut [31] from 20 to 31 (fun o6 wc=>∃ sb:Bool,o6=.bool sb/\(sb=true↔QG ((b.drop e).take 4)≠ZB (b.take e))/\zd w wc)
 case first =>
  refine sV [9] 12 (fun w'=>zd w w') hS fun u=>?_;refine pV 0 ?_;refine pV 1 ?_;refine pV 2 ?_;refine pV 5 ?_;refine pV 6 ?_;refine pV 7 ?_;refine PrintLast.two_ (i:=3) (j:=8) (Ni:=some 23) (Nj:=some 28) (bA 12 239) (bA 12 487) rfl rfl rfl rfl (by kernel_rfl) (by simp) (by simp) (fun K E=>?_) (fun K E=>?_)
  ·rw [if_pos (by rfl)];show Oper.wp _ ⟨some 23,_,_,_,_,_⟩ _ _ _ _;refine vI 51 _ _ [.slice (some (ad.add e)) 4 (c-e)] rfl (by kernel_rfl) (by rfl) ((Jh _ _ _ (i4.o.below u)).mono ?_);rintro e1 w1 ⟨rfl,a1,f0⟩;refine ⟨_,rfl,?_⟩;refine E.out _ _ (B_call u f0) (fun u=>?_);clear E K;try simp only [pS]
   refine PrintLast.two_ (i:=4) (j:=8) (Ni:=some 24) (Nj:=some 28) (bA 12 255) (bA 12 495) rfl rfl rfl rfl (by kernel_rfl) (by simp) (by simp) (fun K E=>?_) (fun K E=>?_)
   ·rw [if_pos (by rfl)];show Oper.wp _ ⟨some 24,_,_,_,_,_⟩ _ _ _ _;refine vI 52 _ _ [.pointer (some ⟨w.drew.heap.size,0,none⟩),.int .i64 4] rfl (by kernel_rfl) (by rfl) ((zag w.drew.heap.size ((b.drop e).take 4) 4 _ a1 (by omega) (by omega) (by rw [c5.o];decide) (by rw [c5.o];decide)).mono ?_);rintro e2 w2 ⟨rfl,j0,c2⟩;refine ⟨_,rfl,?_⟩;refine E.out _ _ (u.grown c2 (Nat.le_of_lt (jw.lt a1)) (fun q D=>by injection D with D;subst D;exact za _)) (fun u=>?_);clear E K;try simp only [pS]
    refine oV 8 fun K E=>?_;refine yv 184 29 1 24 (.tmp 27) rfl (.slice (some ad) e c) (by rfl) underlying184 zeJ (by rfl) (by omega) (by omega) ?_;refine E.out _ _ (B_alloc u _) (fun u=>?_);clear E K;try simp only [pS]
    refine lC 9 (zcD w2.heap.size 0 1 (.slice (some ad) e c) (b.take e) _ ((ze _ w2.heap.size 0 _ _ _ (zo w2 (.cells #[.slice (some ad) e c] 29) rfl)).trans rfl) (f8.o.below u) (by rw [qf];omega)) ?_;rintro g0 w3 ⟨rfl,d6⟩;subst d6;refine eL ?_;refine tV 10 ?_;refine pV 11 ?_;refine dV ?_;go_wp2_with fail;go_meet
    case rel=>exact ⟨_,rfl,by rw [List.take_take];simp;exact not_congr Int.ofNat_inj,u⟩
   ·rw [if_pos (by rfl)];show Oper.wp _ ⟨some 28,_,_,_,_,_⟩ _ _ _ _;refine yv 184 29 1 24 (.tmp 27) rfl (.slice (some ad) e c) (by rfl) underlying184 zeJ (by rfl) (by omega) (by omega) ?_;refine E.out _ _ (B_alloc u _) (fun u=>?_);clear E K;try simp only [pS]
    refine oC 4 (zag w.drew.heap.size ((b.drop e).take 4) 4 _ (a1.same fun k hk=>qb _ _ k (Nat.lt_of_le_of_lt hk (jw.lt a1))) (by omega) (by omega) (by rw [c5.o];decide) (by rw [c5.o];decide)) ?_;rintro e2 w2 ⟨rfl,j0,c2⟩;refine eV (u.grown c2 (by have:=jw.lt a1;simp;exact Nat.le_of_lt (Nat.lt_succ_of_lt this)) (fun q D=>by injection D with D;subst D;exact za _)) fun u=>?_;refine lC 9 (zcD w1.heap.size 0 1 (.slice (some ad) e c) (b.take e) _ ((ze _ w1.heap.size 0 _ _ _ (qq (zo w1 (.cells #[.slice (some ad) e c] 29) rfl) c2 (fun e=>by injection e with e;have:=jw.lt a1;omega))).trans rfl) (f8.o.below u) (by rw [qf];omega)) ?_;rintro g0 w3 ⟨rfl,d6⟩;subst d6;refine eL ?_;refine tV 10 ?_;refine pV 11 ?_;refine dV ?_;go_wp2_with fail;go_meet
    case rel=>exact ⟨_,rfl,by rw [List.take_take];simp;exact not_congr Int.ofNat_inj,u⟩
  ·rw [if_pos (by rfl)];show Oper.wp _ ⟨some 28,_,_,_,_,_⟩ _ _ _ _;refine yv 184 29 1 24 (.tmp 27) rfl (.slice (some ad) e c) (by rfl) underlying184 zeJ (by rfl) (by omega) (by omega) ?_;refine E.out _ _ (B_alloc u _) (fun u=>?_);clear E K;try simp only [pS]
   refine oC 3 (Jh _ _ _ (i4.o.below u)) ?_;rintro e1 w1 ⟨rfl,a1,f0⟩;refine eV (B_call u f0) fun u=>?_;refine oC 4 (zag (w.drew.alloc (.cells #[.slice (some ad) e c] 29)).heap.size ((b.drop e).take 4) 4 _ a1 (by omega) (by omega) (by rw [c5.o];decide) (by rw [c5.o];decide)) ?_;rintro e2 w2 ⟨rfl,j0,c2⟩;refine eV (u.grown c2 (zz (by simp) (Nat.le_of_lt (jw.lt a1))) (fun q D=>by injection D with D;subst D;simp)) fun u=>?_;refine lC 9 (zcD w.drew.heap.size 0 1 (.slice (some ad) e c) (b.take e) _ ((ze _ w.drew.heap.size 0 _ _ _ (qq (zg (zo w.drew (.cells #[.slice (some ad) e c] 29) rfl) f0 (by simp)) c2 (fun e=>by injection e with e;simp at e))).trans rfl) (f8.o.below u) (by rw [qf];omega)) ?_;rintro g0 w3 ⟨rfl,d6⟩;subst d6;refine eL ?_;refine tV 10 ?_;refine pV 11 ?_;refine dV ?_;go_wp2_with fail;go_meet
   case rel=>exact ⟨_,rfl,by rw [List.take_take];simp;exact not_congr Int.ofNat_inj,u⟩
 case rest =>
 obtain ⟨sb,rfl,f5,d2⟩:=hcut;cases sb with
 | true =>
  have k7:=f5.1 rfl;have hd:jb b=(9,[]):=by unfold jb;rw [if_neg (fun U=>U.elim (fun U=>g2 U) (fun U=>U i0.o)),show b.length-4=e by have:=HE.o;omega,if_pos k7]
  obtain ⟨Z,d7⟩:=zi2 hd d2;clear hd d2 f5 k7;go_wp2_with fail;go_ret2;rw [Z.o];exact ⟨_,rfl,ql _ _ _ _,d7.o⟩
 | false =>
 have k0:¬ QG ((b.drop e).take 4)≠ZB (b.take e):=fun h=>by have:=f5.2 h;cases this
 obtain ⟨s0,f4⟩:=ex (((b.drop 4).take (e-4),false):List UInt8 × Bool);have hd:jb b=match QR (yD s0 2).1 (yD s0 2).2 [] with
  | none=>(9,[])
  | some (l,s)=>if s.2=true∨0<s.1.length then (9,[]) else if 30<l.length then (7,[]) else (0,l):=by
  unfold jb;rw [if_neg (fun U=>U.elim (fun U=>g2 U) (fun U=>U i0.o)),show b.length-4=e by have:=HE.o;omega,if_neg k0,f4]
 have k5:s0.1.length<=100000:=by rw [f4];simp only [qf,qI];omega
 obtain ⟨Z,h9⟩:=zi2 hd k5;have r1:(4:Int)<=(e:Int):=by have:=HE.o;omega
 have p6:¬ c=4:=by have:=HE.o;omega
 have i5:Hid (zj wc (.slice (some ⟨ad.block,ad.off+4,none⟩) (e-4) (c-4)) ((b.drop 4).take (e-4))):=hid (m9.o.below d2);obtain ⟨d7,m7⟩:=zi2 d2 f4;clear hd d2 f5 k0 f4 k5;go_upto_region 8 with (go_at_call 51;(with_reducible refine (Jh _ _ wc i5.o).mono ?_);rintro o9 w5 ⟨rfl,j1,j7⟩);obtain ⟨G,hG⟩:=ex wc.heap.size;have j2:jw w5 G s0.1 s0.2:=by rw [hG,m7.o];exact j1
 have h7:=hid (B_call d7.o j7);have i2:Hid (zc 52 #[.pointer (some ⟨G,0,none⟩),.int .i64 2] w5 _):=hid (zeY G 2 s0 w5 j2 (by omega) (by omega) (by have:=h9.o;omega));have d9:=hid (show w.heap.size<=G by rw [hG];exact d7.o.size);rw [<- hG];clear j1 j7 hG j2 i5;go_upto_region 9 with ((with_reducible refine aV 52 i2.o ?_);rintro p0 w6 ⟨rfl,e6,k3⟩);obtain ⟨N,s1,D⟩:∃ N s1,yD s0 2=(N,s1):=⟨_,_,rfl⟩;have hN:N<65536:=by have:=zjl (s:=s0) (k:=2) (by omega);rw [D] at this;exact this
 have n9:s1.1.length<=100000:=by have:=KR s0 2;rw [D] at this;exact zz this h9.o
 rw [D] at Z e6 ⊢;simp only at Z e6 ⊢;have i8:zd w w6:=h7.o.grown k3 h7.o.size (fun q D=>by injection D with D;subst D;exact d9.o);obtain ⟨e5,hR⟩:∃ e5:Nat->Value->World->Prop,e5=fun j v6 wr=>∃ (z:List Rw) (s:List UInt8 × Bool),QR (N-j) s z=QR N s1 []/\z.length<=j/\(∀ r,r∈z->r.ok)/\s.1.length<=100000/\jw wr G s.1 s.2/\wr.ownsRow (G+1) 34 3 v6 z.length (jn z)/\zd w wr:=⟨_,rfl⟩;have i9:e5 0 (.slice none 0 0) w6:=by rw [hR];exact ⟨[],s1,rfl,za _,fun r h=>(by cases h),n9,e6,ql _ _ _ _,i8⟩
 obtain ⟨HR,i3⟩:=zi2 hR i9;clear hR i9 e6 k3 i8 i2 D;go_loopw [6,38] (fun v6 h4 wr=>∃ j:Nat,j<=N/\h4=.int .u64 j/\e5 j v6 wr) (fun _ h4 _=>N-(jF h4).toNat)
 case atStart=>exact ⟨0,zT _,rfl,i3.o⟩
 case round =>
  clear i3;obtain ⟨j,hj,rfl,hrel⟩:=hrel;rw [HR.o] at hrel;obtain ⟨z,s,d3,p4,g4,o4,d5,d4,f2⟩:=hrel;obtain ⟨A6,i6,rfl⟩:=own_slice d4;by_cases k6:j<N
  ·have q5:decide ((j:Int)<(N:Int))=true:=by simpa using k6
   obtain ⟨h8,m4,a4,b9⟩:=zi4 d3 g4 f2 d4;have i1:Hid (zc 52 #[.pointer (some ⟨G,0,none⟩),.int .i64 1] wr _):=hid (zeY G 1 s wr d5 (by omega) (by omega) (by omega));have o1:=zjl (s:=s) (k:=1) (by omega);have x3:IntKind.i64.wrap ((yD s 1).1:Int)=((yD s 1).1:Int):=by rw [zu];omega
   clear d3 g4 f2 d4 d5;go_upto_region 11 with (first|((with_reducible refine aV 52 i1.o ?_);rintro e7 w7 ⟨rfl,j3,k4⟩)|((with_reducible refine aV 54 (zid G (ZW (yD s 1).2).2 Y j4 (by have:=zcm (yD s 1).2;have:=KR s 1;omega)) ?_);rintro p1 w9 ⟨rfl,g3,c8⟩)|((with_reducible refine aV 54 (zid G (yD s 1).2 w7 j3 (by have:=KR s 1;omega)) ?_);rintro e8 Y ⟨rfl,j4,c7⟩));obtain ⟨x,L,f6⟩:∃ x L,KZ s=(x,L):=⟨_,_,rfl⟩;obtain ⟨R,d0⟩:=ex (w9.alloc (.cells #[.int .i64 x.t,.string (zb x.k),.string (zb x.v)] 34));have m2:x=(KZ s).1:=by rw [f6]
   have g8:L=(KZ s).2:=by rw [f6]
   have l9:w9.alloc (.cells #[.int .i64 (yD s 1).1,.string (zb (ZW (yD s 1).2).1),.string (zb (ZW (ZW (yD s 1).2).2).1)] 34)=R:=by rw [d0,m2];rfl
   obtain ⟨a0,hX⟩:=ex w9.heap.size;rw [l9,<- hX];have m0:R.heap[a0]?=some (.cells #[.int .i64 x.t,.string (zb x.k),.string (zb x.v)] 34 (0,0)):=by rw [d0,hX];exact zo _ _ rfl
   have l3:jw w9 G L.1 L.2:=by rw [g8];exact g3
   have l2:jw R G L.1 L.2:=by rw [d0];exact l3.same fun k hk=>qb _ _ k (Nat.lt_of_le_of_lt hk (jw.lt g3))
   have c8:=(k4.trans c7).trans c8;have j8:zd w w9:=a4.o.grown c8 a4.o.size (fun q D=>by injection D with D;subst D;exact d9.o);have j6:zd w R:=by rw [d0];exact B_alloc j8 _
   have k9:R.ownsRow (G+1) 34 3 (.slice A6 z.length i6) z.length (jn z):=by rw [d0];exact own_same b9.o fun q D=>(qb _ _ q (qg (b9.o.lt q D).2 c8.size)).trans (c8.block q (b9.o.lt q D).2 (fun e=>by injection e with e;have:=(b9.o.lt q D).1;omega))
   have l7:L.1.length<=100000:=by rw [g8];exact zz (zpy s) o4
   obtain ⟨c0,a6,f7,e0,m8,f9⟩:=zi6 m0 l2 j6 k9 l7 f6;clear d0 l9 hX m0 l3 l2 j8 j6 k9 c8 l7 g3 j4 j3 k4 c7 a4 b9 i1 x3 o1 m2 g8 f6;go_cut [70] from 48 to 70 (fun o7 wc=>o7=.bool (Jq z s)/\zd R wc)
   case first =>
    have a8:Jq z s=(L.2 || (!vK x.t (zb x.k) (zb x.v) || match z.getLast? with
     | some y=>!QW y.t (zb y.k) x.t (zb x.k)
     | none=>false)):=by unfold Jq;rw [f9.o]
    have c6:=hid a8;clear a8;cases j9:L.2 with
    | true =>
     have O:Jq z s=true:=by rw [c6.o,j9];rfl
     have a9:=hid O;clear O;refine sV [19] 23 (fun w'=>zd R w'/\jJ w' a0 #[.int .i64 x.t,.string (zb x.k),.string (zb x.v)] 34) ⟨(zf _ _).drew,c0.o⟩ fun u=>?_;refine pV 0 ?_;refine oC 1 (JK G L.1 L.2 R.drew (a6.o.same fun k _=>rfl)) ?_;rintro e1 h5 ⟨rfl,c3⟩;subst c3;refine eV u fun u=>?_;refine pV 2 ?_;refine uV 3 ?_;refine PrintLast.one_ (i:=4) (N:=some 52) (bA 23 31) rfl rfl (by kernel_rfl) (by simp) (fun K E=>?_);rw [if_neg (by rw [show Region.wanted _ (yielded _ _)=false from rfl];simp)];refine E.out _ _ (by assumption) (fun u=>?_);clear E K;try simp only [pS]
     refine uV 5 ?_;try simp only [pS]
     refine pV 6 ?_;refine pV 7 ?_;refine uV 8 ?_;try simp only [pS]
     refine uV 9 ?_;try simp only [pS]
     refine uV 10 ?_;try simp only [pS]
     refine uV 11 ?_;try simp only [pS]
     refine uV 12 ?_;try simp only [pS]
     refine uV 13 ?_;try simp only [pS]
     refine uV 14 ?_;try simp only [pS]
     refine uV 15 ?_;try simp only [pS]
     refine uV 16 ?_;try simp only [pS]
     refine uV 17 ?_;refine uV 18 ?_;refine PrintLast.last_ (i:=19) (N:=some 67) (bA 23 1048575) rfl rfl (by kernel_rfl) (by simp) (fun K E=>?_);rw [if_neg (by rw [show Region.wanted _ (yielded _ _)=false from rfl];simp)];refine E.out _ _ ?_;clear E K;try simp only [pS]
     refine uV 20 ?_;try simp only [pS]
     refine uV 21 ?_;try simp only [pS]
     refine pV 22 ?_;refine dV ?_;go_wp2_with fail;go_meet
     case rel=>exact ⟨by rw [a9.o],u.1⟩
    | false =>
    rw [j9] at c6;cases l4:vK x.t (zb x.k) (zb x.v) with
    | false =>
     have O:Jq z s=true:=by rw [c6.o,l4];rfl
     have a9:=hid O;clear O;refine sV [19] 23 (fun w'=>zd R w'/\jJ w' a0 #[.int .i64 x.t,.string (zb x.k),.string (zb x.v)] 34) ⟨(zf _ _).drew,c0.o⟩ fun u=>?_;refine pV 0 ?_;refine oC 1 (JK G L.1 L.2 R.drew (a6.o.same fun k _=>rfl)) ?_;rintro e1 h5 ⟨rfl,c3⟩;subst c3;refine eV u fun u=>?_;refine pV 2 ?_;refine kV 3 rfl (qR 34 (.tmp 7) rfl (by rfl) a0 (by rfl) 34 #[.int .i64 x.t,.string (zb x.k),.string (zb x.v)] (0,0) _ (fun _ h=>h.2) underlying34 rfl (by kernel_rfl)) ?_;refine oC 4 (YV x.t (zb x.k) (zb x.v) R.drew) ?_;rintro e2 h6 ⟨rfl,a3⟩;refine eV ⟨B_call u.1 a3,zg u.2 a3 (zi u.2)⟩ fun u=>?_;refine pV 5 ?_;refine pV 6 ?_;refine pV 7 ?_;refine uV 8 ?_;try simp only [pS]
     refine uV 9 ?_;try simp only [pS]
     refine uV 10 ?_;try simp only [pS]
     refine uV 11 ?_;try simp only [pS]
     refine uV 12 ?_;try simp only [pS]
     refine uV 13 ?_;try simp only [pS]
     refine uV 14 ?_;try simp only [pS]
     refine uV 15 ?_;try simp only [pS]
     refine uV 16 ?_;try simp only [pS]
     refine uV 17 ?_;refine uV 18 ?_;refine PrintLast.last_ (i:=19) (N:=some 67) (bA 23 1048575) rfl rfl (by kernel_rfl) (by simp) (fun K E=>?_);rw [if_neg (by rw [show Region.wanted _ (yielded _ _)=false from rfl];simp)];refine E.out _ _ ?_;clear E K;try simp only [pS]
     refine uV 20 ?_;try simp only [pS]
     refine uV 21 ?_;try simp only [pS]
     refine pV 22 ?_;refine dV ?_;go_wp2_with fail;go_meet
     case rel=>exact ⟨by rw [a9.o],u.1⟩
    | true =>
    rw [l4] at c6;rcases List.eq_nil_or_concat z with k8 | ⟨l,y,e9⟩
    ·have O:Jq z s=false:=by rw [c6.o,k8];rfl
     have q7:decide ((0:Int)<(z.length:Int))=false:=by rw [k8];rfl
     have a9:=hid O;clear O;refine sV [19] 23 (fun w'=>zd R w'/\jJ w' a0 #[.int .i64 x.t,.string (zb x.k),.string (zb x.v)] 34) ⟨(zf _ _).drew,c0.o⟩ fun u=>?_;refine pV 0 ?_;refine oC 1 (JK G L.1 L.2 R.drew (a6.o.same fun k _=>rfl)) ?_;rintro e1 h5 ⟨rfl,c3⟩;subst c3;refine eV u fun u=>?_;refine pV 2 ?_;refine kV 3 rfl (qR 34 (.tmp 7) rfl (by rfl) a0 (by rfl) 34 #[.int .i64 x.t,.string (zb x.k),.string (zb x.v)] (0,0) _ (fun _ h=>h.2) underlying34 rfl (by kernel_rfl)) ?_;refine oC 4 (YV x.t (zb x.k) (zb x.v) R.drew) ?_;rintro e2 h6 ⟨rfl,a3⟩;refine eV ⟨B_call u.1 a3,zg u.2 a3 (zi u.2)⟩ fun u=>?_;refine pV 5 ?_;refine pV 6 ?_;refine pV 7 ?_;refine pV 8 ?_;refine pV 9 ?_;refine pV 10 ?_;refine pV 11 ?_;refine uV 12 ?_;try simp only [pS]
     refine uV 13 ?_;try simp only [pS]
     refine uV 14 ?_;try simp only [pS]
     refine uV 15 ?_;try simp only [pS]
     refine uV 16 ?_;try simp only [pS]
     refine uV 17 ?_;refine uV 18 ?_;refine PrintLast.last_ (i:=19) (N:=some 67) (bA 23 1048575) rfl rfl (by kernel_rfl) (by simp) (fun K E=>?_);rw [if_neg (by rw [show Region.wanted _ (yielded _ _)=false from rfl];simp)];refine E.out _ _ ?_;clear E K;try simp only [pS]
     refine uV 20 ?_;try simp only [pS]
     refine pV 21 ?_;refine pV 22 ?_;refine dV ?_;go_wp2_with fail;go_meet
     case rel=>exact ⟨by rw [a9.o],u.1⟩
    ·obtain ⟨m,hm⟩:=ex l.length;have o0:z.length=m+1:=by rw [e9,hm];simp
     have j5:z[m]?=some y:=by rw [e9,hm];simp
     have O:Jq z s=!QW y.t (zb y.k) x.t (zb x.k):=by rw [c6.o,e9];simp
     have q7:decide ((0:Int)<(z.length:Int))=true:=by simp;omega
     have o5:0<z.length:=by omega
     have q8:decide (0<z.length)=true:=by simpa using o5
     have x4:IntKind.i64.wrap ((z.length:Int)-1)=(m:Int):=by rw [zu];omega
     have r2:(0:Int)<=(m:Int):=by omega
     have r3:(m:Int)<(z.length:Int):=by omega
     obtain ⟨gA,rfl,n7,p9,o3⟩:=YW e0.o j5;have a9:=hid O;clear O e9 hm o0 j5;refine sV [19] 23 (fun w'=>zd R w'/\jJ w' a0 #[.int .i64 x.t,.string (zb x.k),.string (zb x.v)] 34/\w'.rangeAt gA (m*3) (qB y)) ⟨(zf _ _).drew,c0.o,o3⟩ fun u=>?_;refine pV 0 ?_;refine oC 1 (JK G L.1 L.2 R.drew (a6.o.same fun k _=>rfl)) ?_;rintro e1 h5 ⟨rfl,c3⟩;subst c3;refine eV u fun u=>?_;refine pV 2 ?_;refine kV 3 rfl (qR 34 (.tmp 7) rfl (by rfl) a0 (by rfl) 34 #[.int .i64 x.t,.string (zb x.k),.string (zb x.v)] (0,0) _ (fun _ h=>h.2.1) underlying34 rfl (by kernel_rfl)) ?_;refine oC 4 (YV x.t (zb x.k) (zb x.v) R.drew) ?_;rintro e2 h6 ⟨rfl,a3⟩;refine eV ⟨B_call u.1 a3,zg u.2.1 a3 (zi u.2.1),Ql u.2.2 a3 (qg n7 u.1.size)⟩ fun u=>?_;refine pV 5 ?_;refine pV 6 ?_;refine pV 7 ?_;refine pV 8 ?_;refine pV 9 ?_;refine pV 10 ?_;refine pV 11 ?_;refine pV 12 ?_;refine pV 13 ?_;refine pV 14 ?_;refine pV 15 ?_;refine pV 16 ?_;refine kV 17 rfl (yieldsIf_load_mid (by rfl) 34 (.tmp 64) rfl gA (m*3) (by rfl) (qB y) _ (fun _ h=>h.2.2) underlying34 rfl (by kernel_rfl)) ?_;refine kV 18 rfl (qR 34 (.tmp 7) rfl (by rfl) a0 (by rfl) 34 #[.int .i64 x.t,.string (zb x.k),.string (zb x.v)] (0,0) _ (fun _ h=>h.2.1) underlying34 rfl (by kernel_rfl)) ?_;refine lC 19 (Yq y.t x.t (zb y.k) (zb y.v) (zb x.k) (zb x.v) h6) ?_;rintro g0 r4 ⟨rfl,n4⟩;refine eL ?_;refine pV 20 ?_;refine pV 21 ?_;refine pV 22 ?_;refine dV ?_;go_wp2_with fail;go_meet
     case rel=>exact ⟨by rw [a9.o],B_call u.1 n4⟩
   case rest =>
   obtain ⟨rfl,c1⟩:=hcut;cases a8:Jq z s with
   | true =>
    have k2:QR N s1 []=none:=by rw [<- h8.o,show N-j=(N-j-1)+1 by omega];unfold QR;rw [if_pos a8]
    have hd:jb b=(9,[]):=by rw [Z.o,k2]
    have a5:=hid hd;have d8:=hid (B_call f7.o c1);clear hd k2 a8 c1;go_wp2_with fail;go_ret2;rw [a5.o];exact ⟨_,rfl,ql _ _ _ _,d8.o⟩
   | false =>
    have k1:QR (N-(j+1)) L (z++[x])=QR N s1 []:=by
     rw [<- h8.o,show N-j=(N-(j+1))+1 by omega]
     conv=>rhs;unfold QR
     rw [if_neg (by rw [a8];simp),f9.o]
    have m3:x.ok:=by
     have h1:Jq z s=(L.2 || (!vK x.t (zb x.k) (zb x.v) || match z.getLast? with
      | some y=>!QW y.t (zb y.k) x.t (zb x.k)
      | none=>false)):=by unfold Jq;rw [f9.o]
     rw [a8] at h1;have h2:vK x.t (zb x.k) (zb x.v)=true:=by
      cases n2:vK x.t (zb x.k) (zb x.v) with
      | true=>rfl
      | false=>rw [n2] at h1;simp at h1
     unfold vK at h2;rw [jt,jt] at h2;simp only [Bool.and_eq_true,decide_eq_true_eq] at h2;exact ⟨by omega,by omega,by omega⟩
    have m1:=zg c0.o c1 (zi c0.o);have g7:jw wc G L.1 L.2:=a6.o.same fun k hk=>c1.block k (Nat.lt_of_le_of_lt hk (jw.lt a6.o));have l0:=own_same e0.o fun q D=>c1.block q (e0.o.lt q D).2;obtain ⟨n0,m6,e3⟩:=zi3 m1 g7 l0;have d8:=hid (B_call f7.o c1);obtain ⟨m5,n1⟩:=zi2 k1 m3;have n3:=a6.o;have p3:G+1<=wc.heap.size:=by have:=jw.lt g7;omega
    have x5:IntKind.u64.wrap ((j:Int)+1)=(j:Int)+1:=by rw [IntKind.wrap_u64];omega
    clear k1 m3 m1 g7 l0 a8 c1 c0 a6 e0 f7 n3;go_wp2_with (first|((with_reducible refine gV 72 ?_);refine rV n0.o ?_)|(show wpList _ _ _ (⟨some 73,_,_,_,_,_⟩::_) _ _;refine wpList_plain rfl fun _ E=>yv 22 34 3 40 (.tmp 72) rfl (.agg (qB x).toArray) (by rfl) underlying22 KK (by rfl) (by omega) (by omega) (E _ _ ?_))|(show wpList _ _ _ (⟨some 74,_,_,_,_,_⟩::_) _ _;refine jX rfl (.tmp 71) (.tmp 73) 22 34 3 40 rfl underlying22 KK (by omega) _ _ _ (G+1) (by rfl) (own_same e3.o fun q D=>qb _ _ q (e3.o.lt q D).2) _ 1 _ _ _ (by rfl) (zL.bk (zo wc (.cells (qB x).toArray 34) rfl) (size:=3) (n:=1) rfl) (GP _) (by omega) (by omega) (by simp;omega) ?_;intro v8 Y l1 c7 q0;obtain ⟨A8,o8,rfl⟩:=own_slice l1));have q2:=c7.size;have o2:∀ q,q<=G->(Value.slice A6 z.length i6).ownBlock≠some q:=fun q D e=>by have:=(e3.o.lt _ e).1;omega
    refine ⟨⟨j+1,by omega,by simp,?_⟩,by simp [jF];omega⟩;rw [HR.o];refine ⟨z++[x],L,m5.o,by simp;omega,fun r X=>?_,m8.o,m6.o.same fun k hk=>(c7.block k (by simp;omega) (fun e=>o2 k hk e.symm)).trans (qb _ _ k (by omega)),?_,(B_alloc d8.o _).grown c7 (by have:=d8.o.size;simp;omega) fun q e=>by have:=(e3.o.lt _ e).1;have:=d9.o;omega⟩
    ·rcases ja.1 X with X | X
     ·exact m4.o r X
     ·simp at X;subst X;exact n1.o
    ·rw [zl,List.length_singleton,Kg];exact l1
  ·have n8:N-j=0:=by omega
   rw [n8] at d3;have q5:decide ((j:Int)<(N:Int))=false:=by simpa using k6
   have hd:jb b=if s.2=true∨0<s.1.length then (9,[]) else if 30<z.length then (7,[]) else (0,z):=by rw [Z.o,<- d3];rfl
   obtain ⟨a5,a4,b9⟩:=zi3 hd f2 d4;have c4:=hid (JK G s.1 s.2 wr d5);have e4:=hid (zhU G s.1 s.2 wr d5);clear hd d3 f2 d4 d5 g4 Z HR;cases f1:s.2 with
   | true =>rw [f1] at c4 a5;clear f1;go_wp2_with (first|((with_reducible refine aV 55 c4.o ?_);rintro e7 w7 ⟨rfl,g9⟩;subst w7)|((with_reducible refine aV 58 e4.o ?_);rintro e8 Y ⟨rfl,h3⟩;subst Y));go_ret2;rw [a5.o];exact ⟨_,rfl,ql _ _ _ _,a4.o⟩
   | false =>
    rw [f1] at c4 a5;clear f1;by_cases g6:0<s.1.length
    ·have q6:decide ((0:Int)<(s.1.length:Int))=true:=by simp;omega
     have hd:jb b=(9,[]):=by rw [a5.o,if_pos (.inr g6)]
     have d1:=hid hd;clear hd;go_wp2_with (first|((with_reducible refine aV 55 c4.o ?_);rintro e7 w7 ⟨rfl,g9⟩;subst w7)|((with_reducible refine aV 58 e4.o ?_);rintro e8 Y ⟨rfl,h3⟩;subst Y));go_ret2;rw [d1.o];exact ⟨_,rfl,ql _ _ _ _,a4.o⟩
    have q6:decide ((0:Int)<(s.1.length:Int))=false:=decide_eq_false (by omega);by_cases i7:30<z.length
    ·have q7:decide ((30:Int)<(z.length:Int))=true:=by simp;omega
     have hd:jb b=(7,[]):=by rw [a5.o,if_neg (fun h=>h.elim (fun h=>by cases h) g6),if_pos i7]
     have d1:=hid hd;clear hd;go_wp2_with (first|((with_reducible refine aV 55 c4.o ?_);rintro e7 w7 ⟨rfl,g9⟩;subst w7)|((with_reducible refine aV 58 e4.o ?_);rintro e8 Y ⟨rfl,h3⟩;subst Y));go_ret2;rw [d1.o];exact ⟨_,rfl,ql _ _ _ _,a4.o⟩
    ·have q7:decide ((30:Int)<(z.length:Int))=false:=by simp;omega
     have hd:jb b=(0,z):=by rw [a5.o,if_neg (fun h=>h.elim (fun h=>by cases h) g6),if_neg i7]
     have d1:=hid hd;clear hd;go_wp2_with (first|((with_reducible refine aV 55 c4.o ?_);rintro e7 w7 ⟨rfl,g9⟩;subst w7)|((with_reducible refine aV 58 e4.o ?_);rintro e8 Y ⟨rfl,h3⟩;subst Y));go_ret2;rw [d1.o];exact ⟨_,rfl,jK b9.o (by have:=d9.o;omega),a4.o⟩
end Go.Proofs.YtechnoogjhohfaaGreat
