import Derived.Test.YtechnoogjhohfaaGreatS29
import Derived.Test.YtechnoogjhohfaaGreatS27
import Derived.Test.YtechnoogjhohfaaGreatS8
set_option maxRecDepth 100000
set_option maxHeartbeats 6400000
set_option linter.unusedVariables false
set_option linter.unusedSimpArgs false
namespace Go.Proofs.YtechnoogjhohfaaGreat
open Go.RowKit Go.Lib
open YtechnoogjhohfaaGreatW Go.Proofs.Tryz Go.Proofs.YtechnoogjhohfaaGreat.Tryz
theorem zbB (a:Va) (b:Vb) (cur:Nat->Nat->List UInt8) (s:St) (txn T:Nat) (x:Tx) (w:World) (h:zm w a b cur s) (E:1<=txn) (L:txn<=3) (O:s.ts[txn]?=some (some (T,x))) (hfit:x.I≠[]->s.sto.Q.length+395<=14336) :
  zc 49 #[.pointer (some ⟨a.S,0,none⟩),.int .i64 txn] w fun e w'=>e=.returned (.int .i64 0)/\∃ U cur',zm w' a U cur' (s.am txn x)/\qv w w' (qd a b s) (qd a U (s.am txn x)) cur cur' a.r:=by
 by_cases u:x.I=[]
 ·have D:=QT a.S txn s.ts (some (T,x)) w h.aq.row E L O;simp only [qk] at D;have a1:=hid D;have R:=hid (zdY T x (b.G txn) w (h.aq.tx txn T x O).1);have H:=hid h;have Y:s.am txn x={ s with ts:=s.ts.set txn none,lk:=dropM s.lk txn }:=by unfold St.am;rw [if_pos u]
  have HS:=hid Y;rw [u] at R;clear u Y h D;go_enter func49,ntmps49;go_upto_region 9 with (first|((with_reducible refine aV 88 a1.o ?_);rintro e1 w1 ⟨rfl,a5⟩;subst w1)|((with_reducible refine aV 94 R.o ?_);rintro e2 w2 ⟨rfl,a6⟩;subst w2)|((with_reducible refine aV 95 (zbF H.o E L) ?_);rintro e3 w3 ⟨rfl,b3,z,X⟩));have k0:=z.c0;obtain ⟨Z,a0⟩:=zi2 z X;clear z X;go_wp2_with ((with_reducible refine aV 96 (GY Z.o (by omega)) ?_);rintro e4 w4 ⟨rfl,b4,a3,a4⟩);go_ret;rw [HS.o];exact ⟨rfl,b4,cur,a3,a0.o.trans a4⟩
 ·exact zjH a b cur s txn T x w h E L O (hfit u)
structure ui where
 Z:Int
 hd:Int
 vl:List UInt8
 a7:List Rw
 data:List UInt8
def yj (h:Int):ui:=⟨h,0,[],[],[]⟩
structure Kb (W:World) (a:An) (v:ui):Prop where
 Z:a.Z=v.Z
 hd:a.hd=v.hd
 vl:a.vl=zb v.vl
 a7:W.ownsRow 0 34 3 (.slice a.rA a.rn a.rc) v.a7.length (jn v.a7)
 data:W.ownsRow 0 5 1 (.slice a.dA a.dn a.dc) v.data.length (zD v.data)
theorem Kb.e (W:World) (h:Int):Kb W (qo h) (yj h):=⟨rfl,rfl,rfl,ql _ _ _ _,ql _ _ _ _⟩
theorem Kb.br {W z:World} {a:An} {v:ui} (h:Kb W a v) (hb:jp W z):Kb z a v :=
 ⟨h.Z,h.hd,h.vl,own_same h.a7 fun k u=>hb.block k (h.a7.lt k u).2 (by rw [own_tag h.a7 u];decide),own_same h.data fun k u=>hb.block k (h.data.lt k u).2 (by rw [own_tag h.data u];decide)⟩
def Ge (r:Nat) (s:St) (txn T:Nat) (x:Tx) (q:Rq) (rw:Rw) (v:ui) (e:Bool) (s':St):Prop :=
 (q.kd=5/\v=⟨(s.cp txn rw.t rw.k).2,0,(s.cp txn rw.t rw.k).1,[],[]⟩/\e=false/\s'=zfb s txn rw.t rw.k) ∨
 (q.kd=6/\∃ nbs nb,v=yj (s.put r nbs nb txn x.ops rw).1/\e=false/\s'=(s.put r nbs nb txn x.ops rw).2) ∨
 (q.kd=7/\∃ nb,v=yj (s.bs r nb txn x.ops rw.t rw.k).1/\e=false/\s'=(s.bs r nb txn x.ops rw.t rw.k).2) ∨
 (q.kd=8/\v=⟨(s.bi txn rw.t rw.k q.tt).1,0,[],(s.bi txn rw.t rw.k q.tt).2.1.map (·.rw),[]⟩/\e=false/\s'=(s.bi txn rw.t rw.k q.tt).2.2) ∨
 (q.kd=9/\v=⟨if x.bt.1=0 then 8 else 0,x.bt.1,[],[],[]⟩/\e=false/\s'={ s with ts:=s.ts.set txn (some (T,x.bt.2)) }) ∨
 (q.kd=10/\∃ nbs,v=yj (s.a4 r txn nbs T x q.n).1/\e=false/\s'=(s.a4 r txn nbs T x q.n).2/\∀ k y,x.b6 q.n=some (k,y)->s'.sto.Q.length<=s.sto.Q.length+(x.I.length-k)*395) ∨
 (q.kd=11/\v=yj 0/\e=true/\s'=s.am txn x) ∨
 (q.kd=12/\∃ nbs,v=yj 0/\e=true/\s'=s.be r txn nbs x/\s'.sto.Q.length<=s.sto.Q.length+(if x.I=[] then 0 else (x.I.length+1)*395))
structure GX (s:St) (x:Tx):Prop where
 wf:WF s.lk
 so:qe s.N
 il:s.N.length<=800
 pos:∀ y,y∈s.N->y.pg<6/\y.sl<5
 J:s.sto.J+1<4294967296
 sv:∀ k,k∈x.ag->k<=x.I.length
 di:s.sto.Q.length+(if x.I=[] then 0 else (x.I.length+1)*395)<=14336
theorem GX.ii {s:St} {x:Tx} (h:GX s x) (u:x.I≠[]):s.sto.Q.length+395<=14336:=by have z:=h.di;rw [if_neg u] at z;have:=List.length_pos_iff.2 u;omega
theorem GX.iv {s:St} {x:Tx} (h:GX s x) {w:World} {a:Va} {b:Vb} {cur:Nat->Nat->List UInt8} (D:zm w a b cur s):s.sto.Q.length+x.I.length*395<=14336:=by
 have u:=h.di;by_cases z:x.I=[]
 ·rw [z,jr,Nat.zero_mul,Nat.add_zero];exact D.sto.len
 ·rw [if_neg z] at u;exact zz (Nat.add_le_add_left (Nat.mul_le_mul_right 395 (Nat.le_succ x.I.length)) _) u
theorem zqD (s:St) (r:Nat) (nbs:Nat->Nat) (nb txn ops:Nat) (rw:Rw):((s.put r nbs nb txn ops rw).1:Int)≠10:=by
 unfold St.put;split
 ·simp
 ·split
  ·simp
  ·split
   ·simp
   ·split<;>simp
theorem zpZ (s:St) (r nb txn ops t:Nat) (k:List UInt8):((s.bs r nb txn ops t k).1:Int)≠10:=by
 unfold St.bs;split
 ·simp
 ·unfold St.db;split
  ·simp
  ·split<;>simp
theorem zpF (s:St) (txn t:Nat) (f:List UInt8) (z:ByteArray):((s.bi txn t f z).1:Int)≠10:=by unfold St.bi;split<;>simp
theorem zoE (s:St) (r txn:Nat) (nbs:Nat->Nat) (T:Nat) (x:Tx) (n:Int):((s.a4 r txn nbs T x n).1:Int)≠10:=by unfold St.a4;split<;>simp
end Go.Proofs.YtechnoogjhohfaaGreat
