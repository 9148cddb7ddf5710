import Derived.Test.YtechnoogjhohfaaGreatS27
import Derived.Test.YtechnoogjhohfaaGreatS9
import Derived.Test.YtechnoogjhohfaaGreatS8
set_option maxRecDepth 100000
set_option maxHeartbeats 6400000
set_option linter.unusedVariables false
set_option linter.unusedSimpArgs false
namespace Go.Proofs.YtechnoogjhohfaaGreat
open Go.RowKit Go.Lib
open YtechnoogjhohfaaGreatW Go.Proofs.Tryz Go.Proofs.YtechnoogjhohfaaGreat.Tryz
theorem Yg {w W:World} (h:zd w W) {g:Nat} (z:w.heap.size<=g) (C:Array Value):zd w (W.setRow g C) :=
 ⟨h.os,h.tape,h.output,by have:=h.size;simpa using this,fun x u=>(setRow_other W g x C (by omega)).trans (h.block x u)⟩
theorem zqb (H:Nat) (q:Rq) (w:World) (U:q.kd<0∨19<q.kd∨(q.kd≠19/\(q.tn<0∨4<=q.tn))) :
  zc 9 #[.pointer (some ⟨H,0,none⟩),.agg (zJ q).toArray] w fun e W=>e=.returned (.agg (zV (qo 1)).toArray)/\zd w W:=by
 obtain ⟨w1,D⟩:=ex (QD w q);have a0:zd w w1:=by rw [D];exact yO w q
 have X:w1.heap[w.heap.size]?=some (.cells (zJ q).toArray 37 (0,0)):=by rw [D];exact ZI w q
 have a1:w1.heap[w.heap.size+1]?=some (.cells qJ 31 (0,0)):=by rw [D];exact Zn w q
 have k0:=xV (Value.int .i64 q.kd) 0 X;have k1:=xV (Value.int .i64 q.tn) 1 X;have a3:(w.alloc (.cells (zJ q).toArray 37)).alloc (.cells qJ 31)=w1:=D.symm;have hend:zd w (w1.setRow (w.heap.size+1) (zV (qo 1)).toArray):=Yg a0 (Nat.le_succ _) _;obtain ⟨L,u,E⟩:=zi3 a3 a1 hend;clear D a3 X a1 a0 hend;by_cases z:q.kd<0
 ·have d1:decide (q.kd<0)=true:=by simpa using z
  clear U z;go_enter func9,ntmps9;go_upto_region 1 with fail;rw [L.o];go_wp2_with ((with_reducible refine hV 4 ?_);refine wV 0 (zV (qo 1)).toArray u.o ?_);exact jo (an:=qo 1) 4 rfl rfl rfl u.o rfl ⟨rfl,E.o⟩
 have d1:decide (q.kd<0)=false:=by simpa using z
 by_cases O:19<q.kd
 ·have d2:decide ((19:Int)<q.kd)=true:=by simpa using O
  clear U z O;go_enter func9,ntmps9;go_upto_region 1 with fail;rw [L.o];go_wp2_with ((with_reducible refine hV 4 ?_);refine wV 0 (zV (qo 1)).toArray u.o ?_);exact jo (an:=qo 1) 4 rfl rfl rfl u.o rfl ⟨rfl,E.o⟩
 have d2:decide ((19:Int)<q.kd)=false:=by simp;omega
 obtain ⟨Y,Z⟩:q.kd≠19/\(q.tn<0∨4<=q.tn):=by
  rcases U with h | h | h
  ·exact absurd h z
  ·exact absurd h O
  ·exact h
 have d3:(q.kd == 19)=false:=by simpa using Y
 clear z O Y U;by_cases R:q.tn<0
 ·have d4:decide (q.tn<0)=true:=by simpa using R
  clear Z R;go_enter func9,ntmps9;go_upto_region 1 with fail;rw [L.o];go_wp2_with ((with_reducible refine hV 4 ?_);refine wV 0 (zV (qo 1)).toArray u.o ?_);exact jo (an:=qo 1) 4 rfl rfl rfl u.o rfl ⟨rfl,E.o⟩
 ·have d4:decide (q.tn<0)=false:=by simpa using R
  have d5:decide ((4:Int)<=q.tn)=true:=by simp;omega
  clear Z R;go_enter func9,ntmps9;go_upto_region 1 with fail;rw [L.o];go_wp2_with ((with_reducible refine hV 4 ?_);refine wV 0 (zV (qo 1)).toArray u.o ?_);exact jo (an:=qo 1) 4 rfl rfl rfl u.o rfl ⟨rfl,E.o⟩
end Go.Proofs.YtechnoogjhohfaaGreat
