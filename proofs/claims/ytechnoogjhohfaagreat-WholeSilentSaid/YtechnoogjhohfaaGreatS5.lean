import Derived.Test.YtechnoogjhohfaaGreatS4
import Derived.Laws.MakeOwn
set_option maxRecDepth 100000
set_option maxHeartbeats 6400000
set_option linter.unusedVariables false
set_option linter.unusedSimpArgs false
namespace Go.Proofs.YtechnoogjhohfaaGreat
open Go.RowKit Go.Lib
theorem JH (b:Int) (w:World) (h0:0<=b) (h:b<=1):Calls Tryz.prog 111 #[.int .i64 b] w fun r w'=>r=.returned (.int .i64 (2+b*256))/\w'=w:=by go_enter Tryz.func111,Tryz.ntmps111;go_wp2;go_ret;exact ⟨rfl,rfl⟩
theorem Kn (w:World) (n:Nat) (U:n<=100000):∃ W,(Instr.makeSlice 29 (.int .i64 n) (.int .i64 n)).run Tryz.prog w=.ok (.slice (some ⟨w.heap.size,0,none⟩) n n) W/\zj W (.slice (some ⟨w.heap.size,0,none⟩) n n) (zs n)/\zd w W:=by
 obtain ⟨i,z,D,E,L⟩:=info_parts QU;have:=run_make (P:=Tryz.prog) w 29 5 i _ Tryz.underlying29 z D .i64 .i64 n n (by omega) (Int.le_refl _) (by rw [L];omega) (by omega);rw [E] at this;refine ⟨_,this,?_,(Below.refl _ _).alloc (za _) _⟩;have u:(madeCells (Value.int .u8 0).cells n)=(zD (zs n)).toArray:=by
  unfold madeCells;apply Array.ext
  ·simp [zD,zs,Value.cells]
  ·intro i O R;simp [Nat.mod_one,zD,zs,Value.cells]
 have h:(zs n).length=n:=by simp [zs]
 have:=zby w (zs n) (by rw [h];unfold maxLen;omega);rw [h,<- u] at this;simpa using this
theorem zj.drew {w:World} {v:Value} {l:List UInt8} (h:zj w v l):zj w.drew v l:=h
def zeB (l:List UInt8):Bool:=l == zs l.length
theorem zcC (a b:List UInt8):((zb a).toList == (zb b).toList)=(a == b):=by rw [ByteArray.toList_eq,ByteArray.toList_eq];rfl
theorem zih (v:Value) (l:List UInt8) (w:World) (h:zj w v l) (E:l.length<=100000):Calls Tryz.prog 143 #[v] w fun r w'=>r=.returned (.bool (zeB l))/\zd w w':=by
 obtain ⟨W,O,u,hb⟩:=Kn w.drew l.length E;have R:=yh h.drew;have U:=yh (h.drew.below hb);have D:=yh u;rw [show w.drew.heap.size=w.heap.size from rfl] at D O;obtain ⟨A,c,rfl,L,_,_⟩:=h;have z:Hid (zd w W):=hid ((Below.refl w.heap.size w).drew.trans hb);clear hb u L;go_enter Tryz.func143,Tryz.ntmps143;go_wp2_with fail;go_region_with (fail)
 all_goals
  go_wp2_with fail;go_ret;refine ⟨?_,z.o⟩;rw [zeB,<- zcC l (zs l.length)];rfl
end Go.Proofs.YtechnoogjhohfaaGreat
