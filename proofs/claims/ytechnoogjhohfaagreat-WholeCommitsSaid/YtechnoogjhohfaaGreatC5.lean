/-
  Joined by a program from texts written one by one: part 5 of the walk through the program and of the law behind it.
-/
import Derived.Test.YtechnoogjhohfaaGreatC4
import Derived.Laws.MakeOwn
set_option maxRecDepth 100000
set_option maxHeartbeats 6400000
set_option linter.unusedVariables false
set_option linter.unusedSimpArgs false
namespace Go.Proofs.YtechnoogjhohfaaGreat
open Go.RowKit Go.Lib
theorem Zl (b:Int) (w:World) (h0:0<=b) (h1:b<=1):Calls Tryz.prog 111 #[.int .i64 b] w fun r w'=>r=.returned (.int .i64 (2+b*256))/\w'=w:=by
 go_enter Tryz.func111,Tryz.ntmps111
 go_wp2
 go_ret
 exact ⟨rfl,rfl⟩
theorem QH (w:World) (n:Nat) (hn:n<=100000):∃ W,(Instr.makeSlice 29 (.int .i64 n) (.int .i64 n)).run Tryz.prog w=.ok (.slice (some ⟨w.heap.size,0,none⟩) n n) W/\ze W (.slice (some ⟨w.heap.size,0,none⟩) n n) (zs n)/\Below w.heap.size w W:=by
 obtain ⟨i,hi,hz0,hz1,hz2⟩:=info_parts uE
 have:=run_make (P:=Tryz.prog) w 29 5 i _ Tryz.underlying29 hi hz0 .i64 .i64 n n (by omega) (Int.le_refl _) (by rw [hz2];omega) (by omega)
 rw [hz1] at this
 refine ⟨_,this,?_,(Below.refl _ _).alloc (Nat.le_refl _) _⟩
 have hc:(madeCells (Value.int .u8 0).cells n)=(zo (zs n)).toArray:=by
  unfold madeCells
  apply Array.ext
  ·simp [zo,zs,Value.cells]
  ·intro i h1 h2
   simp [Nat.mod_one,zo,zs,Value.cells]
 have hl:(zs n).length=n:=by simp [zs]
 have:=Kq w (zs n) (by rw [hl];unfold maxLen;omega)
 rw [hl,<- hc] at this
 simpa using this
theorem ze.drew {w:World} {v:Value} {l:List UInt8} (h:ze w v l):ze w.drew v l:=h
def zaA (l:List UInt8):Bool:=l == zs l.length
theorem zaW (a b:List UInt8):((za a).toList == (za b).toList)=(a == b):=by
 rw [ByteArray.toList_eq,ByteArray.toList_eq];rfl
theorem zdu (v:Value) (l:List UInt8) (w:World) (h:ze w v l) (hl:l.length<=100000):Calls Tryz.prog 143 #[v] w fun r w'=>r=.returned (.bool (zaA l))/\Below w.heap.size w w':=by
 obtain ⟨W,hrun,hz,hb⟩:=QH w.drew l.length hl
 have c1:=jr h.drew
 have c2:=jr (h.drew.below hb)
 have c3:=jr hz
 rw [show w.drew.heap.size=w.heap.size from rfl] at c3 hrun
 obtain ⟨A,c,rfl,hr,_,_⟩:=h
 have HB:Hid (Below w.heap.size w W):=hid ((Below.refl w.heap.size w).drew.trans hb)
 clear hb hz hr
 go_enter Tryz.func143,Tryz.ntmps143
 go_wp2_with fail
 go_region_with (fail)
 all_goals
  go_wp2_with fail
  go_ret
  refine ⟨?_,HB.out⟩
  rw [zaA,<- zaW l (zs l.length)]
  rfl
end Go.Proofs.YtechnoogjhohfaaGreat
