import Derived.Test.YtechnoogjhohfaaGreatM28
import Derived.Test.YtechnoogjhohfaaGreatM29
set_option maxRecDepth 100000
set_option maxHeartbeats 6400000
set_option linter.unusedVariables false
set_option linter.unusedSimpArgs false
namespace Go.Proofs.YtechnoogjhohfaaGreat
open Go.RowKit Go.ChangeShapes Go.WideShapes Go.Deep
section
section
variable {H:Type} {enc:TypeId × Value->H} {W:World} {base fuel:Nat} {spare:Nat->Bool} {held:Bool} {A:Option Addr} {len cap:Nat} {x:DataW H × List MemPlace}
theorem masks_open (h:DataW.trod enc Tryz.prog W base spare held fuel 23 [.slice A len cap]=some x):zjs W A len:=by
 rcases open_slice (P:=Tryz.prog) Tryz.underlying23 h with ⟨z,_⟩ | ⟨a,a9,a5,m,n,a4,Pl,z,_,O,hm,a0,_,Y⟩
 ·injection z with z _;injection z with _ O _;exact .inl O
 ·injection z with z _;injection z with R Z X;subst R Z X;have a8:len<=m:=by rw [a0];split<;>omega
  have D:∀ i,i<len->∃ x:Int,W.cell? (a.add i)=some (.int .u64 x):=by intro i L;obtain ⟨a6,u,ht⟩:=Y i (by omega);rw [show Program.cellsOf Tryz.prog 35=1 by kernel_rfl,Nat.mul_one] at u;obtain ⟨_,a7,U⟩:=World.cells?_some u;obtain ⟨x,e,_,_⟩:=DataW.trod_int Tryz.underlying35 ht;subst e;have:=U 0 (by omega);exact ⟨x,by rw [Go.Deep.add_add] at this;simpa using this⟩
  by_cases h0:len=0
  ·exact .inl h0
  ·obtain ⟨b,off,a3⟩:=a;have a1:a3=none:=by obtain ⟨x,u⟩:=D 0 (by omega);simpa [Addr.add] using World.cell?_spot u
   subst a1;have E:∀ i,i<len->∃ x:Int,W.cell? ⟨b,off+i,none⟩=some (.int .u64 x):=by intro i L;obtain ⟨x,u⟩:=D i L;rw [Addr.add_lit] at u;exact ⟨x,u⟩
   obtain ⟨x,u⟩:=E 0 (by omega);exact .inr ⟨b,off,rfl,World.block_lt_of_cell? _ _ u,E⟩
end
end
end Go.Proofs.YtechnoogjhohfaaGreat
