/-
  Joined by a program from texts written one by one: part 28 of the walk through the program and of the law behind it.
-/
import Derived.Test.YtechnoogjhohfaaGreatC26
import Derived.Test.YtechnoogjhohfaaGreatC27
set_option maxRecDepth 100000
set_option maxHeartbeats 6400000
set_option linter.unusedVariables false
set_option linter.unusedSimpArgs false
namespace Go.Proofs.YtechnoogjhohfaaGreat
open Go.RowKit Go.ChangeShapes Go.WideShapes Go.Deep
section
section
variable {H:Type} {enc:TypeId × Value->H} {W:World} {base fuel:Nat} {spare:Nat->Bool} {held:Bool} {A:Option Addr} {len cap:Nat} {x:DataW H × List MemPlace}
theorem masks_open (h:DataW.trod enc Tryz.prog W base spare held fuel 23 [.slice A len cap]=some x):zej W A len:=by
 rcases open_slice (P:=Tryz.prog) Tryz.underlying23 h with ⟨hcs,_⟩ | ⟨a,len',cap',m,n,D,Pl,hcs,_,hl,hm,hmm,_,hi⟩
 ·injection hcs with hcs _
  injection hcs with _ hl _
  exact .inl hl
 ·injection hcs with hcs _
  injection hcs with hA hl' hc'
  subst hA hl' hc'
  have hmle:len<=m:=by rw [hmm];split<;>omega
  have hcell:∀ i,i<len->∃ x:Int,W.cell? (a.add i)=some (.int .u64 x):=by
   intro i hil
   obtain ⟨cs',hc,ht⟩:=hi i (by omega)
   rw [show Program.cellsOf Tryz.prog 35=1 by kernel_rfl,Nat.mul_one] at hc
   obtain ⟨_,hcl,hat⟩:=World.cells?_some hc
   obtain ⟨x,e,_,_⟩:=DataW.trod_int Tryz.underlying35 ht
   subst e
   have:=hat 0 (by omega)
   exact ⟨x,by rw [Go.Deep.add_add] at this;simpa using this⟩
  by_cases h0:len=0
  ·exact .inl h0
  ·obtain ⟨b,off,spot⟩:=a
   have hspot:spot=none:=by
    obtain ⟨x,hc⟩:=hcell 0 (by omega)
    simpa [Addr.add] using World.cell?_spot hc
   subst hspot
   have hcell2:∀ i,i<len->∃ x:Int,W.cell? ⟨b,off+i,none⟩=some (.int .u64 x):=by
    intro i hil
    obtain ⟨x,hc⟩:=hcell i hil
    rw [Addr.add_lit] at hc
    exact ⟨x,hc⟩
   obtain ⟨x,hc⟩:=hcell2 0 (by omega)
   exact .inr ⟨b,off,rfl,World.block_lt_of_cell? _ _ hc,hcell2⟩
theorem bools_open (h:DataW.trod enc Tryz.prog W base spare held fuel 24 [.slice A len cap]=some x):zei W A len:=by
 rcases open_slice (P:=Tryz.prog) Tryz.underlying24 h with ⟨hcs,_⟩ | ⟨a,len',cap',m,n,D,Pl,hcs,_,hl,hm,hmm,_,hi⟩
 ·injection hcs with hcs _
  injection hcs with _ hl _
  exact .inl hl
 ·injection hcs with hcs _
  injection hcs with hA hl' hc'
  subst hA hl' hc'
  have hmle:len<=m:=by rw [hmm];split<;>omega
  have hcell:∀ i,i<len->∃ x:Bool,W.cell? (a.add i)=some (.bool x):=by
   intro i hil
   obtain ⟨cs',hc,ht⟩:=hi i (by omega)
   rw [show Program.cellsOf Tryz.prog 4=1 by kernel_rfl,Nat.mul_one] at hc
   obtain ⟨_,hcl,hat⟩:=World.cells?_some hc
   obtain ⟨x,e,_⟩:=DataW.trod_bool Tryz.underlying4 ht
   subst e
   have:=hat 0 (by omega)
   exact ⟨x,by rw [Go.Deep.add_add] at this;simpa using this⟩
  by_cases h0:len=0
  ·exact .inl h0
  ·obtain ⟨b,off,spot⟩:=a
   have hspot:spot=none:=by
    obtain ⟨x,hc⟩:=hcell 0 (by omega)
    simpa [Addr.add] using World.cell?_spot hc
   subst hspot
   have hcell2:∀ i,i<len->∃ x:Bool,W.cell? ⟨b,off+i,none⟩=some (.bool x):=by
    intro i hil
    obtain ⟨x,hc⟩:=hcell i hil
    rw [Addr.add_lit] at hc
    exact ⟨x,hc⟩
   obtain ⟨x,hc⟩:=hcell2 0 (by omega)
   exact .inr ⟨b,off,rfl,World.block_lt_of_cell? _ _ hc,hcell2⟩
theorem rows_open (h:DataW.trod enc Tryz.prog W base spare held fuel 22 [.slice A len cap]=some x):RowsIn W A len:=by
 rcases Gk (P:=Tryz.prog) Tryz.underlying22 Tryz.underlying34 (by kernel_rfl) (by kernel_rfl) h with ⟨hcs,_⟩ | ⟨a,len',cap',m,D,Pl,hcs,_,hl,hm,hmm,_,hi⟩
 ·injection hcs with hcs _
  injection hcs with _ hl _
  exact .inl hl
 ·injection hcs with hcs _
  injection hcs with hA hl' hc'
  subst hA hl' hc'
  by_cases h0:len=0
  ·exact .inl h0
  have hmle:len<=m:=by rw [hmm];split<;>omega
  have key:∀ i,i<len->∃ (t:Int) (k v:ByteArray),W.cell? (a.add (i*3))=some (.int .i64 t)/\W.cell? (a.add (i*3+1))=some (.string k)/\W.cell? (a.add (i*3+2))=some (.string v):=by
   intro i hil
   obtain ⟨ys,n,_,_,_,hfs⟩:=hi i (by omega)
   obtain ⟨v0,y0,hc0,_,ht0⟩:=hfs 0 _ rfl
   obtain ⟨v1,y1,hc1,_,ht1⟩:=hfs 1 _ rfl
   obtain ⟨v2,y2,hc2,_,ht2⟩:=hfs 2 _ rfl
   obtain ⟨x0,e0,_,_⟩:=DataW.trod_int Tryz.underlying3 ht0
   obtain ⟨x1,e1,_,_⟩:=DataW.trod_string Tryz.underlying9 ht1
   obtain ⟨x2,e2,_,_⟩:=DataW.trod_string Tryz.underlying9 ht2
   injection e0 with e0 _
   injection e1 with e1 _
   injection e2 with e2 _
   subst e0 e1 e2
   exact ⟨x0,x1,x2,hc0,hc1,hc2⟩
  obtain ⟨b,off,spot⟩:=a
  have hspot:spot=none:=by
   obtain ⟨_,_,_,hc,_⟩:=key 0 (by omega)
   simpa [Addr.add] using World.cell?_spot hc
  subst hspot
  simp only [Addr.add_lit] at key
  have hlt:b<W.heap.size:=by
   obtain ⟨_,_,_,hc,_⟩:=key 0 (by omega)
   exact World.block_lt_of_cell? _ _ hc
  refine .inr ⟨b,off,rfl,hlt,fun i hil=>?_⟩
  obtain ⟨t,k,v,h⟩:=key i hil
  simp only [<- Nat.add_assoc] at h
  exact ⟨t,k,v,h⟩
end
end
end Go.Proofs.YtechnoogjhohfaaGreat
