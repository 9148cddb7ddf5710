import Derived.Test.YtechnoogjhohfaaGreatS36
import Derived.Test.YtechnoogjhohfaaGreatS28
import Derived.SizedLaws
set_option maxRecDepth 100000
set_option maxHeartbeats 6400000
set_option linter.unusedVariables false
set_option linter.unusedSimpArgs false
namespace Go.Proofs.YtechnoogjhohfaaGreat
open Go.RowKit Go.ChangeShapes Go.WideShapes Go.Deep
section
section
variable {H:Type} {enc:TypeId × Value->H} {P:Program} {w:World} {base:Nat} {spare:Nat->Bool} {held:Bool} {fuel:Nat}
def LW {H:Type} (P:Program) (t:TypeId) (d:DataW H):Prop:=∀ n,n∈d.weights P t->n<=reachBytes
theorem zdd {e:TypeId}:∀ {l:List (DataW H)} {d:DataW H},d∈l->∀ n,n∈d.weights P e->n∈DataW.weightsAll P e l
 | a::l,d,hd,n,hn=>by
  rw [DataW.weightsAll,ja];rcases zO.1 hd with rfl | hd
  ·exact .inl hn
  ·exact .inr (zdd hd n hn)
theorem zia {t:TypeId} {fs:Array Field} {cs:List Value} {x:DataW H × List MemPlace} (E:P.underlying t=some (.struct fs)) (h:DataW.trod enc P w base spare held fuel t cs=some x) (Z:LW P t x.1) :
  cs.length=P.cellsOf t/\∃ n,∀ (i:Nat) (u:TypeId) (o:Nat),(fs[i]?).map (fun f=>(f.type,f.offset))=some (u,o)->∃ y,DataW.trod enc P w base spare held n u ((cs.drop o).take (P.cellsOf u))=some y/\LW P u y.1:=by
 obtain ⟨xs,n,_,hx,Y,a1,U⟩:=DataW.trod_struct E h;subst hx;refine ⟨Y,n,fun i u o z=>?_⟩;cases D:fs[i]? with
 | none=>rw [D] at z;cases z
 | some f =>
 rw [D] at z;injection z with z;injection z with O R;subst O R;have X:i<xs.length:=by rw [a1];exact (qu.1 D).1
 have L:xs[i]?=some xs[i]:=zX X;refine ⟨xs[i],(U i f D).trans L,fun m hm=>Z m ?_⟩;have a0:DataW.weights P t (.agg (xs.map (·.1)))=DataW.weightsEach P (fs.toList.map (·.type)) (xs.map (·.1)):=by rw [DataW.weights,E]
 rw [a0];refine DataW.weights_mem_each (j:=i) (t:=f.type) (d:=xs[i].1) ?_ ?_ m hm
 ·rw [List.getElem?_map,Array.getElem?_toList,D];rfl
 ·rw [List.getElem?_map,L];rfl
theorem zhs {t e:TypeId} {u rest:List (DataW H)} (D:P.underlying t=some (.slice e)) (h:LW P t (.slice u rest)):(u.length+rest.length)*P.bytesOf e<=reachBytes/\∀ d,d∈u->LW P e d:=by unfold LW at h;rw [DataW.weights,D] at h;dsimp only at h;refine ⟨h _ (ji ..),fun d hd n z=>h n (jh _ (List.mem_append_left _ (zdd hd n z)))⟩
theorem zqp {t:TypeId} {bs:List UInt8} (h:LW (H:=H) P t (.lit (.string bs))):bs.length<=reachBytes:=h _ (by simp [DataW.weights])
theorem zjc:Program.cellsOf Tryz.prog 56=12:=by kernel_rfl
theorem zpW:Program.bytesOf Tryz.prog 5=1:=by kernel_rfl
theorem Jw {k:IntKind} {t:TypeId} {n:Nat} {c:Value} {y:DataW H × List MemPlace} (u:P.underlying t=some (.int k)) (h:DataW.trod enc P w base spare held n t [c]=some y):∃ z,c=.int k z/\(Lit.int k z).wf=true:=by obtain ⟨z,e,_,D⟩:=DataW.trod_int u h;injection e with e;exact ⟨z,e,D⟩
theorem zdq {t:TypeId} {n:Nat} {c:Value} {y:DataW H × List MemPlace} (E:P.underlying t=some .string) (h:DataW.trod enc P w base spare held n t [c]=some y) (u:LW P t y.1):∃ s:ByteArray,c=.string s/\s.size<140737488355328:=by obtain ⟨s,e,z,_⟩:=DataW.trod_string E h;injection e with e;refine ⟨s,e,?_⟩;rw [z] at u;have D:=zqp u;have L:s.data.toList.length=s.size:=Array.length_toList ..;unfold reachBytes at D;omega
theorem zjX {n:Nat} {c:Value} {y:DataW H × List MemPlace} (h:DataW.trod enc Tryz.prog w base spare held n 29 [c]=some y) (hw:LW Tryz.prog 29 y.1):∃ A k cap b,c=.slice A k cap/\zj w (.slice A k cap) b/\b.length<140737488355328:=by
 rcases DataW.trod_slice Tryz.underlying29 h with ⟨D,_⟩ | ⟨a,len,cap,X,rest,m,_,D,hx,_,hl,hm,a3,a1,_⟩
 ·injection D with D;exact ⟨none,0,0,[],D,⟨_,0,rfl,zL.cz,za _,by unfold maxLen;omega⟩,by simp⟩
 ·injection D with D;rw [hx] at hw;have a0:=(zhs Tryz.underlying29 hw).1;rw [zpW,List.length_map,List.length_map,Nat.mul_one] at a0;unfold reachBytes at a0;have key:∀ i,i<len->∃ u:UInt8,w.cell? (a.add i)=some (.int .u8 u.toNat):=fun i O=>by
   have E:=a1 i O;have h2:X[i]?=some X[i]:=zX (by omega);rw [h2,show Program.cellsOf Tryz.prog 5=1 by kernel_rfl,Nat.mul_one] at E;cases R:w.cells? base (a.add i) 1 with
   | none=>rw [R] at E;cases E
   | some cs =>
    rw [R] at E;obtain ⟨_,h3,h4⟩:=World.cells?_some R;obtain ⟨z,e,_,hz⟩:=DataW.trod_int Tryz.underlying5 E;subst e;have Y:=h4 0 (by omega);have h6:0<=z/\z<256:=by unfold Lit.wf at hz;simp [IntKind.min,IntKind.max,IntKind.signed,IntKind.bits] at hz;omega
    refine ⟨UInt8.ofNat z.toNat,?_⟩;have h7:(UInt8.ofNat z.toNat).toNat=z.toNat:=by simp;omega
    rw [h7,show ((z.toNat:Nat):Int)=z by omega];have h8:(a.add i).add 0=a.add i:=by rw [Go.Deep.add_add];rfl
    rw [h8] at Y;exact Y
  have L:∃ f:Nat->UInt8,∀ i,i<len->w.cell? (a.add i)=some (.int .u8 (f i).toNat):=by
   have:∀ i,∃ u:UInt8,i<len->w.cell? (a.add i)=some (.int .u8 u.toNat):=fun i=>by
    by_cases O:i<len
    ·obtain ⟨u,hu⟩:=key i O;exact ⟨u,fun _=>hu⟩
    ·exact ⟨0,fun h=>absurd h O⟩
   exact Classical.skolem.1 this
  obtain ⟨f,L⟩:=L;refine ⟨some a,len,cap,(List.range len).map f,D,⟨some a,cap,by simp,?_,by simpa using hl,hm⟩,by simp;omega⟩;refine ⟨by simp [zD],fun h0=>⟨a,rfl,?_,fun j u U=>?_⟩⟩
  ·have h9:=L 0 (by simpa using h0);have:=World.block_lt_of_cell? _ _ h9;rwa [Qv] at this
  ·have Z:j<len:=by have:=(zr.1 U).1;simpa [zD] using this
   rw [L j Z];simp only [zD,List.getElem?_map,List.getElem?_range Z,qk] at U;exact U
theorem zqS {l:List Value} (h:l.length=12):∃ u z L O R U X Y Z c9 D E,l=[u,z,L,O,R,U,X,Y,Z,c9,D,E]:=by rcases l with _ | ⟨u,_ | ⟨z,_ | ⟨L,_ | ⟨O,_ | ⟨R,_ | ⟨U,_ | ⟨X,_ | ⟨Y,_ | ⟨Z,_ | ⟨c9,_ | ⟨D,_ | ⟨E,_ | ⟨a0,l⟩⟩⟩⟩⟩⟩⟩⟩⟩⟩⟩⟩⟩<;>simp at h;exact ⟨_,_,_,_,_,_,_,_,_,_,_,_,rfl⟩
theorem zlu {n b off:Nat} {cs:List Value} {y:DataW H × List MemPlace} (a0:DataW.trod enc Tryz.prog w base spare held n 56 cs=some y) (hw:LW Tryz.prog 56 y.1) (hc:∀ i,i<12->w.cell? ⟨b,off+i,none⟩=cs[i]?):∃ q hh a5 bs,GU w b off q hh a5 bs:=by obtain ⟨hl,n1,X⟩:=zia Tryz.underlying56 a0 hw;rw [zjc] at hl;obtain ⟨c0,c1,c2,c3,c4,c5,c6,c7,c8,c9,a8,a9,rfl⟩:=zqS hl;obtain ⟨y0,h0,w0⟩:=X 0 37 0 rfl;obtain ⟨y1,h,w1⟩:=X 1 3 10 rfl;obtain ⟨y2,u,w2⟩:=X 2 4 11 rfl;rw [show Program.cellsOf Tryz.prog 37=10 by kernel_rfl] at h0;rw [show Program.cellsOf Tryz.prog 3=1 by kernel_rfl] at h;rw [show Program.cellsOf Tryz.prog 4=1 by kernel_rfl] at u;simp only [List.drop_zero,List.drop_succ_cons,List.take_succ_cons,List.take_zero] at h0 h u;obtain ⟨a6,rfl,_⟩:=Jw Tryz.underlying3 h;obtain ⟨a7,D,_⟩:=DataW.trod_bool Tryz.underlying4 u;injection D with D;subst D;obtain ⟨_,n2,z⟩:=zia Tryz.underlying37 h0 w0;obtain ⟨y0,h0,_⟩:=z 0 3 0 rfl;obtain ⟨y1,h,_⟩:=z 1 3 1 rfl;obtain ⟨y2,u,_⟩:=z 2 3 2 rfl;obtain ⟨y3,E,w3⟩:=z 3 34 3 rfl;obtain ⟨y4,L,w4⟩:=z 4 9 6 rfl;obtain ⟨y5,O,_⟩:=z 5 3 7 rfl;obtain ⟨y6,R,_⟩:=z 6 35 8 rfl;obtain ⟨y7,U,w7⟩:=z 7 29 9 rfl;rw [show Program.cellsOf Tryz.prog 3=1 by kernel_rfl] at h0 h u O;rw [show Program.cellsOf Tryz.prog 34=3 by kernel_rfl] at E;rw [show Program.cellsOf Tryz.prog 9=1 by kernel_rfl] at L;rw [show Program.cellsOf Tryz.prog 35=1 by kernel_rfl] at R;rw [show Program.cellsOf Tryz.prog 29=1 by kernel_rfl] at U;simp only [List.drop_zero,List.drop_succ_cons,List.take_succ_cons,List.take_zero] at h0 h u E L O R U;obtain ⟨z0,rfl,_⟩:=Jw Tryz.underlying3 h0;obtain ⟨z1,rfl,_⟩:=Jw Tryz.underlying3 h;obtain ⟨z2,rfl,k2⟩:=Jw Tryz.underlying3 u;obtain ⟨s6,rfl,k6⟩:=zdq Tryz.underlying9 L w4;obtain ⟨z7,rfl,k7⟩:=Jw Tryz.underlying3 O;obtain ⟨z8,rfl,_⟩:=Jw Tryz.underlying35 R;obtain ⟨A,k,cap,bs,rfl,a3,a1⟩:=zjX U w7;obtain ⟨_,n3,Y⟩:=zia Tryz.underlying34 E w3;obtain ⟨y0,h0,_⟩:=Y 0 3 0 rfl;obtain ⟨y1,h,w1⟩:=Y 1 9 1 rfl;obtain ⟨y2,u,w2⟩:=Y 2 9 2 rfl;rw [show Program.cellsOf Tryz.prog 3=1 by kernel_rfl] at h0;rw [show Program.cellsOf Tryz.prog 9=1 by kernel_rfl] at h u;simp only [List.drop_zero,List.drop_succ_cons,List.take_succ_cons,List.take_zero] at h0 h u;obtain ⟨z3,rfl,_⟩:=Jw Tryz.underlying3 h0;obtain ⟨s4,rfl,k4⟩:=zdq Tryz.underlying9 h w1;obtain ⟨s5,rfl,k5⟩:=zdq Tryz.underlying9 u w2;refine ⟨⟨z0,z1,z2,z3,s4,s5,s6,z7,z8,A,k,cap⟩,a6,a7,bs,fun j v Z=>?_,k2,k7,a3,k4,k5,k6,a1⟩;have a4:j<12:=(zr.1 Z).1;rw [hc j a4];exact Z
theorem deeds_open {W:World} {A:Option Addr} {len cap:Nat} {x:DataW H × List MemPlace} (h:DataW.trod enc Tryz.prog W base spare held fuel 42 [.slice A len cap]=some x) (Z:LW Tryz.prog 42 x.1):∃ d,Kx W A len d:=by
 rcases DataW.trod_slice Tryz.underlying42 h with ⟨L,_⟩ | ⟨a,c1,b9,U,rest,m,_,L,hx,_,Y,hm,c0,a1,_⟩
 ·injection L with L _;injection L with _ Y _;exact ⟨⟨fun _=>⟨0,0,0,0,.empty,.empty,.empty,0,0,none,0,0⟩,fun _=>0,fun _=>false,fun _=>[]⟩,.inl Y⟩
 ·injection L with L _;injection L with hA a5 a3;subst hA a5 a3;rw [hx] at Z;have a8:=(zhs Tryz.underlying42 Z).2;by_cases h0:len=0
  ·exact ⟨⟨fun _=>⟨0,0,0,0,.empty,.empty,.empty,0,0,none,0,0⟩,fun _=>0,fun _=>false,fun _=>[]⟩,.inl h0⟩
  have key:∀ i,i<len->∃ (cs:List Value) (y:DataW H × List MemPlace),W.cells? base (a.add (i*12)) 12=some cs/\DataW.trod enc Tryz.prog W base spare held m 56 cs=some y/\LW Tryz.prog 56 y.1:=fun i D=>by
   have u:=a1 i D;have E:U[i]?=some U[i]:=zX (by omega);rw [E,zjc] at u;cases X:W.cells? base (a.add (i*12)) 12 with
   | none=>rw [X] at u;cases u
   | some cs =>rw [X] at u;exact ⟨cs,_,rfl,u,a8 _ (List.mem_map.2 ⟨_,List.getElem_mem _,rfl⟩)⟩
  obtain ⟨b,off,a0⟩:=a;have O:∀ i,i<len->∃ (cs:List Value) (y:DataW H × List MemPlace),(∀ j,j<12->W.cell? ((⟨b,off,a0⟩:Addr).add (i*12+j))=cs[j]?)/\cs.length=12/\DataW.trod enc Tryz.prog W base spare held m 56 cs=some y/\LW Tryz.prog 56 y.1:=fun i D=>by obtain ⟨cs,y,u,E,z⟩:=key i D;obtain ⟨_,h4,h5⟩:=World.cells?_some u;refine ⟨cs,y,fun j R=>?_,h4,E,z⟩;rw [<- Go.Deep.add_add];exact h5 j R
  have a7:a0=none:=by obtain ⟨cs,y,u,E,_⟩:=O 0 (by omega);have z:=u 0 (by omega);rw [zX (by omega)] at z;simpa [Addr.add] using World.cell?_spot z
  subst a7;simp only [Addr.add_lit] at O;have a6:b<W.heap.size:=by obtain ⟨cs,y,u,E,_⟩:=O 0 (by omega);have z:=u 0 (by omega);rw [zX (by omega)] at z;exact World.block_lt_of_cell? _ _ z
  have a4:∀ i,∃ t:Rq × Int × Bool × List UInt8,i<len->GU W b (off+i*12) t.1 t.2.1 t.2.2.1 t.2.2.2:=fun i=>by
   by_cases D:i<len
   ·obtain ⟨cs,y,u,_,E,z⟩:=O i D;obtain ⟨q,hh,a9,bs,hd⟩:=zlu E z (b:=b) (off:=off+i*12) fun j R=>by rw [Nat.add_assoc];exact u j R
    exact ⟨⟨q,hh,a9,bs⟩,fun _=>hd⟩
   ·exact ⟨⟨⟨0,0,0,0,.empty,.empty,.empty,0,0,none,0,0⟩,0,false,[]⟩,fun h=>absurd h D⟩
  obtain ⟨t,ht⟩:=Classical.skolem.1 a4;exact ⟨⟨fun i=>(t i).1,fun i=>(t i).2.1,fun i=>(t i).2.2.1,fun i=>(t i).2.2.2⟩,.inr ⟨b,off,rfl,a6,fun i D=>ht i D⟩⟩
end
end
end Go.Proofs.YtechnoogjhohfaaGreat
