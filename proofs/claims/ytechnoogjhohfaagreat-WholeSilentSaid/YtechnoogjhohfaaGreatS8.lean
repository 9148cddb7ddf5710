import Derived.Test.YtechnoogjhohfaaGreatS6
import Derived.Test.YtechnoogjhohfaaGreatS7
import Derived.Deep.WholeRow
import Derived.Great.BuildSlice
import Derived.Laws.CopyOwn
import Derived.Outline
import Derived.Stop.BytesEq
set_option maxRecDepth 100000
set_option maxHeartbeats 6400000
set_option linter.unusedVariables false
set_option linter.unusedSimpArgs false
namespace Go.Proofs.YtechnoogjhohfaaGreat
open Go.RowKit Go.Lib
open YtechnoogjhohfaaGreatW Go.Proofs.Tryz Go.Proofs.YtechnoogjhohfaaGreat.Tryz
section
theorem zL.ev {w:World} {B n:Nat} {A:Option Addr} {xs:List Value} (h:zL w B 1 A n xs) (h0:0<xs.length):∃ ad,A=some ad/\∀ j v,xs[j]?=some v->w.cell? (ad.add j)=some v:=by obtain ⟨ad,e,_,u⟩:=h.2 (by have:=h.1;omega);exact ⟨ad,e,u⟩
def bA (n m:Nat):Array Bool:=((List.range n).map fun i=>m.testBit i).toArray
theorem zL.bk {w:World} {g size n:Nat} {xs:List Value} {t:TypeId} {fr:Nat × Nat} (h:w.heap[g]?=some (.cells xs.toArray t fr)) (z:xs.length=n*size):zL w w.heap.size size (some ⟨g,0,none⟩) n xs :=
 ⟨z,fun _=>⟨_,rfl,(qu.1 h).1,fun j u D=>by
  rw [Addr.add_mid,qy,cell_of_row w g j _ t fr h];simpa using D⟩⟩
theorem zjp {w:World} {B:Nat} {e:TypeId} {s:Nat} {v:Value} {n:Nat} {xs:List Value} (h:w.ownsRow B e s v n xs):v.oneCell'=true:=by obtain ⟨A,c,rfl⟩:=own_slice h;rfl
theorem uE {w w':World} (h:Below w.drew.heap.size w.drew w'):zd w w':=⟨h.os,h.tape,h.output,h.size,h.block⟩
section
variable {w w':World} {k:Nat} {x:Obj}
theorem zi (h:w.heap[k]?=some x):k<w.heap.size:=(qu.1 h).1
theorem zo (w:World) (o:Obj) {n:Nat} (h:n=w.heap.size):(w.alloc o).heap[n]?=some o:=by rw [h];exact heap_alloc_new w o
theorem zw (h:w.heap[k]?=some x) (o:Obj):(w.alloc o).heap[k]?=some x:=(Below.heap_alloc w o k (zi h)).trans h
theorem qq {row:Option Nat} (h:w.heap[k]?=some x) (u:w.grownBy w' row) (z:row≠some k):w'.heap[k]?=some x:=(u.block k (zi h) (fun e=>z e.symm)).trans h
theorem zg {B:Nat} (h:w.heap[k]?=some x) (hb:Below B w w') (u:k<B):w'.heap[k]?=some x:=(hb.block k u).trans h
theorem qK {M:Nat->Prop} (h:w.heap[k]?=some x) (hb:zA M w w') (u:¬ M k):w'.heap[k]?=some x:=(hb.block k (zi h) u).trans h
theorem QB (h:w.heap[k]?=some x) {p:Addr} (z:k≠p.block) (u:Value):(w.setCell p u).heap[k]?=some x:=(heap_setCell_other _ _ _ _ z).trans h
end
section
variable {w w':World} {p:Addr} {v:Value}
theorem ZR (h:w.cell? p=some v):p.block<w.heap.size:=World.block_lt_of_cell? w p h
theorem yK (h:w.cell? p=some v) (o:Obj):(w.alloc o).cell? p=some v:=(World.cell?_of_block (Below.heap_alloc w o p.block (ZR h))).trans h
theorem Qw {row:Option Nat} (h:w.cell? p=some v) (u:w.grownBy w' row) (z:row≠some p.block):w'.cell? p=some v:=(World.cell?_of_block (u.block p.block (ZR h) (fun e=>z e.symm))).trans h
theorem qU {B:Nat} (h:w.cell? p=some v) (hb:Below B w w') (u:p.block<B):w'.cell? p=some v:=(World.cell?_of_block (hb.block p.block u)).trans h
theorem Qh {M:Nat->Prop} (h:w.cell? p=some v) (hb:zA M w w') (u:¬ M p.block):w'.cell? p=some v:=(World.cell?_of_block (hb.block p.block (ZR h) u)).trans h
end
section
variable {P:Program}
structure ue (P:Program) (e size bytes:Nat):Prop where
 ex:∃ i z,P.info? e=some i/\i.zero=some z/\i.size=size/\i.bytes=bytes/\z.cells.size=size
theorem ue.of {e size L:Nat} (h:(P.info? e).map (fun i=>(i.zero.map (·.cells.size),i.size,i.bytes))=some (some size,size,L)):ue P e size L:=by
 cases D:P.info? e with
 | none=>simp [D] at h
 | some i =>
  simp only [D,qk,jd,Prod.mk.injEq] at h;obtain ⟨u,O,R⟩:=h;cases E:i.zero with
  | none=>simp [E] at u
  | some z =>simp only [E,qk,jd] at u;exact ⟨i,z,D,E,O,R,u⟩
theorem zks (w:World) (t e size u:Nat) (v:Value) (L:P.underlying t=some (.slice e)) (D:ue P e size u) (O:v.cells.size=size) (h0:0<size) (hs:size<=100000) :
  (Instr.buildSlice t 1 #[(0,v)]).run P w=.ok (.slice (some ⟨w.heap.size,0,none⟩) 1 1) (w.alloc (.cells v.cells e)):=by
 obtain ⟨i,z,E,R,h,U,X⟩:=D.ex;refine run_buildSlice w t e 1 #[(0,v)] v.cells i z L E R (by rw [h];omega) (by rw [h];omega) ?_;have:=Great.fill_whole (s:=i.size) (by omega) [v] ((Array.range (1*i.size)).map (z.cells[· % z.cells.size]!)) (by simpa [h] using O) (by simp);simpa using this
theorem yv {o:Oper} {a:Act} {w:World} {K:Act->World->Prop} {Q:Exit->Act->World->Prop} (t e size u:Nat) (x:Operand) (D:o.op=.buildSlice t 1 #[(0,x)]) (v:Value) (O:a.eval x=v)
  (E:P.underlying t=some (.slice e)) (z:ue P e size u) (L:v.cells.size=size) (h0:0<size) (hs:size<=100000)
  (h:K (a.put o.dst (.slice (some ⟨w.heap.size,0,none⟩) 1 1)) (w.alloc (.cells v.cells e))):o.wp P a w K Q:=by
 unfold Oper.wp execOp;have:=zks (P:=P) w t e size u v E z L h0 hs;subst O;simp only [D,Sem.run_bind,List.map_toArray,List.map_cons,List.map_nil,this,Result.andThen_ok];exact h
theorem Qd {w:World} {o:Oper} {a:Act} {K:Act->World->Prop} {Q:Exit->Act->World->Prop} (s x:Operand) (t e size z:Nat)
  (X:o.op=.call { callee:=.builtin .append,args:=#[s,x],argTypes:=#[t,t] }) (ht:P.underlying t=some (.slice e)) (L:ue P e size z) (a1:0<size)
  (v:Value) (n:Nat) (xs:List Value) (base:Nat) (hs:a.eval s=v) (Y:w.ownsRow base e size v n xs)
  (A:Option Addr) (m c:Nat) (u:List Value) (B:Nat) (hx:a.eval x=.slice A m c) (Z:zL w B size A m u) (D:∀ a4∈u,a4.oneCell'=true)
  (E:n+m<=10000000) (hb:z<=10000) (O:base<=w.heap.size)
  (h:∀ v' w',w'.ownsRow base e size v' (n+m) (xs++u)->w.grownBy w' v.ownBlock->(v'.ownBlock=v.ownBlock∨v'.ownBlock=some w.heap.size)->K (a.put o.dst v') w'):o.wp P a w K Q:=by
 obtain ⟨i,a5,U,hz,a0,R,a3⟩:=L.ex;refine zbq w s x t X base e i a5 size z ht U hz a0 R a3 a1 v n xs hs Y B A m c u hx Z D (by unfold maxLen;omega) ?_ O h;exact zz (Nat.mul_le_mul E hb) (by omega)
theorem jX {w:World} {ops:Array Oper} {rest:List Oper} {o:Oper} {a:Act} {Q:Exit->Act->World->Prop} (Z:o.guard=none) (s x:Operand) (t e size z:Nat)
  (ho:o.op=.call { callee:=.builtin .append,args:=#[s,x],argTypes:=#[t,t] }) (ht:P.underlying t=some (.slice e)) (U:ue P e size z) (a1:0<size)
  (v:Value) (n:Nat) (xs:List Value) (base:Nat) (hs:a.eval s=v) (a0:w.ownsRow base e size v n xs)
  (A:Option Addr) (m c:Nat) (u:List Value) (B:Nat) (hx:a.eval x=.slice A m c) (hr:zL w B size A m u) (D:∀ a3∈u,a3.oneCell'=true)
  (R:n+m<=10000000) (hb:z<=10000) (Y:base<=w.heap.size)
  (h:∀ v' w',w'.ownsRow base e size v' (n+m) (xs++u)->w.grownBy w' v.ownBlock->(v'.ownBlock=v.ownBlock∨v'.ownBlock=some w.heap.size)->wpList P ops Q rest (a.put o.dst v') w'):wpList P ops Q (o::rest) a w :=
 wpList_plain Z fun _ X=>Qd s x t e size z ho ht U a1 v n xs base hs a0 A m c u B hx hr D R hb Y fun v' w' E L O=>X _ _ (h v' w' E L O)
theorem zL.a9 {w:World} {g size n:Nat} {C:Array Value} {t:TypeId} {fr:Nat × Nat} (h:w.heap[g]?=some (.cells C t fr)) (z:C.size=n*size):zL w w.heap.size size (some ⟨g,0,none⟩) n C.toList :=
 ⟨by simpa using z,fun _=>⟨_,rfl,(qu.1 h).1,fun j u D=>by
  rw [Addr.add_mid,qy,cell_of_row w g j C t fr h];simpa using D⟩⟩
theorem ZS {h:Func} {R:Ending->World->Prop} {a:Act} {w:World} (z:h.results=#[]) (hd:a.defers=[]) (u:R (.returned (.tuple #[])) w):bodyPost P h R .normal a w :=
 bodyPost_end (results_none z _ _ _) hd u
theorem zcA {u:Func} {R:Ending->World->Prop} {a:Act} {w:World} (p:Tmp) (ty:TypeId) (h:u.results=#[.cell p ty]) (hd:a.defers=[]) (g:Nat) (t:TypeId) (cs:Array Value) (fr:Nat × Nat) (d:TypeDesc)
  (L:a.tmps.getD p undef=.pointer (some ⟨g,0,none⟩)) (D:w.heap[g]?=some (.cells cs t fr)) (U:P.underlying ty=some d) (O:(match d with | .struct _ | .array _ _=>true | _=>false)=true) (E:(P.info? ty).map (·.size)=some cs.size)
  (z:R (.returned (.agg cs)) w):bodyPost P u R .ret a w :=
 bodyPost_ret (results_cell_row h _ w g t cs fr d L D U O E) hd z
theorem yG {z:Func} {R:Ending->World->Prop} {a:Act} {w:World} (p u:Tmp) (ty:TypeId) (h:z.results=#[.cell p ty,.tmp u]) (hd:a.defers=[]) (g:Nat) (t:TypeId) (cs:Array Value) (fr:Nat × Nat) (d:TypeDesc) (x:Value)
  (O:a.tmps.getD p undef=.pointer (some ⟨g,0,none⟩)) (Z:a.tmps.getD u undef=x) (E:w.heap[g]?=some (.cells cs t fr)) (Y:P.underlying ty=some d) (X:(match d with | .struct _ | .array _ _=>true | _=>false)=true) (L:(P.info? ty).map (·.size)=some cs.size)
  (D:R (.returned (.tuple #[.agg cs,x])) w):bodyPost P z R .ret a w:=by
 refine bodyPost_ret ?_ hd D;have U:a.tmps[p]?.getD undef=.pointer (some ⟨g,0,none⟩):=by simpa using O
 have a0:a.tmps[u]?.getD undef=x:=by simpa using Z
 simp [results,h,U,a0,asAddr,run_loadVar_row w g t ty cs fr d E Y X L]
theorem zcg {z:Func} {R:Ending->World->Prop} {a:Act} {w:World} (p u q:Tmp) (ty:TypeId) (h:z.results=#[.cell p ty,.tmp u,.tmp q]) (hd:a.defers=[]) (g:Nat) (t:TypeId) (cs:Array Value) (fr:Nat × Nat) (d:TypeDesc) (x y:Value)
  (O:a.tmps.getD p undef=.pointer (some ⟨g,0,none⟩)) (Z:a.tmps.getD u undef=x) (hy:a.tmps.getD q undef=y) (E:w.heap[g]?=some (.cells cs t fr)) (Y:P.underlying ty=some d) (X:(match d with | .struct _ | .array _ _=>true | _=>false)=true) (L:(P.info? ty).map (·.size)=some cs.size)
  (D:R (.returned (.tuple #[.agg cs,x,y])) w):bodyPost P z R .ret a w:=by
 refine bodyPost_ret ?_ hd D;have U:a.tmps[p]?.getD undef=.pointer (some ⟨g,0,none⟩):=by simpa using O
 have a0:a.tmps[u]?.getD undef=x:=by simpa using Z
 have a1:a.tmps[q]?.getD undef=y:=by simpa using hy
 simp [results,h,U,a0,a1,asAddr,run_loadVar_row w g t ty cs fr d E Y X L]
theorem uL {o:Oper} {a:Act} {w w1:World} {v:Value} {K:Act->World->Prop} {Q:Exit->Act->World->Prop} (u:(execOp a.eval o).run P w=.ok (.value v) w1) (h:K (a.put o.dst v) w1):o.wp P a w K Q:=by unfold Oper.wp;rw [u];exact h
theorem Qn {o:Oper} {a:Act} {w:World} {K:Act->World->Prop} {Q:Exit->Act->World->Prop} (s d:TypeId) (x:Operand) (u:o.op=.convert s d x) (v v':Value) (D:a.eval x=v) (z:(convert s d v).run P w=.ok v' w)
  (h:K (a.put o.dst v') w):o.wp P a w K Q:=by
 refine uL ?_ h;unfold execOp;simp [u,D,z]
theorem uU {ops:Array Oper} {S:World->Prop} {op:Oper} {a:Act} (s d:TypeId) (x:Operand) (u:op.op=.convert s d x) (z:Region.wanted op (yielded ops a.tmps)=true) (v v':Value)
  (E:a.eval x=v) (h:∀ w,S w->(convert s d v).run P w=.ok v' w):YieldsIf P ops S op v' a :=
 .inl ⟨z,fun w D=>by
  unfold execOp;simp [u,E,h w D]⟩
theorem zpN {o:Oper} {a:Act} {w w1:World} {K:Act->World->Prop} {Q:Exit->Act->World->Prop} (t:TypeId) (x y:Operand) (u:o.op=.makeSlice t x y) (n c v:Value) (D:a.eval x=n) (E:a.eval y=c) (z:(Instr.makeSlice t n c).run P w=.ok v w1)
  (h:K (a.put o.dst v) w1):o.wp P a w K Q:=by
 refine uL ?_ h;unfold execOp;simp [u,D,E,z]
theorem zaY {o:Oper} {a:Act} {w:World} {K:Act->World->Prop} {Q:Exit->Act->World->Prop} (t:TypeId) (L:o.op=.alloc t) (n:Nat) (E:n=w.heap.size) (z:Value) (D:(P.info? t).map (·.zero)=some (some z))
  (h:K (a.put o.dst (.pointer (some ⟨n,0,none⟩))) (w.alloc (.cells z.cells t))):o.wp P a w K Q:=by
 subst E;refine uL (w1:=w.alloc (.cells z.cells t)) ?_ h;cases u:P.info? t with
 | none=>simp [u] at D
 | some i =>
  have O:i.zero=some z:=by simpa [u] using D
  unfold execOp;simp [L,Instr.alloc,zeroValue,typeInfo,u,O,newVar,newRow]
theorem QP {o:Oper} {a:Act} {w:World} {K:Act->World->Prop} {Q:Exit->Act->World->Prop} (t:TypeId) (x y:Operand) (L:o.op=.store t x y) (n:Nat) (E:n=w.heap.size) (c u:Array Value) (O:a.eval x=.pointer (some ⟨n,0,none⟩)) (R:a.eval y=.agg u)
  (D:(P.info? t).map (·.size)=some u.size) (hs:c.size=u.size) (z:u.all (·.oneCell')=true) (h:K (a.put o.dst undef) (w.alloc (.cells u t))):o.wp P a (w.alloc (.cells c t)) K Q:=by
 subst E;unfold Oper.wp execOp;simp only [L,O,R,Sem.run_bind,run_storeAt_new w t c u D hs z,Result.andThen_ok];exact h
theorem vI {o:Oper} {a:Act} {w:World} {K:Act->World->Prop} {Q:Exit->Act->World->Prop} (f:FuncId) (xs:Array Operand) (ts:Array TypeId) (args:List Value) (hop:o.op=.call { callee:=.value (.func f),args:=xs,argTypes:=ts })
  (hf : (P.funcs[f]?).map (fun fn => (fn.name == "runtime.NumGoroutine", fn.body.isSome)) = some (false, true)) (hargs : xs.toList.map a.eval = args)
  (h:Calls P f args.toArray w fun e w'=>∃ v,e=.returned v/\K (a.put o.dst v) w'):o.wp P a w K Q:=by
 cases hq:P.funcs[f]? with
 | none=>simp [hq] at hf
 | some fn =>
  simp only [hq,qk,jd,Prod.mk.injEq] at hf;have he:=PrintLast.enters_ hq hf.1 hf.2 args.toArray w;have hmap:xs.map a.eval=args.toArray:=by rw [<- hargs];apply Array.toList_inj.1;rw [Array.toList_map]
  unfold Oper.wp;have hrun:(execOp a.eval o).run P w=.ok (.enter f args.toArray) w:=by unfold execOp;simp only [hop,resolve,Deferred.ofValue,invoke,Act.eval,Sem.run_bind,Sem.run_pure,Result.andThen_ok];rw [show (xs.map (fun x=>a.eval x))=args.toArray from hmap] at *;simp [he,hmap]
  rw [hrun,Oper.upon_enter];refine h.mono fun e w'' hh=>?_;obtain ⟨v,rfl,hk⟩:=hh;exact hk
theorem jE {ops:Array Oper} {rest:List Oper} {o:Oper} {a:Act} {w:World} {Q:Exit->Act->World->Prop} (z:o.guard=none) (v:Value) (w1:World) (D:(execOp a.eval o).run P w=.ok (.value v) w1) (h:wpList P ops Q rest (a.put o.dst v) w1):wpList P ops Q (o::rest) a w :=
 wpList_plain z fun _ u=>uL D (u _ _ h)
theorem Ye {ops:Array Oper} {rest:List Oper} {o:Oper} {a:Act} {w:World} {Q:Exit->Act->World->Prop} (D:Region.wanted o (yielded ops a.tmps)=true) (v:Value) (w1:World) (z:(execOp a.eval o).run P w=.ok (.value v) w1) (h:wpList P ops Q rest (a.put o.dst v) w1):wpList P ops Q (o::rest) a w :=
 wpList_step fun K u=>by rw [if_pos D];exact uL z (u _ _ h)
theorem us {o:Oper} {a:Act} {w:World} (ty:TypeId) (x:Operand) (z:o.op=.load ty x) (b off:Nat) (E:a.eval x=.pointer (some ⟨b,off,none⟩)) (cs:List Value) (d:TypeDesc) (h:w.rangeAt b off cs)
  (D:P.underlying ty=some d) (hd:d.isRow=true) (u:(P.info? ty).map (·.size)=some cs.length):(execOp a.eval o).run P w=.ok (.value (.agg cs.toArray)) w:=by
 unfold execOp;simp only [z,E,Instr.loadAt,Instr.sureAddr,Sem.run_bind,Sem.run_pure,Result.andThen_ok,run_loadVar_mid w b off ty cs d h D hd u]
theorem KC {o:Oper} {a:Act} {w w1:World} (op:BinOp) (t R:TypeId) (x y:Operand) (D:o.op=.binOp op t x y R) (h u v:Value) (L:a.eval x=h) (O:a.eval y=u)
  (z:(eqGuard op t x y h u).run P w=.ok () w) (E:(binOp op t h u).run P w=.ok v w1):(execOp a.eval o).run P w=.ok (.value v) w1:=by
 unfold execOp;simp only [D,L,O,Sem.run_bind,z,E,Result.andThen_ok,Sem.run_pure]
theorem zfk (w:World) (op:BinOp) (t:TypeId) (x y:Operand) (a b:Array Value) (h:P.eqGuardType P.depth t=false):(eqGuard op t x y (.agg a) (.agg b)).run P w=.ok () w:=by cases op<;>simp [eqGuard,h]
theorem vH {ops:Array Oper} {rest:List Oper} {o:Oper} {a:Act} {w:World} {Q:Exit->Act->World->Prop} (E:o.guard=none) (t:TypeId) (x y:Operand) (R:o.op=.store t x y) (n:Nat) (O:n=w.heap.size) (c u:Array Value) (U:a.eval x=.pointer (some ⟨n,0,none⟩)) (X:a.eval y=.agg u)
  (L:(P.info? t).map (·.size)=some u.size) (hs:c.size=u.size) (z:u.all (·.oneCell')=true) (h:wpList P ops Q rest (a.put o.dst undef) (w.alloc (.cells u t))):wpList P ops Q (o::rest) a (w.alloc (.cells c t)) :=
 wpList_plain E fun _ D=>QP t x y R n O c u U X L hs z (D _ _ h)
theorem zoA {o:Oper} {a:Act} {w:World} {K:Act->World->Prop} {Q:Exit->Act->World->Prop} (t:TypeId) (x:Operand) (z u D:Option Operand) (Y:o.op=.slice t x z u D) (R:Value) (L E O:Option Value)
  (hx:a.eval x=R) (X:z.map a.eval=L) (U:u.map a.eval=E) (hm:D.map a.eval=O) (v':Value) (Z:(Instr.sliceAt t R L E O).run P w=.ok v' w) (h:K (a.put o.dst v') w):o.wp P a w K Q:=by
 refine uL ?_ h;subst hx X U hm;unfold execOp;simp only [Y,Sem.run_bind,Z,Result.andThen_ok,Sem.run_pure]
theorem zgp {ops:Array Oper} {rest:List Oper} {o:Oper} {a:Act} {w:World} {Q:Exit->Act->World->Prop} (X:o.guard=none) (t:TypeId) (x:Operand) (z u D:Option Operand) (ho:o.op=.slice t x z u D) (R:Value) (L E O:Option Value)
  (hx:a.eval x=R) (Z:z.map a.eval=L) (Y:u.map a.eval=E) (hm:D.map a.eval=O) (v':Value) (a0:(Instr.sliceAt t R L E O).run P w=.ok v' w) (h:wpList P ops Q rest (a.put o.dst v') w):wpList P ops Q (o::rest) a w :=
 wpList_plain X fun _ U=>zoA t x z u D ho R L E O hx Z Y hm v' a0 (U _ _ h)
theorem zlV {v:Value} (h:v.oneCell'=true):v.cells=#[v]:=by cases v<;>first | rfl | simp [Value.oneCell'] at h
theorem zkw (w:World) (t b o:Nat) (C:Array Value) (e:TypeId) (v:Value) (u:(P.info? t).map (·.size)=some 1) (hb:w.heap[b]?=some (.cells C e (0,0))) (L:o<C.size) (z:v.oneCell'=true) :
  (storeVar t ⟨b,o,none⟩ v).run P w=.ok () (w.setCell ⟨b,o,none⟩ v):=by
 cases h:P.info? t with
 | none=>simp [h] at u
 | some i =>
  have hs:i.size=1:=by simpa [h] using u
  have D:w.cell? ⟨b,o,none⟩=some C[o]:=by rw [cell_of_row w b o C e _ hb];exact Array.getElem?_eq_getElem L
  have E:w.frozen? ⟨b,o,none⟩=false:=frozen_of_row w b o C e hb;have h0:(⟨b,o,none⟩:Addr).add 0=⟨b,o,none⟩:=rfl;simp [storeVar,zlV z,sizeOf,typeInfo,h,hs,storeCells,run_store P _ _ v _ z,h0,D,E,Result.andThen]
theorem jz {op:Oper} {a:Act} {w:World} {K:Act->World->Prop} {Q:Exit->Act->World->Prop} (t:TypeId) (x y:Operand) (D:op.op=.store t x y) (b o:Nat) (C:Array Value) (e:TypeId) (v:Value)
  (L:a.eval x=.pointer (some ⟨b,o,none⟩)) (O:a.eval y=v) (u:(P.info? t).map (·.size)=some 1) (hb:w.heap[b]?=some (.cells C e (0,0))) (z:o<C.size) (E:v.oneCell'=true)
  (h:K (a.put op.dst undef) (w.setCell ⟨b,o,none⟩ v)):op.wp P a w K Q:=by
 unfold Oper.wp execOp;simp only [D,L,O,Instr.storeAt,Instr.sureAddr,Sem.run_bind,Sem.run_pure,Result.andThen_ok,zkw w t b o C e v u hb z E];exact h
theorem Zl {ops:Array Oper} {rest:List Oper} {op:Oper} {a:Act} {w:World} {Q:Exit->Act->World->Prop} (z:op.guard=none) (t:TypeId) (x y:Operand) (L:op.op=.store t x y) (b o:Nat) (C:Array Value) (e:TypeId) (v:Value)
  (R:a.eval x=.pointer (some ⟨b,o,none⟩)) (U:a.eval y=v) (D:(P.info? t).map (·.size)=some 1) (hb:w.heap[b]?=some (.cells C e (0,0))) (E:o<C.size) (O:v.oneCell'=true)
  (h:wpList P ops Q rest (a.put op.dst undef) (w.setCell ⟨b,o,none⟩ v)):wpList P ops Q (op::rest) a w :=
 wpList_plain z fun _ u=>jz t x y L b o C e v R U D hb E O (u _ _ h)
theorem qR {ops:Array Oper} {S:World->Prop} {op:Oper} {a:Act} (ty:TypeId) (x:Operand) (z:op.op=.load ty x) (E:Region.wanted op (yielded ops a.tmps)=true)
  (g:Nat) (O:a.eval x=.pointer (some ⟨g,0,none⟩)) (t:TypeId) (cs:Array Value) (fr:Nat × Nat) (d:TypeDesc) (h:∀ w,S w->w.heap[g]?=some (.cells cs t fr))
  (D:P.underlying ty=some d) (hd:(match d with | .struct _ | .array _ _=>true | _=>false)=true) (u:(P.info? ty).map (·.size)=some cs.size):YieldsIf P ops S op (.agg cs) a :=
 .inl ⟨E,fun w L=>by
  unfold execOp;simp only [z,O,Instr.loadAt,Instr.sureAddr,Sem.run_bind,Sem.run_pure,Result.andThen_ok,run_loadVar_row w g t ty cs fr d (h w L) D hd u]⟩
end
end
section
abbrev ze:=@cell_of_row
abbrev zt:=@heap_setCell_other
abbrev zu:=@IntKind.wrap_i64
abbrev zB:=@heap_setCell_same
abbrev zf:=@Below.refl
abbrev qb:=@Below.heap_alloc
abbrev ql:=@World.ownsRow_nil
abbrev zI:=@frozen_of_row
abbrev yt:=@World.cell?_of_block
abbrev vi:=@Result.andThen_ok
abbrev qJ:Array Value:=#[.int .i64 0,.int .i64 0,.string { data:=#[] },.slice none 0 0,.slice none 0 0]
abbrev zH (w:World) (b o:Nat) (v:Value):Prop:=w.cell? ⟨b,o,none⟩=some v
abbrev jJ (w:World) (b:Nat) (c:Array Value) (t:TypeId):Prop:=w.heap[b]?=some (.cells c t (0,0))
abbrev zc (f:FuncId) (x:Array Value) (w:World) (Q:Ending->World->Prop):Prop:=Calls prog f x w Q
theorem pS:(∀ (a:Act) (t:Tmp) (v:Value),a.put (some t) v={ a with tmps:=a.tmps.setIfInBounds t v })/\(∀ (a:Act) (v:Value),a.put none v=a)/\(∀ (l:List Value) (i:Nat) (v:Value),l.toArray.setIfInBounds i v=(l.set i v).toArray)/\(∀ (x:Value) (xs:List Value) (v:Value),(x::xs).set 0 v=v::xs)/\(∀ (x:Value) (xs:List Value) (n:Nat) (v:Value),(x::xs).set (n+1) v=x::xs.set n v) :=
 ⟨fun _ _ _=>rfl,fun _ _=>rfl,fun l i v=>List.setIfInBounds_toArray l i v,fun _ _ _=>rfl,fun _ _ _ _=>rfl⟩
section
variable {P:Program} {ops:Array Oper} {Q:Exit->Act->World->Prop} {md:Region.Mode} {S:World->Prop} {ds:List Nat} {oi:Oper} {fuel:Nat} {l:Array Bool} {a:Act} {w:World}
theorem pu (i T n m:Nat) {v:Value} {u:Act} (O:ops[i]?=some oi) (z:oi.dst=some T) (h:PrintLast.wpAnyLast P md ops Q S ds fuel (bA n m) u w)
  (R:∀ w,(execOp a.eval oi).run P w=.ok (.value v) w:=by intro _;go_simp;try with_reducible rfl) (E:a.put (some T) v=u:=by (try simp only [pS]);try rfl)
  (L:PrintLast.anyB md ops l (bA n m) i=true:=by kernel_rfl) (D:∀ c a w,Q (.panic c) (a.put oi.dst v) w->Q (.panic c) a w:=by exact fun _ _ _ h=>h) (U:Region.wanted oi (yielded ops a.tmps)=true:=by rfl):PrintLast.wpAnyLast P md ops Q S ds (fuel+1) l a w :=
 PrintLast.pure_ (bA n m) O z L D (.inl ⟨U,R⟩) E h
theorem tk (i T n m:Nat) {v:Value} {u:Act} (R:ops[i]?=some oi) (z:oi.dst=some T) (U:YieldsIf P ops S oi v a) (h:PrintLast.wpAnyLast P md ops Q S ds fuel (bA n m) u w)
  (L:a.put (some T) v=u:=by (try simp only [pS]);try rfl)
  (O:PrintLast.takeB md ops ds l (bA n m) i=true:=by kernel_rfl) (D:∀ c a w,Q (.panic c) (a.put oi.dst v) w->Q (.panic c) a w:=by exact fun _ _ _ h=>h) (E:S w:=by assumption):PrintLast.wpAnyLast P md ops Q S ds (fuel+1) l a w :=
 PrintLast.take_ (bA n m) R z O D U E L h
theorem tq (i T n m:Nat) {v:Value} {u:Act} (U:ops[i]?=some oi) (z:oi.dst=some T) (h:PrintLast.wpAnyLast P md ops Q S ds fuel (bA n m) u w)
  (X:∀ w,S w->(execOp a.eval oi).run P w=.ok (.value v) w:=by intro _ L;(try dsimp only at L);go_simp;try with_reducible rfl) (O:a.put (some T) v=u:=by (try simp only [pS]);try rfl)
  (R:PrintLast.takeB md ops ds l (bA n m) i=true:=by kernel_rfl) (D:∀ c a w,Q (.panic c) (a.put oi.dst v) w->Q (.panic c) a w:=by exact fun _ _ _ h=>h) (Y:Region.wanted oi (yielded ops a.tmps)=true:=by rfl) (E:S w:=by assumption):PrintLast.wpAnyLast P md ops Q S ds (fuel+1) l a w :=
 PrintLast.take_ (bA n m) U z R D (.inl ⟨Y,X⟩) E O h
theorem on (i n m:Nat) (N:Option Tmp) (L:ops[i]?=some oi) (D:oi.dst=N)
  (h:∀ K:Act->World->Prop,Shut (∀ u w',S w'->(S w'->PrintLast.wpAnyLast P md ops Q S ds fuel (bA n m) u w')->K u w')->Oper.wp P oi a w K Q)
  (E:PrintLast.readyB md ops l (bA n m) i=true:=by kernel_rfl) (hd:i ∉ ds:=by simp) (O:Region.wanted oi (yielded ops a.tmps)=true:=by rfl):PrintLast.wpAnyLast P md ops Q S ds (fuel+1) l a w :=
 PrintLast.one_ (bA n m) L D E hd fun K z=>by rw [if_pos O];exact h K z
theorem la (i n m:Nat) (N:Option Tmp) (L:ops[i]?=some oi) (D:oi.dst=N)
  (h:∀ K:Act->World->Prop,Shut (∀ u w',PrintLast.wpAnyLast P md ops Q S ds fuel (bA n m) u w'->K u w')->Oper.wp P oi a w K Q)
  (E:PrintLast.readyB md ops l (bA n m) i=true:=by kernel_rfl) (hd:i∈ds:=by simp) (O:Region.wanted oi (yielded ops a.tmps)=true:=by rfl):PrintLast.wpAnyLast P md ops Q S ds (fuel+1) l a w :=
 PrintLast.last_ (bA n m) L D E hd fun K z=>by rw [if_pos O];exact h K z
end
end
section
theorem ex {α:Type} (a:α):∃ b,b=a:=⟨a,rfl⟩
theorem xV {w:World} {b:Nat} {cs:Array Value} {t:TypeId} {z:Nat × Nat} (v:Value) (o:Nat) (h:w.heap[b]?=some (.cells cs t z)) (u:cs[o]?=some v:=by rfl):w.cell? ⟨b,o,none⟩=some v:=(ze w b o cs t z h).trans u
theorem aV {P:Program} {args:Array Value} {w:World} {A B:Ending->World->Prop} (f:FuncId) (h:Calls P f args w A) (k:∀ e w',A e w'->B e w'):Calls P f args w B:=h.mono k
section
variable {P:Program} {ops:Array Oper} {Q:Exit->Act->World->Prop} {md:Region.Mode} {S:World->Prop} {ds:List Nat} {fuel n m:Nat} {a:Act} {w:World}
theorem sV (ds:List Nat) (n:Nat) (S:World->Prop) {E:Nat} (u:S w.drew) (h:S w.drew->PrintLast.wpAnyLast P .any ops (NoPanic Q) S ds n (bA n 0) a w.drew) (hm:P.follows .mixedOrders=true:=by kernel_rfl) (D:ops.size=n:=by rfl) (z:Array.replicate n false=bA n 0:=by kernel_rfl):(Code.region E ops true).wp P Q a w :=
 wp_region_noPanic (PrintLast.start_ (bA n 0) hm D z u h)
theorem dV {l:Array Bool} (h:Q .normal a w) (u:(Region.ready md ops l == [])=true:=by kernel_rfl):PrintLast.wpAnyLast P md ops (NoPanic Q) S ds n l a w:=PrintLast.done_ u (NoPanic.normal h)
section
variable {N:Option Tmp} {op:Op} {ty:TypeId} {p:String} {af:Array Edge} {g:Option (Nat × Bool)} {v:Value} {a':Act}
theorem pV (i:Nat) (h:PrintLast.wpAnyLast P md ops Q S ds fuel (bA n (m+2 ^ i)) a' w)
  (E:ops[i]?=some ⟨N,op,ty,p,af,g⟩:=by rfl)
  (L:∀ w,(execOp a.eval ⟨N,op,ty,p,af,g⟩).run P w=.ok (.value v) w:=by intro _;go_simp;try with_reducible rfl) (z:a.put N v=a':=by (try simp only [pS]);try rfl)
  (D:PrintLast.anyB md ops (bA n m) (bA n (m+2 ^ i)) i=true:=by kernel_rfl) (u:∀ c a w,Q (.panic c) (a.put N v) w->Q (.panic c) a w:=by exact fun _ _ _ h=>h) (O:Region.wanted ⟨N,op,ty,p,af,g⟩ (yielded ops a.tmps)=true:=by rfl):PrintLast.wpAnyLast P md ops Q S ds (fuel+1) (bA n m) a w :=
 PrintLast.pure_ (bA n (m+2 ^ i)) E rfl D u (.inl ⟨O,L⟩) z h
theorem uV (i:Nat) (h:PrintLast.wpAnyLast P md ops Q S ds fuel (bA n (m+2 ^ i)) a' w)
  (E:ops[i]?=some ⟨N,op,ty,p,af,g⟩:=by rfl) (L:Region.wanted ⟨N,op,ty,p,af,g⟩ (yielded ops a.tmps)=false:=by rfl) (z:a.put N undef=a':=by (try simp only [pS]);try rfl)
  (D:PrintLast.anyB md ops (bA n m) (bA n (m+2 ^ i)) i=true:=by kernel_rfl) (u:∀ c a w,Q (.panic c) (a.put N undef) w->Q (.panic c) a w:=by exact fun _ _ _ h=>h):PrintLast.wpAnyLast P md ops Q S ds (fuel+1) (bA n m) a w :=
 PrintLast.pure_ (bA n (m+2 ^ i)) E rfl D u (.inr ⟨L,rfl⟩) z h
theorem tV (i:Nat) (h:PrintLast.wpAnyLast P md ops Q S ds fuel (bA n (m+2 ^ i)) a' w)
  (O:ops[i]?=some ⟨N,op,ty,p,af,g⟩:=by rfl)
  (R:∀ w,S w->(execOp a.eval ⟨N,op,ty,p,af,g⟩).run P w=.ok (.value v) w:=by intro _ D;(try dsimp only at D);go_simp;try with_reducible rfl) (E:a.put N v=a':=by (try simp only [pS]);try rfl)
  (L:PrintLast.takeB md ops ds (bA n m) (bA n (m+2 ^ i)) i=true:=by kernel_rfl) (u:∀ c a w,Q (.panic c) (a.put N v) w->Q (.panic c) a w:=by exact fun _ _ _ h=>h) (U:Region.wanted ⟨N,op,ty,p,af,g⟩ (yielded ops a.tmps)=true:=by rfl) (z:S w:=by assumption):PrintLast.wpAnyLast P md ops Q S ds (fuel+1) (bA n m) a w :=
 PrintLast.take_ (bA n (m+2 ^ i)) O rfl L u (.inl ⟨U,R⟩) z E h
theorem cV (i:Nat) {ad:Addr} (R:∀ w,S w->w.cell? ad=some v) (h:PrintLast.wpAnyLast P md ops Q S ds fuel (bA n (m+2 ^ i)) a' w)
  (O:ops[i]?=some ⟨N,op,ty,p,af,g⟩:=by rfl)
  (U:∀ w,w.cell? ad=some v->(execOp a.eval ⟨N,op,ty,p,af,g⟩).run P w=.ok (.value v) w:=by intro _ X;go_simp;try with_reducible rfl) (E:a.put N v=a':=by (try simp only [pS]);try rfl)
  (L:PrintLast.takeB md ops ds (bA n m) (bA n (m+2 ^ i)) i=true:=by kernel_rfl) (z:∀ c a w,Q (.panic c) (a.put N v) w->Q (.panic c) a w:=by exact fun _ _ _ h=>h) (u:Region.wanted ⟨N,op,ty,p,af,g⟩ (yielded ops a.tmps)=true:=by rfl) (D:S w:=by assumption):PrintLast.wpAnyLast P md ops Q S ds (fuel+1) (bA n m) a w :=
 PrintLast.take_ (bA n (m+2 ^ i)) O rfl L z (.inl ⟨u,fun w u=>U w (R w u)⟩) D E h
theorem kV (i:Nat) (L:ops[i]?=some ⟨N,op,ty,p,af,g⟩) (O:YieldsIf P ops S ⟨N,op,ty,p,af,g⟩ v a) (h:PrintLast.wpAnyLast P md ops Q S ds fuel (bA n (m+2 ^ i)) a' w)
  (D:a.put N v=a':=by (try simp only [pS]);try rfl)
  (E:PrintLast.takeB md ops ds (bA n m) (bA n (m+2 ^ i)) i=true:=by kernel_rfl) (u:∀ c a w,Q (.panic c) (a.put N v) w->Q (.panic c) a w:=by exact fun _ _ _ h=>h) (z:S w:=by assumption):PrintLast.wpAnyLast P md ops Q S ds (fuel+1) (bA n m) a w :=
 PrintLast.take_ (bA n (m+2 ^ i)) L rfl E u O z D h
def zhR (P:Program) (t:TypeId):Bool:=match P.underlying t with | some (.struct _) | some (.array _ _)=>true | _=>false
theorem zff {t:TypeId} (h:zhR P t=true):∃ d,P.underlying t=some d/\(match d with | .struct _ | .array _ _=>true | _=>false)=true:=by unfold zhR at h;split at h<;>first | exact ⟨_,by assumption,rfl⟩ | cases h
theorem zrC (i:Nat) {x:Operand} {u:TypeId} {b:Nat} {cs:Array Value} {t:TypeId} {z:Nat × Nat} (U:∀ w,S w->w.heap[b]?=some (.cells cs t z)) (h:PrintLast.wpAnyLast P md ops Q S ds fuel (bA n (m+2 ^ i)) a' w)
  (R:ops[i]?=some ⟨N,.load u x,ty,p,af,g⟩:=by rfl) (Z:a.eval x=.pointer (some ⟨b,0,none⟩):=by rfl) (X:zhR P u=true:=by kernel_rfl) (hz:(P.info? u).map (·.size)=some cs.size:=by kernel_rfl)
  (L:a.put N (.agg cs)=a':=by (try simp only [pS]);try rfl)
  (O:PrintLast.takeB md ops ds (bA n m) (bA n (m+2 ^ i)) i=true:=by kernel_rfl) (D:∀ c a w,Q (.panic c) (a.put N (.agg cs)) w->Q (.panic c) a w:=by exact fun _ _ _ h=>h) (Y:Region.wanted ⟨N,.load u x,ty,p,af,g⟩ (yielded ops a.tmps)=true:=by rfl) (E:S w:=by assumption):PrintLast.wpAnyLast P md ops Q S ds (fuel+1) (bA n m) a w :=
 let ⟨d,hd,hr⟩:=zff X
 PrintLast.take_ (bA n (m+2 ^ i)) R rfl O D (qR u x rfl Y b Z t cs z d U hd (by cases d<;>first | rfl | cases hr) hz) E L h
theorem oV (i:Nat) (h:∀ K:Act->World->Prop,Shut (∀ u w',S w'->(S w'->PrintLast.wpAnyLast P md ops Q S ds fuel (bA n (m+2 ^ i)) u w')->K u w')->Oper.wp P ⟨N,op,ty,p,af,g⟩ a w K Q)
  (E:ops[i]?=some ⟨N,op,ty,p,af,g⟩:=by rfl)
  (D:PrintLast.readyB md ops (bA n m) (bA n (m+2 ^ i)) i=true:=by kernel_rfl) (hd:i ∉ ds:=by simp) (L:Region.wanted ⟨N,op,ty,p,af,g⟩ (yielded ops a.tmps)=true:=by rfl):PrintLast.wpAnyLast P md ops Q S ds (fuel+1) (bA n m) a w :=
 PrintLast.one_ (bA n (m+2 ^ i)) E rfl D hd fun K z=>by rw [if_pos L];exact h K z
theorem lV (i:Nat) (h:∀ K:Act->World->Prop,Shut (∀ u w',PrintLast.wpAnyLast P md ops Q S ds fuel (bA n (m+2 ^ i)) u w'->K u w')->Oper.wp P ⟨N,op,ty,p,af,g⟩ a w K Q)
  (E:ops[i]?=some ⟨N,op,ty,p,af,g⟩:=by rfl)
  (D:PrintLast.readyB md ops (bA n m) (bA n (m+2 ^ i)) i=true:=by kernel_rfl) (hd:i∈ds:=by simp) (L:Region.wanted ⟨N,op,ty,p,af,g⟩ (yielded ops a.tmps)=true:=by rfl):PrintLast.wpAnyLast P md ops Q S ds (fuel+1) (bA n m) a w :=
 PrintLast.last_ (bA n (m+2 ^ i)) E rfl D hd fun K z=>by rw [if_pos L];exact h K z
section
variable {f:FuncId} {args:List Value} {xs:Array Operand} {ts:Array TypeId} {Q0:Ending->World->Prop}
def zrl (P:Program) (u:Region.Mode) (ops:Array Oper) (Q:Exit->Act->World->Prop) (S:World->Prop) (ds:List Nat) (h:Nat) (l:Array Bool) (a:Act) (N:Option Tmp) (e:Ending) (w:World):Prop:=∃ v,e=.returned v/\S w/\(S w->PrintLast.wpAnyLast P u ops Q S ds h l (a.put N v) w)
def zrk (P:Program) (u:Region.Mode) (ops:Array Oper) (Q:Exit->Act->World->Prop) (S:World->Prop) (ds:List Nat) (h:Nat) (l:Array Bool) (a:Act) (N:Option Tmp) (e:Ending) (w:World):Prop:=∃ v,e=.returned v/\PrintLast.wpAnyLast P u ops Q S ds h l (a.put N v) w
theorem oC (i:Nat) (HC:Calls P f args.toArray w Q0) (h:∀ e w',Q0 e w'->zrl P md ops Q S ds fuel (bA n (m+2 ^ i)) a N e w')
  (hi : ops[i]? = some ⟨N, .call { callee := .value (.func f), args := xs, argTypes := ts }, ty, p, af, g⟩ := by rfl) (hx : xs.toList.map a.eval = args := by rfl) (hf : (P.funcs[f]?).map (fun fn => (fn.name == "runtime.NumGoroutine", fn.body.isSome)) = some (false, true) := by kernel_rfl)
  (hc:PrintLast.readyB md ops (bA n m) (bA n (m+2 ^ i)) i=true:=by kernel_rfl) (hd:i ∉ ds:=by simp) (hw:Region.wanted ⟨N,.call { callee:=.value (.func f),args:=xs,argTypes:=ts },ty,p,af,g⟩ (yielded ops a.tmps)=true:=by rfl):PrintLast.wpAnyLast P md ops Q S ds (fuel+1) (bA n m) a w :=
 PrintLast.one_ (bA n (m+2 ^ i)) hi rfl hc hd fun K hK=>by rw [if_pos hw];refine vI f xs ts args rfl hf hx (HC.mono fun e w' hq=>?_);obtain ⟨v,rfl,hS,h2⟩:=h e w' hq;exact ⟨v,rfl,hK.out _ _ hS h2⟩
theorem lC (i:Nat) (HC:Calls P f args.toArray w Q0) (h:∀ e w',Q0 e w'->zrk P md ops Q S ds fuel (bA n (m+2 ^ i)) a N e w')
  (hi : ops[i]? = some ⟨N, .call { callee := .value (.func f), args := xs, argTypes := ts }, ty, p, af, g⟩ := by rfl) (hx : xs.toList.map a.eval = args := by rfl) (hf : (P.funcs[f]?).map (fun fn => (fn.name == "runtime.NumGoroutine", fn.body.isSome)) = some (false, true) := by kernel_rfl)
  (hc:PrintLast.readyB md ops (bA n m) (bA n (m+2 ^ i)) i=true:=by kernel_rfl) (hd:i∈ds:=by simp) (hw:Region.wanted ⟨N,.call { callee:=.value (.func f),args:=xs,argTypes:=ts },ty,p,af,g⟩ (yielded ops a.tmps)=true:=by rfl):PrintLast.wpAnyLast P md ops Q S ds (fuel+1) (bA n m) a w :=
 PrintLast.last_ (bA n (m+2 ^ i)) hi rfl hc hd fun K hK=>by rw [if_pos hw];refine vI f xs ts args rfl hf hx (HC.mono fun e w' hq=>?_);obtain ⟨v,rfl,h2⟩:=h e w' hq;exact ⟨v,rfl,hK.out _ _ h2⟩
end
theorem eV {l:Array Bool} (u:S w) (h:S w->PrintLast.wpAnyLast P md ops Q S ds fuel l a' w) (z:a.put N v=a':=by (try simp only [pS]);try rfl):zrl P md ops Q S ds fuel l a N (.returned v) w :=
 ⟨v,rfl,u,by rw [z];exact h⟩
theorem eL {l:Array Bool} (h:PrintLast.wpAnyLast P md ops Q S ds fuel l a' w) (u:a.put N v=a':=by (try simp only [pS]);try rfl):zrk P md ops Q S ds fuel l a N (.returned v) w :=
 ⟨v,rfl,by rw [u];exact h⟩
end
section
variable {rest:List Oper} {t lt:TypeId} {p:String} {af:Array Edge} {x y:Operand}
theorem gV (d:Tmp) {op:Op} {g:Option (Nat × Bool)} (h:wpList P ops Q (⟨some d,op,t,p,af,g⟩::rest) a w):wpList P ops Q (⟨some d,op,t,p,af,g⟩::rest) a w:=h
theorem hV (X:Tmp) {g:Option (Nat × Bool)} (h:wpList P ops Q (⟨none,.store lt (.tmp X) y,t,p,af,g⟩::rest) a w):wpList P ops Q (⟨none,.store lt (.tmp X) y,t,p,af,g⟩::rest) a w:=h
theorem rV {d:Tmp} {b:Nat} {cs:Array Value} {ct:TypeId} {z:Nat × Nat} (H:w.heap[b]?=some (.cells cs ct z)) (h:wpList P ops Q rest (a.put (some d) (.agg cs)) w) (L:a.eval x=.pointer (some ⟨b,0,none⟩):=by rfl) (E:zhR P lt=true:=by kernel_rfl) (u:(P.info? lt).map (·.size)=some cs.size:=by kernel_rfl):wpList P ops Q (⟨some d,.load lt x,t,p,af,none⟩::rest) a w :=
 let ⟨D,hd,hr⟩:=zff E
 wpList_load_row rfl lt x rfl b L ct cs z D H hd (by cases D<;>first | rfl | cases hr) u h
theorem mV {d:Tmp} (cs:List Value) {b o:Nat} (H:w.rangeAt b o cs) (h:wpList P ops Q rest (a.put (some d) (.agg cs.toArray)) w) (E:a.eval x=.pointer (some ⟨b,o,none⟩):=by rfl) (z:zhR P lt=true:=by kernel_rfl) (u:(P.info? lt).map (·.size)=some cs.length:=by kernel_rfl):wpList P ops Q (⟨some d,.load lt x,t,p,af,none⟩::rest) a w :=
 let ⟨D,hd,hr⟩:=zff z
 jE rfl _ _ (us lt x rfl b o E cs D H hd (by cases D<;>first | rfl | cases hr) u) h
theorem nV {X:Tmp} (u:Array Value) {c:Array Value} {ct:TypeId} (z:u.all (·.oneCell')=true) (h:wpList P ops Q rest (a.put none undef) (w.alloc (.cells u ct))) (E:a.eval (.tmp X)=.pointer (some ⟨w.heap.size,0,none⟩):=by rfl) (L:a.eval y=.agg u:=by rfl) (D:(P.info? ct).map (·.size)=some u.size:=by kernel_rfl) (hs:c.size=u.size:=by rfl):wpList P ops Q (⟨none,.store ct (.tmp X) y,t,p,af,none⟩::rest) a (w.alloc (.cells c ct)) :=
 vH rfl ct (.tmp X) y rfl w.heap.size rfl c u E L D hs z h
end
end
end
theorem zjf:ue prog 120 65 72:=.of (by kernel_rfl)
def jN (b:List UInt8):List UInt8:=b++zs (64-b.length)
theorem zfU {b:List UInt8} (h:b.length<=64):(jN b).length=64:=by simp [jN,zs];omega
theorem zkM (q:Int) (b:List UInt8) (hb:b.length<=64):splice (.int .i64 q::zD (zs 64)) 1 (zD b)=.int .i64 q::zD (jN b):=by unfold splice jN;simp only [List.take_succ_cons,List.take_zero,jf,yV,List.cons_append,List.nil_append];rw [show 1+b.length=b.length+1 by omega,List.drop_succ_cons];rw [JA,zs,List.drop_replicate];rfl
theorem zif (q:Int):zeroCells120.setIfInBounds 0 (.int .i64 q)=(.int .i64 q::zD (zs 64)).toArray:=by rfl
theorem zkS (q:Int):(Value.int .i64 q::zD (zs 64)).toArray.all (·.oneCell')=true:=by kernel_rfl
theorem zgm (q:Int) (l:List UInt8):∀ u∈(Value.int .i64 q::zD l),u.oneCell'=true:=by
 intro u h;rcases zO.1 h with rfl | h
 ·rfl
 ·exact yp l u h
def zZ {α:Type} (f:Nat->α) (k:Nat) (v:α):Nat->α:=fun i=>if i=k then v else f i
theorem zk {α:Type} (f:Nat->α) (k:Nat) (v:α):zZ f k v k=v:=by simp [zZ]
theorem zy {α:Type} (f:Nat->α) {k i:Nat} (v:α) (h:i≠k):zZ f k v i=f i:=by simp [zZ,h]
def ve (f:Nat->Nat->List UInt8) (r s:Nat) (v:List UInt8):Nat->Nat->List UInt8:=zZ f r (zZ (f r) s v)
theorem zel (V:Nat->Value) (k:Nat) (v:Value) (h:k<4):(Qa V).setIfInBounds (k*3) v=Qa (zZ V k v):=by rcases k with _ | _ | _ | _ | k<;>first | rfl | omega
theorem jg.own_tag {w:World} {D k x:Nat} {F:Nat->Prop} {g:uw} (z:jg w D F g) (L:k<4) (h:(g.V k).ownBlock=some x):qP w x=120:=by
 rcases (z.ba k L).2 with ⟨e,_⟩ | ⟨u,cap,cur,e,_,E,_⟩
 ·rw [e] at h;cases h
 ·rw [e] at h;obtain rfl:u=x:=by injection h
  exact zh E
theorem jg.fx {w:World} {D k:Nat} {F:Nat->Prop} {g:uw} (h:jg w D F g) (u:k<4):(g.V k).ownBlock≠some g.DR:=fun e=>by have:=h.own_tag u e;rw [zh h.bn] at this;cases this
theorem jg.g5 {w:World} {D k:Nat} {F:Nat->Prop} {g:uw} (h:jg w D F g) (u:k<4):(g.V k).ownBlock≠some D:=fun e=>by have:=h.own_tag u e;rw [zh h.U] at this;cases this
theorem jg.gj {w:World} {D:Nat} {F:Nat->Prop} {g:uw} (u:jg w D F g):D≠g.DR:=fun e=>by have h:=zh u.U;have z:=zh u.bn;rw [e,z] at h;cases h
theorem zgu {w w3 w4:World} {D k q:Nat} {F:Nat->Prop} {g:uw} {v':Value} {l:List UInt8} (u:jg w D F g) (hk:k<4) (hq:q<538) (hl:l.length=64) (hb:zd w w3) (hg:w3.grownBy w4 (g.V k).ownBlock)
  (c7:w4.ownsRow 0 120 65 v' ((g.ws k).length+1) (vU (g.ws k++[(q,l)]))) (a0:v'.ownBlock=(g.V k).ownBlock∨v'.ownBlock=some w3.heap.size) (n':Int) :
  ∃ F',jg ((w4.setCell ⟨g.DR,k*3,none⟩ v').setCell ⟨D,3,none⟩ (.int .i64 n')) D F' { g with n:=n',V:=zZ g.V k v',ws:=zZ g.ws k (g.ws k++[(q,l)]) } /\
   zA F w ((w4.setCell ⟨g.DR,k*3,none⟩ v').setCell ⟨D,3,none⟩ (.int .i64 n'))/\∀ x,F' x->F x∨w.heap.size<=x:=by
 have a1:∀ x,F x->some x≠(g.V k).ownBlock->w4.heap[x]?=w.heap[x]?:=fun x z U =>
  (hg.block x (qg (u.lt x z) hb.size) U).trans (hb.block x (u.lt x z))
 have d4:=u.a3;have a6:∀ x,(g.V k).ownBlock=some x->qP w x=120:=fun x z=>by
  rcases (u.ba k hk).2 with ⟨e,_⟩ | ⟨gg,cap,cur,e,_,hh,_⟩
  ·rw [e] at z;cases z
  ·rw [e] at z;obtain rfl:gg=x:=by injection z
   exact zh hh
 have a4:some D≠(g.V k).ownBlock:=fun e=>by have:=a6 D e.symm;rw [zh u.U] at this;cases this
 have a5:some g.DR≠(g.V k).ownBlock:=fun e=>by have:=a6 _ e.symm;rw [zh u.bn] at this;cases this
 have c1:some g.DD≠(g.V k).ownBlock:=fun e=>by obtain ⟨c,Y,_⟩:=u.data;have:=a6 _ e.symm;rw [zh Y] at this;cases this
 have a7:D≠g.DR:=fun e=>by have E:=zh u.U;have L:=zh u.bn;rw [e,L] at E;cases E
 have c4:g.DD≠D:=fun e=>by obtain ⟨c,Y,_⟩:=u.data;have E:=zh Y;have L:=zh u.U;rw [e,L] at E;cases E
 have c5:g.DD≠g.DR:=fun e=>by obtain ⟨c,Y,_⟩:=u.data;have E:=zh Y;have L:=zh u.bn;rw [e,L] at E;cases E
 have d0:v'.ownBlock≠some D:=fun e=>by
  rcases a0 with h | h
  ·exact a4 (by rw [<- h,e])
  ·rw [e] at h;injection h with h;have:=u.lt _ u.fD;have:=hb.size;omega
 have d1:v'.ownBlock≠some g.DR:=fun e=>by
  rcases a0 with h | h
  ·exact a5 (by rw [<- h,e])
  ·rw [e] at h;injection h with h;have:=u.lt _ u.de;have:=hb.size;omega
 have d3:w.heap.size<=w4.heap.size:=zz hb.size hg.size;obtain ⟨W,Z⟩:=ex ((w4.setCell ⟨g.DR,k*3,none⟩ v').setCell ⟨D,3,none⟩ (.int .i64 n'));rw [<- Z];have c0:∀ x,x≠D->x≠g.DR->W.heap[x]?=w4.heap[x]?:=fun x E L=>by rw [Z,zt _ _ _ _ E,zt _ _ _ _ L]
 have d2:W.heap.size=w4.heap.size:=by rw [Z];simp
 have a8:W.heap[D]?=some (.cells #[.int .i64 538,.slice (some ⟨g.DD,0,none⟩) 2152 2152,.slice (some ⟨g.DR,0,none⟩) 4 4,.int .i64 n'] 81 (0,0)):=by rw [Z,zB _ D 3 _ _ _ ((zt _ _ _ _ a7).trans ((a1 D u.fD a4).trans u.U))];rfl
 have b9:W.heap[g.DR]?=some (.cells (Qa (zZ g.V k v')) 86 (0,0)):=by rw [Z,zt _ _ _ _ (Ne.symm a7),zB _ g.DR (k*3) _ _ _ ((a1 _ u.de a5).trans u.bn),zel _ _ _ hk]
 have a3:∀ x,F x->some x≠(g.V k).ownBlock->x≠D->x≠g.DR->W.heap[x]?=w.heap[x]?:=fun x z E L h3=>(c0 x L h3).trans (a1 x z E);have c2:W.ownsRow 0 120 65 v' ((g.ws k).length+1) (vU (g.ws k++[(q,l)])):=own_same c7 fun x z=>c0 x (fun e=>d0 (by rw [<- e];exact z)) (fun e=>d1 (by rw [<- e];exact z));have a9:W.heap[g.DD]?=w.heap[g.DD]?:=a3 _ u.ew c1 c4 c5;have c3:∀ x,v'.ownBlock=some x->x<W.heap.size/\qP W x=120:=fun x z=>by
  rcases c2.2 with ⟨e,_⟩ | ⟨gg,cap,cur,e,_,hh,_⟩
  ·rw [e] at z;cases z
  ·rw [e] at z;obtain rfl:gg=x:=by injection z
   exact ⟨(qu.1 hh).1,zh hh⟩
 have c6:∀ r,r<4->r≠k->∀ x,(g.V r).ownBlock=some x->W.heap[x]?=w.heap[x]?:=fun r O c8 x z=>by
  have ht:qP w x=120:=by
   rcases (u.ba r O).2 with ⟨e,_⟩ | ⟨gg,cap,cur,e,_,hh,_⟩
   ·rw [e] at z;cases z
   ·rw [e] at z;obtain rfl:gg=x:=by injection z
    exact zh hh
  refine a3 x (u.fV r x O z) (fun e=>u.dy r k x O hk c8 z e.symm) (fun e=>?_) (fun e=>?_)
  ·rw [e,zh u.U] at ht;cases ht
  ·rw [e,zh u.bn] at ht;cases ht
 refine ⟨fun x=>(F x/\some x≠(g.V k).ownBlock)∨v'.ownBlock=some x,⟨a8,?_,fun i hi=>KV (u.c9 i hi) a9,u.len,b9,?_,?_,?_,.inl ⟨u.fD,a4⟩,.inl ⟨u.ew,c1⟩,.inl ⟨u.de,a5⟩,?_,?_,?_⟩,?_,?_⟩
 ·obtain ⟨c,Y,hn⟩:=u.data;exact ⟨c,a9.trans Y,hn⟩
 ·intro r O;by_cases e:r=k
  ·subst e;simp only [zk,zl,qc,jr];exact c2
  ·simp only [zy _ _ e];exact own_same (u.ba r O) (c6 r O e)
 ·intro r O p R;by_cases e:r=k
  ·subst e;simp only [zk] at R;rcases ja.1 R with R | R
   ·exact u.d0 r O p R
   ·simp at R;subst R;exact ⟨hq,hl⟩
  ·simp only [zy _ _ e] at R;exact u.d0 r O p R
 ·intro r p x O R U E L;by_cases e:r=k
  ·subst e;simp only [zk,zy _ _ (Ne.symm U)] at E L;rcases a0 with h | h
   ·exact u.dy r p x O R U (by rw [<- h,E]) L
   ·have:=u.lt x (u.fV p x R L);rw [E] at h;injection h with h;have:=hb.size;omega
  ·by_cases X:p=k
   ·subst X;simp only [zk,zy _ _ e] at E L;rcases a0 with h | h
    ·exact u.dy r p x O R U E (by rw [<- h,L])
    ·have:=u.lt x (u.fV r x O E);rw [L] at h;injection h with h;have:=hb.size;omega
   ·simp only [zy _ _ e,zy _ _ X] at E L;exact u.dy r p x O R U E L
 ·intro r x O z;by_cases e:r=k
  ·subst e;simp only [zk] at z;exact .inr z
  ·simp only [zy _ _ e] at z;exact .inl ⟨u.fV r x O z,fun X=>u.dy r k x O hk e z X.symm⟩
 ·rintro x (⟨z,_⟩ | z)
  ·have:=u.lt x z;omega
  ·exact (c3 x z).1
 ·rintro x (⟨z,U⟩ | z)
  ·by_cases e1:x=D
   ·subst e1;rw [zh a8];simp
   ·by_cases X:x=g.DR
    ·subst X;rw [zh b9];simp
    ·rw [jW (a3 x z U e1 X)];exact u.a3 x z
  ·rw [(c3 x z).2];simp
 ·have k1:zA F w w3:=zA.ak hb;have k2:zA F w w4:=k1.grown hg fun x z=>.inl (u.fV k x hk z);rw [Z];exact (k2.set (p:=⟨g.DR,k*3,none⟩) (.inl u.de) _).set (p:=⟨D,3,none⟩) (.inl u.fD) _
 ·rintro x (⟨z,_⟩ | z)
  ·exact .inl z
  ·rcases a0 with h | h
   ·exact .inl (u.fV k x hk (by rw [<- h];exact z))
   ·rw [z] at h;injection h with h;right;have:=hb.size;omega
def KH (h:Nat->Nat) (r:Nat):Nat->Nat:=zZ h r (h r+1)
theorem Ka (D:Nat) (F:Nat->Prop) (cur:Nat->Nat->List UInt8) (a9:Nat->Nat) (r s:Int) (v:Value) (b:List UInt8) (w:World) (e6:zK w D F cur a9) (d6:0<=r) (hr:r<4) (e9:0<=s) (hs:s<538)
  (hv:zj w v b) (hb:b.length<=64) (hc:a9 r.toNat<=100000) :
  zc 97 #[.pointer (some ⟨D,0,none⟩),.int .i64 r,.int .i64 s,v] w fun e w'=>e=.returned (.int .i64 0)/\∃ F',zK w' D F' (ve cur r.toNat s.toNat (jN b)) (KH a9 r.toNat)/\zA F w w'/\∀ x,F' x->F x∨w.heap.size<=x:=by
 obtain ⟨k,rfl⟩:∃ k:Nat,r=(k:Int):=⟨r.toNat,by omega⟩;obtain ⟨q,rfl⟩:∃ q:Nat,s=(q:Int):=⟨s.toNat,by omega⟩;obtain ⟨g,U,d1,c0⟩:=e6;obtain ⟨vA,vc,rfl,d7,f8,f5⟩:=hv;have z:k<4:=by omega
 have hq:q<538:=by omega
 simp only [qp] at hc ⊢;have a1:=U.ba k z;obtain ⟨A,E,hV⟩:=own_slice a1;have O:=hid hV;rw [hV] at a1;have f0:=xV (Value.slice (some ⟨g.DR,0,none⟩) 4 4) 2 U.U;have e4:w.cell? ⟨g.DR,k*3,none⟩=some (.slice A (g.ws k).length E):=by rw [ze w g.DR _ _ _ _ U.bn,<- hV];exact KW z
 have ca:w.cell? ⟨g.DR,k*3+1,none⟩=some (.bool false):=by rw [ze w g.DR _ _ _ _ U.bn];exact zhL z
 have f1:decide ((k:Int)*538+(q:Int)<0)=false:=by simp;omega
 have f2:decide ((64:Int)<(b.length:Int))=false:=by simp;omega
 have f6:(0:Int)<=(k:Int):=by omega
 have f7:(k:Int)<4:=by omega
 obtain ⟨h,HO,HC,HN,c4⟩:=zi5 U a1 d1 c0 d7;have hlen:(g.ws k).length<=100000:=zz (c0 k z) hc;clear U a1 d1 c0 hV d7;go_enter func97,ntmps97;go_upto_region 8 with (first|((with_reducible refine aV 27 (zdH D F g k q w h.o d6 hr e9 hs) ?_);rintro e5 w1 ⟨rfl,X⟩;subst w1)|((with_reducible refine aV 140 (zgZ D F g k w h.o d6 hr) ?_);rintro e5 w1 ⟨rfl,X⟩;subst w1));have a7:=hid (heap_alloc_new w (.cells zeroCells120 120));go_upto_region 9 with (refine wpList_store_row (o:=⟨none,.store 120 (.tmp 10) (.tmp 42),_,_,_,_⟩) rfl 120 (.tmp 10) (.tmp 42) rfl w.heap.size (zeroCells120.setIfInBounds 0 (.int .i64 q)) (by rfl) (by rfl) 120 zeroCells120 a7.o (by rw [zif];kernel_rfl) (by simp) (by rw [zif];exact zkS q) ?_);obtain ⟨w1,X⟩:=ex ((w.alloc (.cells zeroCells120 120)).setRow w.heap.size (zeroCells120.setIfInBounds 0 (.int .i64 q)));have d9:w1.heap[w.heap.size]?=some (.cells (.int .i64 q::zD (zs 64)).toArray 120 (0,0)):=by rw [X,zif];exact setRow_heap _ _ _ _ _ _ a7.o
 have d0:zd w w1:=by rw [X];exact below_setRow (B_alloc (zf _ _) _) (za _) _
 rw [<- X];obtain ⟨c6,a5⟩:=zi2 d9 d0;have c5:=hid (c4.o.below a5.o).ev;clear X d9 d0 a7;go_upto_region 10 with (show wpList _ _ _ (⟨some 46,_,_,_,_,_⟩::_) _ _;refine wpList_copy_splice (o:=⟨some 46,_,_,_,_,_⟩) rfl (.tmp 44) (.tmp 45) 29 29 rfl 5 underlying29 (by kernel_rfl) (some ⟨w.heap.size,1,none⟩) vA 64 64 b.length vc (by rfl) (by rfl) w.heap.size 1 (.int .i64 q::zD (zs 64)) 120 c6.o (zD b) (by rw [jf];exact (Nat.min_eq_left hb).symm) (fun h0=>⟨rfl,c5.o h0⟩) (by simp [jf,zs];omega) (yp b) w.heap.size w a5.o (za _) ?_;rintro u a4 a0);rw [zkM q b hb] at a4;have a3:=zfU hb;obtain ⟨l,hl⟩:=ex (jN b);rw [<- hl] at a3 a4;have c1:∀ x,F x->u.heap[x]?=w.heap[x]?:=fun x hx=>a0.block x (h.o.lt x hx);have kw:u.cell? ⟨g.DR,k*3,none⟩=some (.slice A (g.ws k).length E):=(yt (a:=⟨g.DR,k*3,none⟩) (c1 _ h.o.de)).trans e4;have hX:u.heap[w.heap.size]?=some (.cells (.int .i64 q::zD l).toArray 120 (0,0)):=a4;have c8:u.ownsRow 0 120 65 (.slice A (g.ws k).length E) (g.ws k).length (vU (g.ws k)):=own_same HO.o fun x hx=>c1 x (h.o.fV k x z (by rw [O.o];exact hx));obtain ⟨HX,c3,HL,a8⟩:=zi4 hX c8 hl a3;have e0:Hid (u.heap[g.DR]?=some (.cells (Qa g.V) 86 (0,0))):=hid (zg h.o.bn a0 (h.o.lt _ h.o.de));have e3:Hid ((prog.info? 120).map (·.size)=some (Value.int .i64 q::zD l).toArray.size):=hid (by simp only [qH,qc,jf,a3];kernel_rfl);have HY:=hid (heap_alloc_new u.drew (.cells (.int .i64 q::zD l).toArray 120));have d3:(Value.slice A (g.ws k).length E).ownBlock≠some g.DR:=fun e=>h.o.fx z (by rw [O.o];exact e);have d4:(Value.slice A (g.ws k).length E).ownBlock≠some w.heap.size:=fun e=>Nat.lt_irrefl _ (h.o.lt _ (h.o.fV k _ z (by rw [O.o];exact e)));have e1:Hid ((u.drew.alloc (.cells (.int .i64 q::zD l).toArray 120)).ownsRow 0 120 65 (.slice A (g.ws k).length E) (g.ws k).length (vU (g.ws k))):=hid (own_same c3.o fun x hx=>qb u.drew _ x (c3.o.lt x hx).2);have a6:=hid (And.intro d3 d4);clear d3 d4;have c2:=hid a0;clear hX c8 hl a3 a0 a4 c4 c5 c6 a5 c1;refine sV [10] 11 (fun w'=>zH w' g.DR (k*3) (.slice A (g.ws k).length E)/\w'.heap[w.heap.size]?=some (.cells (.int .i64 q::zD l).toArray 120 (0,0))) ⟨kw,HX.o⟩ fun R=>?_;refine pV 0 ?_;refine pV 1 ?_;refine pV 2 ?_;refine pV 3 ?_;refine tV 4 ?_;refine kV 5 rfl (qR 120 (.tmp 10) rfl rfl w.heap.size rfl 120 _ (0,0) _ (fun w' e7=>e7.2) underlying120 rfl e3.o) ?_;refine oV 6 fun K L=>?_;refine yv 84 120 65 72 (.tmp 52) rfl (.agg (.int .i64 q::zD l).toArray) (by rfl) underlying84 zjf (by simp [Value.cells,jf,a8.o]) (by omega) (by omega) ?_;show K _ (u.drew.alloc (.cells (.int .i64 q::zD l).toArray 120));refine L.out _ _ ⟨yK R.1 _,zw R.2 _⟩ (fun R=>?_);clear L K;try simp only [pS]
 refine oV 7 fun K L=>?_;refine Qd (.tmp 51) (.tmp 53) 84 120 65 72 rfl underlying84 zjf (by omega) (.slice A (g.ws k).length E) (g.ws k).length (vU (g.ws k)) 0 (by rfl) e1.o (some ⟨u.heap.size,0,none⟩) 1 1 (.int .i64 q::zD l) _ (by rfl) (zL.bk HY.o (by simp [jf,a8.o])) (zgm q l) (by omega) (by omega) (zT _) ?_;intro v4 w4 d5 Y e8;refine L.out _ _ ⟨Qw R.1 Y a6.o.1,qq R.2 Y a6.o.2⟩ (fun R=>?_);clear L K;try simp only [pS]
 refine pV 8 ?_;refine pV 9 ?_;refine lV 10 fun K L=>?_;refine jz 84 (.tmp 56) (.tmp 54) rfl g.DR (k*3) (Qa g.V) 86 v4 (by rfl) (by rfl) (by kernel_rfl) (qq (zw (show u.drew.heap[g.DR]?=_ from e0.o) _) Y a6.o.1) (by show k*3<12;omega) (zjp d5) ?_;refine L.out _ _ ?_;clear L K;try simp only [pS]
 refine dV ?_;have c7:w4.heap[D]?=some (.cells #[.int .i64 538,.slice (some ⟨g.DD,0,none⟩) 2152 2152,.slice (some ⟨g.DR,0,none⟩) 4 4,.int .i64 g.n] 81 (0,0)) :=
  qq (zw (show u.drew.heap[D]?=_ from zg h.o.U c2.o.drew (h.o.lt _ h.o.fD)) _) Y (by rw [<- O.o];exact h.o.g5 z)
 have b9:=QB c7 (p:=⟨g.DR,k*3,none⟩) h.o.gj v4;have f3:=xV (Value.int .i64 g.n) 3 b9;have f4:=zI _ D 3 _ _ b9;have d2:=zgu h.o z hq a8.o (B_alloc c2.o.drew _) (by rw [O.o];exact Y) (l:=l) (v':=v4) (by rw [zey];simpa [vU] using d5) (by rw [O.o];exact e8) (wrap64 (g.n+1));have HF:=hid d2;clear c7 b9 d2;go_wp2_with fail;go_ret;obtain ⟨F',h1,h2,h3⟩:=HF.o;refine ⟨rfl,F',⟨_,h1,?_,?_⟩,h2,h3⟩
 ·intro r s Z d8;simp only [ve];by_cases e:r=k
  ·subst e;simp only [zk];rw [Kr,HL.o];by_cases e2:s=q
   ·subst e2;simp [zk]
   ·rw [zy _ _ e2,if_neg (Ne.symm e2)];exact HC.o r s Z d8
  ·simp only [zy _ _ e];exact HC.o r s Z d8
 ·intro r Z;simp only [KH];by_cases e:r=k
  ·subst e;simp only [zk,zl,qc,jr];have:=HN.o r Z;omega
  ·simp only [zy _ _ e];exact HN.o r Z
def zaF (g:uw) (k:Nat) (ws:List (Nat × List UInt8)):Nat->List UInt8:=fun i=>if i / 538=k then QV ws (i % 538) (g.c9 i) else g.c9 i
theorem znu (g:uw) (k:Nat):zaF g k []=g.c9:=by funext i;simp [zaF,QV]
theorem zmO (q:Int) (l:List UInt8):(Value.int .i64 q::zD l).toArray.all (·.oneCell')=true :=
 Array.all_eq_true_iff_forall_mem.2 (fun v h=>zgm q l v (by simpa using h))
theorem zqY (j:Nat) (h:j<2 ^ 62):bits .and .i64 (j:Int) 63=((j % 64:Nat):Int):=by
 have e:bits .and .i64 (j:Int) 63=IntKind.i64.wrap ((BitVec.ofInt 64 (j:Int) &&& BitVec.ofInt 64 63).toNat:Int):=rfl;have u:(BitVec.ofInt 64 63).toNat=2 ^ 6-1:=by decide
 rw [e,BitVec.toNat_and,BitVec.ofInt_natCast,BitVec.toNat_ofNat,Nat.mod_eq_of_lt (by omega),u,Nat.and_two_pow_sub_one_eq_mod,zu];omega
theorem znI (t:Nat) (h:t<64):bits .and .u64 (18446744073709551615 / 2 ^ t) 1=1:=by
 have:∀ t,t<64->bits .and .u64 (18446744073709551615 / 2 ^ t) 1=1:=by decide +kernel
 exact this t h
theorem zlK {g:uw} {k j:Nat} {p:Nat × List UInt8} (u:(g.ws k)[j]?=some p) (hs:p.1<538) :
  zZ (zaF g k ((g.ws k).take j)) (k*538+p.1) p.2=zaF g k ((g.ws k).take (j+1)):=by
 funext i;have z:(g.ws k).take (j+1)=(g.ws k).take j++[p]:=by rw [List.take_add_one,u];rfl
 unfold zaF;rw [z];by_cases e:i=k*538+p.1
 ·subst e;rw [zk,if_pos (by omega),show (k*538+p.1) % 538=p.1 by omega,Kr,if_pos rfl]
 ·rw [zy _ _ e];by_cases h:i / 538=k
  ·rw [if_pos h,if_pos h,Kr,if_neg (by omega)]
  ·rw [if_neg h,if_neg h]
theorem jg.hn {w:World} {D:Nat} {F:Nat->Prop} {g:uw} (u:jg w D F g):D≠g.DD:=fun e=>by obtain ⟨c,E,_⟩:=u.data;have h:=zh u.U;have z:=zh E;rw [e,z] at h;cases h
theorem jg.e6 {w:World} {D:Nat} {F:Nat->Prop} {g:uw} (u:jg w D F g):g.DR≠g.DD:=fun e=>by obtain ⟨c,E,_⟩:=u.data;have h:=zh u.bn;have z:=zh E;rw [e,z] at h;cases h
theorem jg.gv {w:World} {D k:Nat} {F:Nat->Prop} {g:uw} (h:jg w D F g) (z:k<4):(g.V k).ownBlock≠some g.DD:=fun e=>by obtain ⟨c,u,_⟩:=h.data;have:=h.own_tag z e;rw [zh u] at this;cases this
theorem Yf (b:Nat):∀ (u:List Value) (o:Nat) (w:World) (x:Nat),x≠b->(w.setCells b o u).heap[x]?=w.heap[x]?
 | [],_,_,_,_=>rfl
 | v::r,o,w,x,h=>(Yf b r (o+1) _ x h).trans (zt w ⟨b,o,none⟩ x v h)
theorem YO (b:Nat) (t:TypeId):∀ (E:List Value) (o:Nat) (w:World) (c:Array Value),w.heap[b]?=some (.cells c t (0,0))->∃ u,(w.setCells b o E).heap[b]?=some (.cells u t (0,0))/\u.size=c.size
 | [],_,_,c,h=>⟨c,h,rfl⟩
 | v::r,o,w,c,h=>by obtain ⟨u,z,D⟩:=YO b t r (o+1) (w.setCell ⟨b,o,none⟩ v) _ (zB w b o _ _ _ h);exact ⟨u,z,by simpa using D⟩
theorem zbo (b:Nat):∀ (h:List Value) (o:Nat) (w:World),(w.setCells b o h).heap.size=w.heap.size
 | [],_,_=>rfl
 | v::r,o,w=>(zbo b r (o+1) _).trans (by simp)
theorem zA.setCells {M:Nat->Prop} (b:Nat):∀ (u:List Value) (o:Nat) (a w:World),zA M a w->(M b∨a.heap.size<=b)->zA M a (w.setCells b o u)
 | [],_,_,_,h,_=>h
 | v::r,o,a,w,h,hb=>zA.setCells b r (o+1) a _ (h.set (p:=⟨b,o,none⟩) hb v) hb
theorem zgX {w w1:World} {D k q s:Nat} {F:Nat->Prop} {g:uw} {l:List UInt8} (h:jg w D F g) (hk:k<4) (hs:s<538) (Y:l.length=64) (hq:q=k*538+s) (hb:zd w w1) :
  jg (w1.drew.setCells g.DD (q*64) (zD l)) D F { g with c9:=zZ g.c9 q l }/\zA F w (w1.drew.setCells g.DD (q*64) (zD l)):=by
 have z:jg w1.drew D F g:=h.same (fun x u=>hb.block x (h.lt x u)) hb.size;obtain ⟨c,R,hn⟩:=z.data;obtain ⟨c',U,a1⟩:=YO g.DD 118 (zD l) (q*64) w1.drew c R;obtain ⟨W,L⟩:=ex (w1.drew.setCells g.DD (q*64) (zD l));have a4:w1.drew.there g.DD (q*64) (zD l).length:=fun i E=>by rw [jf] at E;exact ⟨by rw [ze _ _ _ _ _ _ R,Array.getElem?_eq_getElem (by omega)];rfl,zI _ _ _ _ _ R⟩
 have a0:=World.rangeAt_setCells_same w1.drew g.DD (q*64) (zD l) a4;have X:∀ i,i<2152->i≠q->(w1.drew.setCells g.DD (q*64) (zD l)).rangeAt g.DD (i*64) (zD (g.c9 i)):=fun i E a5 =>
  World.rangeAt_setCells_apart (z.c9 i E) _ _ _ (by rw [jf,jf,Y,z.len i E];omega)
 have O:∀ x,x≠g.DD->W.heap[x]?=w1.drew.heap[x]?:=fun x u=>by rw [L];exact Yf _ _ _ _ _ u
 rw [<- L] at U a0 X ⊢;have a3:W.heap.size=w1.heap.size:=by rw [L];exact zbo _ _ _ _
 refine ⟨⟨(O _ h.hn).trans z.U,⟨c',U,a1.trans hn⟩,fun i E=>?_,fun i E=>?_,(O _ h.e6).trans z.bn,fun r Z=>own_same (z.ba r Z) fun x u=>O x (fun e=>h.gv Z (by rw [u,e])),
  h.d0,h.dy,h.fD,h.ew,h.de,h.fV,fun x u=>by rw [a3];exact z.lt x u,fun x u=>?_⟩,?_⟩
 ·by_cases e:i=q
  ·subst e;simp only [zk];exact a0
  ·simp only [zy _ _ e];exact X i E e
 ·by_cases e:i=q
  ·subst e;simp only [zk];exact Y
  ·simp only [zy _ _ e];exact h.len i E
 ·by_cases e:x=g.DD
  ·subst e;rw [zh U];simp
  ·rw [jW (O x e)];exact z.a3 x u
 ·rw [L];exact zA.setCells _ _ _ _ _ (zA.ak hb.drew) (.inl h.ew)
theorem zcP {w:World} {D k:Nat} {F:Nat->Prop} {g:uw} (h:jg w D F g) (hk:k<4) :
  jg (w.setCell ⟨g.DR,k*3,none⟩ (.slice none 0 0)) D F { g with V:=zZ g.V k (.slice none 0 0),ws:=zZ g.ws k [] }:=by
 have L:∀ x,x≠g.DR->(w.setCell ⟨g.DR,k*3,none⟩ (.slice none 0 0)).heap[x]?=w.heap[x]?:=fun x u=>zt _ _ _ _ u;have X:(w.setCell ⟨g.DR,k*3,none⟩ (.slice none 0 0)).heap[g.DR]?=some (.cells (Qa (zZ g.V k (.slice none 0 0))) 86 (0,0)):=by rw [zB _ _ _ _ _ _ h.bn,zel _ _ _ hk]
 have a1:∀ x,(Value.slice none 0 0).ownBlock≠some x:=fun x e=>by cases e
 refine ⟨(L _ h.gj).trans h.U,?_,fun i Z=>KV (h.c9 i Z) (L _ (Ne.symm h.e6)),h.len,X,fun r z=>?_,fun r z p E=>?_,fun r p x z E a0 O R=>?_,h.fD,h.ew,h.de,fun r x z u=>?_,fun x u=>by simpa using h.lt x u,fun x u=>?_⟩
 ·obtain ⟨c,Y,hn⟩:=h.data;exact ⟨c,(L _ (Ne.symm h.e6)).trans Y,hn⟩
 ·by_cases e:r=k
  ·subst e;simp only [zk];exact ql _ _ _ _
  ·simp only [zy _ _ e];exact own_same (h.ba r z) fun x u=>L x (fun e=>h.fx z (by rw [u,e]))
 ·by_cases e:r=k
  ·subst e;simp only [zk] at E;cases E
  ·simp only [zy _ _ e] at E;exact h.d0 r z p E
 ·by_cases e:r=k
  ·subst e;simp only [zk] at O;cases O
  ·by_cases U:p=k
   ·subst U;simp only [zk] at R;cases R
   ·simp only [zy _ _ e,zy _ _ U] at O R;exact h.dy r p x z E a0 O R
 ·by_cases e:r=k
  ·subst e;simp only [zk] at u;cases u
  ·simp only [zy _ _ e] at u;exact h.fV r x z u
 ·by_cases e:x=g.DR
  ·subst e;rw [zh X];simp
  ·rw [jW (L x e)];exact h.a3 x u
theorem zns (D:Nat) (F:Nat->Prop) (g:uw) (k:Nat) (w:World) (h:jg w D F g) (L:k<4) (hlen:(g.ws k).length<=100000) :
  zc 26 #[.pointer (some ⟨D,0,none⟩),.int .i64 k,.int .u64 18446744073709551615] w fun e w'=>e=.returned (.tuple #[])/\jg w' D F { g with V:=zZ g.V k (.slice none 0 0),ws:=zZ g.ws k [],c9:=zaF g k (g.ws k) }/\zA F w w':=by
 have a0:=h.ba k L;obtain ⟨A,cw,hV⟩:=own_slice a0;have HV:=hid hV;rw [hV] at a0;have d8:=xV (Value.slice (some ⟨g.DR,0,none⟩) 4 4) 2 h.U;have d9:w.cell? ⟨g.DR,k*3,none⟩=some (.slice A (g.ws k).length cw):=by rw [ze w g.DR _ _ _ _ h.bn,<- hV];exact KW L
 have e5:(0:Int)<=(k:Int):=by omega
 have e6:(k:Int)<4:=by omega
 obtain ⟨X,HO⟩:=zi2 h a0;clear h a0 hV;go_enter func26,ntmps26;go_wp2_with fail;go_loopw [20] (fun u wr=>∃ j:Nat,j<=(g.ws k).length/\u=.int .i64 j/\jg wr D F { g with c9:=zaF g k ((g.ws k).take j) }/\zA F w wr) (fun u _=>((g.ws k).length-intOf u).toNat)
 case atStart=>exact ⟨0,by omega,rfl,by rw [List.take_zero,znu];exact X.o,zA.refl _ _⟩
 case round =>
  obtain ⟨j,hj,rfl,O,Z⟩:=hrel;by_cases d3:j<(g.ws k).length
  ·obtain ⟨p,hp⟩:∃ p,(g.ws k)[j]?=some p:=⟨_,zX d3⟩;have c8:=X.o.d0 k L p (zC hp);have a1:=O.ba k L;simp only [HV.o] at a1;obtain ⟨Y,cA,b9,_,e2⟩:=a1.form (by omega);obtain rfl:A=some ⟨Y,0,none⟩:=by injection b9
   have a8:=zgn (g.ws k) (fun q hq=>(X.o.d0 k L q hq).2) j p hp;have a7:=a1.cells (g:=Y) rfl;have c7:wr.rangeAt Y (j*65) (.int .i64 p.1::zD p.2):=fun i u hu=>by
    rcases i with _ | i
    ·have:=a7 _ _ a8.1;rw [Addr.add_mid,qy] at this;rw [Nat.add_zero,this];exact hu
    ·have:=a7 _ _ (a8.2 i u (by simpa using hu));rw [Addr.add_mid,qy] at this;rw [show j*65+(i+1)=j*65+1+i by omega];exact this
   have e3:(0:Int)<=(j:Int):=by omega
   have e4:(j:Int)<((g.ws k).length:Int):=by omega
   obtain ⟨E,a4,z,a9,HP⟩:=zi5 O Z c8 c7 hp;have a5:=hid (heap_alloc_new wr (.cells zeroCells120 120));clear O Z c8 c7 a8 a7 a1 b9 hp;go_upto_region 4 with (first|(show wpList _ _ _ (⟨some 24,_,_,_,_,_⟩::_) _ _;refine wpList_load_mid (op:=⟨some 24,_,_,_,_,_⟩) rfl 120 (.tmp 23) rfl Y (j*65) (by rfl) _ _ a9.o underlying120 rfl (by simp only [qc,jf,z.o.2];kernel_rfl) ?_)|(show wpList _ _ _ (⟨none,.store 120 _ _,_,_,_,_⟩::_) _ _;refine wpList_store_row (o:=⟨none,.store 120 (.tmp 8) (.tmp 24),_,_,_,_⟩) rfl 120 (.tmp 8) (.tmp 24) rfl wr.heap.size (.int .i64 p.1::zD p.2).toArray (by rfl) (by rfl) 120 zeroCells120 a5.o (by simp only [qH,qc,jf,z.o.2];kernel_rfl) (by simp only [qH,qc,jf,z.o.2];kernel_rfl) (zmO p.1 p.2) ?_));obtain ⟨w1,a3⟩:=ex ((wr.alloc (.cells zeroCells120 120)).setRow wr.heap.size (.int .i64 p.1::zD p.2).toArray);have d0:w1.heap[wr.heap.size]?=some (.cells (.int .i64 p.1::zD p.2).toArray 120 (0,0)):=by rw [a3];exact setRow_heap _ _ _ _ _ _ a5.o
   have c3:zd wr w1:=by rw [a3];exact below_setRow (B_alloc (zf _ _) _) (za _) _
   rw [<- a3];obtain ⟨a6,U⟩:=zi2 d0 c3;clear a3 d0 c3 a5 a9;have hand:=zqY j (by omega);have c6:j % 64<64:=Nat.mod_lt _ (by omega);obtain ⟨t,ht⟩:=ex (j % 64);rw [<- ht] at hand c6;have e7:=znI t c6;clear ht;go_upto_region 5 with fail;have c0:=xV (Value.int .i64 538) 0 (zg E.o.U U.o (E.o.lt _ E.o.fD));have c1:=xV (Value.slice (some ⟨g.DD,0,none⟩) 2152 2152) 1 (zg E.o.U U.o (E.o.lt _ E.o.fD));have hS:w1.drew.cell? ⟨D,0,none⟩=some (.int .i64 538)/\w1.drew.cell? ⟨D,1,none⟩=some (.slice (some ⟨g.DD,0,none⟩) 2152 2152)/\w1.drew.heap[wr.heap.size]?=some (.cells (.int .i64 p.1::zD p.2).toArray 120 (0,0))/\w1.drew.cell? ⟨wr.heap.size,0,none⟩=some (.int .i64 p.1)/\w1.drew.rangeAt wr.heap.size 1 (zD p.2):=by
    refine ⟨c0,c1,a6.o,?_,?_⟩
    ·exact (ze w1 _ 0 _ _ _ a6.o).trans rfl
    ·intro i u hu;exact xV _ (1+i) a6.o (by rw [Nat.add_comm];simpa using hu)
   have e8:(0:Int)<=(k:Int)*538+(p.1:Int):=by omega
   have e9:(k:Int)*538+(p.1:Int)<2152:=by have:=z.o.1;omega
   have f0:(p.1:Int)<538:=by have:=z.o.1;omega
   obtain ⟨q,hq⟩:=ex (k*538+p.1);have d4:IntKind.i64.wrap ((k:Int)*538)=(k:Int)*538:=by rw [zu];omega
   have d5:IntKind.i64.wrap ((k:Int)*538+(p.1:Int))=(q:Int):=by rw [zu];omega
   have d6:(0:Int)<=(q:Int):=by omega
   have d7:(q:Int)<2152:=by omega
   have c2:w1.there g.DD (q*64) 64:=by obtain ⟨c,hc,hn⟩:=E.o.data;have c4:=zg hc U.o (zi hc);intro i hi;exact ⟨by rw [ze w1 _ _ _ _ _ c4,Array.getElem?_eq_getElem (by omega)];rfl,zI w1 _ _ _ _ c4⟩
   obtain ⟨d1,HQ⟩:=zi2 c2 hq;clear c0 c1 hq c2;refine sV [16] 17 (fun w'=>zH w' D 0 (.int .i64 538)/\zH w' D 1 (.slice (some ⟨g.DD,0,none⟩) 2152 2152)/\w'.heap[wr.heap.size]?=some (.cells (.int .i64 p.1::zD p.2).toArray 120 (0,0))/\zH w' wr.heap.size 0 (.int .i64 p.1)/\w'.rangeAt wr.heap.size 1 (zD p.2)) hS fun e0=>?_;refine pV 0 ?_;refine pV 1 ?_;refine pV 2 ?_;refine tV 3 ?_;refine pV 4 ?_;refine pV 5 ?_;refine pV 6 ?_;refine pV 7 ?_;refine tV 8 ?_;refine pV 9 ?_;refine pV 10 ?_;refine tV 11 ?_;refine pV 12 ?_;refine pV 13 ?_;refine kV 14 rfl (yieldsIf_load_mid rfl 118 (.tmp 44) rfl wr.heap.size 1 rfl (zD p.2) _ (fun w' d2=>d2.2.2.2.2) underlying118 rfl (by rw [jf,z.o.2];kernel_rfl)) ?_;refine pV 15 ?_;refine lV 16 fun K hK=>?_;refine wp_store_mid 118 (.tmp 46) (.tmp 45) rfl g.DD (q*64) (zD p.2).toArray (by rfl) (by rfl) (by simpa [jf,z.o.2] using d1.o) (by simp only [qH,jf,z.o.2];kernel_rfl) (all_oneCell_toArray (yp p.2)) ?_;refine hK.out _ _ ?_;clear hK K;try simp only [pS]
   refine dV ?_;have c5:=zgX E.o L z.o.1 z.o.2 (by rw [<- HQ.o]) U.o;have HF:=hid c5;clear d4 d5 d6 d7 c5;go_wp2_with fail;go_roundw
   case rel=>exact ⟨j+1,by omega,by go_num,by have R:=HF.o.1;dsimp only at R;have e:=zlK HP.o z.o.1;rw [<- HQ.o] at e;rw [e] at R;exact R,a4.o.trans HF.o.2 (fun x hx=>.inl hx)⟩
   case measure=>simp [intOf];omega
  ·obtain rfl:j=(g.ws k).length:=by omega
   have e1:wr.cell? ⟨g.DR,k*3,none⟩=some (.slice A (g.ws k).length cw):=by rw [ze wr g.DR _ _ _ _ O.bn,<- HV.o];exact KW L
   have f1:wr.frozen? ⟨g.DR,k*3,none⟩=false:=zI wr _ _ _ _ O.bn;obtain ⟨E,a4⟩:=zi2 O Z;clear O Z;go_wp2_with fail;refine ZS rfl rfl ?_;have R:=zcP E.o L;rw [qi] at R;exact ⟨rfl,R,a4.o.set (p:=⟨g.DR,k*3,none⟩) (.inl X.o.de) _⟩
theorem zoT (D:Nat) (F:Nat->Prop) (cur:Nat->Nat->List UInt8) (u:Nat->Nat) (k:Nat) (w:World) (h:zK w D F cur u) (L:k<4) (hlen:u k<=100000) :
  zc 26 #[.pointer (some ⟨D,0,none⟩),.int .i64 k,.int .u64 18446744073709551615] w fun e w'=>e=.returned (.tuple #[])/\zK w' D F cur (zZ u k 0)/\zA F w w':=by
 obtain ⟨g,R,X,E⟩:=h;refine (zns D F g k w R L (zz (E k L) hlen)).mono ?_;rintro e w' ⟨rfl,U,O⟩;refine ⟨rfl,⟨_,U,fun r s z hs=>?_,fun r z=>?_⟩,O⟩
 ·rw [X r s z hs];by_cases e:r=k
  ·subst e;simp only [zk,zaF];rw [if_pos (by omega),show (r*538+s) % 538=s by omega];rfl
  ·simp only [zy _ _ e,zaF];rw [if_neg (by omega)]
 ·by_cases e:r=k
  ·subst e;simp only [zk];exact za _
  ·simp only [zy _ _ e];exact E r z
theorem Qf (D:Nat) (F:Nat->Prop) (cur:Nat->Nat->List UInt8) (u:Nat->Nat) (r:Int) (w:World) (h:zK w D F cur u) (R:0<=r) (O:r<4) (hlen:u r.toNat<=100000) :
  zc 98 #[.pointer (some ⟨D,0,none⟩),.int .i64 r] w fun e w'=>e=.returned (.int .i64 0)/\zK w' D F cur (zZ u r.toNat 0)/\zA F w w':=by
 obtain ⟨k,rfl⟩:∃ k:Nat,r=(k:Int):=⟨r.toNat,by omega⟩;simp only [qp] at hlen ⊢;obtain ⟨g,L,Z⟩:=id h;have d1:decide ((k:Int)*538+0<0)=false:=by simp;omega
 have d2:decide ((k:Int)*538<0)=false:=by simp;omega
 obtain ⟨z,U⟩:=zi2 L h;clear L h Z;go_enter func98,ntmps98;go_wp2_with (first|((with_reducible refine aV 27 (zdH D F g k 0 w z.o R O (by omega) (by omega)) ?_);rintro E w1 ⟨rfl,a0⟩;subst w1)|((with_reducible refine aV 140 (zgZ D F g k w z.o R O) ?_);rintro E w1 ⟨rfl,a0⟩;subst w1)|((with_reducible refine aV 26 (zoT D F cur u k w U.o (by omega) hlen) ?_);rintro E w1 ⟨rfl,X,Y⟩));go_ret;exact ⟨rfl,X,Y⟩
theorem zlH (D:Nat) (F:Nat->Prop) (g:uw) (k:Nat) (m:Int) (w:World) (h:jg w D F g) (u:k<4) (hlen:g.ws k=[]) :
  zc 26 #[.pointer (some ⟨D,0,none⟩),.int .i64 k,.int .u64 m] w fun e w'=>e=.returned (.tuple #[])/\jg w' D F { g with V:=zZ g.V k (.slice none 0 0),ws:=zZ g.ws k [] }/\zA F w w':=by
 have L:=h.ba k u;obtain ⟨A,E,hV⟩:=own_slice L;rw [hlen] at hV;have O:=hid hV;have R:=xV (Value.slice (some ⟨g.DR,0,none⟩) 4 4) 2 h.U;have U:w.cell? ⟨g.DR,k*3,none⟩=some (.slice A 0 E):=by rw [ze w g.DR _ _ _ _ h.bn,show (Value.slice A 0 E)=g.V k from hV.symm];exact KW u
 have X:w.frozen? ⟨g.DR,k*3,none⟩=false:=zI w _ _ _ _ h.bn;have Y:(0:Int)<=(k:Int):=by omega
 have Z:(k:Int)<4:=by omega
 have z:=hid h;clear h L hV hlen;go_enter func26,ntmps26;go_wp2_with fail;refine wp_loop_rounds 1 ?_;rw [rounds_succ];go_wp2_with fail;refine ZS rfl rfl ?_;exact ⟨rfl,zcP z.o u,(zA.refl _ _).set (p:=⟨g.DR,k*3,none⟩) (.inl z.o.de) _⟩
theorem zgt {w:World} {D k:Nat} {F:Nat->Prop} {g:uw} (h:jg w D F g) (E:k<4):jg (w.setCell ⟨g.DR,k*3+1,none⟩ (.bool false)) D F g:=by
 have e:(Qa g.V).setIfInBounds (k*3+1) (.bool false)=Qa g.V:=by rcases k with _ | _ | _ | _ | k<;>first | rfl | omega
 have z:(w.setCell ⟨g.DR,k*3+1,none⟩ (.bool false)).heap[g.DR]?=w.heap[g.DR]?:=by rw [zB _ _ _ _ _ _ h.bn,e];exact h.bn.symm
 refine h.same (fun x L=>?_) (by simp);by_cases u:x=g.DR
 ·subst u;exact z
 ·exact zt _ _ _ _ u
theorem zlr (D:Nat) (F:Nat->Prop) (cur:Nat->Nat->List UInt8) (X:Nat->Nat) (m:Int) (w:World) (a7:zK w D F cur X) (h0:∀ r,r<4->X r=0) :
  zc 21 #[.pointer (some ⟨D,0,none⟩),.int .u64 m] w fun e w'=>e=.returned (.tuple #[])/\zK w' D F cur X/\zA F w w':=by
 obtain ⟨g,Y,a3,a1⟩:=a7;have c2:=xV (Value.slice (some ⟨g.DR,0,none⟩) 4 4) 2 Y.U;obtain ⟨HR,HC⟩:=zi2 Y a3;have a4:∀ r,r<4->g.ws r=[]:=fun r z=>yd (by have:=a1 r z;rw [h0 r z] at this;omega);obtain ⟨HN,H0⟩:=zi2 a4 h0;clear Y a3 a1 a4 h0;go_enter func21,ntmps21;go_wp2_with fail;go_loopw [12] (fun u wr=>∃ j:Nat,j<=4/\u=.int .i64 j/\(∃ V,jg wr D F { g with V:=V,ws:=fun _=>[] })/\zA F w wr) (fun u _=>(4-intOf u).toNat)
 case atStart =>refine ⟨0,by omega,rfl,⟨g.V,?_⟩,zA.refl _ _⟩;have h:=HR.o;exact ⟨h.U,h.data,h.c9,h.len,h.bn,fun r z=>by have:=h.ba r z;rw [HN.o r z] at this;exact this,fun r z p hp=>(by cases hp),h.dy,h.fD,h.ew,h.de,h.fV,h.lt,h.a3⟩
 case round =>
  obtain ⟨j,hj,rfl,⟨V,O⟩,L⟩:=hrel;by_cases Z:j<4
  ·have a8:(0:Int)<=(j:Int):=by omega
   have a9:(j:Int)<4:=by omega
   obtain ⟨U,R⟩:=zi2 O L;clear O L;go_wp2_with (go_at_call 26;(with_reducible refine (zlH D F _ j m wr U.o Z rfl).mono ?_);rintro e1 w1 ⟨rfl,E,a0⟩;have k2:=xV (Value.slice (some ⟨g.DR,0,none⟩) 4 4) 2 E.U;have k3:=xV _ (j*3+1) E.bn (zhL Z);have k4:=zI w1 g.DR (j*3+1) _ _ E.bn;obtain ⟨a5,a6⟩:=zi2 E a0;clear E a0);go_roundw
   case rel=>exact ⟨j+1,by omega,by go_num,⟨_,by have:=zgt a5.o Z;simp only [show zZ (fun _=>([]:List (Nat × List UInt8))) j []=fun _=>[] from by funext i;simp [zZ]] at this;exact this⟩,(R.o.trans a6.o (fun x hx=>.inl hx)).set (p:=⟨g.DR,j*3+1,none⟩) (.inl HR.o.de) _⟩
   case measure=>simp [intOf];omega
  ·obtain rfl:j=4:=by omega
   obtain ⟨U,R⟩:=zi2 O L;clear O L;go_wp2_with fail;refine ZS rfl rfl ?_;refine ⟨rfl,⟨_,U.o,fun r s z hs=>?_,fun r z=>zT _⟩,R.o⟩;have:=HC.o r s z hs;rw [HN.o r z] at this;exact this
theorem zoR:(prog.info? 118).map (fun i=>(i.zero,i.size,i.bytes))=some (some (.agg (Array.replicate 64 (.int .u8 0))),64,64):=by kernel_rfl
theorem zqg:(prog.info? 86).map (fun i=>(i.zero,i.size,i.bytes))=some (some (.agg #[.slice none 0 0,.bool false,.int .i64 0]),3,40):=by kernel_rfl
def Ja:Array Value:=madeCells (Array.replicate 64 (.int .u8 0)) 137728
def zat:Array Value:=Qa fun _=>.slice none 0 0
theorem zoY (w:World):(Instr.makeSlice 78 (.int .i64 2152) (.int .i64 2152)).run prog w=.ok (.slice (some ⟨w.heap.size,0,none⟩) 2152 2152) (w.alloc (.cells Ja 118)):=by obtain ⟨i,h,u,z,D⟩:=info_parts zoR;have:=run_make (P:=prog) w 78 118 i _ underlying78 h u .i64 .i64 2152 2152 (by omega) (Int.le_refl _) (by rw [D];omega) (by omega);rw [z] at this;exact this
theorem zqr (w:World):(Instr.makeSlice 79 (.int .i64 4) (.int .i64 4)).run prog w=.ok (.slice (some ⟨w.heap.size,0,none⟩) 4 4) (w.alloc (.cells zat 86)):=by
 obtain ⟨i,h,u,z,D⟩:=info_parts zqg;have:=run_make (P:=prog) w 79 86 i _ underlying79 h u .i64 .i64 4 4 (by omega) (Int.le_refl _) (by rw [D];omega) (by omega);rw [z] at this;rw [this];have:madeCells (Value.agg #[.slice none 0 0,.bool false,.int .i64 0]).cells ((4:Int).toNat*3)=zat:=by kernel_rfl
 rw [this];rfl
theorem zdV {W:World} {D DD DR:Nat} (u:W.heap[DD]?=some (.cells Ja 118 (0,0))) (z:W.heap[DR]?=some (.cells zat 86 (0,0)))
  (E:W.heap[D]?=some (.cells #[.int .i64 538,.slice (some ⟨DD,0,none⟩) 2152 2152,.slice (some ⟨DR,0,none⟩) 4 4,.int .i64 0] 81 (0,0))) :
  zK W D (fun x=>x=D∨x=DD∨x=DR) (fun _ _=>zs 64) (fun _=>0):=by
 refine ⟨{ DD:=DD,DR:=DR,n:=0,V:=fun _=>.slice none 0 0,ws:=fun _=>[],c9:=fun _=>zs 64 },⟨E,⟨_,u,by simp [Ja,size_madeCells]⟩,fun i R j v L=>?_,fun i R=>by simp [zs],z,fun r h=>ql _ _ _ _,fun r h p X=>(by cases X),fun r q k h hq Z e=>(by cases e),.inl rfl,.inr (.inl rfl),.inr (.inr rfl),fun r k h e=>(by cases e),?_,?_⟩,fun r s h hs=>rfl,fun r h=>za _⟩
 ·rw [ze W DD _ _ _ _ u];have Y:j<64:=by have:=(zr.1 L).1;simpa [zD,zs] using this
  have O:v=.int .u8 0:=by have:=zC L;simp [zD,zs] at this;exact this
  subst O;have U:i*64+j<Ja.size:=by simp [Ja,size_madeCells];omega
  rw [Array.getElem?_eq_getElem U];simp [Ja,madeCells];rw [getElem!_pos _ _ (by simp;omega)];simp
 ·rintro k (rfl | rfl | rfl)
  ·exact zi E
  ·exact zi u
  ·exact zi z
 ·rintro k (rfl | rfl | rfl)
  ·rw [zh E];simp
  ·rw [zh u];simp
  ·rw [zh z];simp
theorem zK.drew {w:World} {D:Nat} {F:Nat->Prop} {cur:Nat->Nat->List UInt8} {u:Nat->Nat} (h:zK w D F cur u):zK w.drew D F cur u:=h.same (fun _ _=>rfl) (za _)
theorem zna (w:World) :
  zc 19 #[.int .i64 4,.int .i64 538] w fun e w'=>∃ D F,e=.returned (.pointer (some ⟨D,0,none⟩))/\zK w' D F (fun _ _=>zs 64) (fun _=>0)/\zd w w'/\(∀ x,F x->w.heap.size<=x):=by
 have u:=zoY;have z:=zqr;have E:IntKind.i64.wrap 2152=2152:=by decide
 go_enter func19,ntmps19;go_wp2_with fail;go_region_with (fail)
 all_goals go_wp2_with fail
 all_goals go_ret
 ·exact ⟨_,_,rfl,zK.drew (zdV (zw (zw (zo w (.cells Ja 118) rfl) _) _) (zw (zo (w.alloc (.cells Ja 118)) (.cells zat 86) (by simp)) _) (zo _ _ (by simp))),(B_alloc (B_alloc (B_alloc (zf _ _) _) _) _).drew,fun x h=>by rcases h with rfl | rfl | rfl<;>omega⟩
 ·exact ⟨_,_,rfl,zK.drew (zdV (zw (zo (w.alloc (.cells zat 86)) (.cells Ja 118) (by simp)) _) (zw (zw (zo w (.cells zat 86) rfl) _) _) (zo _ _ (by simp))),(B_alloc (B_alloc (B_alloc (zf _ _) _) _) _).drew,fun x h=>by rcases h with rfl | rfl | rfl<;>omega⟩
structure Rw where
 t:Nat
 k:List UInt8
 v:List UInt8
deriving DecidableEq
def Rw.ok (r:Rw):Prop:=r.t<4/\r.k.length<=15/\r.v.length<=21
def yZ (r:Rw):List UInt8:=Jj r.t r.k r.v
def zfg (r:Rw):Value:=.agg #[.int .i64 r.t,.string (zb r.k),.string (zb r.v)]
theorem QI {r:Rw} (h:r.ok):(yZ r).length=40:=zkp _ _ _ h.2.1 h.2.2
theorem Qm (l:List UInt8):(zb l).data.toList=l:=rfl
theorem jt (l:List UInt8):(zb l).size=l.length:=by show l.toArray.size=_;simp
theorem zch {r:Rw} (h:r.ok) (w:World) :
  zc 93 #[zfg r] w fun e w'=>∃ v',e=.returned v'/\w'.ownsRow w.heap.size 5 1 v' 40 (zD (yZ r))/\zd w w':=by
 have:=zkq (r.t:Int) (zb r.k) (zb r.v) w (by omega) (by have:=h.1;omega) (by rw [jt];exact h.2.1) (by rw [jt];exact h.2.2);exact this
theorem zps {r:Rw} (h:r.ok) (w:World):zc 56 #[zfg r] w fun e w'=>e=.returned (.bool true)/\zd w w':=by
 refine (YV (r.t:Int) (zb r.k) (zb r.v) w).mono ?_;rintro e w' ⟨rfl,hb⟩;refine ⟨?_,hb⟩;have u:=h.1;have z:=h.2.1;have D:=h.2.2;have:vK (r.t:Int) (zb r.k) (zb r.v)=true:=by unfold vK;rw [jt,jt];simp;omega
 rw [this]
theorem zpt {r:Rw} (h:r.ok):(yZ r)[1]?=some (UInt8.ofNat r.t)/\(yZ r)[2]?=some (UInt8.ofNat r.k.length)/\(yZ r)[18]?=some (UInt8.ofNat r.v.length)/\((yZ r).drop 3).take r.k.length=r.k/\((yZ r).drop 19).take r.v.length=r.v:=by
 obtain ⟨z,D,E⟩:=h;have e:yZ r=[1,UInt8.ofNat r.t,UInt8.ofNat r.k.length]++(r.k++zs (15-r.k.length))++([UInt8.ofNat r.v.length]++(r.v++zs (21-r.v.length))):=by simp [yZ,Jj,zR,List.range_succ]
 have u:([1,UInt8.ofNat r.t,UInt8.ofNat r.k.length]++(r.k++zs (15-r.k.length))).length=18:=by simp [zs];omega
 refine ⟨by rw [e];simp,by rw [e];simp,?_,?_,?_⟩
 ·rw [e,vg (by omega),u];rfl
 ·rw [e];simp only [jq,List.cons_append,List.nil_append,List.drop_succ_cons,List.drop_zero];rw [List.take_append_of_le_length (by simp)];simp
 ·rw [e,List.drop_append,List.drop_of_length_le (by omega),List.nil_append,u];simp
theorem zfh (v:Value) (l:List UInt8) (w:World) (h:zj w v l) (E:l.length≠40) (hm:l.length<=1000000) :
  zc 137 #[v] w fun e w'=>e=.returned (.tuple #[.agg #[.int .i64 0,.string (zb []),.string (zb [])],.int .i64 9])/\zd w w':=by
 obtain ⟨A,c,rfl,L,_,_⟩:=h;have u:((l.length:Int) != 40)=true:=by simp;omega
 have z:((l.length:Int) == 40)=false:=by simp;omega
 have D:decide ((l.length:Int)=40)=false:=by simp;omega
 go_enter func137,ntmps137;go_wp2;exact bodyPost_ret (v:=.tuple #[.agg #[.int .i64 0,.string (zb []),.string (zb [])],.int .i64 9]) (by simp [results,results137,go_sem];rfl) rfl ⟨rfl,B_alloc (zf _ _) _⟩
theorem zj.alloc {w:World} {v:Value} {l:List UInt8} (h:zj w v l) (o:Obj):zj (w.alloc o) v l:=h.below (B_alloc (zf _ _) o)
theorem Gw (v:Value) (w:World) (h:zj w v (zs 40)) :
  zc 137 #[v] w fun e w'=>e=.returned (.tuple #[.agg #[.int .i64 0,.string { data:=#[] },.string { data:=#[] }],.int .i64 5])/\zd w w':=by
 have z:=h.alloc (.cells #[.int .i64 0,.string { data:=#[] },.string { data:=#[] }] 34);obtain ⟨W,D,E,hb⟩:=Kn (w.alloc (.cells #[.int .i64 0,.string { data:=#[] },.string { data:=#[] }] 34)).drew 40 (by omega);have a0:(w.alloc (.cells #[.int .i64 0,.string { data:=#[] },.string { data:=#[] }] 34)).drew.heap.size=w.heap.size+1:=by show (w.alloc _).heap.size=_;simp
 rw [a0] at D E;have D:(Instr.makeSlice 29 (.int .i64 40) (.int .i64 40)).run prog (w.alloc (.cells #[.int .i64 0,.string { data:=#[] },.string { data:=#[] }] 34)).drew=.ok (.slice (some ⟨w.heap.size+1,0,none⟩) 40 40) W:=D;have U:=yh z.drew;have X:=yh (z.drew.below hb);have c3:=yh E;have e2:(zb (zs 40)).toList=(zb (zs 40)).toList:=rfl;obtain ⟨A,c,rfl,hr,_,_⟩:=h;have Z:((zs 40).length:Nat)=40:=by simp [zs]
 rw [Z] at U X ⊢;have L:Hid (zd w W):=hid (B_call (B_alloc (zf _ _) _).drew hb);have R:=hid (qb);have u:W.heap[w.heap.size]?=some (.cells #[.int .i64 0,.string { data:=#[] },.string { data:=#[] }] 34 (0,0)):=(hb.block w.heap.size (by show w.heap.size<(w.alloc _).heap.size;simp)).trans (zo w _ rfl);have k0:=ze W w.heap.size 0 _ _ _ u;have k1:=ze W w.heap.size 1 _ _ _ u;have k2:=ze W w.heap.size 2 _ _ _ u;have f0:=zI W w.heap.size 0 _ _ u;have f1:=zI W w.heap.size 1 _ _ u;have f2:=zI W w.heap.size 2 _ _ u;have O:=hid u;have a1:((zb (zs 40)).toList == (zb (zs 40)).toList)=true:=by simp
 clear hb E hr z u R;go_enter func137,ntmps137;go_wp2_with fail;go_region_with (fail)
 all_goals
  go_wp2_with fail;have Y:=O.o;refine yG 2 3 34 rfl rfl w.heap.size 34 #[.int .i64 0,.string { data:=#[] },.string { data:=#[] }] (0,0) _ (.int .i64 5) rfl rfl ?_ underlying34 rfl (by kernel_rfl) ⟨rfl,B_set (B_set (B_set L.o (za _) _) (za _) _) (za _) _⟩;rw [zB _ _ 2 _ _ _ (zB _ _ 1 _ _ _ (zB _ _ 0 _ _ _ Y))];rfl
theorem zco (n:Nat) (h:n<256):((UInt8.ofNat n).toNat:Int)=(n:Int):=by
 have:(UInt8.ofNat n).toNat=n:=by rw [UInt8.toNat_ofNat'];omega
 rw [this]
theorem zj.sub {w:World} {ad:Addr} {n c:Nat} {l:List UInt8} (h:zj w (.slice (some ad) n c) l) (u m:Nat) (hm:u+m<=n) (a0:u<n):zj w (.slice (some (ad.add u)) m (c-u)) ((l.drop u).take m):=by
 obtain ⟨A,Y,e,X,R,Z⟩:=h;injection e with E L O;subst E L O;have z:((l.drop u).take m).length=m:=by simp;omega
 refine ⟨_,_,by rw [z],?_,by rw [z];omega,by omega⟩;rw [z];have D:=(X.cut (k:=u) (cap:=c) (by omega) R);rw [if_neg (by omega),Nat.mul_one] at D;have U:=D.take (m:=m) (by omega);rw [<- Gc,<- JA];exact U
theorem zjs {r:Rw}:((zb (yZ r)).toList == (zb (zs 40)).toList)=false:=by
 rw [zcC];have:yZ r≠zs 40:=fun e=>by
  have h:(yZ r)[0]?=some 1:=by simp [yZ,Jj]
  rw [e] at h;simp [zs] at h
 simpa using this
theorem Jp (v:Value) (r:Rw) (Z:r.ok) (w:World) (a7:zj w v (yZ r)) :
  zc 137 #[v] w fun e w'=>e=.returned (.tuple #[zfg r,.int .i64 0])/\zd w w':=by
 have R:=a7.alloc (.cells #[.int .i64 0,.string { data:=#[] },.string { data:=#[] }] 34);obtain ⟨W,a0,hz,hb⟩:=Kn (w.alloc (.cells #[.int .i64 0,.string { data:=#[] },.string { data:=#[] }] 34)).drew 40 (by omega);have d4:(w.alloc (.cells #[.int .i64 0,.string { data:=#[] },.string { data:=#[] }] 34)).drew.heap.size=w.heap.size+1:=by show (w.alloc _).heap.size=_;simp
 rw [d4] at a0 hz;have a0:(Instr.makeSlice 29 (.int .i64 40) (.int .i64 40)).run prog (w.alloc (.cells #[.int .i64 0,.string { data:=#[] },.string { data:=#[] }] 34)).drew=.ok (.slice (some ⟨w.heap.size+1,0,none⟩) 40 40) W:=a0;have c1:=yh R.drew;have E:=R.drew.below hb;have c2:=yh E;have c3:=yh hz;have hl:=QI Z;obtain ⟨b1,b2,b3,b4,b5⟩:=zpt Z;have U:∀ j a5,(yZ r)[j]?=some a5->∀ ad c,v=.slice (some ad) 40 c->W.cell? (ad.add j)=some (.int .u8 a5.toNat):=fun j a5 hu ad c e=>by subst e;obtain ⟨A',c',e,a1,_,_⟩:=E;injection e with D e2 e3;subst D;obtain ⟨d5,hA,hc⟩:=a1.ev (by rw [jf,hl];omega);injection hA with hA;subst hA;exact hc j _ (by simp [zD,hu])
 obtain ⟨A,c,rfl,a1,d2,d6⟩:=a7;rw [hl] at d2 R E c1 c2 U ⊢;obtain ⟨ad,rfl,_⟩:=a1.ev (by rw [jf,hl];omega);have D:=U 1 _ b1 ad c rfl;have e2:=U 2 _ b2 ad c rfl;have e3:=U 18 _ b3 ad c rfl;obtain ⟨e8,e9,f3⟩:=id Z;rw [zco _ (by omega)] at D e2 e3;have hk:=E.sub 3 r.k.length (by omega) (by omega);have hv:=E.sub 19 r.v.length (by omega) (by omega);rw [b4] at hk;rw [b5] at hv;have HB:Hid (zd w W):=hid (B_call (B_alloc (zf _ _) _).drew hb);have c0:W.heap[w.heap.size]?=some (.cells #[.int .i64 0,.string { data:=#[] },.string { data:=#[] }] 34 (0,0)):=(hb.block w.heap.size (by show w.heap.size<(w.alloc _).heap.size;simp)).trans (zo w _ rfl);have a3:=hid c0;have d7:=@zjs r;obtain ⟨HK,a6,a4⟩:=zi3 hk hv E;have d0:Hid (zj (w.alloc (.cells #[.int .i64 0,.string { data:=#[] },.string { data:=#[] }] 34)) (.slice (some ad) 40 c) (yZ r)):=hid R;have HE:=hid (And.intro D (And.intro e2 e3));have HR:=hid Z;clear hb hz a1 R c0 b1 b2 b3 b4 b5 U hk hv E D e2 e3 hl Z;go_enter func137,ntmps137;go_wp2_with fail;refine sV [] 5 (fun w'=>zj w' (.slice (some ad) 40 c) (yZ r)) d0.o.drew fun h=>?_;refine pV 0 ?_;refine kV 1 rfl (uU 29 9 (.tmp 12) rfl rfl (.slice (some ad) 40 c) (.string (zb (yZ r))) rfl (fun w' z=>yh z)) ?_;refine oV 2 fun K u=>?_;refine zpN 29 _ _ rfl _ _ _ rfl rfl a0 ?_;refine u.out _ _ a4.o (fun h=>?_);clear u K;try simp only [pS]
 refine oV 3 fun K u=>?_;refine Qn 29 9 (.tmp 14) rfl _ _ rfl c3 ?_;refine u.out _ _ h (fun h=>?_);clear u K;try simp only [pS]
 refine pV 4 ?_;refine dV ?_;clear a0 c1 c2 c3;go_upto_region 5 with fail;have a9:=And.intro HE.o.2.1 HE.o.2.2;have m1:IntKind.i64.wrap (r.k.length:Int)=r.k.length:=by rw [zu];omega
 have m2:IntKind.i64.wrap (r.v.length:Int)=r.v.length:=by rw [zu];omega
 have m3:¬ (15:Int)<(r.k.length:Int):=by omega
 have m4:¬ (21:Int)<(r.v.length:Int):=by omega
 refine sV [] 12 (fun w'=>zH w' ad.block (ad.off+2) (.int .u8 r.k.length)/\zH w' ad.block (ad.off+18) (.int .u8 r.v.length)) a9 fun h=>?_;refine pV 0 ?_;refine pV 1 ?_;refine tV 2 ?_;refine tV 3 ?_;refine pV 4 ?_;refine pV 5 ?_;refine pV 6 ?_;refine tV 7 ?_;refine tV 8 ?_;refine pV 9 ?_;refine pV 10 ?_;refine pV 11 ?_;refine dV ?_;clear m1 m2 m3 m4 a9;go_upto_region 7 with fail;have b9:=And.intro HE.o.1 (And.intro HK.o a6.o);have m1:IntKind.i64.wrap (3+(r.k.length:Int))=3+(r.k.length:Int):=by rw [zu];omega
 have m2:IntKind.i64.wrap (19+(r.v.length:Int))=19+(r.v.length:Int):=by rw [zu];omega
 have m3:(3:Int)<=3+(r.k.length:Int):=by omega
 have m4:(3:Int)+(r.k.length:Int)<=(c:Int):=by omega
 have m5:(19:Int)<=19+(r.v.length:Int):=by omega
 have m6:(19:Int)+(r.v.length:Int)<=(c:Int):=by omega
 have m7:¬ c=3:=by omega
 have m8:¬ c=19:=by omega
 have m9:max ((3:Int)+(r.k.length:Int)) 0=3+(r.k.length:Int):=by omega
 have n1:max ((19:Int)+(r.v.length:Int)) 0=19+(r.v.length:Int):=by omega
 have n2:((3:Int)+(r.k.length:Int)).toNat-3=r.k.length:=by omega
 have n3:((19:Int)+(r.v.length:Int)).toNat-19=r.v.length:=by omega
 have n4:(0:Int)<=3+(r.k.length:Int):=by omega
 have n5:(0:Int)<=19+(r.v.length:Int):=by omega
 have n6:IntKind.i64.wrap (r.t:Int)=r.t:=by rw [zu];omega
 refine sV [18] 19 (fun w'=>zH w' ad.block (ad.off+1) (.int .u8 r.t)/\zj w' (.slice (some (ad.add 3)) r.k.length (c-3)) r.k/\zj w' (.slice (some (ad.add 19)) r.v.length (c-19)) r.v) b9 fun h=>?_;refine pV 0 ?_;refine pV 1 ?_;refine tV 2 ?_;refine tV 3 ?_;refine pV 4 ?_;refine pV 5 ?_;refine pV 6 ?_;refine pV 7 ?_;refine kV 8 rfl (uU 29 9 (.tmp 35) rfl rfl (.slice (some (ad.add 3)) r.k.length (c-3)) (.string (zb r.k)) rfl (fun w' z=>yh z.2.1)) ?_;refine pV 9 ?_;refine pV 10 ?_;refine pV 11 ?_;refine pV 12 ?_;refine pV 13 ?_;refine pV 14 ?_;refine kV 15 rfl (uU 29 9 (.tmp 42) rfl rfl (.slice (some (ad.add 19)) r.v.length (c-19)) (.string (zb r.v)) rfl (fun w' z=>yh z.2.2)) ?_;refine pV 16 ?_;refine oV 17 fun K u=>?_;refine zaY 34 rfl W.heap.size rfl (.agg #[.int .i64 0,.string { data:=#[] },.string { data:=#[] }]) (by kernel_rfl) ?_;refine u.out _ _ ⟨yK h.1 _,h.2.1.alloc _,h.2.2.alloc _⟩ (fun h=>?_);clear u K;try simp only [pS]
 refine lV 18 fun K u=>?_;refine QP 34 (.tmp 7) (.tmp 44) rfl W.heap.size (by rfl) _ #[.int .i64 r.t,.string (zb r.k),.string (zb r.v)] (by rfl) (by rfl) (by kernel_rfl) (by rfl) (by simp [Value.oneCell']) ?_;refine u.out _ _ ?_;clear u K;try simp only [pS]
 refine dV ?_;clear m1 m2 m3 m4 m5 m6 m7 m8 m9 n1 n2 n3 n4 n5 n6 b9;obtain ⟨O,L⟩:=ex (W.drew.drew.alloc (.cells #[.int .i64 r.t,.string (zb r.k),.string (zb r.v)] 34));have hX:O.heap[W.heap.size]?=some (.cells #[.int .i64 r.t,.string (zb r.k),.string (zb r.v)] 34 (0,0)):=by rw [L];exact zo _ _ rfl
 have a8:zd w O:=by rw [L];exact B_alloc HB.o.drew.drew _
 have c5:zj O (.slice (some ad) 40 c) (yZ r):=by rw [L];exact a4.o.alloc _
 have c4:O.heap[w.heap.size]?=some (.cells #[.int .i64 0,.string { data:=#[] },.string { data:=#[] }] 34 (0,0)):=by rw [L];exact zw (show W.drew.drew.heap[w.heap.size]?=_ from a3.o) _
 have e6:w.heap.size<W.heap.size:=zi a3.o;have e7:W.heap.size<O.heap.size:=by rw [L];show W.drew.drew.heap.size < _;simp
 rw [<- L];obtain ⟨HX,c6,d1,c8⟩:=zi4 hX a8 c5 c4;clear L hX a8 c5 c4 HK a6 a4 HE a3 HB;go_upto_region 8 with fail;refine sV [] 11 (fun w'=>jJ w' W.heap.size #[.int .i64 r.t,.string (zb r.k),.string (zb r.v)] 34/\zj w' (.slice (some ad) 40 c) (yZ r)/\jJ w' w.heap.size #[.int .i64 0,.string { data:=#[] },.string { data:=#[] }] 34/\zd w w'/\O.heap.size<=w'.heap.size) ⟨HX.o,d1.o,c8.o,c6.o.drew,za _⟩ fun h=>?_;refine kV 0 rfl (qR 34 (.tmp 7) rfl rfl W.heap.size rfl 34 _ (0,0) _ (fun w' z=>z.1) underlying34 rfl (by kernel_rfl)) ?_;refine oC 1 (zps HR.o _) ?_;rintro D w3 ⟨rfl,X⟩;refine eV ⟨zg h.1 X (zi h.1),h.2.1.below X,zg h.2.2.1 X (zi h.2.2.1),B_call h.2.2.2.1 X,zz h.2.2.2.2 X.size⟩ fun h=>?_;refine pV 2 ?_;refine pV 3 ?_;refine kV 4 rfl (qR 34 (.tmp 7) rfl rfl W.heap.size rfl 34 _ (0,0) _ (fun w' z=>z.1) underlying34 rfl (by kernel_rfl)) ?_;refine pV 7 ?_;refine kV 8 rfl (uU 29 9 (.tmp 52) rfl rfl (.slice (some ad) 40 c) (.string (zb (yZ r))) rfl (fun w' z=>yh z.2.1)) ?_;refine oC 5 (zch HR.o _) ?_;rintro D w4 ⟨v4,rfl,d3,Y⟩;refine eV ⟨zg h.1 Y (zi h.1),h.2.1.below Y,zg h.2.2.1 Y (zi h.2.2.1),B_call h.2.2.2.1 Y,zz h.2.2.2.2 Y.size⟩ fun h=>?_;refine oV 6 fun K u=>?_;refine Qn 29 9 (.tmp 50) rfl v4 (.string (zb (yZ r))) rfl (yh (zj.aj (QI HR.o).symm d3)) ?_;refine u.out _ _ h (fun h=>?_);clear u K;try simp only [pS]
 refine pV 9 ?_;refine pV 10 ?_;refine dV ?_;have k0:=ze w4 W.heap.size 0 _ _ _ h.1;have k1:=ze w4 W.heap.size 1 _ _ _ h.1;have k2:=ze w4 W.heap.size 2 _ _ _ h.1;have l0:=ze w4 w.heap.size 0 _ _ _ h.2.2.1;have l1:=ze w4 w.heap.size 1 _ _ _ h.2.2.1;have l2:=ze w4 w.heap.size 2 _ _ _ h.2.2.1;have f0:=zI w4 w.heap.size 0 _ _ h.2.2.1;have f1:=zI w4 w.heap.size 1 _ _ h.2.2.1;have f2:=zI w4 w.heap.size 2 _ _ h.2.2.1;have HL:=hid h.2.2.1;have c7:=hid h.2.2.2.1;rename_i d8 d9 e0 e1 e4 e5;clear h;go_wp2_with fail;refine yG 2 3 34 rfl rfl w.heap.size 34 #[.int .i64 r.t,.string (zb r.k),.string (zb r.v)] (0,0) _ (.int .i64 0) rfl rfl ?_ underlying34 rfl (by kernel_rfl) ⟨rfl,B_set (B_set (B_set c7.o (za _) _) (za _) _) (za _) _⟩;rw [zB _ _ 2 _ _ _ (zB _ _ 1 _ _ _ (zB _ _ 0 _ _ _ HL.o))];rfl
def zM:Option Rw->List UInt8
 | none=>[]
 | some r=>yZ r
def js:Option Rw->Prop
 | none=>True
 | some r=>r.ok
structure zQ where
 kind:Nat
 txn:Nat
 E:Nat
 slot:Nat
 aa:Option Rw
 after:Option Rw
 ao:List UInt8
 Y:List Nat
structure zQ.ok (r:zQ):Prop where
 k1:1<=r.kind
 k7:r.kind<=7
 txn:r.txn<=255
 E:r.E<6
 slot:r.slot<5
 aa:js r.aa
 after:js r.after
 ao:r.ao=[]∨r.ao.length=256
 Y:r.Y=[]∨(r.kind=7/\r.Y.length=6)
 hh:∀ d,d∈r.Y->d<18446744073709551616
def JZ (r:zQ) (h:Value):Value :=
 .agg #[.int .i64 r.kind,.int .i64 r.txn,.int .i64 r.E,.int .i64 r.slot,.string (zb (zM r.aa)),.string (zb (zM r.after)),.string (zb r.ao),h]
theorem Gg {o:Option Rw} (h:js o):zM o=[]∨(zM o).length=40:=by
 cases o with
 | none=>exact .inl rfl
 | some r=>exact .inr (QI h)
theorem zdK {o:Option Rw} (h:js o):zdJ (zb (zM o))=true:=by
 unfold zdJ;rcases Gg h with e | e
 ·rw [e,ByteArray.toList_eq];rfl
 ·rw [jt,e];simp
theorem zcc (r:zQ) (A:Option Addr) (c:Nat) (w:World) (h:r.ok) :
  zc 106 #[JZ r (.slice A r.Y.length c)] w fun e w'=>e=.returned (.bool true)/\zd w w':=by
 have E:=zdK h.aa;have L:=zdK h.after;have d1:decide ((r.kind:Int)<1)=false:=by have:=h.k1;simp;omega
 have d2:decide ((7:Int)<(r.kind:Int))=false:=by have:=h.k7;simp;omega
 have d3:decide ((r.txn:Int)<0)=false:=by simp
 have d4:decide ((255:Int)<(r.txn:Int))=false:=by have:=h.txn;simp;omega
 have d5:decide ((r.E:Int)<0)=false:=by simp
 have d6:decide ((6:Int)<=(r.E:Int))=false:=by have:=h.E;simp;omega
 have d7:decide ((r.slot:Int)<0)=false:=by simp
 have d8:decide ((5:Int)<=(r.slot:Int))=false:=by have:=h.slot;simp;omega
 obtain ⟨s1,O⟩:=ex (zb (zM r.aa));obtain ⟨s2,R⟩:=ex (zb (zM r.after));unfold JZ;rw [<- O,<- R];rw [<- O] at E;rw [<- R] at L;have U:=hid E;have X:=hid L;have hd:=h.Y;have z:=h.ao;clear h O R E L;have D:(r.Y.length=0∨(r.kind=7/\r.Y.length=6)):=by
  rcases hd with e | e
  ·left;rw [e];rfl
  ·exact .inr e
 clear hd;obtain ⟨dl,Y⟩:=ex r.Y.length;obtain ⟨kd,a0⟩:=ex r.kind;rw [<- Y] at D ⊢;rw [<- a0] at D d1 d2 ⊢;clear Y a0;rcases z with z | z
 ·rw [z];have e0:zb ([]:List UInt8)=⟨#[]⟩:=rfl;rw [e0];rcases D with rfl | ⟨rfl,rfl⟩
  all_goals
   go_enter func106,ntmps106;go_wp2_with (first|(go_at_call 142;(with_reducible refine (Gh s1 _).mono ?_);rintro u w1 ⟨rfl,rfl⟩;rw [U.o])|(go_at_call 142;(with_reducible refine (Gh s2 _).mono ?_);rintro u w1 ⟨rfl,rfl⟩;rw [X.o]));go_ret;exact ⟨rfl,B_alloc (zf _ _) _⟩
 ·have u:((zb r.ao).size:Int)=256:=by rw [jt,z];rfl
  obtain ⟨im,Z⟩:=ex (zb r.ao);rw [<- Z] at u ⊢;have e2:((im.size:Int) != 256)=false:=by rw [u];rfl
  clear Z z u;rcases D with rfl | ⟨rfl,rfl⟩
  all_goals
   cases a1:im.toList.isEmpty
   all_goals
    go_enter func106,ntmps106;go_wp2_with (first|(go_at_call 142;(with_reducible refine (Gh s1 _).mono ?_);rintro u w1 ⟨rfl,rfl⟩;rw [U.o])|(go_at_call 142;(with_reducible refine (Gh s2 _).mono ?_);rintro u w1 ⟨rfl,rfl⟩;rw [X.o]));go_ret;exact ⟨rfl,B_alloc (zf _ _) _⟩
def uH (l:List Nat):List Value:=l.map fun d:Nat=>Value.int .u64 (d:Int)
theorem zie (l:List Nat):(uH l).length=l.length:=by simp [uH]
def uI (w:World) (v:Value) (l:List Nat):Prop:=∃ A c,v=.slice A l.length c/\zL w w.heap.size 1 A l.length (uH l)/\l.length<=c/\c<=maxLen
theorem uI.below {w w':World} {v:Value} {l:List Nat} (h:uI w v l) (b:zd w w'):uI w' v l:=by obtain ⟨A,c,rfl,D,u,z⟩:=h;exact ⟨A,c,rfl,(D.below b).bp b.size,u,z⟩
theorem uI.nil (w:World):uI w (.slice none 0 0) []:=⟨none,0,rfl,(zL.cz:zL w w.heap.size 1 none 0 []),za _,by unfold maxLen;omega⟩
def uD (r:zQ):List UInt8:=[UInt8.ofNat r.kind,UInt8.ofNat r.txn,UInt8.ofNat r.E,UInt8.ofNat r.slot]
def Ji (r:zQ):List UInt8:=uD r++zR 1 (zM r.aa).length++zM r.aa++zR 1 (zM r.after).length++zM r.after
def Qb (r:zQ):List UInt8:=Ji r++zR 2 r.ao.length++r.ao
def vX (r:zQ):List UInt8:=Qb r++zR 1 r.Y.length++r.Y.flatMap (zR 8)
def qG (r:zQ):List UInt8:=zR 2 (vX r).length++vX r
theorem Zr {o:Option Rw} (h:js o):(zM o).length<=40:=by rcases Gg h with e | e<;>simp [e]
theorem un (l:List Nat):(l.flatMap (zR 8)).length=8*l.length:=by
 induction l with
 | nil=>rfl
 | cons d l h=>simp only [qC,zl,zG,h,qc];omega
theorem zcb {r:zQ} (h:r.ok):(Ji r).length<=86:=by have u:=Zr h.aa;have z:=Zr h.after;simp only [Ji,uD,zl,zG,qc,jr];omega
theorem zfY {r:zQ} (h:r.ok):(Qb r).length<=344:=by
 have u:=zcb h;have z:r.ao.length<=256:=by rcases h.ao with e | e<;>simp [e]
 simp only [Qb,zl,zG];omega
theorem zdj {r:zQ} (h:r.ok):r.Y.length<=6:=by
 rcases h.Y with e | e
 ·simp [e]
 ·omega
theorem zaM {r:zQ} (h:r.ok):(vX r).length<=393:=by have u:=zfY h;have z:=zdj h;simp only [vX,zl,zG,un];omega
theorem yU {r:zQ} (h:r.ok):(qG r).length<=395:=by have u:=zaM h;simp only [qG,zl,zG];omega
theorem zcE (n:Nat) (h:n<256):IntKind.u8.wrap (n:Int)=(n:Int):=by rw [IntKind.wrap_u8];omega
theorem vG (n:Nat) (h:n<18446744073709551616):IntKind.u64.wrap (n:Int)=(n:Int):=by rw [IntKind.wrap_u64];omega
theorem QS:ue prog 5 1 1:=.of (by kernel_rfl)
theorem zaZ {w:World} {o:Oper} {a:Act} {K:Act->World->Prop} {Q:Exit->Act->World->Prop} (x y:Operand) (L:o.op=.call { callee:=.builtin .append,args:=#[x,y],argTypes:=#[29,9] })
  (v:Value) (n:Nat) (l:List UInt8) (base:Nat) (U:a.eval x=v) (O:w.ownsRow base 5 1 v n (zD l)) (s:ByteArray) (X:a.eval y=.string s) (a1:n+s.size<=1000000) (D:base<=w.heap.size)
  (h:∀ v' w',w'.ownsRow base 5 1 v' (n+s.size) (zD (l++s.data.toList))->w.grownBy w' v.ownBlock->K (a.put o.dst v') w'):o.wp prog a w K Q:=by
 obtain ⟨i0,E,Y,Z,a0⟩:=info_parts QU;obtain ⟨v',w',R,u,z,_⟩:=run_append_own_string (P:=prog) w base 29 9 o.type 5 i0 underlying29 underlying9 E Y Z a0 v n (zD l) O s (by unfold maxLen;omega) (by omega) D;refine uL (w1:=w') (v:=v') ?_ (h v' w' (by rw [yV,<- zjD];exact u) z);unfold execOp;simp [L,resolve,invoke,builtin,U,X,R]
theorem zeo (r:zQ) (dv:Value) (w:World) (h:r.ok) (e2:uI w dv r.Y) :
  zc 107 #[JZ r dv] w fun e w'=>∃ v,e=.returned v/\w'.ownsRow w.heap.size 5 1 v (qG r).length (zD (qG r))/\zd w w':=by
 obtain ⟨j4,hi,j1,j2,j3⟩:=info_parts QU;have g8:=zcE r.kind (by have:=h.k7;omega);have a2:=zcE r.txn (by have:=h.txn;omega);have g9:=zcE r.E (by have:=h.E;omega);have h1:=zcE r.slot (by have:=h.slot;omega);obtain ⟨dA,dc,rfl,e0,i6,i7⟩:=id e2;have l1:=Zr h.aa;have l2:=Zr h.after;have l3:=zcb h;have l4:=zfY h;have l5:=zdj h;have l6:=zaM h;have l7:r.ao.length<=256:=by rcases h.ao with e | e<;>simp [e]
 obtain ⟨H,HD⟩:=zi2 h e0;obtain ⟨s1,c5⟩:=ex (zb (zM r.aa));obtain ⟨E,c6⟩:=ex (zb (zM r.after));obtain ⟨L,c7⟩:=ex (zb r.ao);have z1:s1.size=(zM r.aa).length:=by rw [c5,jt]
 have z2:E.size=(zM r.after).length:=by rw [c6,jt]
 have z3:L.size=r.ao.length:=by rw [c7,jt]
 have t1:s1.data.toList=zM r.aa:=by rw [c5];rfl
 have t2:E.data.toList=zM r.after:=by rw [c6];rfl
 have t3:L.data.toList=r.ao:=by rw [c7];rfl
 unfold JZ;rw [<- c5,<- c6,<- c7];have HT:=hid (And.intro t1 (And.intro t2 t3));have X:=hid (And.intro z1 (And.intro z2 z3));clear h e2 e0 c5 c6 c7 t1 t2 t3 z1 z2 z3;go_enter func107,ntmps107;go_upto_region 2 with fail;obtain ⟨w1,a7⟩:=ex ((w.alloc (.cells #[.int .i64 r.kind,.int .i64 r.txn,.int .i64 r.E,.int .i64 r.slot,.string s1,.string E,.string L,.slice dA r.Y.length dc] 144)).alloc (.cells #[.int .u8 r.kind,.int .u8 r.txn,.int .u8 r.E,.int .u8 r.slot] 5));have hX:w1.heap[w.heap.size]?=some (.cells #[.int .i64 r.kind,.int .i64 r.txn,.int .i64 r.E,.int .i64 r.slot,.string s1,.string E,.string L,.slice dA r.Y.length dc] 144 (0,0)):=by rw [a7];exact zw (zo _ _ rfl) _
 have hB:zd w w1:=by rw [a7];exact B_alloc (B_alloc (zf _ _) _) _
 have hY:zj w1 (.slice (some ⟨w.heap.size+1,0,none⟩) 4 4) (uD r):=by
  have h0:(zD (uD r)).toArray=#[.int .u8 r.kind,.int .u8 r.txn,.int .u8 r.E,.int .u8 r.slot]:=by have hh:=H.o;simp only [zD,uD,List.map_cons,List.map_nil,zco r.kind (by have:=hh.k7;omega),zco r.txn (by have:=hh.txn;omega),zco r.E (by have:=hh.E;omega),zco r.slot (by have:=hh.slot;omega)]
  have:=zby (w.alloc (.cells #[.int .i64 r.kind,.int .i64 r.txn,.int .i64 r.E,.int .i64 r.slot,.string s1,.string E,.string L,.slice dA r.Y.length dc] 144)) (uD r) (by unfold maxLen;simp [uD]);rw [h0,World.size_alloc] at this;rw [a7];exact this
 rw [<- a7];have h3:=ze w1 w.heap.size 4 _ _ _ hX;have Z:=ze w1 w.heap.size 5 _ _ _ hX;obtain ⟨HX,HB,HY⟩:=zi3 hX hB hY;have Y:w.heap.size<w1.heap.size:=zi hX;clear a7 hX hB hY g8 a2 g9 h1;refine sV [] 8 (fun w'=>zH w' w.heap.size 4 (.string s1)/\zH w' w.heap.size 5 (.string E)) ⟨h3,Z⟩ fun u=>?_;refine pV 0 ?_;refine pV 1 ?_;refine tV 2 ?_;refine pV 4 ?_;refine tV 5 ?_;refine oC 3 (KD _ _ s1 _ HY.o.drew (by simp [uD]) (by rw [X.o.1];omega)) ?_;rintro e1 w2 ⟨v2,rfl,e8,U⟩;refine eV ⟨qU u.1 U Y,qU u.2 U Y⟩ fun u=>?_;refine oC 6 (KD _ _ E _ (zj.aj ?len e8) ?le (by rw [X.o.2.1];omega)) ?_
 case len=>rw [HT.o.1];simp [uD,zG,X.o.1];omega
 case le=>rw [HT.o.1];simp [uD,zG];omega
 rintro e1 O ⟨v3,rfl,c2,a5⟩;refine eV ⟨qU u.1 a5 (qg Y U.size),qU u.2 a5 (qg Y U.size)⟩ fun u=>?_;refine pV 7 ?_;refine dV ?_;have hm:O.ownsRow w2.heap.size 5 1 v3 (Ji r).length (zD (Ji r)):=by
  have e:uD r++zR 1 s1.size++s1.data.toList++zR 1 E.size++E.data.toList=Ji r:=by rw [X.o.1,X.o.2.1,HT.o.1,HT.o.2.1];rfl
  rw [e] at c2;have R:=c2.1;rw [jf,Nat.mul_one] at R;rw [R];exact c2
 have d8:zd w O:=B_call (B_call HB.o.drew U) a5;have a3:=zg (zg (show w1.drew.heap[w.heap.size]?=_ from HX.o) U Y) a5 (qg Y U.size);have d4:w.heap.size<O.heap.size:=zi a3;have e3:=zj.aj rfl hm;obtain ⟨f7,f3,g6⟩:=zi3 e3 d8 a3;have a4:=ze O w.heap.size 6 _ _ _ a3;have h5:=ze O w.heap.size 7 _ _ _ a3;clear hm e3 d8 a3 e8 c2 U a5 u Y;go_upto_region 3 with fail;have hS:=a4;have m1:IntKind.u64.wrap (L.size:Int)=(r.ao.length:Int):=by rw [X.o.2.2];exact vG _ (by omega)
 refine sV [] 10 (fun w'=>zH w' w.heap.size 6 (.string L)) hS fun u=>?_;refine pV 0 ?_;refine pV 1 ?_;refine tV 2 ?_;refine pV 3 ?_;refine tV 4 ?_;refine pV 6 ?_;refine tV 7 ?_;refine oC 5 (ur v3 _ 2 r.ao.length _ f7.o.drew (by omega) (by omega) (by omega)) ?_;rintro e1 w4 ⟨v4,rfl,c3,a9⟩;refine eV (qU u a9 d4) fun u=>?_;refine oV 8 fun K hK=>?_;refine zaZ _ _ rfl v4 _ _ O.drew.heap.size (by rfl) c3 L (by rfl) ?le (a9.size) ?_
 case le=>rw [X.o.2.2,show (2:Int).toNat=2 from rfl];omega
 intro v5 w5 c4 d2;refine hK.out _ _ (Qw u d2 (fun e=>by have:=(c3.lt _ e).1;have i1:O.heap.size<=w.heap.size:=this;omega)) (fun u=>?_);clear hK K;try simp only [pS]
 refine pV 9 ?_;refine dV ?_;have c8:zd O w5:=uE (vn a9 c3 d2);have e6:w5.ownsRow O.heap.size 5 1 v5 (Qb r).length (zD (Qb r)):=by
  have e:Ji r++zR (2:Int).toNat r.ao.length++L.data.toList=Qb r:=by rw [HT.o.2.2];rfl
  rw [e] at c4;have R:=c4.1;rw [jf,Nat.mul_one] at R;rw [R];exact c4
 have e4:=zj.aj rfl e6;have Z:=zg g6.o c8 d4;have h4:=ze w5 w.heap.size 7 _ _ _ Z;have f8:=hid e4;have d7:=hid (B_call f3.o c8);have g7:=hid Z;have h9:w.heap.size<w5.heap.size:=zi Z;have m2:IntKind.u64.wrap (r.Y.length:Int)=(r.Y.length:Int):=vG _ (by omega);clear u hS m1 c3 a9 c4 d2 c8 e6 e4 Z a4 h5 d4;go_upto_region 5 with (go_at_call 59;(with_reducible refine (ur v5 _ 1 r.Y.length _ f8.o (by omega) (by omega) (by omega)).mono ?_);rintro e1 w6 ⟨v6,rfl,d5,d0⟩);have d9:=B_call d7.o d0;obtain ⟨D,c1⟩:=ex (Qb r++zR (1:Int).toNat r.Y.length);have j0:D.length=(Qb r).length+1:=by rw [c1,zl,zG];rfl
 have e9:w6.ownsRow w.heap.size 5 1 v6 D.length (zD D):=by have R:=d5.1;rw [jf,Nat.mul_one] at R;rw [c1];rw [R];exact jK d5 d7.o.size
 have a4:=zg g7.o d0 h9;have i2:=ze w6 w.heap.size 7 _ _ _ a4;have g4:=hid e9;have f4:=hid d9;have f9:=hid c1;clear d5 d0 e9 d9 c1 a4 h4;go_wp2_with fail;go_loopw [3,44] (fun v a8 wr=>∃ j:Nat,j<=r.Y.length/\a8=.int .i64 j/\wr.ownsRow w.heap.size 5 1 v (D.length+8*j) (zD (D++(r.Y.take j).flatMap (zR 8)))/\zd w wr) (fun _ a8 _=>(r.Y.length-intOf a8).toNat)
 case atStart=>exact ⟨0,by omega,rfl,by simpa using g4.o,f4.o⟩
 case round =>
  obtain ⟨j,hj,rfl,z,a6⟩:=hrel;by_cases e5:j<r.Y.length
  ·obtain ⟨d,hd⟩:∃ d,r.Y[j]?=some d:=⟨_,zX e5⟩;have f2:=HD.o.below a6;obtain ⟨ad,a8,rfl,i3,hx,i5⟩:=f2.cb e5;have hu:a8=.int .u64 d:=by
    have:(uH r.Y)[j]?=some (.int .u64 d):=by simp [uH,hd]
    rw [this] at hx;injection hx with hx;exact hx.symm
   subst hu;have i8:(0:Int)<=(j:Int):=by omega
   have i9:(j:Int)<(r.Y.length:Int):=by omega
   have a0:(D++(r.Y.take j).flatMap (zR 8)).length=D.length+8*j:=by rw [zl,un,qf,Nat.min_eq_left hj]
   have c0:=zj.aj a0.symm z;have h8:(D++(r.Y.take j).flatMap (zR 8)).length<=1000000:=by omega
   obtain ⟨f6,a1,g2,f5⟩:=zi4 c0 a6 a0 hd;clear c0 a6 a0 hd z hx f2;go_wp2_with (go_at_call 59;(with_reducible refine (ur u3 _ 8 d _ f6.o (by omega) (by omega) h8).mono ?_);rintro e1 w7 ⟨v7,rfl,i0,h6⟩);go_roundw
   case rel =>
    refine ⟨j+1,by omega,by go_num,?_,B_call a1.o h6⟩;have e:(r.Y.take (j+1)).flatMap (zR 8)=(r.Y.take j).flatMap (zR 8)++zR 8 d:=by rw [List.take_add_one,f5.o,List.flatMap_append];simp
    rw [e,<- jq];have:=jK i0 a1.o.size;rw [g2.o] at this;exact this
   case measure=>simp [intOf];omega
  ·obtain rfl:j=r.Y.length:=by omega
   rw [qi] at z;have d1:D++r.Y.flatMap (zR 8)=vX r:=by rw [f9.o];rfl
   rw [d1] at z;have a0:(vX r).length=D.length+8*r.Y.length:=by rw [<- d1,zl,un]
   rw [<- a0] at z;obtain ⟨l9,d3⟩:=ex (vX r);rw [<- d3] at z l6;have g0:=hid d3;clear d3 d1 a0;obtain ⟨A8,h2,rfl⟩:=own_slice z;have c0:=zj.aj rfl z;have f1:=zL.aj z;have m3:IntKind.u64.wrap (l9.length:Int)=(l9.length:Int):=vG _ (by omega);have e7:zj wr (.slice none 0 0) []:=⟨none,0,rfl,(zL.cz:zL wr wr.heap.size 1 none 0 []),za _,by unfold maxLen;omega⟩;obtain ⟨g5,g3,a1⟩:=zi3 f1 e7 a6;clear c0 f1 e7 a6 z;go_wp2_with (first|((with_reducible refine aV 59 (ur (.slice none 0 0) [] 2 l9.length wr g3.o (by omega) (by omega) (by simp)) ?_);rintro e1 w8 ⟨v8,rfl,d6,b9⟩;simp only [show (2:Int).toNat=2 from rfl,List.nil_append,jr,qy] at d6)|(at_builtin;refine jX rfl (.tmp 55) (.tmp 56) 29 5 1 1 rfl underlying29 QS (by omega) v8 2 (zD (zR 2 l9.length)) wr.heap.size (by rfl) d6 A8 l9.length h2 (zD l9) w8.heap.size (by rfl) ((g5.o.below b9).bp b9.size) (yp _) (by omega) (by omega) b9.size ?_;intro v9 w9 f0 h7 i4));go_ret;refine ⟨_,rfl,?_,B_call a1.o (vn b9 d6 h7)⟩;rw [<- yV] at f0;have:=jK f0 a1.o.size;unfold qG;rw [zl,zG,<- g0.o];exact this
theorem zeX:∀ (l:List UInt8) (a:Nat),l.foldl (fun a b=>a*256+b.toNat) a=a*256 ^ l.length+QG l
 | [],a=>by simp [QG]
 | b::l,a=>by have h:=zeX l (a*256+b.toNat);have u:=zeX l (0*256+b.toNat);show l.foldl (fun a b=>a*256+b.toNat) (a*256+b.toNat)=a*256 ^ (l.length+1)+l.foldl (fun a b=>a*256+b.toNat) (0*256+b.toNat);rw [h,u,Nat.pow_succ];generalize 256 ^ l.length=P;simp only [Nat.add_mul,Nat.zero_mul,qy];rw [Nat.mul_assoc a 256 P,Nat.mul_comm 256 P,Nat.add_assoc]
theorem zmU (k x:Nat):zR (k+1) x=UInt8.ofNat (x / 256 ^ k)::zR k x:=by
 unfold zR;rw [List.range_succ_eq_map,List.map_cons,List.map_map];congr 1
 ·rw [show k+1-1-0=k by omega,Nat.pow_mul]
 ·refine List.map_congr_left fun i h=>?_;simp only [Function.comp];rw [show k+1-1-(i+1)=k-1-i by omega]
theorem KS:∀ (k x:Nat),QG (zR k x)=x % 256 ^ k
 | 0,x=>by simp [zR,QG,Nat.mod_one]
 | k+1,x=>by rw [zmU,QG,jM,zeX,zG,KS k x,UInt8.toNat_ofNat',show (2:Nat) ^ 8=256 from rfl,Nat.pow_succ,Nat.mod_mul,Nat.zero_mul,qy,Nat.mul_comm,Nat.add_comm]
theorem zlw:ue prog 35 1 8:=.of (by kernel_rfl)
theorem zed (G:Nat) (k x:Nat) (rest:List UInt8) (w:World) (h:jw w G (zR k x++rest) false) (E:1<=k) (L:k<=8) (D:x<256 ^ k) (hs:rest.length<=900000) :
  zc 52 #[.pointer (some ⟨G,0,none⟩),.int .i64 k] w fun r w'=>r=.returned (.int .u64 x)/\jw w' G rest false/\w.grownBy w' (some G):=by
 refine (zag G (zR k x++rest) k w h (by omega) (by omega) (by rw [zl,zG];omega) (by rw [zl,zG];omega)).mono ?_;rintro r w' ⟨rfl,u,z⟩;rw [qp] at u ⊢;rw [List.take_left' (by rw [zG]),KS,Nat.mod_eq_of_lt D];rw [List.drop_left' (by rw [zG])] at u;exact ⟨rfl,u,z⟩
theorem JJ (G x:Nat) (rest:List UInt8) (w:World) (h:jw w G (zR 1 x++rest) false) (u:x<256) (hs:rest.length<=900000) :
  zc 52 #[.pointer (some ⟨G,0,none⟩),.int .i64 1] w fun r w'=>r=.returned (.int .u64 x)/\jw w' G rest false/\w.grownBy w' (some G) :=
 zed G 1 x rest w h (by omega) (by omega) u hs
theorem zjm (G x:Nat) (rest:List UInt8) (w:World) (h:jw w G (zR 2 x++rest) false) (u:x<65536) (hs:rest.length<=900000) :
  zc 52 #[.pointer (some ⟨G,0,none⟩),.int .i64 2] w fun r w'=>r=.returned (.int .u64 x)/\jw w' G rest false/\w.grownBy w' (some G) :=
 zed G 2 x rest w h (by omega) (by omega) u hs
theorem zcx (G x:Nat) (rest:List UInt8) (w:World) (h:jw w G (zR 4 x++rest) false) (u:x<4294967296) (hs:rest.length<=900000) :
  zc 52 #[.pointer (some ⟨G,0,none⟩),.int .i64 4] w fun r w'=>r=.returned (.int .u64 x)/\jw w' G rest false/\w.grownBy w' (some G) :=
 zed G 4 x rest w h (by omega) (by omega) u hs
theorem zjn (G x:Nat) (rest:List UInt8) (w:World) (h:jw w G (zR 8 x++rest) false) (u:x<18446744073709551616) (hs:rest.length<=900000) :
  zc 52 #[.pointer (some ⟨G,0,none⟩),.int .i64 8] w fun r w'=>r=.returned (.int .u64 x)/\jw w' G rest false/\w.grownBy w' (some G) :=
 zed G 8 x rest w h (by omega) (by omega) u hs
theorem zjC (G:Nat) (s rest:List UInt8) (w:World) (h:jw w G (zR 1 s.length++s++rest) false) (hs:s.length<256) (u:rest.length<=900000) :
  zc 54 #[.pointer (some ⟨G,0,none⟩)] w fun r w'=>r=.returned (.string (zb s))/\jw w' G rest false/\w.grownBy w' (some G):=by
 have e:zR 1 s.length++s++rest=UInt8.ofNat s.length::(s++rest):=by simp [zR]
 rw [e] at h;exact znY G (UInt8.ofNat s.length) s rest w h (by rw [UInt8.toNat_ofNat'];omega) (by simp;omega)
theorem zjB (G:Nat) (s rest:List UInt8) (w:World) (h:jw w G (s++rest) false) (E:s.length+rest.length<=900000) :
  zc 99 #[.pointer (some ⟨G,0,none⟩),.int .i64 s.length] w fun r w'=>∃ v,r=.returned v/\zj w' v s/\jw w' G rest false/\w.grownBy w' (some G):=by
 refine (zfq G (s++rest) s.length w h (by omega) (by rw [zl];omega) (by rw [zl];omega)).mono ?_;rintro r w' ⟨v,rfl,z,u,D⟩;rw [qp,List.take_left' rfl] at z;rw [qp,List.drop_left' rfl] at u;exact ⟨v,rfl,zj.aj rfl z,u,D⟩
theorem jw.same {w w':World} {G:Nat} {l:List UInt8} {u:Bool} (h:jw w G l u) (hs:∀ k,k<=G->w'.heap[k]?=w.heap[k]?):jw w' G l u:=by obtain ⟨A,c,h⟩:=h;exact ⟨A,c,(hs G (za _)).trans h.U,h.rd.ac fun p z=>yt (hs p.block (Nat.le_of_lt z)),h.le,h.mx,h.one⟩
theorem jw.lt {w:World} {G:Nat} {l:List UInt8} {u:Bool} (h:jw w G l u):G<w.heap.size:=by obtain ⟨A,c,h⟩:=h;exact zi h.U
theorem JK (G:Nat) (l:List UInt8) (u:Bool) (w:World) (h:jw w G l u):zc 55 #[.pointer (some ⟨G,0,none⟩)] w fun r w'=>r=.returned (.bool u)/\w'=w:=by obtain ⟨A,c,h⟩:=h;exact QX G A _ c _ u w h
theorem zhU (G:Nat) (l:List UInt8) (u:Bool) (w:World) (h:jw w G l u):zc 58 #[.pointer (some ⟨G,0,none⟩)] w fun r w'=>r=.returned (.int .i64 l.length)/\w'=w:=by obtain ⟨A,c,h⟩:=h;exact ziN G A _ c _ u w h
theorem zkk (r:zQ):vX r=zR 1 r.kind++(zR 1 r.txn++(zR 1 r.E++(zR 1 r.slot++(zR 1 (zM r.aa).length++zM r.aa++(zR 1 (zM r.after).length++zM r.after++(zR 2 r.ao.length++(r.ao++(zR 1 r.Y.length++r.Y.flatMap (zR 8))))))))):=by simp [vX,Qb,Ji,uD,zR]
theorem zpn (v:Value) (r:zQ) (w:World) (hr:r.ok) (g5:zj w v (vX r)) :
  zc 147 #[v] w fun e w'=>∃ U,e=.returned (.tuple #[JZ r U,.bool true])/\w'.ownsRow w.heap.size 35 1 U r.Y.length (uH r.Y)/\zd w w':=by
 have o1:=Zr hr.aa;have o2:=Zr hr.after;have o3:=zdj hr;have o4:r.ao.length<=256:=by rcases hr.ao with e | e<;>simp [e]
 have o5:=un r.Y;obtain ⟨H,HR⟩:=zi2 g5 hr;have l4:=hid (zkk r);clear g5 hr;go_enter func147,ntmps147;go_upto_region 2 with (go_at_call 51;(with_reducible refine (Jh v (vX r) _ (H.o.alloc _)).mono ?_);rintro u w1 ⟨rfl,a3,d8⟩);have i8:w1.heap[w.heap.size]?=some (.cells #[.int .i64 0,.int .i64 0,.int .i64 0,.int .i64 0,.string { data:=#[] },.string { data:=#[] },.string { data:=#[] },.slice none 0 0] 144 (0,0)):=zg (zo w _ rfl) d8 (by simp);have g6:=B_call (B_alloc (zf w.heap.size w) _) d8;rw [World.size_alloc] at a3;rw [l4.o] at a3;have n6:=a3.lt;have q1:r.kind<256:=by have:=HR.o.k7;omega
 have q2:r.txn<256:=by have:=HR.o.txn;omega
 have q3:r.E<256:=by have:=HR.o.E;omega
 have q4:r.slot<256:=by have:=HR.o.slot;omega
 obtain ⟨l5,f9,d0⟩:=zi3 a3 i8 g6;obtain ⟨a8,c6⟩:=ex (zR 1 (zM r.aa).length++zM r.aa++(zR 1 (zM r.after).length++zM r.after++(zR 2 r.ao.length++(r.ao++(zR 1 r.Y.length++r.Y.flatMap (zR 8))))));have m4:a8.length<=1000:=by rw [c6];simp only [zl,zG,un];omega
 have f3:Hid (jw w1 (w.heap.size+1) (zR 1 r.kind++(zR 1 r.txn++(zR 1 r.E++(zR 1 r.slot++a8)))) false):=hid (by rw [c6];exact a3);have f8:=hid c6;have j1:(zR 1 r.txn++(zR 1 r.E++(zR 1 r.slot++a8))).length<=900000:=by simp only [zl,zG];omega
 have j2:(zR 1 r.E++(zR 1 r.slot++a8)).length<=900000:=by simp only [zl,zG];omega
 have j3:(zR 1 r.slot++a8).length<=900000:=by simp only [zl,zG];omega
 have j4:a8.length<=900000:=by omega
 clear a3 i8 g6 c6 d8 l5;go_upto_region 3 with (first|(go_at_call 52;(with_reducible refine (JJ (w.heap.size+1) r.kind _ w1 f3.o q1 j1).mono ?_);rintro u w2 ⟨rfl,i2,k0⟩)|(go_at_call 52;(with_reducible refine (JJ (w.heap.size+1) r.txn _ w2 i2 q2 j2).mono ?_);rintro u w3 ⟨rfl,i3,k1⟩)|(go_at_call 52;(with_reducible refine (JJ (w.heap.size+1) r.E _ w3 i3 q3 j3).mono ?_);rintro u w4 ⟨rfl,i4,k2⟩)|(go_at_call 52;(with_reducible refine (JJ (w.heap.size+1) r.slot _ w4 i4 q4 j4).mono ?_);rintro u w5 ⟨rfl,d6,k3⟩));obtain ⟨w6,a6⟩:=ex (w5.alloc (.cells #[.int .i64 r.kind,.int .i64 r.txn,.int .i64 r.E,.int .i64 r.slot,.string { data:=#[] },.string { data:=#[] },.string { data:=#[] },.slice none 0 0] 144));have R:=((k0.trans k1).trans k2).trans k3;have g9:zd w w5:=d0.o.grown R d0.o.size (fun k h=>by injection h with h;omega);have j5:=qq f9.o R (fun e=>by injection e with e;omega);have d4:w6.heap[w5.heap.size]?=some (.cells #[.int .i64 r.kind,.int .i64 r.txn,.int .i64 r.E,.int .i64 r.slot,.string { data:=#[] },.string { data:=#[] },.string { data:=#[] },.slice none 0 0] 144 (0,0)):=by rw [a6];exact zo _ _ rfl
 have j6:w6.heap[w.heap.size]?=some (.cells #[.int .i64 0,.int .i64 0,.int .i64 0,.int .i64 0,.string { data:=#[] },.string { data:=#[] },.string { data:=#[] },.slice none 0 0] 144 (0,0)):=by rw [a6];exact zw j5 _
 have h3:zd w w6:=by rw [a6];exact B_alloc g9 _
 have m0:w.heap.size+1<w5.heap.size:=d6.lt;obtain ⟨b9,a9⟩:=ex (zR 2 r.ao.length++(r.ao++(zR 1 r.Y.length++r.Y.flatMap (zR 8))));have k5:b9.length<=900000:=by rw [a9];simp only [zl,zG,un];omega
 have i5:jw w6 (w.heap.size+1) (zR 1 (zM r.aa).length++zM r.aa++(zR 1 (zM r.after).length++zM r.after++b9)) false:=by rw [a9,<- f8.o,a6];exact d6.same fun k h=>qb _ _ _ (by omega)
 rw [<- a6];obtain ⟨E,X⟩:=ex w5.heap.size;rw [<- X] at d4 m0 ⊢;obtain ⟨f0,g2,d2,f5,f7⟩:=zi5 d4 j6 h3 i5 a9;have l0:(zR 1 (zM r.after).length++zM r.after++b9).length<=900000:=by
  have:b9.length<=1000:=by rw [a9];simp only [zl,zG,un];omega
  simp only [zl,zG];omega
 clear a6 R g9 j5 d4 j6 h3 i5 a9 X d6 k0 k1 k2 k3 i2 i3 i4 f3 f8 j1 j2 j3 j4 q1 q2 q3 q4 m4 d0 f9;obtain ⟨s1,k7⟩:=ex (zb (zM r.aa));obtain ⟨Y,k8⟩:=ex (zb (zM r.after));obtain ⟨Z,k9⟩:=ex (zb r.ao);have HS:=hid (And.intro k7 (And.intro k8 k9));clear k7 k8 k9;go_upto_region 4 with (first|(go_at_call 54;(with_reducible refine (zjC (w.heap.size+1) (zM r.aa) _ w6 f5.o (by omega) l0).mono ?_);rintro u w7 ⟨rfl,i6,e2⟩;rw [<- HS.o.1])|(go_at_call 54;(with_reducible refine (zjC (w.heap.size+1) (zM r.after) _ w7 i6 (by omega) k5).mono ?_);rintro u w8 ⟨rfl,i7,e3⟩;rw [<- HS.o.2.1];have a1:=qq f0.o (e2.trans e3) (fun e=>by injection e with e;omega);have n8:=ze w8 E 4 _ _ _ a1;have n9:=ze w8 E 5 _ _ _ a1;have m9:=zI w8 E 4 _ _ a1;have n0:=zI w8 E 5 _ _ a1;have f1:=hid a1;clear a1));obtain ⟨w9,a7⟩:=ex ((w8.setCell ⟨E,4,none⟩ (.string s1)).setCell ⟨E,5,none⟩ (.string Y));have h7:w9.heap[E]?=some (.cells #[.int .i64 r.kind,.int .i64 r.txn,.int .i64 r.E,.int .i64 r.slot,.string s1,.string Y,.string { data:=#[] },.slice none 0 0] 144 (0,0)):=by rw [a7,zB _ _ 5 _ _ _ (zB _ _ 4 _ _ _ f1.o)];rfl
 have e1:=e2.trans e3;have j7:w9.heap[w.heap.size]?=some (.cells #[.int .i64 0,.int .i64 0,.int .i64 0,.int .i64 0,.string { data:=#[] },.string { data:=#[] },.string { data:=#[] },.slice none 0 0] 144 (0,0)):=by rw [a7];exact QB (QB (qq g2.o e1 (fun e=>by injection e with e;omega)) (by show w.heap.size≠E;omega) _) (by show w.heap.size≠E;omega) _
 have h4:zd w w9:=by rw [a7];exact B_set (B_set (d2.o.grown e1 d2.o.size (fun k h=>by injection h with h;omega)) (by show w.heap.size<=E;omega) _) (by show w.heap.size<=E;omega) _
 have d7:jw w9 (w.heap.size+1) b9 false:=by rw [a7];exact i7.same fun k h=>(zt _ _ _ _ (by show k≠E;omega)).trans (zt _ _ _ _ (by show k≠E;omega))
 rw [<- a7];rw [f7.o] at d7;obtain ⟨f2,g3,d3,f6⟩:=zi4 h7 j7 h4 d7;have j1:(r.ao++(zR 1 r.Y.length++r.Y.flatMap (zR 8))).length<=900000:=by simp only [zl,zG,un];omega
 have j2:r.ao.length+(zR 1 r.Y.length++r.Y.flatMap (zR 8)).length<=900000:=by simp only [zl,zG,un];omega
 have j3:(r.Y.flatMap (zR 8)).length<=900000:=by rw [un];omega
 have j4:r.ao.length<65536:=by omega
 have l1:r.Y.length<256:=by omega
 clear a7 h7 j7 h4 d7 e1 e2 e3 i6 i7 f1 f0 g2 d2 f5 f7 k5 l0;go_upto_region 5 with (first|(go_at_call 52;(with_reducible refine (zjm (w.heap.size+1) r.ao.length _ w9 f6.o j4 j1).mono ?_);rintro u m6 ⟨rfl,h8,d9⟩)|(go_at_call 99;(with_reducible refine (zjB (w.heap.size+1) r.ao _ m6 h8 j2).mono ?_);rintro u e7 ⟨o7,rfl,k4,h9,e0⟩;have j8:=yh k4;rw [<- HS.o.2.2] at j8;have c4:=qq f2.o (d9.trans e0) (fun e=>by injection e with e;omega);have o0:=ze e7 E 6 _ _ _ c4;have n1:=zI e7 E 6 _ _ c4;have e8:=hid c4;clear c4));obtain ⟨c0,a5⟩:=ex (e7.setCell ⟨E,6,none⟩ (.string Z));have h5:c0.heap[E]?=some (.cells #[.int .i64 r.kind,.int .i64 r.txn,.int .i64 r.E,.int .i64 r.slot,.string s1,.string Y,.string Z,.slice none 0 0] 144 (0,0)):=by rw [a5,zB _ _ 6 _ _ _ e8.o];rfl
 have e4:=d9.trans e0;have i9:c0.heap[w.heap.size]?=some (.cells #[.int .i64 0,.int .i64 0,.int .i64 0,.int .i64 0,.string { data:=#[] },.string { data:=#[] },.string { data:=#[] },.slice none 0 0] 144 (0,0)):=by rw [a5];exact QB (qq g3.o e4 (fun e=>by injection e with e;omega)) (by show w.heap.size≠E;omega) _
 have g7:zd w c0:=by rw [a5];exact B_set (d3.o.grown e4 d3.o.size (fun k h=>by injection h with h;omega)) (by show w.heap.size<=E;omega) _
 have i0:jw c0 (w.heap.size+1) (zR 1 r.Y.length++r.Y.flatMap (zR 8)) false:=by rw [a5];exact h9.same fun k h=>zt _ _ _ _ (by show k≠E;omega)
 rw [<- a5];obtain ⟨e9,g0,d1,f4⟩:=zi4 h5 i9 g7 i0;clear a5 h5 i9 g7 i0 e4 d9 e0 h8 h9 e8 f2 g3 d3 f6 j8 k4;go_wp2_with (go_at_call 52;(with_reducible refine (JJ (w.heap.size+1) r.Y.length _ c0 f4.o l1 j3).mono ?_);rintro u m7 ⟨rfl,i1,c5⟩);have h6:=qq e9.o c5 (fun e=>by injection e with e;omega);have j0:=qq g0.o c5 (fun e=>by injection e with e;omega);have g8:zd w m7:=d1.o.grown c5 d1.o.size (fun k h=>by injection h with h;omega);obtain ⟨l3,l7,l2,l6⟩:=zi4 h6 j0 g8 i1;have o6:(r.Y.length:Int)<18446744073709551616:=by omega
 clear h6 j0 g8 i1 c5 e9 g0 d1 f4 j1 j2 j3 j4 l1;go_loopw [36] (fun c7 wr=>∃ j:Nat,j<=r.Y.length/\c7=.int .u64 j/\(∃ U,wr.heap[E]?=some (.cells #[.int .i64 r.kind,.int .i64 r.txn,.int .i64 r.E,.int .i64 r.slot,.string s1,.string Y,.string Z,U] 144 (0,0))/\wr.ownsRow (E+1) 35 1 U j (uH (r.Y.take j)))/\jw wr (w.heap.size+1) ((r.Y.drop j).flatMap (zR 8)) false/\wr.heap[w.heap.size]?=some (.cells #[.int .i64 0,.int .i64 0,.int .i64 0,.int .i64 0,.string { data:=#[] },.string { data:=#[] },.string { data:=#[] },.slice none 0 0] 144 (0,0))/\zd w wr) (fun c7 _=>(r.Y.length-intOf c7).toNat)
 case atStart=>exact ⟨0,by omega,rfl,⟨_,l3.o,ql _ _ _ _⟩,l6.o,l7.o,l2.o⟩
 case round =>
  obtain ⟨j,hj,rfl,⟨U,X,a4⟩,hR,hX,hB⟩:=hrel;by_cases k6:j<r.Y.length
  ·obtain ⟨d,hd⟩:∃ d,r.Y[j]?=some d:=⟨_,zX k6⟩;have m3:d<18446744073709551616:=HR.o.hh d (zC hd);have j9:(r.Y.drop j).flatMap (zR 8)=zR 8 d++(r.Y.drop (j+1)).flatMap (zR 8):=by rw [List.drop_eq_getElem_cons k6,qC];congr 2;exact (zr.1 hd).2
   rw [j9] at hR;have m5:((r.Y.drop (j+1)).flatMap (zR 8)).length<=900000:=by rw [un,qI];omega
   have n3:=zi X;have l8:=ze wr E 7 _ _ _ X;have n7:(j:Int)<(r.Y.length:Int):=by omega
   obtain ⟨c1,z,c2,c3,a0,HD⟩:=zi6 X a4 hR hX hB hd;clear X a4 hR hX hB hd j9;go_upto_region 7 with fail;refine sV [7] 8 (fun w'=>zH w' E 7 U) l8 fun D=>?_;refine pV 0 ?_;refine tV 1 ?_;refine pV 2 ?_;refine oC 3 (zjn (w.heap.size+1) d _ wr.drew (c2.o.same fun _ _=>rfl) m3 m5) ?_;rintro u c8 ⟨rfl,d5,O⟩;refine eV (Qw D O (fun e=>by injection e with e;exact absurd (show w.heap.size+1=E from e) (by omega))) fun D=>?_;refine oV 4 fun K L=>?_;refine yv 23 35 1 8 (.tmp 41) rfl (.int .u64 d) (by rfl) underlying23 zlw rfl (by omega) (by omega) ?_;refine L.out _ _ (yK D _) (fun D=>?_);clear L K;try simp only [pS]
   refine oV 5 fun K L=>?_;refine Qd (.tmp 39) (.tmp 42) 23 35 1 8 rfl underlying23 zlw (by omega) U j (uH (r.Y.take j)) (E+1) (by rfl) (own_same z.o fun x hx=>?ow) (some ⟨c8.heap.size,0,none⟩) 1 1 [.int .u64 d] _ (by rfl) (zL.bk (zo c8 _ rfl) rfl) (by intro c7 hu;simp at hu;subst hu;rfl) (by omega) (by omega) ?bs ?_
   case ow =>have h1:=z.o.lt x hx;have h2:(c8.alloc (.cells #[.int .u64 d] 35)).heap[x]?=c8.heap[x]?:=qb _ _ _ (qg h1.2 O.size);exact h2.trans (O.block x h1.2 (fun e=>by injection e with e;omega))
   case bs =>have h2:=O.size;have n2:wr.drew.heap.size=wr.heap.size:=rfl;simp;omega
   intro g4 o8 e5 R n4;refine L.out _ _ (Qw D R (fun e=>by have:=(z.o.lt _ e).1;exact absurd (show E+1<=E from this) (by omega))) (fun D=>?_);clear L K;try simp only [pS]
   refine pV 6 ?_;refine lV 7 fun K L=>?_;refine jz 23 (.tmp 44) (.tmp 43) rfl E 7 #[.int .i64 r.kind,.int .i64 r.txn,.int .i64 r.E,.int .i64 r.slot,.string s1,.string Y,.string Z,U] 144 g4 (by rfl) (by rfl) (by kernel_rfl) ?hb (by simp) (zjp e5) ?_
   case hb=>exact qq (zw (qq (show wr.drew.heap[E]?=_ from c1.o) O (fun e=>by injection e with e;omega)) _) R (fun e=>by have:=(z.o.lt _ e).1;omega)
   refine L.out _ _ ?_;clear L K;try simp only [pS]
   refine dV ?_;go_wp2_with fail;go_roundw
   case rel =>
    have l9:=qq (zw (qq (show wr.drew.heap[E]?=_ from c1.o) O (fun e=>by injection e with e;omega)) (.cells #[.int .u64 d] 35)) R (fun e=>by have:=(z.o.lt _ e).1;omega);have m2:=qq (zw (qq (show wr.drew.heap[w.heap.size]?=_ from c3.o) O (fun e=>by injection e with e;omega)) (.cells #[.int .u64 d] 35)) R (fun e=>by have:=(z.o.lt _ e).1;omega);have ht:r.Y.take (j+1)=r.Y.take j++[d]:=by rw [List.take_add_one,HD.o];rfl
    have n5:w.heap.size+1<E:=by omega
    refine ⟨j+1,by omega,by go_num,⟨g4,?_,?_⟩,?_,QB m2 (by show w.heap.size≠E;omega) _,B_set (((a0.o.drew.grown O a0.o.size (fun k h=>by injection h with h;omega)).alloc (zz a0.o.size O.size) _).grown R (zz a0.o.size (zz O.size (by simp))) (fun k h=>by have:=(z.o.lt _ h).1;omega)) (by show w.heap.size<=E;omega) _⟩
    ·rw [zB _ _ 7 _ _ _ l9];rfl
    ·rw [ht,show uH (r.Y.take j++[d])=uH (r.Y.take j)++[.int .u64 d] by simp [uH]];exact own_set1 e5 (fun e=>by have:=(e5.lt _ e).1;omega) _ _
    ·refine d5.same fun k h=>?_;exact (zt _ _ _ _ (by show k≠E;omega)).trans ((R.block k (by have:=d5.lt;simp;omega) (fun e=>by have:=(z.o.lt _ e.symm).1;omega)).trans (qb _ _ _ (by have:=d5.lt;omega)))
   case measure=>simp [intOf];omega
  ·obtain rfl:j=r.Y.length:=by omega
   rw [qi] at a4;rw [List.drop_length,List.flatMap_nil] at hR;obtain ⟨A9,c9,rfl⟩:=own_slice a4;obtain ⟨c1,z,c2,c3,a0⟩:=zi5 X a4 hR hX hB;clear X a4 hR hX hB;go_upto_region 9 with fail;refine sV [9] 11 (fun w'=>jJ w' E #[.int .i64 r.kind,.int .i64 r.txn,.int .i64 r.E,.int .i64 r.slot,.string s1,.string Y,.string Z,.slice A9 r.Y.length c9] 144/\w'=wr.drew) ⟨c1.o,rfl⟩ fun D=>?_;refine kV 0 rfl (qR 144 (.tmp 5) rfl rfl E rfl 144 _ (0,0) _ (fun w' m1=>m1.1) underlying144 rfl (by kernel_rfl)) ?_;refine pV 1 ?_;refine oC 2 (JK (w.heap.size+1) [] false wr.drew (c2.o.same fun _ _=>rfl)) ?_;rintro u m8 ⟨rfl,e6⟩;subst e6;refine eV D fun D=>?_;refine pV 3 ?_;refine pV 4 ?_;refine pV 5 ?_;refine oC 6 (zhU (w.heap.size+1) [] false wr.drew (c2.o.same fun _ _=>rfl)) ?_;rintro u m8 ⟨rfl,e6⟩;subst e6;refine eV D fun D=>?_;refine pV 7 ?_;refine pV 8 ?_;refine lV 9 fun K L=>?_;refine wp_store_row 144 (.tmp 2) (.tmp 46) rfl w.heap.size #[.int .i64 r.kind,.int .i64 r.txn,.int .i64 r.E,.int .i64 r.slot,.string s1,.string Y,.string Z,.slice A9 r.Y.length c9] (by rfl) (by rfl) 144 _ c3.o (by kernel_rfl) (by rfl) (by simp [Value.oneCell']) ?_;refine L.out _ _ ?_;clear L K;try simp only [pS]
   refine pV 10 ?_;refine dV ?_;go_wp2_with fail;refine yG 2 3 144 rfl rfl w.heap.size 144 #[.int .i64 r.kind,.int .i64 r.txn,.int .i64 r.E,.int .i64 r.slot,.string s1,.string Y,.string Z,.slice A9 r.Y.length c9] (0,0) _ (.bool true) rfl rfl (setRow_heap _ _ _ _ _ _ c3.o) underlying144 rfl (by kernel_rfl) ?_;refine ⟨.slice A9 r.Y.length c9,?_,?_,below_setRow a0.o.drew (za _) _⟩
   ·rw [HS.o.1,HS.o.2.1,HS.o.2.2];rfl
   ·exact jK (own_same z.o fun x hx=>setRow_other wr.drew _ _ _ (fun e=>by have:=(z.o.lt x hx).1;omega)) (by omega)
def zca:Array Value:=#[.int .i64 0,.int .i64 0,.int .i64 0,.int .i64 0,.string { data:=#[] },.string { data:=#[] },.string { data:=#[] },.slice none 0 0]
theorem own_tag {w:World} {B:Nat} {e:TypeId} {s:Nat} {v:Value} {n:Nat} {xs:List Value} (h:w.ownsRow B e s v n xs) {k:Nat} (u:v.ownBlock=some k):qP w k=e:=by
 rcases h.2 with ⟨e,_⟩ | ⟨z,cap,cur,e,_,D,_⟩
 ·rw [e] at u;cases u
 ·rw [e] at u;obtain rfl:z=k:=by injection u
  exact zh D
theorem zen (v:Value) (w:World) (h:zj w v []) :
  zc 119 #[v] w fun e w'=>e=.returned (.tuple #[.agg zca,.int .i64 0,.bool false])/\zd w w':=by
 have H:=hid h;clear h;go_enter func119,ntmps119;go_upto_region 2 with (go_at_call 51;(with_reducible refine (Jh v [] _ (H.o.alloc _)).mono ?_);rintro u w1 ⟨rfl,z,D⟩);have U:w1.heap[w.heap.size]?=some (.cells #[.int .i64 0,.int .i64 0,.int .i64 0,.int .i64 0,.string { data:=#[] },.string { data:=#[] },.string { data:=#[] },.slice none 0 0] 144 (0,0)):=zg (zo w _ rfl) D (by simp);have O:=B_call (B_alloc (zf w.heap.size w) _) D;rw [World.size_alloc] at z;obtain ⟨a1,a3,E⟩:=zi3 z U O;clear z U O D;go_wp2_with (first|((with_reducible refine aV 52 (ziE (w.heap.size+1) [] false 2 w1 a1.o (.inr (by simp)) (by omega) (by omega)) ?_);rintro u w2 ⟨rfl,a4,Y⟩)|((with_reducible refine aV 99 (zic (w.heap.size+1) [] true 0 w2 a4 (.inl rfl)) ?_);rintro u w3 ⟨rfl,a5,Z⟩)|((with_reducible refine aV 55 (JK (w.heap.size+1) [] true w3 a5) ?_);rintro u w4 ⟨rfl,a6⟩;subst a6;have X:=qq a3.o (Y.trans Z) (fun e=>by injection e with e;omega);have L:=hid X;have R:=E.o.grown (Y.trans Z) E.o.size (fun k hk=>by injection hk with hk;omega);have a0:=hid R;clear X R)|(show wpList _ _ _ (⟨none,.store 144 (.tmp 2) (.tmp 20),_,_,_,_⟩::_) _ _;refine wpList_store_row rfl 144 (.tmp 2) (.tmp 20) rfl w.heap.size zca (by rfl) (by rfl) 144 _ L.o (by kernel_rfl) (by rfl) (by simp [Value.oneCell',zca]) ?_));exact zcg 2 3 4 144 rfl rfl w.heap.size 144 zca (0,0) _ (.int .i64 0) (.bool false) rfl rfl rfl (setRow_heap _ _ _ _ _ _ L.o) underlying144 rfl (by kernel_rfl) ⟨rfl,below_setRow a0.o (za _) _⟩
theorem zgA (v:Value) (r:zQ) (rest:List UInt8) (w:World) (hr:r.ok) (c2:zj w v (qG r++rest)) (hl:rest.length<=800000) :
  zc 119 #[v] w fun e w'=>∃ Z,e=.returned (.tuple #[JZ r Z,.int .i64 (qG r).length,.bool true])/\w'.ownsRow w.heap.size 35 1 Z r.Y.length (uH r.Y)/\zd w w':=by
 obtain ⟨H,HR⟩:=zi2 c2 hr;have e2:=zaM hr;have hlen:(qG r).length=2+(vX r).length:=by rw [qG,zl,zG]
 obtain ⟨h,R⟩:=ex (vX r);rw [<- R] at e2 hlen;have e0:qG r++rest=zR 2 h.length++(h++rest):=by rw [R];simp [qG]
 have e4:h.length<65536:=by omega
 have e5:(h++rest).length<=900000:=by rw [zl];omega
 have e6:h.length+rest.length<=900000:=by omega
 obtain ⟨d8,d6⟩:=zi2 e0 R;rw [hlen];clear c2 hr e0 R hlen;go_enter func119,ntmps119;go_upto_region 2 with (go_at_call 51;(with_reducible refine (Jh v (qG r++rest) _ (H.o.alloc _)).mono ?_);rintro E w1 ⟨rfl,O,a1⟩);have d1:w1.heap[w.heap.size]?=some (.cells #[.int .i64 0,.int .i64 0,.int .i64 0,.int .i64 0,.string { data:=#[] },.string { data:=#[] },.string { data:=#[] },.slice none 0 0] 144 (0,0)):=zg (zo w _ rfl) a1 (by simp);have c3:=B_call (B_alloc (zf w.heap.size w) _) a1;rw [World.size_alloc,d8.o] at O;have e7:=O.lt;obtain ⟨b9,c0,U⟩:=zi3 O d1 c3;clear O d1 c3 a1;go_upto_region 6 with (first|(go_at_call 52;(with_reducible refine (zjm (w.heap.size+1) h.length _ w1 b9.o e4 e5).mono ?_);rintro E w2 ⟨rfl,c8,a4⟩)|((with_reducible refine aV 99 (zjB (w.heap.size+1) h rest w2 c8 e6) ?_);rintro E w3 ⟨v3,rfl,a6,d0,a5⟩)|((with_reducible refine aV 55 (JK (w.heap.size+1) rest false w3 d0) ?_);rintro E w4 ⟨rfl,e3⟩;subst e3));have d2:=qq c0.o (a4.trans a5) (fun e=>by injection e with e;omega);have c4:=U.o.grown (a4.trans a5) U.o.size (fun k D=>by injection D with D;omega);rw [d6.o] at a6;obtain ⟨c1,a7,e1⟩:=zi3 d2 c4 a6;clear d2 c4 a6 d0 c8 a4 a5 b9 c0 U;go_upto_region 7 with (first|((with_reducible refine aV 147 (zpn v3 r w4 HR.o e1.o) ?_);rintro E w5 ⟨Z,rfl,a3,d4⟩;obtain ⟨u,z,rfl⟩:=own_slice a3;obtain ⟨X,a8⟩:=zi2 a3 d4;clear a3 d4)|(show wpList _ _ _ (⟨some 24,_,_,_,_,_⟩::_) _ _;refine jE rfl (JZ r (.slice u r.Y.length z)) w5 (by rfl) ?_)|((with_reducible refine hV 8 ?_);refine nV #[.int .i64 r.kind,.int .i64 r.txn,.int .i64 r.E,.int .i64 r.slot,.string (zb (zM r.aa)),.string (zb (zM r.after)),.string (zb r.ao),.slice u r.Y.length z] (by simp [Value.oneCell']) ?_));go_upto_region 9 with (go_at_call 106;refine (zcc r u z _ HR.o).mono ?_;rintro E w6 ⟨rfl,d5⟩;have L:=hid d5;clear d5);have a0:=zg c1.o a8.o (zi c1.o);have d3:=zg (zw a0 (.cells #[.int .i64 r.kind,.int .i64 r.txn,.int .i64 r.E,.int .i64 r.slot,.string (zb (zM r.aa)),.string (zb (zM r.after)),.string (zb r.ao),.slice u r.Y.length z] 144)) L.o (by have:=zi a0;simp;omega);have c7:=zg (zo w5 (.cells #[.int .i64 r.kind,.int .i64 r.txn,.int .i64 r.E,.int .i64 r.slot,.string (zb (zM r.aa)),.string (zb (zM r.after)),.string (zb r.ao),.slice u r.Y.length z] 144) rfl) L.o (by simp);have c5:=B_call (B_alloc (B_call a7.o a8.o) (.cells #[.int .i64 r.kind,.int .i64 r.txn,.int .i64 r.E,.int .i64 r.slot,.string (zb (zM r.aa)),.string (zb (zM r.after)),.string (zb r.ao),.slice u r.Y.length z] 144)) L.o;have c6:=own_same (own_same X.o fun k D=>qb w5 (.cells #[.int .i64 r.kind,.int .i64 r.txn,.int .i64 r.E,.int .i64 r.slot,.string (zb (zM r.aa)),.string (zb (zM r.after)),.string (zb r.ao),.slice u r.Y.length z] 144) k (X.o.lt k D).2) fun k D=>L.o.block k (by have:=(X.o.lt k D).2;simp;omega);obtain ⟨Y,d9,d7,a9⟩:=zi4 d3 c7 c5 c6;have m1:IntKind.i64.wrap (2+(h.length:Int))=2+(h.length:Int):=by rw [zu];omega
 clear a0 d3 c7 c5 c6;go_wp2_with (first|((with_reducible refine gV 34 ?_);refine rV d9.o ?_)|(show wpList _ _ _ (⟨none,.store 144 (.tmp 2) (.tmp 34),_,_,_,_⟩::_) _ _;refine wpList_store_row rfl 144 (.tmp 2) (.tmp 34) rfl w.heap.size _ (by rfl) (by rfl) 144 _ Y.o (by kernel_rfl) (by rfl) (by simp [Value.oneCell']) ?_));refine zcg 2 3 4 144 rfl rfl w.heap.size 144 _ (0,0) _ (.int .i64 (2+(h.length:Int))) (.bool true) rfl rfl rfl (setRow_heap _ _ _ _ _ _ Y.o) underlying144 rfl (by kernel_rfl) ⟨.slice u r.Y.length z,rfl,?_,below_setRow d7.o (za _) _⟩;refine jK (own_same a9.o fun k D=>setRow_other w6 _ _ _ (fun e=>?_)) a7.o.size;have:=own_tag a9.o D;rw [e,zh Y.o] at this;cases this
section
theorem zlM {ws:List (Nat × List UInt8)} {s:Nat} {d:List UInt8} (h:∀ p,p∈ws->p.2.length=64) (hd:d.length=64):(QV ws s d).length=64:=by
 induction ws generalizing d with
 | nil=>exact hd
 | cons p ws ih =>
  show (QV ws s (if p.1=s then p.2 else d)).length=64;refine ih (fun q u=>h q (jh _ u)) ?_;split
  ·exact h p (ji ..)
  ·exact hd
section
variable {w w':World} {D:Nat} {F:Nat->Prop} {cur:Nat->Nat->List UInt8} {cnt:Nat->Nat}
theorem zK.len (h:zK w D F cur cnt) {r s:Nat} (z:r<4) (hs:s<538):(cur r s).length=64:=by obtain ⟨g,u,E,_⟩:=h;rw [E r s z hs];exact zlM (fun p L=>(u.d0 r z p L).2) (u.len _ (by omega))
theorem zK.mono {u:Nat->Nat} (h:zK w D F cur cnt) (R:∀ r,r<4->cnt r<=u r):zK w D F cur u:=by obtain ⟨g,O,E,L⟩:=h;exact ⟨g,O,E,fun r z=>zz (L r z) (R r z)⟩
theorem zK.congr {cur':Nat->Nat->List UInt8} (h:zK w D F cur cnt) (O:∀ r s,r<4->s<538->cur' r s=cur r s):zK w D F cur' cnt:=by obtain ⟨g,L,z,E⟩:=h;exact ⟨g,L,fun r s u hs=>(O r s u hs).trans (z r s u hs),E⟩
end
def qN (w:World) (F F':Nat->Prop):Prop:=∀ x,F' x->F x∨w.heap.size<=x
theorem qN.refl (w:World) (F:Nat->Prop):qN w F F:=fun _ h=>.inl h
theorem qN.trans {w w1:World} {F u z:Nat->Prop} (h:qN w F u) (k:qN w1 u z) (hs:w.heap.size<=w1.heap.size):qN w F z:=fun x E =>
 (k x E).elim (h x) (fun D=>.inr (zz hs D))
theorem qN.mono {w w1:World} {F u:Nat->Prop} (h:qN w1 F u) (hs:w.heap.size<=w1.heap.size):qN w F u:=fun x z=>(h x z).imp id (zz hs)
theorem zA.next {w w1 z:World} {F u:Nat->Prop} (h:zA F w w1) (k:zA u w1 z) (D:qN w F u):zA F w z:=h.trans k D
def yR (cur:Nat->Nat->List UInt8) (r a b:Nat):Nat->Nat->List UInt8:=zZ cur r fun s=>if a<=s/\s<b then zs 64 else cur r s
theorem zoq (l:List UInt8):zeB l=true↔l=zs l.length:=by unfold zeB;simp
theorem zdC (D:Nat) (F:Nat->Prop) (cur:Nat->Nat->List UInt8) (z:Nat->Nat) (r a b:Nat) (w:World) (h:zK w D F cur z) (hr:r<4) (hb:b<=538) (hc:z r<=90000) :
  zc 110 #[.pointer (some ⟨D,0,none⟩),.int .i64 r,.int .i64 a,.int .i64 b] w fun e w'=>e=.returned (.int .i64 0)/\∃ F',zK w' D F' (yR cur r a b) (zZ z r 0)/\zA F w w'/\qN w F F':=by
 have H:=hid h;have a7:(0:Int)<=(r:Int):=by omega
 have a8:(r:Int)<4:=by omega
 clear h;by_cases d5:a<=b
 ·go_enter func110,ntmps110;go_wp2_with fail;go_loopw [9] (fun c3 wr=>∃ j:Nat,a<=j/\j<=b/\c3=.int .i64 j/\∃ L,zK wr D L (yR cur r a j) (zZ z r (z r+(j-a)))/\zA F w wr/\qN w F L) (fun c3 _=>((b:Int)-intOf c3).toNat)
  case atStart =>
   refine ⟨a,za _,d5,rfl,F,?_,zA.refl _ _,qN.refl _ _⟩;refine (H.o.congr fun u s E hs=>?_).mono fun u E=>?_
   ·unfold yR;by_cases e:u=r
    ·subst e;simp only [zk];rw [if_neg (by omega)]
    ·simp only [zy _ _ e]
   ·by_cases e:u=r
    ·subst e;simp only [zk];omega
    ·simp only [zy _ _ e];exact za _
  case round =>
   obtain ⟨j,d7,d9,rfl,L,hD,hK,hN⟩:=hrel;by_cases e0:j<b
   ·have c1:(0:Int)<=(j:Int):=by omega
    have c2:(j:Int)<538:=by omega
    have d8:(j:Int)<(b:Int):=by omega
    have c0:yR cur r a j r j=cur r j:=by unfold yR;rw [zk,if_neg (by omega)]
    have hlen:=hD.len hr (s:=j) (by omega);rw [c0] at hlen;have a6:(zZ z r (z r+(j-a))) (r:Int).toNat<=100000:=by rw [qp,zk];omega
    obtain ⟨R,U,X,HC,HL⟩:=zi5 hD hK hN c0 hlen;obtain ⟨d6,hz⟩:=ex (zeB (cur r j));have HZ:=hid hz;clear hD hK hN c0 hlen hz;have d0:∀ u s,u<4->s<538->yR cur r a (j+1) u s=if u=r/\s=j then zs 64 else yR cur r a j u s:=fun u s _ _=>by
     unfold yR zZ;by_cases e:u=r
     ·subst e;simp only [if_true,true_and];by_cases Z:s=j
      ·subst Z;rw [if_pos (by omega),if_pos rfl]
      ·rw [if_neg Z];by_cases e3:a<=s/\s<j
       ·rw [if_pos e3,if_pos (by omega)]
       ·rw [if_neg e3,if_neg (by omega)]
     ·rw [if_neg e,if_neg e,if_neg (fun h=>e h.1)]
    have c4:=hid d0;clear d0;have c8:∀ W:World,zj W (.slice none 0 0) []:=fun W=>⟨none,0,rfl,(zL.cz:zL W W.heap.size 1 none 0 []),za _,by unfold maxLen;omega⟩;have d4:=hid c8;clear c8;cases d6
    ·go_wp2_with (first|(go_at_call 117;(with_reducible refine (Ys D L _ _ r j wr R.o a7 a8 c1 c2).mono ?_);rintro Y w1 ⟨v1,rfl,O,a3⟩;simp only [qp] at O;rw [HC.o] at O;have HI:=hid (zj.aj HL.o.symm O);have a0:=hid a3;clear O a3)|(go_at_call 143;(with_reducible refine (zih v1 _ w1 HI.o (by rw [HL.o];omega)).mono ?_);rintro Y w2 ⟨rfl,a5⟩;rw [<- HZ.o];have a1:=hid a5;clear a5)|(go_at_call 97;(with_reducible refine (Ka D L _ _ r j (.slice none 0 0) [] w2 ((R.o.below a0.o).below a1.o) a7 a8 c1 c2 (d4.o _) (by simp) a6).mono ?_);rintro Y w3 ⟨rfl,F3,c5,c6,c7⟩;obtain ⟨d1,d2,d3⟩:=zi3 c5 c6 c7;clear c5 c6 c7));go_roundw
     case rel =>
      have a4:=B_call a0.o a1.o;refine ⟨j+1,by omega,by omega,by go_num,F3,?_,(U.o.call a4).next d2.o (X.o.trans (qN.refl _ _) (zz U.o.size a4.size)),X.o.trans d3.o (zz U.o.size a4.size)⟩;refine (d1.o.congr fun u s E hs=>?_).mono fun u E=>?_
      ·rw [c4.o u s E hs];unfold ve;simp only [qp];by_cases e:u=r
       ·subst e;rw [zk];by_cases Z:s=j
        ·subst Z;rw [zk,if_pos ⟨rfl,rfl⟩];rfl
        ·rw [zy _ _ Z,if_neg (fun h=>Z h.2)]
       ·rw [zy _ _ e,if_neg (fun h=>e h.1)]
      ·unfold KH;simp only [qp];by_cases e:u=r
       ·subst e;simp only [zk];omega
       ·simp only [zy _ _ e];exact za _
     case measure=>simp [intOf];omega
    ·go_wp2_with (first|(go_at_call 117;(with_reducible refine (Ys D L _ _ r j wr R.o a7 a8 c1 c2).mono ?_);rintro Y w1 ⟨v1,rfl,O,a3⟩;simp only [qp] at O;rw [HC.o] at O;have HI:=hid (zj.aj HL.o.symm O);have a0:=hid a3;clear O a3)|(go_at_call 143;(with_reducible refine (zih v1 _ w1 HI.o (by rw [HL.o];omega)).mono ?_);rintro Y w2 ⟨rfl,a5⟩;rw [<- HZ.o];have a1:=hid a5;clear a5));go_roundw
     case rel =>
      have a4:=B_call a0.o a1.o;refine ⟨j+1,by omega,by omega,by go_num,L,?_,U.o.call a4,X.o⟩;refine (((R.o.below a0.o).below a1.o).congr fun u s E hs=>?_).mono fun u E=>?_
      ·rw [c4.o u s E hs];by_cases e:u=r/\s=j
       ·rw [if_pos e,e.1,e.2,HC.o];have h1:=(zoq (cur r j)).1 HZ.o.symm;rw [HL.o] at h1;exact h1.symm
       ·rw [if_neg e]
      ·by_cases e:u=r
       ·subst e;simp only [zk];omega
       ·simp only [zy _ _ e];exact za _
     case measure=>simp [intOf];omega
   ·obtain rfl:j=b:=by omega
    have a6:(zZ z r (z r+(j-a))) (r:Int).toNat<=100000:=by rw [qp,zk];omega
    obtain ⟨R,U,X⟩:=zi3 hD hK hN;clear hD hK hN;go_wp2_with (go_at_call 98;(with_reducible refine (Qf D L _ _ r wr R.o a7 a8 a6).mono ?_);rintro Y w1 ⟨rfl,a9,b9⟩);go_ret;refine ⟨rfl,L,a9.mono fun u E=>?_,U.o.next b9 X.o,X.o⟩;simp only [qp];by_cases e:u=r
    ·subst e;simp only [zk];omega
    ·simp only [zy _ _ e];exact za _
 ·have hd:decide ((a:Int)<(b:Int))=false:=by simp;omega
  have a6:z (r:Int).toNat<=100000:=by simp;omega
  go_enter func110,ntmps110;go_wp2_with fail;refine wp_loop_rounds 1 ?_;rw [rounds_succ];go_wp2_with (go_at_call 98;(with_reducible refine (Qf D F _ _ r w H.o a7 a8 a6).mono ?_);rintro Y w1 ⟨rfl,a9,b9⟩);go_ret;refine ⟨rfl,F,(a9.congr fun u s E hs=>?_).mono fun u E=>?_,b9,qN.refl _ _⟩
  ·unfold yR;by_cases e:u=r
   ·subst e;simp only [zk];rw [if_neg (by omega)]
   ·simp only [zy _ _ e]
  ·simp
end
def JO (w:World) (v:Value) (l:List UInt8):Prop :=
 w.ownsRow 0 5 1 v l.length (zD l)∨∃ ad,v=.slice (some ad) l.length l.length/\zL w w.heap.size 1 (some ad) l.length (zD l)/\l.length<=maxLen/\qP w ad.block=5
theorem JO.slice {w:World} {v:Value} {l:List UInt8} (h:JO w v l):∃ A c,v=.slice A l.length c:=by
 rcases h with h | ⟨ad,rfl,_⟩
 ·exact own_slice h
 ·exact ⟨_,_,rfl⟩
theorem JO.bytes {w:World} {v:Value} {l:List UInt8} (h:JO w v l):zj w v l:=by
 rcases h with h | ⟨ad,rfl,u,hm,z⟩
 ·exact zj.aj rfl h
 ·exact ⟨_,_,rfl,u,za _,hm⟩
theorem JO.same {w w':World} {v:Value} {l:List UInt8} (h:JO w v l) (hb:∀ k,v.ownBlock=some k->w'.heap[k]?=w.heap[k]?) (X:w.heap.size<=w'.heap.size):JO w' v l:=by
 rcases h with h | ⟨ad,rfl,z,hm,L⟩
 ·exact .inl (own_same h hb)
 ·refine .inr ⟨ad,rfl,⟨z.1,fun E=>?_⟩,hm,by rw [jW (hb _ rfl)];exact L⟩;obtain ⟨R,e,U,D⟩:=z.2 E;injection e with e;subst e;exact ⟨ad,rfl,by omega,fun j u O=>(yt (by rw [Qv];exact hb _ rfl)).trans (D j u O)⟩
theorem JO.a3 {w:World} {v:Value} {l:List UInt8} (h:JO w v l) {k:Nat} (u:v.ownBlock=some k):qP w k=5:=by
 rcases h with h | ⟨ad,rfl,L,hm,E⟩
 ·rcases h.2 with ⟨e,_⟩ | ⟨z,cap,cur,e,_,D,_⟩
  ·rw [e] at u;cases u
  ·rw [e] at u;obtain rfl:z=k:=by injection u
   exact zh D
 ·injection u with u;rw [<- u];exact E
theorem zou {w w':World} {row:Option Nat} (h:w.grownBy w' none):w.grownBy w' row:=⟨h.os,h.tape,h.output,h.size,fun k u _=>h.block k u (by simp)⟩
theorem ziS {w:World} (ty:TypeId) (v:Value) (l:List UInt8) (h:JO w v l) (A:Option Addr) (c:Nat) (u:List UInt8) (B:Nat) (hr:zL w B 1 A u.length (zD u)) (hn:0<u.length) (a4:l.length+u.length<=10000000) :
  ∃ v' w',(Builtin.append_ #[29,29] ty #[v,.slice A u.length c]).run prog w=.ok v' w'/\w'.ownsRow 0 5 1 v' (l++u).length (zD (l++u))/\w.grownBy w' v.ownBlock/\(∀ k,v'.ownBlock=some k->v.ownBlock=some k∨w.heap.size<=k):=by
 obtain ⟨Y,O,R,U,X⟩:=info_parts QU;rcases h with h | ⟨ad,rfl,a1,hm,ht⟩
 ·obtain ⟨v',w',E,D,L,h4⟩:=zan (P:=prog) w 0 29 ty 5 Y _ 1 1 underlying29 O R U X rfl (by omega) v l.length (zD l) h B A u.length c (zD u) hr (yp _) (by unfold maxLen;omega) (by omega) (zT _);refine ⟨v',w',E,by rw [zl,yV];exact D,L,fun k z=>?_⟩;rcases h4 with e | e
  ·exact .inl (e.symm.trans z)
  ·rw [e] at z;injection z with z;exact .inr (by omega)
 ·obtain ⟨Z,rfl,_,a0⟩:=hr.2 hn;rcases Nat.eq_zero_or_pos l.length with h0 | h0
  ·obtain rfl:l=[]:=yd h0;obtain ⟨v',w',E,D,L⟩:=run_append_arg_grows (P:=prog) w 29 ty 5 Y _ 1 1 underlying29 O R U X rfl (by omega) ad 0 0 [] (by simp) (by simp) Z u.length c (zD u) (by simp [jf]) a0 (by omega) (by unfold maxLen;omega) (by omega);refine ⟨v',w',E,?_,zou L,?_⟩
   ·have:=jK D (zT _);simpa using this
   ·exact fun k z=>.inr (D.lt k z).1
  ·obtain ⟨a3,e,_,hc⟩:=a1.2 h0;injection e with e;subst e;obtain ⟨v',w',E,D,L⟩:=run_append_arg_grows (P:=prog) w 29 ty 5 Y _ 1 1 underlying29 O R U X rfl (by omega) ad l.length l.length (zD l) (by simp [jf]) hc Z u.length c (zD u) (by simp [jf]) a0 (by omega) (by unfold maxLen;omega) (by omega);refine ⟨v',w',E,?_,zou L,?_⟩
   ·rw [zl,yV];exact jK D (zT _)
   ·exact fun k z=>.inr (D.lt k z).1
structure jP (w:World) (L D r gen bank:Nat) (bytes:List UInt8) (sure:Nat) (FL:Nat->Prop):Prop where
 ex:∃ v,w.heap[L]?=some (.cells #[.pointer (some ⟨D,0,none⟩),.int .i64 r,.int .u64 gen,.int .i64 bank,v,.int .i64 sure] 194 (0,0))/\JO w v bytes/\∀ k,v.ownBlock=some k->FL k
 fL:FL L
 lt:∀ k,FL k->k<w.heap.size
 a3:∀ k,FL k->qP w k∈[194,5]
theorem jP.same {w w':World} {L D r E bank:Nat} {z:List UInt8} {U:Nat} {FL:Nat->Prop} (h:jP w L D r E bank z U FL) (hs:∀ k,FL k->w'.heap[k]?=w.heap[k]?) (R:w.heap.size<=w'.heap.size):jP w' L D r E bank z U FL:=by obtain ⟨v,X,Y,O⟩:=h.ex;exact ⟨⟨v,(hs L h.fL).trans X,Y.same (fun k u=>hs k (O k u)) R,O⟩,h.fL,fun k u=>qg (h.lt k u) R,fun k u=>by rw [jW (hs k u)];exact h.a3 k u⟩
theorem jP.below {w w':World} {L D r z bank:Nat} {u:List UInt8} {E:Nat} {FL:Nat->Prop} (h:jP w L D r z bank u E FL) (hb:zd w w'):jP w' L D r z bank u E FL:=h.same (fun k O=>hb.block k (h.lt k O)) hb.size
theorem jP.ac {w w':World} {L D r z bank:Nat} {u:List UInt8} {O:Nat} {FL M:Nat->Prop} (h:jP w L D r z bank u O FL) (hb:zA M w w') (hm:∀ k,FL k->¬ M k):jP w' L D r z bank u O FL:=h.same (fun k E=>hb.block k (h.lt k E) (hm k E)) hb.size
theorem zhP (L D r O bank:Nat) (u:List UInt8) (U:Nat) (FL:Nat->Prop) (w:World) (h:jP w L D r O bank u U FL) (X:u.length<=14336) :
  zc 104 #[.pointer (some ⟨L,0,none⟩)] w fun e w'=>e=.returned (.int .i64 (14336-u.length))/\w'=w:=by
 obtain ⟨v,z,E,R⟩:=h.ex;obtain ⟨A,c,rfl⟩:=E.slice;have Y:=xV (Value.slice A u.length c) 4 z;clear h z E R;go_enter func104,ntmps104;go_wp2;go_ret;exact ⟨rfl,rfl⟩
def jj (h n:Nat):Nat:=h*1048576+n+1
theorem zme (L D r u bank:Nat) (E:List UInt8) (U:Nat) (FL:Nat->Prop) (w:World) (n:Nat) (h:jP w L D r u bank E U FL) (X:u<4294967296) (Y:n<=100000) :
  zc 108 #[.pointer (some ⟨L,0,none⟩),.int .i64 n] w fun e w'=>e=.returned (.int .u64 (jj u n))/\w'=w:=by
 obtain ⟨v,z,O,R⟩:=h.ex;have Z:=xV (Value.int .u64 u) 2 z;have m1:IntKind.u64.wrap (n:Int)=n:=vG _ (by omega);have m2:IntKind.u64.wrap ((u:Int)*1048576)=(u:Int)*1048576:=by rw [IntKind.wrap_u64];omega
 have m3:IntKind.u64.wrap ((u:Int)*1048576+n)=(u:Int)*1048576+n:=by rw [IntKind.wrap_u64];omega
 have m4:IntKind.u64.wrap ((u:Int)*1048576+n+1)=(u:Int)*1048576+n+1:=by rw [IntKind.wrap_u64];omega
 clear h z O R;go_enter func108,ntmps108;go_wp2;go_ret;refine ⟨?_,rfl⟩;unfold jj;congr 2
theorem uI.slice {w:World} {v:Value} {l:List Nat} (h:uI w v l):∃ A c,v=.slice A l.length c:=by obtain ⟨A,c,e,_⟩:=h;exact ⟨A,c,e⟩
theorem zhp {w w':World} {L D r E bank X:Nat} {a5 z:List UInt8} {FL:Nat->Prop} {v v':Value} (h:jP w L D r E bank a5 X FL)
  (hv:w.heap[L]?=some (.cells #[.pointer (some ⟨D,0,none⟩),.int .i64 r,.int .u64 E,.int .i64 bank,v,.int .i64 X] 194 (0,0))) (a3:∀ k,v.ownBlock=some k->FL k) (a4:v.ownBlock≠some L)
  (R:w.grownBy w' v.ownBlock) (U:w'.ownsRow 0 5 1 v' z.length (zD z)) (a0:∀ k,v'.ownBlock=some k->v.ownBlock=some k∨w.heap.size<=k) :
  ∃ Y,jP (w'.setCell ⟨L,4,none⟩ v') L D r E bank z X Y/\zA FL w (w'.setCell ⟨L,4,none⟩ v')/\qN w FL Y:=by
 have O:=qq hv R a4;have a1:v'.ownBlock≠some L:=fun e=>by
  rcases a0 L e with Z | Z
  ·exact a4 Z
  ·have:=zi hv;omega
 have a6:=R.size;refine ⟨fun k=>k=L∨v'.ownBlock=some k,⟨⟨v',?_,.inl (own_set1 U a1 _ _),fun k u=>.inr u⟩,.inl rfl,?_,?_⟩,?_,?_⟩
 ·rw [zB _ _ 4 _ _ _ O];rfl
 ·rintro k (rfl | u)
  ·have:=zi O;simpa using this
  ·have:=(U.lt k u).2;simpa using this
 ·rintro k (rfl | u)
  ·rw [zh (zB _ _ 4 _ _ _ O)];simp
  ·rw [jW (zt _ _ _ _ (fun e=>a1 (by rw [u];exact congrArg some e))),own_tag U u];simp
 ·exact ((zA.refl FL w).grown R fun k u=>.inl (a3 k u)).set (p:=⟨L,4,none⟩) (.inl h.fL) _
 ·rintro k (rfl | u)
  ·exact .inl h.fL
  ·exact (a0 k u).imp (a3 k) id
theorem zcT (L D r u bank:Nat) (h:List UInt8) (a1:Nat) (FL:Nat->Prop) (x:zQ) (dv:Value) (w:World) (b9:jP w L D r u bank h a1 FL) (hx:x.ok) (a4:uI w dv x.Y)
  (hg:u<4294967296) (hfit:h.length+(qG x).length<=14336) :
  zc 64 #[.pointer (some ⟨L,0,none⟩),JZ x dv] w fun e w'=>e=.returned (.tuple #[.int .u64 (jj u h.length),.int .i64 0])/\∃ U,jP w' L D r u bank (h++qG x) a1 U/\zA FL w w'/\qN w FL U:=by
 obtain ⟨O,R,rfl⟩:=a4.slice;have c6:0<(qG x).length:=by rw [qG,zl,zG];omega
 obtain ⟨H,HX⟩:=zi2 b9 hx;have c4:=a4.below (B_alloc (zf w.heap.size w) (.cells #[.int .i64 x.kind,.int .i64 x.txn,.int .i64 x.E,.int .i64 x.slot,.string (zb (zM x.aa)),.string (zb (zM x.after)),.string (zb x.ao),.slice O x.Y.length R] 144));have d1:=hid c4;have d4:decide ((14336:Int)-(h.length:Int)<((qG x).length:Int))=false:=by simp;omega
 obtain ⟨n,hn⟩:=ex ((qG x).length);have E:=hid hn;rw [<- hn] at d4 c6 hfit;have hE:=zo w (.cells #[.int .i64 x.kind,.int .i64 x.txn,.int .i64 x.E,.int .i64 x.slot,.string (zb (zM x.aa)),.string (zb (zM x.after)),.string (zb x.ao),.slice O x.Y.length R] 144) rfl;have HE:=hid hE;clear b9 hx a4 c4 hn hE;unfold JZ;go_enter func64,ntmps64;go_upto_region 3 with (first|((with_reducible refine gV 8 ?_);refine rV HE.o ?_)|(go_at_call 106;refine (zcc x O R _ HX.o).mono ?_;rintro e1 w1 ⟨rfl,c2⟩;have a3:=hid c2;clear c2));have c0:=zg HE.o a3.o (by simp);have d2:=hid c0;clear c0;go_upto_region 4 with (first|((with_reducible refine gV 11 ?_);refine rV d2.o ?_)|(go_at_call 107;refine (zeo x (.slice O x.Y.length R) w1 HX.o (d1.o.below a3.o)).mono ?_;rintro e1 w2 ⟨v2,rfl,a5,c3⟩;have d0:=hid c3;clear c3));have hbel:=B_call (B_call (B_alloc (zf w.heap.size w) (.cells #[.int .i64 x.kind,.int .i64 x.txn,.int .i64 x.E,.int .i64 x.slot,.string (zb (zM x.aa)),.string (zb (zM x.after)),.string (zb x.ao),.slice O x.Y.length R] 144)) a3.o) d0.o;have X:=H.o.below hbel;obtain ⟨A2,d3,rfl⟩:=own_slice a5;have a7:=zL.aj a5;rw [<- E.o] at a7 ⊢;obtain ⟨v,z,Z,c8⟩:=X.ex;have a0:v.ownBlock≠some L:=fun e=>by have:=Z.a3 e;rw [zh z] at this;cases this
 obtain ⟨A,c,rfl⟩:=Z.slice;have k4:=xV (Value.slice A h.length c) 4 z;have d9:=zI w2 L 4 _ _ z;obtain ⟨v3,w3,c7,a6,Y,c1⟩:=ziS (w:=w2) 29 _ h Z A2 d3 (qG x) w2.heap.size (by rw [<- E.o];exact a7) (by rw [<- E.o];exact c6) (by rw [<- E.o];omega);obtain ⟨A3,d7,rfl⟩:=own_slice a6;have d5:h.length<=14336:=by omega
 have d6:h.length<=100000:=by omega
 rw [<- E.o] at c7;have d8:=Qw k4 Y (fun e=>a0 (by simpa [Value.ownBlock] using e));have e0:=zI w3 L 4 _ _ (qq z Y a0);have c5:=zhp X z c8 a0 Y a6 c1;obtain ⟨HF,a9,a8⟩:=zi3 c5 X hbel;clear c5 z Z c8 a0 a6 Y c1 a7 a5 X hbel;go_wp2_with (first|((with_reducible refine aV 104 (zhP L D r u bank h a1 FL w2 a9.o d5) ?_);rintro e1 w4 ⟨rfl,rfl⟩)|((with_reducible refine aV 108 (zme L D r u bank h a1 FL w4 h.length a9.o hg d6) ?_);rintro e1 w5 ⟨rfl,rfl⟩)|(at_builtin;refine wpList_append_run _ rfl _ _ _ _ rfl _ _ rfl rfl _ _ c7 ?_));go_ret2;obtain ⟨U,h1,h2,h3⟩:=HF.o;rw [zl] at h1 h2;refine ⟨rfl,U,h1,(zA.ak a8.o).trans h2 (fun x hx=>.inl hx),h3.mono a8.o.size⟩
theorem zaa:prog.elem 29=5:=by kernel_rfl
theorem Gy (w:World):(sizeOf 5).run prog w=.ok 1 w:=by obtain ⟨E,h,z,u,D⟩:=info_parts QU;simp [sizeOf,typeInfo,h,u]
theorem zri (w:World) (ad:Addr) (n c h u:Nat) (E:h<=u) (L:u<=c) (D:h<c) :
  (Instr.sliceAt 29 (.slice (some ad) n c) (some (.int .i64 h)) (some (.int .i64 u)) none).run prog w=.ok (.slice (some (ad.add h)) (u-h) (c-h)) w:=by
 have z:prog.underlying 29=some (.slice (prog.elem 29)):=by rw [zaa];exact underlying29
 rw [run_sliceAt_slice w 29 _ _ _ _ z,run_slice_lh w 29 _ _ _ z .i64 .i64 h u (by omega) (by omega) (by omega),zaa,Gy];simp only [vi,sliced,qp,Nat.mul_one,if_neg (Nat.ne_of_gt D),qk]
theorem zj.cn {w:World} {A:Option Addr} {n c:Nat} {l:List UInt8} (h:zj w (.slice A n c) l) (z:n=l.length):zL w w.heap.size 1 A n (zD l):=by obtain ⟨E,L,e,D,_⟩:=h;injection e with u O R;subst u;rw [z];exact D
def zdz (u:Nat) (h:List UInt8):List UInt8:=jN (zR 4 u++zR 1 h.length++[0,0,0]++h)
def qO (b:List UInt8) (s:Nat):List UInt8:=(b.drop (s*56)).take 56
def uP (cur:Nat->Nat->List UInt8) (r bank h:Nat) (b:List UInt8) (z u:Nat):Nat->Nat->List UInt8 :=
 zZ cur r fun q=>if 2+bank*256+z<=q/\q<2+bank*256+u then zdz h (qO b (q-(2+bank*256))) else cur r q
theorem zbL (cur:Nat->Nat->List UInt8) (r bank D:Nat) (b:List UInt8) (z u:Nat) (h:u<=z):uP cur r bank D b z u=cur:=by
 funext r' q;unfold uP;by_cases e:r'=r
 ·subst e;simp only [zk];rw [if_neg (by omega)]
 ·simp only [zy _ _ e]
theorem zjW (cur:Nat->Nat->List UInt8) (r bank D:Nat) (b:List UInt8) (z u:Nat) (h:z<=u) :
  ve (uP cur r bank D b z u) r (2+bank*256+u) (zdz D (qO b u))=uP cur r bank D b z (u+1):=by
 funext r' q;unfold ve uP;by_cases e:r'=r
 ·subst e;simp only [zk];by_cases E:q=2+bank*256+u
  ·subst E;rw [zk,if_pos (by omega)];congr 2;omega
  ·rw [zy _ _ E];by_cases L:2+bank*256+z<=q/\q<2+bank*256+u
   ·rw [if_pos L,if_pos (by omega)]
   ·rw [if_neg L,if_neg (by omega)]
 ·simp only [zy _ _ e]
theorem zjj (D:Nat) (F:Nat->Prop) (cur:Nat->Nat->List UInt8) (O:Nat->Nat) (L r bank h:Nat) (x2 x3 x4 x5 v:Value) (b:List UInt8) (u:Nat) (w:World) (a1:zK w D F cur O)
  (hL:w.heap[L]?=some (.cells #[.pointer (some ⟨D,0,none⟩),.int .i64 r,x2,x3,x4,x5] 194 (0,0))) (hv:zj w v b) (h1:∀ k,v.ownBlock=some k->¬ F k) (hr:r<4) (j7:bank<=1) (j8:h<4294967296)
  (hb:b.length<=14336) (hf:u<=b.length) (hc:O r<=80000) :
  zc 109 #[.pointer (some ⟨L,0,none⟩),.int .i64 bank,.int .u64 h,v,.int .i64 u] w fun e w'=>e=.returned (.int .i64 0)/\∃ F',zK w' D F' (uP cur r bank h b (u / 56) ((b.length+55) / 56)) (zZ O r 0)/\zA F w w'/\qN w F F':=by
 obtain ⟨A,c,rfl,g4,i7,i8⟩:=hv;have e0:¬ F L:=fun e=>by obtain ⟨g,hR,_⟩:=a1;have:=hR.a3 L e;rw [zh hL] at this;simp at this
 obtain ⟨H,HL,a8,i1,a0⟩:=zi5 a1 hL g4 h1 e0;have k3:(0:Int)<=(u:Int):=by omega
 have g0:(0:Int)<=(r:Int):=by omega
 have g3:(r:Int)<4:=by omega
 have j2:(0:Int)<=(bank:Int):=by omega
 have j3:(bank:Int)<=1:=by omega
 clear a1 hL g4 h1 e0;go_enter func109,ntmps109;go_wp2_with fail;go_loopw [11] (fun a6 wr=>∃ j:Nat,u / 56<=j/\(j<=u / 56∨j<=(b.length+55) / 56)/\a6=.int .i64 j/\∃ X,zK wr D X (uP cur r bank h b (u / 56) j) (zZ O r (O r+(j-u / 56)))/\zA F w wr/\qN w F X) (fun a6 _=>(b.length-(intOf a6).toNat*56))
 case atStart =>
  refine ⟨u / 56,za _,.inl (za _),by go_num,F,?_,zA.refl _ _,qN.refl _ _⟩;rw [zbL _ _ _ _ _ _ _ (za _)];refine H.o.mono fun r' f9=>?_;by_cases e:r'=r
  ·subst e;simp only [zk];omega
  ·simp only [zy _ _ e];exact za _
 case round =>
  obtain ⟨j,i9,f4,rfl,X,hD,z,hN⟩:=hrel;by_cases j9:j*56<b.length
  ·obtain ⟨m,hm⟩:=ex (min 56 (b.length-j*56));have f8:(qO b j).length=m:=by rw [hm];simp [qO]
   have k0:m<=56:=by omega
   have k2:0<m:=by omega
   have k1:j*56+m<=b.length:=by omega
   have j0:(0:Int)<=(j:Int):=by omega
   have j1:(j:Int)<=256:=by omega
   obtain ⟨ad,rfl,_⟩:=a8.o.ev (by rw [jf];omega);have g9:=zri wr ad b.length c (j*56) (j*56+m) (by omega) (by omega) (by omega);rw [show j*56+m-j*56=m by omega] at g9;have f1:∀ W,(∀ p:Addr,p.block=ad.block->W.cell? p=w.cell? p)->w.heap.size<=W.heap.size->zj W (.slice (some (ad.add (j*56))) m (c-j*56)) (qO b j):=fun W hW hz=>by
    have h0:zj W (.slice (some ad) b.length c) b:=by refine ⟨_,_,rfl,⟨a8.o.1,fun hn=>?_⟩,i7,i8⟩;obtain ⟨i2,e,f6,e6⟩:=a8.o.2 hn;injection e with e;subst e;exact ⟨ad,rfl,by omega,fun i a6 hu=>(hW _ (Qv _ _)).trans (e6 i a6 hu)⟩
    have R:=h0.sub (j*56) m (by omega) (by omega);have e:(b.drop (j*56)).take m=qO b j:=by
     unfold qO;rw [hm];rcases Nat.le_total 56 (b.length-j*56) with h2 | h2
     ·rw [Nat.min_eq_left h2]
     ·rw [Nat.min_eq_right h2,jG (by simp),jG (by simp;omega)]
    rw [e] at R;exact R
   have i3:¬ F ad.block:=i1.o _ rfl;have i4:ad.block<w.heap.size:=by obtain ⟨i2,e,f6,e6⟩:=a8.o.2 (by omega);injection e with e;subst e;exact f6
   have e7:∀ p:Addr,p.block=ad.block->wr.cell? p=w.cell? p:=fun p hp=>yt (by rw [hp];exact z.block _ i4 i3);have f2:=f1 wr e7 z.size;have j6:(if (b.length:Int)<((j:Int)+1)*56 then (b.length:Int) else ((j:Int)+1)*56)=((j*56+m:Nat):Int):=by
    by_cases e:(b.length:Int)<((j:Int)+1)*56
    ·rw [if_pos e];omega
    ·rw [if_neg e];omega
   have c7:(zZ O r (O r+(j-u / 56))) (r:Int).toNat<=100000:=by rw [qp,zk];omega
   obtain ⟨d7,HD,Z,HN,a7,HM⟩:=zi6 f2 hD z hN f8 hm;have f0:zj wr (.slice none 0 0) []:=⟨none,0,rfl,(zL.cz:zL wr wr.heap.size 1 none 0 []),za _,by unfold maxLen;omega⟩;have h5:=hid f0;have mw:IntKind.u64.wrap (m:Int)=m:=vG _ (by omega);clear f2 hD z hN f8 hm f1 e7 f0;have j5:j*56+m-j*56=m:=by omega
   go_upto_region 5 with fail;clear j5 g9 j6;go_upto_region 6 with (first|((with_reducible refine aV 59 (ur (.slice none 0 0) [] 4 h wr h5.o (by omega) (by omega) (by simp)) ?_);rintro e1 w1 ⟨v1,rfl,c8,e3⟩;simp only [show (4:Int).toNat=4 from rfl,List.nil_append,jr,qy] at c8;have d2:=hid e3;have d5:=hid (zj.aj (by rw [zG]) c8);clear e3 c8)|((with_reducible refine aV 59 (ur v1 (zR 4 h) 1 m w1 d5.o (by omega) (by omega) (by rw [zG];omega)) ?_);rintro e1 w2 ⟨v2,rfl,a5,e4⟩;simp only [show (1:Int).toNat=1 from rfl,zG] at a5;have d3:=hid e4;clear e4));have h3:=zo w2 (.cells #[.int .u8 0,.int .u8 0,.int .u8 0] 5) rfl;have g2:zL (w2.alloc (.cells #[.int .u8 0,.int .u8 0,.int .u8 0] 5)) (w2.alloc (.cells #[.int .u8 0,.int .u8 0,.int .u8 0] 5)).heap.size 1 (some ⟨w2.heap.size,0,none⟩) 3 (zD [0,0,0]):=zL.bk h3 rfl;have f7:=own_same a5 fun k hk=>qb w2 (.cells #[.int .u8 0,.int .u8 0,.int .u8 0] 5) k (a5.lt k hk).2;obtain ⟨d9,c1,h9⟩:=zi3 g2 f7 a5;clear h3 g2 f7 a5;go_upto_region 7 with (first|(show wpList _ _ _ (⟨some 42,_,_,_,_,_⟩::_) _ _;refine jX rfl (.tmp 40) (.tmp 41) 29 5 1 1 rfl underlying29 QS (by omega) v2 5 (zD (zR 4 h++zR 1 m)) w1.heap.size (by rfl) c1.o (some ⟨w2.heap.size,0,none⟩) 3 3 (zD [0,0,0]) _ (by rfl) d9.o (yp _) (by omega) (by omega) (zz d3.o.size (by simp)) ?_;intro v4 w4 d0 e8 i5;rw [<- yV] at d0;have c6:=vn (B_alloc d3.o _) c1.o e8;have g5:=(((d7.o.below d2.o).below c6));obtain ⟨d4,d6,c2⟩:=zi3 c6 g5 d0;clear c6 g5 d0 e8 i5)|(show wpList _ _ _ (⟨some 44,_,_,_,_,_⟩::_) _ _;refine jX rfl (.tmp 42) (.tmp 43) 29 5 1 1 rfl underlying29 QS (by omega) v4 8 (zD (zR 4 h++zR 1 m++[0,0,0])) w1.heap.size (by rfl) c2.o (some (ad.add (j*56))) m (c-j*56) (zD (qO b j)) w4.heap.size (by rfl) (d6.o.cn a7.o.symm) (yp _) (by omega) (by omega) d4.o.size ?_;intro v5 Y d1 e9 i6;rw [<- yV] at d1;have e5:=vn d4.o c2.o e9;obtain ⟨h4,d8⟩:=zi2 e5 d1;clear e5 d1 e9 i6));have c5:=B_call d2.o h4.o;have c3:=zg (qK HL.o Z.o a0.o) c5 (zi (qK HL.o Z.o a0.o));have hS:Y.drew.cell? ⟨L,0,none⟩=some (.pointer (some ⟨D,0,none⟩))/\Y.drew.cell? ⟨L,1,none⟩=some (.int .i64 r):=⟨ze Y L 0 _ _ _ c3,ze Y L 1 _ _ _ c3⟩;have g8:zR 4 h++zR 1 m++[0,0,0]++qO b j=zR 4 h++zR 1 (qO b j).length++[0,0,0]++qO b j:=by rw [a7.o]
   have f3:zj Y.drew v5 (zR 4 h++zR 1 m++[0,0,0]++qO b j):=(zj.aj (by simp only [zl,zG,a7.o,qc,jr]) d8.o).drew;have j4:(zR 4 h++zR 1 m++[0,0,0]++qO b j).length<=64:=by simp only [zl,zG,a7.o,qc,jr];omega
   have mj:IntKind.i64.wrap (2+(bank:Int)*256+(j:Int))=((2+bank*256+j:Nat):Int):=by rw [zu];omega
   have g6:(0:Int)<=((2+bank*256+j:Nat):Int):=by omega
   have g7:((2+bank*256+j:Nat):Int)<538:=by omega
   have a4:¬ X L:=fun e=>(HN.o L e).elim a0.o (fun a1=>by have:=zi HL.o;omega);obtain ⟨h6,a9,i0⟩:=zi3 f3 c5 g8;clear f3 c5 g8 c3 d7 d5 h9 c1 d9 d6 c2 d8;refine sV [] 15 (fun w'=>zH w' L 0 (.pointer (some ⟨D,0,none⟩))/\zH w' L 1 (.int .i64 r)) hS fun E=>?_;refine pV 0 ?_;refine pV 1 ?_;refine pV 2 ?_;refine tV 3 ?_;refine pV 4 ?_;refine pV 5 ?_;refine pV 6 ?_;refine tV 7 ?_;refine pV 8 ?_;refine pV 10 ?_;refine pV 12 ?_;refine oC 9 (JH bank Y.drew j2 j3) ?_;rintro e1 w6 ⟨rfl,rfl⟩;refine eV E fun E=>?_;refine pV 11 ?_;refine oV 13 fun K z=>?_;refine vI 97 _ _ [.pointer (some ⟨D,0,none⟩),.int .i64 r,.int .i64 ((2+bank*256+j:Nat):Int),v5] rfl (by kernel_rfl) (by rfl) ((Ka D X _ _ r ((2+bank*256+j:Nat):Int) v5 _ Y.drew ((HD.o.below a9.o).drew) g0 g3 g6 g7 h6.o j4 c7).mono ?_);rintro e1 w7 ⟨rfl,F7,a3,U,e2⟩;refine ⟨_,rfl,?_⟩;refine z.out _ _ ⟨Qh E.1 U a4,Qh E.2 U a4⟩ (fun E=>?_);clear z K;try simp only [pS]
   refine pV 14 ?_;refine dV ?_;obtain ⟨b9,c0,h8⟩:=zi3 a3 U e2;clear a3 U e2 hS E mj g6 g7;go_wp2_with fail;go_roundw
   case rel =>
    refine ⟨j+1,by omega,.inr (by omega),by go_num,F7,?_,(Z.o.call a9.o.drew).next c0.o HN.o,HN.o.trans h8.o (zz Z.o.size a9.o.size)⟩;rw [<- zjW _ _ _ _ _ _ _ i9];have R:=b9.o;simp only [qp] at R;rw [i0.o] at R;refine R.mono fun r' f9=>?_;unfold KH;by_cases e:r'=r
    ·subst e;simp only [zk];omega
    ·simp only [zy _ _ e];exact za _
   case measure=>simp [intOf];omega
  ·have f5:uP cur r bank h b (u / 56) j=uP cur r bank h b (u / 56) ((b.length+55) / 56):=by
    rcases f4 with R | R
    ·rw [zbL _ _ _ _ _ _ _ R,zbL _ _ _ _ _ _ _ (by omega)]
    ·rw [show j=(b.length+55) / 56 by omega]
   have hd:decide ((j:Int)*56<(b.length:Int))=false:=by simp;omega
   have j1:(j:Int)<=257:=by omega
   have j0:(0:Int)<=(j:Int):=by omega
   have c7:(zZ O r (O r+(j-u / 56))) (r:Int).toNat<=100000:=by rw [qp,zk];omega
   have c4:=qK HL.o z a0.o;have hS:wr.drew.cell? ⟨L,0,none⟩=some (.pointer (some ⟨D,0,none⟩))/\wr.drew.cell? ⟨L,1,none⟩=some (.int .i64 r):=⟨ze wr L 0 _ _ _ c4,ze wr L 1 _ _ _ c4⟩;have a4:¬ X L:=fun e=>(hN L e).elim a0.o (fun a1=>by have:=zi HL.o;omega);obtain ⟨HD,Z,HN,h7⟩:=zi4 hD z hN f5;clear hD z hN f5 c4 f4;go_upto_region 10 with fail;refine sV [] 10 (fun w'=>zH w' L 0 (.pointer (some ⟨D,0,none⟩))/\zH w' L 1 (.int .i64 r)) hS fun E=>?_;refine pV 0 ?_;refine pV 1 ?_;refine pV 2 ?_;refine tV 3 ?_;refine pV 4 ?_;refine pV 5 ?_;refine pV 6 ?_;refine tV 7 ?_;refine oV 8 fun K z=>?_;refine vI 98 _ _ [.pointer (some ⟨D,0,none⟩),.int .i64 r] rfl (by kernel_rfl) (by rfl) ((Qf D X _ _ r wr.drew HD.o.drew g0 g3 c7).mono ?_);rintro e1 w7 ⟨rfl,a3,U⟩;refine ⟨_,rfl,?_⟩;refine z.out _ _ ⟨Qh E.1 U a4,Qh E.2 U a4⟩ (fun E=>?_);clear z K;try simp only [pS]
   refine pV 9 ?_;refine dV ?_;obtain ⟨b9,c0⟩:=zi2 a3 U;clear a3 U E hS;go_wp2_with fail;go_ret;refine ⟨rfl,X,?_,Z.o.drew.next c0.o HN.o,HN.o⟩;rw [<- h7.o];refine b9.o.mono fun r' f9=>?_;simp only [qp];by_cases e:r'=r
   ·subst e;simp only [zk];omega
   ·simp only [zy _ _ e];exact za _
abbrev jk (w:World) (D:Nat) (F:Nat->Prop) (cur:Nat->Nat->List UInt8):Prop:=zK w D F cur fun _=>0
theorem jk.of {w:World} {D r:Nat} {F:Nat->Prop} {cur:Nat->Nat->List UInt8} (h:zK w D F cur (zZ (fun _=>0) r 0)):jk w D F cur :=
 zK.mono h fun u _=>by
  by_cases e:u=r
  ·subst e;simp only [zk];exact za _
  ·simp only [zy _ _ e];exact za _
theorem zK.ah {w:World} {D:Nat} {F:Nat->Prop} {cur:Nat->Nat->List UInt8} {u:Nat->Nat} (h:zK w D F cur u) {k:Nat} (E:F k):qP w k∈[81,118,86,120]:=by obtain ⟨g,z,_⟩:=h;exact z.a3 k E
def yW (c:Nat->List UInt8) (u bank:Nat) (h:List UInt8):Prop :=
 c 1=jN (zR 4 u++zR 1 bank)/\∀ s,s<256->c (2+bank*256+s)=if s*56<h.length then zdz u (qO h s) else zs 64
def JD (cur cur':Nat->Nat->List UInt8) (r:Nat):Prop:=∀ h q,h≠r∨q=0∨514<=q->cur' h q=cur h q
theorem JD.refl (cur:Nat->Nat->List UInt8) (r:Nat):JD cur cur r:=fun _ _ _=>rfl
theorem QC {w:World} {L D u r O bank:Nat} {z:List UInt8} {X:Nat} {FL F:Nat->Prop} {cur:Nat->Nat->List UInt8} {E:Nat->Nat} (h:jP w L D r O bank z X FL) (hd:zK w u F cur E):∀ k,FL k->¬ F k:=fun k R U=>by have a:=h.a3 k R;have b:=hd.ah U;generalize qP w k=t at a b;simp at a b;omega
theorem znw {cur:Nat->Nat->List UInt8} {r bank z u:Nat} {b:List UInt8} (h:yW (cur r) z bank (b.take u)) (hs:u<=b.length) (hb:b.length<=14336) (O:bank<=1) :
  yW (uP cur r bank z b (u / 56) ((b.length+55) / 56) r) z bank b/\JD cur (uP cur r bank z b (u / 56) ((b.length+55) / 56)) r:=by
 refine ⟨⟨?_,fun s E=>?_⟩,fun L q h0=>?_⟩
 ·unfold uP;simp only [zk];rw [if_neg (by omega)];exact h.1
 ·unfold uP;simp only [zk];by_cases e:2+bank*256+u / 56<=2+bank*256+s/\2+bank*256+s<2+bank*256+(b.length+55) / 56
  ·rw [if_pos e,if_pos (by omega),show 2+bank*256+s-(2+bank*256)=s by omega]
  ·rw [if_neg e,h.2 s E,qf,Nat.min_eq_left hs];by_cases D:s*56<u
   ·rw [if_pos D,if_pos (by omega)];have:qO (b.take u) s=qO b s:=by unfold qO;rw [List.drop_take,List.take_take,Nat.min_eq_left (by omega)]
    rw [this]
   ·rw [if_neg D,if_neg (by omega)]
 ·unfold uP;by_cases e:L=r
  ·subst e;simp only [zk];rw [if_neg (by omega)]
  ·simp only [zy _ _ e]
def zcJ (F G:Nat->Prop):Nat->Prop:=fun k=>F k∨G k
theorem jP.dm {w:World} {L D r z bank:Nat} {E:List UInt8} {Z:Nat} {FL:Nat->Prop} (h:jP w L D r z bank E Z FL) (n:Nat):jP (w.setCell ⟨L,5,none⟩ (.int .i64 n)) L D r z bank E n FL:=by
 obtain ⟨v,O,U,X⟩:=h.ex;have Y:v.ownBlock≠some L:=fun e=>by have:=U.a3 e;rw [zh O] at this;cases this
 have R:(w.setCell ⟨L,5,none⟩ (.int .i64 n)).heap[L]?=some (.cells #[.pointer (some ⟨D,0,none⟩),.int .i64 r,.int .u64 z,.int .i64 bank,v,.int .i64 n] 194 (0,0)):=by rw [zB _ _ 5 _ _ _ O];rfl
 refine ⟨⟨v,R,U.same (fun k u=>zt _ _ _ _ (fun e=>Y (by rw [u];exact congrArg some e))) (by simp),X⟩,h.fL,fun k u=>by simpa using h.lt k u,fun k u=>?_⟩;by_cases e:k=L
 ·subst e;rw [zh R];simp
 ·rw [jW (zt _ _ _ _ e)];exact h.a3 k u
theorem zdX (D:Nat) (F FL:Nat->Prop) (cur:Nat->Nat->List UInt8) (L r u bank:Nat) (b:List UInt8) (h:Nat) (w:World) (R:jP w L D r u bank b h FL) (O:jk w D F cur) (E:yW (cur r) u bank (b.take h))
  (hr:r<4) (c5:bank<=1) (d2:u<4294967296) (hb:b.length<=14336) (hs:h<=b.length) :
  zc 66 #[.pointer (some ⟨L,0,none⟩)] w fun e w'=>e=.returned (.int .i64 0)/\∃ F' cur',jP w' L D r u bank b b.length FL/\jk w' D F' cur'/\yW (cur' r) u bank b/\JD cur cur' r/\zA (zcJ FL F) w w'/\qN w F F':=by
 obtain ⟨v,z,a0,b9⟩:=R.ex;obtain ⟨A,c,rfl⟩:=a0.slice;have a8:=zjj D F cur (fun _=>0) L r bank u _ _ _ _ _ b h w.drew.drew O.drew.drew z a0.bytes (fun k U=>QC R O k (b9 k U)) hr c5 d2 hb hs (by omega);have k2:=xV (Value.int .u64 u) 2 z;have k3:=xV (Value.int .i64 bank) 3 z;have k4:=xV (Value.slice A b.length c) 4 z;have k5:=xV (Value.int .i64 h) 5 z;obtain ⟨X,HD,c1,HV,c8⟩:=zi5 R O E z a8;have Z:=And.intro k4 k5;have a7:=And.intro k2 (And.intro k3 (And.intro k4 k5));by_cases a9:h=b.length
 ·have dd:((h:Int) == (b.length:Int))=true:=by simp [a9]
  have c2:=hid a9;clear R O E z a0 b9 a8 a7 k2 k3 k4 k5 a9;go_enter func66,ntmps66;go_upto_region 1 with fail;refine sV [] 10 (fun w'=>zH w' L 4 (.slice A b.length c)/\zH w' L 5 (.int .i64 h)) Z fun Y=>?_;refine pV 0 ?_;refine pV 1 ?_;refine pV 2 ?_;refine tV 3 ?_;refine pV 4 ?_;refine pV 5 ?_;refine pV 6 ?_;refine tV 7 ?_;refine pV 8 ?_;refine pV 9 ?_;refine dV ?_;clear Y Z;go_wp2_with fail;go_ret;refine ⟨rfl,F,cur,by rw [<- c2.o];exact X.o.same (fun _ _=>rfl) (za _),HD.o.drew,?_,JD.refl _ _,(zA.refl _ _).drew,qN.refl _ _⟩;have h1:=c1.o;rw [c2.o,qi] at h1;exact h1
 ·have dd:((h:Int) == (b.length:Int))=false:=by simp;omega
  clear R O E z a0 b9 a8 k2 k3 k4 k5;go_enter func66,ntmps66;go_upto_region 1 with fail;refine sV [] 10 (fun w'=>zH w' L 4 (.slice A b.length c)/\zH w' L 5 (.int .i64 h)) Z fun Y=>?_;refine pV 0 ?_;refine pV 1 ?_;refine pV 2 ?_;refine tV 3 ?_;refine pV 4 ?_;refine pV 5 ?_;refine pV 6 ?_;refine tV 7 ?_;refine pV 8 ?_;refine pV 9 ?_;refine dV ?_;clear Y Z;go_upto_region 3 with fail;refine sV [17] 19 (fun w'=>zH w' L 2 (.int .u64 u)/\zH w' L 3 (.int .i64 bank)/\zH w' L 4 (.slice A b.length c)/\zH w' L 5 (.int .i64 h)) a7 fun Y=>?_;refine pV 0 ?_;refine pV 1 ?_;refine pV 2 ?_;refine pV 3 ?_;refine tV 4 ?_;refine pV 5 ?_;refine pV 6 ?_;refine pV 7 ?_;refine tV 8 ?_;refine pV 9 ?_;refine pV 10 ?_;refine pV 11 ?_;refine tV 12 ?_;refine pV 13 ?_;refine pV 14 ?_;refine pV 15 ?_;refine tV 16 ?_;refine lV 17 fun K hK=>?_;refine vI 109 _ _ [.pointer (some ⟨L,0,none⟩),.int .i64 bank,.int .u64 u,.slice A b.length c,.int .i64 h] rfl (by kernel_rfl) (by rfl) (c8.o.mono ?_);rintro e1 w7 ⟨rfl,F7,c3,a5,c4⟩;refine ⟨_,rfl,?_⟩;refine hK.out _ _ ?_;clear hK K;try simp only [pS]
  refine pV 18 ?_;refine dV ?_;have a6:=(X.o.same (w':=w.drew.drew) (fun _ _=>rfl) (za _)).ac a5 (fun k U=>QC X.o HD.o k U);obtain ⟨v7,a1,c6,d3⟩:=a6.ex;obtain ⟨A7,d1,rfl⟩:=c6.slice;have e4:=xV (Value.slice A7 b.length d1) 4 a1;have e5:=xV (Value.int .i64 h) 5 a1;have f5:=zI w7 L 5 _ _ a1;obtain ⟨a3,c0,c7,d0⟩:=zi4 a6 c3 a5 c4;clear a6 a1 c6 d3 c3 a5 c4 a7;go_wp2_with fail;go_ret;have E:=znw c1.o hs hb c5;refine ⟨rfl,F7,_,a3.o.dm _,jk.of (c0.o.same (fun k U=>?_) (by simp)),E.1,E.2,(zA.mono ((zA.refl _ _).drew.drew.trans c7.o (fun x a4=>.inl a4)) (fun x a4=>.inl (.inr a4))).set (p:=⟨L,5,none⟩) (.inl (.inl X.o.fL)) _,d0.o⟩;exact zt _ _ _ _ (fun e=>QC a3.o c0.o L a3.o.fL (by rw [<- show k=L from e];exact U))
def jR (r:zQ):List Value:=[.int .i64 r.kind,.int .i64 r.txn,.int .i64 r.E,.int .i64 r.slot,.string (zb (zM r.aa)),.string (zb (zM r.after)),.string (zb r.ao),.slice none 0 0]
def yu (rs:List zQ):List Value:=rs.flatMap jR
theorem zcd:∀ (rs:List zQ) (j:Nat) (r:zQ),rs[j]?=some r->∀ i u,(jR r)[i]?=some u->(yu rs)[j*8+i]?=some u
 | [],j,r,h,_,_,_=>by simp at h
 | x::rs,0,r,h,i,u,hu=>by simp only [List.getElem?_cons_zero,jd] at h;subst h;have D:=(zr.1 hu).1;simp only [yu,qC,Nat.zero_mul,qy];rw [vZ D];exact hu
 | x::rs,j+1,r,h,i,u,hu=>by
  have z:=zcd rs j r (by simpa using h) i u hu;simp only [yu,qC];rw [vg (by simp [jR];omega)];have:(j+1)*8+i-(jR x).length=j*8+i:=by simp [jR];omega
  rw [this];exact z
def zq (rs:List zQ):List UInt8:=rs.flatMap qG
theorem zep (rs:List zQ) (j:Nat) (r:zQ) (h:rs[j]?=some r):zq (rs.take (j+1))=zq (rs.take j)++qG r:=by unfold zq;rw [List.take_add_one,h,List.flatMap_append];simp
theorem zeq (rs:List zQ) (j:Nat):(zq (rs.take j)).length<=(zq rs).length:=by
 conv=>rhs;rw [<- List.take_append_drop j rs]
 simp only [zq,List.flatMap_append,zl];omega
theorem ziz {w:World} {L D r Y bank a3 g1 nb:Nat} {b bs:List UInt8} {FL:Nat->Prop} {A:Option Addr} {c B:Nat} (h:jP w L D r Y bank b a3 FL) (X:w.ownsRow B 5 1 (.slice A bs.length c) bs.length (zD bs)) :
  jP ((((w.setCell ⟨L,2,none⟩ (.int .u64 g1)).setCell ⟨L,3,none⟩ (.int .i64 nb)).setCell ⟨L,4,none⟩ (.slice A bs.length c)).setCell ⟨L,5,none⟩ (.int .i64 bs.length)) L D r g1 nb bs bs.length (fun k=>k=L∨(Value.slice A bs.length c).ownBlock=some k):=by
 obtain ⟨v,z,h2,h3⟩:=h.ex;have a0:(Value.slice A bs.length c).ownBlock≠some L:=fun e=>by
  rcases X.2 with ⟨E,_⟩ | ⟨Z,cap,cur,E,_,hh,_⟩
  ·rw [E] at e;cases e
  ·rw [E] at e;obtain rfl:Z=L:=by injection e
   rw [hh] at z;injection z with z;injection z with _ z;cases z
 obtain ⟨W,R⟩:=ex ((((w.setCell ⟨L,2,none⟩ (.int .u64 g1)).setCell ⟨L,3,none⟩ (.int .i64 nb)).setCell ⟨L,4,none⟩ (.slice A bs.length c)).setCell ⟨L,5,none⟩ (.int .i64 bs.length));have O:W.heap[L]?=some (.cells #[.pointer (some ⟨D,0,none⟩),.int .i64 r,.int .u64 g1,.int .i64 nb,.slice A bs.length c,.int .i64 bs.length] 194 (0,0)):=by rw [R,zB _ _ 5 _ _ _ (zB _ _ 4 _ _ _ (zB _ _ 3 _ _ _ (zB _ _ 2 _ _ _ z)))];rfl
 have a1:∀ k,k≠L->W.heap[k]?=w.heap[k]?:=fun k u=>by rw [R,zt _ _ _ _ u,zt _ _ _ _ u,zt _ _ _ _ u,zt _ _ _ _ u]
 rw [<- R];have U:=own_same X fun k u=>a1 k (fun e=>a0 (by rw [u,e]));refine ⟨⟨_,O,.inl (jK U (zT _)),fun k u=>.inr u⟩,.inl rfl,?_,?_⟩
 ·rintro k (rfl | u)
  ·exact zi O
  ·exact (U.lt k u).2
 ·rintro k (rfl | u)
  ·rw [zh O];simp
  ·rw [own_tag U u];simp
theorem zoC {cur:Nat->Nat->List UInt8} {r g1 nb:Nat} {bs:List UInt8} (hb:bs.length<=14336) (u:nb<=1) :
  yW (ve (uP (yR cur r (2+nb*256) (2+nb*256+256)) r nb g1 bs (0 / 56) ((bs.length+55) / 56)) (r:Int).toNat (1:Int).toNat (jN (zR 4 g1++zR 1 nb)) r) g1 nb bs /\
  JD cur (ve (uP (yR cur r (2+nb*256) (2+nb*256+256)) r nb g1 bs (0 / 56) ((bs.length+55) / 56)) (r:Int).toNat (1:Int).toNat (jN (zR 4 g1++zR 1 nb))) r:=by
 simp only [qp,show (1:Int).toNat=1 from rfl];refine ⟨⟨?_,fun s z=>?_⟩,fun h q h0=>?_⟩
 ·unfold ve;simp only [zk]
 ·unfold ve;simp only [zk];rw [zy _ _ (by omega)];unfold uP;simp only [zk];by_cases e:2+nb*256+0 / 56<=2+nb*256+s/\2+nb*256+s<2+nb*256+(bs.length+55) / 56
  ·rw [if_pos e,if_pos (by omega),show 2+nb*256+s-(2+nb*256)=s by omega]
  ·rw [if_neg e,if_neg (by omega)];unfold yR;simp only [zk];rw [if_pos (by omega)]
 ·unfold ve;by_cases e:h=r
  ·subst e;simp only [zk];rw [zy _ _ (by omega)];unfold uP;simp only [zk];rw [if_neg (by omega)];unfold yR;simp only [zk];rw [if_neg (by omega)]
  ·simp only [zy _ _ e];unfold uP;simp only [zy _ _ e];unfold yR;simp only [zy _ _ e]
theorem zpr (x:zQ) (w:World) (h:x.ok) (hd:x.Y=[]):zc 106 #[.agg (jR x).toArray] w fun e w'=>e=.returned (.bool true)/\zd w w':=by have:=zcc x none 0 w h;rw [hd] at this;exact this
theorem znc (x:zQ) (w:World) (h:x.ok) (hd:x.Y=[]):zc 107 #[.agg (jR x).toArray] w fun e w'=>∃ v,e=.returned v/\w'.ownsRow w.heap.size 5 1 v (qG x).length (zD (qG x))/\zd w w' :=
 zeo x (.slice none 0 0) w h (by rw [hd];exact uI.nil w)
theorem zfP (D:Nat) (F FL:Nat->Prop) (cur:Nat->Nat->List UInt8) (L r R bank:Nat) (b:List UInt8) (l9:Nat) (v:Value) (rs:List zQ) (w:World) (hL:jP w L D r R bank b l9 FL) (hD:jk w D F cur)
  (hv:w.ownsRow 0 144 8 v rs.length (yu rs)) (hok:∀ x,x∈rs->x.ok/\x.Y=[]) (r8:rs.length<=1000) (hfit:(zq rs).length<=14336) (hr:r<4) (q9:bank<=1) (k4:R+1<4294967296) :
  zc 70 #[.pointer (some ⟨L,0,none⟩),v] w fun e w'=>e=.returned (.int .i64 0)/\∃ F' f8 cur',jP w' L D r (R+1) (1-bank) (zq rs) (zq rs).length f8/\jk w' D F' cur'/\yW (cur' r) (R+1) (1-bank) (zq rs)/\JD cur cur' r/\zA (zcJ FL F) w w'/\qN w F F'/\qN w FL f8:=by
 obtain ⟨A,c,rfl⟩:=own_slice hv;obtain ⟨vb,d6,l4,q1⟩:=hL.ex;obtain ⟨Ab,cb,rfl⟩:=l4.slice;have r9:=xV (Value.int .i64 bank) 3 d6;have r4:(0:Int)<=(bank:Int):=by omega
 have r5:(bank:Int)<=1:=by omega
 obtain ⟨g1,k2⟩:=ex (R+1);rw [<- k2] at k4 ⊢;have r0:(R:Int)+1=(g1:Int):=by omega
 have r1:(R:Int)<4294967295:=by omega
 clear k2;have l7:=xV (Value.int .u64 R) 2 d6;obtain ⟨nb,k6⟩:∃ nb:Nat,nb=1-bank:=⟨_,rfl⟩;have r6:(1:Int)-(bank:Int)=(nb:Int):=by omega
 have k7:(0:Int)<=(nb:Int):=by omega
 have k8:(nb:Int)<=1:=by omega
 have k9:nb<=1:=by omega
 rw [<- k6];clear k6;obtain ⟨z,HD,HV,h5,o7⟩:=zi5 hL hD hv d6 hok;clear hL hD hv d6 l4 q1 hok;go_enter func70,ntmps70;go_wp2_with fail;go_loopw [6,21] (fun v c2 wr=>∃ j:Nat,j<=rs.length/\c2=.int .i64 j/\wr.ownsRow w.heap.size 5 1 v (zq (rs.take j)).length (zD (zq (rs.take j)))/\zd w wr) (fun _ c2 _=>((rs.length:Int)-intOf c2).toNat)
 case atStart=>exact ⟨0,by omega,rfl,ql _ _ _ _,zf _ _⟩
 case round =>
  obtain ⟨j,hj,rfl,a6,a0⟩:=hrel;by_cases p9:j<rs.length
  ·obtain ⟨x,U⟩:∃ x,rs[j]?=some x:=⟨_,zX p9⟩;obtain ⟨l6,l5⟩:=o7.o x (zC U);have f6:=own_same HV.o fun k h=>a0.block k (HV.o.lt k h).2;obtain ⟨g,c',e,_,hg⟩:=f6.form (by omega);injection e with O e2 p4;subst O;clear e2 p4;have l3:wr.rangeAt g (j*8) (jR x):=fun i c2 hu=>by have:=f6.cells (g:=g) rfl _ _ (zcd rs j x U i c2 hu);rw [Addr.add_mid,qy] at this;exact this
   have r2:(0:Int)<=(j:Int):=by omega
   have r3:(j:Int)<(rs.length:Int):=by omega
   have q0:=zeq rs j;obtain ⟨HX,e1,h7,p0,u,a3⟩:=zi6 U l6 l5 l3 a6 a0;clear U l6 l5 l3 a6 a0 f6;have hE:=zo wr (.cells (jR x).toArray 144) rfl;have HE:=hid hE;clear hE;go_upto_region 6 with (first|(show wpList _ _ _ (⟨some 24,_,_,_,_,_⟩::_) _ _;refine wpList_load_mid (op:=⟨some 24,_,_,_,_,_⟩) rfl 144 (.tmp 23) rfl g (j*8) (by rfl) (jR x) _ p0.o underlying144 rfl (by kernel_rfl) ?_)|((with_reducible refine hV 8 ?_);refine nV (jR x).toArray (by simp [jR,Value.oneCell']) ?_));go_upto_region 8 with (first|((with_reducible refine gV 25 ?_);refine rV HE.o ?_)|(go_at_call 106;(with_reducible refine (zpr x _ e1.o h7.o).mono ?_);rintro O w1 ⟨rfl,j7⟩;have f9:=hid j7;clear j7));have i4:=zg HE.o f9.o (by simp);have f1:=B_call (B_alloc (zf wr.heap.size wr) (.cells (jR x).toArray 144)) f9.o;have j2:=own_same u.o fun k h=>f1.block k (u.o.lt k h).2;obtain ⟨m9,g7,g2⟩:=zi3 i4 j2 f1;clear i4 j2 f1;obtain ⟨pb,d5⟩:=ex (zq (rs.take j));rw [<- d5] at q0;have o8:=hid d5;have g8:Hid (w1.ownsRow w.heap.size 5 1 u6 pb.length (zD pb)):=hid (by rw [d5];exact g7.o);have q2:=yU e1.o;obtain ⟨xb,f7⟩:=ex (qG x);rw [<- f7] at q2;have h6:=hid f7;clear d5 g7 f7;go_wp2_with (first|((with_reducible refine gV 29 ?_);refine rV m9.o ?_)|((with_reducible refine aV 107 (znc x w1 e1.o h7.o) ?_);rintro O w2 ⟨v2,rfl,d4,e8⟩;rw [<- h6.o] at d4;obtain ⟨A2,p2,rfl⟩:=own_slice d4;have g0:=hid e8;have o9:=hid (zL.aj d4);have h2:=hid (own_same g8.o fun k h=>e8.block k (g8.o.lt k h).2);clear e8 d4)|(show wpList _ _ _ (⟨some 31,_,_,_,_,_⟩::_) _ _;refine jX rfl (.tmp 28) (.tmp 30) 29 5 1 1 rfl underlying29 QS (by omega) u6 pb.length (zD pb) w.heap.size (by rfl) h2.o A2 xb.length p2 (zD xb) w2.heap.size (by rfl) o9.o (yp _) (by omega) (by omega) (zz a3.o.size (zz g2.o.size g0.o.size)) ?_;intro v3 w3 f4 k3 p6;rw [<- yV] at f4;obtain ⟨o6,n0⟩:=zi2 f4 k3;clear f4 k3 p6));go_roundw
   case rel =>have p7:=B_call (B_call a3.o g2.o) g0.o;refine ⟨j+1,by omega,by go_num,?_,vn p7 h2.o n0.o⟩;rw [zep rs j x HX.o,<- o8.o,<- h6.o,zl];exact o6.o
   case measure=>simp [intOf];omega
  ·obtain rfl:j=rs.length:=by omega
   rw [qi] at a6;obtain ⟨bs,f0⟩:=ex (zq rs);rw [<- f0] at a6 hfit;have m4:=hid f0;obtain ⟨A6,c6,rfl⟩:=own_slice a6;have hd:decide ((14336:Int)<(bs.length:Int))=false:=by simp;omega
   have i9:=z.o.below a0;have i3:jk wr D F cur:=HD.o.below a0;have d2:=zg h5.o a0 (zi h5.o);obtain ⟨d8,d7,u,a3⟩:=zi4 i9 i3 a6 a0;have hS:wr.drew.cell? ⟨L,0,none⟩=some (.pointer (some ⟨D,0,none⟩))/\wr.drew.cell? ⟨L,1,none⟩=some (.int .i64 r):=⟨ze wr L 0 _ _ _ d2,ze wr L 1 _ _ _ d2⟩;have p1:=hid d2;have q3:IntKind.i64.wrap (2+(nb:Int)*256+256)=((2+nb*256+256:Nat):Int):=by rw [zu];omega
   clear i9 i3 d2 a6 a0 f0;go_upto_region 12 with fail;refine sV [13] 15 (fun w'=>zH w' L 0 (.pointer (some ⟨D,0,none⟩))/\zH w' L 1 (.int .i64 r)) hS fun Y=>?_;refine pV 0 ?_;refine pV 1 ?_;refine pV 2 ?_;refine tV 3 ?_;refine pV 4 ?_;refine pV 5 ?_;refine pV 6 ?_;refine tV 7 ?_;refine pV 8 ?_;refine pV 10 ?_;refine oC 9 (JH nb wr.drew k7 k8) ?_;rintro O w6 ⟨rfl,rfl⟩;refine eV Y fun Y=>?_;refine oC 11 (JH nb wr.drew k7 k8) ?_;rintro O w6 ⟨rfl,rfl⟩;refine eV Y fun Y=>?_;refine pV 12 ?_;refine lV 13 fun K hK=>?_;refine vI 110 _ _ [.pointer (some ⟨D,0,none⟩),.int .i64 r,.int .i64 ((2+nb*256:Nat):Int),.int .i64 ((2+nb*256+256:Nat):Int)] rfl (by kernel_rfl) (by rfl) ((zdC D F cur (fun _=>0) r (2+nb*256) (2+nb*256+256) wr.drew (zK.drew d7.o) hr (by omega) (by omega)).mono ?_);rintro O w7 ⟨rfl,F7,i1,c0,e4⟩;refine ⟨_,rfl,?_⟩;refine hK.out _ _ ?_;clear hK K;try simp only [pS]
   refine pV 14 ?_;refine dV ?_;have i7:=(d8.o.same (w':=wr.drew) (fun _ _=>rfl) (za _)).ac c0 (fun k h=>QC d8.o d7.o k h);have e3:∀ k,FL k->¬ F k:=fun k h=>QC d8.o d7.o k h;have j9:∀ k,(Value.slice A6 bs.length c6).ownBlock=some k->¬ F7 k:=fun k h e=>by
    have h1:=u.o.lt k h;rcases e4 k e with h8 | h8
    ·have:=HD.o.lt k h8;omega
    ·have h3:wr.drew.heap.size=wr.heap.size:=rfl;omega
   have k0:zj w7 (.slice A6 bs.length c6) bs:=by refine zj.aj rfl (own_same (show wr.drew.ownsRow _ _ _ _ _ _ from u.o) fun k h=>c0.block k (u.o.lt k h).2 (fun e=>?_));have:=HD.o.lt k e;have:=(u.o.lt k h).1;omega
   have e6:=qK (show wr.drew.heap[L]?=_ from p1.o) c0 (e3 L z.o.fL);have e2:=xV (Value.int .u64 R) 2 e6;obtain ⟨n9,m2,c3,h4⟩:=zi4 i7 k0 j9 e6;have m7:=hid (jk.of i1);obtain ⟨a4,g6,o1⟩:=zi3 c0 e4 e3;have f2:=zjj D F7 _ (fun _=>0) L r nb g1 _ _ _ _ (.slice A6 bs.length c6) bs 0 w7 m7.o h4.o m2.o c3.o hr k9 k4 hfit (by omega) (by omega);rw [show ((0:Nat):Int)=0 from rfl] at f2;have o0:=hid f2;clear i7 k0 j9 e6 i1 c0 e4 e3 hS Y q3 f2;go_upto_region 18 with ((with_reducible refine aV 109 o0.o ?_);rintro O w8 ⟨rfl,F8,i2,c1,j1⟩);have d0:∀ k,FL k->¬ F7 k:=fun k h e=>(g6.o k e).elim (o1.o k h) (fun a5=>by have:=z.o.lt k h;have h3:wr.drew.heap.size=wr.heap.size:=rfl;have:=a3.o.size;omega);have i8:=n9.o.ac c1 d0;have e7:=qK h4.o c1 (d0 L z.o.fL);have j5:w8.ownsRow w.heap.size 5 1 (.slice A6 bs.length c6) bs.length (zD bs):=own_same (own_same (show wr.drew.ownsRow _ _ _ _ _ _ from u.o) fun k h=>a4.o.block k (u.o.lt k h).2 (fun e=>by
    have:=HD.o.lt k e;have:=(u.o.lt k h).1;omega)) fun k h=>c1.block k (qg (u.o.lt k h).2 a4.o.size) (c3.o k h)
   have p3:=xV (Value.int .u64 R) 2 e7;have k5:zj w8 (.slice none 0 0) []:=⟨none,0,rfl,(zL.cz:zL w8 w8.heap.size 1 none 0 []),za _,by unfold maxLen;omega⟩;have s0:IntKind.u64.wrap (nb:Int)=nb:=vG _ (by omega);obtain ⟨g5,c7,c5,n1⟩:=zi4 i8 e7 j5 k5;have m8:=hid (jk.of i2);obtain ⟨g3,c4,o3⟩:=zi3 c1 j1 d0;clear i8 e7 j5 k5 i2 c1 j1 e2 d0;go_upto_region 19 with (first|((with_reducible refine aV 59 (ur (.slice none 0 0) [] 4 g1 w8 n1.o (by omega) (by omega) (by simp)) ?_);rintro O w9 ⟨v9,rfl,f5,k1⟩;simp only [show (4:Int).toNat=4 from rfl,List.nil_append,jr,qy] at f5;have m3:=hid k1;have n3:=hid (zj.aj (by rw [zG]) f5);clear k1 f5)|((with_reducible refine aV 59 (ur v9 (zR 4 g1) 1 nb w9 n3.o (by omega) (by omega) (by rw [zG];omega)) ?_);rintro O E ⟨m0,rfl,f3,j8⟩;simp only [show (1:Int).toNat=1 from rfl,zG] at f3;have m1:=hid j8;have n2:=hid (zj.aj (by simp [zG]) f3);clear j8 f3));have e9:=B_call m3.o m1.o;have e5:=zg c7.o e9 (zi c7.o);have hS:E.drew.cell? ⟨L,0,none⟩=some (.pointer (some ⟨D,0,none⟩))/\E.drew.cell? ⟨L,1,none⟩=some (.int .i64 r):=⟨ze E L 0 _ _ _ e5,ze E L 1 _ _ _ e5⟩;have l1:(0:Int)<=(r:Int):=by omega
   have l2:(r:Int)<4:=by omega
   have X:=hid e9;clear e9 e5;refine sV [9] 11 (fun w'=>zH w' L 0 (.pointer (some ⟨D,0,none⟩))/\zH w' L 1 (.int .i64 r)) hS fun Y=>?_;refine pV 0 ?_;refine pV 1 ?_;refine pV 2 ?_;refine tV 3 ?_;refine pV 4 ?_;refine pV 5 ?_;refine pV 6 ?_;refine tV 7 ?_;refine pV 8 ?_;refine lV 9 fun K hK=>?_;refine vI 97 _ _ [.pointer (some ⟨D,0,none⟩),.int .i64 r,.int .i64 1,m0] rfl (by kernel_rfl) (by rfl) ((Ka D F8 _ (fun _=>0) r 1 m0 _ E.drew ((m8.o.below X.o).drew) l1 l2 (by omega) (by omega) n2.o.drew (by simp [zG]) (by omega)).mono ?_);rintro O a7 ⟨rfl,a8,h9,a9,j0⟩;refine ⟨_,rfl,?_⟩;refine hK.out _ _ ?_;clear hK K;try simp only [pS]
   refine pV 10 ?_;refine dV ?_;have d1:∀ k,FL k->¬ F8 k:=fun k h e=>(c4.o k e).elim (o3.o k h) (fun a5=>by have:=z.o.lt k h;have h3:wr.drew.heap.size=wr.heap.size:=rfl;have:=a3.o.size;have:=a4.o.size;omega);have i5:=(((g5.o.below X.o).same (w':=E.drew) (fun _ _=>rfl) (za _))).ac a9 d1;have j6:=qK (show E.drew.heap[L]?=_ from zg c7.o X.o.drew (zi c7.o)) a9 (d1 L z.o.fL);have j3:a7.ownsRow w.heap.size 5 1 (.slice A6 bs.length c6) bs.length (zD bs):=own_same (own_same c5.o fun k h=>X.o.block k (c5.o.lt k h).2) fun k h=>a9.block k (qg (c5.o.lt k h).2 X.o.size) (fun e=>(c4.o k e).elim (c3.o k h) (fun a5=>by
    have h1:=(u.o.lt k h).2;have h3:wr.drew.heap.size=wr.heap.size:=rfl;have:=a4.o.size;omega))
   obtain ⟨g4,e0,g9,m5,n4,d9,o4⟩:=zi7 i5 j6 j3 h9 a9 j0 d1;clear i5 j6 j3 h9 a9 j0 d1 hS Y;go_upto_region 22 with fail;refine sV [8] 10 (fun w'=>zH w' L 0 (.pointer (some ⟨D,0,none⟩))/\zH w' L 1 (.int .i64 r)) ⟨ze a7 L 0 _ _ _ e0.o,ze a7 L 1 _ _ _ e0.o⟩ fun Y=>?_;refine pV 0 ?_;refine pV 1 ?_;refine pV 2 ?_;refine tV 3 ?_;refine pV 4 ?_;refine pV 5 ?_;refine pV 6 ?_;refine tV 7 ?_;refine lV 8 fun K hK=>?_;refine vI 98 _ _ [.pointer (some ⟨D,0,none⟩),.int .i64 r] rfl (by kernel_rfl) (by rfl) ((Qf D a8 _ _ r a7.drew (zK.drew m5.o) l1 l2 (by simp [KH,zk])).mono ?_);rintro O a1 ⟨rfl,i0,b9⟩;refine ⟨_,rfl,?_⟩;refine hK.out _ _ ?_;clear hK K;try simp only [pS]
   refine pV 9 ?_;refine dV ?_;have c8:∀ k,FL k->¬ a8 k:=fun k h e=>(d9.o k e).elim (o4.o k h) (fun a5=>by have:=g4.o.lt k h;have h3:E.drew.heap.size=E.heap.size:=rfl;have:=g5.o.lt k h;have:=X.o.size;omega);have i6:=((g4.o.same (w':=a7.drew) (fun _ _=>rfl) (za _))).ac b9 c8;have Z:=qK (show a7.drew.heap[L]?=_ from e0.o) b9 (c8 L z.o.fL);have j4:a1.ownsRow w.heap.size 5 1 (.slice A6 bs.length c6) bs.length (zD bs):=own_same (show a7.drew.ownsRow _ _ _ _ _ _ from g9.o) fun k h=>b9.block k (g9.o.lt k h).2 (fun e=>(d9.o k e).elim (fun e=>(c4.o k e).elim (c3.o k h) (fun a5=>by
    have h1:=(u.o.lt k h).2;have h3:wr.drew.heap.size=wr.heap.size:=rfl;have:=a4.o.size;omega)) (fun a5=>by
    have h1:=(c5.o.lt k h).2;have h3:E.drew.heap.size=E.heap.size:=rfl;have:=X.o.size;omega))
   have t2:=xV (Value.int .u64 R) 2 Z;have t3:=xV (Value.int .i64 bank) 3 Z;have t4:=xV (Value.slice Ab b.length cb) 4 Z;have t5:=xV (Value.int .i64 l9) 5 Z;have q5:=zI a1 L 2 _ _ Z;have q6:=zI a1 L 3 _ _ Z;have q7:=zI a1 L 4 _ _ Z;have q8:=zI a1 L 5 _ _ Z;obtain ⟨n6,o5,m6,n5,o2⟩:=zi5 i6 j4 i0 b9 c8;clear i6 Z j4 i0 b9 c8 Y p3;go_wp2_with fail;go_ret;have p5:=ziz (g1:=g1) (nb:=nb) n6.o o5.o;have z0:w.heap.size<=wr.drew.heap.size:=a3.o.size;have z7:w.heap.size<=w7.heap.size:=zz z0 a4.o.size;have z8:w.heap.size<=w8.heap.size:=zz z7 g3.o.size;have q4:w.heap.size<=E.drew.heap.size:=zz z8 X.o.size;have n7:qN w F F7:=qN.mono g6.o z0;have n8:qN w F F8:=n7.trans c4.o z7;have l8:qN w F a8:=n8.trans d9.o q4;have kk:zA F w a1:=(((((zA.ak a3.o.drew).next a4.o (qN.refl _ _)).next g3.o n7).call X.o).drew.next n4.o n8).drew.next n5.o l8;have d3:∀ x,a8 x->x≠L:=fun x U e=>o2.o L z.o.fL (by rw [<- e];exact U);have p8:jk a1 D a8 _:=zK.mono m6.o fun r' r7=>by
    simp only [qp,KH];by_cases e:r'=r
    ·subst e;simp only [zk];exact za _
    ·simp only [zy _ _ e];exact za _
   have l0:=zoC (cur:=cur) (r:=r) (g1:=g1) (nb:=nb) hfit k9;rw [<- m4.o];refine ⟨rfl,a8,_,_,p5,zK.same p8 (fun x U=>?_) (by simp),l0.1,l0.2,?_,l8,?_⟩
   ·rw [zt _ _ _ _ (d3 x U),zt _ _ _ _ (d3 x U),zt _ _ _ _ (d3 x U),zt _ _ _ _ (d3 x U)]
   ·have l7:zA (zcJ FL F) w a1:=kk.mono fun x a5=>.inl (.inr a5);exact (((l7.set (p:=⟨L,2,none⟩) (.inl (.inl z.o.fL)) _).set (p:=⟨L,3,none⟩) (.inl (.inl z.o.fL)) _).set (p:=⟨L,4,none⟩) (.inl (.inl z.o.fL)) _).set (p:=⟨L,5,none⟩) (.inl (.inl z.o.fL)) _
   ·rintro k (rfl | h)
    ·exact .inl z.o.fL
    ·exact .inr (u.o.lt k h).1
def qF:zQ:=⟨1,0,0,0,none,none,[],[]⟩
theorem YN:qF.ok:=⟨by decide,by decide,by decide,by decide,by decide,trivial,trivial,.inl rfl,.inl rfl,fun d hd=>by cases hd⟩
theorem zjo {w:World} {xs:List Value} {e s n:Nat} (h:xs.length=n*s) (hm:n<=maxLen):(w.alloc (.cells xs.toArray e)).ownsRow w.heap.size e s (.slice (some ⟨w.heap.size,0,none⟩) n n) n xs :=
 ⟨h,.inr ⟨w.heap.size,n,xs.toArray,rfl,za _,zo w _ rfl,za _,hm,by simpa using h,by rw [<- h];simp⟩⟩
theorem znv (D:Nat) (F:Nat->Prop) (cur:Nat->Nat->List UInt8) (r:Nat) (w:World) (hD:jk w D F cur) (hr:r<4) :
  zc 86 #[.pointer (some ⟨D,0,none⟩),.int .i64 r] w fun e w'=>∃ a5 F' FL cur',e=.returned (.tuple #[.pointer (some ⟨a5,0,none⟩),.int .i64 0])/\jP w' a5 D r 1 0 (qG qF) (qG qF).length FL/\jk w' D F' cur' /\
   yW (cur' r) 1 0 (qG qF)/\JD cur cur' r/\zA F w w'/\qN w F F'/\∀ k,FL k->w.heap.size<=k:=by
 obtain ⟨u,z⟩:=ex ((w.alloc (.cells #[.pointer (some ⟨D,0,none⟩),.int .i64 r,.int .u64 0,.int .i64 1,.slice none 0 0,.int .i64 0] 194)).alloc (.cells #[.int .i64 1,.int .i64 0,.int .i64 0,.int .i64 0,.string { data:=#[] },.string { data:=#[] },.string { data:=#[] },.slice none 0 0] 144));have O:u.heap[w.heap.size]?=some (.cells #[.pointer (some ⟨D,0,none⟩),.int .i64 r,.int .u64 0,.int .i64 1,.slice none 0 0,.int .i64 0] 194 (0,0)):=by rw [z];exact zw (zo _ _ rfl) _
 have a4:zd w u:=by rw [z];exact B_alloc (B_alloc (zf _ _) _) _
 have a7:jP u w.heap.size D r 0 1 [] 0 (fun k=>k=w.heap.size) :=
  ⟨⟨_,O,.inl (ql _ _ _ _),fun k h=>by cases h⟩,rfl,fun k h=>by subst h;exact zi O,fun k h=>by subst h;rw [zh O];simp⟩
 have a8:u.ownsRow 0 144 8 (.slice (some ⟨w.heap.size+1,0,none⟩) 1 1) 1 (yu [qF]):=by have:=zjo (w:=w.alloc (.cells #[.pointer (some ⟨D,0,none⟩),.int .i64 r,.int .u64 0,.int .i64 1,.slice none 0 0,.int .i64 0] 194)) (xs:=yu [qF]) (e:=144) (s:=8) (n:=1) rfl (by unfold maxLen;omega);rw [World.size_alloc] at this;rw [z];exact jK this (zT _)
 have a6:jk u D F cur:=zK.below hD a4;have a3:zq [qF]=qG qF:=by simp [zq]
 have a1:=zfP D F _ cur w.heap.size r 0 1 [] 0 _ [qF] u a7 a6 a8 (fun x hx=>by simp at hx;subst hx;exact ⟨YN,rfl⟩) (by simp) (by rw [a3];have:=yU YN;omega) hr (by omega) (by omega);rw [a3] at a1;obtain ⟨a9,HB,HD,b9⟩:=zi4 a1 a4 hD z;clear O a7 a8 a6 a3 a1 a4 hD z;go_enter func86,ntmps86;go_wp2_with (go_at_call 70;rw [<- b9.o];(with_reducible refine a9.o.mono ?_);rintro e1 w1 ⟨rfl,F1,c0,c1,L,E,Y,Z,R,U,X⟩;have HF:=hid (And.intro L (And.intro E (And.intro Y (And.intro Z (And.intro R (And.intro U X))))));clear L E Y Z R U X);go_ret2;obtain ⟨L,E,Y,Z,R,U,X⟩:=HF.o;refine ⟨_,_,_,_,rfl,L,E,Y,Z,(zA.ak HB.o).trans R (fun x hx=>hx.elim (fun a0=>.inr (by omega)) .inl),U.mono HB.o.size,fun k h=>(X k h).elim (fun a0=>by omega) (fun a0=>zz HB.o.size a0)⟩
theorem znN (b:List UInt8) (n:Nat) (h:b.length=n):jN b=b++zs (64-n):=by rw [jN,h]
theorem zjx (h:Nat) (p:List UInt8) (u:p.length<=56):zdz h p=zR 4 h++(zR 1 p.length++([0,0,0]++p++zs (56-p.length))):=by unfold zdz jN;simp only [zl,zG,qc,jr,jq];rw [show 64-(4+(1+(0+1+1+1+p.length)))=56-p.length by omega]
theorem zmt (h:Nat) (p:List UInt8) (u:p.length<=56):((zdz h p).drop 8).take p.length=p:=by
 rw [zjx h p u];have e:zR 4 h++(zR 1 p.length++([0,0,0]++p++zs (56-p.length)))=(zR 4 h++(zR 1 p.length++[0,0,0]))++(p++zs (56-p.length)):=by simp
 rw [e,List.drop_left' (by simp [zG]),List.take_left' rfl]
theorem YT (b:List UInt8) (s:Nat):(qO b s).length=min 56 (b.length-s*56):=by simp [qO]
theorem YX (b:List UInt8) (s:Nat):b.take (s*56)++qO b s=b.take ((s+1)*56):=by unfold qO;rw [show (s+1)*56=s*56+56 by omega,List.take_add]
theorem ziA (D:Nat) (F:Nat->Prop) (cur:Nat->Nat->List UInt8) (L r h bank:Nat) (x4 x5:Value) (b:List UInt8) (w:World) (hD:jk w D F cur)
  (hL:w.heap[L]?=some (.cells #[.pointer (some ⟨D,0,none⟩),.int .i64 r,.int .u64 h,.int .i64 bank,x4,x5] 194 (0,0))) (f5:yW (cur r) h bank b) (hr:r<4) (i3:bank<=1) (i6:0<h) (hg:h<4294967296) (hb:b.length<=14336) :
  zc 118 #[.pointer (some ⟨L,0,none⟩)] w fun e w'=>∃ v,e=.returned (.tuple #[v,.int .i64 0])/\w'.ownsRow w.heap.size 5 1 v b.length (zD b)/\zd w w':=by
 obtain ⟨HD,HL,g5⟩:=zi3 hD hL f5;have h6:(0:Int)<=(bank:Int):=by omega
 have h7:(bank:Int)<=1:=by omega
 have i1:(0:Int)<=(r:Int):=by omega
 have i2:(r:Int)<4:=by omega
 clear hD hL f5;go_enter func118,ntmps118;go_wp2_with fail;go_loopw [4,10] (fun v d9 wr=>∃ j:Nat,j<=256/\j*56<=b.length/\d9=.int .i64 j/\wr.ownsRow w.heap.size 5 1 v (j*56) (zD (b.take (j*56)))/\zd w wr) (fun _ d9 _=>(256-intOf d9).toNat)
 case atStart=>exact ⟨0,by omega,by omega,rfl,ql _ _ _ _,zf _ _⟩
 case round =>
  obtain ⟨j,hj,j0,rfl,c4,Z⟩:=hrel;by_cases i0:j<256
  ·have a3:=zg HL.o Z (zi HL.o);have d8:=g5.o.2 j i0;have d0:jk wr D F cur:=zK.below HD.o Z;have hlen:=d0.len hr (s:=2+bank*256+j) (by omega);rw [d8] at hlen;have i8:(0:Int)<=(j:Int):=by omega
   have i9:(j:Int)<256:=by omega
   have mj:IntKind.i64.wrap (2+(bank:Int)*256+(j:Int))=((2+bank*256+j:Nat):Int):=by rw [zu];omega
   have f6:(0:Int)<=((2+bank*256+j:Nat):Int):=by omega
   have f7:((2+bank*256+j:Nat):Int)<538:=by omega
   have U:wr.drew.cell? ⟨L,0,none⟩=some (.pointer (some ⟨D,0,none⟩))/\wr.drew.cell? ⟨L,1,none⟩=some (.int .i64 r)/\wr.drew.cell? ⟨L,3,none⟩=some (.int .i64 bank):=⟨ze wr L 0 _ _ _ a3,ze wr L 1 _ _ _ a3,ze wr L 3 _ _ _ a3⟩;obtain ⟨a8,g8,g3,c0,c5⟩:=zi5 a3 d8 d0 c4 Z;obtain ⟨sb,d7⟩:=ex (if j*56<b.length then zdz h (qO b j) else zs 64);rw [<- d7] at hlen;have c1:=hid d7;clear a3 d8 d0 c4 Z d7;go_upto_region 5 with fail;refine sV [15] 21 (fun w'=>zH w' L 0 (.pointer (some ⟨D,0,none⟩))/\zH w' L 1 (.int .i64 r)/\zH w' L 3 (.int .i64 bank)) U fun E=>?_;refine pV 0 ?_;refine pV 1 ?_;refine pV 2 ?_;refine tV 3 ?_;refine pV 4 ?_;refine pV 5 ?_;refine pV 6 ?_;refine tV 7 ?_;refine pV 8 ?_;refine pV 9 ?_;refine pV 10 ?_;refine tV 11 ?_;refine pV 13 ?_;refine oC 12 (JH bank wr.drew h6 h7) ?_;rintro e1 w6 ⟨rfl,rfl⟩;refine eV E fun E=>?_;refine pV 14 ?_;refine lC 15 (Ys D F cur (fun _=>0) r ((2+bank*256+j:Nat):Int) wr.drew (zK.drew g3.o) i1 i2 f6 f7) ?_;rintro e1 w1 ⟨v1,rfl,a4,e9⟩;refine eL ?_;refine pV 16 ?_;refine pV 17 ?_;refine pV 18 ?_;refine pV 19 ?_;refine pV 20 ?_;refine dV ?_;simp only [qp] at a4;rw [g8.o,<- c1.o] at a4;have f4:=zj.aj hlen.symm a4;obtain ⟨g1,R,h5,_,i7⟩:=a4.form (by omega);obtain ⟨rfl⟩:v1=.slice (some ⟨g1,0,none⟩) 64 R:=h5;have c6:=hid f4;have a0:=hid (uE e9);clear a4 e9 U E f4 mj f6 f7;have f0:=B_call c5.o a0.o;have e6:=zg a8.o a0.o (zi a8.o);have e7:=own_same c0.o fun k u=>a0.o.block k (c0.o.lt k u).2;obtain ⟨a1,e2,a9⟩:=zi3 f0 e6 e7;clear f0 e6 e7;go_upto_region 9 with (go_at_call 51;(with_reducible refine (Jh _ sb w1 c6.o).mono ?_);rintro e1 w2 ⟨rfl,O,f1⟩;obtain ⟨c7,Y⟩:=zi2 O f1;clear O f1);have h2:=zg e2.o Y.o (zi e2.o);have U:w2.drew.cell? ⟨L,2,none⟩=some (.int .u64 h):=ze w2 L 2 _ _ _ h2;have j4:=c7.o.lt;by_cases d1:j*56<b.length
   ·have d6:(qO b j).length<=56:=by rw [YT];omega
    have a5:(qO b j).length=min 56 (b.length-j*56):=YT b j;have f8:sb=zR 4 h++(zR 1 (qO b j).length++([0,0,0]++qO b j++zs (56-(qO b j).length))):=by rw [c1.o,if_pos d1,zjx h _ d6]
    have O:jw w2 w1.heap.size (zR 4 h++(zR 1 (qO b j).length++([0,0,0]++qO b j++zs (56-(qO b j).length)))) false:=by rw [<- f8];exact c7.o
    have g0:(zR 1 (qO b j).length++([0,0,0]++qO b j++zs (56-(qO b j).length))).length<=900000:=by simp only [zl,zG,zs,List.length_replicate,qc,jr];omega
    have g2:([0,0,0]++qO b j++zs (56-(qO b j).length)).length<=900000:=by simp only [zl,zs,List.length_replicate,qc,jr];omega
    have d5:((sb.drop 8).take (qO b j).length)=qO b j:=by rw [c1.o,if_pos d1];exact zmt h _ d6
    obtain ⟨m,hm⟩:=ex ((qO b j).length);rw [<- hm] at d6 a5 O g0 g2 d5;obtain ⟨HM,e3⟩:=zi2 hm a5;have j1:j*56+m<=b.length:=by omega
    have c8:=hid O;have g6:=hid d5;have m1:¬ (56:Int)<(m:Int):=by omega
    have m2:(m:Int)<=56:=by omega
    clear hm O d5 f8 a5;refine sV [] 7 (fun w'=>zH w' L 2 (.int .u64 h)) U fun E=>?_;refine pV 0 ?_;refine pV 2 ?_;refine pV 3 ?_;refine pV 4 ?_;refine tV 5 ?_;refine oC 1 (zcx w1.heap.size h _ w2.drew (c8.o.same fun _ _=>rfl) hg g0) ?_;rintro e1 w3 ⟨rfl,c2,X⟩;refine eV (Qw E X (fun e=>by injection e with e;have h9:=zi a8.o;have h8:wr.heap.size<=w1.heap.size:=a0.o.size;exact absurd (show w1.heap.size=L from e) (by omega))) fun E=>?_;refine pV 6 ?_;refine dV ?_;obtain ⟨g7,a7⟩:=zi2 c2 X;clear c2 X U E;go_upto_region 11 with (go_at_call 52;(with_reducible refine (JJ w1.heap.size m _ w3 g7.o (by omega) g2).mono ?_);rintro e1 w4 ⟨rfl,h3,f3⟩;have g4:=hid f3;clear h3 f3);have c3:zd w1 w4:=(Y.o.drew.grown a7.o Y.o.size (fun k u=>by injection u with u;omega)).grown g4.o (zz Y.o.size a7.o.size) (fun k u=>by injection u with u;omega);have d3:=(c6.o.below c3).sub 8 m (by omega) (by omega);rw [g6.o] at d3;have e8:=own_same a9.o fun k u=>c3.block k (a9.o.lt k u).2;have a6:=hid c3;have e0:Hid (zj w4 (.slice (some ⟨g1,8,none⟩) m (R-8)) (qO b j)):=hid d3;have b9:=hid e8;have i4:64<=R:=by obtain ⟨A',c',e,_,h1,_⟩:=c6.o;injection e with _ _ g9;rw [g9,<- hlen];exact h1
    have n1:(8:Int)<=8+(m:Int):=by omega
    have n2:(8:Int)+(m:Int)<=(R:Int):=by omega
    have n3:¬ R=8:=by omega
    clear c3 d3 e8;have f9:∀ (v5:Value) (w5:World),w5.ownsRow w.heap.size 5 1 v5 (j*56+m) (zD (b.take (j*56))++zD (qO b j))->w5.ownsRow w.heap.size 5 1 v5 (j*56+m) (zD (b.take ((j+1)*56))):=fun v5 w5 e5=>by rw [<- yV,YX] at e5;exact e5
    have e4:=hid f9;clear f9;by_cases i5:m<56
    ·have hd:decide ((m:Int)<56)=true:=by simp;omega
     go_wp2_with (show wpList _ _ _ (⟨some 53,_,_,_,_,_⟩::_) _ _;rw [show 8+m-8=m by omega];refine jX rfl (.tmp 48) (.tmp 52) 29 5 1 1 rfl underlying29 QS (by omega) u4 (j*56) (zD (b.take (j*56))) w.heap.size (by rfl) b9.o (some ⟨g1,8,none⟩) m (R-8) (zD (qO b j)) w4.heap.size (by rfl) (e0.o.cn HM.o) (yp _) (by omega) (by omega) (zz a1.o.size a6.o.size) ?_;intro v5 w5 d4 d2 h4);go_ret2;have z:=e4.o _ _ d4;have a5:=e3.o;rw [jG (by omega)] at z;rw [show j*56+m=b.length by omega] at z;exact ⟨_,rfl,z,vn (B_call a1.o a6.o) b9.o d2⟩
    ·have hd:decide ((m:Int)<56)=false:=by simp;omega
     go_wp2_with (show wpList _ _ _ (⟨some 53,_,_,_,_,_⟩::_) _ _;rw [show 8+m-8=m by omega];refine jX rfl (.tmp 48) (.tmp 52) 29 5 1 1 rfl underlying29 QS (by omega) u4 (j*56) (zD (b.take (j*56))) w.heap.size (by rfl) b9.o (some ⟨g1,8,none⟩) m (R-8) (zD (qO b j)) w4.heap.size (by rfl) (e0.o.cn HM.o) (yp _) (by omega) (by omega) (zz a1.o.size a6.o.size) ?_;intro v5 w5 d4 d2 h4);go_roundw
     case rel =>have z:=e4.o _ _ d4;have a5:=e3.o;rw [show j*56+m=(j+1)*56 by omega] at z;exact ⟨j+1,by omega,by omega,by go_num,z,vn (B_call a1.o a6.o) b9.o d2⟩
     case measure=>simp [intOf];omega
   ·have O:jw w2 w1.heap.size (zR 4 0++zs 60) false:=by have:=c7.o;rw [c1.o,if_neg d1] at this;exact this
    have j2:(((0:Nat):Int) != (h:Int))=true:=by simp;omega
    have j3:((0:Int) != (h:Int))=true:=by simp;omega
    have c8:=hid O;clear O;refine sV [] 7 (fun w'=>zH w' L 2 (.int .u64 h)) U fun E=>?_;refine pV 0 ?_;refine pV 2 ?_;refine pV 3 ?_;refine pV 4 ?_;refine tV 5 ?_;refine oC 1 (zcx w1.heap.size 0 _ w2.drew (c8.o.same fun _ _=>rfl) (by omega) (by simp [zs])) ?_;rintro e1 w3 ⟨rfl,c2,X⟩;refine eV (Qw E X (fun e=>by injection e with e;have h9:=zi a8.o;have h8:wr.heap.size<=w1.heap.size:=a0.o.size;exact absurd (show w1.heap.size=L from e) (by omega))) fun E=>?_;refine pV 6 ?_;refine dV ?_;have a7:=hid X;clear c2 X U E;go_wp2_with fail;go_ret2;have f2:zd w1 w3:=Y.o.drew.grown a7.o Y.o.size (fun k u=>by injection u with u;omega);have z:=own_same a9.o fun k u=>f2.block k (a9.o.lt k u).2;rw [jG (by omega),show j*56=b.length by omega] at z;exact ⟨_,rfl,z,B_call a1.o f2⟩
  ·obtain rfl:j=256:=by omega
   obtain ⟨c0,c5⟩:=zi2 c4 Z;clear c4 Z;go_wp2_with fail;go_ret2;have z:=c0.o;rw [jG (by omega),show 256*56=b.length by omega] at z;exact ⟨_,rfl,z,c5.o⟩
structure Ent where
 pl:Nat
 rc:zQ
 dv:Value
def yz (e:Ent):List Value:=[.int .u64 e.pl,.int .i64 e.rc.kind,.int .i64 e.rc.txn,.int .i64 e.rc.E,.int .i64 e.rc.slot,.string (zb (zM e.rc.aa)),.string (zb (zM e.rc.after)),.string (zb e.rc.ao),e.dv]
def yI (es:List Ent):List Value:=es.flatMap yz
theorem zeM (es:List Ent) (e:Ent):yI (es++[e])=yI es++yz e:=by simp [yI]
def qL (h n:Nat):List zQ->List (Nat × zQ)
 | []=>[]
 | r::rs=>(jj h n,r)::qL h (n+(qG r).length) rs
theorem GD (h:Nat) (r:zQ):∀ (rs:List zQ) (n:Nat),qL h n (rs++[r])=qL h n rs++[(jj h (n+(zq rs).length),r)]
 | [],n=>rfl
 | x::rs,n=>by simp only [List.cons_append,qL,GD h r rs,zq,qC,zl];rw [Nat.add_assoc]
structure GV (w:World) (B:Nat) (v:Value) (es:List Ent):Prop where
 ba:w.ownsRow B 167 9 v es.length (yI es)
 Y:∀ e,e∈es->w.ownsRow B 35 1 e.dv e.rc.Y.length (uH e.rc.Y)
 ok:∀ e,e∈es->e.rc.ok
def zlN (h k:Nat):Value:=if k=0 then .slice none 0 0 else .slice (some ⟨h,0,none⟩) k k
def lenOf:Value->Nat
 | .slice _ n _=>n
 | _=>0
theorem zlg (b:Nat) (h:b<=1):bits .and .u64 (b:Int) 1=(b:Int):=by
 rcases b with _ | _ | b
 ·decide
 ·decide
 ·omega
theorem zjg:ue prog 167 9 112:=.of (by kernel_rfl)
theorem zlO (u k:Nat):∃ A,zlN u k=.slice A k k:=by
 unfold zlN;by_cases h:k=0
 ·rw [if_pos h,h];exact ⟨_,rfl⟩
 ·rw [if_neg h];exact ⟨_,rfl⟩
theorem zpJ {w:World} {ad:Addr} {n c u:Nat} {l:List UInt8} (h:zj w (.slice (some ad) n c) l) (R:n=l.length) (h1:u<=n) :
  ∃ v',(∀ W:World,(Instr.sliceAt 29 (.slice (some ad) n c) (some (.int .i64 u)) none none).run prog W=.ok v' W)/\zj w v' (l.drop u):=by
 have z:prog.underlying 29=some (.slice (prog.elem 29)):=by rw [zaa];exact underlying29
 obtain ⟨Y,Z,e,U,O,a0⟩:=id h;injection e with D e2 E;subst D E;have X:∀ W:World,(Instr.sliceAt 29 (.slice (some ad) n c) (some (.int .i64 u)) none none).run prog W=.ok (sliced (some ad) u n c 1) W:=fun W=>by rw [run_sliceAt_slice W 29 _ _ _ _ z,run_slice_l W 29 _ _ _ z .i64 u (by omega) (by omega),zaa,Gy];simp only [vi,qp]
 refine ⟨_,X,?_⟩;have L:=U.cut (k:=u) (cap:=c) (by omega) O;unfold sliced;refine ⟨_,c-u,by rw [qI,R],?_,by rw [qI];omega,by omega⟩;rw [qI,<- JA];simpa using L
theorem zmf (L u:Nat) (z D E O R:Value) (w:World) (n:Nat) (h:w.heap[L]?=some (.cells #[z,D,.int .u64 u,E,O,R] 194 (0,0))) (U:u<4294967296) (X:n<=100000) :
  zc 108 #[.pointer (some ⟨L,0,none⟩),.int .i64 n] w fun e w'=>e=.returned (.int .u64 (jj u n))/\w'=w:=by
 have Y:=xV (Value.int .u64 u) 2 h;have Z:IntKind.u64.wrap (n:Int)=n:=vG _ (by omega);have m2:IntKind.u64.wrap ((u:Int)*1048576)=(u:Int)*1048576:=by rw [IntKind.wrap_u64];omega
 have m3:IntKind.u64.wrap ((u:Int)*1048576+n)=(u:Int)*1048576+n:=by rw [IntKind.wrap_u64];omega
 have m4:IntKind.u64.wrap ((u:Int)*1048576+n+1)=(u:Int)*1048576+n+1:=by rw [IntKind.wrap_u64];omega
 clear h;go_enter func108,ntmps108;go_wp2;go_ret;refine ⟨?_,rfl⟩;unfold jj;congr 2
theorem zrh (w:World) (ad:Addr) (n c h:Nat) (z:h<=c) (h0:0<h) :
  (Instr.sliceAt 29 (.slice (some ad) n c) none (some (.int .i64 h)) (some (.int .i64 h))).run prog w=.ok (.slice (some ad) h h) w:=by
 have u:prog.underlying 29=some (.slice (prog.elem 29)):=by rw [zaa];exact underlying29
 rw [run_sliceAt_slice w 29 _ _ _ _ u,run_slice_hm w 29 _ _ _ u .i64 .i64 h h (by omega) (by omega) (by omega),zaa,Gy];have e:ad.add (0*1)=ad:=rfl;simp only [vi,sliced,qp,Nat.sub_zero,if_neg (Nat.ne_of_gt h0),qk,e]
theorem zaC (h:Nat):∀ (rs:List zQ) (n:Nat),(qL h n rs).length=rs.length
 | [],_=>rfl
 | r::rs,n=>by simp [qL,zaC h rs]
theorem zkl (rs:List zQ) (j:Nat):(zq rs).drop (zq (rs.take j)).length=zq (rs.drop j):=by
 have h:zq rs=zq (rs.take j)++zq (rs.drop j):=by unfold zq;rw [<- List.flatMap_append,List.take_append_drop]
 conv=>lhs;arg 2;rw [h]
 exact List.drop_left' rfl
theorem Jx (r:zQ):0<(qG r).length:=by rw [qG,zl,zG];omega
theorem zlL (D:Nat) (F:Nat->Prop) (cur:Nat->Nat->List UInt8) (r O bank:Nat) (rs:List zQ) (w:World) (hD:jk w D F cur)
  (f8:yW (cur r) O bank (zq rs)) (hok:∀ x,x∈rs->x.ok) (hr:r<4) (j9:bank<=1) (q5:0<O) (hg:O<4294967296) (hb:(zq rs).length<=14336) (c5:0<rs.length) :
  zc 78 #[.pointer (some ⟨D,0,none⟩),.int .i64 r] w fun e w'=>∃ L v F' FL es,e=.returned (.tuple #[.pointer (some ⟨L,0,none⟩),v,.int .i64 0])/\jP w' L D r O bank (zq rs) (zq rs).length FL/\jk w' D F' cur /\
   GV w' w.heap.size v es/\es.map (fun e=>(e.pl,e.rc))=qL O 0 rs/\zA F w w'/\qN w F F'/\∀ k,FL k->w.heap.size<=k:=by
 have u:=f8.1;have m0:(zR 4 O++zR 1 bank).length=5:=by simp [zG]
 have l2:cur r 1=zR 4 O++(zR 1 bank++zs 59):=by rw [u,znN _ 5 m0,jq]
 have l9:(cur r 1).length=64:=hD.len hr (by omega);have r7:(0:Int)<=(r:Int):=by omega
 have r8:(r:Int)<4:=by omega
 have q4:=zlg bank j9;have l0:((O:Int) == 0)=false:=by simp;omega
 have mb:IntKind.u64.wrap (bank:Int)=bank:=vG _ (by omega);obtain ⟨HD,i3,o9,o2,t2⟩:=zi5 hD f8 hok l2 l9;clear hD f8 hok u m0 l2 l9;go_enter func78,ntmps78;go_upto_region 4 with (go_at_call 117;(with_reducible refine (Ys D F cur (fun _=>0) r 1 w HD.o r7 r8 (by omega) (by omega)).mono ?_);rintro e1 w1 ⟨v1,rfl,m2,j5⟩;obtain ⟨i1,d4⟩:=zi2 m2 j5;clear m2 j5);have l4:zj w1 v1 (zR 4 O++(zR 1 bank++zs 59)):=by have:=i1.o;simp only [qp,show (1:Int).toNat=1 from rfl] at this;rw [o2.o] at this;exact zj.aj (by simp [zG,zs]) this
 have h8:=hid l4;have hz:(zR 1 bank++zs 59).length<=900000:=by simp [zG,zs]
 have n2:(zs 59).length<=900000:=by simp [zs]
 have j7:bank<256:=by omega
 clear l4;go_upto_region 8 with (first|(go_at_call 51;(with_reducible refine (Jh v1 _ w1 h8.o).mono ?_);rintro e1 w2 ⟨rfl,j3,j6⟩;obtain ⟨i4,g8⟩:=zi2 j3 j6;clear j3 j6)|(go_at_call 52;(with_reducible refine (zcx w1.heap.size O _ w2 i4.o hg hz).mono ?_);rintro e1 w3 ⟨rfl,j4,k7⟩;obtain ⟨i5,d7⟩:=zi2 j4 k7;clear j4 k7)|(go_at_call 52;(with_reducible refine (JJ w1.heap.size bank _ w3 i5.o j7 n2).mono ?_);rintro e1 w4 ⟨rfl,q1,k8⟩;have h7:=hid k8;clear q1 k8));have f1:zd w w4:=by
  have e4:=B_call d4.o g8.o;refine (e4.grown d7.o e4.size (fun k hk=>?_)).grown h7.o (zz e4.size d7.o.size) (fun k hk=>?_)
  all_goals
   injection hk with hk;rw [<- hk];exact d4.o.size
 obtain ⟨w5,c6⟩:=ex (w4.alloc (.cells #[.pointer (some ⟨D,0,none⟩),.int .i64 r,.int .u64 O,.int .i64 bank,.slice none 0 0,.int .i64 0] 194));have e8:w5.heap[w4.heap.size]?=some (.cells #[.pointer (some ⟨D,0,none⟩),.int .i64 r,.int .u64 O,.int .i64 bank,.slice none 0 0,.int .i64 0] 194 (0,0)):=by rw [c6];exact zo _ _ rfl
 have f2:zd w w5:=by rw [c6];exact B_alloc f1 _
 have s0:w5.heap.size=w4.heap.size+1:=by rw [c6];simp
 rw [<- c6];obtain ⟨L,e9⟩:=ex w4.heap.size;rw [<- e9] at e8 s0 ⊢;have t6:w.heap.size<=L:=by rw [e9];exact f1.size
 obtain ⟨e0,n4⟩:=zi2 e8 f2;have n7:Hid (jk w5 D F cur):=hid (zK.below HD.o f2);clear f1 c6 e8 f2 e9 i1 h8 i4 i5 d7 h7 d4 g8 hz n2 j7 q4 mb l0;go_upto_region 11 with (go_at_call 118;(with_reducible refine (ziA D F cur L r O bank _ _ (zq rs) w5 n7.o e0.o i3.o hr j9 q5 hg hb).mono ?_);rintro e1 w6 ⟨w0,rfl,a9,c2⟩;obtain ⟨d2,g9⟩:=zi2 a9 c2;clear a9 c2);go_wp2_with fail;have r5:0<(zq rs).length:=by obtain ⟨x,xs,rfl⟩:=List.exists_cons_of_length_pos c5;simp only [zq,qC,zl];have:=Jx x;omega
 obtain ⟨z,ca,s2,t8,k9⟩:=d2.o.form r5;subst s2;have j1:=zg e0.o g9.o (zi e0.o);have c2:=B_call n4.o g9.o;have m7:qP w6 z=5:=own_tag d2.o rfl;obtain ⟨t3,o5,n5⟩:=zi3 m7 j1 c2;clear j1 c2 m7;have t9:L<z:=by omega
 go_loopw [12] (fun v wr=>∃ (j:Nat) (es:List Ent),j<=rs.length/\es.map (fun e=>(e.pl,e.rc))=qL O 0 (rs.take j)/\es.length=j/\GV wr (L+1) v es/\wr.heap[L]?=some (.cells #[.pointer (some ⟨D,0,none⟩),.int .i64 r,.int .u64 O,.int .i64 bank,zlN z (zq (rs.take j)).length,.int .i64 0] 194 (0,0))/\wr.heap[z]?=w6.heap[z]?/\zd w wr/\w6.heap.size<=wr.heap.size) (fun v _=>rs.length-lenOf v)
 case atStart =>exact ⟨0,[],by omega,rfl,rfl,⟨ql _ _ _ _,fun e R=>(by cases R),fun e R=>(by cases R)⟩,o5.o,rfl,n5.o,za _⟩
 case round =>
  obtain ⟨j,es,hj,c0,f5,f6,hL,f7,k1,m6⟩:=hrel;obtain ⟨k,hk⟩:=ex ((zq (rs.take j)).length);rw [<- hk] at hL;have r2:k<=(zq rs).length:=by rw [hk];exact zeq rs j
  obtain ⟨lA,c4⟩:=zlO z k;rw [c4] at hL;have o6:Hid (0<k->lA=some ⟨z,0,none⟩):=hid (fun c1=>by unfold zlN at c4;rw [if_neg (by omega)] at c4;injection c4 with u;exact u.symm);have k4:=xV (Value.slice lA k k) 4 hL;have a9:wr.ownsRow w5.heap.size 5 1 (.slice (some ⟨z,0,none⟩) (zq rs).length ca) (zq rs).length (zD (zq rs)):=own_same d2.o fun x hx=>by
   obtain rfl:z=x:=by injection hx
   exact f7
  have k0:=zj.aj rfl a9;obtain ⟨vd,m3,l3⟩:=zpJ k0 rfl r2;have g3:=m3 wr;obtain ⟨Z,HL,o1,d5,i0,h9,HK,d3⟩:=zi8 f6 hL f7 k1 c0 l3 hk a9;obtain ⟨vA,vc,rfl⟩:=own_slice f6.ba;rw [f5];have a5:=hid f5;clear f6 hL f7 k1 c0 k0 l3 a9 m3 hk c4 f5;by_cases m1:j<rs.length
  ·obtain ⟨x,hx⟩:∃ x,rs[j]?=some x:=⟨_,zX m1⟩;have n1:=o9.o x (zC hx);have d0:(zq rs).drop k=qG x++zq (rs.drop (j+1)):=by rw [HK.o,zkl,List.drop_eq_getElem_cons m1];have:rs[j]=x:=(zr.1 hx).2;rw [this];simp [zq]
   have r9:(zq (rs.drop (j+1))).length<=800000:=by
    have u:((zq rs).drop k).length<=14336:=by rw [qI];omega
    rw [d0,zl] at u;omega
   have hfit:k+(qG x).length<=(zq rs).length:=by have u:((zq rs).drop k).length=(zq rs).length-k:=qI;rw [d0,zl] at u;omega
   have a7:=h9.o;rw [d0] at a7;obtain ⟨o3,HX,i6⟩:=zi3 a7 hx n1;have s5:=Jx x;obtain ⟨n,hn⟩:=ex ((qG x).length);have HN:=hid hn;rw [<- hn] at hfit s5;clear d0 a7 hx n1 hn;have b9:=zgA vd x (zq (rs.drop (j+1))) wr i6.o o3.o r9;rw [<- HN.o] at b9;have d6:=hid b9;clear b9;go_upto_region 14 with (first|(show wpList _ _ _ (⟨some 60,_,_,_,_,_⟩::_) _ _;refine zgp rfl 29 (.tmp 54) (some (.tmp 59)) none none rfl _ _ _ _ (by rfl) (by rfl) (by rfl) (by rfl) _ g3 ?_)|((with_reducible refine aV 119 d6.o ?_);rintro e1 w7 ⟨dv,rfl,f4,c3⟩;obtain ⟨dA,dc,rfl⟩:=own_slice f4;obtain ⟨h5,c7⟩:=zi2 f4 c3;clear f4 c3)|((with_reducible refine hV 13 ?_);refine nV #[.int .i64 x.kind,.int .i64 x.txn,.int .i64 x.E,.int .i64 x.slot,.string (zb (zM x.aa)),.string (zb (zM x.after)),.string (zb x.ao),.slice dA x.Y.length dc] (by simp [Value.oneCell']) ?_));have q0:=zg HL.o c7.o (zi HL.o);obtain ⟨E,a6⟩:=ex (w7.alloc (.cells #[.int .i64 x.kind,.int .i64 x.txn,.int .i64 x.E,.int .i64 x.slot,.string (zb (zM x.aa)),.string (zb (zM x.after)),.string (zb x.ao),.slice dA x.Y.length dc] 144));have e5:E.heap[w7.heap.size]?=some (.cells #[.int .i64 x.kind,.int .i64 x.txn,.int .i64 x.E,.int .i64 x.slot,.string (zb (zM x.aa)),.string (zb (zM x.after)),.string (zb x.ao),.slice dA x.Y.length dc] 144 (0,0)):=by rw [a6];exact zo _ _ rfl
   have a4:zd wr E:=by rw [a6];exact B_alloc c7.o _
   rw [<- a6];have a1:=zg HL.o a4 (zi HL.o);have k3:E.ownsRow wr.heap.size 35 1 (.slice dA x.Y.length dc) x.Y.length (uH x.Y):=by rw [a6];exact own_same h5.o fun q h=>qb _ _ _ (h5.o.lt q h).2
   obtain ⟨a8,a0,t1,n8⟩:=zi4 a1 a4 e5 k3;have s7:=xV (Value.slice lA k k) 4 a1;have hS:=And.intro s7 e5;have r0:k<=100000:=by omega
   have k5:=own_same Z.o.ba fun q h=>a4.block q (Z.o.ba.lt q h).2;have n9:=hid k5;obtain ⟨pl,g0⟩:=ex (jj O k);have p0:=hid g0;have g2:=zmf L O _ _ _ _ _ E.drew k (show E.drew.heap[L]?=_ from a1) hg r0;rw [<- g0] at g2;have p1:=hid g2;have v2:j<=14336:=by
    have u:∀ l:List zQ,l.length<=(zq l).length:=fun l=>by
     induction l with
     | nil=>simp
     | cons y l ih=>simp only [zq,qC,zl,qc] at ih ⊢;have:=Jx y;omega
    have h2:=u (rs.take j);rw [qf,<- HK.o] at h2;omega
   have t7:(yI es).length=j*9:=by have:=Z.o.ba.1;rw [this,a5.o]
   clear a6 a4 a1 e5 k3 k5 g0 g2 q0 g3;refine sV [11] 13 (fun w'=>zH w' L 4 (.slice lA k k)/\jJ w' w7.heap.size #[.int .i64 x.kind,.int .i64 x.txn,.int .i64 x.E,.int .i64 x.slot,.string (zb (zM x.aa)),.string (zb (zM x.after)),.string (zb x.ao),.slice dA x.Y.length dc] 144) hS fun X=>?_;refine pV 0 ?_;refine pV 1 ?_;refine pV 2 ?_;refine pV 3 ?_;refine pV 4 ?_;refine tV 5 ?_;refine pV 6 ?_;refine kV 8 rfl (qR 144 (.tmp 13) rfl rfl w7.heap.size rfl 144 _ (0,0) _ (fun w' q2=>q2.2) underlying144 rfl (by kernel_rfl)) ?_;refine oC 7 p1.o ?_;rintro e1 U ⟨rfl,rfl⟩;refine eV X fun X=>?_;refine pV 9 ?_;refine oV 10 fun K hK=>?_;refine yv 156 167 9 112 (.tmp 76) rfl (.agg (yz ⟨pl,x,.slice dA x.Y.length dc⟩).toArray) (by rfl) underlying156 zjg (by rfl) (by omega) (by omega) ?_;refine hK.out _ _ ⟨yK X.1 _,zw X.2 _⟩ (fun X=>?_);clear hK K;try simp only [pS]
   refine lV 11 fun K hK=>?_;refine Qd (.tmp 67) (.tmp 77) 156 167 9 112 rfl underlying156 zjg (by omega) (.slice vA j vc) j (yI es) (L+1) (by rfl) ?ow (some ⟨E.heap.size,0,none⟩) 1 1 (yz ⟨pl,x,.slice dA x.Y.length dc⟩) _ (by rfl) (zL.bk (zo E.drew _ rfl) rfl) (by intro v7 hu;simp [yz] at hu;rcases hu with rfl | rfl | rfl | rfl | rfl | rfl | rfl | rfl | rfl<;>rfl) (by omega) (by omega) ?hbase9 ?_
   case ow =>have u:=n9.o;rw [a5.o] at u;exact own_same (show E.drew.ownsRow _ _ _ _ _ _ from u) fun q h=>qb _ _ _ (u.lt q h).2
   case hbase9=>have:=zi a8.o;show L+1<=(E.drew.alloc _).heap.size;simp;omega
   intro v9 U f9 d1 q3;obtain ⟨A9,c9,rfl⟩:=own_slice f9;refine hK.out _ _ ?_;clear hK K;try simp only [pS]
   refine pV 12 ?_;refine dV ?_;have g4:∀ q,(Value.slice vA j vc).ownBlock=some q->L<q:=fun q h=>by have:=(Z.o.ba.lt q (by rw [a5.o];exact h)).1;omega
   have a3:=qq (zw (show E.drew.heap[L]?=_ from a8.o) (.cells (yz ⟨pl,x,.slice dA x.Y.length dc⟩).toArray 167)) d1 (fun e=>Nat.lt_irrefl _ (g4 L e));have j8:Below (L+1) E U:=by have u:=zi a8.o;exact ((zf (L+1) E).drew.alloc (show L+1<=E.heap.size by omega) (.cells (yz ⟨pl,x,.slice dA x.Y.length dc⟩).toArray 167)).grown d1 (by show L+1<=(E.drew.alloc _).heap.size;simp;omega) (fun q h=>g4 q h)
   obtain ⟨Y,l7⟩:=ex (k+n);have mk:IntKind.i64.wrap ((k:Int)+(n:Int))=(Y:Int):=by rw [zu];omega
   have q9:0<Y:=by omega
   have q8:Y<=ca:=by
    obtain ⟨g',t4,cur',e,_,_,v3,_⟩:∃ g cap cur,(Value.slice (some ⟨z,0,none⟩) (zq rs).length ca)=.slice (some ⟨g,0,none⟩) (zq rs).length cap/\w5.heap.size<=g/\wr.heap[g]?=some (.cells cur 5 (0,0))/\(zq rs).length<=cap/\cap<=maxLen:=by
     rcases d3.o.2 with ⟨e,_⟩ | ⟨g,cap,cur,e,u,h2,h3,p7,_⟩
     ·cases e
     ·exact ⟨g,cap,cur,e,u,h2,h3,p7⟩
    injection e with _ _ p5;rw [p5];omega
   have s8:=xV (Value.slice lA k k) 4 a3;obtain ⟨c8,h1,o4,o0,i2⟩:=zi5 a3 j8 l7 d1 f9;clear a3 j8 l7 d1 f9 q3 X hS g4;go_upto_region 15 with fail;refine sV [19] 20 (fun w'=>zH w' L 4 (.slice lA k k)) s8 fun X=>?_;refine pV 0 ?_;refine pV 1 ?_;refine pV 2 ?_;refine pV 3 ?_;refine pV 4 ?_;refine tV 5 ?_;refine pV 6 ?_;refine pV 7 ?_;refine pV 8 ?_;refine pV 9 ?_;refine pV 10 ?_;refine pV 11 ?_;refine tV 12 ?_;refine pV 13 ?_;refine pV 14 ?_;refine pV 15 ?_;refine oV 16 fun K hK=>?_;refine zoA 29 (.tmp 80) none (some (.tmp 87)) (some (.tmp 94)) rfl (.slice (some ⟨z,0,none⟩) (zq rs).length ca) none (some (.int .i64 Y)) (some (.int .i64 Y)) (by rfl) (by rfl) (by rfl) (by rfl) _ (zrh _ ⟨z,0,none⟩ _ ca Y q8 q9) ?_;refine hK.out _ _ X (fun X=>?_);clear hK K;try simp only [pS]
   refine pV 17 ?_;refine pV 18 ?_;refine lV 19 fun K hK=>?_;refine jz 29 (.tmp 97) (.tmp 95) rfl L 4 _ 194 (.slice (some ⟨z,0,none⟩) Y Y) (by rfl) (by rfl) (by kernel_rfl) c8.o (by simp) rfl ?_;refine hK.out _ _ ?_;clear hK K;try simp only [pS]
   refine dV ?_;go_roundw
   case rel =>
    (repeat apply Exists.intro)
    refine ⟨?_,rfl⟩;have r1:Y=(zq (rs.take (j+1))).length:=by rw [zep rs j x HX.o,zl,<- HK.o,<- HN.o];exact o4.o
    have r4:(es++[Ent.mk pl x (.slice dA x.Y.length dc)]).map (fun e=>(e.pl,e.rc))=qL O 0 (rs.take (j+1)):=by rw [List.map_append,i0.o,List.take_add_one,HX.o,Option.toList_some,GD,<- HK.o,p0.o,qy];rfl
    have v4:L<E.heap.size:=zi a8.o;have s4:L<wr.heap.size:=zi HL.o;have m5:∀ q,q≠L->(U.drew.setCell ⟨L,4,none⟩ (.slice (some ⟨z,0,none⟩) Y Y)).heap[q]?=U.heap[q]?:=fun q h=>zt _ _ _ _ h;have l1:∀ q,q<E.heap.size->(Value.slice vA j vc).ownBlock≠some q->U.heap[q]?=E.heap[q]?:=fun q h c5=>(o0.o.block q (by simpa using Nat.lt_succ_of_lt h) (fun e=>c5 e.symm)).trans (qb _ _ _ h);have m8:∀ q,(Value.slice vA j vc).ownBlock=some q->qP wr q=167:=fun q h=>own_tag Z.o.ba (by rw [a5.o];exact h);have k2:∀ (dv:Value) (m:Nat) (ys:List Value) (B:Nat),L+1<=B->E.ownsRow B 35 1 dv m ys->(U.drew.setCell ⟨L,4,none⟩ (.slice (some ⟨z,0,none⟩) Y Y)).ownsRow (L+1) 35 1 dv m ys:=fun dv m ys B hB c1 =>
     jK (own_same c1 fun q h=>(m5 q (fun e=>by have:=(c1.lt q h).1;omega)).trans (l1 q (c1.lt q h).2 (fun e=>by
      have u:=own_tag c1 h;have h2:qP E q=167:=by have h3:=Z.o.ba.lt q (by rw [a5.o];exact e);rw [jW (a0.o.block q h3.2)];exact m8 q e
      rw [u] at h2;cases h2))) hB
    refine ⟨j+1,es++[Ent.mk pl x (.slice dA x.Y.length dc)],by omega,r4,by simp [a5.o],⟨?_,?_,?_⟩,?_,?_,?_,?_⟩
    ·rw [zl,a5.o,zeM];exact own_set1 (show U.drew.ownsRow _ _ _ _ _ _ from i2.o) (fun e=>by have:=(i2.o.lt _ e).1;omega) _ _
    ·intro e R;rcases ja.1 R with R | R
     ·have u:=Z.o.Y e R;exact k2 _ _ _ (L+1) (za _) (own_same u fun q h=>a0.o.block q (u.lt q h).2)
     ·simp at R;subst R;exact k2 _ _ _ wr.heap.size s4 n8.o
    ·intro e R;rcases ja.1 R with R | R
     ·exact Z.o.ok e R
     ·simp at R;subst R;exact i6.o
    ·rw [zB _ _ 4 _ _ _ (show U.drew.heap[L]?=_ from c8.o),<- r1];unfold zlN;rw [if_neg (by omega)];rfl
    ·rw [m5 z (by omega)];have h3:z<wr.heap.size:=qg k9 m6;rw [l1 z (qg h3 a0.o.size) (fun e=>by
      have u:=m8 z e;rw [own_tag d3.o rfl] at u;cases u),a0.o.block z h3]
     exact o1.o
    ·exact B_set ((d5.o.trans (a0.o.mono d5.o.size)).trans (h1.o.mono (by omega))).drew (by show w.heap.size<=L;omega) _
    ·have u:=h1.o.size;have h2:=a0.o.size;simp;omega
   case measure =>simp [lenOf];omega
  ·obtain rfl:j=rs.length:=by omega
   have l8:k=(zq rs).length:=by rw [HK.o,qi]
   have a7:=h9.o;rw [l8,List.drop_length] at a7;have c0:=i0.o;rw [qi] at c0;have b9:=zen vd wr a7;have r3:lA=some ⟨z,0,none⟩:=by have u:=(ze wr L 4 _ _ _ HL.o);exact o6.o (by omega)
   subst r3;obtain ⟨d6,o7⟩:=zi2 b9 c0;subst l8;clear a7 b9 c0;go_upto_region 16 with (first|(show wpList _ _ _ (⟨some 60,_,_,_,_,_⟩::_) _ _;refine zgp rfl 29 (.tmp 54) (some (.tmp 59)) none none rfl _ _ _ _ (by rfl) (by rfl) (by rfl) (by rfl) _ g3 ?_)|((with_reducible refine aV 119 d6.o ?_);rintro e1 w7 ⟨rfl,c3⟩;have c7:=hid c3;clear c3)|((with_reducible refine hV 13 ?_);refine nV zca (by simp [zca,Value.oneCell']) ?_));have a4:zd wr (w7.alloc (.cells zca 144)):=B_alloc c7.o _;obtain ⟨E,a6⟩:=ex (w7.alloc (.cells zca 144));rw [<- a6] at a4 ⊢;have a1:=zg HL.o a4 (zi HL.o);have k4:=xV (Value.slice (some ⟨z,0,none⟩) (zq rs).length (zq rs).length) 4 a1;have v6:=xV (Value.int .i64 0) 5 a1;have t5:=zI E L 5 _ _ a1;obtain ⟨a8,a0⟩:=zi2 a1 a4;clear a1 a4 a6;go_upto_region 17 with fail;have a3:(E.setCell ⟨L,5,none⟩ (.int .i64 (zq rs).length)).heap[L]?=some (.cells #[.pointer (some ⟨D,0,none⟩),.int .i64 r,.int .u64 O,.int .i64 bank,.slice (some ⟨z,0,none⟩) (zq rs).length (zq rs).length,.int .i64 (zq rs).length] 194 (0,0)):=by rw [zB _ _ 5 _ _ _ a8.o];rfl
   obtain ⟨U,g5⟩:=ex (E.setCell ⟨L,5,none⟩ (.int .i64 (zq rs).length));rw [<- g5] at a3 ⊢;have s6:=xV (Value.int .i64 bank) 3 a3;have k4:=xV (Value.slice (some ⟨z,0,none⟩) (zq rs).length (zq rs).length) 4 a3;obtain ⟨c8,e3⟩:=zi2 a3 g5;have hS:=And.intro s6 k4;have l5:(0:Int)<=(bank:Int):=by omega
   have l6:(bank:Int)<=1:=by omega
   obtain ⟨fr,k6⟩:=ex (2+bank*256+((zq rs).length+55) / 56);have s9:IntKind.i64.wrap (2+(bank:Int)*256+IntKind.i64.wrap ((IntKind.i64.wrap (IntKind.i64.wrap (((zq rs).length:Int)+56)-1)).tdiv 56))=(fr:Int):=by
    have p3:IntKind.i64.wrap (((zq rs).length:Int)+56)=((zq rs).length:Int)+56:=by rw [zu];omega
    have a2:IntKind.i64.wrap (((zq rs).length:Int)+56-1)=((zq rs).length:Int)+55:=by rw [zu];omega
    rw [p3,a2,Int.tdiv_eq_ediv_of_nonneg (by omega)];have p4:IntKind.i64.wrap ((((zq rs).length:Int)+55) / 56)=(((zq rs).length:Int)+55) / 56:=by rw [zu];omega
    rw [p4,zu];omega
   have h6:=hid k6;clear a3 g5 k6;refine sV [] 15 (fun w'=>zH w' L 3 (.int .i64 bank)/\zH w' L 4 (.slice (some ⟨z,0,none⟩) (zq rs).length (zq rs).length)) hS fun X=>?_;refine pV 0 ?_;refine pV 1 ?_;refine pV 2 ?_;refine tV 3 ?_;refine pV 5 ?_;refine pV 6 ?_;refine pV 7 ?_;refine tV 8 ?_;refine pV 9 ?_;refine pV 10 ?_;refine pV 11 ?_;refine pV 12 ?_;refine oC 4 (JH bank U.drew l5 l6) ?_;rintro e1 t0 ⟨rfl,rfl⟩;refine eV X fun X=>?_;refine pV 13 ?_;refine pV 14 ?_;refine dV ?_;have f3:zd w U:=by rw [e3.o];exact B_set (B_call d5.o a0.o) (by show w.heap.size<=L;omega) _
   have i9:zK U.drew D F cur (fun _=>0):=zK.drew (zK.below HD.o f3);have m4:(2+(bank:Int)*256+256)=((2+bank*256+256:Nat):Int):=by omega
   have g6:=zdC D F cur (fun _=>0) r fr (2+bank*256+256) U.drew i9 hr (by omega) (by omega);rw [<- m4] at g6;obtain ⟨p2,h4⟩:=zi2 g6 f3;clear f3 i9 m4 g6 hS X s9;go_upto_region 21 with (first|((with_reducible refine aV 111 (JH bank U.drew l5 l6) ?_);rintro e1 t0 ⟨rfl,s3⟩;subst s3)|((with_reducible refine aV 110 p2.o ?_);rintro e1 g7 ⟨rfl,n3,i8,j0,j2⟩;obtain ⟨n6,d8,o8⟩:=zi3 i8 j0 j2;clear i8 j0 j2));have e6:∀ q,F q->q<w.heap.size:=fun q h=>zK.lt HD.o q h;have n0:∀ q,q<wr.heap.size->q≠L->w.heap.size<=q->g7.heap[q]?=wr.heap[q]?:=fun q h c5 l0=>by
    have p8:=a0.o.block q h;have p9:U.heap[q]?=E.heap[q]?:=by rw [e3.o];exact zt _ _ _ _ c5
    have p6:g7.heap[q]?=U.heap[q]?:=d8.o.block q (by
     have:U.drew.heap.size=E.heap.size:=by show U.heap.size=_;rw [e3.o];simp
     rw [this];exact qg h a0.o.size) (fun e=>by have:=e6 q e;omega)
    rw [p6,p9,p8]
   have e7:=qK (show U.drew.heap[L]?=_ from c8.o) d8.o (fun e=>by have:=e6 L e;omega);have v5:=xV (Value.slice (some ⟨z,0,none⟩) (zq rs).length (zq rs).length) 4 e7;obtain ⟨d9,e2⟩:=zi2 e7 n0;clear e6 n0 e7;go_wp2_with fail;go_ret3;have q7:z<wr.heap.size:=qg k9 m6;have q6:=e2.o z q7 (by omega) (by omega);have f0:=own_same d3.o fun q h=>by
    obtain rfl:z=q:=by injection h
    exact q6
   have m9:qP g7 z=5:=own_tag f0 rfl;refine ⟨L,_,n3,fun q=>q=L∨q=z,es,rfl,⟨⟨_,d9.o,.inr ⟨⟨z,0,none⟩,rfl,zL.aj f0,by unfold maxLen;omega,m9⟩,fun q h=>.inr (by injection h with h;exact h.symm)⟩,.inl rfl,?_,?_⟩,?_,⟨?_,?_,Z.o.ok⟩,o7.o,?_,?_,?_⟩
   ·rintro q (rfl | rfl)
    ·exact zi d9.o
    ·exact (f0.lt _ rfl).2
   ·rintro q (rfl | rfl)
    ·rw [zh d9.o];simp
    ·rw [m9];simp
   ·refine zK.mono (zK.congr n6.o fun r' q r6 h=>?_) fun r' r6=>?_
    ·unfold yR;by_cases e:r'=r
     ·subst e;simp only [zk];by_cases i7:fr<=q/\q<2+bank*256+256
      ·rw [if_pos i7];have u:=i3.o.2 (q-(2+bank*256)) (by omega);rw [show 2+bank*256+(q-(2+bank*256))=q by have:=h6.o;omega] at u;rw [u,if_neg (by have:=h6.o;omega)]
      ·rw [if_neg i7]
     ·simp only [zy _ _ e]
    ·by_cases e:r'=r
     ·subst e;simp only [zk];exact za _
     ·simp only [zy _ _ e];exact za _
   ·have u:=own_same Z.o.ba fun q h=>by have h2:=Z.o.ba.lt q h;exact e2.o q h2.2 (by omega) (by omega)
    rw [a5.o] at u ⊢;exact jK u (by omega)
   ·intro e R;have h0:=Z.o.Y e R;exact jK (own_same h0 fun q h=>by
     have h2:=h0.lt q h;exact e2.o q h2.2 (by omega) (by omega)) (by omega)
   ·exact (zA.ak h4.o.drew).next d8.o (qN.refl _ _)
   ·exact qN.mono o8.o h4.o.size
   ·rintro q (rfl | rfl)<;>omega
end Go.Proofs.YtechnoogjhohfaaGreat
