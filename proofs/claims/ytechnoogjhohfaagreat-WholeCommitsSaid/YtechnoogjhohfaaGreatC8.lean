/-
  Joined by a program from texts written one by one: part 8 of the walk through the program and of the law behind it.
-/
import Derived.Test.YtechnoogjhohfaaGreatC6
import Derived.Test.YtechnoogjhohfaaGreatC7
import Derived.Deep.WholeRow
import Derived.Great.BuildSlice
import Derived.Laws.CopyOwn
import Derived.Outline
import Derived.Stop.BytesEq
set_option maxRecDepth 100000
set_option maxHeartbeats 6400000
set_option linter.unusedVariables false
set_option linter.unusedSimpArgs false
namespace Go.Proofs.YtechnoogjhohfaaGreat
open Go.RowKit Go.Lib
open YtechnoogjhohfaaGreatW
section
theorem zx.src {w:World} {B n:Nat} {A:Option Addr} {xs:List Value} (h:zx w B 1 A n xs) (h0:0<xs.length):∃ ad,A=some ad/\∀ j v,xs[j]?=some v->w.cell? (ad.add j)=some v:=by
 obtain ⟨ad,e,_,hc⟩:=h.2 (by have:=h.1;omega)
 exact ⟨ad,e,hc⟩
def bA (n m:Nat):Array Bool:=((List.range n).map fun i=>m.testBit i).toArray
theorem zx.of_list {w:World} {g size n:Nat} {xs:List Value} {t:TypeId} {fr:Nat × Nat} (h:w.heap[g]?=some (.cells xs.toArray t fr)) (hn:xs.length=n*size):zx w w.heap.size size (some ⟨g,0,none⟩) n xs :=
 ⟨hn,fun _=>⟨_,rfl,(Array.getElem?_eq_some_iff.1 h).1,fun j u hu=>by
  rw [Addr.add_mid,Nat.zero_add,cell_of_row w g j _ t fr h]
  simpa using hu⟩⟩
theorem zex {w:World} {B:Nat} {e:TypeId} {s:Nat} {v:Value} {n:Nat} {xs:List Value} (h:w.ownsRow B e s v n xs):v.oneCell'=true:=by
 obtain ⟨A,c,rfl⟩:=own_slice h
 rfl
theorem yO {w w':World} (h:Below w.drew.heap.size w.drew w'):Below w.heap.size w w':=⟨h.os,h.tape,h.output,h.size,h.block⟩
section
variable {w w':World} {k:Nat} {x:Obj}
theorem zd (h:w.heap[k]?=some x):k<w.heap.size:=(Array.getElem?_eq_some_iff.1 h).1
theorem zk (w:World) (o:Obj) {n:Nat} (hn:n=w.heap.size):(w.alloc o).heap[n]?=some o:=by rw [hn];exact heap_alloc_new w o
theorem zy (h:w.heap[k]?=some x) (o:Obj):(w.alloc o).heap[k]?=some x:=(Below.heap_alloc w o k (zd h)).trans h
theorem zX {row:Option Nat} (h:w.heap[k]?=some x) (hg:w.grownBy w' row) (hn:row≠some k):w'.heap[k]?=some x:=(hg.block k (zd h) (fun e=>hn e.symm)).trans h
theorem zb {B:Nat} (h:w.heap[k]?=some x) (hb:Below B w w') (hk:k<B):w'.heap[k]?=some x:=(hb.block k hk).trans h
theorem qj {M:Nat->Prop} (h:w.heap[k]?=some x) (hb:zr M w w') (hk:¬ M k):w'.heap[k]?=some x:=(hb.block k (zd h) hk).trans h
theorem us (h:w.heap[k]?=some x) {p:Addr} (hk:k≠p.block) (u:Value):(w.setCell p u).heap[k]?=some x:=(heap_setCell_other _ _ _ _ hk).trans h
end
section
variable {w w':World} {p:Addr} {v:Value}
theorem uj (h:w.cell? p=some v):p.block<w.heap.size:=World.block_lt_of_cell? w p h
theorem jI (h:w.cell? p=some v) (o:Obj):(w.alloc o).cell? p=some v:=(World.cell?_of_block (Below.heap_alloc w o p.block (uj h))).trans h
theorem uq {row:Option Nat} (h:w.cell? p=some v) (hg:w.grownBy w' row) (hn:row≠some p.block):w'.cell? p=some v:=(World.cell?_of_block (hg.block p.block (uj h) (fun e=>hn e.symm))).trans h
theorem qk {B:Nat} (h:w.cell? p=some v) (hb:Below B w w') (hk:p.block<B):w'.cell? p=some v:=(World.cell?_of_block (hb.block p.block hk)).trans h
theorem ue {M:Nat->Prop} (h:w.cell? p=some v) (hb:zr M w w') (hk:¬ M p.block):w'.cell? p=some v:=(World.cell?_of_block (hb.block p.block (uj h) hk)).trans h
end
section
variable {P:Program}
structure yU (P:Program) (e size bytes:Nat):Prop where
 ex:∃ i z,P.info? e=some i/\i.zero=some z/\i.size=size/\i.bytes=bytes/\z.cells.size=size
theorem yU.of {e size bytes:Nat} (h:(P.info? e).map (fun i=>(i.zero.map (·.cells.size),i.size,i.bytes))=some (some size,size,bytes)):yU P e size bytes:=by
 cases hi:P.info? e with
 | none=>simp [hi] at h
 | some i =>
  simp only [hi,Option.map_some,Option.some.injEq,Prod.mk.injEq] at h
  obtain ⟨h1,h2,h3⟩:=h
  cases hz:i.zero with
  | none=>simp [hz] at h1
  | some z =>
   simp only [hz,Option.map_some,Option.some.injEq] at h1
   exact ⟨i,z,hi,hz,h2,h3,h1⟩
theorem zfu (w:World) (t e size bytes:Nat) (v:Value) (hu:P.underlying t=some (.slice e)) (hE:yU P e size bytes) (hv:v.cells.size=size) (h0:0<size) (hs:size<=100000) :
  (Instr.buildSlice t 1 #[(0,v)]).run P w=.ok (.slice (some ⟨w.heap.size,0,none⟩) 1 1) (w.alloc (.cells v.cells e)):=by
 obtain ⟨i,z,hi,hz,hsz,hby,hzc⟩:=hE.ex
 refine run_buildSlice w t e 1 #[(0,v)] v.cells i z hu hi hz (by rw [hsz];omega) (by rw [hsz];omega) ?_
 have:=Great.fill_whole (s:=i.size) (by omega) [v] ((Array.range (1*i.size)).map (z.cells[· % z.cells.size]!)) (by simpa [hsz] using hv) (by simp)
 simpa using this
theorem vf {o:Oper} {a:Act} {w:World} {K:Act->World->Prop} {Q:Exit->Act->World->Prop} (t e size bytes:Nat) (x:Operand) (ho:o.op=.buildSlice t 1 #[(0,x)]) (v:Value) (hx:a.eval x=v)
  (hu:P.underlying t=some (.slice e)) (hE:yU P e size bytes) (hv:v.cells.size=size) (h0:0<size) (hs:size<=100000)
  (h:K (a.put o.dst (.slice (some ⟨w.heap.size,0,none⟩) 1 1)) (w.alloc (.cells v.cells e))):o.wp P a w K Q:=by
 unfold Oper.wp execOp
 have:=zfu (P:=P) w t e size bytes v hu hE hv h0 hs
 subst hx
 simp only [ho,Sem.run_bind,List.map_toArray,List.map_cons,List.map_nil,this,Result.andThen_ok]
 exact h
theorem uZ {w:World} {o:Oper} {a:Act} {K:Act->World->Prop} {Q:Exit->Act->World->Prop} (s x:Operand) (t e size bytes:Nat)
  (ho:o.op=.call { callee:=.builtin .append,args:=#[s,x],argTypes:=#[t,t] }) (ht:P.underlying t=some (.slice e)) (hE:yU P e size bytes) (hsz:0<size)
  (v:Value) (n:Nat) (xs:List Value) (base:Nat) (hs:a.eval s=v) (hown:w.ownsRow base e size v n xs)
  (A:Option Addr) (m c:Nat) (news:List Value) (B:Nat) (hx:a.eval x=.slice A m c) (hr:zx w B size A m news) (h1:∀ u∈news,u.oneCell'=true)
  (h63:n+m<=10000000) (hb:bytes<=10000) (hbase:base<=w.heap.size)
  (h:∀ v' w',w'.ownsRow base e size v' (n+m) (xs++news)->w.grownBy w' v.ownBlock->(v'.ownBlock=v.ownBlock∨v'.ownBlock=some w.heap.size)->K (a.put o.dst v') w'):o.wp P a w K Q:=by
 obtain ⟨i,z,hi,hz,hsi,hby,hzc⟩:=hE.ex
 refine Kk w s x t ho base e i z size bytes ht hi hz hsi hby hzc hsz v n xs hs hown B A m c news hx hr h1 (by unfold maxLen;omega) ?_ hbase h
 exact Nat.le_trans (Nat.mul_le_mul h63 hb) (by omega)
theorem qW {w:World} {ops:Array Oper} {rest:List Oper} {o:Oper} {a:Act} {Q:Exit->Act->World->Prop} (hgd:o.guard=none) (s x:Operand) (t e size bytes:Nat)
  (ho:o.op=.call { callee:=.builtin .append,args:=#[s,x],argTypes:=#[t,t] }) (ht:P.underlying t=some (.slice e)) (hE:yU P e size bytes) (hsz:0<size)
  (v:Value) (n:Nat) (xs:List Value) (base:Nat) (hs:a.eval s=v) (hown:w.ownsRow base e size v n xs)
  (A:Option Addr) (m c:Nat) (news:List Value) (B:Nat) (hx:a.eval x=.slice A m c) (hr:zx w B size A m news) (h1:∀ u∈news,u.oneCell'=true)
  (h63:n+m<=10000000) (hb:bytes<=10000) (hbase:base<=w.heap.size)
  (h:∀ v' w',w'.ownsRow base e size v' (n+m) (xs++news)->w.grownBy w' v.ownBlock->(v'.ownBlock=v.ownBlock∨v'.ownBlock=some w.heap.size)->wpList P ops Q rest (a.put o.dst v') w'):wpList P ops Q (o::rest) a w :=
 wpList_plain hgd fun _ hK=>uZ s x t e size bytes ho ht hE hsz v n xs base hs hown A m c news B hx hr h1 h63 hb hbase fun v' w' h2 h3 h4=>hK _ _ (h v' w' h2 h3 h4)
theorem zx.of_block {w:World} {g size n:Nat} {C:Array Value} {t:TypeId} {fr:Nat × Nat} (h:w.heap[g]?=some (.cells C t fr)) (hn:C.size=n*size):zx w w.heap.size size (some ⟨g,0,none⟩) n C.toList :=
 ⟨by simpa using hn,fun _=>⟨_,rfl,(Array.getElem?_eq_some_iff.1 h).1,fun j u hu=>by
  rw [Addr.add_mid,Nat.zero_add,cell_of_row w g j C t fr h]
  simpa using hu⟩⟩
theorem uN {fn:Func} {R:Ending->World->Prop} {a:Act} {w:World} (hr:fn.results=#[]) (hd:a.defers=[]) (hR:R (.returned (.tuple #[])) w):bodyPost P fn R .normal a w :=
 bodyPost_end (results_none hr _ _ _) hd hR
theorem zaS {fn:Func} {R:Ending->World->Prop} {a:Act} {w:World} (p:Tmp) (ty:TypeId) (h:fn.results=#[.cell p ty]) (hd:a.defers=[]) (g:Nat) (t:TypeId) (cs:Array Value) (fr:Nat × Nat) (d:TypeDesc)
  (hp:a.tmps.getD p undef=.pointer (some ⟨g,0,none⟩)) (hg:w.heap[g]?=some (.cells cs t fr)) (hu:P.underlying ty=some d) (hr:(match d with | .struct _ | .array _ _=>true | _=>false)=true) (hi:(P.info? ty).map (·.size)=some cs.size)
  (hR:R (.returned (.agg cs)) w):bodyPost P fn R .ret a w :=
 bodyPost_ret (results_cell_row h _ w g t cs fr d hp hg hu hr hi) hd hR
theorem jO {fn:Func} {R:Ending->World->Prop} {a:Act} {w:World} (p u:Tmp) (ty:TypeId) (h:fn.results=#[.cell p ty,.tmp u]) (hd:a.defers=[]) (g:Nat) (t:TypeId) (cs:Array Value) (fr:Nat × Nat) (d:TypeDesc) (x:Value)
  (hp:a.tmps.getD p undef=.pointer (some ⟨g,0,none⟩)) (hx:a.tmps.getD u undef=x) (hg:w.heap[g]?=some (.cells cs t fr)) (hu:P.underlying ty=some d) (hr:(match d with | .struct _ | .array _ _=>true | _=>false)=true) (hi:(P.info? ty).map (·.size)=some cs.size)
  (hR:R (.returned (.tuple #[.agg cs,x])) w):bodyPost P fn R .ret a w:=by
 refine bodyPost_ret ?_ hd hR
 have hp':a.tmps[p]?.getD undef=.pointer (some ⟨g,0,none⟩):=by simpa using hp
 have hx':a.tmps[u]?.getD undef=x:=by simpa using hx
 simp [results,h,hp',hx',asAddr,run_loadVar_row w g t ty cs fr d hg hu hr hi]
theorem KN {fn:Func} {R:Ending->World->Prop} {a:Act} {w:World} (p u q:Tmp) (ty:TypeId) (h:fn.results=#[.cell p ty,.tmp u,.tmp q]) (hd:a.defers=[]) (g:Nat) (t:TypeId) (cs:Array Value) (fr:Nat × Nat) (d:TypeDesc) (x y:Value)
  (hp:a.tmps.getD p undef=.pointer (some ⟨g,0,none⟩)) (hx:a.tmps.getD u undef=x) (hy:a.tmps.getD q undef=y) (hg:w.heap[g]?=some (.cells cs t fr)) (hu:P.underlying ty=some d) (hr:(match d with | .struct _ | .array _ _=>true | _=>false)=true) (hi:(P.info? ty).map (·.size)=some cs.size)
  (hR:R (.returned (.tuple #[.agg cs,x,y])) w):bodyPost P fn R .ret a w:=by
 refine bodyPost_ret ?_ hd hR
 have hp':a.tmps[p]?.getD undef=.pointer (some ⟨g,0,none⟩):=by simpa using hp
 have hx':a.tmps[u]?.getD undef=x:=by simpa using hx
 have hy':a.tmps[q]?.getD undef=y:=by simpa using hy
 simp [results,h,hp',hx',hy',asAddr,run_loadVar_row w g t ty cs fr d hg hu hr hi]
theorem vu {o:Oper} {a:Act} {w w1:World} {v:Value} {K:Act->World->Prop} {Q:Exit->Act->World->Prop} (hrun:(execOp a.eval o).run P w=.ok (.value v) w1) (h:K (a.put o.dst v) w1):o.wp P a w K Q:=by
 unfold Oper.wp
 rw [hrun]
 exact h
theorem vR {o:Oper} {a:Act} {w:World} {K:Act->World->Prop} {Q:Exit->Act->World->Prop} (s d:TypeId) (x:Operand) (ho:o.op=.convert s d x) (v v':Value) (hx:a.eval x=v) (hrun:(convert s d v).run P w=.ok v' w)
  (h:K (a.put o.dst v') w):o.wp P a w K Q:=by
 refine vu ?_ h
 unfold execOp
 simp [ho,hx,hrun]
theorem vg {ops:Array Oper} {S:World->Prop} {op:Oper} {a:Act} (s d:TypeId) (x:Operand) (ho:op.op=.convert s d x) (hw:Region.wanted op (yielded ops a.tmps)=true) (v v':Value)
  (hx:a.eval x=v) (hS:∀ w,S w->(convert s d v).run P w=.ok v' w):YieldsIf P ops S op v' a :=
 .inl ⟨hw,fun w hw'=>by
  unfold execOp
  simp [ho,hx,hS w hw']⟩
theorem zkl {o:Oper} {a:Act} {w w1:World} {K:Act->World->Prop} {Q:Exit->Act->World->Prop} (t:TypeId) (x y:Operand) (ho:o.op=.makeSlice t x y) (n c v:Value) (hx:a.eval x=n) (hy:a.eval y=c) (hrun:(Instr.makeSlice t n c).run P w=.ok v w1)
  (h:K (a.put o.dst v) w1):o.wp P a w K Q:=by
 refine vu ?_ h
 unfold execOp
 simp [ho,hx,hy,hrun]
theorem YR {o:Oper} {a:Act} {w:World} {K:Act->World->Prop} {Q:Exit->Act->World->Prop} (t:TypeId) (ho:o.op=.alloc t) (n:Nat) (hn:n=w.heap.size) (z:Value) (hz:(P.info? t).map (·.zero)=some (some z))
  (h:K (a.put o.dst (.pointer (some ⟨n,0,none⟩))) (w.alloc (.cells z.cells t))):o.wp P a w K Q:=by
 subst hn
 refine vu (w1:=w.alloc (.cells z.cells t)) ?_ h
 cases hq:P.info? t with
 | none=>simp [hq] at hz
 | some i =>
  have hz':i.zero=some z:=by simpa [hq] using hz
  unfold execOp
  simp [ho,Instr.alloc,zeroValue,typeInfo,hq,hz',newVar,newRow]
theorem uC {o:Oper} {a:Act} {w:World} {K:Act->World->Prop} {Q:Exit->Act->World->Prop} (t:TypeId) (x y:Operand) (ho:o.op=.store t x y) (n:Nat) (hn:n=w.heap.size) (c c':Array Value) (hx:a.eval x=.pointer (some ⟨n,0,none⟩)) (hy:a.eval y=.agg c')
  (hi:(P.info? t).map (·.size)=some c'.size) (hs:c.size=c'.size) (h1:c'.all (·.oneCell')=true) (h:K (a.put o.dst undef) (w.alloc (.cells c' t))):o.wp P a (w.alloc (.cells c t)) K Q:=by
 subst hn
 unfold Oper.wp execOp
 simp only [ho,hx,hy,Sem.run_bind,run_storeAt_new w t c c' hi hs h1,Result.andThen_ok]
 exact h
theorem zq {o:Oper} {a:Act} {w:World} {K:Act->World->Prop} {Q:Exit->Act->World->Prop} (f:FuncId) (xs:Array Operand) (ts:Array TypeId) (args:List Value) (hop:o.op=.call { callee:=.value (.func f),args:=xs,argTypes:=ts })
  (hf : (P.funcs[f]?).map (fun fn => (fn.name == "runtime.NumGoroutine", fn.body.isSome)) = some (false, true)) (hargs : xs.toList.map a.eval = args)
  (h:Calls P f args.toArray w fun e w'=>∃ v,e=.returned v/\K (a.put o.dst v) w'):o.wp P a w K Q:=by
 cases hq:P.funcs[f]? with
 | none=>simp [hq] at hf
 | some fn =>
  simp only [hq,Option.map_some,Option.some.injEq,Prod.mk.injEq] at hf
  have he:=PrintLast.enters_ hq hf.1 hf.2 args.toArray w
  have hmap:xs.map a.eval=args.toArray:=by rw [<- hargs];apply Array.toList_inj.1;rw [Array.toList_map]
  unfold Oper.wp
  have hrun:(execOp a.eval o).run P w=.ok (.enter f args.toArray) w:=by
   unfold execOp
   simp only [hop,resolve,Deferred.ofValue,invoke,Act.eval,Sem.run_bind,Sem.run_pure,Result.andThen_ok]
   rw [show (xs.map (fun x=>a.eval x))=args.toArray from hmap] at *
   simp [he,hmap]
  rw [hrun,Oper.upon_enter]
  refine h.mono fun e w'' hh=>?_
  obtain ⟨v,rfl,hk⟩:=hh
  exact hk
theorem zZ {ops:Array Oper} {rest:List Oper} {o:Oper} {a:Act} {w:World} {Q:Exit->Act->World->Prop} (hg:o.guard=none) (v:Value) (w1:World) (hrun:(execOp a.eval o).run P w=.ok (.value v) w1) (h:wpList P ops Q rest (a.put o.dst v) w1):wpList P ops Q (o::rest) a w :=
 wpList_plain hg fun _ hK=>vu hrun (hK _ _ h)
theorem KV {ops:Array Oper} {rest:List Oper} {o:Oper} {a:Act} {w:World} {Q:Exit->Act->World->Prop} (hw:Region.wanted o (yielded ops a.tmps)=true) (v:Value) (w1:World) (hrun:(execOp a.eval o).run P w=.ok (.value v) w1) (h:wpList P ops Q rest (a.put o.dst v) w1):wpList P ops Q (o::rest) a w :=
 wpList_step fun K hK=>by rw [if_pos hw];exact vu hrun (hK _ _ h)
theorem qy {o:Oper} {a:Act} {w:World} (ty:TypeId) (x:Operand) (ho:o.op=.load ty x) (b off:Nat) (hx:a.eval x=.pointer (some ⟨b,off,none⟩)) (cs:List Value) (d:TypeDesc) (hc:w.rangeAt b off cs)
  (hu:P.underlying ty=some d) (hd:d.isRow=true) (hi:(P.info? ty).map (·.size)=some cs.length):(execOp a.eval o).run P w=.ok (.value (.agg cs.toArray)) w:=by
 unfold execOp
 simp only [ho,hx,Instr.loadAt,Instr.sureAddr,Sem.run_bind,Sem.run_pure,Result.andThen_ok,run_loadVar_mid w b off ty cs d hc hu hd hi]
theorem Ys {o:Oper} {a:Act} {w w1:World} (op:BinOp) (t t2:TypeId) (x y:Operand) (ho:o.op=.binOp op t x y t2) (vx vy v:Value) (hx:a.eval x=vx) (hy:a.eval y=vy)
  (hg:(eqGuard op t x y vx vy).run P w=.ok () w) (hrun:(binOp op t vx vy).run P w=.ok v w1):(execOp a.eval o).run P w=.ok (.value v) w1:=by
 unfold execOp
 simp only [ho,hx,hy,Sem.run_bind,hg,hrun,Result.andThen_ok,Sem.run_pure]
theorem zeC (w:World) (op:BinOp) (t:TypeId) (x y:Operand) (a b:Array Value) (h:P.eqGuardType P.depth t=false):(eqGuard op t x y (.agg a) (.agg b)).run P w=.ok () w:=by
 cases op<;>simp [eqGuard,h]
theorem zN {ops:Array Oper} {rest:List Oper} {o:Oper} {a:Act} {w:World} {Q:Exit->Act->World->Prop} (hg:o.guard=none) (t:TypeId) (x y:Operand) (ho:o.op=.store t x y) (n:Nat) (hn:n=w.heap.size) (c c':Array Value) (hx:a.eval x=.pointer (some ⟨n,0,none⟩)) (hy:a.eval y=.agg c')
  (hi:(P.info? t).map (·.size)=some c'.size) (hs:c.size=c'.size) (h1:c'.all (·.oneCell')=true) (h:wpList P ops Q rest (a.put o.dst undef) (w.alloc (.cells c' t))):wpList P ops Q (o::rest) a (w.alloc (.cells c t)) :=
 wpList_plain hg fun _ hK=>uC t x y ho n hn c c' hx hy hi hs h1 (hK _ _ h)
theorem zjq {o:Oper} {a:Act} {w:World} {K:Act->World->Prop} {Q:Exit->Act->World->Prop} (t:TypeId) (x:Operand) (lo hi mx:Option Operand) (ho:o.op=.slice t x lo hi mx) (vx:Value) (vl vh vm:Option Value)
  (hx:a.eval x=vx) (hl:lo.map a.eval=vl) (hh:hi.map a.eval=vh) (hm:mx.map a.eval=vm) (v':Value) (hrun:(Instr.sliceAt t vx vl vh vm).run P w=.ok v' w) (h:K (a.put o.dst v') w):o.wp P a w K Q:=by
 refine vu ?_ h
 subst hx hl hh hm
 unfold execOp
 simp only [ho,Sem.run_bind,hrun,Result.andThen_ok,Sem.run_pure]
theorem zbS {ops:Array Oper} {rest:List Oper} {o:Oper} {a:Act} {w:World} {Q:Exit->Act->World->Prop} (hg:o.guard=none) (t:TypeId) (x:Operand) (lo hi mx:Option Operand) (ho:o.op=.slice t x lo hi mx) (vx:Value) (vl vh vm:Option Value)
  (hx:a.eval x=vx) (hl:lo.map a.eval=vl) (hh:hi.map a.eval=vh) (hm:mx.map a.eval=vm) (v':Value) (hrun:(Instr.sliceAt t vx vl vh vm).run P w=.ok v' w) (h:wpList P ops Q rest (a.put o.dst v') w):wpList P ops Q (o::rest) a w :=
 wpList_plain hg fun _ hK=>zjq t x lo hi mx ho vx vl vh vm hx hl hh hm v' hrun (hK _ _ h)
theorem zgJ {v:Value} (h:v.oneCell'=true):v.cells=#[v]:=by cases v<;>first | rfl | simp [Value.oneCell'] at h
theorem zfy (w:World) (t b o:Nat) (C:Array Value) (e:TypeId) (v:Value) (hi:(P.info? t).map (·.size)=some 1) (hb:w.heap[b]?=some (.cells C e (0,0))) (ho:o<C.size) (hv:v.oneCell'=true) :
  (storeVar t ⟨b,o,none⟩ v).run P w=.ok () (w.setCell ⟨b,o,none⟩ v):=by
 cases hq:P.info? t with
 | none=>simp [hq] at hi
 | some i =>
  have hs:i.size=1:=by simpa [hq] using hi
  have hc:w.cell? ⟨b,o,none⟩=some C[o]:=by rw [cell_of_row w b o C e _ hb];exact Array.getElem?_eq_getElem ho
  have hf:w.frozen? ⟨b,o,none⟩=false:=frozen_of_row w b o C e hb
  have h0:(⟨b,o,none⟩:Addr).add 0=⟨b,o,none⟩:=rfl
  simp [storeVar,zgJ hv,sizeOf,typeInfo,hq,hs,storeCells,run_store P _ _ v _ hv,h0,hc,hf,Result.andThen]
theorem jp {op:Oper} {a:Act} {w:World} {K:Act->World->Prop} {Q:Exit->Act->World->Prop} (t:TypeId) (x y:Operand) (ho:op.op=.store t x y) (b o:Nat) (C:Array Value) (e:TypeId) (v:Value)
  (hx:a.eval x=.pointer (some ⟨b,o,none⟩)) (hy:a.eval y=v) (hi:(P.info? t).map (·.size)=some 1) (hb:w.heap[b]?=some (.cells C e (0,0))) (hlt:o<C.size) (hv:v.oneCell'=true)
  (h:K (a.put op.dst undef) (w.setCell ⟨b,o,none⟩ v)):op.wp P a w K Q:=by
 unfold Oper.wp execOp
 simp only [ho,hx,hy,Instr.storeAt,Instr.sureAddr,Sem.run_bind,Sem.run_pure,Result.andThen_ok,zfy w t b o C e v hi hb hlt hv]
 exact h
theorem vC {ops:Array Oper} {rest:List Oper} {op:Oper} {a:Act} {w:World} {Q:Exit->Act->World->Prop} (hgd:op.guard=none) (t:TypeId) (x y:Operand) (ho:op.op=.store t x y) (b o:Nat) (C:Array Value) (e:TypeId) (v:Value)
  (hx:a.eval x=.pointer (some ⟨b,o,none⟩)) (hy:a.eval y=v) (hi:(P.info? t).map (·.size)=some 1) (hb:w.heap[b]?=some (.cells C e (0,0))) (hlt:o<C.size) (hv:v.oneCell'=true)
  (h:wpList P ops Q rest (a.put op.dst undef) (w.setCell ⟨b,o,none⟩ v)):wpList P ops Q (op::rest) a w :=
 wpList_plain hgd fun _ hK=>jp t x y ho b o C e v hx hy hi hb hlt hv (hK _ _ h)
theorem qE {ops:Array Oper} {S:World->Prop} {op:Oper} {a:Act} (ty:TypeId) (x:Operand) (ho:op.op=.load ty x) (hw:Region.wanted op (yielded ops a.tmps)=true)
  (g:Nat) (hx:a.eval x=.pointer (some ⟨g,0,none⟩)) (t:TypeId) (cs:Array Value) (fr:Nat × Nat) (d:TypeDesc) (hS:∀ w,S w->w.heap[g]?=some (.cells cs t fr))
  (hu:P.underlying ty=some d) (hd:(match d with | .struct _ | .array _ _=>true | _=>false)=true) (hi:(P.info? ty).map (·.size)=some cs.size):YieldsIf P ops S op (.agg cs) a :=
 .inl ⟨hw,fun w hw'=>by
  unfold execOp
  simp only [ho,hx,Instr.loadAt,Instr.sureAddr,Sem.run_bind,Sem.run_pure,Result.andThen_ok,run_loadVar_row w g t ty cs fr d (hS w hw') hu hd hi]⟩
end
end
section
theorem pS:(∀ (a:Act) (t:Tmp) (v:Value),a.put (some t) v={ a with tmps:=a.tmps.setIfInBounds t v })/\(∀ (a:Act) (v:Value),a.put none v=a)/\(∀ (l:List Value) (i:Nat) (v:Value),l.toArray.setIfInBounds i v=(l.set i v).toArray)/\(∀ (x:Value) (xs:List Value) (v:Value),(x::xs).set 0 v=v::xs)/\(∀ (x:Value) (xs:List Value) (n:Nat) (v:Value),(x::xs).set (n+1) v=x::xs.set n v) :=
 ⟨fun _ _ _=>rfl,fun _ _=>rfl,fun l i v=>List.setIfInBounds_toArray l i v,fun _ _ _=>rfl,fun _ _ _ _=>rfl⟩
section
variable {P:Program} {ops:Array Oper} {Q:Exit->Act->World->Prop} {md:Region.Mode} {S:World->Prop} {ds:List Nat} {oi:Oper} {fuel:Nat} {l:Array Bool} {a:Act} {w:World}
theorem pu (i T n m:Nat) {v:Value} {a':Act} (hi:ops[i]?=some oi) (hN:oi.dst=some T) (h:PrintLast.wpAnyLast P md ops Q S ds fuel (bA n m) a' w)
  (hr:∀ w,(execOp a.eval oi).run P w=.ok (.value v) w:=by intro _;go_simp;try with_reducible rfl) (ha:a.put (some T) v=a':=by (try simp only [pS]);try rfl)
  (hc:PrintLast.anyB md ops l (bA n m) i=true:=by kernel_rfl) (hQ:∀ c a w,Q (.panic c) (a.put oi.dst v) w->Q (.panic c) a w:=by exact fun _ _ _ h=>h) (hw:Region.wanted oi (yielded ops a.tmps)=true:=by rfl):PrintLast.wpAnyLast P md ops Q S ds (fuel+1) l a w :=
 PrintLast.pure_ (bA n m) hi hN hc hQ (.inl ⟨hw,hr⟩) ha h
theorem tk (i T n m:Nat) {v:Value} {a':Act} (hi:ops[i]?=some oi) (hN:oi.dst=some T) (hy:YieldsIf P ops S oi v a) (h:PrintLast.wpAnyLast P md ops Q S ds fuel (bA n m) a' w)
  (ha:a.put (some T) v=a':=by (try simp only [pS]);try rfl)
  (hc:PrintLast.takeB md ops ds l (bA n m) i=true:=by kernel_rfl) (hQ:∀ c a w,Q (.panic c) (a.put oi.dst v) w->Q (.panic c) a w:=by exact fun _ _ _ h=>h) (hS:S w:=by assumption):PrintLast.wpAnyLast P md ops Q S ds (fuel+1) l a w :=
 PrintLast.take_ (bA n m) hi hN hc hQ hy hS ha h
theorem tq (i T n m:Nat) {v:Value} {a':Act} (hi:ops[i]?=some oi) (hN:oi.dst=some T) (h:PrintLast.wpAnyLast P md ops Q S ds fuel (bA n m) a' w)
  (hr:∀ w,S w->(execOp a.eval oi).run P w=.ok (.value v) w:=by intro _ hSw;(try dsimp only at hSw);go_simp;try with_reducible rfl) (ha:a.put (some T) v=a':=by (try simp only [pS]);try rfl)
  (hc:PrintLast.takeB md ops ds l (bA n m) i=true:=by kernel_rfl) (hQ:∀ c a w,Q (.panic c) (a.put oi.dst v) w->Q (.panic c) a w:=by exact fun _ _ _ h=>h) (hw:Region.wanted oi (yielded ops a.tmps)=true:=by rfl) (hS:S w:=by assumption):PrintLast.wpAnyLast P md ops Q S ds (fuel+1) l a w :=
 PrintLast.take_ (bA n m) hi hN hc hQ (.inl ⟨hw,hr⟩) hS ha h
theorem on (i n m:Nat) (N:Option Tmp) (hi:ops[i]?=some oi) (hN:oi.dst=N)
  (h:∀ K:Act->World->Prop,Shut (∀ a' w',S w'->(S w'->PrintLast.wpAnyLast P md ops Q S ds fuel (bA n m) a' w')->K a' w')->Oper.wp P oi a w K Q)
  (hc:PrintLast.readyB md ops l (bA n m) i=true:=by kernel_rfl) (hd:i ∉ ds:=by simp) (hw:Region.wanted oi (yielded ops a.tmps)=true:=by rfl):PrintLast.wpAnyLast P md ops Q S ds (fuel+1) l a w :=
 PrintLast.one_ (bA n m) hi hN hc hd fun K hK=>by rw [if_pos hw];exact h K hK
theorem la (i n m:Nat) (N:Option Tmp) (hi:ops[i]?=some oi) (hN:oi.dst=N)
  (h:∀ K:Act->World->Prop,Shut (∀ a' w',PrintLast.wpAnyLast P md ops Q S ds fuel (bA n m) a' w'->K a' w')->Oper.wp P oi a w K Q)
  (hc:PrintLast.readyB md ops l (bA n m) i=true:=by kernel_rfl) (hd:i∈ds:=by simp) (hw:Region.wanted oi (yielded ops a.tmps)=true:=by rfl):PrintLast.wpAnyLast P md ops Q S ds (fuel+1) l a w :=
 PrintLast.last_ (bA n m) hi hN hc hd fun K hK=>by rw [if_pos hw];exact h K hK
end
end
theorem zem:yU Tryz.prog 120 65 72:=.of (by kernel_rfl)
def jc (b:List UInt8):List UInt8:=b++zs (64-b.length)
theorem zbz {b:List UInt8} (h:b.length<=64):(jc b).length=64:=by simp [jc,zs];omega
theorem zfJ (q:Int) (b:List UInt8) (hb:b.length<=64):splice (.int .i64 q::zo (zs 64)) 1 (zo b)=.int .i64 q::zo (jc b):=by
 unfold splice jc
 simp only [List.take_succ_cons,List.take_zero,qm,jF,List.cons_append,List.nil_append]
 rw [show 1+b.length=b.length+1 by omega,List.drop_succ_cons]
 rw [Zi,zs,List.drop_replicate]
 rfl
theorem zdq (q:Int):Tryz.zeroCells120.setIfInBounds 0 (.int .i64 q)=(.int .i64 q::zo (zs 64)).toArray:=by rfl
theorem zfN (q:Int):(Value.int .i64 q::zo (zs 64)).toArray.all (·.oneCell')=true:=by kernel_rfl
theorem zbQ (q:Int) (l:List UInt8):∀ u∈(Value.int .i64 q::zo l),u.oneCell'=true:=by
 intro u hu
 rcases List.mem_cons.1 hu with rfl | hu
 ·rfl
 ·exact jb l u hu
def zE {α:Type} (f:Nat->α) (k:Nat) (v:α):Nat->α:=fun i=>if i=k then v else f i
theorem zf {α:Type} (f:Nat->α) (k:Nat) (v:α):zE f k v k=v:=by simp [zE]
theorem zm {α:Type} (f:Nat->α) {k i:Nat} (v:α) (h:i≠k):zE f k v i=f i:=by simp [zE,h]
def vq (f:Nat->Nat->List UInt8) (r s:Nat) (v:List UInt8):Nat->Nat->List UInt8:=zE f r (zE (f r) s v)
theorem zap (V:Nat->Value) (k:Nat) (v:Value) (hk:k<4):(uc V).setIfInBounds (k*3) v=uc (zE V k v):=by
 rcases k with _ | _ | _ | _ | k<;>first | rfl | omega
theorem qq.own_tag {w:World} {D k x:Nat} {F:Nat->Prop} {g:yI} (hR:qq w D F g) (hk:k<4) (hx:(g.V k).ownBlock=some x):qp w x=120:=by
 rcases (hR.own k hk).2 with ⟨e,_⟩ | ⟨gg,cap,cur,e,_,hh,_⟩
 ·rw [e] at hx;cases hx
 ·rw [e] at hx
  obtain rfl:gg=x:=by injection hx
  exact zc hh
theorem qq.own_ne_R {w:World} {D k:Nat} {F:Nat->Prop} {g:yI} (hR:qq w D F g) (hk:k<4):(g.V k).ownBlock≠some g.DR:=fun e=>by
 have:=hR.own_tag hk e
 rw [zc hR.regs] at this;cases this
theorem qq.own_ne_D {w:World} {D k:Nat} {F:Nat->Prop} {g:yI} (hR:qq w D F g) (hk:k<4):(g.V k).ownBlock≠some D:=fun e=>by
 have:=hR.own_tag hk e
 rw [zc hR.blk] at this;cases this
theorem qq.D_ne_R {w:World} {D:Nat} {F:Nat->Prop} {g:yI} (hR:qq w D F g):D≠g.DR:=fun e=>by
 have h1:=zc hR.blk;have h2:=zc hR.regs;rw [e,h2] at h1;cases h1
theorem zbW {w w3 w4:World} {D k q:Nat} {F:Nat->Prop} {g:yI} {v':Value} {l:List UInt8} (hR:qq w D F g) (hk:k<4) (hq:q<538) (hl:l.length=64) (hb:Below w.heap.size w w3) (hg:w3.grownBy w4 (g.V k).ownBlock)
  (hown:w4.ownsRow 0 120 65 v' ((g.ws k).length+1) (yi (g.ws k++[(q,l)]))) (hat:v'.ownBlock=(g.V k).ownBlock∨v'.ownBlock=some w3.heap.size) (n':Int) :
  ∃ F',qq ((w4.setCell ⟨g.DR,k*3,none⟩ v').setCell ⟨D,3,none⟩ (.int .i64 n')) D F' { g with n:=n',V:=zE g.V k v',ws:=zE g.ws k (g.ws k++[(q,l)]) } /\
   zr F w ((w4.setCell ⟨g.DR,k*3,none⟩ v').setCell ⟨D,3,none⟩ (.int .i64 n'))/\∀ x,F' x->F x∨w.heap.size<=x:=by
 have hKv:∀ x,F x->some x≠(g.V k).ownBlock->w4.heap[x]?=w.heap[x]?:=fun x hx hne =>
  (hg.block x (Nat.lt_of_lt_of_le (hR.lt x hx) hb.size) hne).trans (hb.block x (hR.lt x hx))
 have htg:=hR.tag
 have hold:∀ x,(g.V k).ownBlock=some x->qp w x=120:=fun x hx=>by
  rcases (hR.own k hk).2 with ⟨e,_⟩ | ⟨gg,cap,cur,e,_,hh,_⟩
  ·rw [e] at hx;cases hx
  ·rw [e] at hx
   obtain rfl:gg=x:=by injection hx
   exact zc hh
 have hneD:some D≠(g.V k).ownBlock:=fun e=>by have:=hold D e.symm;rw [zc hR.blk] at this;cases this
 have hneR:some g.DR≠(g.V k).ownBlock:=fun e=>by have:=hold _ e.symm;rw [zc hR.regs] at this;cases this
 have hneDD:some g.DD≠(g.V k).ownBlock:=fun e=>by
  obtain ⟨c,hc,_⟩:=hR.data
  have:=hold _ e.symm;rw [zc hc] at this;cases this
 have hDR:D≠g.DR:=fun e=>by have h1:=zc hR.blk;have h2:=zc hR.regs;rw [e,h2] at h1;cases h1
 have hDDD:g.DD≠D:=fun e=>by
  obtain ⟨c,hc,_⟩:=hR.data
  have h1:=zc hc;have h2:=zc hR.blk;rw [e,h2] at h1;cases h1
 have hDDR:g.DD≠g.DR:=fun e=>by
  obtain ⟨c,hc,_⟩:=hR.data
  have h1:=zc hc;have h2:=zc hR.regs;rw [e,h2] at h1;cases h1
 have hvD:v'.ownBlock≠some D:=fun e=>by
  rcases hat with h | h
  ·exact hneD (by rw [<- h,e])
  ·rw [e] at h;injection h with h;have:=hR.lt _ hR.fD;have:=hb.size;omega
 have hvR:v'.ownBlock≠some g.DR:=fun e=>by
  rcases hat with h | h
  ·exact hneR (by rw [<- h,e])
  ·rw [e] at h;injection h with h;have:=hR.lt _ hR.fDR;have:=hb.size;omega
 have hsz4:w.heap.size<=w4.heap.size:=Nat.le_trans hb.size hg.size
 obtain ⟨W,hW⟩:∃ W,W=(w4.setCell ⟨g.DR,k*3,none⟩ v').setCell ⟨D,3,none⟩ (.int .i64 n'):=⟨_,rfl⟩
 rw [<- hW]
 have hWo:∀ x,x≠D->x≠g.DR->W.heap[x]?=w4.heap[x]?:=fun x h1 h2=>by
  rw [hW,heap_setCell_other _ _ _ _ h1,heap_setCell_other _ _ _ _ h2]
 have hWs:W.heap.size=w4.heap.size:=by rw [hW];simp
 have hWD:W.heap[D]?=some (.cells #[.int .i64 538,.slice (some ⟨g.DD,0,none⟩) 2152 2152,.slice (some ⟨g.DR,0,none⟩) 4 4,.int .i64 n'] 81 (0,0)):=by
  rw [hW,heap_setCell_same _ D 3 _ _ _ ((heap_setCell_other _ _ _ _ hDR).trans ((hKv D hR.fD hneD).trans hR.blk))];rfl
 have hWR:W.heap[g.DR]?=some (.cells (uc (zE g.V k v')) 86 (0,0)):=by
  rw [hW,heap_setCell_other _ _ _ _ (Ne.symm hDR),heap_setCell_same _ g.DR (k*3) _ _ _ ((hKv _ hR.fDR hneR).trans hR.regs),zap _ _ _ hk]
 have hWx:∀ x,F x->some x≠(g.V k).ownBlock->x≠D->x≠g.DR->W.heap[x]?=w.heap[x]?:=fun x hx h1 h2 h3=>(hWo x h2 h3).trans (hKv x hx h1)
 have hownW:W.ownsRow 0 120 65 v' ((g.ws k).length+1) (yi (g.ws k++[(q,l)])):=zi hown fun x hx=>hWo x (fun e=>hvD (by rw [<- e];exact hx)) (fun e=>hvR (by rw [<- e];exact hx))
 have hWDD:W.heap[g.DD]?=w.heap[g.DD]?:=hWx _ hR.fDD hneDD hDDD hDDR
 have hvlt:∀ x,v'.ownBlock=some x->x<W.heap.size/\qp W x=120:=fun x hx=>by
  rcases hownW.2 with ⟨e,_⟩ | ⟨gg,cap,cur,e,_,hh,_⟩
  ·rw [e] at hx;cases hx
  ·rw [e] at hx
   obtain rfl:gg=x:=by injection hx
   exact ⟨(Array.getElem?_eq_some_iff.1 hh).1,zc hh⟩
 have hother:∀ r,r<4->r≠k->∀ x,(g.V r).ownBlock=some x->W.heap[x]?=w.heap[x]?:=fun r hr hrk x hx=>by
  have ht:qp w x=120:=by
   rcases (hR.own r hr).2 with ⟨e,_⟩ | ⟨gg,cap,cur,e,_,hh,_⟩
   ·rw [e] at hx;cases hx
   ·rw [e] at hx
    obtain rfl:gg=x:=by injection hx
    exact zc hh
  refine hWx x (hR.fV r x hr hx) (fun e=>hR.dist r k x hr hk hrk hx e.symm) (fun e=>?_) (fun e=>?_)
  ·rw [e,zc hR.blk] at ht;cases ht
  ·rw [e,zc hR.regs] at ht;cases ht
 refine ⟨fun x=>(F x/\some x≠(g.V k).ownBlock)∨v'.ownBlock=some x,⟨hWD,?_,fun i hi=>Jh (hR.dat i hi) hWDD,hR.len,hWR,?_,?_,?_,.inl ⟨hR.fD,hneD⟩,.inl ⟨hR.fDD,hneDD⟩,.inl ⟨hR.fDR,hneR⟩,?_,?_,?_⟩,?_,?_⟩
 ·obtain ⟨c,hc,hn⟩:=hR.data
  exact ⟨c,hWDD.trans hc,hn⟩
 ·intro r hr
  by_cases e:r=k
  ·subst e
   simp only [zf,List.length_append,List.length_cons,List.length_nil]
   exact hownW
  ·simp only [zm _ _ e]
   exact zi (hR.own r hr) (hother r hr e)
 ·intro r hr p hp
  by_cases e:r=k
  ·subst e
   simp only [zf] at hp
   rcases List.mem_append.1 hp with hp | hp
   ·exact hR.sect r hr p hp
   ·simp at hp;subst hp;exact ⟨hq,hl⟩
  ·simp only [zm _ _ e] at hp
   exact hR.sect r hr p hp
 ·intro r p x hr hp hne h1 h2
  by_cases e:r=k
  ·subst e
   simp only [zf,zm _ _ (Ne.symm hne)] at h1 h2
   rcases hat with h | h
   ·exact hR.dist r p x hr hp hne (by rw [<- h,h1]) h2
   ·have:=hR.lt x (hR.fV p x hp h2)
    rw [h1] at h;injection h with h
    have:=hb.size;omega
  ·by_cases e2:p=k
   ·subst e2
    simp only [zf,zm _ _ e] at h1 h2
    rcases hat with h | h
    ·exact hR.dist r p x hr hp hne h1 (by rw [<- h,h2])
    ·have:=hR.lt x (hR.fV r x hr h1)
     rw [h2] at h;injection h with h
     have:=hb.size;omega
   ·simp only [zm _ _ e,zm _ _ e2] at h1 h2
    exact hR.dist r p x hr hp hne h1 h2
 ·intro r x hr hx
  by_cases e:r=k
  ·subst e
   simp only [zf] at hx
   exact .inr hx
  ·simp only [zm _ _ e] at hx
   exact .inl ⟨hR.fV r x hr hx,fun e2=>hR.dist r k x hr hk e hx e2.symm⟩
 ·rintro x (⟨hx,_⟩ | hx)
  ·have:=hR.lt x hx;omega
  ·exact (hvlt x hx).1
 ·rintro x (⟨hx,hne⟩ | hx)
  ·by_cases e1:x=D
   ·subst e1;rw [zc hWD];simp
   ·by_cases e2:x=g.DR
    ·subst e2;rw [zc hWR];simp
    ·rw [jm (hWx x hx hne e1 e2)];exact hR.tag x hx
  ·rw [(hvlt x hx).2];simp
 ·have k1:zr F w w3:=zr.of_below hb
  have k2:zr F w w4:=k1.grown hg fun x hx=>.inl (hR.fV k x hk hx)
  rw [hW]
  exact (k2.set (p:=⟨g.DR,k*3,none⟩) (.inl hR.fDR) _).set (p:=⟨D,3,none⟩) (.inl hR.fD) _
 ·rintro x (⟨hx,_⟩ | hx)
  ·exact .inl hx
  ·rcases hat with h | h
   ·exact .inl (hR.fV k x hk (by rw [<- h];exact hx))
   ·rw [hx] at h;injection h with h
    right;have:=hb.size;omega
def QV (cnt:Nat->Nat) (r:Nat):Nat->Nat:=zE cnt r (cnt r+1)
theorem Qx (D:Nat) (F:Nat->Prop) (cur:Nat->Nat->List UInt8) (cnt:Nat->Nat) (r s:Int) (v:Value) (b:List UInt8) (w:World) (h:zv w D F cur cnt) (hr0:0<=r) (hr:r<4) (hs0:0<=s) (hs:s<538)
  (hv:ze w v b) (hb:b.length<=64) (hc:cnt r.toNat<=100000) :
  Calls Tryz.prog 97 #[.pointer (some ⟨D,0,none⟩),.int .i64 r,.int .i64 s,v] w fun e w'=>e=.returned (.int .i64 0)/\∃ F',zv w' D F' (vq cur r.toNat s.toNat (jc b)) (QV cnt r.toNat)/\zr F w w'/\∀ x,F' x->F x∨w.heap.size<=x:=by
 obtain ⟨k,rfl⟩:∃ k:Nat,r=(k:Int):=⟨r.toNat,by omega⟩
 obtain ⟨q,rfl⟩:∃ q:Nat,s=(q:Int):=⟨s.toNat,by omega⟩
 obtain ⟨g,hR,hcur,hcnt⟩:=h
 obtain ⟨vA,vc,rfl,hrd,hlc,hcm⟩:=hv
 have hk:k<4:=by omega
 have hq:q<538:=by omega
 simp only [Int.toNat_natCast] at hc ⊢
 have hown:=hR.own k hk
 obtain ⟨A,cw,hV⟩:=own_slice hown
 have HV:=hid hV
 rw [hV] at hown
 have c2:=(cell_of_row w D 2 _ _ _ hR.blk).trans (show _=some (Value.slice (some ⟨g.DR,0,none⟩) 4 4) from rfl)
 have cw':w.cell? ⟨g.DR,k*3,none⟩=some (.slice A (g.ws k).length cw):=by
  rw [cell_of_row w g.DR _ _ _ _ hR.regs,<- hV];exact Ji hk
 have ca:w.cell? ⟨g.DR,k*3+1,none⟩=some (.bool false):=by
  rw [cell_of_row w g.DR _ _ _ _ hR.regs];exact zdc hk
 have d1:decide ((k:Int)*538+(q:Int)<0)=false:=by simp;omega
 have d2:decide ((64:Int)<(b.length:Int))=false:=by simp;omega
 have hka:(0:Int)<=(k:Int):=by omega
 have hkb:(k:Int)<4:=by omega
 obtain ⟨HR,HO,HC,HN,HRD⟩:=zi5 hR hown hcur hcnt hrd
 have hlen:(g.ws k).length<=100000:=Nat.le_trans (hcnt k hk) hc
 clear hR hown hcur hcnt hV hrd
 go_enter Tryz.func97,Tryz.ntmps97
 go_upto_region 8 with (first
  | (go_at_call 27;(with_reducible refine (GU D F g k q w HR.out hr0 hr hs0 hs).mono ?_);rintro e1 w1 ⟨rfl,hw1⟩;subst w1)
  | (go_at_call 140;(with_reducible refine (zcy D F g k w HR.out hr0 hr).mono ?_);rintro e1 w1 ⟨rfl,hw1⟩;subst w1))
 have HNEW:=hid (heap_alloc_new w (.cells Tryz.zeroCells120 120))
 go_upto_region 9 with (refine wpList_store_row (o:=⟨none,.store 120 (.tmp 10) (.tmp 42),_,_,_,_⟩) rfl 120 (.tmp 10) (.tmp 42) rfl w.heap.size (Tryz.zeroCells120.setIfInBounds 0 (.int .i64 q)) (by rfl) (by rfl) 120 Tryz.zeroCells120 HNEW.out (by rw [zdq];kernel_rfl) (by simp) (by rw [zdq];exact zfN q) ?_)
 obtain ⟨w1,hw1⟩:∃ w1,w1=(w.alloc (.cells Tryz.zeroCells120 120)).setRow w.heap.size (Tryz.zeroCells120.setIfInBounds 0 (.int .i64 q)):=⟨_,rfl⟩
 have hx1:w1.heap[w.heap.size]?=some (.cells (.int .i64 q::zo (zs 64)).toArray 120 (0,0)):=by rw [hw1,zdq];exact setRow_heap _ _ _ _ _ _ HNEW.out
 have hb1:Below w.heap.size w w1:=by rw [hw1];exact below_setRow (B_alloc (Below.refl _ _) _) (Nat.le_refl _) _
 rw [<- hw1]
 obtain ⟨HX1,HB1⟩:=zi2 hx1 hb1
 have HSRC:=hid (HRD.out.below HB1.out).src
 clear hw1 hx1 hb1 HNEW
 go_upto_region 10 with (show wpList _ _ _ (⟨some 46,_,_,_,_,_⟩::_) _ _;refine wpList_copy_splice (o:=⟨some 46,_,_,_,_,_⟩) rfl (.tmp 44) (.tmp 45) 29 29 rfl 5 Tryz.underlying29 (by kernel_rfl) (some ⟨w.heap.size,1,none⟩) vA 64 64 b.length vc (by rfl) (by rfl) w.heap.size 1 (.int .i64 q::zo (zs 64)) 120 HX1.out (zo b) (by rw [qm];exact (Nat.min_eq_left hb).symm) (fun h0=>⟨rfl,HSRC.out h0⟩) (by simp [qm,zs];omega) (jb b) w.heap.size w HB1.out (Nat.le_refl _) ?_;rintro w2 hx2 hb2)
 rw [zfJ q b hb] at hx2
 have hpl:=zbz hb
 obtain ⟨l,hl⟩:∃ l,l=jc b:=⟨_,rfl⟩
 rw [<- hl] at hpl hx2
 have hfar:∀ x,F x->w2.heap[x]?=w.heap[x]?:=fun x hx=>hb2.block x (HR.out.lt x hx)
 have kw:w2.cell? ⟨g.DR,k*3,none⟩=some (.slice A (g.ws k).length cw):=(World.cell?_of_block (a:=⟨g.DR,k*3,none⟩) (hfar _ HR.out.fDR)).trans cw'
 have hX:w2.heap[w.heap.size]?=some (.cells (.int .i64 q::zo l).toArray 120 (0,0)):=hx2
 have hO2:w2.ownsRow 0 120 65 (.slice A (g.ws k).length cw) (g.ws k).length (yi (g.ws k)):=zi HO.out fun x hx=>hfar x (HR.out.fV k x hk (by rw [HV.out];exact hx))
 obtain ⟨HX,HO2,HL,HPL⟩:=zi4 hX hO2 hl hpl
 have HBR:Hid (w2.heap[g.DR]?=some (.cells (uc g.V) 86 (0,0))):=hid (zb HR.out.regs hb2 (HR.out.lt _ HR.out.fDR))
 have HSZ:Hid ((Tryz.prog.info? 120).map (·.size)=some (Value.int .i64 q::zo l).toArray.size):=hid (by simp only [List.size_toArray,List.length_cons,qm,hpl];kernel_rfl)
 have HY:=hid (heap_alloc_new w2.drew (.cells (.int .i64 q::zo l).toArray 120))
 have hneR:(Value.slice A (g.ws k).length cw).ownBlock≠some g.DR:=fun e=>HR.out.own_ne_R hk (by rw [HV.out];exact e)
 have hneX:(Value.slice A (g.ws k).length cw).ownBlock≠some w.heap.size:=fun e=>Nat.lt_irrefl _ (HR.out.lt _ (HR.out.fV k _ hk (by rw [HV.out];exact e)))
 have HO3:Hid ((w2.drew.alloc (.cells (.int .i64 q::zo l).toArray 120)).ownsRow 0 120 65 (.slice A (g.ws k).length cw) (g.ws k).length (yi (g.ws k))):=hid (zi HO2.out fun x hx=>Below.heap_alloc w2.drew _ x (HO2.out.lt x hx).2)
 have HNE:=hid (And.intro hneR hneX)
 clear hneR hneX
 have HB2:=hid hb2
 clear hX hO2 hl hpl hb2 hx2 HRD HSRC HX1 HB1 hfar
 have hS:w2.drew.cell? ⟨g.DR,k*3,none⟩=some (.slice A (g.ws k).length cw)/\w2.drew.heap[w.heap.size]?=some (.cells (.int .i64 q::zo l).toArray 120 (0,0)):=⟨kw,HX.out⟩
 refine wp_region_noPanic ?_
 refine PrintLast.start_ (n:=11) (S:=(fun w'=>w'.cell? ⟨g.DR,k*3,none⟩=some (.slice A (g.ws k).length cw)/\w'.heap[w.heap.size]?=some (.cells (.int .i64 q::zo l).toArray 120 (0,0)))) (ds:=[10]) (bA 11 0) (by kernel_rfl) rfl (by kernel_rfl) hS (fun hHeld=>?_)
 refine pu 0 47 11 1 rfl rfl ?_
 refine pu 1 48 11 3 rfl rfl ?_
 refine pu 2 49 11 7 rfl rfl ?_
 refine pu 3 50 11 15 rfl rfl ?_
 refine tq 4 51 11 31 rfl rfl ?_
 refine tk 5 52 11 63 rfl rfl (qE 120 (.tmp 10) rfl rfl w.heap.size rfl 120 _ (0,0) _ (fun w' hSw=>hSw.2) Tryz.underlying120 rfl HSZ.out) ?_
 refine on 6 11 127 (some 53) rfl rfl (fun K hK=>?_)
 show Oper.wp _ ⟨some 53,_,_,_,_,_⟩ _ _ _ _
 refine vf 84 120 65 72 (.tmp 52) rfl (.agg (.int .i64 q::zo l).toArray) (by rfl) Tryz.underlying84 zem (by simp [Value.cells,qm,HPL.out]) (by omega) (by omega) ?_
 show K _ (w2.drew.alloc (.cells (.int .i64 q::zo l).toArray 120))
 refine hK.out _ _ ⟨jI hHeld.1 _,zy hHeld.2 _⟩ (fun hHeld=>?_)
 clear hK K
 try simp only [pS]
 refine on 7 11 255 (some 54) rfl rfl (fun K hK=>?_)
 show Oper.wp _ ⟨some 54,_,_,_,_,_⟩ _ _ _ _
 refine uZ (.tmp 51) (.tmp 53) 84 120 65 72 rfl Tryz.underlying84 zem (by omega) (.slice A (g.ws k).length cw) (g.ws k).length (yi (g.ws k)) 0 (by rfl) HO3.out (some ⟨w2.heap.size,0,none⟩) 1 1 (.int .i64 q::zo l) _ (by rfl) (zx.of_list HY.out (by simp [qm,HPL.out])) (zbQ q l) (by omega) (by omega) (Nat.zero_le _) ?_
 intro v4 w4 hown4 hg4 hat4
 refine hK.out _ _ ⟨uq hHeld.1 hg4 HNE.out.1,zX hHeld.2 hg4 HNE.out.2⟩ (fun hHeld=>?_)
 clear hK K
 try simp only [pS]
 refine pu 8 55 11 511 rfl rfl ?_
 refine pu 9 56 11 1023 rfl rfl ?_
 refine la 10 11 2047 none rfl rfl (fun K hK=>?_)
 show Oper.wp _ ⟨none,_,_,_,_,_⟩ _ _ _ _
 refine jp 84 (.tmp 56) (.tmp 54) rfl g.DR (k*3) (uc g.V) 86 v4 (by rfl) (by rfl) (by kernel_rfl) (zX (zy (show w2.drew.heap[g.DR]?=_ from HBR.out) _) hg4 HNE.out.1) (by show k*3<12;omega) (zex hown4) ?_
 refine hK.out _ _ ?_
 clear hK K
 try simp only [pS]
 refine PrintLast.done_ (by kernel_rfl) ?_
 refine NoPanic.normal ?_
 have hD4:w4.heap[D]?=some (.cells #[.int .i64 538,.slice (some ⟨g.DD,0,none⟩) 2152 2152,.slice (some ⟨g.DR,0,none⟩) 4 4,.int .i64 g.n] 81 (0,0)) :=
  zX (zy (show w2.drew.heap[D]?=_ from zb HR.out.blk HB2.out.drew (HR.out.lt _ HR.out.fD)) _) hg4 (by rw [<- HV.out];exact HR.out.own_ne_D hk)
 have hD5:=us hD4 (p:=⟨g.DR,k*3,none⟩) HR.out.D_ne_R v4
 have e3:=(cell_of_row _ D 3 _ _ _ hD5).trans (show _=some (Value.int .i64 g.n) from rfl)
 have f3:=frozen_of_row _ D 3 _ _ hD5
 have hfin:=zbW HR.out hk hq HPL.out (B_alloc HB2.out.drew _) (by rw [HV.out];exact hg4) (l:=l) (v':=v4) (by rw [zax];simpa [yi] using hown4) (by rw [HV.out];exact hat4) (wrap64 (g.n+1))
 have HF:=hid hfin
 clear hD4 hD5 hfin
 go_wp2_with fail
 go_ret
 obtain ⟨F',h1,h2,h3⟩:=HF.out
 refine ⟨rfl,F',⟨_,h1,?_,?_⟩,h2,h3⟩
 ·intro r s hr9 hs9
  simp only [vq]
  by_cases e:r=k
  ·subst e
   simp only [zf]
   rw [QL,HL.out]
   by_cases e2:s=q
   ·subst e2;simp [zf]
   ·rw [zm _ _ e2,if_neg (Ne.symm e2)];exact HC.out r s hr9 hs9
  ·simp only [zm _ _ e];exact HC.out r s hr9 hs9
 ·intro r hr9
  simp only [QV]
  by_cases e:r=k
  ·subst e
   simp only [zf,List.length_append,List.length_cons,List.length_nil]
   have:=HN.out r hr9;omega
  ·simp only [zm _ _ e];exact HN.out r hr9
def YF (g:yI) (k:Nat) (ws:List (Nat × List UInt8)):Nat->List UInt8:=fun i=>if i / 538=k then uF ws (i % 538) (g.dat i) else g.dat i
theorem zim (g:yI) (k:Nat):YF g k []=g.dat:=by
 funext i;simp [YF,uF]
theorem zhC (q:Int) (l:List UInt8):(Value.int .i64 q::zo l).toArray.all (·.oneCell')=true :=
 Array.all_eq_true_iff_forall_mem.2 (fun v hv=>zbQ q l v (by simpa using hv))
theorem zlf (j:Nat) (h:j<2 ^ 62):bits .and .i64 (j:Int) 63=((j % 64:Nat):Int):=by
 have e:bits .and .i64 (j:Int) 63=IntKind.i64.wrap ((BitVec.ofInt 64 (j:Int) &&& BitVec.ofInt 64 63).toNat:Int):=rfl
 have h63:(BitVec.ofInt 64 63).toNat=2 ^ 6-1:=by decide
 rw [e,BitVec.toNat_and,BitVec.ofInt_natCast,BitVec.toNat_ofNat,Nat.mod_eq_of_lt (by omega),h63,Nat.and_two_pow_sub_one_eq_mod,IntKind.wrap_i64]
 omega
theorem ziA (t:Nat) (h:t<64):bits .and .u64 (18446744073709551615 / 2 ^ t) 1=1:=by
 have:∀ t,t<64->bits .and .u64 (18446744073709551615 / 2 ^ t) 1=1:=by decide +kernel
 exact this t h
theorem zgv {g:yI} {k j:Nat} {p:Nat × List UInt8} (hp:(g.ws k)[j]?=some p) (hs:p.1<538) :
  zE (YF g k ((g.ws k).take j)) (k*538+p.1) p.2=YF g k ((g.ws k).take (j+1)):=by
 funext i
 have ht:(g.ws k).take (j+1)=(g.ws k).take j++[p]:=by rw [List.take_add_one,hp];rfl
 unfold YF
 rw [ht]
 by_cases e:i=k*538+p.1
 ·subst e
  rw [zf,if_pos (by omega),show (k*538+p.1) % 538=p.1 by omega,QL,if_pos rfl]
 ·rw [zm _ _ e]
  by_cases e2:i / 538=k
  ·rw [if_pos e2,if_pos e2,QL,if_neg (by omega)]
  ·rw [if_neg e2,if_neg e2]
theorem qq.D_ne_DD {w:World} {D:Nat} {F:Nat->Prop} {g:yI} (hR:qq w D F g):D≠g.DD:=fun e=>by
 obtain ⟨c,hc,_⟩:=hR.data
 have h1:=zc hR.blk;have h2:=zc hc;rw [e,h2] at h1;cases h1
theorem qq.R_ne_DD {w:World} {D:Nat} {F:Nat->Prop} {g:yI} (hR:qq w D F g):g.DR≠g.DD:=fun e=>by
 obtain ⟨c,hc,_⟩:=hR.data
 have h1:=zc hR.regs;have h2:=zc hc;rw [e,h2] at h1;cases h1
theorem qq.own_ne_DD {w:World} {D k:Nat} {F:Nat->Prop} {g:yI} (hR:qq w D F g) (hk:k<4):(g.V k).ownBlock≠some g.DD:=fun e=>by
 obtain ⟨c,hc,_⟩:=hR.data
 have:=hR.own_tag hk e
 rw [zc hc] at this;cases this
theorem ZH (b:Nat):∀ (vs:List Value) (o:Nat) (w:World) (x:Nat),x≠b->(w.setCells b o vs).heap[x]?=w.heap[x]?
 | [],_,_,_,_=>rfl
 | v::r,o,w,x,h=>(ZH b r (o+1) _ x h).trans (heap_setCell_other w ⟨b,o,none⟩ x v h)
theorem Qm (b:Nat) (t:TypeId):∀ (vs:List Value) (o:Nat) (w:World) (c:Array Value),w.heap[b]?=some (.cells c t (0,0))->∃ c',(w.setCells b o vs).heap[b]?=some (.cells c' t (0,0))/\c'.size=c.size
 | [],_,_,c,h=>⟨c,h,rfl⟩
 | v::r,o,w,c,h=>by
  obtain ⟨c',h1,h2⟩:=Qm b t r (o+1) (w.setCell ⟨b,o,none⟩ v) _ (heap_setCell_same w b o _ _ _ h)
  exact ⟨c',h1,by simpa using h2⟩
theorem Ki (b:Nat):∀ (vs:List Value) (o:Nat) (w:World),(w.setCells b o vs).heap.size=w.heap.size
 | [],_,_=>rfl
 | v::r,o,w=>(Ki b r (o+1) _).trans (by simp)
theorem zr.setCells {M:Nat->Prop} (b:Nat):∀ (vs:List Value) (o:Nat) (a w:World),zr M a w->(M b∨a.heap.size<=b)->zr M a (w.setCells b o vs)
 | [],_,_,_,h,_=>h
 | v::r,o,a,w,h,hb=>zr.setCells b r (o+1) a _ (h.set (p:=⟨b,o,none⟩) hb v) hb
theorem zcx {w w1:World} {D k q s:Nat} {F:Nat->Prop} {g:yI} {l:List UInt8} (hR:qq w D F g) (hk:k<4) (hs:s<538) (hl:l.length=64) (hq:q=k*538+s) (hb:Below w.heap.size w w1) :
  qq (w1.drew.setCells g.DD (q*64) (zo l)) D F { g with dat:=zE g.dat q l }/\zr F w (w1.drew.setCells g.DD (q*64) (zo l)):=by
 have hR1:qq w1.drew D F g:=hR.same (fun x hx=>hb.block x (hR.lt x hx)) hb.size
 obtain ⟨c,hc,hn⟩:=hR1.data
 obtain ⟨c',hc',hn'⟩:=Qm g.DD 118 (zo l) (q*64) w1.drew c hc
 obtain ⟨W,hW⟩:∃ W,W=w1.drew.setCells g.DD (q*64) (zo l):=⟨_,rfl⟩
 have hth:w1.drew.there g.DD (q*64) (zo l).length:=fun i hi=>by
  rw [qm] at hi
  exact ⟨by rw [cell_of_row _ _ _ _ _ _ hc,Array.getElem?_eq_getElem (by omega)];rfl,frozen_of_row _ _ _ _ _ hc⟩
 have hsame:=World.rangeAt_setCells_same w1.drew g.DD (q*64) (zo l) hth
 have hapart:∀ i,i<2152->i≠q->(w1.drew.setCells g.DD (q*64) (zo l)).rangeAt g.DD (i*64) (zo (g.dat i)):=fun i hi hne =>
  World.rangeAt_setCells_apart (hR1.dat i hi) _ _ _ (by rw [qm,qm,hl,hR1.len i hi];omega)
 have ho:∀ x,x≠g.DD->W.heap[x]?=w1.drew.heap[x]?:=fun x hx=>by rw [hW];exact ZH _ _ _ _ _ hx
 rw [<- hW] at hc' hsame hapart ⊢
 have hsz:W.heap.size=w1.heap.size:=by rw [hW];exact Ki _ _ _ _
 refine ⟨⟨(ho _ hR.D_ne_DD).trans hR1.blk,⟨c',hc',hn'.trans hn⟩,fun i hi=>?_,fun i hi=>?_,(ho _ hR.R_ne_DD).trans hR1.regs,fun r hr=>zi (hR1.own r hr) fun x hx=>ho x (fun e=>hR.own_ne_DD hr (by rw [hx,e])),
  hR.sect,hR.dist,hR.fD,hR.fDD,hR.fDR,hR.fV,fun x hx=>by rw [hsz];exact hR1.lt x hx,fun x hx=>?_⟩,?_⟩
 ·by_cases e:i=q
  ·subst e;simp only [zf];exact hsame
  ·simp only [zm _ _ e];exact hapart i hi e
 ·by_cases e:i=q
  ·subst e;simp only [zf];exact hl
  ·simp only [zm _ _ e];exact hR.len i hi
 ·by_cases e:x=g.DD
  ·subst e;rw [zc hc'];simp
  ·rw [jm (ho x e)];exact hR1.tag x hx
 ·rw [hW]
  exact zr.setCells _ _ _ _ _ (zr.of_below hb.drew) (.inl hR.fDD)
theorem Gt {w:World} {D k:Nat} {F:Nat->Prop} {g:yI} (hR:qq w D F g) (hk:k<4) :
  qq (w.setCell ⟨g.DR,k*3,none⟩ (.slice none 0 0)) D F { g with V:=zE g.V k (.slice none 0 0),ws:=zE g.ws k [] }:=by
 have ho:∀ x,x≠g.DR->(w.setCell ⟨g.DR,k*3,none⟩ (.slice none 0 0)).heap[x]?=w.heap[x]?:=fun x hx=>heap_setCell_other _ _ _ _ hx
 have hRr:(w.setCell ⟨g.DR,k*3,none⟩ (.slice none 0 0)).heap[g.DR]?=some (.cells (uc (zE g.V k (.slice none 0 0))) 86 (0,0)):=by
  rw [heap_setCell_same _ _ _ _ _ _ hR.regs,zap _ _ _ hk]
 have hno:∀ x,(Value.slice none 0 0).ownBlock≠some x:=fun x e=>by cases e
 refine ⟨(ho _ hR.D_ne_R).trans hR.blk,?_,fun i hi=>Jh (hR.dat i hi) (ho _ (Ne.symm hR.R_ne_DD)),hR.len,hRr,fun r hr=>?_,fun r hr p hp=>?_,fun r p x hr hp hne h1 h2=>?_,hR.fD,hR.fDD,hR.fDR,fun r x hr hx=>?_,fun x hx=>by simpa using hR.lt x hx,fun x hx=>?_⟩
 ·obtain ⟨c,hc,hn⟩:=hR.data
  exact ⟨c,(ho _ (Ne.symm hR.R_ne_DD)).trans hc,hn⟩
 ·by_cases e:r=k
  ·subst e;simp only [zf];exact World.ownsRow_nil _ _ _ _
  ·simp only [zm _ _ e]
   exact zi (hR.own r hr) fun x hx=>ho x (fun e=>hR.own_ne_R hr (by rw [hx,e]))
 ·by_cases e:r=k
  ·subst e;simp only [zf] at hp;cases hp
  ·simp only [zm _ _ e] at hp;exact hR.sect r hr p hp
 ·by_cases e:r=k
  ·subst e;simp only [zf] at h1;cases h1
  ·by_cases e2:p=k
   ·subst e2;simp only [zf] at h2;cases h2
   ·simp only [zm _ _ e,zm _ _ e2] at h1 h2;exact hR.dist r p x hr hp hne h1 h2
 ·by_cases e:r=k
  ·subst e;simp only [zf] at hx;cases hx
  ·simp only [zm _ _ e] at hx;exact hR.fV r x hr hx
 ·by_cases e:x=g.DR
  ·subst e;rw [zc hRr];simp
  ·rw [jm (ho x e)];exact hR.tag x hx
theorem zij (D:Nat) (F:Nat->Prop) (g:yI) (k:Nat) (w:World) (h:qq w D F g) (hk:k<4) (hlen:(g.ws k).length<=100000) :
  Calls Tryz.prog 26 #[.pointer (some ⟨D,0,none⟩),.int .i64 k,.int .u64 18446744073709551615] w fun e w'=>e=.returned (.tuple #[])/\qq w' D F { g with V:=zE g.V k (.slice none 0 0),ws:=zE g.ws k [],dat:=YF g k (g.ws k) }/\zr F w w':=by
 have hown:=h.own k hk
 obtain ⟨A,cw,hV⟩:=own_slice hown
 have HV:=hid hV
 rw [hV] at hown
 have c2:=(cell_of_row w D 2 _ _ _ h.blk).trans (show _=some (Value.slice (some ⟨g.DR,0,none⟩) 4 4) from rfl)
 have cw':w.cell? ⟨g.DR,k*3,none⟩=some (.slice A (g.ws k).length cw):=by
  rw [cell_of_row w g.DR _ _ _ _ h.regs,<- hV];exact Ji hk
 have hka:(0:Int)<=(k:Int):=by omega
 have hkb:(k:Int)<4:=by omega
 obtain ⟨HR,HO⟩:=zi2 h hown
 clear h hown hV
 go_enter Tryz.func26,Tryz.ntmps26
 go_wp2_with fail
 go_loopw [20] (fun u wr=>∃ j:Nat,j<=(g.ws k).length/\u=.int .i64 j/\qq wr D F { g with dat:=YF g k ((g.ws k).take j) }/\zr F w wr) (fun u _=>((g.ws k).length-intOf u).toNat)
 case atStart=>exact ⟨0,by omega,rfl,by rw [List.take_zero,zim];exact HR.out,zr.refl _ _⟩
 case round =>
  obtain ⟨j,hj,rfl,hRw,hKw⟩:=hrel
  by_cases hlt:j<(g.ws k).length
  ·obtain ⟨p,hp⟩:∃ p,(g.ws k)[j]?=some p:=⟨_,List.getElem?_eq_getElem hlt⟩
   have hsec:=HR.out.sect k hk p (List.mem_of_getElem? hp)
   have hownw:=hRw.own k hk
   simp only [HV.out] at hownw
   obtain ⟨gA,cA,hAv,_,hgA⟩:=hownw.form (by omega)
   obtain rfl:A=some ⟨gA,0,none⟩:=by injection hAv
   have hcells:=zbR (g.ws k) (fun q hq=>(HR.out.sect k hk q hq).2) j p hp
   have hcc:=hownw.cells (g:=gA) rfl
   have hrange:wr.rangeAt gA (j*65) (.int .i64 p.1::zo p.2):=fun i u hu=>by
    rcases i with _ | i
    ·have:=hcc _ _ hcells.1
     rw [Addr.add_mid,Nat.zero_add] at this
     rw [Nat.add_zero,this];exact hu
    ·have:=hcc _ _ (hcells.2 i u (by simpa using hu))
     rw [Addr.add_mid,Nat.zero_add] at this
     rw [show j*65+(i+1)=j*65+1+i by omega];exact this
   have hja:(0:Int)<=(j:Int):=by omega
   have hjb:(j:Int)<((g.ws k).length:Int):=by omega
   obtain ⟨HRW,HKW,HSEC,HRA,HP⟩:=zi5 hRw hKw hsec hrange hp
   have HNEW:=hid (heap_alloc_new wr (.cells Tryz.zeroCells120 120))
   clear hRw hKw hsec hrange hcells hcc hownw hAv hp
   go_upto_region 4 with (first
    | (show wpList _ _ _ (⟨some 24,_,_,_,_,_⟩::_) _ _;refine wpList_load_mid (op:=⟨some 24,_,_,_,_,_⟩) rfl 120 (.tmp 23) rfl gA (j*65) (by rfl) _ _ HRA.out Tryz.underlying120 rfl (by simp only [List.length_cons,qm,HSEC.out.2];kernel_rfl) ?_)
    | (show wpList _ _ _ (⟨none,.store 120 _ _,_,_,_,_⟩::_) _ _;refine wpList_store_row (o:=⟨none,.store 120 (.tmp 8) (.tmp 24),_,_,_,_⟩) rfl 120 (.tmp 8) (.tmp 24) rfl wr.heap.size (.int .i64 p.1::zo p.2).toArray (by rfl) (by rfl) 120 Tryz.zeroCells120 HNEW.out (by simp only [List.size_toArray,List.length_cons,qm,HSEC.out.2];kernel_rfl) (by simp only [List.size_toArray,List.length_cons,qm,HSEC.out.2];kernel_rfl) (zhC p.1 p.2) ?_))
   obtain ⟨w1,hw1⟩:∃ w1,w1=(wr.alloc (.cells Tryz.zeroCells120 120)).setRow wr.heap.size (.int .i64 p.1::zo p.2).toArray:=⟨_,rfl⟩
   have hx1:w1.heap[wr.heap.size]?=some (.cells (.int .i64 p.1::zo p.2).toArray 120 (0,0)):=by rw [hw1];exact setRow_heap _ _ _ _ _ _ HNEW.out
   have hb1:Below wr.heap.size wr w1:=by rw [hw1];exact below_setRow (B_alloc (Below.refl _ _) _) (Nat.le_refl _) _
   rw [<- hw1]
   obtain ⟨HX1,HB1⟩:=zi2 hx1 hb1
   clear hw1 hx1 hb1 HNEW HRA
   have hand:=zlf j (by omega)
   have hlt64:j % 64<64:=Nat.mod_lt _ (by omega)
   obtain ⟨t,ht⟩:∃ t,t=j % 64:=⟨_,rfl⟩
   rw [<- ht] at hand hlt64
   have hone:=ziA t hlt64
   clear ht
   go_upto_region 5 with fail
   have hD0:=(cell_of_row w1 D 0 _ _ _ (zb HRW.out.blk HB1.out (HRW.out.lt _ HRW.out.fD))).trans (show _=some (Value.int .i64 538) from rfl)
   have hD1:=(cell_of_row w1 D 1 _ _ _ (zb HRW.out.blk HB1.out (HRW.out.lt _ HRW.out.fD))).trans (show _=some (Value.slice (some ⟨g.DD,0,none⟩) 2152 2152) from rfl)
   have hS:w1.drew.cell? ⟨D,0,none⟩=some (.int .i64 538)/\w1.drew.cell? ⟨D,1,none⟩=some (.slice (some ⟨g.DD,0,none⟩) 2152 2152)/\w1.drew.heap[wr.heap.size]?=some (.cells (.int .i64 p.1::zo p.2).toArray 120 (0,0))/\w1.drew.cell? ⟨wr.heap.size,0,none⟩=some (.int .i64 p.1)/\w1.drew.rangeAt wr.heap.size 1 (zo p.2):=by
    refine ⟨hD0,hD1,HX1.out,?_,?_⟩
    ·exact (cell_of_row w1 _ 0 _ _ _ HX1.out).trans rfl
    ·intro i u hu
     exact (cell_of_row w1 _ (1+i) _ _ _ HX1.out).trans (by rw [Nat.add_comm];simpa using hu)
   have hpa:(0:Int)<=(k:Int)*538+(p.1:Int):=by omega
   have hpb:(k:Int)*538+(p.1:Int)<2152:=by have:=HSEC.out.1;omega
   have hpc:(p.1:Int)<538:=by have:=HSEC.out.1;omega
   obtain ⟨q,hq⟩:∃ q,q=k*538+p.1:=⟨_,rfl⟩
   have hq1:IntKind.i64.wrap ((k:Int)*538)=(k:Int)*538:=by rw [IntKind.wrap_i64];omega
   have hq2:IntKind.i64.wrap ((k:Int)*538+(p.1:Int))=(q:Int):=by rw [IntKind.wrap_i64];omega
   have hq3:(0:Int)<=(q:Int):=by omega
   have hq4:(q:Int)<2152:=by omega
   have hDD:w1.there g.DD (q*64) 64:=by
    obtain ⟨c,hc,hn⟩:=HRW.out.data
    have hc1:=zb hc HB1.out (zd hc)
    intro i hi
    exact ⟨by rw [cell_of_row w1 _ _ _ _ _ hc1,Array.getElem?_eq_getElem (by omega)];rfl,frozen_of_row w1 _ _ _ _ hc1⟩
   obtain ⟨HDD,HQ⟩:=zi2 hDD hq
   clear hD0 hD1 hq hDD
   refine wp_region_noPanic ?_
   refine PrintLast.start_ (n:=17) (S:=(fun w'=>w'.cell? ⟨D,0,none⟩=some (.int .i64 538)/\w'.cell? ⟨D,1,none⟩=some (.slice (some ⟨g.DD,0,none⟩) 2152 2152)/\w'.heap[wr.heap.size]?=some (.cells (.int .i64 p.1::zo p.2).toArray 120 (0,0))/\w'.cell? ⟨wr.heap.size,0,none⟩=some (.int .i64 p.1)/\w'.rangeAt wr.heap.size 1 (zo p.2))) (ds:=[16]) (bA 17 0) (by kernel_rfl) rfl (by kernel_rfl) hS (fun hHeld=>?_)
   refine pu 0 31 17 1 rfl rfl ?_
   refine pu 1 32 17 3 rfl rfl ?_
   refine pu 2 33 17 7 rfl rfl ?_
   refine tq 3 34 17 15 rfl rfl ?_
   refine pu 4 35 17 31 rfl rfl ?_
   refine pu 5 36 17 63 rfl rfl ?_
   refine pu 6 37 17 127 rfl rfl ?_
   refine pu 7 38 17 255 rfl rfl ?_
   refine tq 8 39 17 511 rfl rfl ?_
   refine pu 9 40 17 1023 rfl rfl ?_
   refine pu 10 41 17 2047 rfl rfl ?_
   refine tq 11 42 17 4095 rfl rfl ?_
   refine pu 12 43 17 8191 rfl rfl ?_
   refine pu 13 44 17 16383 rfl rfl ?_
   refine tk 14 45 17 32767 rfl rfl (yieldsIf_load_mid rfl 118 (.tmp 44) rfl wr.heap.size 1 rfl (zo p.2) _ (fun w' hSw=>hSw.2.2.2.2) Tryz.underlying118 rfl (by rw [qm,HSEC.out.2];kernel_rfl)) ?_
   refine pu 15 46 17 65535 rfl rfl ?_
   refine la 16 17 131071 none rfl rfl (fun K hK=>?_)
   show Oper.wp _ ⟨none,_,_,_,_,_⟩ _ _ _ _
   refine wp_store_mid 118 (.tmp 46) (.tmp 45) rfl g.DD (q*64) (zo p.2).toArray (by rfl) (by rfl) (by simpa [qm,HSEC.out.2] using HDD.out) (by simp only [List.size_toArray,qm,HSEC.out.2];kernel_rfl) (all_oneCell_toArray (jb p.2)) ?_
   refine hK.out _ _ ?_
   clear hK K
   try simp only [pS]
   refine PrintLast.done_ (by kernel_rfl) ?_
   refine NoPanic.normal ?_
   have hfin:=zcx HRW.out hk HSEC.out.1 HSEC.out.2 (by rw [<- HQ.out]) HB1.out
   have HF:=hid hfin
   clear hq1 hq2 hq3 hq4 hfin
   go_wp2_with fail
   go_roundw
   case rel=>exact ⟨j+1,by omega,by go_num,by have h1:=HF.out.1;dsimp only at h1;have e:=zgv HP.out HSEC.out.1;rw [<- HQ.out] at e;rw [e] at h1;exact h1,HKW.out.trans HF.out.2 (fun x hx=>.inl hx)⟩
   case measure=>simp [intOf];omega
  ·obtain rfl:j=(g.ws k).length:=by omega
   have e1:wr.cell? ⟨g.DR,k*3,none⟩=some (.slice A (g.ws k).length cw):=by
    rw [cell_of_row wr g.DR _ _ _ _ hRw.regs,<- HV.out];exact Ji hk
   have f1:wr.frozen? ⟨g.DR,k*3,none⟩=false:=frozen_of_row wr _ _ _ _ hRw.regs
   obtain ⟨HRW,HKW⟩:=zi2 hRw hKw
   clear hRw hKw
   go_wp2_with fail
   refine uN rfl rfl ?_
   have h1:=Gt HRW.out hk
   rw [List.take_length] at h1
   exact ⟨rfl,h1,HKW.out.set (p:=⟨g.DR,k*3,none⟩) (.inl HR.out.fDR) _⟩
theorem zjK (D:Nat) (F:Nat->Prop) (cur:Nat->Nat->List UInt8) (cnt:Nat->Nat) (k:Nat) (w:World) (h:zv w D F cur cnt) (hk:k<4) (hlen:cnt k<=100000) :
  Calls Tryz.prog 26 #[.pointer (some ⟨D,0,none⟩),.int .i64 k,.int .u64 18446744073709551615] w fun e w'=>e=.returned (.tuple #[])/\zv w' D F cur (zE cnt k 0)/\zr F w w':=by
 obtain ⟨g,hR,hcur,hcnt⟩:=h
 refine (zij D F g k w hR hk (Nat.le_trans (hcnt k hk) hlen)).mono ?_
 rintro e w' ⟨rfl,hR',hK⟩
 refine ⟨rfl,⟨_,hR',fun r s hr hs=>?_,fun r hr=>?_⟩,hK⟩
 ·rw [hcur r s hr hs]
  by_cases e:r=k
  ·subst e
   simp only [zf,YF]
   rw [if_pos (by omega),show (r*538+s) % 538=s by omega]
   rfl
  ·simp only [zm _ _ e,YF]
   rw [if_neg (by omega)]
 ·by_cases e:r=k
  ·subst e;simp only [zf];exact Nat.le_refl _
  ·simp only [zm _ _ e];exact hcnt r hr
theorem ud (D:Nat) (F:Nat->Prop) (cur:Nat->Nat->List UInt8) (cnt:Nat->Nat) (r:Int) (w:World) (h:zv w D F cur cnt) (hr0:0<=r) (hr:r<4) (hlen:cnt r.toNat<=100000) :
  Calls Tryz.prog 98 #[.pointer (some ⟨D,0,none⟩),.int .i64 r] w fun e w'=>e=.returned (.int .i64 0)/\zv w' D F cur (zE cnt r.toNat 0)/\zr F w w':=by
 obtain ⟨k,rfl⟩:∃ k:Nat,r=(k:Int):=⟨r.toNat,by omega⟩
 simp only [Int.toNat_natCast] at hlen ⊢
 obtain ⟨g,hR,hg⟩:=id h
 have d1:decide ((k:Int)*538+0<0)=false:=by simp;omega
 have d2:decide ((k:Int)*538<0)=false:=by simp;omega
 obtain ⟨HR,HD⟩:=zi2 hR h
 clear hR h hg
 go_enter Tryz.func98,Tryz.ntmps98
 go_wp2_with (first
  | (go_at_call 27;(with_reducible refine (GU D F g k 0 w HR.out hr0 hr (by omega) (by omega)).mono ?_);rintro e1 w1 ⟨rfl,hw1⟩;subst w1)
  | (go_at_call 140;(with_reducible refine (zcy D F g k w HR.out hr0 hr).mono ?_);rintro e1 w1 ⟨rfl,hw1⟩;subst w1)
  | (go_at_call 26;(with_reducible refine (zjK D F cur cnt k w HD.out (by omega) hlen).mono ?_);rintro e1 w1 ⟨rfl,hD1,hK1⟩))
 go_ret
 exact ⟨rfl,hD1,hK1⟩
theorem zgt (D:Nat) (F:Nat->Prop) (g:yI) (k:Nat) (m:Int) (w:World) (h:qq w D F g) (hk:k<4) (hlen:g.ws k=[]) :
  Calls Tryz.prog 26 #[.pointer (some ⟨D,0,none⟩),.int .i64 k,.int .u64 m] w fun e w'=>e=.returned (.tuple #[])/\qq w' D F { g with V:=zE g.V k (.slice none 0 0),ws:=zE g.ws k [] }/\zr F w w':=by
 have hown:=h.own k hk
 obtain ⟨A,cw,hV⟩:=own_slice hown
 rw [hlen] at hV
 have HV:=hid hV
 have c2:=(cell_of_row w D 2 _ _ _ h.blk).trans (show _=some (Value.slice (some ⟨g.DR,0,none⟩) 4 4) from rfl)
 have cw':w.cell? ⟨g.DR,k*3,none⟩=some (.slice A 0 cw):=by
  rw [cell_of_row w g.DR _ _ _ _ h.regs,show (Value.slice A 0 cw)=g.V k from hV.symm];exact Ji hk
 have f1:w.frozen? ⟨g.DR,k*3,none⟩=false:=frozen_of_row w _ _ _ _ h.regs
 have hka:(0:Int)<=(k:Int):=by omega
 have hkb:(k:Int)<4:=by omega
 have HR:=hid h
 clear h hown hV hlen
 go_enter Tryz.func26,Tryz.ntmps26
 go_wp2_with fail
 refine wp_loop_rounds 1 ?_
 rw [rounds_succ]
 go_wp2_with fail
 refine uN rfl rfl ?_
 exact ⟨rfl,Gt HR.out hk,(zr.refl _ _).set (p:=⟨g.DR,k*3,none⟩) (.inl HR.out.fDR) _⟩
theorem zbV {w:World} {D k:Nat} {F:Nat->Prop} {g:yI} (hR:qq w D F g) (hk:k<4):qq (w.setCell ⟨g.DR,k*3+1,none⟩ (.bool false)) D F g:=by
 have e:(uc g.V).setIfInBounds (k*3+1) (.bool false)=uc g.V:=by
  rcases k with _ | _ | _ | _ | k<;>first | rfl | omega
 have h1:(w.setCell ⟨g.DR,k*3+1,none⟩ (.bool false)).heap[g.DR]?=w.heap[g.DR]?:=by
  rw [heap_setCell_same _ _ _ _ _ _ hR.regs,e];exact hR.regs.symm
 refine hR.same (fun x hx=>?_) (by simp)
 by_cases e2:x=g.DR
 ·subst e2;exact h1
 ·exact heap_setCell_other _ _ _ _ e2
theorem zgh (D:Nat) (F:Nat->Prop) (cur:Nat->Nat->List UInt8) (cnt:Nat->Nat) (m:Int) (w:World) (h:zv w D F cur cnt) (h0:∀ r,r<4->cnt r=0) :
  Calls Tryz.prog 21 #[.pointer (some ⟨D,0,none⟩),.int .u64 m] w fun e w'=>e=.returned (.tuple #[])/\zv w' D F cur cnt/\zr F w w':=by
 obtain ⟨g,hR,hcur,hcnt⟩:=h
 have c2:=(cell_of_row w D 2 _ _ _ hR.blk).trans (show _=some (Value.slice (some ⟨g.DR,0,none⟩) 4 4) from rfl)
 obtain ⟨HR,HC⟩:=zi2 hR hcur
 have hnil:∀ r,r<4->g.ws r=[]:=fun r hr=>List.eq_nil_of_length_eq_zero (by have:=hcnt r hr;rw [h0 r hr] at this;omega)
 obtain ⟨HN,H0⟩:=zi2 hnil h0
 clear hR hcur hcnt hnil h0
 go_enter Tryz.func21,Tryz.ntmps21
 go_wp2_with fail
 go_loopw [12] (fun u wr=>∃ j:Nat,j<=4/\u=.int .i64 j/\(∃ V,qq wr D F { g with V:=V,ws:=fun _=>[] })/\zr F w wr) (fun u _=>(4-intOf u).toNat)
 case atStart =>
  refine ⟨0,by omega,rfl,⟨g.V,?_⟩,zr.refl _ _⟩
  have h1:=HR.out
  exact ⟨h1.blk,h1.data,h1.dat,h1.len,h1.regs,fun r hr=>by have:=h1.own r hr;rw [HN.out r hr] at this;exact this,fun r hr p hp=>(by cases hp),h1.dist,h1.fD,h1.fDD,h1.fDR,h1.fV,h1.lt,h1.tag⟩
 case round =>
  obtain ⟨j,hj,rfl,⟨V,hRw⟩,hKw⟩:=hrel
  by_cases hlt:j<4
  ·have hja:(0:Int)<=(j:Int):=by omega
   have hjb:(j:Int)<4:=by omega
   obtain ⟨HRW,HKW⟩:=zi2 hRw hKw
   clear hRw hKw
   go_wp2_with (go_at_call 26;(with_reducible refine (zgt D F _ j m wr HRW.out hlt rfl).mono ?_);rintro e1 w1 ⟨rfl,hD1,hK1⟩;have k2:=(cell_of_row w1 D 2 _ _ _ hD1.blk).trans (show _=some (Value.slice (some ⟨g.DR,0,none⟩) 4 4) from rfl);have k3:=(cell_of_row w1 g.DR (j*3+1) _ _ _ hD1.regs).trans (zdc hlt);have k4:=frozen_of_row w1 g.DR (j*3+1) _ _ hD1.regs;obtain ⟨HD1,HK1⟩:=zi2 hD1 hK1;clear hD1 hK1)
   go_roundw
   case rel=>exact ⟨j+1,by omega,by go_num,⟨_,by have:=zbV HD1.out hlt;simp only [show zE (fun _=>([]:List (Nat × List UInt8))) j []=fun _=>[] from by funext i;simp [zE]] at this;exact this⟩,(HKW.out.trans HK1.out (fun x hx=>.inl hx)).set (p:=⟨g.DR,j*3+1,none⟩) (.inl HR.out.fDR) _⟩
   case measure=>simp [intOf];omega
  ·obtain rfl:j=4:=by omega
   obtain ⟨HRW,HKW⟩:=zi2 hRw hKw
   clear hRw hKw
   go_wp2_with fail
   refine uN rfl rfl ?_
   refine ⟨rfl,⟨_,HRW.out,fun r s hr hs=>?_,fun r hr=>Nat.zero_le _⟩,HKW.out⟩
   have:=HC.out r s hr hs
   rw [HN.out r hr] at this
   exact this
theorem zjJ:(Tryz.prog.info? 118).map (fun i=>(i.zero,i.size,i.bytes))=some (some (.agg (Array.replicate 64 (.int .u8 0))),64,64):=by kernel_rfl
theorem zkz:(Tryz.prog.info? 86).map (fun i=>(i.zero,i.size,i.bytes))=some (some (.agg #[.slice none 0 0,.bool false,.int .i64 0]),3,40):=by kernel_rfl
def uK:Array Value:=madeCells (Array.replicate 64 (.int .u8 0)) 137728
def Yz:Array Value:=uc fun _=>.slice none 0 0
theorem zjO (w:World):(Instr.makeSlice 78 (.int .i64 2152) (.int .i64 2152)).run Tryz.prog w=.ok (.slice (some ⟨w.heap.size,0,none⟩) 2152 2152) (w.alloc (.cells uK 118)):=by
 obtain ⟨i,hi,hz0,hz1,hz2⟩:=info_parts zjJ
 have:=run_make (P:=Tryz.prog) w 78 118 i _ Tryz.underlying78 hi hz0 .i64 .i64 2152 2152 (by omega) (Int.le_refl _) (by rw [hz2];omega) (by omega)
 rw [hz1] at this
 exact this
theorem zkI (w:World):(Instr.makeSlice 79 (.int .i64 4) (.int .i64 4)).run Tryz.prog w=.ok (.slice (some ⟨w.heap.size,0,none⟩) 4 4) (w.alloc (.cells Yz 86)):=by
 obtain ⟨i,hi,hz0,hz1,hz2⟩:=info_parts zkz
 have:=run_make (P:=Tryz.prog) w 79 86 i _ Tryz.underlying79 hi hz0 .i64 .i64 4 4 (by omega) (Int.le_refl _) (by rw [hz2];omega) (by omega)
 rw [hz1] at this
 rw [this]
 have:madeCells (Value.agg #[.slice none 0 0,.bool false,.int .i64 0]).cells ((4:Int).toNat*3)=Yz:=by kernel_rfl
 rw [this];rfl
theorem zae {W:World} {D DD DR:Nat} (h1:W.heap[DD]?=some (.cells uK 118 (0,0))) (h2:W.heap[DR]?=some (.cells Yz 86 (0,0)))
  (h3:W.heap[D]?=some (.cells #[.int .i64 538,.slice (some ⟨DD,0,none⟩) 2152 2152,.slice (some ⟨DR,0,none⟩) 4 4,.int .i64 0] 81 (0,0))) :
  zv W D (fun x=>x=D∨x=DD∨x=DR) (fun _ _=>zs 64) (fun _=>0):=by
 refine ⟨{ DD:=DD,DR:=DR,n:=0,V:=fun _=>.slice none 0 0,ws:=fun _=>[],dat:=fun _=>zs 64 },⟨h3,⟨_,h1,by simp [uK,size_madeCells]⟩,fun i hi j v hv=>?_,fun i hi=>by simp [zs],h2,fun r hr=>World.ownsRow_nil _ _ _ _,fun r hr p hp=>(by cases hp),fun r q k hr hq hne e=>(by cases e),.inl rfl,.inr (.inl rfl),.inr (.inr rfl),fun r k hr e=>(by cases e),?_,?_⟩,fun r s hr hs=>rfl,fun r hr=>Nat.le_refl _⟩
 ·rw [cell_of_row W DD _ _ _ _ h1]
  have hj:j<64:=by have:=(List.getElem?_eq_some_iff.1 hv).1;simpa [zo,zs] using this
  have e1:v=.int .u8 0:=by
   have:=List.mem_of_getElem? hv
   simp [zo,zs] at this
   exact this
  subst e1
  have hlt:i*64+j<uK.size:=by simp [uK,size_madeCells];omega
  rw [Array.getElem?_eq_getElem hlt]
  simp [uK,madeCells]
  rw [getElem!_pos _ _ (by simp;omega)]
  simp
 ·rintro k (rfl | rfl | rfl)
  ·exact zd h3
  ·exact zd h1
  ·exact zd h2
 ·rintro k (rfl | rfl | rfl)
  ·rw [zc h3];simp
  ·rw [zc h1];simp
  ·rw [zc h2];simp
theorem zv.drew {w:World} {D:Nat} {F:Nat->Prop} {cur:Nat->Nat->List UInt8} {cnt:Nat->Nat} (h:zv w D F cur cnt):zv w.drew D F cur cnt:=h.same (fun _ _=>rfl) (Nat.le_refl _)
theorem zhT (w:World) :
  Calls Tryz.prog 19 #[.int .i64 4,.int .i64 538] w fun e w'=>∃ D F,e=.returned (.pointer (some ⟨D,0,none⟩))/\zv w' D F (fun _ _=>zs 64) (fun _=>0)/\Below w.heap.size w w'/\(∀ x,F x->w.heap.size<=x):=by
 have hm1:=zjO
 have hm2:=zkI
 have hw0:IntKind.i64.wrap 2152=2152:=by decide
 go_enter Tryz.func19,Tryz.ntmps19
 go_wp2_with fail
 go_region_with (fail)
 all_goals go_wp2_with fail
 all_goals go_ret
 ·exact ⟨_,_,rfl,zv.drew (zae (zy (zy (zk w (.cells uK 118) rfl) _) _) (zy (zk (w.alloc (.cells uK 118)) (.cells Yz 86) (by simp)) _) (zk _ _ (by simp))),(B_alloc (B_alloc (B_alloc (Below.refl _ _) _) _) _).drew,fun x hx=>by rcases hx with rfl | rfl | rfl<;>omega⟩
 ·exact ⟨_,_,rfl,zv.drew (zae (zy (zk (w.alloc (.cells Yz 86)) (.cells uK 118) (by simp)) _) (zy (zy (zk w (.cells Yz 86) rfl) _) _) (zk _ _ (by simp))),(B_alloc (B_alloc (B_alloc (Below.refl _ _) _) _) _).drew,fun x hx=>by rcases hx with rfl | rfl | rfl<;>omega⟩
structure Rw where
 t:Nat
 k:List UInt8
 v:List UInt8
deriving DecidableEq
def Rw.ok (r:Rw):Prop:=r.t<4/\r.k.length<=15/\r.v.length<=21
def jJ (r:Rw):List UInt8:=ZC r.t r.k r.v
def ui (r:Rw):Value:=.agg #[.int .i64 r.t,.string (za r.k),.string (za r.v)]
theorem ZW {r:Rw} (h:r.ok):(jJ r).length=40:=zfr _ _ _ h.2.1 h.2.2
theorem JZ (l:List UInt8):(za l).data.toList=l:=rfl
theorem qt (l:List UInt8):(za l).size=l.length:=by show l.toArray.size=_;simp
theorem KP {r:Rw} (h:r.ok) (w:World) :
  Calls Tryz.prog 93 #[ui r] w fun e w'=>∃ v',e=.returned v'/\w'.ownsRow w.heap.size 5 1 v' 40 (zo (jJ r))/\Below w.heap.size w w':=by
 have:=zfs (r.t:Int) (za r.k) (za r.v) w (by omega) (by have:=h.1;omega) (by rw [qt];exact h.2.1) (by rw [qt];exact h.2.2)
 exact this
theorem Yq {r:Rw} (h:r.ok) (w:World):Calls Tryz.prog 56 #[ui r] w fun e w'=>e=.returned (.bool true)/\Below w.heap.size w w':=by
 refine (zgY (r.t:Int) (za r.k) (za r.v) w).mono ?_
 rintro e w' ⟨rfl,hb⟩
 refine ⟨?_,hb⟩
 have h1:=h.1;have h2:=h.2.1;have h3:=h.2.2
 have:KO (r.t:Int) (za r.k) (za r.v)=true:=by
  unfold KO
  rw [qt,qt]
  simp;omega
 rw [this]
theorem zkb {r:Rw} (h:r.ok):(jJ r)[1]?=some (UInt8.ofNat r.t)/\(jJ r)[2]?=some (UInt8.ofNat r.k.length)/\(jJ r)[18]?=some (UInt8.ofNat r.v.length)/\((jJ r).drop 3).take r.k.length=r.k/\((jJ r).drop 19).take r.v.length=r.v:=by
 obtain ⟨h1,h2,h3⟩:=h
 have e:jJ r=[1,UInt8.ofNat r.t,UInt8.ofNat r.k.length]++(r.k++zs (15-r.k.length))++([UInt8.ofNat r.v.length]++(r.v++zs (21-r.v.length))):=by
  simp [jJ,ZC,zz,List.range_succ]
 have hl:([1,UInt8.ofNat r.t,UInt8.ofNat r.k.length]++(r.k++zs (15-r.k.length))).length=18:=by simp [zs];omega
 refine ⟨by rw [e];simp,by rw [e];simp,?_,?_,?_⟩
 ·rw [e,List.getElem?_append_right (by omega),hl];rfl
 ·rw [e]
  simp only [List.append_assoc,List.cons_append,List.nil_append,List.drop_succ_cons,List.drop_zero]
  rw [List.take_append_of_le_length (by simp)]
  simp
 ·rw [e,List.drop_append,List.drop_of_length_le (by omega),List.nil_append,hl]
  simp
theorem zaT (v:Value) (l:List UInt8) (w:World) (h:ze w v l) (hl:l.length≠40) (hm:l.length<=1000000) :
  Calls Tryz.prog 137 #[v] w fun e w'=>e=.returned (.tuple #[.agg #[.int .i64 0,.string (za []),.string (za [])],.int .i64 9])/\Below w.heap.size w w':=by
 obtain ⟨A,c,rfl,hr,_,_⟩:=h
 have d1:((l.length:Int) != 40)=true:=by simp;omega
 have d2:((l.length:Int) == 40)=false:=by simp;omega
 have d3:decide ((l.length:Int)=40)=false:=by simp;omega
 go_enter Tryz.func137,Tryz.ntmps137
 go_wp2
 exact bodyPost_ret (v:=.tuple #[.agg #[.int .i64 0,.string (za []),.string (za [])],.int .i64 9]) (by simp [results,Tryz.results137,go_sem];rfl) rfl ⟨rfl,B_alloc (Below.refl _ _) _⟩
theorem ze.alloc {w:World} {v:Value} {l:List UInt8} (h:ze w v l) (o:Obj):ze (w.alloc o) v l:=h.below (B_alloc (Below.refl _ _) o)
theorem JC (v:Value) (w:World) (h:ze w v (zs 40)) :
  Calls Tryz.prog 137 #[v] w fun e w'=>e=.returned (.tuple #[.agg #[.int .i64 0,.string { data:=#[] },.string { data:=#[] }],.int .i64 5])/\Below w.heap.size w w':=by
 have h1:=h.alloc (.cells #[.int .i64 0,.string { data:=#[] },.string { data:=#[] }] 34)
 obtain ⟨W,hrun,hz,hb⟩:=QH (w.alloc (.cells #[.int .i64 0,.string { data:=#[] },.string { data:=#[] }] 34)).drew 40 (by omega)
 have hsz:(w.alloc (.cells #[.int .i64 0,.string { data:=#[] },.string { data:=#[] }] 34)).drew.heap.size=w.heap.size+1:=by show (w.alloc _).heap.size=_;simp
 rw [hsz] at hrun hz
 have hrun:(Instr.makeSlice 29 (.int .i64 40) (.int .i64 40)).run Tryz.prog (w.alloc (.cells #[.int .i64 0,.string { data:=#[] },.string { data:=#[] }] 34)).drew=.ok (.slice (some ⟨w.heap.size+1,0,none⟩) 40 40) W:=hrun
 have c1:=jr h1.drew
 have c2:=jr (h1.drew.below hb)
 have c3:=jr hz
 have e2:(za (zs 40)).toList=(za (zs 40)).toList:=rfl
 obtain ⟨A,c,rfl,hr,_,_⟩:=h
 have hl:((zs 40).length:Nat)=40:=by simp [zs]
 rw [hl] at c1 c2 ⊢
 have HB:Hid (Below w.heap.size w W):=hid (B_call (B_alloc (Below.refl _ _) _).drew hb)
 have HC:=hid (Below.heap_alloc)
 have hblk:W.heap[w.heap.size]?=some (.cells #[.int .i64 0,.string { data:=#[] },.string { data:=#[] }] 34 (0,0)):=(hb.block w.heap.size (by show w.heap.size<(w.alloc _).heap.size;simp)).trans (zk w _ rfl)
 have k0:=cell_of_row W w.heap.size 0 _ _ _ hblk
 have k1:=cell_of_row W w.heap.size 1 _ _ _ hblk
 have k2:=cell_of_row W w.heap.size 2 _ _ _ hblk
 have f0:=frozen_of_row W w.heap.size 0 _ _ hblk
 have f1:=frozen_of_row W w.heap.size 1 _ _ hblk
 have f2:=frozen_of_row W w.heap.size 2 _ _ hblk
 have HBK:=hid hblk
 have heq:((za (zs 40)).toList == (za (zs 40)).toList)=true:=by simp
 clear hb hz hr h1 hblk HC
 go_enter Tryz.func137,Tryz.ntmps137
 go_wp2_with fail
 go_region_with (fail)
 all_goals
  go_wp2_with fail
  have hb2:=HBK.out
  refine jO 2 3 34 rfl rfl w.heap.size 34 #[.int .i64 0,.string { data:=#[] },.string { data:=#[] }] (0,0) _ (.int .i64 5) rfl rfl ?_ Tryz.underlying34 rfl (by kernel_rfl) ⟨rfl,B_set (B_set (B_set HB.out (Nat.le_refl _) _) (Nat.le_refl _) _) (Nat.le_refl _) _⟩
  rw [heap_setCell_same _ _ 2 _ _ _ (heap_setCell_same _ _ 1 _ _ _ (heap_setCell_same _ _ 0 _ _ _ hb2))]
  rfl
theorem KU (n:Nat) (h:n<256):((UInt8.ofNat n).toNat:Int)=(n:Int):=by
 have:(UInt8.ofNat n).toNat=n:=by rw [UInt8.toNat_ofNat'];omega
 rw [this]
theorem ze.sub {w:World} {ad:Addr} {n c:Nat} {l:List UInt8} (h:ze w (.slice (some ad) n c) l) (lo m:Nat) (hm:lo+m<=n) (hlo:lo<n):ze w (.slice (some (ad.add lo)) m (c-lo)) ((l.drop lo).take m):=by
 obtain ⟨A,c',e,hr,h1,h2⟩:=h
 injection e with e1 e2 e3
 subst e1 e2 e3
 have hl:((l.drop lo).take m).length=m:=by simp;omega
 refine ⟨_,_,by rw [hl],?_,by rw [hl];omega,by omega⟩
 rw [hl]
 have h3:=(hr.cut (k:=lo) (cap:=c) (by omega) h1)
 rw [if_neg (by omega),Nat.mul_one] at h3
 have h4:=h3.take (m:=m) (by omega)
 rw [<- Jn,<- Zi]
 exact h4
theorem zez {r:Rw}:((za (jJ r)).toList == (za (zs 40)).toList)=false:=by
 rw [zaW]
 have:jJ r≠zs 40:=fun e=>by
  have h1:(jJ r)[0]?=some 1:=by simp [jJ,ZC]
  rw [e] at h1
  simp [zs] at h1
 simpa using this
theorem Ze (v:Value) (r:Rw) (hr:r.ok) (w:World) (h:ze w v (jJ r)) :
  Calls Tryz.prog 137 #[v] w fun e w'=>e=.returned (.tuple #[ui r,.int .i64 0])/\Below w.heap.size w w':=by
 have h1:=h.alloc (.cells #[.int .i64 0,.string { data:=#[] },.string { data:=#[] }] 34)
 obtain ⟨W,hrun,hz,hb⟩:=QH (w.alloc (.cells #[.int .i64 0,.string { data:=#[] },.string { data:=#[] }] 34)).drew 40 (by omega)
 have hsz:(w.alloc (.cells #[.int .i64 0,.string { data:=#[] },.string { data:=#[] }] 34)).drew.heap.size=w.heap.size+1:=by show (w.alloc _).heap.size=_;simp
 rw [hsz] at hrun hz
 have hrun:(Instr.makeSlice 29 (.int .i64 40) (.int .i64 40)).run Tryz.prog (w.alloc (.cells #[.int .i64 0,.string { data:=#[] },.string { data:=#[] }] 34)).drew=.ok (.slice (some ⟨w.heap.size+1,0,none⟩) 40 40) W:=hrun
 have c1:=jr h1.drew
 have h2:=h1.drew.below hb
 have c2:=jr h2
 have c3:=jr hz
 have hl:=ZW hr
 obtain ⟨b1,b2,b3,b4,b5⟩:=zkb hr
 have hat:∀ j u,(jJ r)[j]?=some u->∀ ad c,v=.slice (some ad) 40 c->W.cell? (ad.add j)=some (.int .u8 u.toNat):=fun j u hu ad c e=>by
  subst e
  obtain ⟨A',c',e,hrd,_,_⟩:=h2
  injection e with e1 e2 e3
  subst e1
  obtain ⟨ad',hA,hc⟩:=hrd.src (by rw [qm,hl];omega)
  injection hA with hA;subst hA
  exact hc j _ (by simp [zo,hu])
 obtain ⟨A,c,rfl,hrd,hcle,hcm⟩:=h
 rw [hl] at hcle h1 h2 c1 c2 hat ⊢
 obtain ⟨ad,rfl,_⟩:=hrd.src (by rw [qm,hl];omega)
 have e1:=hat 1 _ b1 ad c rfl
 have e2:=hat 2 _ b2 ad c rfl
 have e3:=hat 18 _ b3 ad c rfl
 obtain ⟨hr1,hr2,hr3⟩:=id hr
 rw [KU _ (by omega)] at e1 e2 e3
 have hk:=h2.sub 3 r.k.length (by omega) (by omega)
 have hv:=h2.sub 19 r.v.length (by omega) (by omega)
 rw [b4] at hk
 rw [b5] at hv
 have HB:Hid (Below w.heap.size w W):=hid (B_call (B_alloc (Below.refl _ _) _).drew hb)
 have hblk:W.heap[w.heap.size]?=some (.cells #[.int .i64 0,.string { data:=#[] },.string { data:=#[] }] 34 (0,0)):=(hb.block w.heap.size (by show w.heap.size<(w.alloc _).heap.size;simp)).trans (zk w _ rfl)
 have HBK:=hid hblk
 have heq:=@zez r
 obtain ⟨HK,HVV,HH2⟩:=zi3 hk hv h2
 have HH1:Hid (ze (w.alloc (.cells #[.int .i64 0,.string { data:=#[] },.string { data:=#[] }] 34)) (.slice (some ad) 40 c) (jJ r)):=hid h1
 have HE:=hid (And.intro e1 (And.intro e2 e3))
 have HR:=hid hr
 clear hb hz hrd h1 hblk b1 b2 b3 b4 b5 hat hk hv h2 e1 e2 e3 hl hr
 go_enter Tryz.func137,Tryz.ntmps137
 go_wp2_with fail
 have hS3:ze (w.alloc (.cells #[.int .i64 0,.string { data:=#[] },.string { data:=#[] }] 34)).drew (.slice (some ad) 40 c) (jJ r):=HH1.out.drew
 refine wp_region_noPanic ?_
 refine PrintLast.start_ (n:=5) (S:=(fun w'=>ze w' (.slice (some ad) 40 c) (jJ r))) (ds:=[]) (bA 5 0) (by kernel_rfl) rfl (by kernel_rfl) hS3 (fun hHeld=>?_)
 refine pu 0 12 5 1 rfl rfl ?_
 refine tk 1 13 5 3 rfl rfl (vg 29 9 (.tmp 12) rfl rfl (.slice (some ad) 40 c) (.string (za (jJ r))) rfl (fun w' hSw=>jr hSw)) ?_
 refine on 2 5 7 (some 14) rfl rfl (fun K hK=>?_)
 show Oper.wp _ ⟨some 14,_,_,_,_,_⟩ _ _ _ _
 refine zkl 29 _ _ rfl _ _ _ rfl rfl hrun ?_
 refine hK.out _ _ HH2.out (fun hHeld=>?_)
 clear hK K
 try simp only [pS]
 refine on 3 5 15 (some 15) rfl rfl (fun K hK=>?_)
 show Oper.wp _ ⟨some 15,_,_,_,_,_⟩ _ _ _ _
 refine vR 29 9 (.tmp 14) rfl _ _ rfl c3 ?_
 refine hK.out _ _ hHeld (fun hHeld=>?_)
 clear hK K
 try simp only [pS]
 refine pu 4 16 5 31 rfl rfl ?_
 refine PrintLast.done_ (by kernel_rfl) ?_
 refine NoPanic.normal ?_
 clear hrun c1 c2 c3 hS3
 go_upto_region 5 with fail
 have hS5:W.drew.cell? ⟨ad.block,ad.off+2,none⟩=some (.int .u8 r.k.length)/\W.drew.cell? ⟨ad.block,ad.off+18,none⟩=some (.int .u8 r.v.length):=⟨HE.out.2.1,HE.out.2.2⟩
 have m1:IntKind.i64.wrap (r.k.length:Int)=r.k.length:=by rw [IntKind.wrap_i64];omega
 have m2:IntKind.i64.wrap (r.v.length:Int)=r.v.length:=by rw [IntKind.wrap_i64];omega
 have m3:¬ (15:Int)<(r.k.length:Int):=by omega
 have m4:¬ (21:Int)<(r.v.length:Int):=by omega
 refine wp_region_noPanic ?_
 refine PrintLast.start_ (n:=12) (S:=(fun w'=>w'.cell? ⟨ad.block,ad.off+2,none⟩=some (.int .u8 r.k.length)/\w'.cell? ⟨ad.block,ad.off+18,none⟩=some (.int .u8 r.v.length))) (ds:=[]) (bA 12 0) (by kernel_rfl) rfl (by kernel_rfl) hS5 (fun hHeld=>?_)
 refine pu 0 18 12 1 rfl rfl ?_
 refine pu 1 19 12 3 rfl rfl ?_
 refine tq 2 20 12 7 rfl rfl ?_
 refine tq 3 21 12 15 rfl rfl ?_
 refine pu 4 22 12 31 rfl rfl ?_
 refine pu 5 23 12 63 rfl rfl ?_
 refine pu 6 24 12 127 rfl rfl ?_
 refine tq 7 25 12 255 rfl rfl ?_
 refine tq 8 26 12 511 rfl rfl ?_
 refine pu 9 27 12 1023 rfl rfl ?_
 refine pu 10 4 12 2047 rfl rfl ?_
 refine pu 11 5 12 4095 rfl rfl ?_
 refine PrintLast.done_ (by kernel_rfl) ?_
 refine NoPanic.normal ?_
 clear m1 m2 m3 m4 hS5
 go_upto_region 7 with fail
 have hS7:W.drew.drew.cell? ⟨ad.block,ad.off+1,none⟩=some (.int .u8 r.t)/\ze W.drew.drew (.slice (some (ad.add 3)) r.k.length (c-3)) r.k/\ze W.drew.drew (.slice (some (ad.add 19)) r.v.length (c-19)) r.v:=⟨HE.out.1,HK.out,HVV.out⟩
 have m1:IntKind.i64.wrap (3+(r.k.length:Int))=3+(r.k.length:Int):=by rw [IntKind.wrap_i64];omega
 have m2:IntKind.i64.wrap (19+(r.v.length:Int))=19+(r.v.length:Int):=by rw [IntKind.wrap_i64];omega
 have m3:(3:Int)<=3+(r.k.length:Int):=by omega
 have m4:(3:Int)+(r.k.length:Int)<=(c:Int):=by omega
 have m5:(19:Int)<=19+(r.v.length:Int):=by omega
 have m6:(19:Int)+(r.v.length:Int)<=(c:Int):=by omega
 have m7:¬ c=3:=by omega
 have m8:¬ c=19:=by omega
 have m9:max ((3:Int)+(r.k.length:Int)) 0=3+(r.k.length:Int):=by omega
 have n1:max ((19:Int)+(r.v.length:Int)) 0=19+(r.v.length:Int):=by omega
 have n2:((3:Int)+(r.k.length:Int)).toNat-3=r.k.length:=by omega
 have n3:((19:Int)+(r.v.length:Int)).toNat-19=r.v.length:=by omega
 have n4:(0:Int)<=3+(r.k.length:Int):=by omega
 have n5:(0:Int)<=19+(r.v.length:Int):=by omega
 have n6:IntKind.i64.wrap (r.t:Int)=r.t:=by rw [IntKind.wrap_i64];omega
 refine wp_region_noPanic ?_
 refine PrintLast.start_ (n:=19) (S:=(fun w'=>w'.cell? ⟨ad.block,ad.off+1,none⟩=some (.int .u8 r.t)/\ze w' (.slice (some (ad.add 3)) r.k.length (c-3)) r.k/\ze w' (.slice (some (ad.add 19)) r.v.length (c-19)) r.v)) (ds:=[18]) (bA 19 0) (by kernel_rfl) rfl (by kernel_rfl) hS7 (fun hHeld=>?_)
 refine pu 0 28 19 1 rfl rfl ?_
 refine pu 1 29 19 3 rfl rfl ?_
 refine tq 2 30 19 7 rfl rfl ?_
 refine tq 3 31 19 15 rfl rfl ?_
 refine pu 4 32 19 31 rfl rfl ?_
 refine pu 5 33 19 63 rfl rfl ?_
 refine pu 6 34 19 127 rfl rfl ?_
 refine pu 7 35 19 255 rfl rfl ?_
 refine tk 8 36 19 511 rfl rfl (vg 29 9 (.tmp 35) rfl rfl (.slice (some (ad.add 3)) r.k.length (c-3)) (.string (za r.k)) rfl (fun w' hSw=>jr hSw.2.1)) ?_
 refine pu 9 37 19 1023 rfl rfl ?_
 refine pu 10 38 19 2047 rfl rfl ?_
 refine pu 11 39 19 4095 rfl rfl ?_
 refine pu 12 40 19 8191 rfl rfl ?_
 refine pu 13 41 19 16383 rfl rfl ?_
 refine pu 14 42 19 32767 rfl rfl ?_
 refine tk 15 43 19 65535 rfl rfl (vg 29 9 (.tmp 42) rfl rfl (.slice (some (ad.add 19)) r.v.length (c-19)) (.string (za r.v)) rfl (fun w' hSw=>jr hSw.2.2)) ?_
 refine pu 16 44 19 131071 rfl rfl ?_
 refine on 17 19 262143 (some 7) rfl rfl (fun K hK=>?_)
 show Oper.wp _ ⟨some 7,_,_,_,_,_⟩ _ _ _ _
 refine YR 34 rfl W.heap.size rfl (.agg #[.int .i64 0,.string { data:=#[] },.string { data:=#[] }]) (by kernel_rfl) ?_
 refine hK.out _ _ ⟨jI hHeld.1 _,hHeld.2.1.alloc _,hHeld.2.2.alloc _⟩ (fun hHeld=>?_)
 clear hK K
 try simp only [pS]
 refine la 18 19 524287 none rfl rfl (fun K hK=>?_)
 show Oper.wp _ ⟨none,_,_,_,_,_⟩ _ _ _ _
 refine uC 34 (.tmp 7) (.tmp 44) rfl W.heap.size (by rfl) _ #[.int .i64 r.t,.string (za r.k),.string (za r.v)] (by rfl) (by rfl) (by kernel_rfl) (by rfl) (by simp [Value.oneCell']) ?_
 refine hK.out _ _ ?_
 clear hK K
 try simp only [pS]
 refine PrintLast.done_ (by kernel_rfl) ?_
 refine NoPanic.normal ?_
 clear m1 m2 m3 m4 m5 m6 m7 m8 m9 n1 n2 n3 n4 n5 n6 hS7
 obtain ⟨W2,hW2⟩:∃ W2,W2=W.drew.drew.alloc (.cells #[.int .i64 r.t,.string (za r.k),.string (za r.v)] 34):=⟨_,rfl⟩
 have hX:W2.heap[W.heap.size]?=some (.cells #[.int .i64 r.t,.string (za r.k),.string (za r.v)] 34 (0,0)):=by rw [hW2];exact zk _ _ rfl
 have hB2:Below w.heap.size w W2:=by rw [hW2];exact B_alloc HB.out.drew.drew _
 have hin:ze W2 (.slice (some ad) 40 c) (jJ r):=by rw [hW2];exact HH2.out.alloc _
 have hblk2:W2.heap[w.heap.size]?=some (.cells #[.int .i64 0,.string { data:=#[] },.string { data:=#[] }] 34 (0,0)):=by rw [hW2];exact zy (show W.drew.drew.heap[w.heap.size]?=_ from HBK.out) _
 have hlt2:w.heap.size<W.heap.size:=zd HBK.out
 have hltW:W.heap.size<W2.heap.size:=by rw [hW2];show W.drew.drew.heap.size < _;simp
 rw [<- hW2]
 obtain ⟨HX,HB2,HIN,HBL2⟩:=zi4 hX hB2 hin hblk2
 clear hW2 hX hB2 hin hblk2 HK HVV HH2 HE HBK HB
 go_upto_region 8 with fail
 have hS8:W2.drew.heap[W.heap.size]?=some (.cells #[.int .i64 r.t,.string (za r.k),.string (za r.v)] 34 (0,0))/\ze W2.drew (.slice (some ad) 40 c) (jJ r)/\W2.drew.heap[w.heap.size]?=some (.cells #[.int .i64 0,.string { data:=#[] },.string { data:=#[] }] 34 (0,0))/\Below w.heap.size w W2.drew/\W2.heap.size<=W2.drew.heap.size:=⟨HX.out,HIN.out,HBL2.out,HB2.out.drew,Nat.le_refl _⟩
 refine wp_region_noPanic ?_
 refine PrintLast.start_ (n:=11) (S:=(fun w'=>w'.heap[W.heap.size]?=some (.cells #[.int .i64 r.t,.string (za r.k),.string (za r.v)] 34 (0,0))/\ze w' (.slice (some ad) 40 c) (jJ r)/\w'.heap[w.heap.size]?=some (.cells #[.int .i64 0,.string { data:=#[] },.string { data:=#[] }] 34 (0,0))/\Below w.heap.size w w'/\W2.heap.size<=w'.heap.size)) (ds:=[]) (bA 11 0) (by kernel_rfl) rfl (by kernel_rfl) hS8 (fun hHeld=>?_)
 refine tk 0 45 11 1 rfl rfl (qE 34 (.tmp 7) rfl rfl W.heap.size rfl 34 _ (0,0) _ (fun w' hSw=>hSw.1) Tryz.underlying34 rfl (by kernel_rfl)) ?_
 refine on 1 11 3 (some 46) rfl rfl (fun K hK=>?_)
 show Oper.wp _ ⟨some 46,_,_,_,_,_⟩ _ _ _ _
 refine zq 56 _ _ [ui r] rfl (by kernel_rfl) (by rfl) ((Yq HR.out _).mono ?_)
 rintro e1 w3 ⟨rfl,hb3⟩
 refine ⟨_,rfl,?_⟩
 refine hK.out _ _ ⟨zb hHeld.1 hb3 (zd hHeld.1),hHeld.2.1.below hb3,zb hHeld.2.2.1 hb3 (zd hHeld.2.2.1),B_call hHeld.2.2.2.1 hb3,Nat.le_trans hHeld.2.2.2.2 hb3.size⟩ (fun hHeld=>?_)
 clear hK K
 try simp only [pS]
 refine pu 2 47 11 7 rfl rfl ?_
 refine pu 3 48 11 15 rfl rfl ?_
 refine tk 4 49 11 31 rfl rfl (qE 34 (.tmp 7) rfl rfl W.heap.size rfl 34 _ (0,0) _ (fun w' hSw=>hSw.1) Tryz.underlying34 rfl (by kernel_rfl)) ?_
 refine pu 7 52 11 159 rfl rfl ?_
 refine tk 8 53 11 415 rfl rfl (vg 29 9 (.tmp 52) rfl rfl (.slice (some ad) 40 c) (.string (za (jJ r))) rfl (fun w' hSw=>jr hSw.2.1)) ?_
 refine on 5 11 447 (some 50) rfl rfl (fun K hK=>?_)
 show Oper.wp _ ⟨some 50,_,_,_,_,_⟩ _ _ _ _
 refine zq 93 _ _ [ui r] rfl (by kernel_rfl) (by rfl) ((KP HR.out _).mono ?_)
 rintro e1 w4 ⟨v4,rfl,hown4,hb4⟩
 refine ⟨_,rfl,?_⟩
 refine hK.out _ _ ⟨zb hHeld.1 hb4 (zd hHeld.1),hHeld.2.1.below hb4,zb hHeld.2.2.1 hb4 (zd hHeld.2.2.1),B_call hHeld.2.2.2.1 hb4,Nat.le_trans hHeld.2.2.2.2 hb4.size⟩ (fun hHeld=>?_)
 clear hK K
 try simp only [pS]
 refine on 6 11 511 (some 51) rfl rfl (fun K hK=>?_)
 show Oper.wp _ ⟨some 51,_,_,_,_,_⟩ _ _ _ _
 refine vR 29 9 (.tmp 50) rfl v4 (.string (za (jJ r))) rfl (jr (ze.of_own (ZW HR.out).symm hown4)) ?_
 refine hK.out _ _ hHeld (fun hHeld=>?_)
 clear hK K
 try simp only [pS]
 refine pu 9 54 11 1023 rfl rfl ?_
 refine pu 10 55 11 2047 rfl rfl ?_
 refine PrintLast.done_ (by kernel_rfl) ?_
 refine NoPanic.normal ?_
 have k0:=cell_of_row w4 W.heap.size 0 _ _ _ hHeld.1
 have k1:=cell_of_row w4 W.heap.size 1 _ _ _ hHeld.1
 have k2:=cell_of_row w4 W.heap.size 2 _ _ _ hHeld.1
 have l0:=cell_of_row w4 w.heap.size 0 _ _ _ hHeld.2.2.1
 have l1:=cell_of_row w4 w.heap.size 1 _ _ _ hHeld.2.2.1
 have l2:=cell_of_row w4 w.heap.size 2 _ _ _ hHeld.2.2.1
 have f0:=frozen_of_row w4 w.heap.size 0 _ _ hHeld.2.2.1
 have f1:=frozen_of_row w4 w.heap.size 1 _ _ hHeld.2.2.1
 have f2:=frozen_of_row w4 w.heap.size 2 _ _ hHeld.2.2.1
 have HL:=hid hHeld.2.2.1
 have HB4:=hid hHeld.2.2.2.1
 rename_i hh1 hh2 hh3 hh4 hh5 hh6
 clear hS8 hHeld
 go_wp2_with fail
 refine jO 2 3 34 rfl rfl w.heap.size 34 #[.int .i64 r.t,.string (za r.k),.string (za r.v)] (0,0) _ (.int .i64 0) rfl rfl ?_ Tryz.underlying34 rfl (by kernel_rfl) ⟨rfl,B_set (B_set (B_set HB4.out (Nat.le_refl _) _) (Nat.le_refl _) _) (Nat.le_refl _) _⟩
 rw [heap_setCell_same _ _ 2 _ _ _ (heap_setCell_same _ _ 1 _ _ _ (heap_setCell_same _ _ 0 _ _ _ HL.out))]
 rfl
def zt:Option Rw->List UInt8
 | none=>[]
 | some r=>jJ r
def qX:Option Rw->Prop
 | none=>True
 | some r=>r.ok
structure zI where
 kind:Nat
 txn:Nat
 page:Nat
 slot:Nat
 before:Option Rw
 after:Option Rw
 image:List UInt8
 dirty:List Nat
structure zI.ok (r:zI):Prop where
 k1:1<=r.kind
 k7:r.kind<=7
 txn:r.txn<=255
 page:r.page<6
 slot:r.slot<5
 before:qX r.before
 after:qX r.after
 image:r.image=[]∨r.image.length=256
 dirty:r.dirty=[]∨(r.kind=7/\r.dirty.length=6)
 small:∀ d,d∈r.dirty->d<18446744073709551616
def ZB (r:zI) (dv:Value):Value :=
 .agg #[.int .i64 r.kind,.int .i64 r.txn,.int .i64 r.page,.int .i64 r.slot,.string (za (zt r.before)),.string (za (zt r.after)),.string (za r.image),dv]
theorem Js {o:Option Rw} (h:qX o):zt o=[]∨(zt o).length=40:=by
 cases o with
 | none=>exact .inl rfl
 | some r=>exact .inr (ZW h)
theorem GW {o:Option Rw} (h:qX o):GV (za (zt o))=true:=by
 unfold GV
 rcases Js h with e | e
 ·rw [e,ByteArray.toList_eq];rfl
 ·rw [qt,e];simp
theorem KK (r:zI) (A:Option Addr) (c:Nat) (w:World) (h:r.ok) :
  Calls Tryz.prog 106 #[ZB r (.slice A r.dirty.length c)] w fun e w'=>e=.returned (.bool true)/\Below w.heap.size w w':=by
 have hb1:=GW h.before
 have hb2:=GW h.after
 have d1:decide ((r.kind:Int)<1)=false:=by have:=h.k1;simp;omega
 have d2:decide ((7:Int)<(r.kind:Int))=false:=by have:=h.k7;simp;omega
 have d3:decide ((r.txn:Int)<0)=false:=by simp
 have d4:decide ((255:Int)<(r.txn:Int))=false:=by have:=h.txn;simp;omega
 have d5:decide ((r.page:Int)<0)=false:=by simp
 have d6:decide ((6:Int)<=(r.page:Int))=false:=by have:=h.page;simp;omega
 have d7:decide ((r.slot:Int)<0)=false:=by simp
 have d8:decide ((5:Int)<=(r.slot:Int))=false:=by have:=h.slot;simp;omega
 obtain ⟨s1,hs1⟩:∃ s,s=za (zt r.before):=⟨_,rfl⟩
 obtain ⟨s2,hs2⟩:∃ s,s=za (zt r.after):=⟨_,rfl⟩
 unfold ZB
 rw [<- hs1,<- hs2]
 rw [<- hs1] at hb1
 rw [<- hs2] at hb2
 have hB1:=hid hb1
 have hB2:=hid hb2
 have hd:=h.dirty
 have hi:=h.image
 clear h hs1 hs2 hb1 hb2
 have hdd:(r.dirty.length=0∨(r.kind=7/\r.dirty.length=6)):=by
  rcases hd with e | e
  ·left;rw [e];rfl
  ·exact .inr e
 clear hd
 obtain ⟨dl,hdl⟩:∃ n,n=r.dirty.length:=⟨_,rfl⟩
 obtain ⟨kd,hkd⟩:∃ n,n=r.kind:=⟨_,rfl⟩
 rw [<- hdl] at hdd ⊢
 rw [<- hkd] at hdd d1 d2 ⊢
 clear hdl hkd
 rcases hi with hi | hi
 ·rw [hi]
  have e0:za ([]:List UInt8)=⟨#[]⟩:=rfl
  rw [e0]
  rcases hdd with rfl | ⟨rfl,rfl⟩
  all_goals
   go_enter Tryz.func106,Tryz.ntmps106
   go_wp2_with (first
    | (go_at_call 142;(with_reducible refine (Jt s1 _).mono ?_);rintro e1 w1 ⟨rfl,rfl⟩;rw [hB1.out])
    | (go_at_call 142;(with_reducible refine (Jt s2 _).mono ?_);rintro e1 w1 ⟨rfl,rfl⟩;rw [hB2.out]))
   go_ret
   exact ⟨rfl,B_alloc (Below.refl _ _) _⟩
 ·have e1:((za r.image).size:Int)=256:=by rw [qt,hi];rfl
  obtain ⟨im,him⟩:∃ s,s=za r.image:=⟨_,rfl⟩
  rw [<- him] at e1 ⊢
  have e2:((im.size:Int) != 256)=false:=by rw [e1];rfl
  clear him hi e1
  rcases hdd with rfl | ⟨rfl,rfl⟩
  all_goals
   cases hemp:im.toList.isEmpty
   all_goals
    go_enter Tryz.func106,Tryz.ntmps106
    go_wp2_with (first
     | (go_at_call 142;(with_reducible refine (Jt s1 _).mono ?_);rintro e1 w1 ⟨rfl,rfl⟩;rw [hB1.out])
     | (go_at_call 142;(with_reducible refine (Jt s2 _).mono ?_);rintro e1 w1 ⟨rfl,rfl⟩;rw [hB2.out]))
    go_ret
    exact ⟨rfl,B_alloc (Below.refl _ _) _⟩
def ZF (l:List Nat):List Value:=l.map fun d:Nat=>Value.int .u64 (d:Int)
def vE (w:World) (v:Value) (l:List Nat):Prop:=∃ A c,v=.slice A l.length c/\zx w w.heap.size 1 A l.length (ZF l)/\l.length<=c/\c<=maxLen
theorem vE.below {w w':World} {v:Value} {l:List Nat} (h:vE w v l) (b:Below w.heap.size w w'):vE w' v l:=by
 obtain ⟨A,c,rfl,hr,h1,h2⟩:=h
 exact ⟨A,c,rfl,(hr.below b).more b.size,h1,h2⟩
theorem vE.nil (w:World):vE w (.slice none 0 0) []:=⟨none,0,rfl,(zx.none_:zx w w.heap.size 1 none 0 []),Nat.le_refl _,by unfold maxLen;omega⟩
def vi (r:zI):List UInt8:=[UInt8.ofNat r.kind,UInt8.ofNat r.txn,UInt8.ofNat r.page,UInt8.ofNat r.slot]
def ZA (r:zI):List UInt8:=vi r++zz 1 (zt r.before).length++zt r.before++zz 1 (zt r.after).length++zt r.after
def uV (r:zI):List UInt8:=ZA r++zz 2 r.image.length++r.image
def yN (r:zI):List UInt8:=uV r++zz 1 r.dirty.length++r.dirty.flatMap (zz 8)
def qu (r:zI):List UInt8:=zz 2 (yN r).length++yN r
theorem ZO {o:Option Rw} (h:qX o):(zt o).length<=40:=by rcases Js h with e | e<;>simp [e]
theorem yz (l:List Nat):(l.flatMap (zz 8)).length=8*l.length:=by
 induction l with
 | nil=>rfl
 | cons d l ih=>simp only [List.flatMap_cons,List.length_append,zA,ih,List.length_cons];omega
theorem zbF {r:zI} (h:r.ok):(ZA r).length<=86:=by
 have h1:=ZO h.before
 have h2:=ZO h.after
 simp only [ZA,vi,List.length_append,zA,List.length_cons,List.length_nil];omega
theorem zbE {r:zI} (h:r.ok):(uV r).length<=344:=by
 have h1:=zbF h
 have h2:r.image.length<=256:=by rcases h.image with e | e<;>simp [e]
 simp only [uV,List.length_append,zA];omega
theorem GI {r:zI} (h:r.ok):r.dirty.length<=6:=by
 rcases h.dirty with e | e
 ·simp [e]
 ·omega
theorem YM {r:zI} (h:r.ok):(yN r).length<=393:=by
 have h1:=zbE h
 have h2:=GI h
 simp only [yN,List.length_append,zA,yz];omega
theorem yM {r:zI} (h:r.ok):(qu r).length<=395:=by
 have h1:=YM h
 simp only [qu,List.length_append,zA];omega
theorem Yu (n:Nat) (h:n<256):IntKind.u8.wrap (n:Int)=(n:Int):=by rw [IntKind.wrap_u8];omega
theorem jW (n:Nat) (h:n<18446744073709551616):IntKind.u64.wrap (n:Int)=(n:Int):=by rw [IntKind.wrap_u64];omega
theorem uD:yU Tryz.prog 5 1 1:=.of (by kernel_rfl)
theorem YS {w:World} {o:Oper} {a:Act} {K:Act->World->Prop} {Q:Exit->Act->World->Prop} (x y:Operand) (ho:o.op=.call { callee:=.builtin .append,args:=#[x,y],argTypes:=#[29,9] })
  (v:Value) (n:Nat) (l:List UInt8) (base:Nat) (hx:a.eval x=v) (hown:w.ownsRow base 5 1 v n (zo l)) (s:ByteArray) (hy:a.eval y=.string s) (h63:n+s.size<=1000000) (hbase:base<=w.heap.size)
  (h:∀ v' w',w'.ownsRow base 5 1 v' (n+s.size) (zo (l++s.data.toList))->w.grownBy w' v.ownBlock->K (a.put o.dst v') w'):o.wp Tryz.prog a w K Q:=by
 obtain ⟨i0,hi,hz0,hz1,hz2⟩:=info_parts uE
 obtain ⟨v',w',hrun,h1,h2,_⟩:=run_append_own_string (P:=Tryz.prog) w base 29 9 o.type 5 i0 Tryz.underlying29 Tryz.underlying9 hi hz0 hz1 hz2 v n (zo l) hown s (by unfold maxLen;omega) (by omega) hbase
 refine vu (w1:=w') (v:=v') ?_ (h v' w' (by rw [jF,<- zeJ];exact h1) h2)
 unfold execOp
 simp [ho,resolve,invoke,builtin,hx,hy,hrun]
theorem zas (r:zI) (dv:Value) (w:World) (h:r.ok) (hdv:vE w dv r.dirty) :
  Calls Tryz.prog 107 #[ZB r dv] w fun e w'=>∃ v,e=.returned v/\w'.ownsRow w.heap.size 5 1 v (qu r).length (zo (qu r))/\Below w.heap.size w w':=by
 obtain ⟨i0,hi,hz0,hz1,hz2⟩:=info_parts uE
 have a1:=Yu r.kind (by have:=h.k7;omega)
 have a2:=Yu r.txn (by have:=h.txn;omega)
 have a3:=Yu r.page (by have:=h.page;omega)
 have a4:=Yu r.slot (by have:=h.slot;omega)
 obtain ⟨dA,dc,rfl,hdr,hdl,hdm⟩:=id hdv
 have l1:=ZO h.before
 have l2:=ZO h.after
 have l3:=zbF h
 have l4:=zbE h
 have l5:=GI h
 have l6:=YM h
 have l7:r.image.length<=256:=by rcases h.image with e | e<;>simp [e]
 obtain ⟨H,HD⟩:=zi2 h hdr
 obtain ⟨s1,hs1⟩:∃ s,s=za (zt r.before):=⟨_,rfl⟩
 obtain ⟨s2,hs2⟩:∃ s,s=za (zt r.after):=⟨_,rfl⟩
 obtain ⟨s3,hs3⟩:∃ s,s=za r.image:=⟨_,rfl⟩
 have z1:s1.size=(zt r.before).length:=by rw [hs1,qt]
 have z2:s2.size=(zt r.after).length:=by rw [hs2,qt]
 have z3:s3.size=r.image.length:=by rw [hs3,qt]
 have t1:s1.data.toList=zt r.before:=by rw [hs1];rfl
 have t2:s2.data.toList=zt r.after:=by rw [hs2];rfl
 have t3:s3.data.toList=r.image:=by rw [hs3];rfl
 unfold ZB
 rw [<- hs1,<- hs2,<- hs3]
 have HT:=hid (And.intro t1 (And.intro t2 t3))
 have HZ:=hid (And.intro z1 (And.intro z2 z3))
 clear h hdv hdr hs1 hs2 hs3 t1 t2 t3 z1 z2 z3
 go_enter Tryz.func107,Tryz.ntmps107
 go_upto_region 2 with fail
 obtain ⟨w1,hw1⟩:∃ w1,w1=(w.alloc (.cells #[.int .i64 r.kind,.int .i64 r.txn,.int .i64 r.page,.int .i64 r.slot,.string s1,.string s2,.string s3,.slice dA r.dirty.length dc] 144)).alloc (.cells #[.int .u8 r.kind,.int .u8 r.txn,.int .u8 r.page,.int .u8 r.slot] 5):=⟨_,rfl⟩
 have hX:w1.heap[w.heap.size]?=some (.cells #[.int .i64 r.kind,.int .i64 r.txn,.int .i64 r.page,.int .i64 r.slot,.string s1,.string s2,.string s3,.slice dA r.dirty.length dc] 144 (0,0)):=by rw [hw1];exact zy (zk _ _ rfl) _
 have hB:Below w.heap.size w w1:=by rw [hw1];exact B_alloc (B_alloc (Below.refl _ _) _) _
 have hY:ze w1 (.slice (some ⟨w.heap.size+1,0,none⟩) 4 4) (vi r):=by
  have h0:(zo (vi r)).toArray=#[.int .u8 r.kind,.int .u8 r.txn,.int .u8 r.page,.int .u8 r.slot]:=by
   have hh:=H.out
   simp only [zo,vi,List.map_cons,List.map_nil,KU r.kind (by have:=hh.k7;omega),KU r.txn (by have:=hh.txn;omega),KU r.page (by have:=hh.page;omega),KU r.slot (by have:=hh.slot;omega)]
  have:=Kq (w.alloc (.cells #[.int .i64 r.kind,.int .i64 r.txn,.int .i64 r.page,.int .i64 r.slot,.string s1,.string s2,.string s3,.slice dA r.dirty.length dc] 144)) (vi r) (by unfold maxLen;simp [vi])
  rw [h0,World.size_alloc] at this
  rw [hw1]
  exact this
 rw [<- hw1]
 have hX4:=cell_of_row w1 w.heap.size 4 _ _ _ hX
 have hX5:=cell_of_row w1 w.heap.size 5 _ _ _ hX
 obtain ⟨HX,HB,HY⟩:=zi3 hX hB hY
 have hlt1:w.heap.size<w1.heap.size:=zd hX
 clear hw1 hX hB hY a1 a2 a3 a4
 have hS:w1.drew.cell? ⟨w.heap.size,4,none⟩=some (.string s1)/\w1.drew.cell? ⟨w.heap.size,5,none⟩=some (.string s2):=⟨hX4,hX5⟩
 refine wp_region_noPanic ?_
 refine PrintLast.start_ (n:=8) (S:=(fun w'=>w'.cell? ⟨w.heap.size,4,none⟩=some (.string s1)/\w'.cell? ⟨w.heap.size,5,none⟩=some (.string s2))) (ds:=[]) (bA 8 0) (by kernel_rfl) rfl (by kernel_rfl) hS (fun hHeld=>?_)
 refine pu 0 19 8 1 rfl rfl ?_
 refine pu 1 20 8 3 rfl rfl ?_
 refine tq 2 21 8 7 rfl rfl ?_
 refine pu 4 23 8 23 rfl rfl ?_
 refine tq 5 24 8 55 rfl rfl ?_
 refine on 3 8 63 (some 22) rfl rfl (fun K hK=>?_)
 show Oper.wp _ ⟨some 22,_,_,_,_,_⟩ _ _ _ _
 refine zq 60 _ _ [_,.string s1] rfl (by kernel_rfl) (by rfl) ((QT _ _ s1 _ HY.out.drew (by simp [vi]) (by rw [HZ.out.1];omega)).mono ?_)
 rintro e1 w2 ⟨v2,rfl,hown2,hb2⟩
 refine ⟨_,rfl,?_⟩
 refine hK.out _ _ ⟨qk hHeld.1 hb2 hlt1,qk hHeld.2 hb2 hlt1⟩ (fun hHeld=>?_)
 clear hK K
 try simp only [pS]
 refine on 6 8 127 (some 25) rfl rfl (fun K hK=>?_)
 show Oper.wp _ ⟨some 25,_,_,_,_,_⟩ _ _ _ _
 refine zq 60 _ _ [_,.string s2] rfl (by kernel_rfl) (by rfl) ((QT _ _ s2 _ (ze.of_own ?len hown2) ?le (by rw [HZ.out.2.1];omega)).mono ?_)
 case len=>rw [HT.out.1];simp [vi,zA,HZ.out.1];omega
 case le=>rw [HT.out.1];simp [vi,zA];omega
 rintro e1 w3 ⟨v3,rfl,hown3,hb3⟩
 refine ⟨_,rfl,?_⟩
 refine hK.out _ _ ⟨qk hHeld.1 hb3 (Nat.lt_of_lt_of_le hlt1 hb2.size),qk hHeld.2 hb3 (Nat.lt_of_lt_of_le hlt1 hb2.size)⟩ (fun hHeld=>?_)
 clear hK K
 try simp only [pS]
 refine pu 7 3 8 255 rfl rfl ?_
 refine PrintLast.done_ (by kernel_rfl) ?_
 refine NoPanic.normal ?_
 have hm:w3.ownsRow w2.heap.size 5 1 v3 (ZA r).length (zo (ZA r)):=by
  have e:vi r++zz 1 s1.size++s1.data.toList++zz 1 s2.size++s2.data.toList=ZA r:=by rw [HZ.out.1,HZ.out.2.1,HT.out.1,HT.out.2.1];rfl
  rw [e] at hown3
  have e2:=hown3.1
  rw [qm,Nat.mul_one] at e2
  rw [e2];exact hown3
 have hB3:Below w.heap.size w w3:=B_call (B_call HB.out.drew hb2) hb3
 have hX3:=zb (zb (show w1.drew.heap[w.heap.size]?=_ from HX.out) hb2 hlt1) hb3 (Nat.lt_of_lt_of_le hlt1 hb2.size)
 have hlt3:w.heap.size<w3.heap.size:=zd hX3
 have hin3:=ze.of_own rfl hm
 obtain ⟨HIN3,HB3,HX3⟩:=zi3 hin3 hB3 hX3
 have hX6:=cell_of_row w3 w.heap.size 6 _ _ _ hX3
 have hX7:=cell_of_row w3 w.heap.size 7 _ _ _ hX3
 clear hm hin3 hB3 hX3 hown2 hown3 hb2 hb3 hHeld hS hlt1
 go_upto_region 3 with fail
 have hS:w3.drew.cell? ⟨w.heap.size,6,none⟩=some (.string s3):=hX6
 have m1:IntKind.u64.wrap (s3.size:Int)=(r.image.length:Int):=by rw [HZ.out.2.2];exact jW _ (by omega)
 refine wp_region_noPanic ?_
 refine PrintLast.start_ (n:=10) (S:=(fun w'=>w'.cell? ⟨w.heap.size,6,none⟩=some (.string s3))) (ds:=[]) (bA 10 0) (by kernel_rfl) rfl (by kernel_rfl) hS (fun hHeld=>?_)
 refine pu 0 26 10 1 rfl rfl ?_
 refine pu 1 27 10 3 rfl rfl ?_
 refine tq 2 28 10 7 rfl rfl ?_
 refine pu 3 29 10 15 rfl rfl ?_
 refine tq 4 30 10 31 rfl rfl ?_
 refine pu 6 32 10 95 rfl rfl ?_
 refine tq 7 33 10 223 rfl rfl ?_
 refine on 5 10 255 (some 31) rfl rfl (fun K hK=>?_)
 show Oper.wp _ ⟨some 31,_,_,_,_,_⟩ _ _ _ _
 refine zq 59 _ _ [v3,.int .i64 2,.int .u64 (r.image.length:Int)] rfl (by kernel_rfl) (by rfl) ((yF v3 _ 2 r.image.length _ HIN3.out.drew (by omega) (by omega) (by omega)).mono ?_)
 rintro e1 w4 ⟨v4,rfl,hown4,hb4⟩
 refine ⟨_,rfl,?_⟩
 refine hK.out _ _ (qk hHeld hb4 hlt3) (fun hHeld=>?_)
 clear hK K
 try simp only [pS]
 refine on 8 10 511 (some 34) rfl rfl (fun K hK=>?_)
 show Oper.wp _ ⟨some 34,_,_,_,_,_⟩ _ _ _ _
 refine YS _ _ rfl v4 _ _ w3.drew.heap.size (by rfl) hown4 s3 (by rfl) ?le (hb4.size) ?_
 case le=>rw [HZ.out.2.2,show (2:Int).toNat=2 from rfl];omega
 intro v5 w5 hown5 hg5
 refine hK.out _ _ (uq hHeld hg5 (fun e=>by have:=(hown4.lt _ e).1;have h9:w3.heap.size<=w.heap.size:=this;omega)) (fun hHeld=>?_)
 clear hK K
 try simp only [pS]
 refine pu 9 3 10 1023 rfl rfl ?_
 refine PrintLast.done_ (by kernel_rfl) ?_
 refine NoPanic.normal ?_
 have hB5:Below w3.heap.size w3 w5:=yO (jL hb4 hown4 hg5)
 have hm5:w5.ownsRow w3.heap.size 5 1 v5 (uV r).length (zo (uV r)):=by
  have e:ZA r++zz (2:Int).toNat r.image.length++s3.data.toList=uV r:=by rw [HT.out.2.2];rfl
  rw [e] at hown5
  have e2:=hown5.1
  rw [qm,Nat.mul_one] at e2
  rw [e2];exact hown5
 have hin5:=ze.of_own rfl hm5
 have hX5:=zb HX3.out hB5 hlt3
 have hX57:=cell_of_row w5 w.heap.size 7 _ _ _ hX5
 have HIN5:=hid hin5
 have HB5:=hid (B_call HB3.out hB5)
 have HX5:=hid hX5
 have hlt5:w.heap.size<w5.heap.size:=zd hX5
 have m2:IntKind.u64.wrap (r.dirty.length:Int)=(r.dirty.length:Int):=jW _ (by omega)
 clear hHeld hS m1 hown4 hb4 hown5 hg5 hB5 hm5 hin5 hX5 hX6 hX7 hlt3
 go_upto_region 5 with (go_at_call 59;(with_reducible refine (yF v5 _ 1 r.dirty.length _ HIN5.out (by omega) (by omega) (by omega)).mono ?_);rintro e1 w6 ⟨v6,rfl,hown6,hb6⟩)
 have hB6:=B_call HB5.out hb6
 obtain ⟨l6',hl6'⟩:∃ l,l=uV r++zz (1:Int).toNat r.dirty.length:=⟨_,rfl⟩
 have hlen6:l6'.length=(uV r).length+1:=by rw [hl6',List.length_append,zA];rfl
 have hown6':w6.ownsRow w.heap.size 5 1 v6 l6'.length (zo l6'):=by
  have e2:=hown6.1
  rw [qm,Nat.mul_one] at e2
  rw [hl6']
  rw [e2]
  exact qT hown6 HB5.out.size
 have hX6:=zb HX5.out hb6 hlt5
 have hX67:=cell_of_row w6 w.heap.size 7 _ _ _ hX6
 have HO6:=hid hown6'
 have HB6:=hid hB6
 have HL6:=hid hl6'
 clear hown6 hb6 hown6' hB6 hl6' hX6 hX57
 go_wp2_with fail
 go_loopw [3,44] (fun v u wr=>∃ j:Nat,j<=r.dirty.length/\u=.int .i64 j/\wr.ownsRow w.heap.size 5 1 v (l6'.length+8*j) (zo (l6'++(r.dirty.take j).flatMap (zz 8)))/\Below w.heap.size w wr) (fun _ u _=>(r.dirty.length-intOf u).toNat)
 case atStart=>exact ⟨0,by omega,rfl,by simpa using HO6.out,HB6.out⟩
 case round =>
  obtain ⟨j,hj,rfl,hown,hbl⟩:=hrel
  by_cases hlt:j<r.dirty.length
  ·obtain ⟨d,hd⟩:∃ d,r.dirty[j]?=some d:=⟨_,List.getElem?_eq_getElem hlt⟩
   have hread:=HD.out.below hbl
   obtain ⟨ad,u,rfl,hadb,hx,hcell⟩:=hread.at_ hlt
   have hu:u=.int .u64 d:=by
    have:(ZF r.dirty)[j]?=some (.int .u64 d):=by simp [ZF,hd]
    rw [this] at hx
    injection hx with hx
    exact hx.symm
   subst hu
   have hka:(0:Int)<=(j:Int):=by omega
   have hkb:(j:Int)<(r.dirty.length:Int):=by omega
   have hln:(l6'++(r.dirty.take j).flatMap (zz 8)).length=l6'.length+8*j:=by rw [List.length_append,yz,List.length_take,Nat.min_eq_left hj]
   have hin:=ze.of_own hln.symm hown
   have hle:(l6'++(r.dirty.take j).flatMap (zz 8)).length<=1000000:=by omega
   obtain ⟨HIN,HBL,HLN,HDD⟩:=zi4 hin hbl hln hd
   clear hin hbl hln hd hown hx hread
   go_wp2_with (go_at_call 59;(with_reducible refine (yF u3 _ 8 d _ HIN.out (by omega) (by omega) hle).mono ?_);rintro e1 w7 ⟨v7,rfl,hown7,hb7⟩)
   go_roundw
   case rel =>
    refine ⟨j+1,by omega,by go_num,?_,B_call HBL.out hb7⟩
    have e:(r.dirty.take (j+1)).flatMap (zz 8)=(r.dirty.take j).flatMap (zz 8)++zz 8 d:=by
     rw [List.take_add_one,HDD.out,List.flatMap_append]
     simp
    rw [e,<- List.append_assoc]
    have:=qT hown7 HBL.out.size
    rw [HLN.out] at this
    exact this
   case measure=>simp [intOf];omega
  ·obtain rfl:j=r.dirty.length:=by omega
   rw [List.take_length] at hown
   have hbody:l6'++r.dirty.flatMap (zz 8)=yN r:=by rw [HL6.out];rfl
   rw [hbody] at hown
   have hln:(yN r).length=l6'.length+8*r.dirty.length:=by rw [<- hbody,List.length_append,yz]
   rw [<- hln] at hown
   obtain ⟨l9,hl9⟩:∃ l,l=yN r:=⟨_,rfl⟩
   rw [<- hl9] at hown l6
   have HL9:=hid hl9
   clear hl9 hbody hln
   obtain ⟨A8,c8,rfl⟩:=own_slice hown
   have hin:=ze.of_own rfl hown
   have hrd:=zx.of_own hown
   have m3:IntKind.u64.wrap (l9.length:Int)=(l9.length:Int):=jW _ (by omega)
   have hnil:ze wr (.slice none 0 0) []:=⟨none,0,rfl,(zx.none_:zx wr wr.heap.size 1 none 0 []),Nat.le_refl _,by unfold maxLen;omega⟩
   obtain ⟨HRD,HNIL,HBL⟩:=zi3 hrd hnil hbl
   clear hin hrd hnil hbl hown
   go_wp2_with (first
    | (go_at_call 59;(with_reducible refine (yF (.slice none 0 0) [] 2 l9.length wr HNIL.out (by omega) (by omega) (by simp)).mono ?_);rintro e1 w8 ⟨v8,rfl,hown8,hb8⟩;simp only [show (2:Int).toNat=2 from rfl,List.nil_append,List.length_nil,Nat.zero_add] at hown8)
    | (at_builtin;refine qW rfl (.tmp 55) (.tmp 56) 29 5 1 1 rfl Tryz.underlying29 uD (by omega) v8 2 (zo (zz 2 l9.length)) wr.heap.size (by rfl) hown8 A8 l9.length c8 (zo l9) w8.heap.size (by rfl) ((HRD.out.below hb8).more hb8.size) (jb _) (by omega) (by omega) hb8.size ?_;intro v9 w9 hown9 hg9 hat9))
   go_ret
   refine ⟨_,rfl,?_,B_call HBL.out (jL hb8 hown8 hg9)⟩
   rw [<- jF] at hown9
   have:=qT hown9 HBL.out.size
   unfold qu
   rw [List.length_append,zA,<- HL9.out]
   exact this
theorem zaN:∀ (l:List UInt8) (a:Nat),l.foldl (fun a b=>a*256+b.toNat) a=a*256 ^ l.length+YI l
 | [],a=>by simp [YI]
 | b::l,a=>by
  have h1:=zaN l (a*256+b.toNat)
  have h2:=zaN l (0*256+b.toNat)
  show l.foldl (fun a b=>a*256+b.toNat) (a*256+b.toNat)=a*256 ^ (l.length+1)+l.foldl (fun a b=>a*256+b.toNat) (0*256+b.toNat)
  rw [h1,h2,Nat.pow_succ]
  generalize 256 ^ l.length=P
  simp only [Nat.add_mul,Nat.zero_mul,Nat.zero_add]
  rw [Nat.mul_assoc a 256 P,Nat.mul_comm 256 P,Nat.add_assoc]
theorem zhN (k x:Nat):zz (k+1) x=UInt8.ofNat (x / 256 ^ k)::zz k x:=by
 unfold zz
 rw [List.range_succ_eq_map,List.map_cons,List.map_map]
 congr 1
 ·rw [show k+1-1-0=k by omega,Nat.pow_mul]
 ·refine List.map_congr_left fun i hi=>?_
  simp only [Function.comp]
  rw [show k+1-1-(i+1)=k-1-i by omega]
theorem GN:∀ (k x:Nat),YI (zz k x)=x % 256 ^ k
 | 0,x=>by simp [zz,YI,Nat.mod_one]
 | k+1,x=>by
  rw [zhN,YI,List.foldl_cons,zaN,zA,GN k x,UInt8.toNat_ofNat',show (2:Nat) ^ 8=256 from rfl,Nat.pow_succ,Nat.mod_mul,Nat.zero_mul,Nat.zero_add,Nat.mul_comm,Nat.add_comm]
theorem zgl:yU Tryz.prog 35 1 8:=.of (by kernel_rfl)
theorem zaj (G:Nat) (k x:Nat) (rest:List UInt8) (w:World) (h:jg w G (zz k x++rest) false) (hk:1<=k) (hk8:k<=8) (hx:x<256 ^ k) (hs:rest.length<=900000) :
  Calls Tryz.prog 52 #[.pointer (some ⟨G,0,none⟩),.int .i64 k] w fun r w'=>r=.returned (.int .u64 x)/\jg w' G rest false/\w.grownBy w' (some G):=by
 refine (zgI G (zz k x++rest) k w h (by omega) (by omega) (by rw [List.length_append,zA];omega) (by rw [List.length_append,zA];omega)).mono ?_
 rintro r w' ⟨rfl,hR,hg⟩
 rw [Int.toNat_natCast] at hR ⊢
 rw [List.take_left' (by rw [zA]),GN,Nat.mod_eq_of_lt hx]
 rw [List.drop_left' (by rw [zA])] at hR
 exact ⟨rfl,hR,hg⟩
theorem Zn (G x:Nat) (rest:List UInt8) (w:World) (h:jg w G (zz 1 x++rest) false) (hx:x<256) (hs:rest.length<=900000) :
  Calls Tryz.prog 52 #[.pointer (some ⟨G,0,none⟩),.int .i64 1] w fun r w'=>r=.returned (.int .u64 x)/\jg w' G rest false/\w.grownBy w' (some G) :=
 zaj G 1 x rest w h (by omega) (by omega) hx hs
theorem zeu (G x:Nat) (rest:List UInt8) (w:World) (h:jg w G (zz 2 x++rest) false) (hx:x<65536) (hs:rest.length<=900000) :
  Calls Tryz.prog 52 #[.pointer (some ⟨G,0,none⟩),.int .i64 2] w fun r w'=>r=.returned (.int .u64 x)/\jg w' G rest false/\w.grownBy w' (some G) :=
 zaj G 2 x rest w h (by omega) (by omega) hx hs
theorem Ge (G x:Nat) (rest:List UInt8) (w:World) (h:jg w G (zz 4 x++rest) false) (hx:x<4294967296) (hs:rest.length<=900000) :
  Calls Tryz.prog 52 #[.pointer (some ⟨G,0,none⟩),.int .i64 4] w fun r w'=>r=.returned (.int .u64 x)/\jg w' G rest false/\w.grownBy w' (some G) :=
 zaj G 4 x rest w h (by omega) (by omega) hx hs
theorem zev (G x:Nat) (rest:List UInt8) (w:World) (h:jg w G (zz 8 x++rest) false) (hx:x<18446744073709551616) (hs:rest.length<=900000) :
  Calls Tryz.prog 52 #[.pointer (some ⟨G,0,none⟩),.int .i64 8] w fun r w'=>r=.returned (.int .u64 x)/\jg w' G rest false/\w.grownBy w' (some G) :=
 zaj G 8 x rest w h (by omega) (by omega) hx hs
theorem zeI (G:Nat) (s rest:List UInt8) (w:World) (h:jg w G (zz 1 s.length++s++rest) false) (hs:s.length<256) (hl:rest.length<=900000) :
  Calls Tryz.prog 54 #[.pointer (some ⟨G,0,none⟩)] w fun r w'=>r=.returned (.string (za s))/\jg w' G rest false/\w.grownBy w' (some G):=by
 have e:zz 1 s.length++s++rest=UInt8.ofNat s.length::(s++rest):=by simp [zz]
 rw [e] at h
 exact ziR G (UInt8.ofNat s.length) s rest w h (by rw [UInt8.toNat_ofNat'];omega) (by simp;omega)
theorem zeG (G:Nat) (s rest:List UInt8) (w:World) (h:jg w G (s++rest) false) (hl:s.length+rest.length<=900000) :
  Calls Tryz.prog 99 #[.pointer (some ⟨G,0,none⟩),.int .i64 s.length] w fun r w'=>∃ v,r=.returned v/\ze w' v s/\jg w' G rest false/\w.grownBy w' (some G):=by
 refine (zeH G (s++rest) s.length w h (by omega) (by rw [List.length_append];omega) (by rw [List.length_append];omega)).mono ?_
 rintro r w' ⟨v,rfl,hown,hR,hg⟩
 rw [Int.toNat_natCast,List.take_left' rfl] at hown
 rw [Int.toNat_natCast,List.drop_left' rfl] at hR
 exact ⟨v,rfl,ze.of_own rfl hown,hR,hg⟩
theorem jg.same {w w':World} {G:Nat} {l:List UInt8} {bad:Bool} (h:jg w G l bad) (hs:∀ k,k<=G->w'.heap[k]?=w.heap[k]?):jg w' G l bad:=by
 obtain ⟨A,c,h⟩:=h
 exact ⟨A,c,(hs G (Nat.le_refl _)).trans h.blk,h.rd.keep fun p hp=>World.cell?_of_block (hs p.block (Nat.le_of_lt hp)),h.le,h.mx,h.one⟩
theorem jg.lt {w:World} {G:Nat} {l:List UInt8} {bad:Bool} (h:jg w G l bad):G<w.heap.size:=by
 obtain ⟨A,c,h⟩:=h
 exact zd h.blk
theorem zaQ (G:Nat) (l:List UInt8) (bad:Bool) (w:World) (h:jg w G l bad):Calls Tryz.prog 55 #[.pointer (some ⟨G,0,none⟩)] w fun r w'=>r=.returned (.bool bad)/\w'=w:=by
 obtain ⟨A,c,h⟩:=h
 exact uH G A _ c _ bad w h
theorem ziQ (G:Nat) (l:List UInt8) (bad:Bool) (w:World) (h:jg w G l bad):Calls Tryz.prog 58 #[.pointer (some ⟨G,0,none⟩)] w fun r w'=>r=.returned (.int .i64 l.length)/\w'=w:=by
 obtain ⟨A,c,h⟩:=h
 exact zdX G A _ c _ bad w h
theorem zfm (r:zI):yN r=zz 1 r.kind++(zz 1 r.txn++(zz 1 r.page++(zz 1 r.slot++(zz 1 (zt r.before).length++zt r.before++(zz 1 (zt r.after).length++zt r.after++(zz 2 r.image.length++(r.image++(zz 1 r.dirty.length++r.dirty.flatMap (zz 8))))))))):=by
 simp [yN,uV,ZA,vi,zz]
theorem zjY (v:Value) (r:zI) (w:World) (hr:r.ok) (h:ze w v (yN r)) :
  Calls Tryz.prog 147 #[v] w fun e w'=>∃ dv,e=.returned (.tuple #[ZB r dv,.bool true])/\w'.ownsRow w.heap.size 35 1 dv r.dirty.length (ZF r.dirty)/\Below w.heap.size w w':=by
 have l1:=ZO hr.before
 have l2:=ZO hr.after
 have l5:=GI hr
 have l7:r.image.length<=256:=by rcases hr.image with e | e<;>simp [e]
 have l8:=yz r.dirty
 obtain ⟨H,HR⟩:=zi2 h hr
 have HEQ:=hid (zfm r)
 clear h hr
 go_enter Tryz.func147,Tryz.ntmps147
 go_upto_region 2 with (go_at_call 51;(with_reducible refine (Je v (yN r) _ (H.out.alloc _)).mono ?_);rintro e1 w1 ⟨rfl,hR1,hb1⟩)
 have hX1:w1.heap[w.heap.size]?=some (.cells #[.int .i64 0,.int .i64 0,.int .i64 0,.int .i64 0,.string { data:=#[] },.string { data:=#[] },.string { data:=#[] },.slice none 0 0] 144 (0,0)):=zb (zk w _ rfl) hb1 (by simp)
 have hB1:=B_call (B_alloc (Below.refl w.heap.size w) _) hb1
 rw [World.size_alloc] at hR1
 rw [HEQ.out] at hR1
 have hlt1:=hR1.lt
 have q1:r.kind<256:=by have:=HR.out.k7;omega
 have q2:r.txn<256:=by have:=HR.out.txn;omega
 have q3:r.page<256:=by have:=HR.out.page;omega
 have q4:r.slot<256:=by have:=HR.out.slot;omega
 obtain ⟨HR1,HX1,HB1⟩:=zi3 hR1 hX1 hB1
 obtain ⟨rest4,hrest4⟩:∃ l,l=zz 1 (zt r.before).length++zt r.before++(zz 1 (zt r.after).length++zt r.after++(zz 2 r.image.length++(r.image++(zz 1 r.dirty.length++r.dirty.flatMap (zz 8))))):=⟨_,rfl⟩
 have hlen4:rest4.length<=1000:=by
  rw [hrest4];simp only [List.length_append,zA,yz];omega
 have HR1':Hid (jg w1 (w.heap.size+1) (zz 1 r.kind++(zz 1 r.txn++(zz 1 r.page++(zz 1 r.slot++rest4)))) false):=hid (by rw [hrest4];exact hR1)
 have HREST:=hid hrest4
 have j1:(zz 1 r.txn++(zz 1 r.page++(zz 1 r.slot++rest4))).length<=900000:=by simp only [List.length_append,zA];omega
 have j2:(zz 1 r.page++(zz 1 r.slot++rest4)).length<=900000:=by simp only [List.length_append,zA];omega
 have j3:(zz 1 r.slot++rest4).length<=900000:=by simp only [List.length_append,zA];omega
 have j4:rest4.length<=900000:=by omega
 clear hR1 hX1 hB1 hrest4 hb1 HR1
 go_upto_region 3 with (first
  | (go_at_call 52;(with_reducible refine (Zn (w.heap.size+1) r.kind _ w1 HR1'.out q1 j1).mono ?_);rintro e1 w2 ⟨rfl,hR2,hg2⟩)
  | (go_at_call 52;(with_reducible refine (Zn (w.heap.size+1) r.txn _ w2 hR2 q2 j2).mono ?_);rintro e1 w3 ⟨rfl,hR3,hg3⟩)
  | (go_at_call 52;(with_reducible refine (Zn (w.heap.size+1) r.page _ w3 hR3 q3 j3).mono ?_);rintro e1 w4 ⟨rfl,hR4,hg4⟩)
  | (go_at_call 52;(with_reducible refine (Zn (w.heap.size+1) r.slot _ w4 hR4 q4 j4).mono ?_);rintro e1 w5 ⟨rfl,hR5,hg5⟩))
 obtain ⟨w6,hw6⟩:∃ w6,w6=w5.alloc (.cells #[.int .i64 r.kind,.int .i64 r.txn,.int .i64 r.page,.int .i64 r.slot,.string { data:=#[] },.string { data:=#[] },.string { data:=#[] },.slice none 0 0] 144):=⟨_,rfl⟩
 have hg15:=((hg2.trans hg3).trans hg4).trans hg5
 have hB5:Below w.heap.size w w5:=HB1.out.grown hg15 HB1.out.size (fun k hk=>by injection hk with hk;omega)
 have hX5:=zX HX1.out hg15 (fun e=>by injection e with e;omega)
 have hE6:w6.heap[w5.heap.size]?=some (.cells #[.int .i64 r.kind,.int .i64 r.txn,.int .i64 r.page,.int .i64 r.slot,.string { data:=#[] },.string { data:=#[] },.string { data:=#[] },.slice none 0 0] 144 (0,0)):=by rw [hw6];exact zk _ _ rfl
 have hX6:w6.heap[w.heap.size]?=some (.cells #[.int .i64 0,.int .i64 0,.int .i64 0,.int .i64 0,.string { data:=#[] },.string { data:=#[] },.string { data:=#[] },.slice none 0 0] 144 (0,0)):=by rw [hw6];exact zy hX5 _
 have hB6:Below w.heap.size w w6:=by rw [hw6];exact B_alloc hB5 _
 have hGlt:w.heap.size+1<w5.heap.size:=hR5.lt
 obtain ⟨rest6,hrest6⟩:∃ l,l=zz 2 r.image.length++(r.image++(zz 1 r.dirty.length++r.dirty.flatMap (zz 8))):=⟨_,rfl⟩
 have hlen6:rest6.length<=900000:=by rw [hrest6];simp only [List.length_append,zA,yz];omega
 have hR6:jg w6 (w.heap.size+1) (zz 1 (zt r.before).length++zt r.before++(zz 1 (zt r.after).length++zt r.after++rest6)) false:=by
  rw [hrest6,<- HREST.out,hw6]
  exact hR5.same fun k hk=>Below.heap_alloc _ _ _ (by omega)
 rw [<- hw6]
 obtain ⟨E,hE⟩:∃ E,E=w5.heap.size:=⟨_,rfl⟩
 rw [<- hE] at hE6 hGlt ⊢
 obtain ⟨HE6,HX6,HB6,HR6,HRE6⟩:=zi5 hE6 hX6 hB6 hR6 hrest6
 have i1:(zz 1 (zt r.after).length++zt r.after++rest6).length<=900000:=by
  have:rest6.length<=1000:=by rw [hrest6];simp only [List.length_append,zA,yz];omega
  simp only [List.length_append,zA];omega
 clear hw6 hg15 hB5 hX5 hE6 hX6 hB6 hR6 hrest6 hE hR5 hg2 hg3 hg4 hg5 hR2 hR3 hR4 HR1' HREST j1 j2 j3 j4 q1 q2 q3 q4 hlen4 HB1 HX1
 obtain ⟨s1,hs1⟩:∃ s,s=za (zt r.before):=⟨_,rfl⟩
 obtain ⟨s2,hs2⟩:∃ s,s=za (zt r.after):=⟨_,rfl⟩
 obtain ⟨s3,hs3⟩:∃ s,s=za r.image:=⟨_,rfl⟩
 have HS:=hid (And.intro hs1 (And.intro hs2 hs3))
 clear hs1 hs2 hs3
 go_upto_region 4 with (first
  | (go_at_call 54;(with_reducible refine (zeI (w.heap.size+1) (zt r.before) _ w6 HR6.out (by omega) i1).mono ?_);rintro e1 w7 ⟨rfl,hR7,hg7⟩;rw [<- HS.out.1])
  | (go_at_call 54;(with_reducible refine (zeI (w.heap.size+1) (zt r.after) _ w7 hR7 (by omega) hlen6).mono ?_);rintro e1 w8 ⟨rfl,hR8,hg8⟩;rw [<- HS.out.2.1];have hE8:=zX HE6.out (hg7.trans hg8) (fun e=>by injection e with e;omega);have k4:=cell_of_row w8 E 4 _ _ _ hE8;have k5:=cell_of_row w8 E 5 _ _ _ hE8;have f4:=frozen_of_row w8 E 4 _ _ hE8;have f5:=frozen_of_row w8 E 5 _ _ hE8;have HE8:=hid hE8;clear hE8))
 obtain ⟨w9,hw9⟩:∃ w9,w9=(w8.setCell ⟨E,4,none⟩ (.string s1)).setCell ⟨E,5,none⟩ (.string s2):=⟨_,rfl⟩
 have hE9:w9.heap[E]?=some (.cells #[.int .i64 r.kind,.int .i64 r.txn,.int .i64 r.page,.int .i64 r.slot,.string s1,.string s2,.string { data:=#[] },.slice none 0 0] 144 (0,0)):=by
  rw [hw9,heap_setCell_same _ _ 5 _ _ _ (heap_setCell_same _ _ 4 _ _ _ HE8.out)];rfl
 have hg68:=hg7.trans hg8
 have hX9:w9.heap[w.heap.size]?=some (.cells #[.int .i64 0,.int .i64 0,.int .i64 0,.int .i64 0,.string { data:=#[] },.string { data:=#[] },.string { data:=#[] },.slice none 0 0] 144 (0,0)):=by
  rw [hw9];exact us (us (zX HX6.out hg68 (fun e=>by injection e with e;omega)) (by show w.heap.size≠E;omega) _) (by show w.heap.size≠E;omega) _
 have hB9:Below w.heap.size w w9:=by
  rw [hw9];exact B_set (B_set (HB6.out.grown hg68 HB6.out.size (fun k hk=>by injection hk with hk;omega)) (by show w.heap.size<=E;omega) _) (by show w.heap.size<=E;omega) _
 have hR9:jg w9 (w.heap.size+1) rest6 false:=by
  rw [hw9];exact hR8.same fun k hk=>(heap_setCell_other _ _ _ _ (by show k≠E;omega)).trans (heap_setCell_other _ _ _ _ (by show k≠E;omega))
 rw [<- hw9]
 rw [HRE6.out] at hR9
 obtain ⟨HE9,HX9,HB9,HR9⟩:=zi4 hE9 hX9 hB9 hR9
 have j1:(r.image++(zz 1 r.dirty.length++r.dirty.flatMap (zz 8))).length<=900000:=by simp only [List.length_append,zA,yz];omega
 have j2:r.image.length+(zz 1 r.dirty.length++r.dirty.flatMap (zz 8)).length<=900000:=by simp only [List.length_append,zA,yz];omega
 have j3:(r.dirty.flatMap (zz 8)).length<=900000:=by rw [yz];omega
 have j4:r.image.length<65536:=by omega
 have j5:r.dirty.length<256:=by omega
 clear hw9 hE9 hX9 hB9 hR9 hg68 hg7 hg8 hR7 hR8 HE8 HE6 HX6 HB6 HR6 HRE6 hlen6 i1
 go_upto_region 5 with (first
  | (go_at_call 52;(with_reducible refine (zeu (w.heap.size+1) r.image.length _ w9 HR9.out j4 j1).mono ?_);rintro e1 w10 ⟨rfl,hR10,hg10⟩)
  | (go_at_call 99;(with_reducible refine (zeG (w.heap.size+1) r.image _ w10 hR10 j2).mono ?_);rintro e1 w11 ⟨v11,rfl,hin11,hR11,hg11⟩;have hcv:=jr hin11;rw [<- HS.out.2.2] at hcv;have hE11:=zX HE9.out (hg10.trans hg11) (fun e=>by injection e with e;omega);have k6:=cell_of_row w11 E 6 _ _ _ hE11;have f6:=frozen_of_row w11 E 6 _ _ hE11;have HE11:=hid hE11;clear hE11))
 obtain ⟨w12,hw12⟩:∃ w12,w12=w11.setCell ⟨E,6,none⟩ (.string s3):=⟨_,rfl⟩
 have hE12:w12.heap[E]?=some (.cells #[.int .i64 r.kind,.int .i64 r.txn,.int .i64 r.page,.int .i64 r.slot,.string s1,.string s2,.string s3,.slice none 0 0] 144 (0,0)):=by
  rw [hw12,heap_setCell_same _ _ 6 _ _ _ HE11.out];rfl
 have hg9:=hg10.trans hg11
 have hX12:w12.heap[w.heap.size]?=some (.cells #[.int .i64 0,.int .i64 0,.int .i64 0,.int .i64 0,.string { data:=#[] },.string { data:=#[] },.string { data:=#[] },.slice none 0 0] 144 (0,0)):=by
  rw [hw12];exact us (zX HX9.out hg9 (fun e=>by injection e with e;omega)) (by show w.heap.size≠E;omega) _
 have hB12:Below w.heap.size w w12:=by
  rw [hw12];exact B_set (HB9.out.grown hg9 HB9.out.size (fun k hk=>by injection hk with hk;omega)) (by show w.heap.size<=E;omega) _
 have hR12:jg w12 (w.heap.size+1) (zz 1 r.dirty.length++r.dirty.flatMap (zz 8)) false:=by
  rw [hw12];exact hR11.same fun k hk=>heap_setCell_other _ _ _ _ (by show k≠E;omega)
 rw [<- hw12]
 obtain ⟨HE12,HX12,HB12,HR12⟩:=zi4 hE12 hX12 hB12 hR12
 clear hw12 hE12 hX12 hB12 hR12 hg9 hg10 hg11 hR10 hR11 HE11 HE9 HX9 HB9 HR9 hcv hin11
 go_wp2_with (go_at_call 52;(with_reducible refine (Zn (w.heap.size+1) r.dirty.length _ w12 HR12.out j5 j3).mono ?_);rintro e1 w13 ⟨rfl,hR13,hg13⟩)
 have hE13:=zX HE12.out hg13 (fun e=>by injection e with e;omega)
 have hX13:=zX HX12.out hg13 (fun e=>by injection e with e;omega)
 have hB13:Below w.heap.size w w13:=HB12.out.grown hg13 HB12.out.size (fun k hk=>by injection hk with hk;omega)
 obtain ⟨HE13,HX13,HB13,HR13⟩:=zi4 hE13 hX13 hB13 hR13
 have q35:(r.dirty.length:Int)<18446744073709551616:=by omega
 clear hE13 hX13 hB13 hR13 hg13 HE12 HX12 HB12 HR12 j1 j2 j3 j4 j5
 go_loopw [36] (fun u wr=>∃ j:Nat,j<=r.dirty.length/\u=.int .u64 j/\(∃ dv,wr.heap[E]?=some (.cells #[.int .i64 r.kind,.int .i64 r.txn,.int .i64 r.page,.int .i64 r.slot,.string s1,.string s2,.string s3,dv] 144 (0,0))/\wr.ownsRow (E+1) 35 1 dv j (ZF (r.dirty.take j)))/\jg wr (w.heap.size+1) ((r.dirty.drop j).flatMap (zz 8)) false/\wr.heap[w.heap.size]?=some (.cells #[.int .i64 0,.int .i64 0,.int .i64 0,.int .i64 0,.string { data:=#[] },.string { data:=#[] },.string { data:=#[] },.slice none 0 0] 144 (0,0))/\Below w.heap.size w wr) (fun u _=>(r.dirty.length-intOf u).toNat)
 case atStart=>exact ⟨0,by omega,rfl,⟨_,HE13.out,World.ownsRow_nil _ _ _ _⟩,HR13.out,HX13.out,HB13.out⟩
 case round =>
  obtain ⟨j,hj,rfl,⟨dv,hE,hdv⟩,hR,hX,hB⟩:=hrel
  by_cases hlt:j<r.dirty.length
  ·obtain ⟨d,hd⟩:∃ d,r.dirty[j]?=some d:=⟨_,List.getElem?_eq_getElem hlt⟩
   have hds:d<18446744073709551616:=HR.out.small d (List.mem_of_getElem? hd)
   have hdrop:(r.dirty.drop j).flatMap (zz 8)=zz 8 d++(r.dirty.drop (j+1)).flatMap (zz 8):=by
    rw [List.drop_eq_getElem_cons hlt,List.flatMap_cons]
    congr 2
    exact (List.getElem?_eq_some_iff.1 hd).2
   rw [hdrop] at hR
   have hrl:((r.dirty.drop (j+1)).flatMap (zz 8)).length<=900000:=by rw [yz,List.length_drop];omega
   have hElt:=zd hE
   have h7:=cell_of_row wr E 7 _ _ _ hE
   have hlt2:(j:Int)<(r.dirty.length:Int):=by omega
   obtain ⟨HEJ,HDV,HRJ,HXJ,HBJ,HD⟩:=zi6 hE hdv hR hX hB hd
   clear hE hdv hR hX hB hd hdrop
   go_upto_region 7 with fail
   have hS:wr.drew.cell? ⟨E,7,none⟩=some dv:=h7
   refine wp_region_noPanic ?_
   refine PrintLast.start_ (n:=8) (S:=(fun w'=>w'.cell? ⟨E,7,none⟩=some dv)) (ds:=[7]) (bA 8 0) (by kernel_rfl) rfl (by kernel_rfl) hS (fun hHeld=>?_)
   refine pu 0 38 8 1 rfl rfl ?_
   refine tq 1 39 8 3 rfl rfl ?_
   refine pu 2 40 8 7 rfl rfl ?_
   refine on 3 8 15 (some 41) rfl rfl (fun K hK=>?_)
   show Oper.wp _ ⟨some 41,_,_,_,_,_⟩ _ _ _ _
   refine zq 52 _ _ [_,.int .i64 8] rfl (by kernel_rfl) (by rfl) ((zev (w.heap.size+1) d _ wr.drew (HRJ.out.same fun _ _=>rfl) hds hrl).mono ?_)
   rintro e1 w14 ⟨rfl,hR14,hg14⟩
   refine ⟨_,rfl,?_⟩
   refine hK.out _ _ (uq hHeld hg14 (fun e=>by injection e with e;exact absurd (show w.heap.size+1=E from e) (by omega))) (fun hHeld=>?_)
   clear hK K
   try simp only [pS]
   refine on 4 8 31 (some 42) rfl rfl (fun K hK=>?_)
   show Oper.wp _ ⟨some 42,_,_,_,_,_⟩ _ _ _ _
   refine vf 23 35 1 8 (.tmp 41) rfl (.int .u64 d) (by rfl) Tryz.underlying23 zgl rfl (by omega) (by omega) ?_
   refine hK.out _ _ (jI hHeld _) (fun hHeld=>?_)
   clear hK K
   try simp only [pS]
   refine on 5 8 63 (some 43) rfl rfl (fun K hK=>?_)
   show Oper.wp _ ⟨some 43,_,_,_,_,_⟩ _ _ _ _
   refine uZ (.tmp 39) (.tmp 42) 23 35 1 8 rfl Tryz.underlying23 zgl (by omega) dv j (ZF (r.dirty.take j)) (E+1) (by rfl) (zi HDV.out fun x hx=>?ow) (some ⟨w14.heap.size,0,none⟩) 1 1 [.int .u64 d] _ (by rfl) (zx.of_list (zk w14 _ rfl) rfl) (by intro u hu;simp at hu;subst hu;rfl) (by omega) (by omega) ?bs ?_
   case ow =>
    have h1:=HDV.out.lt x hx
    have h2:(w14.alloc (.cells #[.int .u64 d] 35)).heap[x]?=w14.heap[x]?:=Below.heap_alloc _ _ _ (Nat.lt_of_lt_of_le h1.2 hg14.size)
    exact h2.trans (hg14.block x h1.2 (fun e=>by injection e with e;omega))
   case bs =>
    have h2:=hg14.size
    have h3:wr.drew.heap.size=wr.heap.size:=rfl
    simp;omega
   intro dv2 w15 hown15 hg15 hat15
   refine hK.out _ _ (uq hHeld hg15 (fun e=>by have:=(HDV.out.lt _ e).1;exact absurd (show E+1<=E from this) (by omega))) (fun hHeld=>?_)
   clear hK K
   try simp only [pS]
   refine pu 6 44 8 127 rfl rfl ?_
   refine la 7 8 255 none rfl rfl (fun K hK=>?_)
   show Oper.wp _ ⟨none,_,_,_,_,_⟩ _ _ _ _
   refine jp 23 (.tmp 44) (.tmp 43) rfl E 7 #[.int .i64 r.kind,.int .i64 r.txn,.int .i64 r.page,.int .i64 r.slot,.string s1,.string s2,.string s3,dv] 144 dv2 (by rfl) (by rfl) (by kernel_rfl) ?hb (by simp) (zex hown15) ?_
   case hb=>exact zX (zy (zX (show wr.drew.heap[E]?=_ from HEJ.out) hg14 (fun e=>by injection e with e;omega)) _) hg15 (fun e=>by have:=(HDV.out.lt _ e).1;omega)
   refine hK.out _ _ ?_
   clear hK K
   try simp only [pS]
   refine PrintLast.done_ (by kernel_rfl) ?_
   refine NoPanic.normal ?_
   go_wp2_with fail
   go_roundw
   case rel =>
    have hEa:=zX (zy (zX (show wr.drew.heap[E]?=_ from HEJ.out) hg14 (fun e=>by injection e with e;omega)) (.cells #[.int .u64 d] 35)) hg15 (fun e=>by have:=(HDV.out.lt _ e).1;omega)
    have hXa:=zX (zy (zX (show wr.drew.heap[w.heap.size]?=_ from HXJ.out) hg14 (fun e=>by injection e with e;omega)) (.cells #[.int .u64 d] 35)) hg15 (fun e=>by have:=(HDV.out.lt _ e).1;omega)
    have ht:r.dirty.take (j+1)=r.dirty.take j++[d]:=by rw [List.take_add_one,HD.out];rfl
    have hgt:w.heap.size+1<E:=by omega
    refine ⟨j+1,by omega,by go_num,⟨dv2,?_,?_⟩,?_,us hXa (by show w.heap.size≠E;omega) _,B_set (((HBJ.out.drew.grown hg14 HBJ.out.size (fun k hk=>by injection hk with hk;omega)).alloc (Nat.le_trans HBJ.out.size hg14.size) _).grown hg15 (Nat.le_trans HBJ.out.size (Nat.le_trans hg14.size (by simp))) (fun k hk=>by have:=(HDV.out.lt _ hk).1;omega)) (by show w.heap.size<=E;omega) _⟩
    ·rw [heap_setCell_same _ _ 7 _ _ _ hEa];rfl
    ·rw [ht,show ZF (r.dirty.take j++[d])=ZF (r.dirty.take j)++[.int .u64 d] by simp [ZF]]
     exact own_set1 hown15 (fun e=>by have:=(hown15.lt _ e).1;omega) _ _
    ·refine hR14.same fun k hk=>?_
     exact (heap_setCell_other _ _ _ _ (by show k≠E;omega)).trans ((hg15.block k (by have:=hR14.lt;simp;omega) (fun e=>by have:=(HDV.out.lt _ e.symm).1;omega)).trans (Below.heap_alloc _ _ _ (by have:=hR14.lt;omega)))
   case measure=>simp [intOf];omega
  ·obtain rfl:j=r.dirty.length:=by omega
   rw [List.take_length] at hdv
   rw [List.drop_length,List.flatMap_nil] at hR
   obtain ⟨A9,c9,rfl⟩:=own_slice hdv
   obtain ⟨HEJ,HDV,HRJ,HXJ,HBJ⟩:=zi5 hE hdv hR hX hB
   clear hE hdv hR hX hB
   go_upto_region 9 with fail
   have hS:wr.drew.heap[E]?=some (.cells #[.int .i64 r.kind,.int .i64 r.txn,.int .i64 r.page,.int .i64 r.slot,.string s1,.string s2,.string s3,.slice A9 r.dirty.length c9] 144 (0,0))/\wr.drew=wr.drew:=⟨HEJ.out,rfl⟩
   refine wp_region_noPanic ?_
   refine PrintLast.start_ (n:=11) (S:=(fun w'=>w'.heap[E]?=some (.cells #[.int .i64 r.kind,.int .i64 r.txn,.int .i64 r.page,.int .i64 r.slot,.string s1,.string s2,.string s3,.slice A9 r.dirty.length c9] 144 (0,0))/\w'=wr.drew)) (ds:=[9]) (bA 11 0) (by kernel_rfl) rfl (by kernel_rfl) hS (fun hHeld=>?_)
   refine tk 0 46 11 1 rfl rfl (qE 144 (.tmp 5) rfl rfl E rfl 144 _ (0,0) _ (fun w' hSw=>hSw.1) Tryz.underlying144 rfl (by kernel_rfl)) ?_
   refine pu 1 47 11 3 rfl rfl ?_
   refine on 2 11 7 (some 48) rfl rfl (fun K hK=>?_)
   show Oper.wp _ ⟨some 48,_,_,_,_,_⟩ _ _ _ _
   refine zq 55 _ _ [_] rfl (by kernel_rfl) (by rfl) ((zaQ (w.heap.size+1) [] false wr.drew (HRJ.out.same fun _ _=>rfl)).mono ?_)
   rintro e1 w16 ⟨rfl,hw16⟩
   subst hw16
   refine ⟨_,rfl,?_⟩
   refine hK.out _ _ hHeld (fun hHeld=>?_)
   clear hK K
   try simp only [pS]
   refine pu 3 49 11 15 rfl rfl ?_
   refine pu 4 50 11 31 rfl rfl ?_
   refine pu 5 51 11 63 rfl rfl ?_
   refine on 6 11 127 (some 52) rfl rfl (fun K hK=>?_)
   show Oper.wp _ ⟨some 52,_,_,_,_,_⟩ _ _ _ _
   refine zq 58 _ _ [_] rfl (by kernel_rfl) (by rfl) ((ziQ (w.heap.size+1) [] false wr.drew (HRJ.out.same fun _ _=>rfl)).mono ?_)
   rintro e1 w16 ⟨rfl,hw16⟩
   subst hw16
   refine ⟨_,rfl,?_⟩
   refine hK.out _ _ hHeld (fun hHeld=>?_)
   clear hK K
   try simp only [pS]
   refine pu 7 53 11 255 rfl rfl ?_
   refine pu 8 54 11 511 rfl rfl ?_
   refine la 9 11 1023 none rfl rfl (fun K hK=>?_)
   show Oper.wp _ ⟨none,_,_,_,_,_⟩ _ _ _ _
   refine wp_store_row 144 (.tmp 2) (.tmp 46) rfl w.heap.size #[.int .i64 r.kind,.int .i64 r.txn,.int .i64 r.page,.int .i64 r.slot,.string s1,.string s2,.string s3,.slice A9 r.dirty.length c9] (by rfl) (by rfl) 144 _ HXJ.out (by kernel_rfl) (by rfl) (by simp [Value.oneCell']) ?_
   refine hK.out _ _ ?_
   clear hK K
   try simp only [pS]
   refine pu 10 3 11 2047 rfl rfl ?_
   refine PrintLast.done_ (by kernel_rfl) ?_
   refine NoPanic.normal ?_
   go_wp2_with fail
   refine jO 2 3 144 rfl rfl w.heap.size 144 #[.int .i64 r.kind,.int .i64 r.txn,.int .i64 r.page,.int .i64 r.slot,.string s1,.string s2,.string s3,.slice A9 r.dirty.length c9] (0,0) _ (.bool true) rfl rfl (setRow_heap _ _ _ _ _ _ HXJ.out) Tryz.underlying144 rfl (by kernel_rfl) ?_
   refine ⟨.slice A9 r.dirty.length c9,?_,?_,below_setRow HBJ.out.drew (Nat.le_refl _) _⟩
   ·rw [HS.out.1,HS.out.2.1,HS.out.2.2];rfl
   ·exact qT (zi HDV.out fun x hx=>setRow_other wr.drew _ _ _ (fun e=>by have:=(HDV.out.lt x hx).1;omega)) (by omega)
def KJ:Array Value:=#[.int .i64 0,.int .i64 0,.int .i64 0,.int .i64 0,.string { data:=#[] },.string { data:=#[] },.string { data:=#[] },.slice none 0 0]
theorem own_tag {w:World} {B:Nat} {e:TypeId} {s:Nat} {v:Value} {n:Nat} {xs:List Value} (h:w.ownsRow B e s v n xs) {k:Nat} (hk:v.ownBlock=some k):qp w k=e:=by
 rcases h.2 with ⟨e,_⟩ | ⟨gg,cap,cur,e,_,hh,_⟩
 ·rw [e] at hk;cases hk
 ·rw [e] at hk
  obtain rfl:gg=k:=by injection hk
  exact zc hh
theorem zar (v:Value) (w:World) (h:ze w v []) :
  Calls Tryz.prog 119 #[v] w fun e w'=>e=.returned (.tuple #[.agg KJ,.int .i64 0,.bool false])/\Below w.heap.size w w':=by
 have H:=hid h
 clear h
 go_enter Tryz.func119,Tryz.ntmps119
 go_upto_region 2 with (go_at_call 51;(with_reducible refine (Je v [] _ (H.out.alloc _)).mono ?_);rintro e1 w1 ⟨rfl,hR1,hb1⟩)
 have hX1:w1.heap[w.heap.size]?=some (.cells #[.int .i64 0,.int .i64 0,.int .i64 0,.int .i64 0,.string { data:=#[] },.string { data:=#[] },.string { data:=#[] },.slice none 0 0] 144 (0,0)):=zb (zk w _ rfl) hb1 (by simp)
 have hB1:=B_call (B_alloc (Below.refl w.heap.size w) _) hb1
 rw [World.size_alloc] at hR1
 obtain ⟨HR1,HX1,HB1⟩:=zi3 hR1 hX1 hB1
 clear hR1 hX1 hB1 hb1
 go_wp2_with (first
  | (go_at_call 52;(with_reducible refine (zdO (w.heap.size+1) [] false 2 w1 HR1.out (.inr (by simp)) (by omega) (by omega)).mono ?_);rintro e1 w2 ⟨rfl,hR2,hg2⟩)
  | (go_at_call 99;(with_reducible refine (zdp (w.heap.size+1) [] true 0 w2 hR2 (.inl rfl)).mono ?_);rintro e1 w3 ⟨rfl,hR3,hg3⟩)
  | (go_at_call 55;(with_reducible refine (zaQ (w.heap.size+1) [] true w3 hR3).mono ?_);rintro e1 w4 ⟨rfl,hw4⟩;subst hw4;have hX3:=zX HX1.out (hg2.trans hg3) (fun e=>by injection e with e;omega);have HX3:=hid hX3;have hB3:=HB1.out.grown (hg2.trans hg3) HB1.out.size (fun k hk=>by injection hk with hk;omega);have HB3:=hid hB3;clear hX3 hB3)
  | (show wpList _ _ _ (⟨none,.store 144 (.tmp 2) (.tmp 20),_,_,_,_⟩::_) _ _;refine wpList_store_row rfl 144 (.tmp 2) (.tmp 20) rfl w.heap.size KJ (by rfl) (by rfl) 144 _ HX3.out (by kernel_rfl) (by rfl) (by simp [Value.oneCell',KJ]) ?_))
 exact KN 2 3 4 144 rfl rfl w.heap.size 144 KJ (0,0) _ (.int .i64 0) (.bool false) rfl rfl rfl (setRow_heap _ _ _ _ _ _ HX3.out) Tryz.underlying144 rfl (by kernel_rfl) ⟨rfl,below_setRow HB3.out (Nat.le_refl _) _⟩
theorem zcc (v:Value) (r:zI) (rest:List UInt8) (w:World) (hr:r.ok) (h:ze w v (qu r++rest)) (hl:rest.length<=800000) :
  Calls Tryz.prog 119 #[v] w fun e w'=>∃ dv,e=.returned (.tuple #[ZB r dv,.int .i64 (qu r).length,.bool true])/\w'.ownsRow w.heap.size 35 1 dv r.dirty.length (ZF r.dirty)/\Below w.heap.size w w':=by
 obtain ⟨H,HR⟩:=zi2 h hr
 have hbl:=YM hr
 have hlen:(qu r).length=2+(yN r).length:=by rw [qu,List.length_append,zA]
 obtain ⟨body,hbody⟩:∃ b,b=yN r:=⟨_,rfl⟩
 rw [<- hbody] at hbl hlen
 have e0:qu r++rest=zz 2 body.length++(body++rest):=by rw [hbody];simp [qu]
 have hz1:body.length<65536:=by omega
 have hz2:(body++rest).length<=900000:=by rw [List.length_append];omega
 have hz3:body.length+rest.length<=900000:=by omega
 obtain ⟨HE0,HBD⟩:=zi2 e0 hbody
 rw [hlen]
 clear h hr e0 hbody hlen
 go_enter Tryz.func119,Tryz.ntmps119
 go_upto_region 2 with (go_at_call 51;(with_reducible refine (Je v (qu r++rest) _ (H.out.alloc _)).mono ?_);rintro e1 w1 ⟨rfl,hR1,hb1⟩)
 have hX1:w1.heap[w.heap.size]?=some (.cells #[.int .i64 0,.int .i64 0,.int .i64 0,.int .i64 0,.string { data:=#[] },.string { data:=#[] },.string { data:=#[] },.slice none 0 0] 144 (0,0)):=zb (zk w _ rfl) hb1 (by simp)
 have hB1:=B_call (B_alloc (Below.refl w.heap.size w) _) hb1
 rw [World.size_alloc,HE0.out] at hR1
 have hglt:=hR1.lt
 obtain ⟨HR1,HX1,HB1⟩:=zi3 hR1 hX1 hB1
 clear hR1 hX1 hB1 hb1
 go_upto_region 6 with (first
  | (go_at_call 52;(with_reducible refine (zeu (w.heap.size+1) body.length _ w1 HR1.out hz1 hz2).mono ?_);rintro e1 w2 ⟨rfl,hR2,hg2⟩)
  | (go_at_call 99;(with_reducible refine (zeG (w.heap.size+1) body rest w2 hR2 hz3).mono ?_);rintro e1 w3 ⟨v3,rfl,hin3,hR3,hg3⟩)
  | (go_at_call 55;(with_reducible refine (zaQ (w.heap.size+1) rest false w3 hR3).mono ?_);rintro e1 w4 ⟨rfl,hw4⟩;subst hw4))
 have hX3:=zX HX1.out (hg2.trans hg3) (fun e=>by injection e with e;omega)
 have hB3:=HB1.out.grown (hg2.trans hg3) HB1.out.size (fun k hk=>by injection hk with hk;omega)
 rw [HBD.out] at hin3
 obtain ⟨HX3,HB3,HIN3⟩:=zi3 hX3 hB3 hin3
 clear hX3 hB3 hin3 hR3 hR2 hg2 hg3 HR1 HX1 HB1
 go_upto_region 7 with (first
  | (go_at_call 147;(with_reducible refine (zjY v3 r w4 HR.out HIN3.out).mono ?_);rintro e1 w5 ⟨dv,rfl,hdv5,hb5⟩;obtain ⟨dA,dc,rfl⟩:=own_slice hdv5;obtain ⟨HDV5,HB5⟩:=zi2 hdv5 hb5;clear hdv5 hb5)
  | (show wpList _ _ _ (⟨some 24,_,_,_,_,_⟩::_) _ _;refine zZ rfl (ZB r (.slice dA r.dirty.length dc)) w5 (by rfl) ?_)
  | (show wpList _ _ _ (⟨none,.store 144 (.tmp 8) (.tmp 24),_,_,_,_⟩::_) _ _;refine zN rfl 144 (.tmp 8) (.tmp 24) rfl w5.heap.size rfl _ #[.int .i64 r.kind,.int .i64 r.txn,.int .i64 r.page,.int .i64 r.slot,.string (za (zt r.before)),.string (za (zt r.after)),.string (za r.image),.slice dA r.dirty.length dc] (by rfl) (by rfl) (by kernel_rfl) (by rfl) (by simp [Value.oneCell']) ?_))
 go_upto_region 9 with (go_at_call 106;refine (KK r dA dc _ HR.out).mono ?_;rintro e1 w6 ⟨rfl,hb6⟩;have HB6:=hid hb6;clear hb6)
 have hX5:=zb HX3.out HB5.out (zd HX3.out)
 have hX6:=zb (zy hX5 (.cells #[.int .i64 r.kind,.int .i64 r.txn,.int .i64 r.page,.int .i64 r.slot,.string (za (zt r.before)),.string (za (zt r.after)),.string (za r.image),.slice dA r.dirty.length dc] 144)) HB6.out (by have:=zd hX5;simp;omega)
 have hE6:=zb (zk w5 (.cells #[.int .i64 r.kind,.int .i64 r.txn,.int .i64 r.page,.int .i64 r.slot,.string (za (zt r.before)),.string (za (zt r.after)),.string (za r.image),.slice dA r.dirty.length dc] 144) rfl) HB6.out (by simp)
 have hB6:=B_call (B_alloc (B_call HB3.out HB5.out) (.cells #[.int .i64 r.kind,.int .i64 r.txn,.int .i64 r.page,.int .i64 r.slot,.string (za (zt r.before)),.string (za (zt r.after)),.string (za r.image),.slice dA r.dirty.length dc] 144)) HB6.out
 have hDV6:=zi (zi HDV5.out fun k hk=>Below.heap_alloc w5 (.cells #[.int .i64 r.kind,.int .i64 r.txn,.int .i64 r.page,.int .i64 r.slot,.string (za (zt r.before)),.string (za (zt r.after)),.string (za r.image),.slice dA r.dirty.length dc] 144) k (HDV5.out.lt k hk).2) fun k hk=>HB6.out.block k (by have:=(HDV5.out.lt k hk).2;simp;omega)
 obtain ⟨HX6,HE6,HBF,HDV6⟩:=zi4 hX6 hE6 hB6 hDV6
 have m1:IntKind.i64.wrap (2+(body.length:Int))=2+(body.length:Int):=by rw [IntKind.wrap_i64];omega
 clear hX5 hX6 hE6 hB6 hDV6
 go_wp2_with (first
  | (show wpList _ _ _ (⟨some 34,_,_,_,_,_⟩::_) _ _;refine wpList_load_row rfl 144 (.tmp 8) rfl w5.heap.size (by rfl) 144 _ (0,0) _ HE6.out Tryz.underlying144 rfl (by kernel_rfl) ?_)
  | (show wpList _ _ _ (⟨none,.store 144 (.tmp 2) (.tmp 34),_,_,_,_⟩::_) _ _;refine wpList_store_row rfl 144 (.tmp 2) (.tmp 34) rfl w.heap.size _ (by rfl) (by rfl) 144 _ HX6.out (by kernel_rfl) (by rfl) (by simp [Value.oneCell']) ?_))
 refine KN 2 3 4 144 rfl rfl w.heap.size 144 _ (0,0) _ (.int .i64 (2+(body.length:Int))) (.bool true) rfl rfl rfl (setRow_heap _ _ _ _ _ _ HX6.out) Tryz.underlying144 rfl (by kernel_rfl) ⟨.slice dA r.dirty.length dc,rfl,?_,below_setRow HBF.out (Nat.le_refl _) _⟩
 refine qT (zi HDV6.out fun k hk=>setRow_other w6 _ _ _ (fun e=>?_)) HB3.out.size
 have:=own_tag HDV6.out hk
 rw [e,zc HX6.out] at this
 cases this
section
theorem zgx {ws:List (Nat × List UInt8)} {s:Nat} {d:List UInt8} (hw:∀ p,p∈ws->p.2.length=64) (hd:d.length=64):(uF ws s d).length=64:=by
 induction ws generalizing d with
 | nil=>exact hd
 | cons p ws ih =>
  show (uF ws s (if p.1=s then p.2 else d)).length=64
  refine ih (fun q hq=>hw q (List.mem_cons_of_mem _ hq)) ?_
  split
  ·exact hw p (List.mem_cons_self ..)
  ·exact hd
section
variable {w w':World} {D:Nat} {F:Nat->Prop} {cur:Nat->Nat->List UInt8} {cnt:Nat->Nat}
theorem zv.len (h:zv w D F cur cnt) {r s:Nat} (hr:r<4) (hs:s<538):(cur r s).length=64:=by
 obtain ⟨g,hR,hc,_⟩:=h
 rw [hc r s hr hs]
 exact zgx (fun p hp=>(hR.sect r hr p hp).2) (hR.len _ (by omega))
theorem zv.mono {cnt':Nat->Nat} (h:zv w D F cur cnt) (hc:∀ r,r<4->cnt r<=cnt' r):zv w D F cur cnt':=by
 obtain ⟨g,hR,h1,h2⟩:=h
 exact ⟨g,hR,h1,fun r hr=>Nat.le_trans (h2 r hr) (hc r hr)⟩
theorem zv.congr {cur':Nat->Nat->List UInt8} (h:zv w D F cur cnt) (hc:∀ r s,r<4->s<538->cur' r s=cur r s):zv w D F cur' cnt:=by
 obtain ⟨g,hR,h1,h2⟩:=h
 exact ⟨g,hR,fun r s hr hs=>(hc r s hr hs).trans (h1 r s hr hs),h2⟩
end
def qh (w:World) (F F':Nat->Prop):Prop:=∀ x,F' x->F x∨w.heap.size<=x
theorem qh.refl (w:World) (F:Nat->Prop):qh w F F:=fun _ h=>.inl h
theorem qh.trans {w w1:World} {F F1 F2:Nat->Prop} (h:qh w F F1) (k:qh w1 F1 F2) (hs:w.heap.size<=w1.heap.size):qh w F F2:=fun x hx =>
 (k x hx).elim (h x) (fun h2=>.inr (Nat.le_trans hs h2))
theorem qh.mono {w w1:World} {F F1:Nat->Prop} (h:qh w1 F F1) (hs:w.heap.size<=w1.heap.size):qh w F F1:=fun x hx=>(h x hx).imp id (Nat.le_trans hs)
theorem zr.next {w w1 w2:World} {F F1:Nat->Prop} (h:zr F w w1) (k:zr F1 w1 w2) (hn:qh w F F1):zr F w w2:=h.trans k hn
def yb (cur:Nat->Nat->List UInt8) (r a b:Nat):Nat->Nat->List UInt8:=zE cur r fun s=>if a<=s/\s<b then zs 64 else cur r s
theorem zjh (l:List UInt8):zaA l=true↔l=zs l.length:=by unfold zaA;simp
theorem GS (D:Nat) (F:Nat->Prop) (cur:Nat->Nat->List UInt8) (cnt:Nat->Nat) (r a b:Nat) (w:World) (h:zv w D F cur cnt) (hr:r<4) (hb:b<=538) (hc:cnt r<=90000) :
  Calls Tryz.prog 110 #[.pointer (some ⟨D,0,none⟩),.int .i64 r,.int .i64 a,.int .i64 b] w fun e w'=>e=.returned (.int .i64 0)/\∃ F',zv w' D F' (yb cur r a b) (zE cnt r 0)/\zr F w w'/\qh w F F':=by
 have H:=hid h
 have hr0:(0:Int)<=(r:Int):=by omega
 have hr4:(r:Int)<4:=by omega
 clear h
 by_cases hab:a<=b
 ·go_enter Tryz.func110,Tryz.ntmps110
  go_wp2_with fail
  go_loopw [9] (fun u wr=>∃ j:Nat,a<=j/\j<=b/\u=.int .i64 j/\∃ F1,zv wr D F1 (yb cur r a j) (zE cnt r (cnt r+(j-a)))/\zr F w wr/\qh w F F1) (fun u _=>((b:Int)-intOf u).toNat)
  case atStart =>
   refine ⟨a,Nat.le_refl _,hab,rfl,F,?_,zr.refl _ _,qh.refl _ _⟩
   refine (H.out.congr fun r' s hr' hs=>?_).mono fun r' hr'=>?_
   ·unfold yb
    by_cases e:r'=r
    ·subst e;simp only [zf];rw [if_neg (by omega)]
    ·simp only [zm _ _ e]
   ·by_cases e:r'=r
    ·subst e;simp only [zf];omega
    ·simp only [zm _ _ e];exact Nat.le_refl _
  case round =>
   obtain ⟨j,haj,hjb,rfl,F1,hD,hK,hN⟩:=hrel
   by_cases hlt:j<b
   ·have hj0:(0:Int)<=(j:Int):=by omega
    have hj1:(j:Int)<538:=by omega
    have hj2:(j:Int)<(b:Int):=by omega
    have hcur:yb cur r a j r j=cur r j:=by unfold yb;rw [zf,if_neg (by omega)]
    have hlen:=hD.len hr (s:=j) (by omega)
    rw [hcur] at hlen
    have hcn:(zE cnt r (cnt r+(j-a))) (r:Int).toNat<=100000:=by rw [Int.toNat_natCast,zf];omega
    obtain ⟨HD,HK,HN,HC,HL⟩:=zi5 hD hK hN hcur hlen
    obtain ⟨z,hz⟩:∃ z,z=zaA (cur r j):=⟨_,rfl⟩
    have HZ:=hid hz
    clear hD hK hN hcur hlen hz
    have hstep:∀ r' s,r'<4->s<538->yb cur r a (j+1) r' s=if r'=r/\s=j then zs 64 else yb cur r a j r' s:=fun r' s _ _=>by
     unfold yb zE
     by_cases e:r'=r
     ·subst e
      simp only [if_true,true_and]
      by_cases e2:s=j
      ·subst e2;rw [if_pos (by omega),if_pos rfl]
      ·rw [if_neg e2]
       by_cases e3:a<=s/\s<j
       ·rw [if_pos e3,if_pos (by omega)]
       ·rw [if_neg e3,if_neg (by omega)]
     ·rw [if_neg e,if_neg e,if_neg (fun h=>e h.1)]
    have HST:=hid hstep
    clear hstep
    have hnil:∀ W:World,ze W (.slice none 0 0) []:=fun W=>⟨none,0,rfl,(zx.none_:zx W W.heap.size 1 none 0 []),Nat.le_refl _,by unfold maxLen;omega⟩
    have HNIL:=hid hnil
    clear hnil
    cases z
    ·go_wp2_with (first
      | (go_at_call 117;(with_reducible refine (ZV D F1 _ _ r j wr HD.out hr0 hr4 hj0 hj1).mono ?_);rintro e1 w1 ⟨v1,rfl,hown1,hb1⟩;simp only [Int.toNat_natCast] at hown1;rw [HC.out] at hown1;have HI:=hid (ze.of_own HL.out.symm hown1);have HB1:=hid hb1;clear hown1 hb1)
      | (go_at_call 143;(with_reducible refine (zdu v1 _ w1 HI.out (by rw [HL.out];omega)).mono ?_);rintro e1 w2 ⟨rfl,hb2⟩;rw [<- HZ.out];have HB2:=hid hb2;clear hb2)
      | (go_at_call 97;(with_reducible refine (Qx D F1 _ _ r j (.slice none 0 0) [] w2 ((HD.out.below HB1.out).below HB2.out) hr0 hr4 hj0 hj1 (HNIL.out _) (by simp) hcn).mono ?_);rintro e1 w3 ⟨rfl,F3,hD3,hK3,hN3⟩;obtain ⟨HD3,HK3,HN3⟩:=zi3 hD3 hK3 hN3;clear hD3 hK3 hN3))
     go_roundw
     case rel =>
      have hb12:=B_call HB1.out HB2.out
      refine ⟨j+1,by omega,by omega,by go_num,F3,?_,(HK.out.call hb12).next HK3.out (HN.out.trans (qh.refl _ _) (Nat.le_trans HK.out.size hb12.size)),HN.out.trans HN3.out (Nat.le_trans HK.out.size hb12.size)⟩
      refine (HD3.out.congr fun r' s hr' hs=>?_).mono fun r' hr'=>?_
      ·rw [HST.out r' s hr' hs]
       unfold vq
       simp only [Int.toNat_natCast]
       by_cases e:r'=r
       ·subst e
        rw [zf]
        by_cases e2:s=j
        ·subst e2;rw [zf,if_pos ⟨rfl,rfl⟩];rfl
        ·rw [zm _ _ e2,if_neg (fun h=>e2 h.2)]
       ·rw [zm _ _ e,if_neg (fun h=>e h.1)]
      ·unfold QV
       simp only [Int.toNat_natCast]
       by_cases e:r'=r
       ·subst e;simp only [zf];omega
       ·simp only [zm _ _ e];exact Nat.le_refl _
     case measure=>simp [intOf];omega
    ·go_wp2_with (first
      | (go_at_call 117;(with_reducible refine (ZV D F1 _ _ r j wr HD.out hr0 hr4 hj0 hj1).mono ?_);rintro e1 w1 ⟨v1,rfl,hown1,hb1⟩;simp only [Int.toNat_natCast] at hown1;rw [HC.out] at hown1;have HI:=hid (ze.of_own HL.out.symm hown1);have HB1:=hid hb1;clear hown1 hb1)
      | (go_at_call 143;(with_reducible refine (zdu v1 _ w1 HI.out (by rw [HL.out];omega)).mono ?_);rintro e1 w2 ⟨rfl,hb2⟩;rw [<- HZ.out];have HB2:=hid hb2;clear hb2))
     go_roundw
     case rel =>
      have hb12:=B_call HB1.out HB2.out
      refine ⟨j+1,by omega,by omega,by go_num,F1,?_,HK.out.call hb12,HN.out⟩
      refine (((HD.out.below HB1.out).below HB2.out).congr fun r' s hr' hs=>?_).mono fun r' hr'=>?_
      ·rw [HST.out r' s hr' hs]
       by_cases e:r'=r/\s=j
       ·rw [if_pos e,e.1,e.2,HC.out]
        have h1:=(zjh (cur r j)).1 HZ.out.symm
        rw [HL.out] at h1
        exact h1.symm
       ·rw [if_neg e]
      ·by_cases e:r'=r
       ·subst e;simp only [zf];omega
       ·simp only [zm _ _ e];exact Nat.le_refl _
     case measure=>simp [intOf];omega
   ·obtain rfl:j=b:=by omega
    have hcn:(zE cnt r (cnt r+(j-a))) (r:Int).toNat<=100000:=by rw [Int.toNat_natCast,zf];omega
    obtain ⟨HD,HK,HN⟩:=zi3 hD hK hN
    clear hD hK hN
    go_wp2_with (go_at_call 98;(with_reducible refine (ud D F1 _ _ r wr HD.out hr0 hr4 hcn).mono ?_);rintro e1 w1 ⟨rfl,hD1,hK1⟩)
    go_ret
    refine ⟨rfl,F1,hD1.mono fun r' hr'=>?_,HK.out.next hK1 HN.out,HN.out⟩
    simp only [Int.toNat_natCast]
    by_cases e:r'=r
    ·subst e;simp only [zf];omega
    ·simp only [zm _ _ e];exact Nat.le_refl _
 ·have hd:decide ((a:Int)<(b:Int))=false:=by simp;omega
  have hcn:cnt (r:Int).toNat<=100000:=by simp;omega
  go_enter Tryz.func110,Tryz.ntmps110
  go_wp2_with fail
  refine wp_loop_rounds 1 ?_
  rw [rounds_succ]
  go_wp2_with (go_at_call 98;(with_reducible refine (ud D F _ _ r w H.out hr0 hr4 hcn).mono ?_);rintro e1 w1 ⟨rfl,hD1,hK1⟩)
  go_ret
  refine ⟨rfl,F,(hD1.congr fun r' s hr' hs=>?_).mono fun r' hr'=>?_,hK1,qh.refl _ _⟩
  ·unfold yb
   by_cases e:r'=r
   ·subst e;simp only [zf];rw [if_neg (by omega)]
   ·simp only [zm _ _ e]
  ·simp
end
def Zr (w:World) (v:Value) (l:List UInt8):Prop :=
 w.ownsRow 0 5 1 v l.length (zo l)∨∃ ad,v=.slice (some ad) l.length l.length/\zx w w.heap.size 1 (some ad) l.length (zo l)/\l.length<=maxLen/\qp w ad.block=5
theorem Zr.slice {w:World} {v:Value} {l:List UInt8} (h:Zr w v l):∃ A c,v=.slice A l.length c:=by
 rcases h with h | ⟨ad,rfl,_⟩
 ·exact own_slice h
 ·exact ⟨_,_,rfl⟩
theorem Zr.bytes {w:World} {v:Value} {l:List UInt8} (h:Zr w v l):ze w v l:=by
 rcases h with h | ⟨ad,rfl,hr,hm,ht⟩
 ·exact ze.of_own rfl h
 ·exact ⟨_,_,rfl,hr,Nat.le_refl _,hm⟩
theorem Zr.same {w w':World} {v:Value} {l:List UInt8} (h:Zr w v l) (hb:∀ k,v.ownBlock=some k->w'.heap[k]?=w.heap[k]?) (hz:w.heap.size<=w'.heap.size):Zr w' v l:=by
 rcases h with h | ⟨ad,rfl,hr,hm,ht⟩
 ·exact .inl (zi h hb)
 ·refine .inr ⟨ad,rfl,⟨hr.1,fun hn=>?_⟩,hm,by rw [jm (hb _ rfl)];exact ht⟩
  obtain ⟨ad',e,hlt,hc⟩:=hr.2 hn
  injection e with e;subst e
  exact ⟨ad,rfl,by omega,fun j u hu=>(World.cell?_of_block (by rw [Zt];exact hb _ rfl)).trans (hc j u hu)⟩
theorem Zr.tag {w:World} {v:Value} {l:List UInt8} (h:Zr w v l) {k:Nat} (hk:v.ownBlock=some k):qp w k=5:=by
 rcases h with h | ⟨ad,rfl,hr,hm,ht⟩
 ·rcases h.2 with ⟨e,_⟩ | ⟨gg,cap,cur,e,_,hh,_⟩
  ·rw [e] at hk;cases hk
  ·rw [e] at hk
   obtain rfl:gg=k:=by injection hk
   exact zc hh
 ·injection hk with hk;rw [<- hk];exact ht
theorem zjm {w w':World} {row:Option Nat} (h:w.grownBy w' none):w.grownBy w' row:=⟨h.os,h.tape,h.output,h.size,fun k hk _=>h.block k hk (by simp)⟩
theorem zec {w:World} (ty:TypeId) (v:Value) (l:List UInt8) (h:Zr w v l) (A:Option Addr) (c:Nat) (news:List UInt8) (B:Nat) (hr:zx w B 1 A news.length (zo news)) (hn:0<news.length) (h63:l.length+news.length<=10000000) :
  ∃ v' w',(Builtin.append_ #[29,29] ty #[v,.slice A news.length c]).run Tryz.prog w=.ok v' w'/\w'.ownsRow 0 5 1 v' (l++news).length (zo (l++news))/\w.grownBy w' v.ownBlock/\(∀ k,v'.ownBlock=some k->v.ownBlock=some k∨w.heap.size<=k):=by
 obtain ⟨i0,hi,hz0,hz1,hz2⟩:=info_parts uE
 rcases h with h | ⟨ad,rfl,hrd,hm,ht⟩
 ·obtain ⟨v',w',h1,h2,h3,h4⟩:=Yr (P:=Tryz.prog) w 0 29 ty 5 i0 _ 1 1 Tryz.underlying29 hi hz0 hz1 hz2 rfl (by omega) v l.length (zo l) h B A news.length c (zo news) hr (jb _) (by unfold maxLen;omega) (by omega) (Nat.zero_le _)
  refine ⟨v',w',h1,by rw [List.length_append,jF];exact h2,h3,fun k hk=>?_⟩
  rcases h4 with e | e
  ·exact .inl (e.symm.trans hk)
  ·rw [e] at hk;injection hk with hk;exact .inr (by omega)
 ·obtain ⟨ad2,rfl,_,hc2⟩:=hr.2 hn
  rcases Nat.eq_zero_or_pos l.length with h0 | h0
  ·obtain rfl:l=[]:=List.eq_nil_of_length_eq_zero h0
   obtain ⟨v',w',h1,h2,h3⟩:=run_append_arg_grows (P:=Tryz.prog) w 29 ty 5 i0 _ 1 1 Tryz.underlying29 hi hz0 hz1 hz2 rfl (by omega) ad 0 0 [] (by simp) (by simp) ad2 news.length c (zo news) (by simp [qm]) hc2 (by omega) (by unfold maxLen;omega) (by omega)
   refine ⟨v',w',h1,?_,zjm h3,?_⟩
   ·have:=qT h2 (Nat.zero_le _);simpa using this
   ·exact fun k hk=>.inr (h2.lt k hk).1
  ·obtain ⟨ad',e,_,hc⟩:=hrd.2 h0
   injection e with e;subst e
   obtain ⟨v',w',h1,h2,h3⟩:=run_append_arg_grows (P:=Tryz.prog) w 29 ty 5 i0 _ 1 1 Tryz.underlying29 hi hz0 hz1 hz2 rfl (by omega) ad l.length l.length (zo l) (by simp [qm]) hc ad2 news.length c (zo news) (by simp [qm]) hc2 (by omega) (by unfold maxLen;omega) (by omega)
   refine ⟨v',w',h1,?_,zjm h3,?_⟩
   ·rw [List.length_append,jF];exact qT h2 (Nat.zero_le _)
   ·exact fun k hk=>.inr (h2.lt k hk).1
structure qH (w:World) (L D r gen bank:Nat) (bytes:List UInt8) (sure:Nat) (FL:Nat->Prop):Prop where
 ex:∃ v,w.heap[L]?=some (.cells #[.pointer (some ⟨D,0,none⟩),.int .i64 r,.int .u64 gen,.int .i64 bank,v,.int .i64 sure] 194 (0,0))/\Zr w v bytes/\∀ k,v.ownBlock=some k->FL k
 fL:FL L
 lt:∀ k,FL k->k<w.heap.size
 tag:∀ k,FL k->qp w k∈[194,5]
theorem qH.same {w w':World} {L D r gen bank:Nat} {bytes:List UInt8} {sure:Nat} {FL:Nat->Prop} (h:qH w L D r gen bank bytes sure FL) (hs:∀ k,FL k->w'.heap[k]?=w.heap[k]?) (hz:w.heap.size<=w'.heap.size):qH w' L D r gen bank bytes sure FL:=by
 obtain ⟨v,h1,h2,h3⟩:=h.ex
 exact ⟨⟨v,(hs L h.fL).trans h1,h2.same (fun k hk=>hs k (h3 k hk)) hz,h3⟩,h.fL,fun k hk=>Nat.lt_of_lt_of_le (h.lt k hk) hz,fun k hk=>by rw [jm (hs k hk)];exact h.tag k hk⟩
theorem qH.below {w w':World} {L D r gen bank:Nat} {bytes:List UInt8} {sure:Nat} {FL:Nat->Prop} (h:qH w L D r gen bank bytes sure FL) (hb:Below w.heap.size w w'):qH w' L D r gen bank bytes sure FL:=h.same (fun k hk=>hb.block k (h.lt k hk)) hb.size
theorem qH.keep {w w':World} {L D r gen bank:Nat} {bytes:List UInt8} {sure:Nat} {FL M:Nat->Prop} (h:qH w L D r gen bank bytes sure FL) (hb:zr M w w') (hm:∀ k,FL k->¬ M k):qH w' L D r gen bank bytes sure FL:=h.same (fun k hk=>hb.block k (h.lt k hk) (hm k hk)) hb.size
theorem zdg (L D r gen bank:Nat) (bytes:List UInt8) (sure:Nat) (FL:Nat->Prop) (w:World) (h:qH w L D r gen bank bytes sure FL) (hl:bytes.length<=14336) :
  Calls Tryz.prog 104 #[.pointer (some ⟨L,0,none⟩)] w fun e w'=>e=.returned (.int .i64 (14336-bytes.length))/\w'=w:=by
 obtain ⟨v,h1,h2,h3⟩:=h.ex
 obtain ⟨A,c,rfl⟩:=h2.slice
 have k4:=(cell_of_row w L 4 _ _ _ h1).trans (show _=some (Value.slice A bytes.length c) from rfl)
 clear h h1 h2 h3
 go_enter Tryz.func104,Tryz.ntmps104
 go_wp2
 go_ret
 exact ⟨rfl,rfl⟩
def qD (gen n:Nat):Nat:=gen*1048576+n+1
theorem zgP (L D r gen bank:Nat) (bytes:List UInt8) (sure:Nat) (FL:Nat->Prop) (w:World) (n:Nat) (h:qH w L D r gen bank bytes sure FL) (hg:gen<4294967296) (hn:n<=100000) :
  Calls Tryz.prog 108 #[.pointer (some ⟨L,0,none⟩),.int .i64 n] w fun e w'=>e=.returned (.int .u64 (qD gen n))/\w'=w:=by
 obtain ⟨v,h1,h2,h3⟩:=h.ex
 have k2:=(cell_of_row w L 2 _ _ _ h1).trans (show _=some (Value.int .u64 gen) from rfl)
 have m1:IntKind.u64.wrap (n:Int)=n:=jW _ (by omega)
 have m2:IntKind.u64.wrap ((gen:Int)*1048576)=(gen:Int)*1048576:=by rw [IntKind.wrap_u64];omega
 have m3:IntKind.u64.wrap ((gen:Int)*1048576+n)=(gen:Int)*1048576+n:=by rw [IntKind.wrap_u64];omega
 have m4:IntKind.u64.wrap ((gen:Int)*1048576+n+1)=(gen:Int)*1048576+n+1:=by rw [IntKind.wrap_u64];omega
 clear h h1 h2 h3
 go_enter Tryz.func108,Tryz.ntmps108
 go_wp2
 go_ret
 refine ⟨?_,rfl⟩
 unfold qD
 congr 2
theorem vE.slice {w:World} {v:Value} {l:List Nat} (h:vE w v l):∃ A c,v=.slice A l.length c:=by
 obtain ⟨A,c,e,_⟩:=h
 exact ⟨A,c,e⟩
theorem zcL {w w':World} {L D r gen bank sure:Nat} {bytes bytes':List UInt8} {FL:Nat->Prop} {v v':Value} (h:qH w L D r gen bank bytes sure FL)
  (hv:w.heap[L]?=some (.cells #[.pointer (some ⟨D,0,none⟩),.int .i64 r,.int .u64 gen,.int .i64 bank,v,.int .i64 sure] 194 (0,0))) (hvF:∀ k,v.ownBlock=some k->FL k) (hvL:v.ownBlock≠some L)
  (hg:w.grownBy w' v.ownBlock) (hown:w'.ownsRow 0 5 1 v' bytes'.length (zo bytes')) (hat:∀ k,v'.ownBlock=some k->v.ownBlock=some k∨w.heap.size<=k) :
  ∃ FL',qH (w'.setCell ⟨L,4,none⟩ v') L D r gen bank bytes' sure FL'/\zr FL w (w'.setCell ⟨L,4,none⟩ v')/\qh w FL FL':=by
 have hL':=zX hv hg hvL
 have hv'L:v'.ownBlock≠some L:=fun e=>by
  rcases hat L e with e2 | e2
  ·exact hvL e2
  ·have:=zd hv;omega
 have hsz:=hg.size
 refine ⟨fun k=>k=L∨v'.ownBlock=some k,⟨⟨v',?_,.inl (own_set1 hown hv'L _ _),fun k hk=>.inr hk⟩,.inl rfl,?_,?_⟩,?_,?_⟩
 ·rw [heap_setCell_same _ _ 4 _ _ _ hL'];rfl
 ·rintro k (rfl | hk)
  ·have:=zd hL';simpa using this
  ·have:=(hown.lt k hk).2;simpa using this
 ·rintro k (rfl | hk)
  ·rw [zc (heap_setCell_same _ _ 4 _ _ _ hL')];simp
  ·rw [jm (heap_setCell_other _ _ _ _ (fun e=>hv'L (by rw [hk];exact congrArg some e))),own_tag hown hk];simp
 ·exact ((zr.refl FL w).grown hg fun k hk=>.inl (hvF k hk)).set (p:=⟨L,4,none⟩) (.inl h.fL) _
 ·rintro k (rfl | hk)
  ·exact .inl h.fL
  ·exact (hat k hk).imp (hvF k) id
theorem Gw (L D r gen bank:Nat) (bytes:List UInt8) (sure:Nat) (FL:Nat->Prop) (x:zI) (dv:Value) (w:World) (h:qH w L D r gen bank bytes sure FL) (hx:x.ok) (hdv:vE w dv x.dirty)
  (hg:gen<4294967296) (hfit:bytes.length+(qu x).length<=14336) :
  Calls Tryz.prog 64 #[.pointer (some ⟨L,0,none⟩),ZB x dv] w fun e w'=>e=.returned (.tuple #[.int .u64 (qD gen bytes.length),.int .i64 0])/\∃ FL',qH w' L D r gen bank (bytes++qu x) sure FL'/\zr FL w w'/\qh w FL FL':=by
 obtain ⟨dA,dc,rfl⟩:=hdv.slice
 have hpos:0<(qu x).length:=by rw [qu,List.length_append,zA];omega
 obtain ⟨H,HX⟩:=zi2 h hx
 have hdv1:=hdv.below (B_alloc (Below.refl w.heap.size w) (.cells #[.int .i64 x.kind,.int .i64 x.txn,.int .i64 x.page,.int .i64 x.slot,.string (za (zt x.before)),.string (za (zt x.after)),.string (za x.image),.slice dA x.dirty.length dc] 144))
 have HDV:=hid hdv1
 have d1:decide ((14336:Int)-(bytes.length:Int)<((qu x).length:Int))=false:=by simp;omega
 obtain ⟨n,hn⟩:∃ n,n=(qu x).length:=⟨_,rfl⟩
 have HN:=hid hn
 rw [<- hn] at d1 hpos hfit
 have hE:=zk w (.cells #[.int .i64 x.kind,.int .i64 x.txn,.int .i64 x.page,.int .i64 x.slot,.string (za (zt x.before)),.string (za (zt x.after)),.string (za x.image),.slice dA x.dirty.length dc] 144) rfl
 have HE:=hid hE
 clear h hx hdv hdv1 hn hE
 unfold ZB
 go_enter Tryz.func64,Tryz.ntmps64
 go_upto_region 3 with (first
  | (show wpList _ _ _ (⟨some 8,_,_,_,_,_⟩::_) _ _;refine wpList_load_row rfl 144 (.tmp 3) rfl w.heap.size (by rfl) 144 _ (0,0) _ HE.out Tryz.underlying144 rfl (by kernel_rfl) ?_)
  | (go_at_call 106;refine (KK x dA dc _ HX.out).mono ?_;rintro e1 w1 ⟨rfl,hb1⟩;have HB1:=hid hb1;clear hb1))
 have hE1:=zb HE.out HB1.out (by simp)
 have HE1:=hid hE1
 clear hE1
 go_upto_region 4 with (first
  | (show wpList _ _ _ (⟨some 11,_,_,_,_,_⟩::_) _ _;refine wpList_load_row rfl 144 (.tmp 3) rfl w.heap.size (by rfl) 144 _ (0,0) _ HE1.out Tryz.underlying144 rfl (by kernel_rfl) ?_)
  | (go_at_call 107;refine (zas x (.slice dA x.dirty.length dc) w1 HX.out (HDV.out.below HB1.out)).mono ?_;rintro e1 w2 ⟨v2,rfl,hown2,hb2⟩;have HB2:=hid hb2;clear hb2))
 have hbel:=B_call (B_call (B_alloc (Below.refl w.heap.size w) (.cells #[.int .i64 x.kind,.int .i64 x.txn,.int .i64 x.page,.int .i64 x.slot,.string (za (zt x.before)),.string (za (zt x.after)),.string (za x.image),.slice dA x.dirty.length dc] 144)) HB1.out) HB2.out
 have hL2:=H.out.below hbel
 obtain ⟨A2,c2,rfl⟩:=own_slice hown2
 have hrd2:=zx.of_own hown2
 rw [<- HN.out] at hrd2 ⊢
 obtain ⟨v,hv,hrow,hvF⟩:=hL2.ex
 have hvL:v.ownBlock≠some L:=fun e=>by
  have:=hrow.tag e;rw [zc hv] at this;cases this
 obtain ⟨A,c,rfl⟩:=hrow.slice
 have k4:=(cell_of_row w2 L 4 _ _ _ hv).trans (show _=some (Value.slice A bytes.length c) from rfl)
 have k4f:=frozen_of_row w2 L 4 _ _ hv
 obtain ⟨v3,w3,hrun,hown3,hg3,hat3⟩:=zec (w:=w2) 29 _ bytes hrow A2 c2 (qu x) w2.heap.size (by rw [<- HN.out];exact hrd2) (by rw [<- HN.out];exact hpos) (by rw [<- HN.out];omega)
 obtain ⟨A3,c3,rfl⟩:=own_slice hown3
 have hlb:bytes.length<=14336:=by omega
 have hlb2:bytes.length<=100000:=by omega
 rw [<- HN.out] at hrun
 have k4':=uq k4 hg3 (fun e=>hvL (by simpa [Value.ownBlock] using e))
 have k4g:=frozen_of_row w3 L 4 _ _ (zX hv hg3 hvL)
 have hfin:=zcL hL2 hv hvF hvL hg3 hown3 hat3
 obtain ⟨HF,HL2,HBEL⟩:=zi3 hfin hL2 hbel
 clear hfin hv hrow hvF hvL hown3 hg3 hat3 hrd2 hown2 hL2 hbel
 go_wp2_with (first
  | (go_at_call 104;(with_reducible refine (zdg L D r gen bank bytes sure FL w2 HL2.out hlb).mono ?_);rintro e1 w4 ⟨rfl,rfl⟩)
  | (go_at_call 108;(with_reducible refine (zgP L D r gen bank bytes sure FL w4 bytes.length HL2.out hg hlb2).mono ?_);rintro e1 w5 ⟨rfl,rfl⟩)
  | (at_builtin;refine wpList_append_run _ rfl _ _ _ _ rfl _ _ rfl rfl _ _ hrun ?_))
 go_ret2
 obtain ⟨FL',h1,h2,h3⟩:=HF.out
 rw [List.length_append] at h1 h2
 refine ⟨rfl,FL',h1,(zr.of_below HBEL.out).trans h2 (fun x hx=>.inl hx),h3.mono HBEL.out.size⟩
theorem Yd:Tryz.prog.elem 29=5:=by kernel_rfl
theorem JF (w:World):(sizeOf 5).run Tryz.prog w=.ok 1 w:=by
 obtain ⟨i0,hi,hz0,hz1,hz2⟩:=info_parts uE
 simp [sizeOf,typeInfo,hi,hz1]
theorem zlo (w:World) (ad:Addr) (n c lo hi:Nat) (h1:lo<=hi) (h2:hi<=c) (h3:lo<c) :
  (Instr.sliceAt 29 (.slice (some ad) n c) (some (.int .i64 lo)) (some (.int .i64 hi)) none).run Tryz.prog w=.ok (.slice (some (ad.add lo)) (hi-lo) (c-lo)) w:=by
 have ht:Tryz.prog.underlying 29=some (.slice (Tryz.prog.elem 29)):=by rw [Yd];exact Tryz.underlying29
 rw [run_sliceAt_slice w 29 _ _ _ _ ht,run_slice_lh w 29 _ _ _ ht .i64 .i64 lo hi (by omega) (by omega) (by omega),Yd,JF]
 simp only [Result.andThen_ok,sliced,Int.toNat_natCast,Nat.mul_one,if_neg (Nat.ne_of_gt h3),Option.map_some]
theorem ze.reads' {w:World} {A:Option Addr} {n c:Nat} {l:List UInt8} (h:ze w (.slice A n c) l) (hn:n=l.length):zx w w.heap.size 1 A n (zo l):=by
 obtain ⟨A',c',e,hr,_⟩:=h
 injection e with e1 e2 e3
 subst e1
 rw [hn];exact hr
def GR (gen:Nat) (part:List UInt8):List UInt8:=jc (zz 4 gen++zz 1 part.length++[0,0,0]++part)
def qd (b:List UInt8) (s:Nat):List UInt8:=(b.drop (s*56)).take 56
def yY (cur:Nat->Nat->List UInt8) (r bank gen:Nat) (b:List UInt8) (lo hi:Nat):Nat->Nat->List UInt8 :=
 zE cur r fun q=>if 2+bank*256+lo<=q/\q<2+bank*256+hi then GR gen (qd b (q-(2+bank*256))) else cur r q
theorem Kw (cur:Nat->Nat->List UInt8) (r bank gen:Nat) (b:List UInt8) (lo hi:Nat) (h:hi<=lo):yY cur r bank gen b lo hi=cur:=by
 funext r' q
 unfold yY
 by_cases e:r'=r
 ·subst e;simp only [zf];rw [if_neg (by omega)]
 ·simp only [zm _ _ e]
theorem zfb (cur:Nat->Nat->List UInt8) (r bank gen:Nat) (b:List UInt8) (lo hi:Nat) (h:lo<=hi) :
  vq (yY cur r bank gen b lo hi) r (2+bank*256+hi) (GR gen (qd b hi))=yY cur r bank gen b lo (hi+1):=by
 funext r' q
 unfold vq yY
 by_cases e:r'=r
 ·subst e
  simp only [zf]
  by_cases e2:q=2+bank*256+hi
  ·subst e2
   rw [zf,if_pos (by omega)]
   congr 2
   omega
  ·rw [zm _ _ e2]
   by_cases e3:2+bank*256+lo<=q/\q<2+bank*256+hi
   ·rw [if_pos e3,if_pos (by omega)]
   ·rw [if_neg e3,if_neg (by omega)]
 ·simp only [zm _ _ e]
theorem zer (D:Nat) (F:Nat->Prop) (cur:Nat->Nat->List UInt8) (cnt:Nat->Nat) (L r bank gen:Nat) (x2 x3 x4 x5 v:Value) (b:List UInt8) (from_:Nat) (w:World) (h:zv w D F cur cnt)
  (hL:w.heap[L]?=some (.cells #[.pointer (some ⟨D,0,none⟩),.int .i64 r,x2,x3,x4,x5] 194 (0,0))) (hv:ze w v b) (hvF:∀ k,v.ownBlock=some k->¬ F k) (hr:r<4) (hbank:bank<=1) (hgen:gen<4294967296)
  (hb:b.length<=14336) (hf:from_<=b.length) (hc:cnt r<=80000) :
  Calls Tryz.prog 109 #[.pointer (some ⟨L,0,none⟩),.int .i64 bank,.int .u64 gen,v,.int .i64 from_] w fun e w'=>e=.returned (.int .i64 0)/\∃ F',zv w' D F' (yY cur r bank gen b (from_ / 56) ((b.length+55) / 56)) (zE cnt r 0)/\zr F w w'/\qh w F F':=by
 obtain ⟨A,c,rfl,hrd,hbc,hcm⟩:=hv
 have hLF:¬ F L:=fun e=>by
  obtain ⟨g,hR,_⟩:=h
  have:=hR.tag L e;rw [zc hL] at this;simp at this
 obtain ⟨H,HL,HRD,HVF,HLF⟩:=zi5 h hL hrd hvF hLF
 have hq0:(0:Int)<=(from_:Int):=by omega
 have hr0:(0:Int)<=(r:Int):=by omega
 have hr4:(r:Int)<4:=by omega
 have hk0:(0:Int)<=(bank:Int):=by omega
 have hk1:(bank:Int)<=1:=by omega
 clear h hL hrd hvF hLF
 go_enter Tryz.func109,Tryz.ntmps109
 go_wp2_with fail
 go_loopw [11] (fun u wr=>∃ j:Nat,from_ / 56<=j/\(j<=from_ / 56∨j<=(b.length+55) / 56)/\u=.int .i64 j/\∃ F1,zv wr D F1 (yY cur r bank gen b (from_ / 56) j) (zE cnt r (cnt r+(j-from_ / 56)))/\zr F w wr/\qh w F F1) (fun u _=>(b.length-(intOf u).toNat*56))
 case atStart =>
  refine ⟨from_ / 56,Nat.le_refl _,.inl (Nat.le_refl _),by go_num,F,?_,zr.refl _ _,qh.refl _ _⟩
  rw [Kw _ _ _ _ _ _ _ (Nat.le_refl _)]
  refine H.out.mono fun r' hr'=>?_
  by_cases e:r'=r
  ·subst e;simp only [zf];omega
  ·simp only [zm _ _ e];exact Nat.le_refl _
 case round =>
  obtain ⟨j,hfj,hjb,rfl,F1,hD,hK,hN⟩:=hrel
  by_cases hlt:j*56<b.length
  ·obtain ⟨m,hm⟩:∃ m,m=min 56 (b.length-j*56):=⟨_,rfl⟩
   have hpl:(qd b j).length=m:=by rw [hm];simp [qd]
   have hm56:m<=56:=by omega
   have hmp:0<m:=by omega
   have hmb:j*56+m<=b.length:=by omega
   have hj0:(0:Int)<=(j:Int):=by omega
   have hj1:(j:Int)<=256:=by omega
   obtain ⟨ad,rfl,_⟩:=HRD.out.src (by rw [qm];omega)
   have hsl:=zlo wr ad b.length c (j*56) (j*56+m) (by omega) (by omega) (by omega)
   rw [show j*56+m-j*56=m by omega] at hsl
   have hin:∀ W,(∀ p:Addr,p.block=ad.block->W.cell? p=w.cell? p)->w.heap.size<=W.heap.size->ze W (.slice (some (ad.add (j*56))) m (c-j*56)) (qd b j):=fun W hW hz=>by
    have h0:ze W (.slice (some ad) b.length c) b:=by
     refine ⟨_,_,rfl,⟨HRD.out.1,fun hn=>?_⟩,hbc,hcm⟩
     obtain ⟨ad',e,hlt',hc'⟩:=HRD.out.2 hn
     injection e with e;subst e
     exact ⟨ad,rfl,by omega,fun i u hu=>(hW _ (Zt _ _)).trans (hc' i u hu)⟩
    have h1:=h0.sub (j*56) m (by omega) (by omega)
    have e:(b.drop (j*56)).take m=qd b j:=by
     unfold qd
     rw [hm]
     rcases Nat.le_total 56 (b.length-j*56) with h2 | h2
     ·rw [Nat.min_eq_left h2]
     ·rw [Nat.min_eq_right h2,List.take_of_length_le (by simp),List.take_of_length_le (by simp;omega)]
    rw [e] at h1
    exact h1
   have hadF:¬ F ad.block:=HVF.out _ rfl
   have hadlt:ad.block<w.heap.size:=by
    obtain ⟨ad',e,hlt',hc'⟩:=HRD.out.2 (by omega)
    injection e with e;subst e
    exact hlt'
   have hcell:∀ p:Addr,p.block=ad.block->wr.cell? p=w.cell? p:=fun p hp=>World.cell?_of_block (by rw [hp];exact hK.block _ hadlt hadF)
   have hin1:=hin wr hcell hK.size
   have hmm:(if (b.length:Int)<((j:Int)+1)*56 then (b.length:Int) else ((j:Int)+1)*56)=((j*56+m:Nat):Int):=by
    by_cases e:(b.length:Int)<((j:Int)+1)*56
    ·rw [if_pos e];omega
    ·rw [if_neg e];omega
   have hcn:(zE cnt r (cnt r+(j-from_ / 56))) (r:Int).toNat<=100000:=by rw [Int.toNat_natCast,zf];omega
   obtain ⟨HIN,HD,HK,HN,HPL,HM⟩:=zi6 hin1 hD hK hN hpl hm
   have hgn:ze wr (.slice none 0 0) []:=⟨none,0,rfl,(zx.none_:zx wr wr.heap.size 1 none 0 []),Nat.le_refl _,by unfold maxLen;omega⟩
   have HGN:=hid hgn
   have mw:IntKind.u64.wrap (m:Int)=m:=jW _ (by omega)
   clear hin1 hD hK hN hpl hm hin hcell hgn
   have hmj:j*56+m-j*56=m:=by omega
   go_upto_region 5 with fail
   clear hmj hsl hmm
   go_upto_region 6 with (first
    | (go_at_call 59;(with_reducible refine (yF (.slice none 0 0) [] 4 gen wr HGN.out (by omega) (by omega) (by simp)).mono ?_);rintro e1 w1 ⟨v1,rfl,hown1,hb1⟩;simp only [show (4:Int).toNat=4 from rfl,List.nil_append,List.length_nil,Nat.zero_add] at hown1;have HB1:=hid hb1;have HI1:=hid (ze.of_own (by rw [zA]) hown1);clear hb1 hown1)
    | (go_at_call 59;(with_reducible refine (yF v1 (zz 4 gen) 1 m w1 HI1.out (by omega) (by omega) (by rw [zA];omega)).mono ?_);rintro e1 w2 ⟨v2,rfl,hown2,hb2⟩;simp only [show (1:Int).toNat=1 from rfl,zA] at hown2;have HB2:=hid hb2;clear hb2))
   have hz3:=zk w2 (.cells #[.int .u8 0,.int .u8 0,.int .u8 0] 5) rfl
   have hr3:zx (w2.alloc (.cells #[.int .u8 0,.int .u8 0,.int .u8 0] 5)) (w2.alloc (.cells #[.int .u8 0,.int .u8 0,.int .u8 0] 5)).heap.size 1 (some ⟨w2.heap.size,0,none⟩) 3 (zo [0,0,0]):=zx.of_list hz3 rfl
   have hown3:=zi hown2 fun k hk=>Below.heap_alloc w2 (.cells #[.int .u8 0,.int .u8 0,.int .u8 0] 5) k (hown2.lt k hk).2
   obtain ⟨HR3,HO3,HO2⟩:=zi3 hr3 hown3 hown2
   clear hz3 hr3 hown3 hown2
   go_upto_region 7 with (first
    | (show wpList _ _ _ (⟨some 42,_,_,_,_,_⟩::_) _ _;refine qW rfl (.tmp 40) (.tmp 41) 29 5 1 1 rfl Tryz.underlying29 uD (by omega) v2 5 (zo (zz 4 gen++zz 1 m)) w1.heap.size (by rfl) HO3.out (some ⟨w2.heap.size,0,none⟩) 3 3 (zo [0,0,0]) _ (by rfl) HR3.out (jb _) (by omega) (by omega) (Nat.le_trans HB2.out.size (by simp)) ?_;intro v4 w4 hown4 hg4 hat4;rw [<- jF] at hown4;have hb4:=jL (B_alloc HB2.out _) HO3.out hg4;have hrd4:=(((HIN.out.below HB1.out).below hb4));obtain ⟨HB4,HI4,HO4⟩:=zi3 hb4 hrd4 hown4;clear hb4 hrd4 hown4 hg4 hat4)
    | (show wpList _ _ _ (⟨some 44,_,_,_,_,_⟩::_) _ _;refine qW rfl (.tmp 42) (.tmp 43) 29 5 1 1 rfl Tryz.underlying29 uD (by omega) v4 8 (zo (zz 4 gen++zz 1 m++[0,0,0])) w1.heap.size (by rfl) HO4.out (some (ad.add (j*56))) m (c-j*56) (zo (qd b j)) w4.heap.size (by rfl) (HI4.out.reads' HPL.out.symm) (jb _) (by omega) (by omega) HB4.out.size ?_;intro v5 w5 hown5 hg5 hat5;rw [<- jF] at hown5;have hb5:=jL HB4.out HO4.out hg5;obtain ⟨HB5,HO5⟩:=zi2 hb5 hown5;clear hb5 hown5 hg5 hat5))
   have hb15:=B_call HB1.out HB5.out
   have hL5:=zb (qj HL.out HK.out HLF.out) hb15 (zd (qj HL.out HK.out HLF.out))
   have hS:w5.drew.cell? ⟨L,0,none⟩=some (.pointer (some ⟨D,0,none⟩))/\w5.drew.cell? ⟨L,1,none⟩=some (.int .i64 r):=⟨cell_of_row w5 L 0 _ _ _ hL5,cell_of_row w5 L 1 _ _ _ hL5⟩
   have hsec:zz 4 gen++zz 1 m++[0,0,0]++qd b j=zz 4 gen++zz 1 (qd b j).length++[0,0,0]++qd b j:=by rw [HPL.out]
   have hin5:ze w5.drew v5 (zz 4 gen++zz 1 m++[0,0,0]++qd b j):=(ze.of_own (by simp only [List.length_append,zA,HPL.out,List.length_cons,List.length_nil]) HO5.out).drew
   have hl5:(zz 4 gen++zz 1 m++[0,0,0]++qd b j).length<=64:=by simp only [List.length_append,zA,HPL.out,List.length_cons,List.length_nil];omega
   have mj:IntKind.i64.wrap (2+(bank:Int)*256+(j:Int))=((2+bank*256+j:Nat):Int):=by rw [IntKind.wrap_i64];omega
   have hs0:(0:Int)<=((2+bank*256+j:Nat):Int):=by omega
   have hs1:((2+bank*256+j:Nat):Int)<538:=by omega
   have hLF1:¬ F1 L:=fun e=>(HN.out L e).elim HLF.out (fun h=>by have:=zd HL.out;omega)
   obtain ⟨HIN5,HB15,HSEC⟩:=zi3 hin5 hb15 hsec
   clear hin5 hb15 hsec hL5 HIN HI1 HO2 HO3 HR3 HI4 HO4 HO5
   refine wp_region_noPanic ?_
   refine PrintLast.start_ (n:=15) (S:=(fun w'=>w'.cell? ⟨L,0,none⟩=some (.pointer (some ⟨D,0,none⟩))/\w'.cell? ⟨L,1,none⟩=some (.int .i64 r))) (ds:=[]) (bA 15 0) (by kernel_rfl) rfl (by kernel_rfl) hS (fun hHeld=>?_)
   refine pu 0 45 15 1 rfl rfl ?_
   refine pu 1 46 15 3 rfl rfl ?_
   refine pu 2 47 15 7 rfl rfl ?_
   refine tq 3 48 15 15 rfl rfl ?_
   refine pu 4 49 15 31 rfl rfl ?_
   refine pu 5 50 15 63 rfl rfl ?_
   refine pu 6 51 15 127 rfl rfl ?_
   refine tq 7 52 15 255 rfl rfl ?_
   refine pu 8 53 15 511 rfl rfl ?_
   refine pu 10 55 15 1535 rfl rfl ?_
   refine pu 12 57 15 5631 rfl rfl ?_
   refine on 9 15 6143 (some 54) rfl rfl (fun K hK=>?_)
   show Oper.wp _ ⟨some 54,_,_,_,_,_⟩ _ _ _ _
   refine zq 111 _ _ [.int .i64 bank] rfl (by kernel_rfl) (by rfl) ((Zl bank w5.drew hk0 hk1).mono ?_)
   rintro e1 w6 ⟨rfl,rfl⟩
   refine ⟨_,rfl,?_⟩
   refine hK.out _ _ hHeld (fun hHeld=>?_)
   clear hK K
   try simp only [pS]
   refine pu 11 56 15 8191 rfl rfl ?_
   refine on 13 15 16383 (some 58) rfl rfl (fun K hK=>?_)
   show Oper.wp _ ⟨some 58,_,_,_,_,_⟩ _ _ _ _
   refine zq 97 _ _ [.pointer (some ⟨D,0,none⟩),.int .i64 r,.int .i64 ((2+bank*256+j:Nat):Int),v5] rfl (by kernel_rfl) (by rfl) ((Qx D F1 _ _ r ((2+bank*256+j:Nat):Int) v5 _ w5.drew ((HD.out.below HB15.out).drew) hr0 hr4 hs0 hs1 HIN5.out hl5 hcn).mono ?_)
   rintro e1 w7 ⟨rfl,F7,hD7,hK7,hN7⟩
   refine ⟨_,rfl,?_⟩
   refine hK.out _ _ ⟨ue hHeld.1 hK7 hLF1,ue hHeld.2 hK7 hLF1⟩ (fun hHeld=>?_)
   clear hK K
   try simp only [pS]
   refine pu 14 14 15 32767 rfl rfl ?_
   refine PrintLast.done_ (by kernel_rfl) ?_
   refine NoPanic.normal ?_
   obtain ⟨HD7,HK7,HN7⟩:=zi3 hD7 hK7 hN7
   clear hD7 hK7 hN7 hS hHeld mj hs0 hs1
   go_wp2_with fail
   go_roundw
   case rel =>
    refine ⟨j+1,by omega,.inr (by omega),by go_num,F7,?_,(HK.out.call HB15.out.drew).next HK7.out HN.out,HN.out.trans HN7.out (Nat.le_trans HK.out.size HB15.out.size)⟩
    rw [<- zfb _ _ _ _ _ _ _ hfj]
    have h1:=HD7.out
    simp only [Int.toNat_natCast] at h1
    rw [HSEC.out] at h1
    refine h1.mono fun r' hr'=>?_
    unfold QV
    by_cases e:r'=r
    ·subst e;simp only [zf];omega
    ·simp only [zm _ _ e];exact Nat.le_refl _
   case measure=>simp [intOf];omega
  ·have hjj:yY cur r bank gen b (from_ / 56) j=yY cur r bank gen b (from_ / 56) ((b.length+55) / 56):=by
    rcases hjb with h1 | h1
    ·rw [Kw _ _ _ _ _ _ _ h1,Kw _ _ _ _ _ _ _ (by omega)]
    ·rw [show j=(b.length+55) / 56 by omega]
   have hd:decide ((j:Int)*56<(b.length:Int))=false:=by simp;omega
   have hj1:(j:Int)<=257:=by omega
   have hj0:(0:Int)<=(j:Int):=by omega
   have hcn:(zE cnt r (cnt r+(j-from_ / 56))) (r:Int).toNat<=100000:=by rw [Int.toNat_natCast,zf];omega
   have hLr:=qj HL.out hK HLF.out
   have hS:wr.drew.cell? ⟨L,0,none⟩=some (.pointer (some ⟨D,0,none⟩))/\wr.drew.cell? ⟨L,1,none⟩=some (.int .i64 r):=⟨cell_of_row wr L 0 _ _ _ hLr,cell_of_row wr L 1 _ _ _ hLr⟩
   have hLF1:¬ F1 L:=fun e=>(hN L e).elim HLF.out (fun h=>by have:=zd HL.out;omega)
   obtain ⟨HD,HK,HN,HJJ⟩:=zi4 hD hK hN hjj
   clear hD hK hN hjj hLr hjb
   go_upto_region 10 with fail
   refine wp_region_noPanic ?_
   refine PrintLast.start_ (n:=10) (S:=(fun w'=>w'.cell? ⟨L,0,none⟩=some (.pointer (some ⟨D,0,none⟩))/\w'.cell? ⟨L,1,none⟩=some (.int .i64 r))) (ds:=[]) (bA 10 0) (by kernel_rfl) rfl (by kernel_rfl) hS (fun hHeld=>?_)
   refine pu 0 62 10 1 rfl rfl ?_
   refine pu 1 63 10 3 rfl rfl ?_
   refine pu 2 64 10 7 rfl rfl ?_
   refine tq 3 65 10 15 rfl rfl ?_
   refine pu 4 66 10 31 rfl rfl ?_
   refine pu 5 67 10 63 rfl rfl ?_
   refine pu 6 68 10 127 rfl rfl ?_
   refine tq 7 69 10 255 rfl rfl ?_
   refine on 8 10 511 (some 70) rfl rfl (fun K hK=>?_)
   show Oper.wp _ ⟨some 70,_,_,_,_,_⟩ _ _ _ _
   refine zq 98 _ _ [.pointer (some ⟨D,0,none⟩),.int .i64 r] rfl (by kernel_rfl) (by rfl) ((ud D F1 _ _ r wr.drew HD.out.drew hr0 hr4 hcn).mono ?_)
   rintro e1 w7 ⟨rfl,hD7,hK7⟩
   refine ⟨_,rfl,?_⟩
   refine hK.out _ _ ⟨ue hHeld.1 hK7 hLF1,ue hHeld.2 hK7 hLF1⟩ (fun hHeld=>?_)
   clear hK K
   try simp only [pS]
   refine pu 9 10 10 1023 rfl rfl ?_
   refine PrintLast.done_ (by kernel_rfl) ?_
   refine NoPanic.normal ?_
   obtain ⟨HD7,HK7⟩:=zi2 hD7 hK7
   clear hD7 hK7 hHeld hS
   go_wp2_with fail
   go_ret
   refine ⟨rfl,F1,?_,HK.out.drew.next HK7.out HN.out,HN.out⟩
   rw [<- HJJ.out]
   refine HD7.out.mono fun r' hr'=>?_
   simp only [Int.toNat_natCast]
   by_cases e:r'=r
   ·subst e;simp only [zf];omega
   ·simp only [zm _ _ e];exact Nat.le_refl _
abbrev qr (w:World) (D:Nat) (F:Nat->Prop) (cur:Nat->Nat->List UInt8):Prop:=zv w D F cur fun _=>0
theorem qr.of {w:World} {D r:Nat} {F:Nat->Prop} {cur:Nat->Nat->List UInt8} (h:zv w D F cur (zE (fun _=>0) r 0)):qr w D F cur :=
 zv.mono h fun r' _=>by
  by_cases e:r'=r
  ·subst e;simp only [zf];exact Nat.le_refl _
  ·simp only [zm _ _ e];exact Nat.le_refl _
theorem zv.tags {w:World} {D:Nat} {F:Nat->Prop} {cur:Nat->Nat->List UInt8} {cnt:Nat->Nat} (h:zv w D F cur cnt) {k:Nat} (hk:F k):qp w k∈[81,118,86,120]:=by
 obtain ⟨g,hR,_⟩:=h
 exact hR.tag k hk
def jN (c:Nat->List UInt8) (gen bank:Nat) (bytes:List UInt8):Prop :=
 c 1=jc (zz 4 gen++zz 1 bank)/\∀ s,s<256->c (2+bank*256+s)=if s*56<bytes.length then GR gen (qd bytes s) else zs 64
def Zj (cur cur':Nat->Nat->List UInt8) (r:Nat):Prop:=∀ r' q,r'≠r∨q=0∨514<=q->cur' r' q=cur r' q
theorem Zj.refl (cur:Nat->Nat->List UInt8) (r:Nat):Zj cur cur r:=fun _ _ _=>rfl
theorem uv {w:World} {L D D' r gen bank:Nat} {bytes:List UInt8} {sure:Nat} {FL F:Nat->Prop} {cur:Nat->Nat->List UInt8} {cnt:Nat->Nat} (h:qH w L D r gen bank bytes sure FL) (hd:zv w D' F cur cnt):∀ k,FL k->¬ F k:=fun k h1 h2=>by
 have a:=h.tag k h1
 have b:=hd.tags h2
 generalize qp w k=t at a b
 simp at a b
 omega
theorem zio {cur:Nat->Nat->List UInt8} {r bank gen sure:Nat} {b:List UInt8} (h:jN (cur r) gen bank (b.take sure)) (hs:sure<=b.length) (hb:b.length<=14336) (hbk:bank<=1) :
  jN (yY cur r bank gen b (sure / 56) ((b.length+55) / 56) r) gen bank b/\Zj cur (yY cur r bank gen b (sure / 56) ((b.length+55) / 56)) r:=by
 refine ⟨⟨?_,fun s hs2=>?_⟩,fun r' q h0=>?_⟩
 ·unfold yY;simp only [zf]
  rw [if_neg (by omega)];exact h.1
 ·unfold yY;simp only [zf]
  by_cases e:2+bank*256+sure / 56<=2+bank*256+s/\2+bank*256+s<2+bank*256+(b.length+55) / 56
  ·rw [if_pos e,if_pos (by omega),show 2+bank*256+s-(2+bank*256)=s by omega]
  ·rw [if_neg e,h.2 s hs2,List.length_take,Nat.min_eq_left hs]
   by_cases e2:s*56<sure
   ·rw [if_pos e2,if_pos (by omega)]
    have:qd (b.take sure) s=qd b s:=by
     unfold qd
     rw [List.drop_take,List.take_take,Nat.min_eq_left (by omega)]
    rw [this]
   ·rw [if_neg e2,if_neg (by omega)]
 ·unfold yY
  by_cases e:r'=r
  ·subst e;simp only [zf];rw [if_neg (by omega)]
  ·simp only [zm _ _ e]
def Gn (F G:Nat->Prop):Nat->Prop:=fun k=>F k∨G k
theorem qH.sure_ {w:World} {L D r gen bank:Nat} {bytes:List UInt8} {sure:Nat} {FL:Nat->Prop} (h:qH w L D r gen bank bytes sure FL) (n:Nat):qH (w.setCell ⟨L,5,none⟩ (.int .i64 n)) L D r gen bank bytes n FL:=by
 obtain ⟨v,h1,h2,h3⟩:=h.ex
 have hne:v.ownBlock≠some L:=fun e=>by have:=h2.tag e;rw [zc h1] at this;cases this
 have h1':(w.setCell ⟨L,5,none⟩ (.int .i64 n)).heap[L]?=some (.cells #[.pointer (some ⟨D,0,none⟩),.int .i64 r,.int .u64 gen,.int .i64 bank,v,.int .i64 n] 194 (0,0)):=by rw [heap_setCell_same _ _ 5 _ _ _ h1];rfl
 refine ⟨⟨v,h1',h2.same (fun k hk=>heap_setCell_other _ _ _ _ (fun e=>hne (by rw [hk];exact congrArg some e))) (by simp),h3⟩,h.fL,fun k hk=>by simpa using h.lt k hk,fun k hk=>?_⟩
 by_cases e:k=L
 ·subst e;rw [zc h1'];simp
 ·rw [jm (heap_setCell_other _ _ _ _ e)];exact h.tag k hk
theorem zag (D:Nat) (F FL:Nat->Prop) (cur:Nat->Nat->List UInt8) (L r gen bank:Nat) (b:List UInt8) (sure:Nat) (w:World) (hL:qH w L D r gen bank b sure FL) (hD:qr w D F cur) (hon:jN (cur r) gen bank (b.take sure))
  (hr:r<4) (hbank:bank<=1) (hgen:gen<4294967296) (hb:b.length<=14336) (hs:sure<=b.length) :
  Calls Tryz.prog 66 #[.pointer (some ⟨L,0,none⟩)] w fun e w'=>e=.returned (.int .i64 0)/\∃ F' cur',qH w' L D r gen bank b b.length FL/\qr w' D F' cur'/\jN (cur' r) gen bank b/\Zj cur cur' r/\zr (Gn FL F) w w'/\qh w F F':=by
 obtain ⟨v,hv,hrow,hvF⟩:=hL.ex
 obtain ⟨A,c,rfl⟩:=hrow.slice
 have hlay:=zer D F cur (fun _=>0) L r bank gen _ _ _ _ _ b sure w.drew.drew hD.drew.drew hv hrow.bytes (fun k hk=>uv hL hD k (hvF k hk)) hr hbank hgen hb hs (by omega)
 have k2:=(cell_of_row w L 2 _ _ _ hv).trans (show _=some (Value.int .u64 gen) from rfl)
 have k3:=(cell_of_row w L 3 _ _ _ hv).trans (show _=some (Value.int .i64 bank) from rfl)
 have k4:=(cell_of_row w L 4 _ _ _ hv).trans (show _=some (Value.slice A b.length c) from rfl)
 have k5:=(cell_of_row w L 5 _ _ _ hv).trans (show _=some (Value.int .i64 sure) from rfl)
 obtain ⟨HL,HD,HON,HV,HLAY⟩:=zi5 hL hD hon hv hlay
 have hS1:w.drew.cell? ⟨L,4,none⟩=some (.slice A b.length c)/\w.drew.cell? ⟨L,5,none⟩=some (.int .i64 sure):=⟨k4,k5⟩
 have hS3:w.drew.drew.cell? ⟨L,2,none⟩=some (.int .u64 gen)/\w.drew.drew.cell? ⟨L,3,none⟩=some (.int .i64 bank)/\w.drew.drew.cell? ⟨L,4,none⟩=some (.slice A b.length c)/\w.drew.drew.cell? ⟨L,5,none⟩=some (.int .i64 sure):=⟨k2,k3,k4,k5⟩
 by_cases hsl:sure=b.length
 ·have dd:((sure:Int) == (b.length:Int))=true:=by simp [hsl]
  have HSL:=hid hsl
  clear hL hD hon hv hrow hvF hlay hS3 k2 k3 k4 k5 hsl
  go_enter Tryz.func66,Tryz.ntmps66
  go_upto_region 1 with fail
  refine wp_region_noPanic ?_
  refine PrintLast.start_ (n:=10) (S:=(fun w'=>w'.cell? ⟨L,4,none⟩=some (.slice A b.length c)/\w'.cell? ⟨L,5,none⟩=some (.int .i64 sure))) (ds:=[]) (bA 10 0) (by kernel_rfl) rfl (by kernel_rfl) hS1 (fun hHeld=>?_)
  refine pu 0 4 10 1 rfl rfl ?_
  refine pu 1 5 10 3 rfl rfl ?_
  refine pu 2 6 10 7 rfl rfl ?_
  refine tq 3 7 10 15 rfl rfl ?_
  refine pu 4 8 10 31 rfl rfl ?_
  refine pu 5 9 10 63 rfl rfl ?_
  refine pu 6 10 10 127 rfl rfl ?_
  refine tq 7 11 10 255 rfl rfl ?_
  refine pu 8 12 10 511 rfl rfl ?_
  refine pu 9 13 10 1023 rfl rfl ?_
  refine PrintLast.done_ (by kernel_rfl) ?_
  refine NoPanic.normal ?_
  clear hHeld hS1
  go_wp2_with fail
  go_ret
  refine ⟨rfl,F,cur,by rw [<- HSL.out];exact HL.out.same (fun _ _=>rfl) (Nat.le_refl _),HD.out.drew,?_,Zj.refl _ _,(zr.refl _ _).drew,qh.refl _ _⟩
  have h1:=HON.out
  rw [HSL.out,List.take_length] at h1
  exact h1
 ·have dd:((sure:Int) == (b.length:Int))=false:=by simp;omega
  clear hL hD hon hv hrow hvF hlay k2 k3 k4 k5
  go_enter Tryz.func66,Tryz.ntmps66
  go_upto_region 1 with fail
  refine wp_region_noPanic ?_
  refine PrintLast.start_ (n:=10) (S:=(fun w'=>w'.cell? ⟨L,4,none⟩=some (.slice A b.length c)/\w'.cell? ⟨L,5,none⟩=some (.int .i64 sure))) (ds:=[]) (bA 10 0) (by kernel_rfl) rfl (by kernel_rfl) hS1 (fun hHeld=>?_)
  refine pu 0 4 10 1 rfl rfl ?_
  refine pu 1 5 10 3 rfl rfl ?_
  refine pu 2 6 10 7 rfl rfl ?_
  refine tq 3 7 10 15 rfl rfl ?_
  refine pu 4 8 10 31 rfl rfl ?_
  refine pu 5 9 10 63 rfl rfl ?_
  refine pu 6 10 10 127 rfl rfl ?_
  refine tq 7 11 10 255 rfl rfl ?_
  refine pu 8 12 10 511 rfl rfl ?_
  refine pu 9 13 10 1023 rfl rfl ?_
  refine PrintLast.done_ (by kernel_rfl) ?_
  refine NoPanic.normal ?_
  clear hHeld hS1
  go_upto_region 3 with fail
  refine wp_region_noPanic ?_
  refine PrintLast.start_ (n:=19) (S:=(fun w'=>w'.cell? ⟨L,2,none⟩=some (.int .u64 gen)/\w'.cell? ⟨L,3,none⟩=some (.int .i64 bank)/\w'.cell? ⟨L,4,none⟩=some (.slice A b.length c)/\w'.cell? ⟨L,5,none⟩=some (.int .i64 sure))) (ds:=[17]) (bA 19 0) (by kernel_rfl) rfl (by kernel_rfl) hS3 (fun hHeld=>?_)
  refine pu 0 14 19 1 rfl rfl ?_
  refine pu 1 15 19 3 rfl rfl ?_
  refine pu 2 16 19 7 rfl rfl ?_
  refine pu 3 17 19 15 rfl rfl ?_
  refine tq 4 18 19 31 rfl rfl ?_
  refine pu 5 19 19 63 rfl rfl ?_
  refine pu 6 20 19 127 rfl rfl ?_
  refine pu 7 21 19 255 rfl rfl ?_
  refine tq 8 22 19 511 rfl rfl ?_
  refine pu 9 23 19 1023 rfl rfl ?_
  refine pu 10 24 19 2047 rfl rfl ?_
  refine pu 11 25 19 4095 rfl rfl ?_
  refine tq 12 26 19 8191 rfl rfl ?_
  refine pu 13 27 19 16383 rfl rfl ?_
  refine pu 14 28 19 32767 rfl rfl ?_
  refine pu 15 29 19 65535 rfl rfl ?_
  refine tq 16 30 19 131071 rfl rfl ?_
  refine la 17 19 262143 (some 31) rfl rfl (fun K hK=>?_)
  show Oper.wp _ ⟨some 31,_,_,_,_,_⟩ _ _ _ _
  refine zq 109 _ _ [.pointer (some ⟨L,0,none⟩),.int .i64 bank,.int .u64 gen,.slice A b.length c,.int .i64 sure] rfl (by kernel_rfl) (by rfl) (HLAY.out.mono ?_)
  rintro e1 w7 ⟨rfl,F7,hD7,hK7,hN7⟩
  refine ⟨_,rfl,?_⟩
  refine hK.out _ _ ?_
  clear hK K
  try simp only [pS]
  refine pu 18 3 19 524287 rfl rfl ?_
  refine PrintLast.done_ (by kernel_rfl) ?_
  refine NoPanic.normal ?_
  have hL7:=(HL.out.same (w':=w.drew.drew) (fun _ _=>rfl) (Nat.le_refl _)).keep hK7 (fun k hk=>uv HL.out HD.out k hk)
  obtain ⟨v7,hv7,hrow7,hvF7⟩:=hL7.ex
  obtain ⟨A7,c7,rfl⟩:=hrow7.slice
  have e4:=(cell_of_row w7 L 4 _ _ _ hv7).trans (show _=some (Value.slice A7 b.length c7) from rfl)
  have e5:=(cell_of_row w7 L 5 _ _ _ hv7).trans (show _=some (Value.int .i64 sure) from rfl)
  have f5:=frozen_of_row w7 L 5 _ _ hv7
  obtain ⟨HL7,HD7,HK7,HN7⟩:=zi4 hL7 hD7 hK7 hN7
  clear hL7 hv7 hrow7 hvF7 hD7 hK7 hN7 hS3
  go_wp2_with fail
  go_ret
  have hon:=zio HON.out hs hb hbank
  refine ⟨rfl,F7,_,HL7.out.sure_ _,qr.of (HD7.out.same (fun k hk=>?_) (by simp)),hon.1,hon.2,(zr.mono ((zr.refl _ _).drew.drew.trans HK7.out (fun x h=>.inl h)) (fun x h=>.inl (.inr h))).set (p:=⟨L,5,none⟩) (.inl (.inl HL.out.fL)) _,HN7.out⟩
  exact heap_setCell_other _ _ _ _ (fun e=>uv HL7.out HD7.out L HL7.out.fL (by rw [<- show k=L from e];exact hk))
def qI (r:zI):List Value:=[.int .i64 r.kind,.int .i64 r.txn,.int .i64 r.page,.int .i64 r.slot,.string (za (zt r.before)),.string (za (zt r.after)),.string (za r.image),.slice none 0 0]
def jf (rs:List zI):List Value:=rs.flatMap qI
theorem KL:∀ (rs:List zI) (j:Nat) (r:zI),rs[j]?=some r->∀ i u,(qI r)[i]?=some u->(jf rs)[j*8+i]?=some u
 | [],j,r,h,_,_,_=>by simp at h
 | x::rs,0,r,h,i,u,hu=>by
  simp only [List.getElem?_cons_zero,Option.some.injEq] at h
  subst h
  have hi:=(List.getElem?_eq_some_iff.1 hu).1
  simp only [jf,List.flatMap_cons,Nat.zero_mul,Nat.zero_add]
  rw [List.getElem?_append_left hi];exact hu
 | x::rs,j+1,r,h,i,u,hu=>by
  have h1:=KL rs j r (by simpa using h) i u hu
  simp only [jf,List.flatMap_cons]
  rw [List.getElem?_append_right (by simp [qI];omega)]
  have:(j+1)*8+i-(qI x).length=j*8+i:=by simp [qI];omega
  rw [this];exact h1
def zp (rs:List zI):List UInt8:=rs.flatMap qu
theorem zat (rs:List zI) (j:Nat) (r:zI) (h:rs[j]?=some r):zp (rs.take (j+1))=zp (rs.take j)++qu r:=by
 unfold zp
 rw [List.take_add_one,h,List.flatMap_append];simp
theorem QN (rs:List zI) (j:Nat):(zp (rs.take j)).length<=(zp rs).length:=by
 conv=>rhs;rw [<- List.take_append_drop j rs]
 simp only [zp,List.flatMap_append,List.length_append];omega
theorem zdK {w:World} {L D r gen bank sure g1 nb:Nat} {b bs:List UInt8} {FL:Nat->Prop} {A:Option Addr} {c B:Nat} (h:qH w L D r gen bank b sure FL) (ho:w.ownsRow B 5 1 (.slice A bs.length c) bs.length (zo bs)) :
  qH ((((w.setCell ⟨L,2,none⟩ (.int .u64 g1)).setCell ⟨L,3,none⟩ (.int .i64 nb)).setCell ⟨L,4,none⟩ (.slice A bs.length c)).setCell ⟨L,5,none⟩ (.int .i64 bs.length)) L D r g1 nb bs bs.length (fun k=>k=L∨(Value.slice A bs.length c).ownBlock=some k):=by
 obtain ⟨v,h1,h2,h3⟩:=h.ex
 have hne:(Value.slice A bs.length c).ownBlock≠some L:=fun e=>by
  rcases ho.2 with ⟨e2,_⟩ | ⟨gg,cap,cur,e2,_,hh,_⟩
  ·rw [e2] at e;cases e
  ·rw [e2] at e
   obtain rfl:gg=L:=by injection e
   rw [hh] at h1;injection h1 with h1;injection h1 with _ h1;cases h1
 obtain ⟨W,hW⟩:∃ W,W=((((w.setCell ⟨L,2,none⟩ (.int .u64 g1)).setCell ⟨L,3,none⟩ (.int .i64 nb)).setCell ⟨L,4,none⟩ (.slice A bs.length c)).setCell ⟨L,5,none⟩ (.int .i64 bs.length)):=⟨_,rfl⟩
 have hL:W.heap[L]?=some (.cells #[.pointer (some ⟨D,0,none⟩),.int .i64 r,.int .u64 g1,.int .i64 nb,.slice A bs.length c,.int .i64 bs.length] 194 (0,0)):=by
  rw [hW,heap_setCell_same _ _ 5 _ _ _ (heap_setCell_same _ _ 4 _ _ _ (heap_setCell_same _ _ 3 _ _ _ (heap_setCell_same _ _ 2 _ _ _ h1)))];rfl
 have hoth:∀ k,k≠L->W.heap[k]?=w.heap[k]?:=fun k hk=>by
  rw [hW,heap_setCell_other _ _ _ _ hk,heap_setCell_other _ _ _ _ hk,heap_setCell_other _ _ _ _ hk,heap_setCell_other _ _ _ _ hk]
 rw [<- hW]
 have hoW:=zi ho fun k hk=>hoth k (fun e=>hne (by rw [hk,e]))
 refine ⟨⟨_,hL,.inl (qT hoW (Nat.zero_le _)),fun k hk=>.inr hk⟩,.inl rfl,?_,?_⟩
 ·rintro k (rfl | hk)
  ·exact zd hL
  ·exact (hoW.lt k hk).2
 ·rintro k (rfl | hk)
  ·rw [zc hL];simp
  ·rw [own_tag hoW hk];simp
theorem zjv {cur:Nat->Nat->List UInt8} {r g1 nb:Nat} {bs:List UInt8} (hb:bs.length<=14336) (hbk:nb<=1) :
  jN (vq (yY (yb cur r (2+nb*256) (2+nb*256+256)) r nb g1 bs (0 / 56) ((bs.length+55) / 56)) (r:Int).toNat (1:Int).toNat (jc (zz 4 g1++zz 1 nb)) r) g1 nb bs /\
  Zj cur (vq (yY (yb cur r (2+nb*256) (2+nb*256+256)) r nb g1 bs (0 / 56) ((bs.length+55) / 56)) (r:Int).toNat (1:Int).toNat (jc (zz 4 g1++zz 1 nb))) r:=by
 simp only [Int.toNat_natCast,show (1:Int).toNat=1 from rfl]
 refine ⟨⟨?_,fun s hs2=>?_⟩,fun r' q h0=>?_⟩
 ·unfold vq;simp only [zf]
 ·unfold vq;simp only [zf]
  rw [zm _ _ (by omega)]
  unfold yY;simp only [zf]
  by_cases e:2+nb*256+0 / 56<=2+nb*256+s/\2+nb*256+s<2+nb*256+(bs.length+55) / 56
  ·rw [if_pos e,if_pos (by omega),show 2+nb*256+s-(2+nb*256)=s by omega]
  ·rw [if_neg e,if_neg (by omega)]
   unfold yb;simp only [zf]
   rw [if_pos (by omega)]
 ·unfold vq
  by_cases e:r'=r
  ·subst e
   simp only [zf]
   rw [zm _ _ (by omega)]
   unfold yY;simp only [zf]
   rw [if_neg (by omega)]
   unfold yb;simp only [zf]
   rw [if_neg (by omega)]
  ·simp only [zm _ _ e]
   unfold yY;simp only [zm _ _ e]
   unfold yb;simp only [zm _ _ e]
theorem zka (x:zI) (w:World) (h:x.ok) (hd:x.dirty=[]):Calls Tryz.prog 106 #[.agg (qI x).toArray] w fun e w'=>e=.returned (.bool true)/\Below w.heap.size w w':=by
 have:=KK x none 0 w h
 rw [hd] at this
 exact this
theorem zhX (x:zI) (w:World) (h:x.ok) (hd:x.dirty=[]):Calls Tryz.prog 107 #[.agg (qI x).toArray] w fun e w'=>∃ v,e=.returned v/\w'.ownsRow w.heap.size 5 1 v (qu x).length (zo (qu x))/\Below w.heap.size w w' :=
 zas x (.slice none 0 0) w h (by rw [hd];exact vE.nil w)
theorem zbt (D:Nat) (F FL:Nat->Prop) (cur:Nat->Nat->List UInt8) (L r gen bank:Nat) (b:List UInt8) (sure:Nat) (v:Value) (rs:List zI) (w:World) (hL:qH w L D r gen bank b sure FL) (hD:qr w D F cur)
  (hv:w.ownsRow 0 144 8 v rs.length (jf rs)) (hok:∀ x,x∈rs->x.ok/\x.dirty=[]) (hrs:rs.length<=1000) (hfit:(zp rs).length<=14336) (hr:r<4) (hbank:bank<=1) (hgen:gen+1<4294967296) :
  Calls Tryz.prog 70 #[.pointer (some ⟨L,0,none⟩),v] w fun e w'=>e=.returned (.int .i64 0)/\∃ F' FL' cur',qH w' L D r (gen+1) (1-bank) (zp rs) (zp rs).length FL'/\qr w' D F' cur'/\jN (cur' r) (gen+1) (1-bank) (zp rs)/\Zj cur cur' r/\zr (Gn FL F) w w'/\qh w F F'/\qh w FL FL':=by
 obtain ⟨A,c,rfl⟩:=own_slice hv
 obtain ⟨vb,hvb,hrow,hvF⟩:=hL.ex
 obtain ⟨Ab,cb,rfl⟩:=hrow.slice
 have k3:=(cell_of_row w L 3 _ _ _ hvb).trans (show _=some (Value.int .i64 bank) from rfl)
 have hk0:(0:Int)<=(bank:Int):=by omega
 have hk1:(bank:Int)<=1:=by omega
 obtain ⟨g1,hg1⟩:∃ g1,g1=gen+1:=⟨_,rfl⟩
 rw [<- hg1] at hgen ⊢
 have hgi:(gen:Int)+1=(g1:Int):=by omega
 have hgl:(gen:Int)<4294967295:=by omega
 clear hg1
 have k2:=(cell_of_row w L 2 _ _ _ hvb).trans (show _=some (Value.int .u64 gen) from rfl)
 obtain ⟨nb,hnb⟩:∃ nb:Nat,nb=1-bank:=⟨_,rfl⟩
 have hnbi:(1:Int)-(bank:Int)=(nb:Int):=by omega
 have hnb0:(0:Int)<=(nb:Int):=by omega
 have hnb1:(nb:Int)<=1:=by omega
 have hnb2:nb<=1:=by omega
 rw [<- hnb]
 clear hnb
 obtain ⟨HL,HD,HV,HVB,HOK⟩:=zi5 hL hD hv hvb hok
 clear hL hD hv hvb hrow hvF hok
 go_enter Tryz.func70,Tryz.ntmps70
 go_wp2_with fail
 go_loopw [6,21] (fun v u wr=>∃ j:Nat,j<=rs.length/\u=.int .i64 j/\wr.ownsRow w.heap.size 5 1 v (zp (rs.take j)).length (zo (zp (rs.take j)))/\Below w.heap.size w wr) (fun _ u _=>((rs.length:Int)-intOf u).toNat)
 case atStart=>exact ⟨0,by omega,rfl,World.ownsRow_nil _ _ _ _,Below.refl _ _⟩
 case round =>
  obtain ⟨j,hj,rfl,hown,hbl⟩:=hrel
  by_cases hlt:j<rs.length
  ·obtain ⟨x,hx⟩:∃ x,rs[j]?=some x:=⟨_,List.getElem?_eq_getElem hlt⟩
   obtain ⟨hxo,hxd⟩:=HOK.out x (List.mem_of_getElem? hx)
   have hvr:=zi HV.out fun k hk=>hbl.block k (HV.out.lt k hk).2
   obtain ⟨g,c',e,_,hg⟩:=hvr.form (by omega)
   injection e with e1 e2 e3
   subst e1
   clear e2 e3
   have hrange:wr.rangeAt g (j*8) (qI x):=fun i u hu=>by
    have:=hvr.cells (g:=g) rfl _ _ (KL rs j x hx i u hu)
    rw [Addr.add_mid,Nat.zero_add] at this
    exact this
   have hj0:(0:Int)<=(j:Int):=by omega
   have hj1:(j:Int)<(rs.length:Int):=by omega
   have htake:=QN rs j
   obtain ⟨HX,HXO,HXD,HRG,HOW,HBL⟩:=zi6 hx hxo hxd hrange hown hbl
   clear hx hxo hxd hrange hown hbl hvr
   have hE:=zk wr (.cells (qI x).toArray 144) rfl
   have HE:=hid hE
   clear hE
   go_upto_region 6 with (first
    | (show wpList _ _ _ (⟨some 24,_,_,_,_,_⟩::_) _ _;refine wpList_load_mid (op:=⟨some 24,_,_,_,_,_⟩) rfl 144 (.tmp 23) rfl g (j*8) (by rfl) (qI x) _ HRG.out Tryz.underlying144 rfl (by kernel_rfl) ?_)
    | (show wpList _ _ _ (⟨none,.store 144 (.tmp 8) (.tmp 24),_,_,_,_⟩::_) _ _;refine zN rfl 144 (.tmp 8) (.tmp 24) rfl wr.heap.size rfl _ (qI x).toArray (by rfl) (by rfl) (by kernel_rfl) (by rfl) (by simp [qI,Value.oneCell']) ?_))
   go_upto_region 8 with (first
    | (show wpList _ _ _ (⟨some 25,_,_,_,_,_⟩::_) _ _;refine wpList_load_row rfl 144 (.tmp 8) rfl wr.heap.size (by rfl) 144 _ (0,0) _ HE.out Tryz.underlying144 rfl (by kernel_rfl) ?_)
    | (go_at_call 106;(with_reducible refine (zka x _ HXO.out HXD.out).mono ?_);rintro e1 w1 ⟨rfl,hb1⟩;have HB1:=hid hb1;clear hb1))
   have hE1:=zb HE.out HB1.out (by simp)
   have hbw1:=B_call (B_alloc (Below.refl wr.heap.size wr) (.cells (qI x).toArray 144)) HB1.out
   have hO1:=zi HOW.out fun k hk=>hbw1.block k (HOW.out.lt k hk).2
   obtain ⟨HE1,HO1,HBW1⟩:=zi3 hE1 hO1 hbw1
   clear hE1 hO1 hbw1
   obtain ⟨pb,hpb⟩:∃ l,l=zp (rs.take j):=⟨_,rfl⟩
   rw [<- hpb] at htake
   have HPB:=hid hpb
   have HO1':Hid (w1.ownsRow w.heap.size 5 1 u6 pb.length (zo pb)):=hid (by rw [hpb];exact HO1.out)
   have hxle:=yM HXO.out
   obtain ⟨xb,hxb⟩:∃ l,l=qu x:=⟨_,rfl⟩
   rw [<- hxb] at hxle
   have HXB:=hid hxb
   clear hpb HO1 hxb
   go_wp2_with (first
    | (show wpList _ _ _ (⟨some 29,_,_,_,_,_⟩::_) _ _;refine wpList_load_row rfl 144 (.tmp 8) rfl wr.heap.size (by rfl) 144 _ (0,0) _ HE1.out Tryz.underlying144 rfl (by kernel_rfl) ?_)
    | (go_at_call 107;(with_reducible refine (zhX x w1 HXO.out HXD.out).mono ?_);rintro e1 w2 ⟨v2,rfl,hown2,hb2⟩;rw [<- HXB.out] at hown2;obtain ⟨A2,c2,rfl⟩:=own_slice hown2;have HB2:=hid hb2;have HRD2:=hid (zx.of_own hown2);have HO2:=hid (zi HO1'.out fun k hk=>hb2.block k (HO1'.out.lt k hk).2);clear hb2 hown2)
    | (show wpList _ _ _ (⟨some 31,_,_,_,_,_⟩::_) _ _;refine qW rfl (.tmp 28) (.tmp 30) 29 5 1 1 rfl Tryz.underlying29 uD (by omega) u6 pb.length (zo pb) w.heap.size (by rfl) HO2.out A2 xb.length c2 (zo xb) w2.heap.size (by rfl) HRD2.out (jb _) (by omega) (by omega) (Nat.le_trans HBL.out.size (Nat.le_trans HBW1.out.size HB2.out.size)) ?_;intro v3 w3 hown3 hg3 hat3;rw [<- jF] at hown3;obtain ⟨HO3,HG3⟩:=zi2 hown3 hg3;clear hown3 hg3 hat3))
   go_roundw
   case rel =>
    have hb2':=B_call (B_call HBL.out HBW1.out) HB2.out
    refine ⟨j+1,by omega,by go_num,?_,jL hb2' HO2.out HG3.out⟩
    rw [zat rs j x HX.out,<- HPB.out,<- HXB.out,List.length_append]
    exact HO3.out
   case measure=>simp [intOf];omega
  ·obtain rfl:j=rs.length:=by omega
   rw [List.take_length] at hown
   obtain ⟨bs,hbs⟩:∃ l,l=zp rs:=⟨_,rfl⟩
   rw [<- hbs] at hown hfit
   have HBS:=hid hbs
   obtain ⟨A6,c6,rfl⟩:=own_slice hown
   have hd:decide ((14336:Int)<(bs.length:Int))=false:=by simp;omega
   have hLr:=HL.out.below hbl
   have hDr:qr wr D F cur:=HD.out.below hbl
   have hVr:=zb HVB.out hbl (zd HVB.out)
   obtain ⟨HLR,HDR,HOW,HBL⟩:=zi4 hLr hDr hown hbl
   have hS:wr.drew.cell? ⟨L,0,none⟩=some (.pointer (some ⟨D,0,none⟩))/\wr.drew.cell? ⟨L,1,none⟩=some (.int .i64 r):=⟨cell_of_row wr L 0 _ _ _ hVr,cell_of_row wr L 1 _ _ _ hVr⟩
   have HVR:=hid hVr
   have m1:IntKind.i64.wrap (2+(nb:Int)*256+256)=((2+nb*256+256:Nat):Int):=by rw [IntKind.wrap_i64];omega
   clear hLr hDr hVr hown hbl hbs
   go_upto_region 12 with fail
   refine wp_region_noPanic ?_
   refine PrintLast.start_ (n:=15) (S:=(fun w'=>w'.cell? ⟨L,0,none⟩=some (.pointer (some ⟨D,0,none⟩))/\w'.cell? ⟨L,1,none⟩=some (.int .i64 r))) (ds:=[13]) (bA 15 0) (by kernel_rfl) rfl (by kernel_rfl) hS (fun hHeld=>?_)
   refine pu 0 36 15 1 rfl rfl ?_
   refine pu 1 37 15 3 rfl rfl ?_
   refine pu 2 38 15 7 rfl rfl ?_
   refine tq 3 39 15 15 rfl rfl ?_
   refine pu 4 40 15 31 rfl rfl ?_
   refine pu 5 41 15 63 rfl rfl ?_
   refine pu 6 42 15 127 rfl rfl ?_
   refine tq 7 43 15 255 rfl rfl ?_
   refine pu 8 44 15 511 rfl rfl ?_
   refine pu 10 46 15 1535 rfl rfl ?_
   refine on 9 15 2047 (some 45) rfl rfl (fun K hK=>?_)
   show Oper.wp _ ⟨some 45,_,_,_,_,_⟩ _ _ _ _
   refine zq 111 _ _ [.int .i64 nb] rfl (by kernel_rfl) (by rfl) ((Zl nb wr.drew hnb0 hnb1).mono ?_)
   rintro e1 w6 ⟨rfl,rfl⟩
   refine ⟨_,rfl,?_⟩
   refine hK.out _ _ hHeld (fun hHeld=>?_)
   clear hK K
   try simp only [pS]
   refine on 11 15 4095 (some 47) rfl rfl (fun K hK=>?_)
   show Oper.wp _ ⟨some 47,_,_,_,_,_⟩ _ _ _ _
   refine zq 111 _ _ [.int .i64 nb] rfl (by kernel_rfl) (by rfl) ((Zl nb wr.drew hnb0 hnb1).mono ?_)
   rintro e1 w6 ⟨rfl,rfl⟩
   refine ⟨_,rfl,?_⟩
   refine hK.out _ _ hHeld (fun hHeld=>?_)
   clear hK K
   try simp only [pS]
   refine pu 12 48 15 8191 rfl rfl ?_
   refine la 13 15 16383 (some 49) rfl rfl (fun K hK=>?_)
   show Oper.wp _ ⟨some 49,_,_,_,_,_⟩ _ _ _ _
   refine zq 110 _ _ [.pointer (some ⟨D,0,none⟩),.int .i64 r,.int .i64 ((2+nb*256:Nat):Int),.int .i64 ((2+nb*256+256:Nat):Int)] rfl (by kernel_rfl) (by rfl) ((GS D F cur (fun _=>0) r (2+nb*256) (2+nb*256+256) wr.drew (zv.drew HDR.out) hr (by omega) (by omega)).mono ?_)
   rintro e1 w7 ⟨rfl,F7,hD7,hK7,hN7⟩
   refine ⟨_,rfl,?_⟩
   refine hK.out _ _ ?_
   clear hK K
   try simp only [pS]
   refine pu 14 9 15 32767 rfl rfl ?_
   refine PrintLast.done_ (by kernel_rfl) ?_
   refine NoPanic.normal ?_
   have hL7:=(HLR.out.same (w':=wr.drew) (fun _ _=>rfl) (Nat.le_refl _)).keep hK7 (fun k hk=>uv HLR.out HDR.out k hk)
   have hLF:∀ k,FL k->¬ F k:=fun k hk=>uv HLR.out HDR.out k hk
   have hb6:∀ k,(Value.slice A6 bs.length c6).ownBlock=some k->¬ F7 k:=fun k hk e=>by
    have h1:=HOW.out.lt k hk
    rcases hN7 k e with h2 | h2
    ·have:=HD.out.lt k h2;omega
    ·have h3:wr.drew.heap.size=wr.heap.size:=rfl
     omega
   have hb7:ze w7 (.slice A6 bs.length c6) bs:=by
    refine ze.of_own rfl (zi (show wr.drew.ownsRow _ _ _ _ _ _ from HOW.out) fun k hk=>hK7.block k (HOW.out.lt k hk).2 (fun e=>?_))
    have:=HD.out.lt k e;have:=(HOW.out.lt k hk).1;omega
   have hV7:=qj (show wr.drew.heap[L]?=_ from HVR.out) hK7 (hLF L HL.out.fL)
   have e2:=(cell_of_row w7 L 2 _ _ _ hV7).trans (show _=some (Value.int .u64 gen) from rfl)
   obtain ⟨HL7,HB7,HBF7,HV7⟩:=zi4 hL7 hb7 hb6 hV7
   have HD7:=hid (qr.of hD7)
   obtain ⟨HK7,HN7,HLF⟩:=zi3 hK7 hN7 hLF
   have hlay:=zer D F7 _ (fun _=>0) L r nb g1 _ _ _ _ (.slice A6 bs.length c6) bs 0 w7 HD7.out HV7.out HB7.out HBF7.out hr hnb2 hgen hfit (by omega) (by omega)
   rw [show ((0:Nat):Int)=0 from rfl] at hlay
   have HLAY:=hid hlay
   clear hL7 hb7 hb6 hV7 hD7 hK7 hN7 hLF hS hHeld m1 hlay
   go_upto_region 18 with (go_at_call 109;(with_reducible refine HLAY.out.mono ?_);rintro e1 w8 ⟨rfl,F8,hD8,hK8,hN8⟩)
   have hLF7:∀ k,FL k->¬ F7 k:=fun k hk e=>(HN7.out k e).elim (HLF.out k hk) (fun h=>by have:=HL.out.lt k hk;have h3:wr.drew.heap.size=wr.heap.size:=rfl;have:=HBL.out.size;omega)
   have hL8:=HL7.out.keep hK8 hLF7
   have hV8:=qj HV7.out hK8 (hLF7 L HL.out.fL)
   have hO8:w8.ownsRow w.heap.size 5 1 (.slice A6 bs.length c6) bs.length (zo bs):=zi (zi (show wr.drew.ownsRow _ _ _ _ _ _ from HOW.out) fun k hk=>HK7.out.block k (HOW.out.lt k hk).2 (fun e=>by
    have:=HD.out.lt k e;have:=(HOW.out.lt k hk).1;omega)) fun k hk=>hK8.block k (Nat.lt_of_lt_of_le (HOW.out.lt k hk).2 HK7.out.size) (HBF7.out k hk)
   have e2':=(cell_of_row w8 L 2 _ _ _ hV8).trans (show _=some (Value.int .u64 gen) from rfl)
   have hgn:ze w8 (.slice none 0 0) []:=⟨none,0,rfl,(zx.none_:zx w8 w8.heap.size 1 none 0 []),Nat.le_refl _,by unfold maxLen;omega⟩
   have mnb:IntKind.u64.wrap (nb:Int)=nb:=jW _ (by omega)
   obtain ⟨HL8,HV8,HO8,HGN⟩:=zi4 hL8 hV8 hO8 hgn
   have HD8:=hid (qr.of hD8)
   obtain ⟨HK8,HN8,HLF7⟩:=zi3 hK8 hN8 hLF7
   clear hL8 hV8 hO8 hgn hD8 hK8 hN8 e2 hLF7
   go_upto_region 19 with (first
    | (go_at_call 59;(with_reducible refine (yF (.slice none 0 0) [] 4 g1 w8 HGN.out (by omega) (by omega) (by simp)).mono ?_);rintro e1 w9 ⟨v9,rfl,hown9,hb9⟩;simp only [show (4:Int).toNat=4 from rfl,List.nil_append,List.length_nil,Nat.zero_add] at hown9;have HB9:=hid hb9;have HI9:=hid (ze.of_own (by rw [zA]) hown9);clear hb9 hown9)
    | (go_at_call 59;(with_reducible refine (yF v9 (zz 4 g1) 1 nb w9 HI9.out (by omega) (by omega) (by rw [zA];omega)).mono ?_);rintro e1 w10 ⟨v10,rfl,hown10,hb10⟩;simp only [show (1:Int).toNat=1 from rfl,zA] at hown10;have HB10:=hid hb10;have HI10:=hid (ze.of_own (by simp [zA]) hown10);clear hb10 hown10))
   have hb810:=B_call HB9.out HB10.out
   have hV10:=zb HV8.out hb810 (zd HV8.out)
   have hS:w10.drew.cell? ⟨L,0,none⟩=some (.pointer (some ⟨D,0,none⟩))/\w10.drew.cell? ⟨L,1,none⟩=some (.int .i64 r):=⟨cell_of_row w10 L 0 _ _ _ hV10,cell_of_row w10 L 1 _ _ _ hV10⟩
   have hr0:(0:Int)<=(r:Int):=by omega
   have hr4:(r:Int)<4:=by omega
   have HB810:=hid hb810
   clear hb810 hV10
   refine wp_region_noPanic ?_
   refine PrintLast.start_ (n:=11) (S:=(fun w'=>w'.cell? ⟨L,0,none⟩=some (.pointer (some ⟨D,0,none⟩))/\w'.cell? ⟨L,1,none⟩=some (.int .i64 r))) (ds:=[9]) (bA 11 0) (by kernel_rfl) rfl (by kernel_rfl) hS (fun hHeld=>?_)
   refine pu 0 74 11 1 rfl rfl ?_
   refine pu 1 75 11 3 rfl rfl ?_
   refine pu 2 76 11 7 rfl rfl ?_
   refine tq 3 77 11 15 rfl rfl ?_
   refine pu 4 78 11 31 rfl rfl ?_
   refine pu 5 79 11 63 rfl rfl ?_
   refine pu 6 80 11 127 rfl rfl ?_
   refine tq 7 81 11 255 rfl rfl ?_
   refine pu 8 82 11 511 rfl rfl ?_
   refine la 9 11 1023 (some 83) rfl rfl (fun K hK=>?_)
   show Oper.wp _ ⟨some 83,_,_,_,_,_⟩ _ _ _ _
   refine zq 97 _ _ [.pointer (some ⟨D,0,none⟩),.int .i64 r,.int .i64 1,v10] rfl (by kernel_rfl) (by rfl) ((Qx D F8 _ (fun _=>0) r 1 v10 _ w10.drew ((HD8.out.below HB810.out).drew) hr0 hr4 (by omega) (by omega) HI10.out.drew (by simp [zA]) (by omega)).mono ?_)
   rintro e1 w11 ⟨rfl,F11,hD11,hK11,hN11⟩
   refine ⟨_,rfl,?_⟩
   refine hK.out _ _ ?_
   clear hK K
   try simp only [pS]
   refine pu 10 12 11 2047 rfl rfl ?_
   refine PrintLast.done_ (by kernel_rfl) ?_
   refine NoPanic.normal ?_
   have hLF8:∀ k,FL k->¬ F8 k:=fun k hk e=>(HN8.out k e).elim (HLF7.out k hk) (fun h=>by have:=HL.out.lt k hk;have h3:wr.drew.heap.size=wr.heap.size:=rfl;have:=HBL.out.size;have:=HK7.out.size;omega)
   have hL11:=(((HL8.out.below HB810.out).same (w':=w10.drew) (fun _ _=>rfl) (Nat.le_refl _))).keep hK11 hLF8
   have hV11:=qj (show w10.drew.heap[L]?=_ from zb HV8.out HB810.out.drew (zd HV8.out)) hK11 (hLF8 L HL.out.fL)
   have hO11:w11.ownsRow w.heap.size 5 1 (.slice A6 bs.length c6) bs.length (zo bs):=zi (zi HO8.out fun k hk=>HB810.out.block k (HO8.out.lt k hk).2) fun k hk=>hK11.block k (Nat.lt_of_lt_of_le (HO8.out.lt k hk).2 HB810.out.size) (fun e=>(HN8.out k e).elim (HBF7.out k hk) (fun h=>by
    have h1:=(HOW.out.lt k hk).2
    have h3:wr.drew.heap.size=wr.heap.size:=rfl
    have:=HK7.out.size;omega))
   obtain ⟨HL11,HV11,HO11,HD11,HK11,HN11,HLF8⟩:=zi7 hL11 hV11 hO11 hD11 hK11 hN11 hLF8
   clear hL11 hV11 hO11 hD11 hK11 hN11 hLF8 hS hHeld
   go_upto_region 22 with fail
   have hS:w11.drew.cell? ⟨L,0,none⟩=some (.pointer (some ⟨D,0,none⟩))/\w11.drew.cell? ⟨L,1,none⟩=some (.int .i64 r):=⟨cell_of_row w11 L 0 _ _ _ HV11.out,cell_of_row w11 L 1 _ _ _ HV11.out⟩
   refine wp_region_noPanic ?_
   refine PrintLast.start_ (n:=10) (S:=(fun w'=>w'.cell? ⟨L,0,none⟩=some (.pointer (some ⟨D,0,none⟩))/\w'.cell? ⟨L,1,none⟩=some (.int .i64 r))) (ds:=[8]) (bA 10 0) (by kernel_rfl) rfl (by kernel_rfl) hS (fun hHeld=>?_)
   refine pu 0 87 10 1 rfl rfl ?_
   refine pu 1 88 10 3 rfl rfl ?_
   refine pu 2 89 10 7 rfl rfl ?_
   refine tq 3 90 10 15 rfl rfl ?_
   refine pu 4 91 10 31 rfl rfl ?_
   refine pu 5 92 10 63 rfl rfl ?_
   refine pu 6 93 10 127 rfl rfl ?_
   refine tq 7 94 10 255 rfl rfl ?_
   refine la 8 10 511 (some 95) rfl rfl (fun K hK=>?_)
   show Oper.wp _ ⟨some 95,_,_,_,_,_⟩ _ _ _ _
   refine zq 98 _ _ [.pointer (some ⟨D,0,none⟩),.int .i64 r] rfl (by kernel_rfl) (by rfl) ((ud D F11 _ _ r w11.drew (zv.drew HD11.out) hr0 hr4 (by simp [QV,zf])).mono ?_)
   rintro e1 w12 ⟨rfl,hD12,hK12⟩
   refine ⟨_,rfl,?_⟩
   refine hK.out _ _ ?_
   clear hK K
   try simp only [pS]
   refine pu 9 13 10 1023 rfl rfl ?_
   refine PrintLast.done_ (by kernel_rfl) ?_
   refine NoPanic.normal ?_
   have hLF11:∀ k,FL k->¬ F11 k:=fun k hk e=>(HN11.out k e).elim (HLF8.out k hk) (fun h=>by have:=HL11.out.lt k hk;have h3:w10.drew.heap.size=w10.heap.size:=rfl;have:=HL8.out.lt k hk;have:=HB810.out.size;omega)
   have hL12:=((HL11.out.same (w':=w11.drew) (fun _ _=>rfl) (Nat.le_refl _))).keep hK12 hLF11
   have hV12:=qj (show w11.drew.heap[L]?=_ from HV11.out) hK12 (hLF11 L HL.out.fL)
   have hO12:w12.ownsRow w.heap.size 5 1 (.slice A6 bs.length c6) bs.length (zo bs):=zi (show w11.drew.ownsRow _ _ _ _ _ _ from HO11.out) fun k hk=>hK12.block k (HO11.out.lt k hk).2 (fun e=>(HN11.out k e).elim (fun e=>(HN8.out k e).elim (HBF7.out k hk) (fun h=>by
    have h1:=(HOW.out.lt k hk).2
    have h3:wr.drew.heap.size=wr.heap.size:=rfl
    have:=HK7.out.size;omega)) (fun h=>by
    have h1:=(HO8.out.lt k hk).2
    have h3:w10.drew.heap.size=w10.heap.size:=rfl
    have:=HB810.out.size;omega))
   have t2:=(cell_of_row w12 L 2 _ _ _ hV12).trans (show _=some (Value.int .u64 gen) from rfl)
   have t3:=(cell_of_row w12 L 3 _ _ _ hV12).trans (show _=some (Value.int .i64 bank) from rfl)
   have t4:=(cell_of_row w12 L 4 _ _ _ hV12).trans (show _=some (Value.slice Ab b.length cb) from rfl)
   have t5:=(cell_of_row w12 L 5 _ _ _ hV12).trans (show _=some (Value.int .i64 sure) from rfl)
   have f2:=frozen_of_row w12 L 2 _ _ hV12
   have f3:=frozen_of_row w12 L 3 _ _ hV12
   have f4:=frozen_of_row w12 L 4 _ _ hV12
   have f5:=frozen_of_row w12 L 5 _ _ hV12
   obtain ⟨HL12,HO12,HD12,HK12,HLF11⟩:=zi5 hL12 hO12 hD12 hK12 hLF11
   clear hL12 hV12 hO12 hD12 hK12 hLF11 hS hHeld e2'
   go_wp2_with fail
   go_ret
   have hLfin:=zdK (g1:=g1) (nb:=nb) HL12.out HO12.out
   have z0:w.heap.size<=wr.drew.heap.size:=HBL.out.size
   have z7:w.heap.size<=w7.heap.size:=Nat.le_trans z0 HK7.out.size
   have z8:w.heap.size<=w8.heap.size:=Nat.le_trans z7 HK8.out.size
   have z10:w.heap.size<=w10.drew.heap.size:=Nat.le_trans z8 HB810.out.size
   have n7:qh w F F7:=qh.mono HN7.out z0
   have n8:qh w F F8:=n7.trans HN8.out z7
   have n11:qh w F F11:=n8.trans HN11.out z10
   have kk:zr F w w12:=(((((zr.of_below HBL.out.drew).next HK7.out (qh.refl _ _)).next HK8.out n7).call HB810.out).drew.next HK11.out n8).drew.next HK12.out n11
   have hdq:∀ x,F11 x->x≠L:=fun x hx e=>HLF11.out L HL.out.fL (by rw [<- e];exact hx)
   have hcnt:qr w12 D F11 _:=zv.mono HD12.out fun r' hr'=>by
    simp only [Int.toNat_natCast,QV]
    by_cases e:r'=r
    ·subst e;simp only [zf];exact Nat.le_refl _
    ·simp only [zm _ _ e];exact Nat.le_refl _
   have hon:=zjv (cur:=cur) (r:=r) (g1:=g1) (nb:=nb) hfit hnb2
   rw [<- HBS.out]
   refine ⟨rfl,F11,_,_,hLfin,zv.same hcnt (fun x hx=>?_) (by simp),hon.1,hon.2,?_,n11,?_⟩
   ·rw [heap_setCell_other _ _ _ _ (hdq x hx),heap_setCell_other _ _ _ _ (hdq x hx),heap_setCell_other _ _ _ _ (hdq x hx),heap_setCell_other _ _ _ _ (hdq x hx)]
   ·have k2:zr (Gn FL F) w w12:=kk.mono fun x h=>.inl (.inr h)
    exact (((k2.set (p:=⟨L,2,none⟩) (.inl (.inl HL.out.fL)) _).set (p:=⟨L,3,none⟩) (.inl (.inl HL.out.fL)) _).set (p:=⟨L,4,none⟩) (.inl (.inl HL.out.fL)) _).set (p:=⟨L,5,none⟩) (.inl (.inl HL.out.fL)) _
   ·rintro k (rfl | hk)
    ·exact .inl HL.out.fL
    ·exact .inr (HOW.out.lt k hk).1
def qo:zI:=⟨1,0,0,0,none,none,[],[]⟩
theorem vT:qo.ok:=⟨by decide,by decide,by decide,by decide,by decide,trivial,trivial,.inl rfl,.inl rfl,fun d hd=>by cases hd⟩
theorem zaO {w:World} {xs:List Value} {e s n:Nat} (hn:xs.length=n*s) (hm:n<=maxLen):(w.alloc (.cells xs.toArray e)).ownsRow w.heap.size e s (.slice (some ⟨w.heap.size,0,none⟩) n n) n xs :=
 ⟨hn,.inr ⟨w.heap.size,n,xs.toArray,rfl,Nat.le_refl _,zk w _ rfl,Nat.le_refl _,hm,by simpa using hn,by rw [<- hn];simp⟩⟩
theorem zin (D:Nat) (F:Nat->Prop) (cur:Nat->Nat->List UInt8) (r:Nat) (w:World) (hD:qr w D F cur) (hr:r<4) :
  Calls Tryz.prog 86 #[.pointer (some ⟨D,0,none⟩),.int .i64 r] w fun e w'=>∃ L F' FL cur',e=.returned (.tuple #[.pointer (some ⟨L,0,none⟩),.int .i64 0])/\qH w' L D r 1 0 (qu qo) (qu qo).length FL/\qr w' D F' cur' /\
   jN (cur' r) 1 0 (qu qo)/\Zj cur cur' r/\zr F w w'/\qh w F F'/\∀ k,FL k->w.heap.size<=k:=by
 obtain ⟨wl,hwl⟩:∃ wl,wl=(w.alloc (.cells #[.pointer (some ⟨D,0,none⟩),.int .i64 r,.int .u64 0,.int .i64 1,.slice none 0 0,.int .i64 0] 194)).alloc (.cells #[.int .i64 1,.int .i64 0,.int .i64 0,.int .i64 0,.string { data:=#[] },.string { data:=#[] },.string { data:=#[] },.slice none 0 0] 144):=⟨_,rfl⟩
 have hLl:wl.heap[w.heap.size]?=some (.cells #[.pointer (some ⟨D,0,none⟩),.int .i64 r,.int .u64 0,.int .i64 1,.slice none 0 0,.int .i64 0] 194 (0,0)):=by rw [hwl];exact zy (zk _ _ rfl) _
 have hbl:Below w.heap.size w wl:=by rw [hwl];exact B_alloc (B_alloc (Below.refl _ _) _) _
 have hlane:qH wl w.heap.size D r 0 1 [] 0 (fun k=>k=w.heap.size) :=
  ⟨⟨_,hLl,.inl (World.ownsRow_nil _ _ _ _),fun k hk=>by cases hk⟩,rfl,fun k hk=>by subst hk;exact zd hLl,fun k hk=>by subst hk;rw [zc hLl];simp⟩
 have hown:wl.ownsRow 0 144 8 (.slice (some ⟨w.heap.size+1,0,none⟩) 1 1) 1 (jf [qo]):=by
  have:=zaO (w:=w.alloc (.cells #[.pointer (some ⟨D,0,none⟩),.int .i64 r,.int .u64 0,.int .i64 1,.slice none 0 0,.int .i64 0] 194)) (xs:=jf [qo]) (e:=144) (s:=8) (n:=1) rfl (by unfold maxLen;omega)
  rw [World.size_alloc] at this
  rw [hwl]
  exact qT this (Nat.zero_le _)
 have hDl:qr wl D F cur:=zv.below hD hbl
 have hb1:zp [qo]=qu qo:=by simp [zp]
 have han:=zbt D F _ cur w.heap.size r 0 1 [] 0 _ [qo] wl hlane hDl hown (fun x hx=>by simp at hx;subst hx;exact ⟨vT,rfl⟩) (by simp) (by rw [hb1];have:=yM vT;omega) hr (by omega) (by omega)
 rw [hb1] at han
 obtain ⟨HAN,HB,HD,HWL⟩:=zi4 han hbl hD hwl
 clear hLl hlane hown hDl hb1 han hbl hD hwl
 go_enter Tryz.func86,Tryz.ntmps86
 go_wp2_with (go_at_call 70;rw [<- HWL.out];(with_reducible refine HAN.out.mono ?_);rintro e1 w1 ⟨rfl,F1,FL1,cur1,hL1,hD1,hon1,hso1,hk1,hn1,hnl1⟩;have HF:=hid (And.intro hL1 (And.intro hD1 (And.intro hon1 (And.intro hso1 (And.intro hk1 (And.intro hn1 hnl1))))));clear hL1 hD1 hon1 hso1 hk1 hn1 hnl1)
 go_ret2
 obtain ⟨hL1,hD1,hon1,hso1,hk1,hn1,hnl1⟩:=HF.out
 refine ⟨_,_,_,_,rfl,hL1,hD1,hon1,hso1,(zr.of_below HB.out).trans hk1 (fun x hx=>hx.elim (fun h=>.inr (by omega)) .inl),hn1.mono HB.out.size,fun k hk=>(hnl1 k hk).elim (fun h=>by omega) (fun h=>Nat.le_trans HB.out.size h)⟩
theorem ziH (b:List UInt8) (n:Nat) (h:b.length=n):jc b=b++zs (64-n):=by rw [jc,h]
theorem zeD (gen:Nat) (p:List UInt8) (hp:p.length<=56):GR gen p=zz 4 gen++(zz 1 p.length++([0,0,0]++p++zs (56-p.length))):=by
 unfold GR jc
 simp only [List.length_append,zA,List.length_cons,List.length_nil,List.append_assoc]
 rw [show 64-(4+(1+(0+1+1+1+p.length)))=56-p.length by omega]
theorem zhg (gen:Nat) (p:List UInt8) (hp:p.length<=56):((GR gen p).drop 8).take p.length=p:=by
 rw [zeD gen p hp]
 have e:zz 4 gen++(zz 1 p.length++([0,0,0]++p++zs (56-p.length)))=(zz 4 gen++(zz 1 p.length++[0,0,0]))++(p++zs (56-p.length)):=by simp
 rw [e,List.drop_left' (by simp [zA]),List.take_left' rfl]
theorem Qq (b:List UInt8) (s:Nat):(qd b s).length=min 56 (b.length-s*56):=by simp [qd]
theorem Qu (b:List UInt8) (s:Nat):b.take (s*56)++qd b s=b.take ((s+1)*56):=by
 unfold qd
 rw [show (s+1)*56=s*56+56 by omega,List.take_add]
theorem zdL (D:Nat) (F:Nat->Prop) (cur:Nat->Nat->List UInt8) (L r gen bank:Nat) (x4 x5:Value) (b:List UInt8) (w:World) (hD:qr w D F cur)
  (hL:w.heap[L]?=some (.cells #[.pointer (some ⟨D,0,none⟩),.int .i64 r,.int .u64 gen,.int .i64 bank,x4,x5] 194 (0,0))) (hon:jN (cur r) gen bank b) (hr:r<4) (hbank:bank<=1) (hg0:0<gen) (hg:gen<4294967296) (hb:b.length<=14336) :
  Calls Tryz.prog 118 #[.pointer (some ⟨L,0,none⟩)] w fun e w'=>∃ v,e=.returned (.tuple #[v,.int .i64 0])/\w'.ownsRow w.heap.size 5 1 v b.length (zo b)/\Below w.heap.size w w':=by
 obtain ⟨HD,HL,HON⟩:=zi3 hD hL hon
 have hk0:(0:Int)<=(bank:Int):=by omega
 have hk1:(bank:Int)<=1:=by omega
 have hr0:(0:Int)<=(r:Int):=by omega
 have hr4:(r:Int)<4:=by omega
 clear hD hL hon
 go_enter Tryz.func118,Tryz.ntmps118
 go_wp2_with fail
 go_loopw [4,10] (fun v u wr=>∃ j:Nat,j<=256/\j*56<=b.length/\u=.int .i64 j/\wr.ownsRow w.heap.size 5 1 v (j*56) (zo (b.take (j*56)))/\Below w.heap.size w wr) (fun _ u _=>(256-intOf u).toNat)
 case atStart=>exact ⟨0,by omega,by omega,rfl,World.ownsRow_nil _ _ _ _,Below.refl _ _⟩
 case round =>
  obtain ⟨j,hj,hjl,rfl,hown,hbl⟩:=hrel
  by_cases hlt:j<256
  ·have hLr:=zb HL.out hbl (zd HL.out)
   have hsec:=HON.out.2 j hlt
   have hD1:qr wr D F cur:=zv.below HD.out hbl
   have hlen:=hD1.len hr (s:=2+bank*256+j) (by omega)
   rw [hsec] at hlen
   have hj0:(0:Int)<=(j:Int):=by omega
   have hj1:(j:Int)<256:=by omega
   have mj:IntKind.i64.wrap (2+(bank:Int)*256+(j:Int))=((2+bank*256+j:Nat):Int):=by rw [IntKind.wrap_i64];omega
   have hs0:(0:Int)<=((2+bank*256+j:Nat):Int):=by omega
   have hs1:((2+bank*256+j:Nat):Int)<538:=by omega
   have hS:wr.drew.cell? ⟨L,0,none⟩=some (.pointer (some ⟨D,0,none⟩))/\wr.drew.cell? ⟨L,1,none⟩=some (.int .i64 r)/\wr.drew.cell? ⟨L,3,none⟩=some (.int .i64 bank):=⟨cell_of_row wr L 0 _ _ _ hLr,cell_of_row wr L 1 _ _ _ hLr,cell_of_row wr L 3 _ _ _ hLr⟩
   obtain ⟨HLR,HSEC,HD1,HOW,HBL⟩:=zi5 hLr hsec hD1 hown hbl
   obtain ⟨sb,hsb⟩:∃ sb,sb=if j*56<b.length then GR gen (qd b j) else zs 64:=⟨_,rfl⟩
   rw [<- hsb] at hlen
   have HSB:=hid hsb
   clear hLr hsec hD1 hown hbl hsb
   go_upto_region 5 with fail
   refine wp_region_noPanic ?_
   refine PrintLast.start_ (n:=21) (S:=(fun w'=>w'.cell? ⟨L,0,none⟩=some (.pointer (some ⟨D,0,none⟩))/\w'.cell? ⟨L,1,none⟩=some (.int .i64 r)/\w'.cell? ⟨L,3,none⟩=some (.int .i64 bank))) (ds:=[15]) (bA 21 0) (by kernel_rfl) rfl (by kernel_rfl) hS (fun hHeld=>?_)
   refine pu 0 14 21 1 rfl rfl ?_
   refine pu 1 15 21 3 rfl rfl ?_
   refine pu 2 16 21 7 rfl rfl ?_
   refine tq 3 17 21 15 rfl rfl ?_
   refine pu 4 18 21 31 rfl rfl ?_
   refine pu 5 19 21 63 rfl rfl ?_
   refine pu 6 20 21 127 rfl rfl ?_
   refine tq 7 21 21 255 rfl rfl ?_
   refine pu 8 22 21 511 rfl rfl ?_
   refine pu 9 23 21 1023 rfl rfl ?_
   refine pu 10 24 21 2047 rfl rfl ?_
   refine tq 11 25 21 4095 rfl rfl ?_
   refine pu 13 27 21 12287 rfl rfl ?_
   refine on 12 21 16383 (some 26) rfl rfl (fun K hK=>?_)
   show Oper.wp _ ⟨some 26,_,_,_,_,_⟩ _ _ _ _
   refine zq 111 _ _ [.int .i64 bank] rfl (by kernel_rfl) (by rfl) ((Zl bank wr.drew hk0 hk1).mono ?_)
   rintro e1 w6 ⟨rfl,rfl⟩
   refine ⟨_,rfl,?_⟩
   refine hK.out _ _ hHeld (fun hHeld=>?_)
   clear hK K
   try simp only [pS]
   refine pu 14 28 21 32767 rfl rfl ?_
   refine la 15 21 65535 (some 29) rfl rfl (fun K hK=>?_)
   show Oper.wp _ ⟨some 29,_,_,_,_,_⟩ _ _ _ _
   refine zq 117 _ _ [.pointer (some ⟨D,0,none⟩),.int .i64 r,.int .i64 ((2+bank*256+j:Nat):Int)] rfl (by kernel_rfl) (by rfl) ((ZV D F cur (fun _=>0) r ((2+bank*256+j:Nat):Int) wr.drew (zv.drew HD1.out) hr0 hr4 hs0 hs1).mono ?_)
   rintro e1 w1 ⟨v1,rfl,hown1,hb1⟩
   refine ⟨_,rfl,?_⟩
   refine hK.out _ _ ?_
   clear hK K
   try simp only [pS]
   refine pu 16 13 21 131071 rfl rfl ?_
   refine pu 17 30 21 262143 rfl rfl ?_
   refine pu 18 31 21 524287 rfl rfl ?_
   refine pu 19 6 21 1048575 rfl rfl ?_
   refine pu 20 7 21 2097151 rfl rfl ?_
   refine PrintLast.done_ (by kernel_rfl) ?_
   refine NoPanic.normal ?_
   simp only [Int.toNat_natCast] at hown1
   rw [HSEC.out,<- HSB.out] at hown1
   have hin1:=ze.of_own hlen.symm hown1
   obtain ⟨g1,c1,hform,_,hg1⟩:=hown1.form (by omega)
   obtain ⟨rfl⟩:v1=.slice (some ⟨g1,0,none⟩) 64 c1:=hform
   have HI1:=hid hin1
   have HB1:=hid (yO hb1)
   clear hown1 hb1 hS hHeld hin1 mj hs0 hs1
   have hb1w:=B_call HBL.out HB1.out
   have hLw1:=zb HLR.out HB1.out (zd HLR.out)
   have hO1:=zi HOW.out fun k hk=>HB1.out.block k (HOW.out.lt k hk).2
   obtain ⟨HB1W,HLW1,HO1⟩:=zi3 hb1w hLw1 hO1
   clear hb1w hLw1 hO1
   go_upto_region 9 with (go_at_call 51;(with_reducible refine (Je _ sb w1 HI1.out).mono ?_);rintro e1 w2 ⟨rfl,hR2,hb2⟩;obtain ⟨HR2,HB2⟩:=zi2 hR2 hb2;clear hR2 hb2)
   have hLw2:=zb HLW1.out HB2.out (zd HLW1.out)
   have hS:w2.drew.cell? ⟨L,2,none⟩=some (.int .u64 gen):=cell_of_row w2 L 2 _ _ _ hLw2
   have hnlt:=HR2.out.lt
   by_cases hcase:j*56<b.length
   ·have hpl:(qd b j).length<=56:=by rw [Qq];omega
    have hpd:(qd b j).length=min 56 (b.length-j*56):=Qq b j
    have hsb2:sb=zz 4 gen++(zz 1 (qd b j).length++([0,0,0]++qd b j++zs (56-(qd b j).length))):=by rw [HSB.out,if_pos hcase,zeD gen _ hpl]
    have hR2:jg w2 w1.heap.size (zz 4 gen++(zz 1 (qd b j).length++([0,0,0]++qd b j++zs (56-(qd b j).length)))) false:=by rw [<- hsb2];exact HR2.out
    have hz1:(zz 1 (qd b j).length++([0,0,0]++qd b j++zs (56-(qd b j).length))).length<=900000:=by simp only [List.length_append,zA,zs,List.length_replicate,List.length_cons,List.length_nil];omega
    have hz2:([0,0,0]++qd b j++zs (56-(qd b j).length)).length<=900000:=by simp only [List.length_append,zs,List.length_replicate,List.length_cons,List.length_nil];omega
    have hpart:((sb.drop 8).take (qd b j).length)=qd b j:=by rw [HSB.out,if_pos hcase];exact zhg gen _ hpl
    obtain ⟨m,hm⟩:∃ m,m=(qd b j).length:=⟨_,rfl⟩
    rw [<- hm] at hpl hpd hR2 hz1 hz2 hpart
    obtain ⟨HM,HPD⟩:=zi2 hm hpd
    have hmin:j*56+m<=b.length:=by omega
    have HR2':=hid hR2
    have HPART:=hid hpart
    have m1:¬ (56:Int)<(m:Int):=by omega
    have m2:(m:Int)<=56:=by omega
    clear hm hR2 hpart hsb2 hpd
    refine wp_region_noPanic ?_
    refine PrintLast.start_ (n:=7) (S:=(fun w'=>w'.cell? ⟨L,2,none⟩=some (.int .u64 gen))) (ds:=[]) (bA 7 0) (by kernel_rfl) rfl (by kernel_rfl) hS (fun hHeld=>?_)
    refine pu 0 37 7 1 rfl rfl ?_
    refine pu 2 39 7 5 rfl rfl ?_
    refine pu 3 40 7 13 rfl rfl ?_
    refine pu 4 41 7 29 rfl rfl ?_
    refine tq 5 42 7 61 rfl rfl ?_
    refine on 1 7 63 (some 38) rfl rfl (fun K hK=>?_)
    show Oper.wp _ ⟨some 38,_,_,_,_,_⟩ _ _ _ _
    refine zq 52 _ _ [_,.int .i64 4] rfl (by kernel_rfl) (by rfl) ((Ge w1.heap.size gen _ w2.drew (HR2'.out.same fun _ _=>rfl) hg hz1).mono ?_)
    rintro e1 w3 ⟨rfl,hR3,hg3⟩
    refine ⟨_,rfl,?_⟩
    refine hK.out _ _ (uq hHeld hg3 (fun e=>by injection e with e;have h9:=zd HLR.out;have h8:wr.heap.size<=w1.heap.size:=HB1.out.size;exact absurd (show w1.heap.size=L from e) (by omega))) (fun hHeld=>?_)
    clear hK K
    try simp only [pS]
    refine pu 6 43 7 127 rfl rfl ?_
    refine PrintLast.done_ (by kernel_rfl) ?_
    refine NoPanic.normal ?_
    obtain ⟨HR3,HG3⟩:=zi2 hR3 hg3
    clear hR3 hg3 hS hHeld
    go_upto_region 11 with (go_at_call 52;(with_reducible refine (Zn w1.heap.size m _ w3 HR3.out (by omega) hz2).mono ?_);rintro e1 w4 ⟨rfl,hR4,hg4⟩;have HG4:=hid hg4;clear hR4 hg4)
    have hbw4:Below w1.heap.size w1 w4:=(HB2.out.drew.grown HG3.out HB2.out.size (fun k hk=>by injection hk with hk;omega)).grown HG4.out (Nat.le_trans HB2.out.size HG3.out.size) (fun k hk=>by injection hk with hk;omega)
    have hin4:=(HI1.out.below hbw4).sub 8 m (by omega) (by omega)
    rw [HPART.out] at hin4
    have hO4:=zi HO1.out fun k hk=>hbw4.block k (HO1.out.lt k hk).2
    have HBW4:=hid hbw4
    have HI4:Hid (ze w4 (.slice (some ⟨g1,8,none⟩) m (c1-8)) (qd b j)):=hid hin4
    have HO4:=hid hO4
    have hc64:64<=c1:=by obtain ⟨A',c',e,_,h1,_⟩:=HI1.out;injection e with _ _ e3;rw [e3,<- hlen];exact h1
    have n1:(8:Int)<=8+(m:Int):=by omega
    have n2:(8:Int)+(m:Int)<=(c1:Int):=by omega
    have n3:¬ c1=8:=by omega
    clear hbw4 hin4 hO4
    have hstep:∀ (v5:Value) (w5:World),w5.ownsRow w.heap.size 5 1 v5 (j*56+m) (zo (b.take (j*56))++zo (qd b j))->w5.ownsRow w.heap.size 5 1 v5 (j*56+m) (zo (b.take ((j+1)*56))):=fun v5 w5 h=>by
     rw [<- jF,Qu] at h;exact h
    have HST:=hid hstep
    clear hstep
    by_cases hfull:m<56
    ·have hd:decide ((m:Int)<56)=true:=by simp;omega
     go_wp2_with (show wpList _ _ _ (⟨some 53,_,_,_,_,_⟩::_) _ _;rw [show 8+m-8=m by omega];refine qW rfl (.tmp 48) (.tmp 52) 29 5 1 1 rfl Tryz.underlying29 uD (by omega) u4 (j*56) (zo (b.take (j*56))) w.heap.size (by rfl) HO4.out (some ⟨g1,8,none⟩) m (c1-8) (zo (qd b j)) w4.heap.size (by rfl) (HI4.out.reads' HM.out) (jb _) (by omega) (by omega) (Nat.le_trans HB1W.out.size HBW4.out.size) ?_;intro v5 w5 hown5 hg5 hat5)
     go_ret2
     have h5:=HST.out _ _ hown5
     have hpd:=HPD.out
     rw [List.take_of_length_le (by omega)] at h5
     rw [show j*56+m=b.length by omega] at h5
     exact ⟨_,rfl,h5,jL (B_call HB1W.out HBW4.out) HO4.out hg5⟩
    ·have hd:decide ((m:Int)<56)=false:=by simp;omega
     go_wp2_with (show wpList _ _ _ (⟨some 53,_,_,_,_,_⟩::_) _ _;rw [show 8+m-8=m by omega];refine qW rfl (.tmp 48) (.tmp 52) 29 5 1 1 rfl Tryz.underlying29 uD (by omega) u4 (j*56) (zo (b.take (j*56))) w.heap.size (by rfl) HO4.out (some ⟨g1,8,none⟩) m (c1-8) (zo (qd b j)) w4.heap.size (by rfl) (HI4.out.reads' HM.out) (jb _) (by omega) (by omega) (Nat.le_trans HB1W.out.size HBW4.out.size) ?_;intro v5 w5 hown5 hg5 hat5)
     go_roundw
     case rel =>
      have h5:=HST.out _ _ hown5
      have hpd:=HPD.out
      rw [show j*56+m=(j+1)*56 by omega] at h5
      exact ⟨j+1,by omega,by omega,by go_num,h5,jL (B_call HB1W.out HBW4.out) HO4.out hg5⟩
     case measure=>simp [intOf];omega
   ·have hR2:jg w2 w1.heap.size (zz 4 0++zs 60) false:=by have:=HR2.out;rw [HSB.out,if_neg hcase] at this;exact this
    have hne:(((0:Nat):Int) != (gen:Int))=true:=by simp;omega
    have hne2:((0:Int) != (gen:Int))=true:=by simp;omega
    have HR2':=hid hR2
    clear hR2
    refine wp_region_noPanic ?_
    refine PrintLast.start_ (n:=7) (S:=(fun w'=>w'.cell? ⟨L,2,none⟩=some (.int .u64 gen))) (ds:=[]) (bA 7 0) (by kernel_rfl) rfl (by kernel_rfl) hS (fun hHeld=>?_)
    refine pu 0 37 7 1 rfl rfl ?_
    refine pu 2 39 7 5 rfl rfl ?_
    refine pu 3 40 7 13 rfl rfl ?_
    refine pu 4 41 7 29 rfl rfl ?_
    refine tq 5 42 7 61 rfl rfl ?_
    refine on 1 7 63 (some 38) rfl rfl (fun K hK=>?_)
    show Oper.wp _ ⟨some 38,_,_,_,_,_⟩ _ _ _ _
    refine zq 52 _ _ [_,.int .i64 4] rfl (by kernel_rfl) (by rfl) ((Ge w1.heap.size 0 _ w2.drew (HR2'.out.same fun _ _=>rfl) (by omega) (by simp [zs])).mono ?_)
    rintro e1 w3 ⟨rfl,hR3,hg3⟩
    refine ⟨_,rfl,?_⟩
    refine hK.out _ _ (uq hHeld hg3 (fun e=>by injection e with e;have h9:=zd HLR.out;have h8:wr.heap.size<=w1.heap.size:=HB1.out.size;exact absurd (show w1.heap.size=L from e) (by omega))) (fun hHeld=>?_)
    clear hK K
    try simp only [pS]
    refine pu 6 43 7 127 rfl rfl ?_
    refine PrintLast.done_ (by kernel_rfl) ?_
    refine NoPanic.normal ?_
    have HG3:=hid hg3
    clear hR3 hg3 hS hHeld
    go_wp2_with fail
    go_ret2
    have hbw3:Below w1.heap.size w1 w3:=HB2.out.drew.grown HG3.out HB2.out.size (fun k hk=>by injection hk with hk;omega)
    have h5:=zi HO1.out fun k hk=>hbw3.block k (HO1.out.lt k hk).2
    rw [List.take_of_length_le (by omega),show j*56=b.length by omega] at h5
    exact ⟨_,rfl,h5,B_call HB1W.out hbw3⟩
  ·obtain rfl:j=256:=by omega
   obtain ⟨HOW,HBL⟩:=zi2 hown hbl
   clear hown hbl
   go_wp2_with fail
   go_ret2
   have h5:=HOW.out
   rw [List.take_of_length_le (by omega),show 256*56=b.length by omega] at h5
   exact ⟨_,rfl,h5,HBL.out⟩
structure Ent where
 pl:Nat
 rc:zI
 dv:Value
def jj (e:Ent):List Value:=[.int .u64 e.pl,.int .i64 e.rc.kind,.int .i64 e.rc.txn,.int .i64 e.rc.page,.int .i64 e.rc.slot,.string (za (zt e.rc.before)),.string (za (zt e.rc.after)),.string (za e.rc.image),e.dv]
def jo (es:List Ent):List Value:=es.flatMap jj
theorem zaJ (es:List Ent) (e:Ent):jo (es++[e])=jo es++jj e:=by simp [jo]
def qx (gen n:Nat):List zI->List (Nat × zI)
 | []=>[]
 | r::rs=>(qD gen n,r)::qx gen (n+(qu r).length) rs
theorem JL (gen:Nat) (r:zI):∀ (rs:List zI) (n:Nat),qx gen n (rs++[r])=qx gen n rs++[(qD gen (n+(zp rs).length),r)]
 | [],n=>rfl
 | x::rs,n=>by
  simp only [List.cons_append,qx,JL gen r rs,zp,List.flatMap_cons,List.length_append]
  rw [Nat.add_assoc]
structure Ya (w:World) (B:Nat) (v:Value) (es:List Ent):Prop where
 own:w.ownsRow B 167 9 v es.length (jo es)
 dirty:∀ e,e∈es->w.ownsRow B 35 1 e.dv e.rc.dirty.length (ZF e.rc.dirty)
 ok:∀ e,e∈es->e.rc.ok
def zgy (ga k:Nat):Value:=if k=0 then .slice none 0 0 else .slice (some ⟨ga,0,none⟩) k k
def lenOf:Value->Nat
 | .slice _ n _=>n
 | _=>0
theorem zga (b:Nat) (h:b<=1):bits .and .u64 (b:Int) 1=(b:Int):=by
 rcases b with _ | _ | b
 ·decide
 ·decide
 ·omega
theorem zen:yU Tryz.prog 167 9 112:=.of (by kernel_rfl)
theorem zgz (ga k:Nat):∃ A,zgy ga k=.slice A k k:=by
 unfold zgy
 by_cases h:k=0
 ·rw [if_pos h,h];exact ⟨_,rfl⟩
 ·rw [if_neg h];exact ⟨_,rfl⟩
theorem zki {w:World} {ad:Addr} {n c lo:Nat} {l:List UInt8} (h:ze w (.slice (some ad) n c) l) (hn:n=l.length) (h1:lo<=n) :
  ∃ v',(∀ W:World,(Instr.sliceAt 29 (.slice (some ad) n c) (some (.int .i64 lo)) none none).run Tryz.prog W=.ok v' W)/\ze w v' (l.drop lo):=by
 have ht:Tryz.prog.underlying 29=some (.slice (Tryz.prog.elem 29)):=by rw [Yd];exact Tryz.underlying29
 obtain ⟨A',c',e,hr,hle,hmx⟩:=id h
 injection e with e1 e2 e3
 subst e1 e3
 have hrun:∀ W:World,(Instr.sliceAt 29 (.slice (some ad) n c) (some (.int .i64 lo)) none none).run Tryz.prog W=.ok (sliced (some ad) lo n c 1) W:=fun W=>by
  rw [run_sliceAt_slice W 29 _ _ _ _ ht,run_slice_l W 29 _ _ _ ht .i64 lo (by omega) (by omega),Yd,JF]
  simp only [Result.andThen_ok,Int.toNat_natCast]
 refine ⟨_,hrun,?_⟩
 have hc:=hr.cut (k:=lo) (cap:=c) (by omega) hle
 unfold sliced
 refine ⟨_,c-lo,by rw [List.length_drop,hn],?_,by rw [List.length_drop];omega,by omega⟩
 rw [List.length_drop,<- Zi]
 simpa using hc
theorem zgQ (L gen:Nat) (x0 x1 x3 x4 x5:Value) (w:World) (n:Nat) (h:w.heap[L]?=some (.cells #[x0,x1,.int .u64 gen,x3,x4,x5] 194 (0,0))) (hg:gen<4294967296) (hn:n<=100000) :
  Calls Tryz.prog 108 #[.pointer (some ⟨L,0,none⟩),.int .i64 n] w fun e w'=>e=.returned (.int .u64 (qD gen n))/\w'=w:=by
 have k2:=(cell_of_row w L 2 _ _ _ h).trans (show _=some (Value.int .u64 gen) from rfl)
 have m1:IntKind.u64.wrap (n:Int)=n:=jW _ (by omega)
 have m2:IntKind.u64.wrap ((gen:Int)*1048576)=(gen:Int)*1048576:=by rw [IntKind.wrap_u64];omega
 have m3:IntKind.u64.wrap ((gen:Int)*1048576+n)=(gen:Int)*1048576+n:=by rw [IntKind.wrap_u64];omega
 have m4:IntKind.u64.wrap ((gen:Int)*1048576+n+1)=(gen:Int)*1048576+n+1:=by rw [IntKind.wrap_u64];omega
 clear h
 go_enter Tryz.func108,Tryz.ntmps108
 go_wp2
 go_ret
 refine ⟨?_,rfl⟩
 unfold qD
 congr 2
theorem zln (w:World) (ad:Addr) (n c hi:Nat) (h2:hi<=c) (h0:0<hi) :
  (Instr.sliceAt 29 (.slice (some ad) n c) none (some (.int .i64 hi)) (some (.int .i64 hi))).run Tryz.prog w=.ok (.slice (some ad) hi hi) w:=by
 have ht:Tryz.prog.underlying 29=some (.slice (Tryz.prog.elem 29)):=by rw [Yd];exact Tryz.underlying29
 rw [run_sliceAt_slice w 29 _ _ _ _ ht,run_slice_hm w 29 _ _ _ ht .i64 .i64 hi hi (by omega) (by omega) (by omega),Yd,JF]
 have e:ad.add (0*1)=ad:=rfl
 simp only [Result.andThen_ok,sliced,Int.toNat_natCast,Nat.sub_zero,if_neg (Nat.ne_of_gt h0),Option.map_some,e]
theorem YE (gen:Nat):∀ (rs:List zI) (n:Nat),(qx gen n rs).length=rs.length
 | [],_=>rfl
 | r::rs,n=>by simp [qx,YE gen rs]
theorem zfn (rs:List zI) (j:Nat):(zp rs).drop (zp (rs.take j)).length=zp (rs.drop j):=by
 have h:zp rs=zp (rs.take j)++zp (rs.drop j):=by
  unfold zp
  rw [<- List.flatMap_append,List.take_append_drop]
 conv=>lhs;arg 2;rw [h]
 exact List.drop_left' rfl
theorem Jj (r:zI):0<(qu r).length:=by rw [qu,List.length_append,zA];omega
theorem zgw (D:Nat) (F:Nat->Prop) (cur:Nat->Nat->List UInt8) (r gen bank:Nat) (rs:List zI) (w:World) (hD:qr w D F cur)
  (hon:jN (cur r) gen bank (zp rs)) (hok:∀ x,x∈rs->x.ok) (hr:r<4) (hbank:bank<=1) (hg0:0<gen) (hg:gen<4294967296) (hb:(zp rs).length<=14336) (hne:0<rs.length) :
  Calls Tryz.prog 78 #[.pointer (some ⟨D,0,none⟩),.int .i64 r] w fun e w'=>∃ L v F' FL es,e=.returned (.tuple #[.pointer (some ⟨L,0,none⟩),v,.int .i64 0])/\qH w' L D r gen bank (zp rs) (zp rs).length FL/\qr w' D F' cur /\
   Ya w' w.heap.size v es/\es.map (fun e=>(e.pl,e.rc))=qx gen 0 rs/\zr F w w'/\qh w F F'/\∀ k,FL k->w.heap.size<=k:=by
 have h1:=hon.1
 have hln:(zz 4 gen++zz 1 bank).length=5:=by simp [zA]
 have hhead:cur r 1=zz 4 gen++(zz 1 bank++zs 59):=by rw [h1,ziH _ 5 hln,List.append_assoc]
 have hl64:(cur r 1).length=64:=hD.len hr (by omega)
 have hr0:(0:Int)<=(r:Int):=by omega
 have hr4:(r:Int)<4:=by omega
 have hbb:=zga bank hbank
 have hge:((gen:Int) == 0)=false:=by simp;omega
 have mb:IntKind.u64.wrap (bank:Int)=bank:=jW _ (by omega)
 obtain ⟨HD,HON,HOK,HHEAD,HL64⟩:=zi5 hD hon hok hhead hl64
 clear hD hon hok h1 hln hhead hl64
 go_enter Tryz.func78,Tryz.ntmps78
 go_upto_region 4 with (go_at_call 117;(with_reducible refine (ZV D F cur (fun _=>0) r 1 w HD.out hr0 hr4 (by omega) (by omega)).mono ?_);rintro e1 w1 ⟨v1,rfl,hown1,hb1⟩;obtain ⟨HO1,HB1⟩:=zi2 hown1 hb1;clear hown1 hb1)
 have hin1:ze w1 v1 (zz 4 gen++(zz 1 bank++zs 59)):=by
  have:=HO1.out
  simp only [Int.toNat_natCast,show (1:Int).toNat=1 from rfl] at this
  rw [HHEAD.out] at this
  exact ze.of_own (by simp [zA,zs]) this
 have HI1:=hid hin1
 have hz:(zz 1 bank++zs 59).length<=900000:=by simp [zA,zs]
 have hz2:(zs 59).length<=900000:=by simp [zs]
 have hb256:bank<256:=by omega
 clear hin1
 go_upto_region 8 with (first
  | (go_at_call 51;(with_reducible refine (Je v1 _ w1 HI1.out).mono ?_);rintro e1 w2 ⟨rfl,hR2,hb2⟩;obtain ⟨HR2,HB2⟩:=zi2 hR2 hb2;clear hR2 hb2)
  | (go_at_call 52;(with_reducible refine (Ge w1.heap.size gen _ w2 HR2.out hg hz).mono ?_);rintro e1 w3 ⟨rfl,hR3,hg3⟩;obtain ⟨HR3,HG3⟩:=zi2 hR3 hg3;clear hR3 hg3)
  | (go_at_call 52;(with_reducible refine (Zn w1.heap.size bank _ w3 HR3.out hb256 hz2).mono ?_);rintro e1 w4 ⟨rfl,hR4,hg4⟩;have HG4:=hid hg4;clear hR4 hg4))
 have hb4:Below w.heap.size w w4:=by
  have h12:=B_call HB1.out HB2.out
  refine (h12.grown HG3.out h12.size (fun k hk=>?_)).grown HG4.out (Nat.le_trans h12.size HG3.out.size) (fun k hk=>?_)
  all_goals
   injection hk with hk
   rw [<- hk];exact HB1.out.size
 obtain ⟨w5,hw5⟩:∃ w5,w5=w4.alloc (.cells #[.pointer (some ⟨D,0,none⟩),.int .i64 r,.int .u64 gen,.int .i64 bank,.slice none 0 0,.int .i64 0] 194):=⟨_,rfl⟩
 have hL5:w5.heap[w4.heap.size]?=some (.cells #[.pointer (some ⟨D,0,none⟩),.int .i64 r,.int .u64 gen,.int .i64 bank,.slice none 0 0,.int .i64 0] 194 (0,0)):=by rw [hw5];exact zk _ _ rfl
 have hb5:Below w.heap.size w w5:=by rw [hw5];exact B_alloc hb4 _
 have hs5:w5.heap.size=w4.heap.size+1:=by rw [hw5];simp
 rw [<- hw5]
 obtain ⟨L,hLd⟩:∃ L,L=w4.heap.size:=⟨_,rfl⟩
 rw [<- hLd] at hL5 hs5 ⊢
 have hLw:w.heap.size<=L:=by rw [hLd];exact hb4.size
 obtain ⟨HL5,HB5⟩:=zi2 hL5 hb5
 have HD5:Hid (qr w5 D F cur):=hid (zv.below HD.out hb5)
 clear hb4 hw5 hL5 hb5 hLd HO1 HI1 HR2 HR3 HG3 HG4 HB1 HB2 hz hz2 hb256 hbb mb hge
 go_upto_region 11 with (go_at_call 118;(with_reducible refine (zdL D F cur L r gen bank _ _ (zp rs) w5 HD5.out HL5.out HON.out hr hbank hg0 hg hb).mono ?_);rintro e1 w6 ⟨vall,rfl,hall,hb6⟩;obtain ⟨HALL,HB6⟩:=zi2 hall hb6;clear hall hb6)
 go_wp2_with fail
 have hpos:0<(zp rs).length:=by
  obtain ⟨x,xs,rfl⟩:=List.exists_cons_of_length_pos hne
  simp only [zp,List.flatMap_cons,List.length_append]
  have:=Jj x;omega
 obtain ⟨ga,ca,hvall,hga0,hga1⟩:=HALL.out.form hpos
 subst hvall
 have hL6:=zb HL5.out HB6.out (zd HL5.out)
 have hb6:=B_call HB5.out HB6.out
 have htag:qp w6 ga=5:=own_tag HALL.out rfl
 obtain ⟨HTAG,HL6,HBW6⟩:=zi3 htag hL6 hb6
 clear hL6 hb6 htag
 have hga2:L<ga:=by omega
 go_loopw [12] (fun v wr=>∃ (j:Nat) (es:List Ent),j<=rs.length/\es.map (fun e=>(e.pl,e.rc))=qx gen 0 (rs.take j)/\es.length=j/\Ya wr (L+1) v es/\wr.heap[L]?=some (.cells #[.pointer (some ⟨D,0,none⟩),.int .i64 r,.int .u64 gen,.int .i64 bank,zgy ga (zp (rs.take j)).length,.int .i64 0] 194 (0,0))/\wr.heap[ga]?=w6.heap[ga]?/\Below w.heap.size w wr/\w6.heap.size<=wr.heap.size) (fun v _=>rs.length-lenOf v)
 case atStart =>
  exact ⟨0,[],by omega,rfl,rfl,⟨World.ownsRow_nil _ _ _ _,fun e he=>(by cases he),fun e he=>(by cases he)⟩,HL6.out,rfl,HBW6.out,Nat.le_refl _⟩
 case round =>
  obtain ⟨j,es,hj,hmap,hel,hes,hL,hga,hbl,hsz⟩:=hrel
  obtain ⟨k,hk⟩:∃ k,k=(zp (rs.take j)).length:=⟨_,rfl⟩
  rw [<- hk] at hL
  have hkle:k<=(zp rs).length:=by rw [hk];exact QN rs j
  obtain ⟨lA,hlA⟩:=zgz ga k
  rw [hlA] at hL
  have HLA:Hid (0<k->lA=some ⟨ga,0,none⟩):=hid (fun h=>by unfold zgy at hlA;rw [if_neg (by omega)] at hlA;injection hlA with h1;exact h1.symm)
  have k4:=(cell_of_row wr L 4 _ _ _ hL).trans (show _=some (Value.slice lA k k) from rfl)
  have hall:wr.ownsRow w5.heap.size 5 1 (.slice (some ⟨ga,0,none⟩) (zp rs).length ca) (zp rs).length (zo (zp rs)):=zi HALL.out fun x hx=>by
   obtain rfl:ga=x:=by injection hx
   exact hga
  have hbin:=ze.of_own rfl hall
  obtain ⟨vd,hrun,hin⟩:=zki hbin rfl hkle
  have hrun2:=hrun wr
  obtain ⟨HES,HL,HGA,HBL,HMAP,HIN,HK,HALLR⟩:=zi8 hes hL hga hbl hmap hin hk hall
  obtain ⟨vA,vc,rfl⟩:=own_slice hes.own
  rw [hel]
  have HEL:=hid hel
  clear hes hL hga hbl hmap hbin hin hall hrun hk hlA hel
  by_cases hlt:j<rs.length
  ·obtain ⟨x,hx⟩:∃ x,rs[j]?=some x:=⟨_,List.getElem?_eq_getElem hlt⟩
   have hxo:=HOK.out x (List.mem_of_getElem? hx)
   have hdrop:(zp rs).drop k=qu x++zp (rs.drop (j+1)):=by
    rw [HK.out,zfn,List.drop_eq_getElem_cons hlt]
    have:rs[j]=x:=(List.getElem?_eq_some_iff.1 hx).2
    rw [this];simp [zp]
   have hrest:(zp (rs.drop (j+1))).length<=800000:=by
    have h1:((zp rs).drop k).length<=14336:=by rw [List.length_drop];omega
    rw [hdrop,List.length_append] at h1;omega
   have hfit:k+(qu x).length<=(zp rs).length:=by
    have h1:((zp rs).drop k).length=(zp rs).length-k:=List.length_drop
    rw [hdrop,List.length_append] at h1;omega
   have hin2:=HIN.out
   rw [hdrop] at hin2
   obtain ⟨HIN2,HX,HXO⟩:=zi3 hin2 hx hxo
   have hxp:=Jj x
   obtain ⟨n,hn⟩:∃ n,n=(qu x).length:=⟨_,rfl⟩
   have HN:=hid hn
   rw [<- hn] at hfit hxp
   clear hdrop hin2 hx hxo hn
   have hdec:=zcc vd x (zp (rs.drop (j+1))) wr HXO.out HIN2.out hrest
   rw [<- HN.out] at hdec
   have HDEC:=hid hdec
   clear hdec
   go_upto_region 14 with (first
    | (show wpList _ _ _ (⟨some 60,_,_,_,_,_⟩::_) _ _;refine zbS rfl 29 (.tmp 54) (some (.tmp 59)) none none rfl _ _ _ _ (by rfl) (by rfl) (by rfl) (by rfl) _ hrun2 ?_)
    | (go_at_call 119;(with_reducible refine HDEC.out.mono ?_);rintro e1 w7 ⟨dv,rfl,hdv,hb7⟩;obtain ⟨dA,dc,rfl⟩:=own_slice hdv;obtain ⟨HDV,HB7⟩:=zi2 hdv hb7;clear hdv hb7)
    | (show wpList _ _ _ (⟨none,.store 144 (.tmp 13) (.tmp 62),_,_,_,_⟩::_) _ _;refine zN rfl 144 (.tmp 13) (.tmp 62) rfl w7.heap.size rfl _ #[.int .i64 x.kind,.int .i64 x.txn,.int .i64 x.page,.int .i64 x.slot,.string (za (zt x.before)),.string (za (zt x.after)),.string (za x.image),.slice dA x.dirty.length dc] (by rfl) (by rfl) (by kernel_rfl) (by rfl) (by simp [Value.oneCell']) ?_))
   have hLw7:=zb HL.out HB7.out (zd HL.out)
   obtain ⟨w8,hw8⟩:∃ w8,w8=w7.alloc (.cells #[.int .i64 x.kind,.int .i64 x.txn,.int .i64 x.page,.int .i64 x.slot,.string (za (zt x.before)),.string (za (zt x.after)),.string (za x.image),.slice dA x.dirty.length dc] 144):=⟨_,rfl⟩
   have hE8:w8.heap[w7.heap.size]?=some (.cells #[.int .i64 x.kind,.int .i64 x.txn,.int .i64 x.page,.int .i64 x.slot,.string (za (zt x.before)),.string (za (zt x.after)),.string (za x.image),.slice dA x.dirty.length dc] 144 (0,0)):=by rw [hw8];exact zk _ _ rfl
   have hb8:Below wr.heap.size wr w8:=by rw [hw8];exact B_alloc HB7.out _
   rw [<- hw8]
   have hL8:=zb HL.out hb8 (zd HL.out)
   have hdv8:w8.ownsRow wr.heap.size 35 1 (.slice dA x.dirty.length dc) x.dirty.length (ZF x.dirty):=by rw [hw8];exact zi HDV.out fun q hq=>Below.heap_alloc _ _ _ (HDV.out.lt q hq).2
   obtain ⟨HL8,HB8,HE8,HDV8⟩:=zi4 hL8 hb8 hE8 hdv8
   have k48:=(cell_of_row w8 L 4 _ _ _ hL8).trans (show _=some (Value.slice lA k k) from rfl)
   have hS:w8.drew.cell? ⟨L,4,none⟩=some (.slice lA k k)/\w8.drew.heap[w7.heap.size]?=some (.cells #[.int .i64 x.kind,.int .i64 x.txn,.int .i64 x.page,.int .i64 x.slot,.string (za (zt x.before)),.string (za (zt x.after)),.string (za x.image),.slice dA x.dirty.length dc] 144 (0,0)):=⟨k48,hE8⟩
   have hkb:k<=100000:=by omega
   have hes8:=zi HES.out.own fun q hq=>hb8.block q (HES.out.own.lt q hq).2
   have HES8:=hid hes8
   obtain ⟨pl,hpl⟩:∃ p,p=qD gen k:=⟨_,rfl⟩
   have HPL:=hid hpl
   have hplr:=zgQ L gen _ _ _ _ _ w8.drew k (show w8.drew.heap[L]?=_ from hL8) hg hkb
   rw [<- hpl] at hplr
   have HPLR:=hid hplr
   have hjb:j<=14336:=by
    have h1:∀ l:List zI,l.length<=(zp l).length:=fun l=>by
     induction l with
     | nil=>simp
     | cons y l ih=>simp only [zp,List.flatMap_cons,List.length_append,List.length_cons] at ih ⊢;have:=Jj y;omega
    have h2:=h1 (rs.take j)
    rw [List.length_take,<- HK.out] at h2;omega
   have hec:(jo es).length=j*9:=by have:=HES.out.own.1;rw [this,HEL.out]
   clear hw8 hb8 hL8 hE8 hdv8 hes8 hpl hplr hLw7 hrun2
   refine wp_region_noPanic ?_
   refine PrintLast.start_ (n:=13) (S:=(fun w'=>w'.cell? ⟨L,4,none⟩=some (.slice lA k k)/\w'.heap[w7.heap.size]?=some (.cells #[.int .i64 x.kind,.int .i64 x.txn,.int .i64 x.page,.int .i64 x.slot,.string (za (zt x.before)),.string (za (zt x.after)),.string (za x.image),.slice dA x.dirty.length dc] 144 (0,0)))) (ds:=[11]) (bA 13 0) (by kernel_rfl) rfl (by kernel_rfl) hS (fun hHeld=>?_)
   refine pu 0 67 13 1 rfl rfl ?_
   refine pu 1 68 13 3 rfl rfl ?_
   refine pu 2 69 13 7 rfl rfl ?_
   refine pu 3 70 13 15 rfl rfl ?_
   refine pu 4 71 13 31 rfl rfl ?_
   refine tq 5 72 13 63 rfl rfl ?_
   refine pu 6 73 13 127 rfl rfl ?_
   refine tk 8 75 13 383 rfl rfl (qE 144 (.tmp 13) rfl rfl w7.heap.size rfl 144 _ (0,0) _ (fun w' hSw=>hSw.2) Tryz.underlying144 rfl (by kernel_rfl)) ?_
   refine on 7 13 511 (some 74) rfl rfl (fun K hK=>?_)
   show Oper.wp _ ⟨some 74,_,_,_,_,_⟩ _ _ _ _
   refine zq 108 _ _ [.pointer (some ⟨L,0,none⟩),.int .i64 k] rfl (by kernel_rfl) (by rfl) (HPLR.out.mono ?_)
   rintro e1 w9 ⟨rfl,rfl⟩
   refine ⟨_,rfl,?_⟩
   refine hK.out _ _ hHeld (fun hHeld=>?_)
   clear hK K
   try simp only [pS]
   refine pu 9 76 13 1023 rfl rfl ?_
   refine on 10 13 2047 (some 77) rfl rfl (fun K hK=>?_)
   show Oper.wp _ ⟨some 77,_,_,_,_,_⟩ _ _ _ _
   refine vf 156 167 9 112 (.tmp 76) rfl (.agg (jj ⟨pl,x,.slice dA x.dirty.length dc⟩).toArray) (by rfl) Tryz.underlying156 zen (by rfl) (by omega) (by omega) ?_
   refine hK.out _ _ ⟨jI hHeld.1 _,zy hHeld.2 _⟩ (fun hHeld=>?_)
   clear hK K
   try simp only [pS]
   refine la 11 13 4095 (some 78) rfl rfl (fun K hK=>?_)
   show Oper.wp _ ⟨some 78,_,_,_,_,_⟩ _ _ _ _
   refine uZ (.tmp 67) (.tmp 77) 156 167 9 112 rfl Tryz.underlying156 zen (by omega) (.slice vA j vc) j (jo es) (L+1) (by rfl) ?ow (some ⟨w8.heap.size,0,none⟩) 1 1 (jj ⟨pl,x,.slice dA x.dirty.length dc⟩) _ (by rfl) (zx.of_list (zk w8.drew _ rfl) rfl) (by intro u hu;simp [jj] at hu;rcases hu with rfl | rfl | rfl | rfl | rfl | rfl | rfl | rfl | rfl<;>rfl) (by omega) (by omega) ?hbase9 ?_
   case ow =>
    have h1:=HES8.out
    rw [HEL.out] at h1
    exact zi (show w8.drew.ownsRow _ _ _ _ _ _ from h1) fun q hq=>Below.heap_alloc _ _ _ (h1.lt q hq).2
   case hbase9=>have:=zd HL8.out;show L+1<=(w8.drew.alloc _).heap.size;simp;omega
   intro v9 w9 hown9 hg9 hat9
   obtain ⟨A9,c9,rfl⟩:=own_slice hown9
   refine hK.out _ _ ?_
   clear hK K
   try simp only [pS]
   refine pu 12 12 13 8191 rfl rfl ?_
   refine PrintLast.done_ (by kernel_rfl) ?_
   refine NoPanic.normal ?_
   have hv9L:∀ q,(Value.slice vA j vc).ownBlock=some q->L<q:=fun q hq=>by have:=(HES.out.own.lt q (by rw [HEL.out];exact hq)).1;omega
   have hL9:=zX (zy (show w8.drew.heap[L]?=_ from HL8.out) (.cells (jj ⟨pl,x,.slice dA x.dirty.length dc⟩).toArray 167)) hg9 (fun e=>Nat.lt_irrefl _ (hv9L L e))
   have hb89:Below (L+1) w8 w9:=by
    have h1:=zd HL8.out
    exact ((Below.refl (L+1) w8).drew.alloc (show L+1<=w8.heap.size by omega) (.cells (jj ⟨pl,x,.slice dA x.dirty.length dc⟩).toArray 167)).grown hg9 (by show L+1<=(w8.drew.alloc _).heap.size;simp;omega) (fun q hq=>hv9L q hq)
   obtain ⟨k2,hk2⟩:∃ k2,k2=k+n:=⟨_,rfl⟩
   have mk:IntKind.i64.wrap ((k:Int)+(n:Int))=(k2:Int):=by rw [IntKind.wrap_i64];omega
   have hk2p:0<k2:=by omega
   have hk2le:k2<=ca:=by
    obtain ⟨g',cap',cur',e,_,_,hle,_⟩:∃ g cap cur,(Value.slice (some ⟨ga,0,none⟩) (zp rs).length ca)=.slice (some ⟨g,0,none⟩) (zp rs).length cap/\w5.heap.size<=g/\wr.heap[g]?=some (.cells cur 5 (0,0))/\(zp rs).length<=cap/\cap<=maxLen:=by
     rcases HALLR.out.2 with ⟨e,_⟩ | ⟨g,cap,cur,e,h1,h2,h3,h4,_⟩
     ·cases e
     ·exact ⟨g,cap,cur,e,h1,h2,h3,h4⟩
    injection e with _ _ e3
    rw [e3];omega
   have k49:=(cell_of_row w9 L 4 _ _ _ hL9).trans (show _=some (Value.slice lA k k) from rfl)
   obtain ⟨HL9,HB89,HK2,HG9,HO9⟩:=zi5 hL9 hb89 hk2 hg9 hown9
   clear hL9 hb89 hk2 hg9 hown9 hat9 hHeld hS hv9L
   go_upto_region 15 with fail
   have hS:w9.drew.cell? ⟨L,4,none⟩=some (.slice lA k k):=k49
   refine wp_region_noPanic ?_
   refine PrintLast.start_ (n:=20) (S:=(fun w'=>w'.cell? ⟨L,4,none⟩=some (.slice lA k k))) (ds:=[19]) (bA 20 0) (by kernel_rfl) rfl (by kernel_rfl) hS (fun hHeld=>?_)
   refine pu 0 79 20 1 rfl rfl ?_
   refine pu 1 80 20 3 rfl rfl ?_
   refine pu 2 81 20 7 rfl rfl ?_
   refine pu 3 82 20 15 rfl rfl ?_
   refine pu 4 83 20 31 rfl rfl ?_
   refine tq 5 84 20 63 rfl rfl ?_
   refine pu 6 85 20 127 rfl rfl ?_
   refine pu 7 86 20 255 rfl rfl ?_
   refine pu 8 87 20 511 rfl rfl ?_
   refine pu 9 88 20 1023 rfl rfl ?_
   refine pu 10 89 20 2047 rfl rfl ?_
   refine pu 11 90 20 4095 rfl rfl ?_
   refine tq 12 91 20 8191 rfl rfl ?_
   refine pu 13 92 20 16383 rfl rfl ?_
   refine pu 14 93 20 32767 rfl rfl ?_
   refine pu 15 94 20 65535 rfl rfl ?_
   refine on 16 20 131071 (some 95) rfl rfl (fun K hK=>?_)
   show Oper.wp _ ⟨some 95,_,_,_,_,_⟩ _ _ _ _
   refine zjq 29 (.tmp 80) none (some (.tmp 87)) (some (.tmp 94)) rfl (.slice (some ⟨ga,0,none⟩) (zp rs).length ca) none (some (.int .i64 k2)) (some (.int .i64 k2)) (by rfl) (by rfl) (by rfl) (by rfl) _ (zln _ ⟨ga,0,none⟩ _ ca k2 hk2le hk2p) ?_
   refine hK.out _ _ hHeld (fun hHeld=>?_)
   clear hK K
   try simp only [pS]
   refine pu 17 96 20 262143 rfl rfl ?_
   refine pu 18 97 20 524287 rfl rfl ?_
   refine la 19 20 1048575 none rfl rfl (fun K hK=>?_)
   show Oper.wp _ ⟨none,_,_,_,_,_⟩ _ _ _ _
   refine jp 29 (.tmp 97) (.tmp 95) rfl L 4 _ 194 (.slice (some ⟨ga,0,none⟩) k2 k2) (by rfl) (by rfl) (by kernel_rfl) HL9.out (by simp) rfl ?_
   refine hK.out _ _ ?_
   clear hK K
   try simp only [pS]
   refine PrintLast.done_ (by kernel_rfl) ?_
   refine NoPanic.normal ?_
   go_roundw
   case rel =>
    (repeat apply Exists.intro)
    refine ⟨?_,rfl⟩
    have hkk:k2=(zp (rs.take (j+1))).length:=by rw [zat rs j x HX.out,List.length_append,<- HK.out,<- HN.out];exact HK2.out
    have hmap2:(es++[Ent.mk pl x (.slice dA x.dirty.length dc)]).map (fun e=>(e.pl,e.rc))=qx gen 0 (rs.take (j+1)):=by
     rw [List.map_append,HMAP.out,List.take_add_one,HX.out,Option.toList_some,JL,<- HK.out,HPL.out,Nat.zero_add];rfl
    have hltL:L<w8.heap.size:=zd HL8.out
    have hwrL:L<wr.heap.size:=zd HL.out
    have hset:∀ q,q≠L->(w9.drew.setCell ⟨L,4,none⟩ (.slice (some ⟨ga,0,none⟩) k2 k2)).heap[q]?=w9.heap[q]?:=fun q hq=>heap_setCell_other _ _ _ _ hq
    have hgr:∀ q,q<w8.heap.size->(Value.slice vA j vc).ownBlock≠some q->w9.heap[q]?=w8.heap[q]?:=fun q hq hne=>(HG9.out.block q (by simpa using Nat.lt_succ_of_lt hq) (fun e=>hne e.symm)).trans (Below.heap_alloc _ _ _ hq)
    have htagE:∀ q,(Value.slice vA j vc).ownBlock=some q->qp wr q=167:=fun q hq=>own_tag HES.out.own (by rw [HEL.out];exact hq)
    have hdirt:∀ (dv:Value) (m:Nat) (ys:List Value) (B:Nat),L+1<=B->w8.ownsRow B 35 1 dv m ys->(w9.drew.setCell ⟨L,4,none⟩ (.slice (some ⟨ga,0,none⟩) k2 k2)).ownsRow (L+1) 35 1 dv m ys:=fun dv m ys B hB h =>
     qT (zi h fun q hq=>(hset q (fun e=>by have:=(h.lt q hq).1;omega)).trans (hgr q (h.lt q hq).2 (fun e=>by
      have h1:=own_tag h hq
      have h2:qp w8 q=167:=by
       have h3:=HES.out.own.lt q (by rw [HEL.out];exact e)
       rw [jm (HB8.out.block q h3.2)];exact htagE q e
      rw [h1] at h2;cases h2))) hB
    refine ⟨j+1,es++[Ent.mk pl x (.slice dA x.dirty.length dc)],by omega,hmap2,by simp [HEL.out],⟨?_,?_,?_⟩,?_,?_,?_,?_⟩
    ·rw [List.length_append,HEL.out,zaJ]
     exact own_set1 (show w9.drew.ownsRow _ _ _ _ _ _ from HO9.out) (fun e=>by have:=(HO9.out.lt _ e).1;omega) _ _
    ·intro e he
     rcases List.mem_append.1 he with he | he
     ·have h1:=HES.out.dirty e he
      exact hdirt _ _ _ (L+1) (Nat.le_refl _) (zi h1 fun q hq=>HB8.out.block q (h1.lt q hq).2)
     ·simp at he;subst he
      exact hdirt _ _ _ wr.heap.size hwrL HDV8.out
    ·intro e he
     rcases List.mem_append.1 he with he | he
     ·exact HES.out.ok e he
     ·simp at he;subst he;exact HXO.out
    ·rw [heap_setCell_same _ _ 4 _ _ _ (show w9.drew.heap[L]?=_ from HL9.out),<- hkk]
     unfold zgy
     rw [if_neg (by omega)];rfl
    ·rw [hset ga (by omega)]
     have h3:ga<wr.heap.size:=Nat.lt_of_lt_of_le hga1 hsz
     rw [hgr ga (Nat.lt_of_lt_of_le h3 HB8.out.size) (fun e=>by
      have h1:=htagE ga e
      rw [own_tag HALLR.out rfl] at h1;cases h1),HB8.out.block ga h3]
     exact HGA.out
    ·exact B_set ((HBL.out.trans (HB8.out.mono HBL.out.size)).trans (HB89.out.mono (by omega))).drew (by show w.heap.size<=L;omega) _
    ·have h1:=HB89.out.size
     have h2:=HB8.out.size
     simp;omega
   case measure =>
    simp [lenOf];omega
  ·obtain rfl:j=rs.length:=by omega
   have hkn:k=(zp rs).length:=by rw [HK.out,List.take_length]
   have hin2:=HIN.out
   rw [hkn,List.drop_length] at hin2
   have hmap:=HMAP.out
   rw [List.take_length] at hmap
   have hdec:=zar vd wr hin2
   have hlA2:lA=some ⟨ga,0,none⟩:=by
    have h1:=(cell_of_row wr L 4 _ _ _ HL.out)
    exact HLA.out (by omega)
   subst hlA2
   obtain ⟨HDEC,HMAP2⟩:=zi2 hdec hmap
   subst hkn
   clear hin2 hdec hmap
   go_upto_region 16 with (first
    | (show wpList _ _ _ (⟨some 60,_,_,_,_,_⟩::_) _ _;refine zbS rfl 29 (.tmp 54) (some (.tmp 59)) none none rfl _ _ _ _ (by rfl) (by rfl) (by rfl) (by rfl) _ hrun2 ?_)
    | (go_at_call 119;(with_reducible refine HDEC.out.mono ?_);rintro e1 w7 ⟨rfl,hb7⟩;have HB7:=hid hb7;clear hb7)
    | (show wpList _ _ _ (⟨none,.store 144 (.tmp 13) (.tmp 62),_,_,_,_⟩::_) _ _;refine zN rfl 144 (.tmp 13) (.tmp 62) rfl w7.heap.size rfl _ KJ (by rfl) (by rfl) (by kernel_rfl) (by rfl) (by simp [KJ,Value.oneCell']) ?_))
   have hb8:Below wr.heap.size wr (w7.alloc (.cells KJ 144)):=B_alloc HB7.out _
   obtain ⟨w8,hw8⟩:∃ w8,w8=w7.alloc (.cells KJ 144):=⟨_,rfl⟩
   rw [<- hw8] at hb8 ⊢
   have hL8:=zb HL.out hb8 (zd HL.out)
   have k4:=(cell_of_row w8 L 4 _ _ _ hL8).trans (show _=some (Value.slice (some ⟨ga,0,none⟩) (zp rs).length (zp rs).length) from rfl)
   have k5:=(cell_of_row w8 L 5 _ _ _ hL8).trans (show _=some (Value.int .i64 0) from rfl)
   have f5:=frozen_of_row w8 L 5 _ _ hL8
   obtain ⟨HL8,HB8⟩:=zi2 hL8 hb8
   clear hL8 hb8 hw8
   go_upto_region 17 with fail
   have hL9:(w8.setCell ⟨L,5,none⟩ (.int .i64 (zp rs).length)).heap[L]?=some (.cells #[.pointer (some ⟨D,0,none⟩),.int .i64 r,.int .u64 gen,.int .i64 bank,.slice (some ⟨ga,0,none⟩) (zp rs).length (zp rs).length,.int .i64 (zp rs).length] 194 (0,0)):=by
    rw [heap_setCell_same _ _ 5 _ _ _ HL8.out];rfl
   obtain ⟨w9,hw9⟩:∃ w9,w9=w8.setCell ⟨L,5,none⟩ (.int .i64 (zp rs).length):=⟨_,rfl⟩
   rw [<- hw9] at hL9 ⊢
   have k3:=(cell_of_row w9 L 3 _ _ _ hL9).trans (show _=some (Value.int .i64 bank) from rfl)
   have k4:=(cell_of_row w9 L 4 _ _ _ hL9).trans (show _=some (Value.slice (some ⟨ga,0,none⟩) (zp rs).length (zp rs).length) from rfl)
   obtain ⟨HL9,HW9⟩:=zi2 hL9 hw9
   have hS:w9.drew.cell? ⟨L,3,none⟩=some (.int .i64 bank)/\w9.drew.cell? ⟨L,4,none⟩=some (.slice (some ⟨ga,0,none⟩) (zp rs).length (zp rs).length):=⟨k3,k4⟩
   have hk0:(0:Int)<=(bank:Int):=by omega
   have hk1:(bank:Int)<=1:=by omega
   obtain ⟨fr,hfr⟩:∃ fr,fr=2+bank*256+((zp rs).length+55) / 56:=⟨_,rfl⟩
   have mfrom:IntKind.i64.wrap (2+(bank:Int)*256+IntKind.i64.wrap ((IntKind.i64.wrap (IntKind.i64.wrap (((zp rs).length:Int)+56)-1)).tdiv 56))=(fr:Int):=by
    have a1:IntKind.i64.wrap (((zp rs).length:Int)+56)=((zp rs).length:Int)+56:=by rw [IntKind.wrap_i64];omega
    have a2:IntKind.i64.wrap (((zp rs).length:Int)+56-1)=((zp rs).length:Int)+55:=by rw [IntKind.wrap_i64];omega
    rw [a1,a2,Int.tdiv_eq_ediv_of_nonneg (by omega)]
    have a3:IntKind.i64.wrap ((((zp rs).length:Int)+55) / 56)=(((zp rs).length:Int)+55) / 56:=by rw [IntKind.wrap_i64];omega
    rw [a3,IntKind.wrap_i64]
    omega
   have HFR:=hid hfr
   clear hL9 hw9 hfr
   refine wp_region_noPanic ?_
   refine PrintLast.start_ (n:=15) (S:=(fun w'=>w'.cell? ⟨L,3,none⟩=some (.int .i64 bank)/\w'.cell? ⟨L,4,none⟩=some (.slice (some ⟨ga,0,none⟩) (zp rs).length (zp rs).length))) (ds:=[]) (bA 15 0) (by kernel_rfl) rfl (by kernel_rfl) hS (fun hHeld=>?_)
   refine pu 0 106 15 1 rfl rfl ?_
   refine pu 1 107 15 3 rfl rfl ?_
   refine pu 2 108 15 7 rfl rfl ?_
   refine tq 3 109 15 15 rfl rfl ?_
   refine pu 5 111 15 47 rfl rfl ?_
   refine pu 6 112 15 111 rfl rfl ?_
   refine pu 7 113 15 239 rfl rfl ?_
   refine tq 8 114 15 495 rfl rfl ?_
   refine pu 9 115 15 1007 rfl rfl ?_
   refine pu 10 116 15 2031 rfl rfl ?_
   refine pu 11 117 15 4079 rfl rfl ?_
   refine pu 12 118 15 8175 rfl rfl ?_
   refine on 4 15 8191 (some 110) rfl rfl (fun K hK=>?_)
   show Oper.wp _ ⟨some 110,_,_,_,_,_⟩ _ _ _ _
   refine zq 111 _ _ [.int .i64 bank] rfl (by kernel_rfl) (by rfl) ((Zl bank w9.drew hk0 hk1).mono ?_)
   rintro e1 w10 ⟨rfl,rfl⟩
   refine ⟨_,rfl,?_⟩
   refine hK.out _ _ hHeld (fun hHeld=>?_)
   clear hK K
   try simp only [pS]
   refine pu 13 119 15 16383 rfl rfl ?_
   refine pu 14 16 15 32767 rfl rfl ?_
   refine PrintLast.done_ (by kernel_rfl) ?_
   refine NoPanic.normal ?_
   have hb9:Below w.heap.size w w9:=by rw [HW9.out];exact B_set (B_call HBL.out HB8.out) (by show w.heap.size<=L;omega) _
   have hD9:zv w9.drew D F cur (fun _=>0):=zv.drew (zv.below HD.out hb9)
   have hsd:(2+(bank:Int)*256+256)=((2+bank*256+256:Nat):Int):=by omega
   have hwp:=GS D F cur (fun _=>0) r fr (2+bank*256+256) w9.drew hD9 hr (by omega) (by omega)
   rw [<- hsd] at hwp
   obtain ⟨HWP,HB9⟩:=zi2 hwp hb9
   clear hb9 hD9 hsd hwp hS hHeld mfrom
   go_upto_region 21 with (first
    | (go_at_call 111;(with_reducible refine (Zl bank w9.drew hk0 hk1).mono ?_);rintro e1 w10 ⟨rfl,hw10⟩;subst hw10)
    | (go_at_call 110;(with_reducible refine HWP.out.mono ?_);rintro e1 w11 ⟨rfl,F11,hD11,hK11,hN11⟩;obtain ⟨HD11,HK11,HN11⟩:=zi3 hD11 hK11 hN11;clear hD11 hK11 hN11))
   have hFn:∀ q,F q->q<w.heap.size:=fun q hq=>zv.lt HD.out q hq
   have hto:∀ q,q<wr.heap.size->q≠L->w.heap.size<=q->w11.heap[q]?=wr.heap[q]?:=fun q hq hne hge=>by
    have h8:=HB8.out.block q hq
    have h9:w9.heap[q]?=w8.heap[q]?:=by rw [HW9.out];exact heap_setCell_other _ _ _ _ hne
    have h11:w11.heap[q]?=w9.heap[q]?:=HK11.out.block q (by
     have:w9.drew.heap.size=w8.heap.size:=by show w9.heap.size=_;rw [HW9.out];simp
     rw [this];exact Nat.lt_of_lt_of_le hq HB8.out.size) (fun e=>by have:=hFn q e;omega)
    rw [h11,h9,h8]
   have hL11:=qj (show w9.drew.heap[L]?=_ from HL9.out) HK11.out (fun e=>by have:=hFn L e;omega)
   have k411:=(cell_of_row w11 L 4 _ _ _ hL11).trans (show _=some (Value.slice (some ⟨ga,0,none⟩) (zp rs).length (zp rs).length) from rfl)
   obtain ⟨HL11,HTO⟩:=zi2 hL11 hto
   clear hFn hto hL11
   go_wp2_with fail
   go_ret3
   have hgar:ga<wr.heap.size:=Nat.lt_of_lt_of_le hga1 hsz
   have hga11:=HTO.out ga hgar (by omega) (by omega)
   have hall11:=zi HALLR.out fun q hq=>by
    obtain rfl:ga=q:=by injection hq
    exact hga11
   have htg:qp w11 ga=5:=own_tag hall11 rfl
   refine ⟨L,_,F11,fun q=>q=L∨q=ga,es,rfl,⟨⟨_,HL11.out,.inr ⟨⟨ga,0,none⟩,rfl,zx.of_own hall11,by unfold maxLen;omega,htg⟩,fun q hq=>.inr (by injection hq with hq;exact hq.symm)⟩,.inl rfl,?_,?_⟩,?_,⟨?_,?_,HES.out.ok⟩,HMAP2.out,?_,?_,?_⟩
   ·rintro q (rfl | rfl)
    ·exact zd HL11.out
    ·exact (hall11.lt _ rfl).2
   ·rintro q (rfl | rfl)
    ·rw [zc HL11.out];simp
    ·rw [htg];simp
   ·refine zv.mono (zv.congr HD11.out fun r' q hr' hq=>?_) fun r' hr'=>?_
    ·unfold yb
     by_cases e:r'=r
     ·subst e
      simp only [zf]
      by_cases e2:fr<=q/\q<2+bank*256+256
      ·rw [if_pos e2]
       have h1:=HON.out.2 (q-(2+bank*256)) (by omega)
       rw [show 2+bank*256+(q-(2+bank*256))=q by have:=HFR.out;omega] at h1
       rw [h1,if_neg (by have:=HFR.out;omega)]
      ·rw [if_neg e2]
     ·simp only [zm _ _ e]
    ·by_cases e:r'=r
     ·subst e;simp only [zf];exact Nat.le_refl _
     ·simp only [zm _ _ e];exact Nat.le_refl _
   ·have h1:=zi HES.out.own fun q hq=>by
     have h2:=HES.out.own.lt q hq
     exact HTO.out q h2.2 (by omega) (by omega)
    rw [HEL.out] at h1 ⊢
    exact qT h1 (by omega)
   ·intro e he
    have h0:=HES.out.dirty e he
    exact qT (zi h0 fun q hq=>by
     have h2:=h0.lt q hq
     exact HTO.out q h2.2 (by omega) (by omega)) (by omega)
   ·exact (zr.of_below HB9.out.drew).next HK11.out (qh.refl _ _)
   ·exact qh.mono HN11.out HB9.out.size
   ·rintro q (rfl | rfl)<;>omega
end Go.Proofs.YtechnoogjhohfaaGreat
