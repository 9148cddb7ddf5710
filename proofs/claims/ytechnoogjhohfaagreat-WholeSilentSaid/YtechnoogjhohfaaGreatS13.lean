import Derived.Test.YtechnoogjhohfaaGreatS12
import Derived.OrdersIn
import Derived.RangeFuncCalls
import Derived.RangeFuncLeaves
import Derived.RangeFuncNested
set_option maxRecDepth 100000
set_option maxHeartbeats 6400000
set_option linter.unusedVariables false
set_option linter.unusedSimpArgs false
namespace Go.Proofs.YtechnoogjhohfaaGreat
open Go.RowKit Go.Lib
section
section
variable {P:Program}
def Zx (K:Act->World->Prop):Exit->Act->World->Prop
 | .normal,a,w=>K a w
 | _,_,_=>False
theorem Zx.g4 {K:Act->World->Prop} (h:LetsOut (Zx K)):False:=by obtain ⟨_,_,h⟩:=h;exact h
theorem Zx.imp {K:Act->World->Prop} {Q:Exit->Act->World->Prop} (u:∀ a w,K a w->Q .normal a w):∀ e a w,Zx K e a w->Q e a w:=fun e a w h=>by cases e<;>first | exact u _ _ h | exact (h:False).elim
structure zfw (P:Program) (F:Fence):Prop where
 fn:∀ f,F.fn f
 i5:F.depth=none
 i3:∀ n f args w R,Calls P f args w R->CallsIn F n P f args w R
 a7:∀ n row args w R,Rows P row args w R->RowsIn F n P row args w R
theorem zig:zfw P Fence.wide:=⟨fun _=>trivial,rfl,fun _ _ _ _ _ h=>callsIn_wide.2 h,fun _ _ _ _ _ h c cs _=>let ⟨v,w',r,s⟩:=h c cs;⟨v,w',r,stepsIn_wide.2 s⟩⟩
theorem uv (l:Nat):zfw P (Fence.wide.inRound l):=⟨fun _=>trivial,rfl,fun _ _ _ _ _ h=>CallsIn.inRound l (callsIn_wide.2 h),fun _ _ _ _ _ h c cs _=>let ⟨v,w',r,s⟩:=h c cs;⟨v,w',r,stepsIn_wide.2 s⟩⟩
def uB (o:Oper):Bool:=match o.op with
 | .defer _=>false
 | _=>true
theorem uB.ne {o:Oper} (h:uB o=true):∀ c,o.op≠.defer c:=fun c e=>by simp [uB,e] at h
theorem zhA {F:Fence} (z:zfw P F) (n:Nat) {o:Oper} {a:Act} {w:World} {K:Act->World->Prop} {Q:Exit->Act->World->Prop} (hd:uB o=true) (h:o.wp P a w K Q):o.wpIn F n P a w K Q:=by
 refine ⟨fun f _=>z.fn f,?_⟩;rw [Oper.semAt_eq F.round a.eval o (uB.ne hd)];unfold Oper.wp at h;have D:F.depth.isSome=true->1<=n:=by rw [z.i5];intro h;cases h
 generalize (execOp a.eval o).run P w=r at *;cases r with
 | ok x w' =>
  cases x<;>simp only [Oper.upon,Oper.uponIn] at h ⊢
  case value v=>exact h
  case skip=>exact h
  case defer d=>exact h
  case enter f args=>exact ⟨D,z.i3 _ _ _ _ _ h⟩
  case row row args=>exact ⟨D,z.a7 _ _ _ _ _ h⟩
 | halt x w' =>
  cases x<;>simp only [Oper.upon,Oper.uponIn] at h ⊢
  case panic u=>exact h
theorem zqx {o:Oper} {a:Act} {w:World} {K:Act->World->Prop} {Q z:Exit->Act->World->Prop} (E:∀ c a w,Q (.panic c) a w->z (.panic c) a w) (L:LetsOut Q->LetsOut z) (h:o.wp P a w K Q):o.wp P a w K z:=by
 unfold Oper.wp at *;generalize (execOp a.eval o).run P w=r at *;cases r with
 | ok x w' =>
  cases x<;>simp only [Oper.upon] at h ⊢
  case value v=>exact h
  case skip=>exact h
  case defer d=>exact h
  case enter f args =>
   refine Calls.mono h fun e O D=>?_;cases e with
   | returned v=>exact D
   | panicked c=>exact E _ _ _ D
   | outgrown=>exact L D
  case row row args=>exact h
 | halt x w' =>
  cases x<;>simp only [Oper.upon] at h ⊢
  case panic u=>exact E _ _ _ h
theorem QO {F:Fence} (u:zfw P F) (n:Nat) {ops:Array Oper} {K1 K:Act->World->Prop} {post:List Oper} (z:∀ a w,K1 a w->wpListIn F n P ops (Zx K) post a w) :
  ∀ (pre:List Oper) (a:Act) (w:World),pre.all uB=true->wpList P ops (Zx K1) pre a w->wpListIn F n P ops (Zx K) (pre++post) a w
 | [],a,w,_,h=>z a w h
 | o::pre,a,w,hd,h=>by
  simp only [List.all_cons,Bool.and_eq_true] at hd;rw [wpList] at h;rw [List.cons_append,wpListIn];split at h
  ·rename_i D;rw [if_pos D];rcases h with h | h
   ·have E:o.wp P a w (wpListIn F n P ops (Zx K) (pre++post)) (Zx K):=by have L:o.wp P a w (wpListIn F n P ops (Zx K) (pre++post)) (Zx K1):=Oper.wp_mono (fun a w h=>QO u n z pre a w hd.2 h) h;exact zqx (fun _ _ _ h=>(h:False).elim) (fun h=>(Zx.g4 h).elim) L
    exact zhA u n hd.1 E
   ·exact (Zx.g4 h.2).elim
  ·rename_i D;rw [if_neg D];exact ⟨fun f _=>u.fn f,QO u n z pre _ _ hd.2 h⟩
theorem vk {F:Fence} (u:zfw P F) (n:Nat) {D:Nat} {ops:Array Oper} {K:Act->World->Prop} {Q:Exit->Act->World->Prop} {a:Act} {w:World} (hd:ops.toList.all uB=true) (z:∀ a w,K a w->Q .normal a w) (h:wpList P ops (Zx K) ops.toList a w):(Code.region D ops false).wpIn F n P Q a w:=by refine wpIn_mono (wpIn_region_list (ops:=ops) (Q:=Zx K) ?_) (Zx.imp z);have:=QO u n (K1:=K) (K:=K) (post:=[]) (ops:=ops) (fun a w h=>h) ops.toList a w hd h;rwa [List.append_nil] at this
theorem Kv {F:Fence} (D:zfw P F) (n:Nat) {O:Region.Mode} {ops:Array Oper} {K:Act->World->Prop} (hd:ops.toList.all uB=true):∀ (z:Nat) (listed:Array Bool) (a:Act) (w:World),wpAny P O ops (Zx K) z listed a w->wpAnyIn F n P O ops (Zx K) z listed a w
 | 0,_,_,_,h=>h
 | z+1,listed,a,w,h=>by
  refine ⟨h.1,fun i U=>?_⟩;have u:=h.2 i U;unfold wpOp at u;unfold wpOpIn;split
  ·rename_i E;rw [E] at u;exact Kv D n hd z _ a w u
  ·rename_i o E;rw [E] at u;simp only at u;have X:uB o=true:=by
    have:=List.all_eq_true.1 hd o (by
     rw [qu] at E;obtain ⟨R,u⟩:=E;rw [<- u];exact Array.mem_toList_iff.2 (Array.getElem_mem R))
    exact this
   split
   ·rename_i L;rw [if_pos L] at u;rcases u with u | u
    ·exact zhA D n X (Oper.wp_mono (fun a w h=>Kv D n hd z _ a w h) u)
    ·exact (Zx.g4 u.2).elim
   ·rename_i L;rw [if_neg L] at u;exact ⟨fun f _=>D.fn f,Kv D n hd z _ _ w u⟩
theorem zfc {F:Fence} (u:zfw P F) (n:Nat) (hm:P.follows .mixedOrders=true) {D:Nat} {ops:Array Oper} {K:Act->World->Prop} {Q:Exit->Act->World->Prop} {a:Act} {w:World} (hd:ops.toList.all uB=true) (z:∀ a w,K a w->Q .normal a w)
  (h:wpAny P .any ops (Zx K) ops.size (Array.replicate ops.size false) a w.drew):(Code.region D ops true).wpIn F n P Q a w :=
 wpIn_mono (wpIn_region_any (Q:=Zx K) hm (Kv u n hd _ _ _ _ h)) (Zx.imp z)
end
end
end Go.Proofs.YtechnoogjhohfaaGreat
namespace Go.Proofs.YtechnoogjhohfaaGreat
open Go.RowKit Go.Lib
open YtechnoogjhohfaaGreatW
section
section
variable {P:Program}
theorem zib {F:Fence} (u:zfw P F) {O n:Nat} {ops:Array Oper} {K:Act->World->Prop} {Q:Exit->Act->World->Prop} {S:World->Prop} {ds:List Nat} {a:Act} {w:World} (l:Array Bool) (hd:ops.toList.all uB=true) (L:∀ a w,K a w->Q .normal a w) (hm:P.follows .mixedOrders=true) (E:ops.size=n) (D:Array.replicate n false=l) (z:S w.drew)
  (h:S w.drew->PrintLast.wpAnyLast P .any ops (Zx K) S ds n l a w.drew):(Code.region O ops true).wpIn F 0 P Q a w:=by
 subst E;subst D;exact zfc u 0 hm hd L (PrintLast.wpAny_of_last _ _ _ _ (h z))
def zcq (P:Program) (o:Oper) (a:Act) (w:World) (K:Value->World->Prop):Prop :=
 ∃ l x xs ts args,o.op=.call { callee:=.value x,args:=xs,argTypes:=ts }/\a.eval x=.func (.yield l) #[] #[]/\xs.toList.map a.eval=args/\YieldAt Fence.wide 0 P l args.toArray w fun e w'=>∃ v,e=.returned v/\K v w'
theorem zcq.wpIn {o:Oper} {a:Act} {w:World} {K:Act->World->Prop} {Q:Exit->Act->World->Prop} (h:zcq P o a w fun v w'=>K (a.put o.dst v) w'):o.wpIn Fence.wide 0 P a w K Q:=by
 obtain ⟨l,x,xs,ts,args,u,Y,L,E,tmps,z,D,X,U⟩:=h;refine ⟨fun _ _=>trivial,?_⟩;have O:(o.semAt Fence.wide.round a.eval).run P w=.ok (.round l E tmps z D) w:=by rw [Oper.semAt_eq _ _ _ (by intro c e;rw [u] at e;cases e)];unfold execOp;simp only [u,resolve,Y,Deferred.ofValue,invoke,Sem.run_bind,Sem.run_pure,vi];rw [show (Array.map (fun x=>a.eval x) xs)=args.toArray by rw [<- L];apply Array.toList_inj.1;rw [Array.toList_map]];simpa using X
 rw [O];refine ⟨fun h=>(by cases h),?_⟩;refine RoundIn.mono U ?_;rintro e w' ⟨v,rfl,R⟩;exact R
theorem Ya {id:Nat} {ops:Array Oper} {pre post:List Oper} {o:Oper} {K:Act->World->Prop} {Q:Exit->Act->World->Prop} {a:Act} {w:World} (Z:ops.toList=pre++o::post) (U:pre.all uB=true) (X:post.all uB=true) (hq:∀ a w,K a w->Q .normal a w)
  (h:wpList P ops (Zx fun u w1=>Region.wanted o (yielded ops u.tmps)=true/\zcq P o u w1 fun v z=>wpList P ops (Zx K) post (u.put o.dst v) z) pre a w):(Code.region id ops false).wp P Q a w:=by
 refine wpIn_wide.1 (wpIn_mono (n:=0) (Q:=Zx K) ?_ (Zx.imp hq));refine wpIn_region_list ?_;rw [Z];refine QO zig 0 ?_ pre a w U h;rintro u w1 ⟨hw,hy⟩;rw [wpListIn,if_pos hw];refine zcq.wpIn ?_;obtain ⟨l,x,xs,ts,args,D,E,L,f,t,c,b,O,R⟩:=hy;refine ⟨l,x,xs,ts,args,D,E,L,f,t,c,b,O,R.mono ?_⟩;rintro e z ⟨v,rfl,Y⟩;refine ⟨v,rfl,?_⟩;have:=QO (P:=P) zig 0 (K1:=K) (K:=K) (post:=[]) (ops:=ops) (fun a w h=>h) post _ _ X Y;rwa [List.append_nil] at this
theorem YP {w:World} {k:Nat} {o:Obj} (h:w.heap[k]?=some o):k<w.heap.size:=(qu.1 h).1
structure Jb (b:Nat) (W W':World):Prop where
 size:W.heap.size<=W'.heap.size
 same:W'.heap[b]?=W.heap[b]?
 gf:W'.heap[b+1]?=W.heap[b+1]?
theorem Jb.refl (b:Nat) (W:World):Jb b W W:=⟨za _,rfl,rfl⟩
theorem Jb.trans {b:Nat} {A B C:World} (h:Jb b A B) (k:Jb b B C):Jb b A C:=⟨zz h.size k.size,k.same.trans h.same,k.gf.trans h.gf⟩
theorem Jb.below {b B:Nat} {A C:World} (h:Below B A C) (hb:b+1<B):Jb b A C:=⟨h.size,h.block b (by omega),h.block (b+1) hb⟩
def zgI (P:Program) (gf:FuncId) (bound caps:Array Value) (N:Nat) (args:Nat->Array Value) (I:Nat->World->Prop):Prop :=
 ∀ (l:Nat) (J:Nat->World->Prop) (W:World),(∀ k W,J k W->I k W)->(∀ k W h,J k W->zd W h->J k h)->(∀ k W,k<N->J k W->YieldAt Fence.wide 0 P l (args k) W fun e h=>e=.returned (.bool true)/\J (k+1) h)->J 0 W ->
  Calls P gf (bound++#[.func (.yield l) #[] #[]]++caps) W fun e h=>(∃ v,e=.returned v)/\J N h
theorem Yw {g:Operand} {ps:Array Tmp} {assign body:Code} {Q:Exit->Act->World->Prop} {a:Act} {w:World} {gf:FuncId} {bound caps:Array Value} (hg:a.eval g=.func (.func gf) bound caps)
  (hf : (P.funcs[gf]?).map (fun fn => (fn.name == "runtime.NumGoroutine", fn.body.isSome)) = some (false, true)) (N : Nat) (args : Nat -> Array Value) (hargs : ∀ k, (args k).size = ps.size) (I : Nat -> World -> Prop)
  (h0:∀ rec,I 0 ((w.alloc (.deferred (some []))).alloc (.loop rec)))
  (hput:∀ k W o,I k W->w.heap.size+1<W.heap.size->I k (W.putObj (w.heap.size+1) o))
  (hbel:∀ k W W',I k W->zd W W'->I k W')
  (hiter:zgI P gf bound caps N args I)
  (hround:∀ k W,k<N->I k W->w.heap.size+1<W.heap.size->assign.wpIn (Fence.wide.inRound (w.heap.size+1)) 0 P (Exit.then (fun a1 W1=>Jb w.heap.size W W1/\∀ o,body.wpIn (Fence.wide.inRound (w.heap.size+1)) 0 P (Zx fun _ W'=>I (k+1) W'/\Jb w.heap.size (W1.putObj (w.heap.size+1) o) W') a1 (W1.putObj (w.heap.size+1) o)) (fun _ _ _=>False)) { tmps:=(ps.zip (args k)).foldl (fun t (p,v)=>t.setIfInBounds p v) a.tmps,defers:=[] } W)
  (hend:∀ W,I N W->W.heap[w.heap.size]?=some (.deferred (some []))->Q .normal { a with defers:={ target:=.collected w.heap.size,args:=#[] }::a.defers } W) :
  (Code.rangeFunc g ps assign body).wp P Q a w:=by
 refine (wpIn_wide (n:=0)).1 (wpIn_rangeFunc ?_);intro fn _;obtain ⟨rec,hrec⟩:∃ rec:LoopState->Option Code->Loop,rec=fun st pe=>{ state:=st,pending:=pe,fn,tmps:=a.tmps,params:=ps,assign,body,defers:=w.heap.size }:=⟨_,rfl⟩;obtain ⟨W1,hW1⟩:∃ W1,(w.alloc (.deferred (some []))).alloc (.loop (rec .ready none))=W1:=⟨_,rfl⟩;have hL1:W1.heap[w.heap.size+1]?=some (.loop (rec .ready none)):=by rw [<- hW1];have:=World.alloc_heap_new (w.alloc (.deferred (some []))) (.loop (rec .ready none));rwa [World.size_alloc] at this
 have hK1:W1.heap[w.heap.size]?=some (.deferred (some [])):=by rw [<- hW1];exact (qb _ _ _ (by simp)).trans (World.alloc_heap_new w _)
 have hI1:I 0 W1:=by rw [<- hW1];exact h0 _
 have he:(callFunc gf (bound++#[.func (.yield (w.heap.size+1)) #[] #[]]++caps)).run P W1=.ok (.enter gf (bound++#[.func (.yield (w.heap.size+1)) #[] #[]]++caps)) W1:=by
  cases hq:P.funcs[gf]? with
  | none=>simp [hq] at hf
  | some fn =>simp only [hq,qk,jd,Prod.mk.injEq] at hf;exact PrintLast.enters_ hq hf.1 hf.2 _ W1
 refine ⟨w.heap.size+1,[{ target:=.collected w.heap.size,args:=#[] }],W1,{ target:=.fn (.func gf) caps,args:=bound++#[.func (.yield (w.heap.size+1)) #[] #[]] },W1,gf,
  bound++#[.func (.yield (w.heap.size+1)) #[] #[]]++caps,W1,?_,?_,fun _ _=>trivial,?_,fun h=>(by cases h),?_⟩
 ·rw [<- hW1,hrec];exact run_enterLoop_outer _ _ _ _ _
 ·simp only [resolve,hg];simp [go_sem,Deferred.ofValue]
 ·simp only [invoke];exact he
 ·refine callsIn_wide.2 ((hiter (w.heap.size+1) (fun k W=>I k W/\W.heap[w.heap.size+1]?=some (.loop (rec .ready none))/\W.heap[w.heap.size]?=some (.deferred (some []))) W1 (fun k W h=>h.1) ?_ ?_ ⟨hI1,hL1,hK1⟩).mono ?_)
  ·rintro k W W' ⟨h1,h2,h3⟩ hb;exact ⟨hbel k W W' h1 hb,(hb.block _ (YP h2)).trans h2,(hb.block _ (YP h3)).trans h3⟩
  ·rintro k W hk ⟨hi,hl,hd⟩;have hlt:w.heap.size+1<W.heap.size:=YP hl;have hy:=run_yield (P:=P) (args:=args k) hl (by rw [hrec];exact hargs k);rw [hrec] at hy;refine ⟨fn,_,assign,body,hy,roundIn_of_wpIn trivial (wpIn_mono (hround k W hk hi hlt) ?_)⟩;intro e a1 W2 hq;cases e with
   | normal =>
    obtain ⟨hloc,hbody⟩:=hq;have hl2:=hloc.gf.trans hl;have hlt2:w.heap.size+1<W2.heap.size:=YP hl2;refine ⟨_,run_beginRound hl2 (by rw [hrec]),?_⟩;refine wpIn_mono (hbody _) ?_;intro e3 a3 W3 hq3;cases e3 with
    | normal =>obtain ⟨hi3,hloc3⟩:=hq3;have hl3:=hloc3.gf.trans (World.putObj_heap_same hlt2);have hd3:=(hloc3.same.trans (World.putObj_heap_other (by omega))).trans (hloc.same.trans hd);have hlt3:w.heap.size+1<W3.heap.size:=YP hl3;have hr3:=run_endRound (P:=P) none hl3;refine ⟨_,_,hr3,rfl,hput _ _ _ hi3 hlt3,?_,(World.putObj_heap_other (by omega)).trans hd3⟩;rw [World.putObj_heap_same hlt3,hrec];rfl
    | _=>exact (hq3:False).elim
   | _=>exact (hq:False).elim
  ·rintro e W2 ⟨⟨v,rfl⟩,hi,hl,hd⟩;have hlt:w.heap.size+1<W2.heap.size:=YP hl;refine ⟨none,_,by have:=run_endLoop (P:=P) hl (by rw [hrec];simp);rw [hrec] at this;exact this,?_⟩;exact hend _ (hput _ _ _ hi hlt) ((World.putObj_heap_other (by omega)).trans hd)
end
end
end Go.Proofs.YtechnoogjhohfaaGreat
