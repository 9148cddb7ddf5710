/-
  Joined by a program from texts written one by one: part 13 of the walk through the program and of the law behind it.
-/
import Derived.Test.YtechnoogjhohfaaGreatC12
import Derived.OrdersIn
import Derived.RangeFuncCalls
import Derived.RangeFuncLeaves
import Derived.RangeFuncNested
set_option maxRecDepth 100000
set_option maxHeartbeats 6400000
set_option linter.unusedVariables false
set_option linter.unusedSimpArgs false
namespace Go.Proofs.YtechnoogjhohfaaGreat
open Go.RowKit Go.Lib
section
section
variable {P:Program}
def vJ (K:Act->World->Prop):Exit->Act->World->Prop
 | .normal,a,w=>K a w
 | _,_,_=>False
theorem vJ.lets {K:Act->World->Prop} (h:LetsOut (vJ K)):False:=by obtain ⟨_,_,h⟩:=h;exact h
theorem vJ.imp {K:Act->World->Prop} {Q:Exit->Act->World->Prop} (hq:∀ a w,K a w->Q .normal a w):∀ e a w,vJ K e a w->Q e a w:=fun e a w h=>by
 cases e<;>first | exact hq _ _ h | exact (h:False).elim
structure zbc (P:Program) (F:Fence):Prop where
 fn:∀ f,F.fn f
 dep:F.depth=none
 calls:∀ n f args w R,Calls P f args w R->CallsIn F n P f args w R
 rows:∀ n row args w R,Rows P row args w R->RowsIn F n P row args w R
theorem zdr:zbc P Fence.wide:=⟨fun _=>trivial,rfl,fun _ _ _ _ _ h=>callsIn_wide.2 h,fun _ _ _ _ _ h c cs _=>let ⟨v,w',r,s⟩:=h c cs;⟨v,w',r,stepsIn_wide.2 s⟩⟩
theorem vr (l:Nat):zbc P (Fence.wide.inRound l):=⟨fun _=>trivial,rfl,fun _ _ _ _ _ h=>CallsIn.inRound l (callsIn_wide.2 h),fun _ _ _ _ _ h c cs _=>let ⟨v,w',r,s⟩:=h c cs;⟨v,w',r,stepsIn_wide.2 s⟩⟩
def yL (o:Oper):Bool:=match o.op with
 | .defer _=>false
 | _=>true
theorem yL.ne {o:Oper} (h:yL o=true):∀ c,o.op≠.defer c:=fun c e=>by simp [yL,e] at h
theorem zcT {F:Fence} (hF:zbc P F) (n:Nat) {o:Oper} {a:Act} {w:World} {K:Act->World->Prop} {Q:Exit->Act->World->Prop} (hd:yL o=true) (h:o.wp P a w K Q):o.wpIn F n P a w K Q:=by
 refine ⟨fun f _=>hF.fn f,?_⟩
 rw [Oper.semAt_eq F.round a.eval o (yL.ne hd)]
 unfold Oper.wp at h
 have hn:F.depth.isSome=true->1<=n:=by rw [hF.dep];intro h;cases h
 generalize (execOp a.eval o).run P w=r at *
 cases r with
 | ok x w' =>
  cases x<;>simp only [Oper.upon,Oper.uponIn] at h ⊢
  case value v=>exact h
  case skip=>exact h
  case defer d=>exact h
  case enter f args=>exact ⟨hn,hF.calls _ _ _ _ _ h⟩
  case row row args=>exact ⟨hn,hF.rows _ _ _ _ _ h⟩
 | halt x w' =>
  cases x<;>simp only [Oper.upon,Oper.uponIn] at h ⊢
  case panic u=>exact h
theorem zkM {o:Oper} {a:Act} {w:World} {K:Act->World->Prop} {Q Q':Exit->Act->World->Prop} (hp:∀ c a w,Q (.panic c) a w->Q' (.panic c) a w) (hl:LetsOut Q->LetsOut Q') (h:o.wp P a w K Q):o.wp P a w K Q':=by
 unfold Oper.wp at *
 generalize (execOp a.eval o).run P w=r at *
 cases r with
 | ok x w' =>
  cases x<;>simp only [Oper.upon] at h ⊢
  case value v=>exact h
  case skip=>exact h
  case defer d=>exact h
  case enter f args =>
   refine Calls.mono h fun e w'' he=>?_
   cases e with
   | returned v=>exact he
   | panicked c=>exact hp _ _ _ he
   | outgrown=>exact hl he
  case row row args=>exact h
 | halt x w' =>
  cases x<;>simp only [Oper.upon] at h ⊢
  case panic u=>exact hp _ _ _ h
theorem uB {F:Fence} (hF:zbc P F) (n:Nat) {ops:Array Oper} {K1 K:Act->World->Prop} {post:List Oper} (hpost:∀ a w,K1 a w->wpListIn F n P ops (vJ K) post a w) :
  ∀ (pre:List Oper) (a:Act) (w:World),pre.all yL=true->wpList P ops (vJ K1) pre a w->wpListIn F n P ops (vJ K) (pre++post) a w
 | [],a,w,_,h=>hpost a w h
 | o::pre,a,w,hd,h=>by
  simp only [List.all_cons,Bool.and_eq_true] at hd
  rw [wpList] at h
  rw [List.cons_append,wpListIn]
  split at h
  ·rename_i hw
   rw [if_pos hw]
   rcases h with h | h
   ·have h2:o.wp P a w (wpListIn F n P ops (vJ K) (pre++post)) (vJ K):=by
     have h3:o.wp P a w (wpListIn F n P ops (vJ K) (pre++post)) (vJ K1):=Oper.wp_mono (fun a w h=>uB hF n hpost pre a w hd.2 h) h
     exact zkM (fun _ _ _ h=>(h:False).elim) (fun h=>(vJ.lets h).elim) h3
    exact zcT hF n hd.1 h2
   ·exact (vJ.lets h.2).elim
  ·rename_i hw
   rw [if_neg hw]
   exact ⟨fun f _=>hF.fn f,uB hF n hpost pre _ _ hd.2 h⟩
theorem ym {F:Fence} (hF:zbc P F) (n:Nat) {id:Nat} {ops:Array Oper} {K:Act->World->Prop} {Q:Exit->Act->World->Prop} {a:Act} {w:World} (hd:ops.toList.all yL=true) (hq:∀ a w,K a w->Q .normal a w) (h:wpList P ops (vJ K) ops.toList a w):(Code.region id ops false).wpIn F n P Q a w:=by
 refine wpIn_mono (wpIn_region_list (ops:=ops) (Q:=vJ K) ?_) (vJ.imp hq)
 have:=uB hF n (K1:=K) (K:=K) (post:=[]) (ops:=ops) (fun a w h=>h) ops.toList a w hd h
 rwa [List.append_nil] at this
theorem QR {F:Fence} (hF:zbc P F) (n:Nat) {md:Region.Mode} {ops:Array Oper} {K:Act->World->Prop} (hd:ops.toList.all yL=true):∀ (fuel:Nat) (listed:Array Bool) (a:Act) (w:World),wpAny P md ops (vJ K) fuel listed a w->wpAnyIn F n P md ops (vJ K) fuel listed a w
 | 0,_,_,_,h=>h
 | fuel+1,listed,a,w,h=>by
  refine ⟨h.1,fun i hi=>?_⟩
  have h2:=h.2 i hi
  unfold wpOp at h2
  unfold wpOpIn
  split
  ·rename_i ho;rw [ho] at h2;exact QR hF n hd fuel _ a w h2
  ·rename_i o ho
   rw [ho] at h2
   simp only at h2
   have hod:yL o=true:=by
    have:=List.all_eq_true.1 hd o (by
     rw [Array.getElem?_eq_some_iff] at ho
     obtain ⟨h1,h2⟩:=ho
     rw [<- h2];exact Array.mem_toList_iff.2 (Array.getElem_mem h1))
    exact this
   split
   ·rename_i hw
    rw [if_pos hw] at h2
    rcases h2 with h2 | h2
    ·exact zcT hF n hod (Oper.wp_mono (fun a w h=>QR hF n hd fuel _ a w h) h2)
    ·exact (vJ.lets h2.2).elim
   ·rename_i hw
    rw [if_neg hw] at h2
    exact ⟨fun f _=>hF.fn f,QR hF n hd fuel _ _ w h2⟩
theorem zaR {F:Fence} (hF:zbc P F) (n:Nat) (hm:P.follows .mixedOrders=true) {id:Nat} {ops:Array Oper} {K:Act->World->Prop} {Q:Exit->Act->World->Prop} {a:Act} {w:World} (hd:ops.toList.all yL=true) (hq:∀ a w,K a w->Q .normal a w)
  (h:wpAny P .any ops (vJ K) ops.size (Array.replicate ops.size false) a w.drew):(Code.region id ops true).wpIn F n P Q a w :=
 wpIn_mono (wpIn_region_any (Q:=vJ K) hm (QR hF n hd _ _ _ _ h)) (vJ.imp hq)
end
end
end Go.Proofs.YtechnoogjhohfaaGreat
namespace Go.Proofs.YtechnoogjhohfaaGreat
open Go.RowKit Go.Lib
open YtechnoogjhohfaaGreatW
section
section
variable {P:Program}
theorem zdn {F:Fence} (hF:zbc P F) {id n:Nat} {ops:Array Oper} {K:Act->World->Prop} {Q:Exit->Act->World->Prop} {S:World->Prop} {ds:List Nat} {a:Act} {w:World} (l:Array Bool) (hd:ops.toList.all yL=true) (hq:∀ a w,K a w->Q .normal a w) (hm:P.follows .mixedOrders=true) (hn:ops.size=n) (hl:Array.replicate n false=l) (hS:S w.drew)
  (h:S w.drew->PrintLast.wpAnyLast P .any ops (vJ K) S ds n l a w.drew):(Code.region id ops true).wpIn F 0 P Q a w:=by
 subst hn
 subst hl
 exact zaR hF 0 hm hd hq (PrintLast.wpAny_of_last _ _ _ _ (h hS))
def KW (P:Program) (o:Oper) (a:Act) (w:World) (K:Value->World->Prop):Prop :=
 ∃ l x xs ts args,o.op=.call { callee:=.value x,args:=xs,argTypes:=ts }/\a.eval x=.func (.yield l) #[] #[]/\xs.toList.map a.eval=args/\YieldAt Fence.wide 0 P l args.toArray w fun e w'=>∃ v,e=.returned v/\K v w'
theorem KW.wpIn {o:Oper} {a:Act} {w:World} {K:Act->World->Prop} {Q:Exit->Act->World->Prop} (h:KW P o a w fun v w'=>K (a.put o.dst v) w'):o.wpIn Fence.wide 0 P a w K Q:=by
 obtain ⟨l,x,xs,ts,args,hop,hx,hargs,fn,tmps,assign,body,hrun,hr⟩:=h
 refine ⟨fun _ _=>trivial,?_⟩
 have he:(o.semAt Fence.wide.round a.eval).run P w=.ok (.round l fn tmps assign body) w:=by
  rw [Oper.semAt_eq _ _ _ (by intro c e;rw [hop] at e;cases e)]
  unfold execOp
  simp only [hop,resolve,hx,Deferred.ofValue,invoke,Sem.run_bind,Sem.run_pure,Result.andThen_ok]
  rw [show (Array.map (fun x=>a.eval x) xs)=args.toArray by rw [<- hargs];apply Array.toList_inj.1;rw [Array.toList_map]]
  simpa using hrun
 rw [he]
 refine ⟨fun h=>(by cases h),?_⟩
 refine RoundIn.mono hr ?_
 rintro e w' ⟨v,rfl,hk⟩
 exact hk
theorem Jk {id:Nat} {ops:Array Oper} {pre post:List Oper} {o:Oper} {K:Act->World->Prop} {Q:Exit->Act->World->Prop} {a:Act} {w:World} (hops:ops.toList=pre++o::post) (hd1:pre.all yL=true) (hd2:post.all yL=true) (hq:∀ a w,K a w->Q .normal a w)
  (h:wpList P ops (vJ fun a1 w1=>Region.wanted o (yielded ops a1.tmps)=true/\KW P o a1 w1 fun v w2=>wpList P ops (vJ K) post (a1.put o.dst v) w2) pre a w):(Code.region id ops false).wp P Q a w:=by
 refine wpIn_wide.1 (wpIn_mono (n:=0) (Q:=vJ K) ?_ (vJ.imp hq))
 refine wpIn_region_list ?_
 rw [hops]
 refine uB zdr 0 ?_ pre a w hd1 h
 rintro a1 w1 ⟨hw,hy⟩
 rw [wpListIn,if_pos hw]
 refine KW.wpIn ?_
 obtain ⟨l,x,xs,ts,args,h1,h2,h3,f,t,c,b,h4,h5⟩:=hy
 refine ⟨l,x,xs,ts,args,h1,h2,h3,f,t,c,b,h4,h5.mono ?_⟩
 rintro e w2 ⟨v,rfl,hk⟩
 refine ⟨v,rfl,?_⟩
 have:=uB (P:=P) zdr 0 (K1:=K) (K:=K) (post:=[]) (ops:=ops) (fun a w h=>h) post _ _ hd2 hk
 rwa [List.append_nil] at this
theorem Qn {w:World} {k:Nat} {o:Obj} (h:w.heap[k]?=some o):k<w.heap.size:=(Array.getElem?_eq_some_iff.1 h).1
structure uP (b:Nat) (W W':World):Prop where
 size:W.heap.size<=W'.heap.size
 same:W'.heap[b]?=W.heap[b]?
 same1:W'.heap[b+1]?=W.heap[b+1]?
theorem uP.refl (b:Nat) (W:World):uP b W W:=⟨Nat.le_refl _,rfl,rfl⟩
theorem uP.trans {b:Nat} {A B C:World} (h:uP b A B) (k:uP b B C):uP b A C:=⟨Nat.le_trans h.size k.size,k.same.trans h.same,k.same1.trans h.same1⟩
theorem uP.below {b B:Nat} {A C:World} (h:Below B A C) (hb:b+1<B):uP b A C:=⟨h.size,h.block b (by omega),h.block (b+1) hb⟩
def zeM (P:Program) (gf:FuncId) (bound caps:Array Value) (N:Nat) (args:Nat->Array Value) (I:Nat->World->Prop):Prop :=
 ∀ (l:Nat) (J:Nat->World->Prop) (W:World),(∀ k W,J k W->I k W)->(∀ k W W',J k W->Below W.heap.size W W'->J k W')->(∀ k W,k<N->J k W->YieldAt Fence.wide 0 P l (args k) W fun e W'=>e=.returned (.bool true)/\J (k+1) W')->J 0 W ->
  Calls P gf (bound++#[.func (.yield l) #[] #[]]++caps) W fun e W'=>(∃ v,e=.returned v)/\J N W'
theorem Jp {g:Operand} {ps:Array Tmp} {assign body:Code} {Q:Exit->Act->World->Prop} {a:Act} {w:World} {gf:FuncId} {bound caps:Array Value} (hg:a.eval g=.func (.func gf) bound caps)
  (hf : (P.funcs[gf]?).map (fun fn => (fn.name == "runtime.NumGoroutine", fn.body.isSome)) = some (false, true)) (N : Nat) (args : Nat -> Array Value) (hargs : ∀ k, (args k).size = ps.size) (I : Nat -> World -> Prop)
  (h0:∀ rec,I 0 ((w.alloc (.deferred (some []))).alloc (.loop rec)))
  (hput:∀ k W o,I k W->w.heap.size+1<W.heap.size->I k (W.putObj (w.heap.size+1) o))
  (hbel:∀ k W W',I k W->Below W.heap.size W W'->I k W')
  (hiter:zeM P gf bound caps N args I)
  (hround:∀ k W,k<N->I k W->w.heap.size+1<W.heap.size->assign.wpIn (Fence.wide.inRound (w.heap.size+1)) 0 P (Exit.then (fun a1 W1=>uP w.heap.size W W1/\∀ o,body.wpIn (Fence.wide.inRound (w.heap.size+1)) 0 P (vJ fun _ W'=>I (k+1) W'/\uP w.heap.size (W1.putObj (w.heap.size+1) o) W') a1 (W1.putObj (w.heap.size+1) o)) (fun _ _ _=>False)) { tmps:=(ps.zip (args k)).foldl (fun t (p,v)=>t.setIfInBounds p v) a.tmps,defers:=[] } W)
  (hend:∀ W,I N W->W.heap[w.heap.size]?=some (.deferred (some []))->Q .normal { a with defers:={ target:=.collected w.heap.size,args:=#[] }::a.defers } W) :
  (Code.rangeFunc g ps assign body).wp P Q a w:=by
 refine (wpIn_wide (n:=0)).1 (wpIn_rangeFunc ?_)
 intro fn _
 obtain ⟨rec,hrec⟩:∃ rec:LoopState->Option Code->Loop,rec=fun st pe=>{ state:=st,pending:=pe,fn,tmps:=a.tmps,params:=ps,assign,body,defers:=w.heap.size }:=⟨_,rfl⟩
 obtain ⟨W1,hW1⟩:∃ W1,(w.alloc (.deferred (some []))).alloc (.loop (rec .ready none))=W1:=⟨_,rfl⟩
 have hL1:W1.heap[w.heap.size+1]?=some (.loop (rec .ready none)):=by
  rw [<- hW1];have:=World.alloc_heap_new (w.alloc (.deferred (some []))) (.loop (rec .ready none));rwa [World.size_alloc] at this
 have hK1:W1.heap[w.heap.size]?=some (.deferred (some [])):=by
  rw [<- hW1];exact (Below.heap_alloc _ _ _ (by simp)).trans (World.alloc_heap_new w _)
 have hI1:I 0 W1:=by rw [<- hW1];exact h0 _
 have he:(callFunc gf (bound++#[.func (.yield (w.heap.size+1)) #[] #[]]++caps)).run P W1=.ok (.enter gf (bound++#[.func (.yield (w.heap.size+1)) #[] #[]]++caps)) W1:=by
  cases hq:P.funcs[gf]? with
  | none=>simp [hq] at hf
  | some fn =>
   simp only [hq,Option.map_some,Option.some.injEq,Prod.mk.injEq] at hf
   exact PrintLast.enters_ hq hf.1 hf.2 _ W1
 refine ⟨w.heap.size+1,[{ target:=.collected w.heap.size,args:=#[] }],W1,{ target:=.fn (.func gf) caps,args:=bound++#[.func (.yield (w.heap.size+1)) #[] #[]] },W1,gf,
  bound++#[.func (.yield (w.heap.size+1)) #[] #[]]++caps,W1,?_,?_,fun _ _=>trivial,?_,fun h=>(by cases h),?_⟩
 ·rw [<- hW1,hrec];exact run_enterLoop_outer _ _ _ _ _
 ·simp only [resolve,hg]
  simp [go_sem,Deferred.ofValue]
 ·simp only [invoke];exact he
 ·refine callsIn_wide.2 ((hiter (w.heap.size+1) (fun k W=>I k W/\W.heap[w.heap.size+1]?=some (.loop (rec .ready none))/\W.heap[w.heap.size]?=some (.deferred (some []))) W1 (fun k W h=>h.1) ?_ ?_ ⟨hI1,hL1,hK1⟩).mono ?_)
  ·rintro k W W' ⟨h1,h2,h3⟩ hb
   exact ⟨hbel k W W' h1 hb,(hb.block _ (Qn h2)).trans h2,(hb.block _ (Qn h3)).trans h3⟩
  ·rintro k W hk ⟨hi,hl,hd⟩
   have hlt:w.heap.size+1<W.heap.size:=Qn hl
   have hy:=run_yield (P:=P) (args:=args k) hl (by rw [hrec];exact hargs k)
   rw [hrec] at hy
   refine ⟨fn,_,assign,body,hy,roundIn_of_wpIn trivial (wpIn_mono (hround k W hk hi hlt) ?_)⟩
   intro e a1 W2 hq
   cases e with
   | normal =>
    obtain ⟨hloc,hbody⟩:=hq
    have hl2:=hloc.same1.trans hl
    have hlt2:w.heap.size+1<W2.heap.size:=Qn hl2
    refine ⟨_,run_beginRound hl2 (by rw [hrec]),?_⟩
    refine wpIn_mono (hbody _) ?_
    intro e3 a3 W3 hq3
    cases e3 with
    | normal =>
     obtain ⟨hi3,hloc3⟩:=hq3
     have hl3:=hloc3.same1.trans (World.putObj_heap_same hlt2)
     have hd3:=(hloc3.same.trans (World.putObj_heap_other (by omega))).trans (hloc.same.trans hd)
     have hlt3:w.heap.size+1<W3.heap.size:=Qn hl3
     have hr3:=run_endRound (P:=P) none hl3
     refine ⟨_,_,hr3,rfl,hput _ _ _ hi3 hlt3,?_,(World.putObj_heap_other (by omega)).trans hd3⟩
     rw [World.putObj_heap_same hlt3,hrec]
     rfl
    | _=>exact (hq3:False).elim
   | _=>exact (hq:False).elim
  ·rintro e W2 ⟨⟨v,rfl⟩,hi,hl,hd⟩
   have hlt:w.heap.size+1<W2.heap.size:=Qn hl
   refine ⟨none,_,by have:=run_endLoop (P:=P) hl (by rw [hrec];simp);rw [hrec] at this;exact this,?_⟩
   exact hend _ (hput _ _ _ hi hlt) ((World.putObj_heap_other (by omega)).trans hd)
end
end
end Go.Proofs.YtechnoogjhohfaaGreat
