/-
  Joined by a program from texts written one by one: part 14 of the walk through the program and of the law behind it.
-/
import Derived.Test.YtechnoogjhohfaaGreatC13
import Derived.ChangeKeysEq
set_option maxRecDepth 100000
set_option maxHeartbeats 6400000
set_option linter.unusedVariables false
set_option linter.unusedSimpArgs false
namespace Go.Proofs.YtechnoogjhohfaaGreat
open Go.RowKit Go.Lib
open YtechnoogjhohfaaGreatW
theorem YU {F:Fence} {m:Nat} {P:Program} {l:Nat} {args:Array Value} {W:World} {R R':Ending->World->Prop} (h:YieldAt F m P l args W R) (hr:∀ e w,R e w->R' e w):YieldAt F m P l args W R':=by
 obtain ⟨fn,tmps,assign,body,hy,hR⟩:=h
 exact ⟨fn,tmps,assign,body,hy,hR.mono hr⟩
abbrev qL:=List (Option (Nat × Tx))
def jV (ts:qL):List Value:=ts.map fun o=>.pointer (o.map fun p=>⟨p.1,0,none⟩)
theorem YQ (ts:qL):(jV ts).length=ts.length:=by simp [jV]
def qM:qL->Nat->List (Nat × Nat × Tx)
 | [],_=>[]
 | none::l,i=>qM l (i+1)
 | some (b,x)::l,i=>(i,b,x)::qM l (i+1)
def zH (ts:qL):List (Nat × Nat × Tx):=qM ts 0
theorem ub:∀ (a b:qL) (i:Nat),qM (a++b) i=qM a i++qM b (i+a.length)
 | [],b,i=>by simp [qM]
 | none::a,b,i=>by simp only [List.cons_append,qM,ub a b,List.length_cons];rw [show i+1+a.length=i+(a.length+1) by omega]
 | some (c,x)::a,b,i=>by simp only [List.cons_append,qM,ub a b,List.length_cons];rw [show i+1+a.length=i+(a.length+1) by omega]
theorem zak {ts:qL} {i:Nat} (h:ts[i]?=some none):zH (ts.take (i+1))=zH (ts.take i):=by
 obtain ⟨hl,hx⟩:=List.getElem?_eq_some_iff.1 h
 rw [List.take_succ_eq_append_getElem hl,hx]
 unfold zH
 rw [ub];simp [qM]
theorem YJ {ts:qL} {i b:Nat} {x:Tx} (h:ts[i]?=some (some (b,x))):zH (ts.take (i+1))=zH (ts.take i)++[(i,b,x)]:=by
 obtain ⟨hl,hx⟩:=List.getElem?_eq_some_iff.1 h
 rw [List.take_succ_eq_append_getElem hl,hx]
 unfold zH
 rw [ub]
 simp [qM,Nat.min_eq_left (Nat.le_of_lt hl)]
theorem ziD {ts:qL} {i b:Nat} {x:Tx} (h:ts[i]?=some (some (b,x))):(zH ts)[(zH (ts.take i)).length]?=some (i,b,x):=by
 have h1:zH ts=zH (ts.take (i+1))++qM (ts.drop (i+1)) (0+(ts.take (i+1)).length):=by
  conv=>lhs;rw [<- List.take_append_drop (i+1) ts]
  exact ub _ _ 0
 rw [h1,YJ h,List.append_assoc,List.getElem?_append_right (Nat.le_refl _)]
 simp
def vH (ts:qL) (k:Nat):Array Value:=match (zH ts)[k]? with
 | some (i,b,_)=>#[.int .i64 i,.pointer (some ⟨b,0,none⟩)]
 | none=>#[.int .i64 0,.pointer none]
def yg (w:World) (S:Nat) (ts:qL):Prop:=∃ C:Array Value,w.heap[S]?=some (.cells C 103 (0,0))/\∀ i,i<4->C[1+i]?=(jV ts)[i]?
theorem yg.range {w:World} {S:Nat} {ts:qL} (h:yg w S ts) (h4:ts.length=4):w.rangeAt S 1 (jV ts):=by
 obtain ⟨C,h1,h2⟩:=h
 intro j v hv
 have hj:j<4:=by have:=(List.getElem?_eq_some_iff.1 hv).1;rw [YQ] at this;omega
 rw [cell_of_row w S (1+j) C 103 _ h1,h2 j hj,hv]
theorem zkA:(Tryz.prog.info? 93).map (fun i=>(i.zero,i.size,i.bytes))=some (some (.pointer none),1,8):=by kernel_rfl
theorem zfx (w:World):(sizeOf 93).run Tryz.prog w=.ok 1 w:=by
 obtain ⟨i0,hi,hz0,hz1,hz2⟩:=info_parts zkA
 simp [sizeOf,typeInfo,hi,hz1]
theorem zjI (w:World) (cs:Array Value) (i:Nat) (v:Value) (h:cs[i]?=some v) (hi:i<4):(Instr.index 94 (.agg cs) (.int .i64 i)).run Tryz.prog w=.ok v w:=by
 have hn:(0:Int)<=(i:Int)/\(i:Int)<4:=by omega
 have hp:(part 93 cs i).run Tryz.prog w=.ok v w:=by simp [part,isAgg,run_underlying Tryz.underlying93,h]
 simp only [Instr.index,run_underlying Tryz.underlying94,asIntOf,Sem.run_bind,Sem.run_pure,Result.andThen_ok]
 rw [if_pos (by exact hn)]
 simp only [Sem.run_bind,zfx,Result.andThen_ok,Int.toNat_natCast,Nat.mul_one,hp]
theorem JE {o:Oper} {a:Act} {w:World} (x y:Operand) (ho:o.op=.index 94 x y) (cs:Array Value) (hx:a.eval x=.agg cs) (i:Nat) (hy:a.eval y=.int .i64 i) (v:Value) (h:cs[i]?=some v) (hi:i<4):(execOp a.eval o).run Tryz.prog w=.ok (.value v) w:=by
 unfold execOp
 simp only [ho,hx,hy,Sem.run_bind,zjI w cs i v h hi,Result.andThen_ok,Sem.run_pure]
theorem zaD (S:Nat) (ts:qL) (I:Nat->World->Prop) (h4:ts.length=4) (hI:∀ W,I 0 W->yg W S ts):zeM Tryz.prog 68 #[.pointer (some ⟨S,1,none⟩)] #[] (zH ts).length (vH ts) I:=by
 intro l J w hJI hJB hst h0
 show Calls Tryz.prog 68 #[.pointer (some ⟨S,1,none⟩),.func (.yield l) #[] #[]] w _
 obtain ⟨HST,HJB,H0⟩:=zi3 hst hJB h0
 have HR:=hid ((hI _ (hJI _ _ h0)).range h4)
 have H4:=hid h4
 have hlen:(jV ts).length=4:=by rw [YQ,h4]
 have HLEN:=hid hlen
 clear hJI hJB hst h0 hI h4 hlen
 go_enter Tryz.func68,Tryz.ntmps68
 go_upto_region 1 with (show wpList _ _ _ (⟨some 9,_,_,_,_,_⟩::_) _ _;refine zZ rfl _ _ (qy 94 (.tmp 8) rfl S 1 (by rfl) (jV ts) _ HR.out Tryz.underlying94 rfl (by rw [HLEN.out];kernel_rfl)) ?_)
 go_loopw [10] (fun u wr=>∃ i:Nat,i<=4/\u=.int .i64 i/\J (zH (ts.take i)).length wr) (fun u _=>(4-jl u).toNat)
 case atStart=>exact ⟨0,Nat.zero_le _,rfl,by simpa [zH,qM] using H0.out⟩
 case round =>
  obtain ⟨i,hi,rfl,hj⟩:=hrel
  by_cases hlt:i<4
  ·have q1:(i:Int)<4:=by omega
   have x2:IntKind.i64.wrap ((i:Int)+1)=(i:Int)+1:=by rw [IntKind.wrap_i64];omega
   obtain ⟨o,ho⟩:∃ o,ts[i]?=some o:=⟨_,List.getElem?_eq_getElem (by rw [H4.out];omega)⟩
   cases o with
   | none =>
    have hv:(jV ts).toArray[i]?=some (.pointer none):=by simp [jV,ho]
    obtain ⟨HV,HJ,HO⟩:=zi3 hv hj ho
    clear hv hj ho
    go_wp2_with (show wpList _ _ _ (⟨some 13,_,_,_,_,_⟩::_) _ _;refine zZ rfl _ _ (JE (.tmp 9) (.tmp 10) rfl (jV ts).toArray (by rfl) i (by rfl) _ HV.out hlt) ?_)
    go_roundw
    case rel=>exact ⟨i+1,by omega,by simp,by rw [zak HO.out];exact HJ.out⟩
    case measure=>simp [jl];omega
   | some p =>
    obtain ⟨b,x⟩:=p
    have hv:(jV ts).toArray[i]?=some (.pointer (some ⟨b,0,none⟩)):=by simp [jV,ho]
    have hat:=ziD ho
    have hargs:vH ts (zH (ts.take i)).length=#[.int .i64 i,.pointer (some ⟨b,0,none⟩)]:=by simp [vH,hat]
    have hy:=HST.out _ wr (List.getElem?_eq_some_iff.1 hat).1 hj
    rw [hargs] at hy
    obtain ⟨HV,HY,HO⟩:=zi3 hv hy ho
    clear hv hj ho hat hargs hy
    go_upto_region 3 with (show wpList _ _ _ (⟨some 13,_,_,_,_,_⟩::_) _ _;refine zZ rfl _ _ (JE (.tmp 9) (.tmp 10) rfl (jV ts).toArray (by rfl) i (by rfl) _ HV.out hlt) ?_)
    refine Jk (pre:=[_,_,_,_,_,_]) (post:=[_,_]) rfl rfl rfl (fun _ _ h=>h) ?_
    go_wp2_with fail
    refine ⟨by rfl,l,.tmp 17,_,_,_,rfl,by rfl,by rfl,YU HY.out ?_⟩
    rintro e1 w5 ⟨rfl,hj5⟩
    refine ⟨_,rfl,?_⟩
    go_wp2_with fail
    refine (by assumption:∀ a w,Code.wp Tryz.prog (Code.cond (.tmp 22) Code.ret Code.skip) _ a w->_) _ _ ?_
    go_wp2_with fail
    go_roundw
    case rel=>exact ⟨i+1,by omega,by simp,by rw [YJ HO.out,List.length_append];exact hj5⟩
    case measure=>simp [jl];omega
  ·have hie:i=4:=by omega
   subst hie
   have HJ:=hid hj
   clear hj
   go_wp2_with fail
   refine uN rfl rfl ?_
   refine ⟨⟨_,rfl⟩,?_⟩
   have h9:=HJ.out
   rw [List.take_of_length_le (by rw [H4.out];omega)] at h9
   exact h9
theorem uQ {P:Program} {f:FuncId} {fn:Func} {c:Code} {args:Array Value} {w:World} {R:Ending->World->Prop} (hf:P.funcs[f]?=some fn) (hb:fn.body=some c)
  (h:c.wp P (bodyPostM Fence.wide 0 P fn R) { tmps:=args++Array.replicate (fn.ntmps-args.size) undef,defers:=[] } w):Calls P f args w R :=
 (callsIn_wide (n:=0)).1 (callsIn_of_wp_marks hf hb trivial (wpIn_wide.2 h))
theorem Below.put {B l:Nat} {w W:World} (h:Below B w W) (hl:B<=l) (o:Obj):Below B w (W.putObj l o):=⟨h.os,h.tape,h.output,by rw [World.putObj_size];exact h.size,fun k hk=>(World.putObj_heap_other (by omega)).trans (h.block k hk)⟩
def jK (l:List (Nat × Nat × Tx)):Nat:=(l.map fun p=>p.2.2.list.length).sum
structure jZ (w:World) (S:Nat) (ts:qL) (G:Nat->Nat->Prop):Prop where
 len:ts.length=4
 zero:ts[0]?=some none
 row:yg w S ts
 tx:∀ i b x,ts[i]?=some (some (b,x))->vn w b x (G i)/\x.ok
 sep:∀ i j b,i≠j->G i b->¬ G j b
 emp:∀ i,(∀ p,ts[i]?≠some (some p))->∀ b,¬ G i b
theorem yg.same {w w':World} {S:Nat} {ts:qL} (h:yg w S ts) (hs:w'.heap[S]?=w.heap[S]?):yg w' S ts:=by
 obtain ⟨C,h1,h2⟩:=h
 exact ⟨C,hs.trans h1,h2⟩
theorem yg.lt {w:World} {S:Nat} {ts:qL} (h:yg w S ts):S<w.heap.size:=by
 obtain ⟨C,h1,h2⟩:=h
 exact zd h1
theorem jZ.same {w w':World} {S:Nat} {ts:qL} {G:Nat->Nat->Prop} (h:jZ w S ts G) (hS:w'.heap[S]?=w.heap[S]?) (hs:∀ i k,G i k->w'.heap[k]?=w.heap[k]?) (hz:w.heap.size<=w'.heap.size):jZ w' S ts G :=
 ⟨h.len,h.zero,h.row.same hS,fun i b x hx=>⟨(h.tx i b x hx).1.same (hs i) hz,(h.tx i b x hx).2⟩,h.sep,h.emp⟩
theorem jZ.lt {w:World} {S:Nat} {ts:qL} {G:Nat->Nat->Prop} (h:jZ w S ts G) {i k:Nat} (hk:G i k):k<w.heap.size:=by
 by_cases e:∃ p,ts[i]?=some (some p)
 ·obtain ⟨⟨b,x⟩,e⟩:=e
  exact (h.tx i b x e).1.lt k hk
 ·exact (h.emp i (fun p hp=>e ⟨p,hp⟩) k hk).elim
theorem jZ.below {w w':World} {S:Nat} {ts:qL} {G:Nat->Nat->Prop} (h:jZ w S ts G) (hb:Below w.heap.size w w'):jZ w' S ts G:=h.same (hb.block S h.row.lt) (fun i k hk=>hb.block k (h.lt hk)) hb.size
theorem Zc:∀ {ts:qL} {i j b:Nat} {x:Tx},(j,b,x)∈qM ts i->∃ k,j=i+k/\ts[k]?=some (some (b,x))
 | [],_,_,_,_,h=>by simp [qM] at h
 | none::l,i,j,b,x,h=>by
  obtain ⟨k,h1,h2⟩:=Zc (ts:=l) h
  exact ⟨k+1,by omega,h2⟩
 | some (c,y)::l,i,j,b,x,h=>by
  simp only [qM,List.mem_cons] at h
  rcases h with h | h
  ·cases h;exact ⟨0,rfl,rfl⟩
  ·obtain ⟨k,h1,h2⟩:=Zc (ts:=l) h
   exact ⟨k+1,by omega,h2⟩
theorem QA (ts:qL) (k:Nat):(vH ts k).size=2:=by
 unfold vH;split<;>rfl
theorem JT {ts:qL} {k i b:Nat} {x:Tx} (h:(zH ts)[k]?=some (i,b,x)):vH ts k=#[.int .i64 i,.pointer (some ⟨b,0,none⟩)]:=by simp [vH,h]
theorem jP:∀ (ts:qL) (i:Nat),(qM ts i).length<=ts.length
 | [],_=>Nat.le_refl _
 | none::l,i=>by have:=jP l (i+1);simp [qM];omega
 | some (_,_)::l,i=>by have:=jP l (i+1);simp [qM];omega
theorem jZ.open_ {w:World} {S:Nat} {ts:qL} {G:Nat->Nat->Prop} (h:jZ w S ts G) {k i b:Nat} {x:Tx} (hk:(zH ts)[k]?=some (i,b,x)):ts[i]?=some (some (b,x)):=by
 obtain ⟨j,h1,h2⟩:=Zc (List.mem_of_getElem? hk)
 rw [h1,Nat.zero_add];exact h2
theorem GY {l:List (Nat × Nat × Tx)} {k i b:Nat} {x:Tx} (h:l[k]?=some (i,b,x)):jK (l.take (k+1))=jK (l.take k)+x.list.length:=by
 obtain ⟨hl,hx⟩:=List.getElem?_eq_some_iff.1 h
 rw [List.take_succ_eq_append_getElem hl,hx]
 simp [jK]
theorem jZ.chgs_le {w:World} {S:Nat} {ts:qL} {G:Nat->Nat->Prop} (h:jZ w S ts G):∀ k,k<=(zH ts).length->jK ((zH ts).take k)<=8*k
 | 0,_=>by simp [jK]
 | k+1,hk=>by
  obtain ⟨⟨i,b,x⟩,hx⟩:∃ p,(zH ts)[k]?=some p:=⟨_,List.getElem?_eq_getElem (by omega)⟩
  have h1:=h.chgs_le k (by omega)
  have h2:=(h.tx i b x (h.open_ hx)).2
  rw [GY hx]
  have:=h2.len;have:=h2.n8
  omega
theorem zdw (S:Nat) (ts:qL) (G:Nat->Nat->Prop) (w:World) (h:jZ w S ts G) :
  Calls Tryz.prog 141 #[.pointer (some ⟨S,1,none⟩)] w fun e w'=>e=.returned (.int .i64 (jK (zH ts)))/\Below w.heap.size w w':=by
 have H:=hid h
 clear h
 refine uQ Tryz.func141 rfl ?_
 simp only [Tryz.ntmps141,List.size_toArray,List.length_cons,List.length_nil,Nat.reduceAdd,Nat.reduceSub,Array.replicate_succ,Array.replicate_zero,List.push_toArray,List.append_toArray,List.nil_append,List.cons_append]
 go_wp2_with fail
 refine Jp (gf:=68) (bound:=#[.pointer (some ⟨S,1,none⟩)]) (caps:=#[]) (by rfl) (by kernel_rfl) (zH ts).length (vH ts) (QA ts) (fun k W=>Below w.heap.size w W/\W.heap[w.heap.size]?=some (.cells #[.int .i64 (jK ((zH ts).take k))] 3 (0,0))) ?h0 ?hput ?hbel (zaD S ts _ H.out.len (fun W hW=>H.out.row.same (hW.1.block S H.out.row.lt))) ?hround ?hend
 case h0=>exact fun rec=>⟨B_alloc (B_alloc (B_alloc (Below.refl _ _) _) _) _,zy (zy (zk _ _ rfl) _) _⟩
 case hput=>exact fun k W o ⟨h1,h2⟩ hl=>⟨Below.put h1 (by simp;omega) o,(World.putObj_heap_other (by simp;omega)).trans h2⟩
 case hbel=>exact fun k W W' ⟨h1,h2⟩ hb=>⟨B_call h1 hb,zb h2 hb (zd h2)⟩
 case hround =>
  rintro k W hk ⟨h1,h2⟩ hl
  obtain ⟨⟨i,b,x⟩,hx⟩:∃ p,(zH ts)[k]?=some p:=⟨_,List.getElem?_eq_getElem hk⟩
  obtain ⟨htx,hok⟩:=H.out.tx i b x (H.out.open_ hx)
  have htxW:=htx.below h1
  obtain ⟨lv,sv,hb,hlo,_⟩:=htxW.ex
  obtain ⟨A,c,rfl⟩:=own_slice hlo
  rw [JT hx]
  have hle:=H.out.chgs_le k (by omega)
  have h4:(zH ts).length<=4:=by have:=jP ts 0;rw [H.out.len] at this;exact this
  have hst:=GY hx
  have h8:=hok.len
  have h88:=hok.n8
  simp only [List.zip_toArray,List.zip_cons_cons,List.zip_nil_right,List.foldl_toArray,List.foldl_cons,List.foldl_nil,List.setIfInBounds_toArray,List.set_cons_succ,List.set_cons_zero]
  have hS:W.heap[w.heap.size]?=some (.cells #[.int .i64 (jK ((zH ts).take k))] 3 (0,0)):=h2
  obtain ⟨H2,HST,HTX,HTX0⟩:=zi4 h2 hst htxW htx
  clear hx htx htxW hlo hst h2
  refine ym (vr _) 0 rfl (fun _ _ h=>h) ?_
  go_wp2_with fail
  refine ⟨uP.refl _ _,fun o=>?_⟩
  refine wpIn_block ?_
  obtain ⟨W2,hW2⟩:∃ W2,W.putObj ((w.alloc (.cells #[.int .i64 0] 3)).heap.size+1) o=W2:=⟨_,rfl⟩
  rw [hW2]
  have hS2:W2.drew.heap[w.heap.size]?=some (.cells #[.int .i64 (jK ((zH ts).take k))] 3 (0,0))/\W2.drew.heap[b]?=some (.cells #[.slice A x.list.length c,sv,.int .i64 x.ops] 208 (0,0)):=by
   rw [<- hW2]
   have hbl:=H.out.lt (HTX0.out.gT)
   exact ⟨(World.putObj_heap_other (by simp;omega)).trans H2.out,(World.putObj_heap_other (by simp;omega)).trans hb⟩
  have hsum:IntKind.i64.wrap ((jK ((zH ts).take k):Int)+(x.list.length:Int))=(jK ((zH ts).take (k+1)):Int):=by rw [HST.out,IntKind.wrap_i64];omega
  have hB2:Below w.heap.size w W2.drew:=by rw [<- hW2];exact (Below.put h1 (by simp;omega) o).drew
  have hz2:W2.heap.size=W.heap.size:=by rw [<- hW2];simp
  obtain ⟨HW2,HZ2⟩:=zi2 hW2 hz2
  have HS2:=hid hS2.1
  have HB2:=hid hB2
  clear hb hW2 hz2 hB2 h1
  refine zdn (vr _) (n:=8) (S:=(fun w'=>w'.heap[w.heap.size]?=some (.cells #[.int .i64 (jK ((zH ts).take k))] 3 (0,0))/\w'.heap[b]?=some (.cells #[.slice A x.list.length c,sv,.int .i64 x.ops] 208 (0,0)))) (ds:=[7]) (bA 8 0) rfl (fun _ _ h=>h) (by kernel_rfl) rfl (by kernel_rfl) hS2 (fun hHeld=>?_)
  refine tk 0 10 8 1 rfl rfl (Or.inl ⟨by rfl,fun _ h=>(by have k0:=(cell_of_row _ w.heap.size 0 _ _ _ h.1).trans (show _=some (Value.int .i64 (jK ((zH ts).take k))) from rfl);go_simp;with_reducible rfl)⟩) ?_
  refine pu 1 11 8 3 rfl rfl ?_
  refine pu 2 12 8 7 rfl rfl ?_
  refine pu 3 13 8 15 rfl rfl ?_
  refine tk 4 14 8 31 rfl rfl (Or.inl ⟨by rfl,fun _ h=>(by have k0:=(cell_of_row _ b 0 _ _ _ h.2).trans (show _=some (Value.slice A x.list.length c) from rfl);go_simp;with_reducible rfl)⟩) ?_
  refine pu 5 15 8 63 rfl rfl ?_
  refine pu 6 16 8 127 rfl rfl ?_
  refine la 7 8 255 none rfl rfl (fun K hK=>?_)
  show Oper.wp _ ⟨none,_,_,_,_,_⟩ _ _ _ _
  refine jp 3 (.tmp 3) (.tmp 16) rfl w.heap.size 0 _ 3 (.int .i64 (jK ((zH ts).take (k+1)))) (by rfl) (by go_simp) (by kernel_rfl) HS2.out (by simp) rfl ?_
  refine hK.out _ _ ?_
  clear hK K
  try simp only [pS]
  refine PrintLast.done_ (by kernel_rfl) ?_
  have hst3:(W2.drew.setCell ⟨w.heap.size,0,none⟩ (.int .i64 (jK ((zH ts).take (k+1))))).heap[w.heap.size]?=some (.cells #[.int .i64 (jK ((zH ts).take (k+1)))] 3 (0,0)):=by rw [heap_setCell_same _ _ 0 _ _ _ HS2.out];rfl
  refine ⟨⟨B_set HB2.out (p:=⟨w.heap.size,0,none⟩) (Nat.le_refl _) _,hst3⟩,Nat.le_of_eq (by simp),heap_setCell_other _ _ _ _ (by simp),heap_setCell_other _ _ _ _ (by simp;omega)⟩
 case hend =>
  rintro W ⟨h1,h2⟩ hD
  rw [List.take_length] at h2
  have k0:=(cell_of_row W w.heap.size 0 _ _ _ h2).trans (show _=some (Value.int .i64 (jK (zH ts))) from rfl)
  simp only [World.size_alloc] at hD
  have HD:=hid hD
  clear hD h2
  refine (by assumption:∀ a w,Code.wp Tryz.prog (Code.seq _ _) _ a w->_) _ _ ?_
  go_wp2_with fail
  refine ⟨by simp,.inl ⟨_,_,rfl,run_takeDeferred HD.out,?_⟩⟩
  refine ⟨_,results_tmp rfl _ _ _,rfl,?_⟩
  exact Below.put h1 (by omega) _
end Go.Proofs.YtechnoogjhohfaaGreat
