import Derived.Test.YtechnoogjhohfaaGreatM13
import Derived.Test.YtechnoogjhohfaaGreatM8
import Derived.ChangeKeysEq
set_option maxRecDepth 100000
set_option maxHeartbeats 6400000
set_option linter.unusedVariables false
set_option linter.unusedSimpArgs false
namespace Go.Proofs.YtechnoogjhohfaaGreat
open Go.RowKit Go.Lib
open YtechnoogjhohfaaGreatW Go.Proofs.Tryz Go.Proofs.YtechnoogjhohfaaGreat.Tryz
theorem KC {F:Fence} {m:Nat} {P:Program} {l:Nat} {args:Array Value} {W:World} {R u:Ending->World->Prop} (h:YieldAt F m P l args W R) (O:∀ e w,R e w->u e w):YieldAt F m P l args W u:=by obtain ⟨E,tmps,z,D,U,L⟩:=h;exact ⟨E,tmps,z,D,U,L.mono O⟩
abbrev qC:=List (Option (Nat × Tx))
def vI (ts:qC):List Value:=ts.map fun o=>.pointer (o.map fun p=>⟨p.1,0,none⟩)
theorem zbc (ts:qC):(vI ts).length=ts.length:=by simp [vI]
def jc:qC->Nat->List (Nat × Nat × Tx)
 | [],_=>[]
 | none::l,i=>jc l (i+1)
 | some (b,x)::l,i=>(i,b,x)::jc l (i+1)
def zF (ts:qC):List (Nat × Nat × Tx):=jc ts 0
theorem Qf:∀ (a b:qC) (i:Nat),jc (a++b) i=jc a i++jc b (i+a.length)
 | [],b,i=>by simp [jc]
 | none::a,b,i=>by simp only [List.cons_append,jc,Qf a b,zX];rw [show i+1+a.length=i+(a.length+1) by omega]
 | some (c,x)::a,b,i=>by simp only [List.cons_append,jc,Qf a b,zX];rw [show i+1+a.length=i+(a.length+1) by omega]
theorem zew {ts:qC} {i:Nat} (h:ts[i]?=some none):zF (ts.take (i+1))=zF (ts.take i):=by obtain ⟨u,z⟩:=zr.1 h;rw [yH u,z];unfold zF;rw [Qf];simp [jc]
theorem zaP {ts:qC} {i b:Nat} {x:Tx} (h:ts[i]?=some (some (b,x))):zF (ts.take (i+1))=zF (ts.take i)++[(i,b,x)]:=by obtain ⟨u,z⟩:=zr.1 h;rw [yH u,z];unfold zF;rw [Qf];simp [jc,Nat.min_eq_left (Nat.le_of_lt u)]
theorem zoi {ts:qC} {i b:Nat} {x:Tx} (h:ts[i]?=some (some (b,x))):(zF ts)[(zF (ts.take i)).length]?=some (i,b,x):=by
 have u:zF ts=zF (ts.take (i+1))++jc (ts.drop (i+1)) (0+(ts.take (i+1)).length):=by
  conv=>lhs;rw [<- List.take_append_drop (i+1) ts]
  exact Qf _ _ 0
 rw [u,zaP h,jf,vj (za _)];simp
def ZA (ts:qC) (k:Nat):Array Value:=match (zF ts)[k]? with
 | some (i,b,_)=>#[.int .i64 i,.pointer (some ⟨b,0,none⟩)]
 | none=>#[.int .i64 0,.pointer none]
def vT (w:World) (S:Nat) (ts:qC):Prop:=∃ C:Array Value,w.heap[S]?=some (.cells C 103 (0,0))/\∀ i,i<4->C[1+i]?=(vI ts)[i]?
theorem vT.range {w:World} {S:Nat} {ts:qC} (h:vT w S ts) (L:ts.length=4):w.rangeAt S 1 (vI ts):=by
 obtain ⟨C,z,D⟩:=h;intro j v u;have E:j<4:=by have:=(zr.1 u).1;rw [zbc] at this;omega
 rw [ze w S (1+j) C 103 _ z,D j E,u]
theorem zqH:(prog.info? 93).map (fun i=>(i.zero,i.size,i.bytes))=some (some (.pointer none),1,8):=by kernel_rfl
theorem zkO (w:World):(sizeOf 93).run prog w=.ok 1 w:=by obtain ⟨E,h,z,u,D⟩:=info_parts zqH;simp [sizeOf,typeInfo,h,u]
theorem zpm (w:World) (cs:Array Value) (i:Nat) (v:Value) (h:cs[i]?=some v) (D:i<4):(Instr.index 94 (.agg cs) (.int .i64 i)).run prog w=.ok v w:=by
 have u:(0:Int)<=(i:Int)/\(i:Int)<4:=by omega
 have z:(part 93 cs i).run prog w=.ok v w:=by simp [part,isAgg,run_underlying underlying93,h]
 simp only [Instr.index,run_underlying underlying94,asIntOf,Sem.run_bind,Sem.run_pure,vk];rw [if_pos (by exact u)];simp only [Sem.run_bind,zkO,vk,qp,Nat.mul_one,z]
theorem GA {o:Oper} {a:Act} {w:World} (x y:Operand) (z:o.op=.index 94 x y) (cs:Array Value) (D:a.eval x=.agg cs) (i:Nat) (E:a.eval y=.int .i64 i) (v:Value) (h:cs[i]?=some v) (u:i<4):(execOp a.eval o).run prog w=.ok (.value v) w:=by unfold execOp;simp only [z,D,E,Sem.run_bind,zpm w cs i v h u,vk,Sem.run_pure]
theorem zeW (S:Nat) (ts:qC) (I:Nat->World->Prop) (E:ts.length=4) (hI:∀ W,I 0 W->vT W S ts):zgZ prog 68 #[.pointer (some ⟨S,1,none⟩)] #[] (zF ts).length (ZA ts) I:=by
 intro l J w a1 a0 a5 h0;show zc 68 #[.pointer (some ⟨S,1,none⟩),.func (.yield l) #[] #[]] w _;obtain ⟨a7,c0,H0⟩:=zi3 a5 a0 h0;have HR:=hid ((hI _ (a1 _ _ h0)).range E);have Y:=hid E;have hlen:(vI ts).length=4:=by rw [zbc,E]
 have a6:=hid hlen;clear a1 a0 a5 h0 hI E hlen;go_enter func68,ntmps68;go_upto_region 1 with (show wpList _ _ _ (⟨some 9,_,_,_,_,_⟩::_) _ _;refine jH rfl _ _ (ZP 94 (.tmp 8) rfl S 1 (by rfl) (vI ts) _ HR.o underlying94 rfl (by rw [a6.o];kernel_rfl)) ?_);go_loopw [10] (fun u wr=>∃ i:Nat,i<=4/\u=.int .i64 i/\J (zF (ts.take i)).length wr) (fun u _=>(4-jL u).toNat)
 case atStart=>exact ⟨0,zU _,rfl,by simpa [zF,jc] using H0.o⟩
 case round =>
  obtain ⟨i,hi,rfl,z⟩:=hrel;by_cases a4:i<4
  ·have q1:(i:Int)<4:=by omega
   have x2:IntKind.i64.wrap ((i:Int)+1)=(i:Int)+1:=by rw [zv];omega
   obtain ⟨o,h⟩:∃ o,ts[i]?=some o:=⟨_,qa (by rw [Y.o];omega)⟩;cases o with
   | none =>
    have D:(vI ts).toArray[i]?=some (.pointer none):=by simp [vI,h]
    obtain ⟨R,L,O⟩:=zi3 D z h;clear D z h;go_wp2_with (show wpList _ _ _ (⟨some 13,_,_,_,_,_⟩::_) _ _;refine jH rfl _ _ (GA (.tmp 9) (.tmp 10) rfl (vI ts).toArray (by rfl) i (by rfl) _ R.o a4) ?_);go_roundw
    case rel=>exact ⟨i+1,by omega,by simp,by rw [zew O.o];exact L.o⟩
    case measure=>simp [jL];omega
   | some p =>
    obtain ⟨b,x⟩:=p;have D:(vI ts).toArray[i]?=some (.pointer (some ⟨b,0,none⟩)):=by simp [vI,h]
    have U:=zoi h;have a3:ZA ts (zF (ts.take i)).length=#[.int .i64 i,.pointer (some ⟨b,0,none⟩)]:=by simp [ZA,U]
    have X:=a7.o _ wr (zr.1 U).1 z;rw [a3] at X;obtain ⟨R,HY,O⟩:=zi3 D X h;clear D z h U a3 X;go_upto_region 3 with (show wpList _ _ _ (⟨some 13,_,_,_,_,_⟩::_) _ _;refine jH rfl _ _ (GA (.tmp 9) (.tmp 10) rfl (vI ts).toArray (by rfl) i (by rfl) _ R.o a4) ?_);refine Ye (pre:=[_,_,_,_,_,_]) (post:=[_,_]) rfl rfl rfl (fun _ _ a8=>a8) ?_;go_wp2_with fail;refine ⟨by rfl,l,.tmp 17,_,_,_,rfl,by rfl,by rfl,KC HY.o ?_⟩;rintro e1 w5 ⟨rfl,b9⟩;refine ⟨_,rfl,?_⟩;go_wp2_with fail;refine (by assumption:∀ a w,Code.wp prog (Code.cond (.tmp 22) Code.ret Code.skip) _ a w->_) _ _ ?_;go_wp2_with fail;go_roundw
    case rel=>exact ⟨i+1,by omega,by simp,by rw [zaP O.o,zl];exact b9⟩
    case measure=>simp [jL];omega
  ·have a9:i=4:=by omega
   subst a9;have L:=hid z;clear z;go_wp2_with fail;refine ZZ rfl rfl ?_;refine ⟨⟨_,rfl⟩,?_⟩;have Z:=L.o;rw [jB (by rw [Y.o];omega)] at Z;exact Z
theorem Qn {P:Program} {f:FuncId} {u:Func} {c:Code} {args:Array Value} {w:World} {R:Ending->World->Prop} (z:P.funcs[f]?=some u) (hb:u.body=some c)
  (h:c.wp P (bodyPostM Fence.wide 0 P u R) { tmps:=args++Array.replicate (u.ntmps-args.size) undef,defers:=[] } w):Calls P f args w R :=
 (callsIn_wide (n:=0)).1 (callsIn_of_wp_marks z hb trivial (wpIn_wide.2 h))
theorem Below.put {B l:Nat} {w W:World} (h:Below B w W) (z:B<=l) (o:Obj):Below B w (W.putObj l o):=⟨h.os,h.tape,h.output,by rw [World.putObj_size];exact h.size,fun k u=>(World.putObj_heap_other (by omega)).trans (h.block k u)⟩
def jW (l:List (Nat × Nat × Tx)):Nat:=(l.map fun p=>p.2.2.I.length).sum
structure vO (w:World) (S:Nat) (ts:qC) (G:Nat->Nat->Prop):Prop where
 len:ts.length=4
 zero:ts[0]?=some none
 row:vT w S ts
 tx:∀ i b x,ts[i]?=some (some (b,x))->vD w b x (G i)/\x.ok
 gg:∀ i j b,i≠j->G i b->¬ G j b
 gu:∀ i,(∀ p,ts[i]?≠some (some p))->∀ b,¬ G i b
theorem vT.same {w w':World} {S:Nat} {ts:qC} (h:vT w S ts) (hs:w'.heap[S]?=w.heap[S]?):vT w' S ts:=by obtain ⟨C,u,z⟩:=h;exact ⟨C,hs.trans u,z⟩
theorem vT.lt {w:World} {S:Nat} {ts:qC} (h:vT w S ts):S<w.heap.size:=by obtain ⟨C,u,z⟩:=h;exact zj u
theorem vO.same {w w':World} {S:Nat} {ts:qC} {G:Nat->Nat->Prop} (h:vO w S ts G) (z:w'.heap[S]?=w.heap[S]?) (hs:∀ i k,G i k->w'.heap[k]?=w.heap[k]?) (D:w.heap.size<=w'.heap.size):vO w' S ts G :=
 ⟨h.len,h.zero,h.row.same z,fun i b x u=>⟨(h.tx i b x u).1.same (hs i) D,(h.tx i b x u).2⟩,h.gg,h.gu⟩
theorem vO.lt {w:World} {S:Nat} {ts:qC} {G:Nat->Nat->Prop} (h:vO w S ts G) {i k:Nat} (u:G i k):k<w.heap.size:=by
 by_cases e:∃ p,ts[i]?=some (some p)
 ·obtain ⟨⟨b,x⟩,e⟩:=e;exact (h.tx i b x e).1.lt k u
 ·exact (h.gu i (fun p z=>e ⟨p,z⟩) k u).elim
theorem vO.below {w w':World} {S:Nat} {ts:qC} {G:Nat->Nat->Prop} (h:vO w S ts G) (hb:zd w w'):vO w' S ts G:=h.same (hb.block S h.row.lt) (fun i k u=>hb.block k (h.lt u)) hb.size
theorem Qg:∀ {ts:qC} {i j b:Nat} {x:Tx},(j,b,x)∈jc ts i->∃ k,j=i+k/\ts[k]?=some (some (b,x))
 | [],_,_,_,_,h=>by simp [jc] at h
 | none::l,i,j,b,x,h=>by obtain ⟨k,z,u⟩:=Qg (ts:=l) h;exact ⟨k+1,by omega,u⟩
 | some (c,y)::l,i,j,b,x,h=>by
  simp only [jc,zO] at h;rcases h with h | h
  ·cases h;exact ⟨0,rfl,rfl⟩
  ·obtain ⟨k,z,u⟩:=Qg (ts:=l) h;exact ⟨k+1,by omega,u⟩
theorem Kj (ts:qC) (k:Nat):(ZA ts k).size=2:=by unfold ZA;split<;>rfl
theorem GP {ts:qC} {k i b:Nat} {x:Tx} (h:(zF ts)[k]?=some (i,b,x)):ZA ts k=#[.int .i64 i,.pointer (some ⟨b,0,none⟩)]:=by simp [ZA,h]
theorem vC:∀ (ts:qC) (i:Nat),(jc ts i).length<=ts.length
 | [],_=>za _
 | none::l,i=>by have:=vC l (i+1);simp [jc];omega
 | some (_,_)::l,i=>by have:=vC l (i+1);simp [jc];omega
theorem vO.fd {w:World} {S:Nat} {ts:qC} {G:Nat->Nat->Prop} (h:vO w S ts G) {k i b:Nat} {x:Tx} (D:(zF ts)[k]?=some (i,b,x)):ts[i]?=some (some (b,x)):=by obtain ⟨j,u,z⟩:=Qg (zC D);rw [u,qz];exact z
theorem zdY {l:List (Nat × Nat × Tx)} {k i b:Nat} {x:Tx} (h:l[k]?=some (i,b,x)):jW (l.take (k+1))=jW (l.take k)+x.I.length:=by obtain ⟨u,z⟩:=zr.1 h;rw [yH u,z];simp [jW]
theorem vO.cp {w:World} {S:Nat} {ts:qC} {G:Nat->Nat->Prop} (h:vO w S ts G):∀ k,k<=(zF ts).length->jW ((zF ts).take k)<=8*k
 | 0,_=>by simp [jW]
 | k+1,hk=>by obtain ⟨⟨i,b,x⟩,z⟩:∃ p,(zF ts)[k]?=some p:=⟨_,qa (by omega)⟩;have D:=h.cp k (by omega);have u:=(h.tx i b x (h.fd z)).2;rw [zdY z];have:=u.len;have:=u.n8;omega
theorem ziC (S:Nat) (ts:qC) (G:Nat->Nat->Prop) (w:World) (h:vO w S ts G) :
  zc 141 #[.pointer (some ⟨S,1,none⟩)] w fun e w'=>e=.returned (.int .i64 (jW (zF ts)))/\zd w w':=by
 have H:=hid h;clear h;refine Qn func141 rfl ?_;simp only [ntmps141,qG,zX,jk,Nat.reduceAdd,Nat.reduceSub,Array.replicate_succ,Array.replicate_zero,List.push_toArray,List.append_toArray,List.nil_append,List.cons_append];go_wp2_with fail;refine Yz (gf:=68) (bound:=#[.pointer (some ⟨S,1,none⟩)]) (caps:=#[]) (by rfl) (by kernel_rfl) (zF ts).length (ZA ts) (Kj ts) (fun k W=>zd w W/\W.heap[w.heap.size]?=some (.cells #[.int .i64 (jW ((zF ts).take k))] 3 (0,0))) ?h0 ?hput ?hbel (zeW S ts _ H.o.len (fun W hW=>H.o.row.same (hW.1.block S H.o.row.lt))) ?hround ?hend
 case h0=>exact fun c7=>⟨B_alloc (B_alloc (B_alloc (zf _ _) _) _) _,zx (zx (zo _ _ rfl) _) _⟩
 case hput=>exact fun k W o ⟨z,u⟩ hl=>⟨Below.put z (by simp;omega) o,(World.putObj_heap_other (by simp;omega)).trans u⟩
 case hbel=>exact fun k W W' ⟨z,u⟩ hb=>⟨B_call z hb,zg u hb (zj u)⟩
 case hround =>
  rintro k W hk ⟨z,u⟩ hl;obtain ⟨⟨i,b,x⟩,L⟩:∃ p,(zF ts)[k]?=some p:=⟨_,qa hk⟩;obtain ⟨R,hok⟩:=H.o.tx i b x (H.o.fd L);have U:=R.below z;obtain ⟨lv,sv,hb,a1,_⟩:=U.ex;obtain ⟨A,c,rfl⟩:=own_slice a1;rw [GP L];have c5:=H.o.cp k (by omega);have h4:(zF ts).length<=4:=by have:=vC ts 0;rw [H.o.len] at this;exact this
  have a3:=zdY L;have h8:=hok.len;have c1:=hok.n8;simp only [List.zip_toArray,List.zip_cons_cons,List.zip_nil_right,List.foldl_toArray,jP,List.foldl_nil,List.setIfInBounds_toArray,List.set_cons_succ,List.set_cons_zero];have hS:W.heap[w.heap.size]?=some (.cells #[.int .i64 (jW ((zF ts).take k))] 3 (0,0)):=u;obtain ⟨H2,a6,a9,a7⟩:=zi4 u a3 U R;clear L R U a1 a3 u;refine vo (uy _) 0 rfl (fun _ _ h=>h) ?_;go_wp2_with fail;refine ⟨Je.refl _ _,fun o=>?_⟩;refine wpIn_block ?_;obtain ⟨D,E⟩:∃ D,W.putObj ((w.alloc (.cells #[.int .i64 0] 3)).heap.size+1) o=D:=⟨_,rfl⟩;rw [E];have a0:D.drew.heap[w.heap.size]?=some (.cells #[.int .i64 (jW ((zF ts).take k))] 3 (0,0))/\D.drew.heap[b]?=some (.cells #[.slice A x.I.length c,sv,.int .i64 x.ops] 208 (0,0)):=by rw [<- E];have c3:=H.o.lt (a7.o.gT);exact ⟨(World.putObj_heap_other (by simp;omega)).trans H2.o,(World.putObj_heap_other (by simp;omega)).trans hb⟩
  have c6:IntKind.i64.wrap ((jW ((zF ts).take k):Int)+(x.I.length:Int))=(jW ((zF ts).take (k+1)):Int):=by rw [a6.o,zv];omega
  have Y:zd w D.drew:=by rw [<- E];exact (Below.put z (by simp;omega) o).drew
  have a4:D.heap.size=W.heap.size:=by rw [<- E];simp
  obtain ⟨b9,c0⟩:=zi2 E a4;have X:=hid a0.1;have a5:=hid Y;clear hb E a4 Y z;refine ziu (uy _) (n:=8) (S:=(fun w'=>w'.heap[w.heap.size]?=some (.cells #[.int .i64 (jW ((zF ts).take k))] 3 (0,0))/\w'.heap[b]?=some (.cells #[.slice A x.I.length c,sv,.int .i64 x.ops] 208 (0,0)))) (ds:=[7]) (bA 8 0) rfl (fun _ _ h=>h) (by kernel_rfl) rfl (by kernel_rfl) a0 (fun c2=>?_);refine cV 0 (fun _ h=>xV (Value.int .i64 (jW ((zF ts).take k))) 0 h.1) ?_;refine pV 1 ?_;refine pV 2 ?_;refine pV 3 ?_;refine cV 4 (fun _ h=>xV (Value.slice A x.I.length c) 0 h.2) ?_;refine pV 5 ?_;refine pV 6 ?_;refine lV 7 fun K Z=>?_;refine jz 3 (.tmp 3) (.tmp 16) rfl w.heap.size 0 _ 3 (.int .i64 (jW ((zF ts).take (k+1)))) (by rfl) (by go_simp) (by kernel_rfl) X.o (by simp) rfl ?_;refine Z.out _ _ ?_;clear Z K;try simp only [pS]
  refine PrintLast.done_ (by kernel_rfl) ?_;have a8:(D.drew.setCell ⟨w.heap.size,0,none⟩ (.int .i64 (jW ((zF ts).take (k+1))))).heap[w.heap.size]?=some (.cells #[.int .i64 (jW ((zF ts).take (k+1)))] 3 (0,0)):=by rw [zB _ _ 0 _ _ _ X.o];rfl
  refine ⟨⟨B_set a5.o (p:=⟨w.heap.size,0,none⟩) (za _) _,a8⟩,Nat.le_of_eq (by simp),zu _ _ _ _ (by simp),zu _ _ _ _ (by simp;omega)⟩
 case hend =>rintro W ⟨z,u⟩ O;rw [qi] at u;have k0:=xV (Value.int .i64 (jW (zF ts))) 0 u;simp only [World.size_alloc] at O;have HD:=hid O;clear O u;refine (by assumption:∀ a w,Code.wp prog (Code.seq _ _) _ a w->_) _ _ ?_;go_wp2_with fail;refine ⟨by simp,.inl ⟨_,_,rfl,run_takeDeferred HD.o,?_⟩⟩;refine ⟨_,results_tmp rfl _ _ _,rfl,?_⟩;exact Below.put z (by omega) _
end Go.Proofs.YtechnoogjhohfaaGreat
