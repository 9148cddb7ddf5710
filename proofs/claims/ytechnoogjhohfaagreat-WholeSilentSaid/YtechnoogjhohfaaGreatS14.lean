import Derived.Test.YtechnoogjhohfaaGreatS13
import Derived.Test.YtechnoogjhohfaaGreatS8
import Derived.ChangeKeysEq
set_option maxRecDepth 100000
set_option maxHeartbeats 6400000
set_option linter.unusedVariables false
set_option linter.unusedSimpArgs false
namespace Go.Proofs.YtechnoogjhohfaaGreat
open Go.RowKit Go.Lib
open YtechnoogjhohfaaGreatW Go.Proofs.Tryz Go.Proofs.YtechnoogjhohfaaGreat.Tryz
theorem Kw {F:Fence} {m:Nat} {P:Program} {l:Nat} {args:Array Value} {W:World} {R u:Ending->World->Prop} (h:YieldAt F m P l args W R) (O:∀ e w,R e w->u e w):YieldAt F m P l args W u:=by obtain ⟨E,tmps,z,D,U,L⟩:=h;exact ⟨E,tmps,z,D,U,L.mono O⟩
abbrev qE:=List (Option (Nat × Tx))
def vF (ts:qE):List Value:=ts.map fun o=>.pointer (o.map fun p=>⟨p.1,0,none⟩)
theorem zaX (ts:qE):(vF ts).length=ts.length:=by simp [vF]
def je:qE->Nat->List (Nat × Nat × Tx)
 | [],_=>[]
 | none::l,i=>je l (i+1)
 | some (b,x)::l,i=>(i,b,x)::je l (i+1)
def zF (ts:qE):List (Nat × Nat × Tx):=je ts 0
theorem ZY:∀ (a b:qE) (i:Nat),je (a++b) i=je a i++je b (i+a.length)
 | [],b,i=>by simp [je]
 | none::a,b,i=>by simp only [List.cons_append,je,ZY a b,qc];rw [show i+1+a.length=i+(a.length+1) by omega]
 | some (c,x)::a,b,i=>by simp only [List.cons_append,je,ZY a b,qc];rw [show i+1+a.length=i+(a.length+1) by omega]
theorem zeg {ts:qE} {i:Nat} (h:ts[i]?=some none):zF (ts.take (i+1))=zF (ts.take i):=by obtain ⟨u,z⟩:=zr.1 h;rw [yH u,z];unfold zF;rw [ZY];simp [je]
theorem zaI {ts:qE} {i b:Nat} {x:Tx} (h:ts[i]?=some (some (b,x))):zF (ts.take (i+1))=zF (ts.take i)++[(i,b,x)]:=by obtain ⟨u,z⟩:=zr.1 h;rw [yH u,z];unfold zF;rw [ZY];simp [je,Nat.min_eq_left (Nat.le_of_lt u)]
theorem znK {ts:qE} {i b:Nat} {x:Tx} (h:ts[i]?=some (some (b,x))):(zF ts)[(zF (ts.take i)).length]?=some (i,b,x):=by
 have u:zF ts=zF (ts.take (i+1))++je (ts.drop (i+1)) (0+(ts.take (i+1)).length):=by
  conv=>lhs;rw [<- List.take_append_drop (i+1) ts]
  exact ZY _ _ 0
 rw [u,zaI h,jq,vg (za _)];simp
def Zt (ts:qE) (k:Nat):Array Value:=match (zF ts)[k]? with
 | some (i,b,_)=>#[.int .i64 i,.pointer (some ⟨b,0,none⟩)]
 | none=>#[.int .i64 0,.pointer none]
def vR (w:World) (S:Nat) (ts:qE):Prop:=∃ C:Array Value,w.heap[S]?=some (.cells C 103 (0,0))/\∀ i,i<4->C[1+i]?=(vF ts)[i]?
theorem vR.range {w:World} {S:Nat} {ts:qE} (h:vR w S ts) (L:ts.length=4):w.rangeAt S 1 (vF ts):=by
 obtain ⟨C,z,D⟩:=h;intro j v u;have E:j<4:=by have:=(zr.1 u).1;rw [zaX] at this;omega
 rw [ze w S (1+j) C 103 _ z,D j E,u]
theorem zqh:(prog.info? 93).map (fun i=>(i.zero,i.size,i.bytes))=some (some (.pointer none),1,8):=by kernel_rfl
theorem zkv (w:World):(sizeOf 93).run prog w=.ok 1 w:=by obtain ⟨E,h,z,u,D⟩:=info_parts zqh;simp [sizeOf,typeInfo,h,u]
theorem zoQ (w:World) (cs:Array Value) (i:Nat) (v:Value) (h:cs[i]?=some v) (D:i<4):(Instr.index 94 (.agg cs) (.int .i64 i)).run prog w=.ok v w:=by
 have u:(0:Int)<=(i:Int)/\(i:Int)<4:=by omega
 have z:(part 93 cs i).run prog w=.ok v w:=by simp [part,isAgg,run_underlying underlying93,h]
 simp only [Instr.index,run_underlying underlying94,asIntOf,Sem.run_bind,Sem.run_pure,vi];rw [if_pos (by exact u)];simp only [Sem.run_bind,zkv,vi,qp,Nat.mul_one,z]
theorem Gx {o:Oper} {a:Act} {w:World} (x y:Operand) (z:o.op=.index 94 x y) (cs:Array Value) (D:a.eval x=.agg cs) (i:Nat) (E:a.eval y=.int .i64 i) (v:Value) (h:cs[i]?=some v) (u:i<4):(execOp a.eval o).run prog w=.ok (.value v) w:=by unfold execOp;simp only [z,D,E,Sem.run_bind,zoQ w cs i v h u,vi,Sem.run_pure]
theorem zeF (S:Nat) (ts:qE) (I:Nat->World->Prop) (E:ts.length=4) (hI:∀ W,I 0 W->vR W S ts):zgI prog 68 #[.pointer (some ⟨S,1,none⟩)] #[] (zF ts).length (Zt ts) I:=by
 intro l J w a1 a0 a5 h0;show zc 68 #[.pointer (some ⟨S,1,none⟩),.func (.yield l) #[] #[]] w _;obtain ⟨a7,c0,H0⟩:=zi3 a5 a0 h0;have HR:=hid ((hI _ (a1 _ _ h0)).range E);have Y:=hid E;have hlen:(vF ts).length=4:=by rw [zaX,E]
 have a6:=hid hlen;clear a1 a0 a5 h0 hI E hlen;go_enter func68,ntmps68;go_upto_region 1 with (show wpList _ _ _ (⟨some 9,_,_,_,_,_⟩::_) _ _;refine jE rfl _ _ (us 94 (.tmp 8) rfl S 1 (by rfl) (vF ts) _ HR.o underlying94 rfl (by rw [a6.o];kernel_rfl)) ?_);go_loopw [10] (fun u wr=>∃ i:Nat,i<=4/\u=.int .i64 i/\J (zF (ts.take i)).length wr) (fun u _=>(4-jF u).toNat)
 case atStart=>exact ⟨0,zT _,rfl,by simpa [zF,je] using H0.o⟩
 case round =>
  obtain ⟨i,hi,rfl,z⟩:=hrel;by_cases a4:i<4
  ·have q1:(i:Int)<4:=by omega
   have x2:IntKind.i64.wrap ((i:Int)+1)=(i:Int)+1:=by rw [zu];omega
   obtain ⟨o,h⟩:∃ o,ts[i]?=some o:=⟨_,zX (by rw [Y.o];omega)⟩;cases o with
   | none =>
    have D:(vF ts).toArray[i]?=some (.pointer none):=by simp [vF,h]
    obtain ⟨R,L,O⟩:=zi3 D z h;clear D z h;go_wp2_with (show wpList _ _ _ (⟨some 13,_,_,_,_,_⟩::_) _ _;refine jE rfl _ _ (Gx (.tmp 9) (.tmp 10) rfl (vF ts).toArray (by rfl) i (by rfl) _ R.o a4) ?_);go_roundw
    case rel=>exact ⟨i+1,by omega,by simp,by rw [zeg O.o];exact L.o⟩
    case measure=>simp [jF];omega
   | some p =>
    obtain ⟨b,x⟩:=p;have D:(vF ts).toArray[i]?=some (.pointer (some ⟨b,0,none⟩)):=by simp [vF,h]
    have U:=znK h;have a3:Zt ts (zF (ts.take i)).length=#[.int .i64 i,.pointer (some ⟨b,0,none⟩)]:=by simp [Zt,U]
    have X:=a7.o _ wr (zr.1 U).1 z;rw [a3] at X;obtain ⟨R,HY,O⟩:=zi3 D X h;clear D z h U a3 X;go_upto_region 3 with (show wpList _ _ _ (⟨some 13,_,_,_,_,_⟩::_) _ _;refine jE rfl _ _ (Gx (.tmp 9) (.tmp 10) rfl (vF ts).toArray (by rfl) i (by rfl) _ R.o a4) ?_);refine Ya (pre:=[_,_,_,_,_,_]) (post:=[_,_]) rfl rfl rfl (fun _ _ a8=>a8) ?_;go_wp2_with fail;refine ⟨by rfl,l,.tmp 17,_,_,_,rfl,by rfl,by rfl,Kw HY.o ?_⟩;rintro e1 w5 ⟨rfl,b9⟩;refine ⟨_,rfl,?_⟩;go_wp2_with fail;refine (by assumption:∀ a w,Code.wp prog (Code.cond (.tmp 22) Code.ret Code.skip) _ a w->_) _ _ ?_;go_wp2_with fail;go_roundw
    case rel=>exact ⟨i+1,by omega,by simp,by rw [zaI O.o,zl];exact b9⟩
    case measure=>simp [jF];omega
  ·have a9:i=4:=by omega
   subst a9;have L:=hid z;clear z;go_wp2_with fail;refine ZS rfl rfl ?_;refine ⟨⟨_,rfl⟩,?_⟩;have Z:=L.o;rw [jG (by rw [Y.o];omega)] at Z;exact Z
theorem Qg {P:Program} {f:FuncId} {u:Func} {c:Code} {args:Array Value} {w:World} {R:Ending->World->Prop} (z:P.funcs[f]?=some u) (hb:u.body=some c)
  (h:c.wp P (bodyPostM Fence.wide 0 P u R) { tmps:=args++Array.replicate (u.ntmps-args.size) undef,defers:=[] } w):Calls P f args w R :=
 (callsIn_wide (n:=0)).1 (callsIn_of_wp_marks z hb trivial (wpIn_wide.2 h))
theorem Below.put {B l:Nat} {w W:World} (h:Below B w W) (z:B<=l) (o:Obj):Below B w (W.putObj l o):=⟨h.os,h.tape,h.output,by rw [World.putObj_size];exact h.size,fun k u=>(World.putObj_heap_other (by omega)).trans (h.block k u)⟩
def jS (l:List (Nat × Nat × Tx)):Nat:=(l.map fun p=>p.2.2.I.length).sum
structure vM (w:World) (S:Nat) (ts:qE) (G:Nat->Nat->Prop):Prop where
 len:ts.length=4
 zero:ts[0]?=some none
 row:vR w S ts
 tx:∀ i b x,ts[i]?=some (some (b,x))->vz w b x (G i)/\x.ok
 gq:∀ i j b,i≠j->G i b->¬ G j b
 gh:∀ i,(∀ p,ts[i]?≠some (some p))->∀ b,¬ G i b
theorem vR.same {w w':World} {S:Nat} {ts:qE} (h:vR w S ts) (hs:w'.heap[S]?=w.heap[S]?):vR w' S ts:=by obtain ⟨C,u,z⟩:=h;exact ⟨C,hs.trans u,z⟩
theorem vR.lt {w:World} {S:Nat} {ts:qE} (h:vR w S ts):S<w.heap.size:=by obtain ⟨C,u,z⟩:=h;exact zi u
theorem vM.same {w w':World} {S:Nat} {ts:qE} {G:Nat->Nat->Prop} (h:vM w S ts G) (z:w'.heap[S]?=w.heap[S]?) (hs:∀ i k,G i k->w'.heap[k]?=w.heap[k]?) (D:w.heap.size<=w'.heap.size):vM w' S ts G :=
 ⟨h.len,h.zero,h.row.same z,fun i b x u=>⟨(h.tx i b x u).1.same (hs i) D,(h.tx i b x u).2⟩,h.gq,h.gh⟩
theorem vM.lt {w:World} {S:Nat} {ts:qE} {G:Nat->Nat->Prop} (h:vM w S ts G) {i k:Nat} (u:G i k):k<w.heap.size:=by
 by_cases e:∃ p,ts[i]?=some (some p)
 ·obtain ⟨⟨b,x⟩,e⟩:=e;exact (h.tx i b x e).1.lt k u
 ·exact (h.gh i (fun p z=>e ⟨p,z⟩) k u).elim
theorem vM.below {w w':World} {S:Nat} {ts:qE} {G:Nat->Nat->Prop} (h:vM w S ts G) (hb:zd w w'):vM w' S ts G:=h.same (hb.block S h.row.lt) (fun i k u=>hb.block k (h.lt u)) hb.size
theorem ZZ:∀ {ts:qE} {i j b:Nat} {x:Tx},(j,b,x)∈je ts i->∃ k,j=i+k/\ts[k]?=some (some (b,x))
 | [],_,_,_,_,h=>by simp [je] at h
 | none::l,i,j,b,x,h=>by obtain ⟨k,z,u⟩:=ZZ (ts:=l) h;exact ⟨k+1,by omega,u⟩
 | some (c,y)::l,i,j,b,x,h=>by
  simp only [je,zO] at h;rcases h with h | h
  ·cases h;exact ⟨0,rfl,rfl⟩
  ·obtain ⟨k,z,u⟩:=ZZ (ts:=l) h;exact ⟨k+1,by omega,u⟩
theorem Kf (ts:qE) (k:Nat):(Zt ts k).size=2:=by unfold Zt;split<;>rfl
theorem GL {ts:qE} {k i b:Nat} {x:Tx} (h:(zF ts)[k]?=some (i,b,x)):Zt ts k=#[.int .i64 i,.pointer (some ⟨b,0,none⟩)]:=by simp [Zt,h]
theorem vw:∀ (ts:qE) (i:Nat),(je ts i).length<=ts.length
 | [],_=>za _
 | none::l,i=>by have:=vw l (i+1);simp [je];omega
 | some (_,_)::l,i=>by have:=vw l (i+1);simp [je];omega
theorem vM.fg {w:World} {S:Nat} {ts:qE} {G:Nat->Nat->Prop} (h:vM w S ts G) {k i b:Nat} {x:Tx} (D:(zF ts)[k]?=some (i,b,x)):ts[i]?=some (some (b,x)):=by obtain ⟨j,u,z⟩:=ZZ (zC D);rw [u,qy];exact z
theorem zdL {l:List (Nat × Nat × Tx)} {k i b:Nat} {x:Tx} (h:l[k]?=some (i,b,x)):jS (l.take (k+1))=jS (l.take k)+x.I.length:=by obtain ⟨u,z⟩:=zr.1 h;rw [yH u,z];simp [jS]
theorem vM.cw {w:World} {S:Nat} {ts:qE} {G:Nat->Nat->Prop} (h:vM w S ts G):∀ k,k<=(zF ts).length->jS ((zF ts).take k)<=8*k
 | 0,_=>by simp [jS]
 | k+1,hk=>by obtain ⟨⟨i,b,x⟩,z⟩:∃ p,(zF ts)[k]?=some p:=⟨_,zX (by omega)⟩;have D:=h.cw k (by omega);have u:=(h.tx i b x (h.fg z)).2;rw [zdL z];have:=u.len;have:=u.n8;omega
theorem zij (S:Nat) (ts:qE) (G:Nat->Nat->Prop) (w:World) (h:vM w S ts G) :
  zc 141 #[.pointer (some ⟨S,1,none⟩)] w fun e w'=>e=.returned (.int .i64 (jS (zF ts)))/\zd w w':=by
 have H:=hid h;clear h;refine Qg func141 rfl ?_;simp only [ntmps141,qH,qc,jr,Nat.reduceAdd,Nat.reduceSub,Array.replicate_succ,Array.replicate_zero,List.push_toArray,List.append_toArray,List.nil_append,List.cons_append];go_wp2_with fail;refine Yw (gf:=68) (bound:=#[.pointer (some ⟨S,1,none⟩)]) (caps:=#[]) (by rfl) (by kernel_rfl) (zF ts).length (Zt ts) (Kf ts) (fun k W=>zd w W/\W.heap[w.heap.size]?=some (.cells #[.int .i64 (jS ((zF ts).take k))] 3 (0,0))) ?h0 ?hput ?hbel (zeF S ts _ H.o.len (fun W hW=>H.o.row.same (hW.1.block S H.o.row.lt))) ?hround ?hend
 case h0=>exact fun c6=>⟨B_alloc (B_alloc (B_alloc (zf _ _) _) _) _,zw (zw (zo _ _ rfl) _) _⟩
 case hput=>exact fun k W o ⟨z,u⟩ hl=>⟨Below.put z (by simp;omega) o,(World.putObj_heap_other (by simp;omega)).trans u⟩
 case hbel=>exact fun k W W' ⟨z,u⟩ hb=>⟨B_call z hb,zg u hb (zi u)⟩
 case hround =>
  rintro k W hk ⟨z,u⟩ hl;obtain ⟨⟨i,b,x⟩,L⟩:∃ p,(zF ts)[k]?=some p:=⟨_,zX hk⟩;obtain ⟨R,hok⟩:=H.o.tx i b x (H.o.fg L);have U:=R.below z;obtain ⟨lv,sv,hb,a1,_⟩:=U.ex;obtain ⟨A,c,rfl⟩:=own_slice a1;rw [GL L];have c4:=H.o.cw k (by omega);have h4:(zF ts).length<=4:=by have:=vw ts 0;rw [H.o.len] at this;exact this
  have a3:=zdL L;have h8:=hok.len;have c1:=hok.n8;simp only [List.zip_toArray,List.zip_cons_cons,List.zip_nil_right,List.foldl_toArray,jM,List.foldl_nil,List.setIfInBounds_toArray,List.set_cons_succ,List.set_cons_zero];have hS:W.heap[w.heap.size]?=some (.cells #[.int .i64 (jS ((zF ts).take k))] 3 (0,0)):=u;obtain ⟨H2,a6,a9,a7⟩:=zi4 u a3 U R;clear L R U a1 a3 u;refine vk (uv _) 0 rfl (fun _ _ h=>h) ?_;go_wp2_with fail;refine ⟨Jb.refl _ _,fun o=>?_⟩;refine wpIn_block ?_;obtain ⟨D,E⟩:∃ D,W.putObj ((w.alloc (.cells #[.int .i64 0] 3)).heap.size+1) o=D:=⟨_,rfl⟩;rw [E];have a0:D.drew.heap[w.heap.size]?=some (.cells #[.int .i64 (jS ((zF ts).take k))] 3 (0,0))/\D.drew.heap[b]?=some (.cells #[.slice A x.I.length c,sv,.int .i64 x.ops] 208 (0,0)):=by rw [<- E];have c3:=H.o.lt (a7.o.gT);exact ⟨(World.putObj_heap_other (by simp;omega)).trans H2.o,(World.putObj_heap_other (by simp;omega)).trans hb⟩
  have c5:IntKind.i64.wrap ((jS ((zF ts).take k):Int)+(x.I.length:Int))=(jS ((zF ts).take (k+1)):Int):=by rw [a6.o,zu];omega
  have Y:zd w D.drew:=by rw [<- E];exact (Below.put z (by simp;omega) o).drew
  have a4:D.heap.size=W.heap.size:=by rw [<- E];simp
  obtain ⟨b9,c0⟩:=zi2 E a4;have X:=hid a0.1;have a5:=hid Y;clear hb E a4 Y z;refine zib (uv _) (n:=8) (S:=(fun w'=>w'.heap[w.heap.size]?=some (.cells #[.int .i64 (jS ((zF ts).take k))] 3 (0,0))/\w'.heap[b]?=some (.cells #[.slice A x.I.length c,sv,.int .i64 x.ops] 208 (0,0)))) (ds:=[7]) (bA 8 0) rfl (fun _ _ h=>h) (by kernel_rfl) rfl (by kernel_rfl) a0 (fun c2=>?_);refine cV 0 (fun _ h=>xV (Value.int .i64 (jS ((zF ts).take k))) 0 h.1) ?_;refine pV 1 ?_;refine pV 2 ?_;refine pV 3 ?_;refine cV 4 (fun _ h=>xV (Value.slice A x.I.length c) 0 h.2) ?_;refine pV 5 ?_;refine pV 6 ?_;refine lV 7 fun K Z=>?_;refine jz 3 (.tmp 3) (.tmp 16) rfl w.heap.size 0 _ 3 (.int .i64 (jS ((zF ts).take (k+1)))) (by rfl) (by go_simp) (by kernel_rfl) X.o (by simp) rfl ?_;refine Z.out _ _ ?_;clear Z K;try simp only [pS]
  refine PrintLast.done_ (by kernel_rfl) ?_;have a8:(D.drew.setCell ⟨w.heap.size,0,none⟩ (.int .i64 (jS ((zF ts).take (k+1))))).heap[w.heap.size]?=some (.cells #[.int .i64 (jS ((zF ts).take (k+1)))] 3 (0,0)):=by rw [zB _ _ 0 _ _ _ X.o];rfl
  refine ⟨⟨B_set a5.o (p:=⟨w.heap.size,0,none⟩) (za _) _,a8⟩,Nat.le_of_eq (by simp),zt _ _ _ _ (by simp),zt _ _ _ _ (by simp;omega)⟩
 case hend =>rintro W ⟨z,u⟩ O;rw [qi] at u;have k0:=xV (Value.int .i64 (jS (zF ts))) 0 u;simp only [World.size_alloc] at O;have HD:=hid O;clear O u;refine (by assumption:∀ a w,Code.wp prog (Code.seq _ _) _ a w->_) _ _ ?_;go_wp2_with fail;refine ⟨by simp,.inl ⟨_,_,rfl,run_takeDeferred HD.o,?_⟩⟩;refine ⟨_,results_tmp rfl _ _ _,rfl,?_⟩;exact Below.put z (by omega) _
end Go.Proofs.YtechnoogjhohfaaGreat
