import Derived.Test.YtechnoogjhohfaaGreatS10
import Derived.Test.YtechnoogjhohfaaGreatS8
import Derived.Lib.AppendZerosOnto
import Derived.Lib.Overlaps
set_option maxRecDepth 100000
set_option maxHeartbeats 6400000
set_option linter.unusedVariables false
set_option linter.unusedSimpArgs false
namespace Go.Proofs.YtechnoogjhohfaaGreat
open Go.RowKit Go.Lib
open YtechnoogjhohfaaGreatW Go.Proofs.Tryz Go.Proofs.YtechnoogjhohfaaGreat.Tryz
theorem zpH (w:World):(Go.sizeOf 136).run prog w=.ok 5 w:=by obtain ⟨z,h,_,u,_⟩:=info_parts zcw;simp [sizeOf,typeInfo,h,u]
theorem zgr (args:Array Value) (w:World):(callFunc 158 args).run prog w=((Extern.SlicesOverlaps.overlaps #[99,99] #[4] args).run prog w).andThen fun v w'=>.ok (.value v) w':=by
 cases hq:prog.funcs[158]? with
 | none =>
  have h:(prog.funcs[158]?).isSome=true:=by kernel_rfl
  rw [hq] at h;cases h
 | some fn =>
  have h1 : (prog.funcs[158]?).map (fun fn => (fn.name == "runtime.NumGoroutine", fn.body.isNone)) = some (false, true) := by kernel_rfl
  rw [hq] at h1;simp only [qk,jd,Prod.mk.injEq] at h1;have h2:(prog.funcs[158]?).map (fun fn=>(Extern.findNext fn).isNone)=some true:=by kernel_rfl
  rw [hq] at h2;simp only [qk,jd,Option.isNone_iff_eq_none] at h2;have h3:(prog.funcs[158]?).map (fun fn=>Extern.find fn)=some (some (Extern.SlicesOverlaps.overlaps #[99,99] #[4])):=by kernel_rfl
  rw [hq] at h3;simp only [qk,jd] at h3;exact run_callFunc_extern hq h1.1 h1.2 h2 h3 args w
theorem znZ {o:Oper} {a:Act} {w:World} (x y:Operand) (ts:Array TypeId) (X:o.op=.call { callee:=.value (.func 158),args:=#[x,y],argTypes:=ts }) (p q:Addr) (la u L z:Nat)
  (Z:a.eval x=.slice (some p) la u) (hy:a.eval y=.slice (some q) L z) (U:p.block≠q.block) (cs ds:Array Value) (O R:TypeId) (E:w.heap[p.block]?=some (.cells cs O (0,0))) (Y:w.heap[q.block]?=some (.cells ds R (0,0))) (h0:ds.size≠0) :
  (execOp a.eval o).run prog w=.ok (.value (.bool false)) w:=by
 have h:=run_overlaps_apart (P:=prog) w 99 4 136 underlying99 5 zpH p q la u L z U O R cs.size ds.size (by simp [World.shape?,E]) (by simp [World.shape?,Y]) h0 (by simp [World.frozen?,E]) (by simp [World.frozen?,E]);have D:=zgr #[.slice (some p) la u,.slice (some q) L z] w;rw [h] at D;simp only [vi] at D;unfold execOp;simp only [X,resolve,Deferred.ofValue,invoke,Act.eval,Sem.run_bind,Sem.run_pure,vi];simp [Z,hy,D]
def Zf (h:List It) (i:Nat) (x:It):List It:=h.take i++x::h.drop i
theorem GG (h:List It) (i:Nat) (x:It):qt (Zf h i x)=(qt h).take (i*5)++zP x++(qt h).drop (i*5):=by unfold Zf;rw [show h.take i++x::h.drop i=h.take i++([x]++h.drop i) by simp,Yp,Yp,zdm,zdl];simp [qt]
theorem JI (h:List It) (i:Nat) (x:It):(Zf h i x).length=h.length+1:=by unfold Zf;rw [zl,qc,qf,qI];omega
theorem zix (g c i b:Nat) (z:List It) (x:It) (w:World) (a9:qW w (.slice (some ⟨g,0,none⟩) z.length c) z) (hi:i<z.length) (hl:z.length<=1000) (hc:z.length+1<=c) (hb:w.heap[b]?=some (.cells (zP x).toArray 136 (0,0))) (c2:b≠g) :
  zc 150 #[.slice (some ⟨g,0,none⟩) z.length c,.int .i64 i,.slice (some ⟨b,0,none⟩) 1 1] w fun e w'=>e=.returned (.slice (some ⟨g,0,none⟩) (z.length+1) c)/\qW w' (.slice (some ⟨g,0,none⟩) (z.length+1) c) (Zf z i x)/\zA (fun y=>y=g) w w':=by
 obtain ⟨n,O⟩:=ex z.length;obtain ⟨h,a5⟩:=ex (n+1);obtain ⟨u,d7⟩:=ex (i+1);have hj:(i:Int)+1=(u:Int):=by omega
 have e1:(n:Int)+1=(h:Int):=by omega
 rw [<- O,<- a5];rw [<- O] at hi hl hc a9;obtain ⟨cur,L,c8,c3,a3⟩:∃ cur:Array Value,w.heap[g]?=some (.cells cur 136 (0,0))/\cur.toList.length=c*5/\cur.toList.take (n*5)=qt z/\c<=maxLen:=by
  rcases a9.2 with ⟨h1,_⟩ | ⟨g',d9,cur,h1,_,L,_,h3,h4,h5⟩
  ·cases h1
  ·injection h1 with U e2 e3;injection U with U;injection U with U;subst U e3;refine ⟨cur,L,by simpa using h4,?_,h3⟩;rw [<- O] at h5;exact h5
 have c1:cur.size=c*5:=by simpa using c8
 obtain ⟨E,X⟩:=ex ((qt z).drop (i*5));have c6:E.length=(n-i)*5:=by rw [X,qI,uz,<- O];omega
 have c5:∀ j a7,E[j]?=some a7->w.cell? ((⟨g,i*5,none⟩:Addr).add j)=some a7:=by intro j a7 Y;have e0:j<E.length:=(zr.1 Y).1;rw [Addr.add_mid,ze w g _ _ _ _ L,<- Array.getElem?_toList];rw [X,List.getElem?_drop,<- c3,List.getElem?_take,if_pos (by omega)] at Y;exact Y
 have c4:∀ v∈E,v.oneCell'=true:=fun v hv=>zeQ z v (by rw [X] at hv;exact List.mem_of_mem_drop hv);obtain ⟨D,a0⟩:∃ C:Array Value,C=(cur.toList.take (u*5)++E++cur.toList.drop (u*5+E.length)).toArray:=⟨_,rfl⟩;have b9:D.size=c*5:=by rw [a0];simp only [qH,zl,qf,qI];omega
 have Z:=Yb (P:=prog) w.drew 99 99 3 136 5 g (u*5) (h-u) (c-u) ⟨g,i*5,none⟩ (h-i) (c-i) cur 136 E (n-i) underlying99 (by kernel_rfl) L (by show n-i=min (h-i) (h-u);omega) c6 c5 (by rw [c1];omega) c4;rw [<- a0] at Z;have a4:(w.drew.setRow g D).heap[g]?=some (.cells D 136 (0,0)):=setRow_heap w.drew g cur D 136 _ L;have c0:(w.drew.setRow g D).heap[b]?=some (.cells (zP x).toArray 136 (0,0)):=Gn (show w.drew.heap[b]?=_ from hb) c2 D;obtain ⟨w1,a6⟩:=ex (w.drew.setRow g D);rw [<- a6] at Z a4 c0;obtain ⟨R,a1⟩:∃ C:Array Value,C=(D.toList.take (i*5)++zP x++D.toList.drop (i*5+(zP x).length)).toArray:=⟨_,rfl⟩;have a8:=Yb (P:=prog) w1 99 99 3 136 5 g (i*5) (h-i) (c-i) ⟨b,0,none⟩ 1 1 D 136 (zP x) 1 underlying99 (by kernel_rfl) a4 (by show 1=min 1 (h-i);omega) rfl
  (fun j a7 Y=>by rw [Addr.add_mid,qy,ze w1 b _ _ _ _ c0,List.getElem?_toArray];exact Y) (by rw [b9];show i*5+5<=c*5;omega) (Qj x)
 rw [<- a1] at a8;have d1:qW (w1.setRow g R) (.slice (some ⟨g,0,none⟩) h c) (Zf z i x):=by
  unfold qW;rw [JI,<- O,<- a5];refine ⟨by rw [uz,JI,<- O,<- a5],.inr ⟨g,c,R,rfl,zT _,setRow_heap w1 g D R 136 _ a4,by omega,a3,?_,?_⟩⟩
  ·rw [a1];simp only [qH,zl,qf,qI,Array.length_toList,b9];have:(zP x).length=5:=rfl;omega
  ·have hs:=zkL cur.toList ((qt z).take (i*5)) (zP x) E (i*5) (by rw [<- c3,List.take_take,Nat.min_eq_left (by omega)]) (by omega) rfl (by omega);rw [GG,<- X,a1,a0,show u*5=i*5+5 by omega];rw [show h*5=i*5+5+E.length by omega];exact hs
 have d2:zA (fun y=>y=g) w (w1.setRow g R):=by rw [a6];exact (((zA.refl (fun y=>y=g) w).drew.setRow (.inl rfl) D).setRow (.inl rfl) R)
 have q0:(0:Int)<=(i:Int):=by omega
 have q1:(i:Int)<=(n:Int):=by omega
 have q2:(h:Int)<=(c:Int):=by omega
 have q3:¬ ((c:Int)<(h:Int)):=by omega
 have q4:¬ ((i:Int)=(n:Int)):=by omega
 have q5:¬ (c=i):=by omega
 have q6:¬ (c=u):=by omega
 have q7:(u:Int)<=(h:Int):=by omega
 have q8:(i:Int)<=(h:Int):=by omega
 have q9:(n:Int)<=(c:Int):=by omega
 have e4:u<=h:=by omega
 have e5:i<=h:=by omega
 have e6:i<=n:=by omega
 have z1:IntKind.i64.wrap (h:Int)=(h:Int):=by rw [zu];unfold maxLen at a3;omega
 have z2:IntKind.i64.wrap (u:Int)=(u:Int):=by rw [zu];unfold maxLen at a3;omega
 have d0:cur.size≠0:=by rw [c1];omega
 obtain ⟨d3,d4,HF,HK,HG,HB,d6,d5,d8⟩:=zi9 Z a8 d1 d2 L hb c2 d0 a6;clear Z a8 d1 d2 L hb c2 d0 a6 a4 c0 a0 a1 b9 X c6 c5 c4 c3 c8 c1 a3 O a5 d7 a9 hi hc;go_enter func150,ntmps150;go_upto_region 15 with (show wpList _ _ _ (⟨some 67,_,_,_,_,_⟩::_) _ _;refine jE rfl _ _ (znZ (.tmp 61) (.tmp 66) #[99,99] rfl ⟨b,0,none⟩ ⟨g,u*5,none⟩ 1 1 (h-u) (c-u) (by rfl) (by rfl) d6.o _ _ 136 136 HB.o HG.o d5.o) ?_);refine sV [] 9 (fun _=>True) trivial fun c7=>?_;refine pV 0 ?_;refine pV 1 ?_;refine pV 2 ?_;refine pV 3 ?_;refine pV 4 ?_;refine pV 5 ?_;refine pV 6 ?_;refine pV 7 ?_;refine oV 8 fun K hK=>?_;refine uL (Yt (.tmp 73) (.tmp 76) #[99,99] rfl (by rfl) (by rfl) d3.o) ?_;refine hK.out _ _ trivial (fun c7=>?_);clear hK K;try simp only [pS]
 refine dV ?_;clear c7;go_wp2_with (show wpList _ _ _ (⟨some 82,_,_,_,_,_⟩::_) _ _;refine jE rfl _ _ (Yt (.tmp 80) (.tmp 81) #[99,99] rfl (by rfl) (by rfl) d4.o) ?_);go_ret;exact ⟨rfl,HF.o,HK.o⟩
theorem ziW (cur T X D E:List Value) (k:Nat) (u:T=cur.take k) (L:k<=cur.length) (z:X.length=5) :
  ((cur.take k++X++cur.drop (k+X.length)).take (k+5)++D++E).take (k+5+D.length)=T++X++D:=by
 have h:(cur.take k++X).length=k+5:=by rw [zl,qf,z];omega
 rw [List.take_left' h,<- u];rw [<- u] at h;rw [List.take_left' (by rw [zl,h])]
theorem ziw (g i b:Nat) (D:List It) (x:It) (w:World) (c1:qW w (.slice (some ⟨g,0,none⟩) D.length D.length) D) (hi:i<D.length) (hl:D.length<=1000) (hb:w.heap[b]?=some (.cells (zP x).toArray 136 (0,0))) :
  zc 150 #[.slice (some ⟨g,0,none⟩) D.length D.length,.int .i64 i,.slice (some ⟨b,0,none⟩) 1 1] w fun e w'=>∃ z,e=.returned (.slice (some ⟨w.heap.size,0,none⟩) (D.length+1) z)/\qW w' (.slice (some ⟨w.heap.size,0,none⟩) (D.length+1) z) (Zf D i x)/\Below w.heap.size w w':=by
 obtain ⟨i0,f7,g0,e6,e7⟩:=info_parts zcw;obtain ⟨n,Y⟩:=ex D.length;obtain ⟨h,a8⟩:=ex (n+1);obtain ⟨E,f8⟩:=ex (i+1);obtain ⟨Z,f9⟩:=ex (h-i);obtain ⟨N,X⟩:=ex w.heap.size;have hj:(i:Int)+1=(E:Int):=by omega
 have g5:(n:Int)+1=(h:Int):=by omega
 have g4:(h:Int)-(i:Int)=(Z:Int):=by omega
 rw [<- Y,<- a8,<- X];rw [<- Y] at hi hl c1;obtain ⟨cur,hh,f6,e5⟩:∃ cur:Array Value,w.heap[g]?=some (.cells cur 136 (0,0))/\cur.toList.length=n*5/\cur.toList=qt D:=by
  rcases c1.2 with ⟨h1,_⟩ | ⟨g',g2,cur,h1,_,hh,_,h3,h4,h5⟩
  ·cases h1
  ·injection h1 with e1 g3 f3;injection e1 with e1;injection e1 with e1;subst e1 f3;have h6:cur.toList.length=n*5:=by simpa using h4
   refine ⟨cur,hh,h6,?_⟩;rw [<- Y,jG (by omega)] at h5;exact h5
 have d0:∀ j u,(qt D)[j]?=some u->w.cell? ⟨g,j,none⟩=some u:=by intro j u O;rw [ze w g _ _ _ _ hh,<- Array.getElem?_toList,e5];exact O
 obtain ⟨T,hT⟩:=ex ((qt D).take (i*5));obtain ⟨U,hD⟩:=ex ((qt D).drop (i*5));have c7:T.length=i*5:=by rw [hT,qf,uz,<- Y];omega
 have d4:U.length=(n-i)*5:=by rw [hD,qI,uz,<- Y];omega
 have d6:∀ j u,T[j]?=some u->w.drew.cell? ((⟨g,0,none⟩:Addr).add j)=some u:=by
  intro j u O;rw [Addr.add_mid,qy];rw [hT,List.getElem?_take] at O;split at O
  ·exact d0 j u O
  ·cases O
 have d9:=run_firstCells_some (P:=prog) w.drew 5 i ⟨g,0,none⟩ i n T c7 d6;have a0:=run_append_grow_zeros (P:=prog) w 99 3 99 136 i0 _ .i64 .i64 underlying99 underlying3 f7 g0 (some ⟨g,0,none⟩) i n T (by rw [e6];exact d9) Z (by omega) (by rw [e6];omega) (by omega) (by omega) (by rw [e7];omega) (by
  rw [e7];have:=nextslicecap_le (need:=i+Z) (old:=n) (by omega);omega)
 have e4:i+Z=h:=by omega
 rw [e4,<- X] at a0;obtain ⟨z,a7⟩:=ex (grownCap w h n 136);have e3:h<=z:=by rw [a7];exact grownCap_ge w h n 136
 have d8:z<=maxLen:=by rw [a7];exact grownCap_le_maxLen w h n 136 (by unfold maxLen;omega)
 rw [<- a7] at a0;obtain ⟨L,a4⟩:∃ C:Array Value,C=T.toArray++Builtin.zeroCells (Value.agg Js.toArray).cells Z++Builtin.zeroCells (Value.agg Js.toArray).cells (z - h):=⟨_,rfl⟩;rw [<- a4] at a0;have e8:∀ k,(Builtin.zeroCells (Value.agg Js.toArray).cells k).size=k*5:=fun k=>by rw [size_zeroCells];rfl
 have c3:L.size=z*5:=by rw [a4];simp only [Array.size_append,qH,e8];omega
 have d2:T=L.toList.take (i*5):=by rw [a4];simp only [Array.toList_append,jq];rw [List.take_left' c7]
 obtain ⟨w1,a9⟩:=ex (w.drew.alloc (.cells L 136));rw [<- a9] at a0;have a3:Below N w w1:=by rw [a9,X];exact B_alloc (zf _ _).drew _
 have c5:w1.heap[N]?=some (.cells L 136 (0,0)):=by rw [a9];exact zo _ _ X
 have f5:b<N:=by rw [X];exact zi hb
 have d7:w1.heap[b]?=some (.cells (zP x).toArray 136 (0,0)):=zg hb (by rw [X] at a3;exact a3) (zi hb);obtain ⟨R,a5⟩:∃ C:Array Value,C=(L.toList.take (i*5)++zP x++L.toList.drop (i*5+(zP x).length)).toArray:=⟨_,rfl⟩;have c8:(zP x).length=5:=rfl;have f4:L.toList.length=z*5:=by rw [Array.length_toList,c3]
 have c4:R.size=z*5:=by rw [a5];simp only [qH,zl,qf,qI,c8];omega
 have a1:=Yb (P:=prog) w1 99 99 3 136 5 N (i*5) (h-i) (z - i) ⟨b,0,none⟩ 1 1 L 136 (zP x) 1 underlying99 (by kernel_rfl) c5 (by show 1=min 1 (h-i);omega) rfl
  (fun j u O=>by rw [Addr.add_mid,qy,ze w1 b _ _ _ _ d7,List.getElem?_toArray];exact O) (by rw [c3,c8];omega) (Qj x)
 rw [<- a5] at a1;obtain ⟨w2,b9⟩:=ex (w1.setRow N R);rw [<- b9] at a1;have c6:w2.drew.heap[N]?=some (.cells R 136 (0,0)):=by rw [b9];exact setRow_heap w1 N L R 136 _ c5
 have c2:Below N w w2:=by rw [b9];exact below_setRow a3 (za _) _
 have e2:g<N:=by rw [X];exact zi hh
 have d3:∀ j u,U[j]?=some u->w2.drew.cell? ((⟨g,i*5,none⟩:Addr).add j)=some u:=by intro j u O;rw [Addr.add_mid];rw [hD,List.getElem?_drop] at O;exact qU (d0 _ _ O) c2.drew e2
 obtain ⟨C2,a6⟩:∃ C:Array Value,C=(R.toList.take (E*5)++U++R.toList.drop (E*5+U.length)).toArray:=⟨_,rfl⟩;have c0:=Yb (P:=prog) w2.drew 99 99 3 136 5 N (E*5) (h-E) (z - E) ⟨g,i*5,none⟩ (n-i) (n-i) R 136 U (n-i) underlying99 (by kernel_rfl) c6 (by show n-i=min (n-i) (h-E);omega) d4 d3 (by rw [c4];omega)
  (fun v hv=>zeQ D v (by rw [hD] at hv;exact List.mem_of_mem_drop hv))
 rw [<- a6] at c0;have e0:qW (w2.drew.setRow N C2) (.slice (some ⟨N,0,none⟩) h z) (Zf D i x):=by
  unfold qW;rw [JI,<- Y,<- a8];refine ⟨by rw [uz,JI,<- Y,<- a8],.inr ⟨N,z,C2,rfl,zT _,setRow_heap w2.drew N R C2 136 _ c6,e3,d8,?_,?_⟩⟩
  ·rw [a6];simp only [qH,zl,qf,qI,Array.length_toList,c4];omega
  ·have hs:=ziW L.toList T (zP x) U (R.toList.drop (E*5+U.length)) (i*5) d2 (by omega) rfl;rw [GG,<- hD,<- hT,a6,show h*5=i*5+5+U.length by omega];rw [show R.toList=L.toList.take (i*5)++zP x++L.toList.drop (i*5+(zP x).length) by rw [a5]] at hs ⊢;rw [show E*5=i*5+5 by omega] at hs ⊢;exact hs
 have d1:Below N w (w2.drew.setRow N C2):=below_setRow c2.drew (za _) _;have q0:(0:Int)<=(i:Int):=by omega
 have q1:(i:Int)<=(n:Int):=by omega
 have q3:(n:Int)<(h:Int):=by omega
 have q4:¬ ((i:Int)=(n:Int)):=by omega
 have q5:¬ (n=i):=by omega
 have q6:¬ (z=E):=by omega
 have g9:¬ (z=i):=by omega
 have q7:(E:Int)<=(h:Int):=by omega
 have q8:(i:Int)<=(h:Int):=by omega
 have q9:(h:Int)<=(z:Int):=by omega
 have g6:E<=h:=by omega
 have g7:i<=h:=by omega
 have g8:i<=n:=by omega
 have z1:IntKind.i64.wrap (h:Int)=(h:Int):=by rw [zu];omega
 have z2:IntKind.i64.wrap (E:Int)=(E:Int):=by rw [zu];omega
 have z3:IntKind.i64.wrap (Z:Int)=(Z:Int):=by rw [zu];omega
 obtain ⟨e9,f1,f2,HF,f0⟩:=zi5 a0 a1 c0 e0 d1;clear a0 a1 c0 e0 d1 a9 b9 a3 c5 f5 d7 a5 c8 f4 c4 c6 c2 e2 d3 a6 a4 e8 c3 d2 e3 d8 a7 e4 d9 d6 d4 c7 hT hD d0 e5 f6 hh hb c1 hi Y a8 f8 f9 X;go_enter func150,ntmps150;go_upto_region 11 with (first|(show wpList _ _ _ (⟨some 40,_,_,_,_,_⟩::_) _ _;refine jE rfl _ _ (GO (.tmp 34) (.tmp 39) #[99,3] rfl (by rfl) (by rfl) e9.o) ?_)|(show wpList _ _ _ (⟨some 45,_,_,_,_,_⟩::_) _ _;refine jE rfl _ _ (Yt (.tmp 43) (.tmp 44) #[99,99] rfl (by rfl) (by rfl) f1.o) ?_));refine sV [] 9 (fun _=>True) trivial fun d5=>?_;refine pV 0 ?_;refine pV 1 ?_;refine pV 2 ?_;refine pV 3 ?_;refine pV 4 ?_;refine pV 5 ?_;refine pV 6 ?_;refine pV 7 ?_;refine oV 8 fun K hK=>?_;refine uL (Yt (.tmp 50) (.tmp 53) #[99,99] rfl (by rfl) (by rfl) f2.o) ?_;refine hK.out _ _ trivial (fun d5=>?_);clear hK K;try simp only [pS]
 refine dV ?_;clear d5;go_wp2_with fail;go_ret;exact ⟨z,rfl,HF.o,f0.o⟩
theorem zlE (h:List It) (x:It):Zf h h.length x=h++[x]:=by simp [Zf]
theorem zjR (v:Value) (u:List It) (x:It) (i b:Nat) (w:World) (h:qW w v u) (hi:i<=u.length) (E:u.length<=1000) (hb:w.heap[b]?=some (.cells (zP x).toArray 136 (0,0))) (U:v.ownBlock≠some b) :
  zc 150 #[v,.int .i64 i,.slice (some ⟨b,0,none⟩) 1 1] w fun e w'=>∃ v',e=.returned v'/\qW w' v' (Zf u i x)/\zA (fun y=>v.ownBlock=some y) w w'/\(v'.ownBlock=v.ownBlock∨v'.ownBlock=some w.heap.size):=by
 by_cases R:i=u.length
 ·subst R;rw [zlE];exact zjS v u x b w h E hb
 ·have L:i<u.length:=by omega
  have Y:∃ g c,v=.slice (some ⟨g,0,none⟩) u.length c/\u.length<=c:=by
   rcases h.2 with ⟨z,h0⟩ | ⟨g,cap,cur,z,_,_,D,_⟩
   ·omega
   ·exact ⟨g,cap,z,D⟩
  obtain ⟨g,c,rfl,hc⟩:=Y;by_cases X:u.length+1<=c
  ·refine (zix g c i b u x w h L E X hb (fun e=>U (by rw [e];rfl))).mono ?_;rintro e w' ⟨rfl,z,D⟩;exact ⟨_,rfl,z,D.mono (fun y Z=>.inl (by rw [Z];rfl)),.inl rfl⟩
  ·have O:c=u.length:=by omega
   subst O;refine (ziw g i b u x w h L E hb).mono ?_;rintro e w' ⟨c',rfl,z,D⟩;exact ⟨_,rfl,z,zA.ak D,.inr rfl⟩
def uC (h:List It) (m:Nat) (x:It):List It:=if ju h m x.rw then h.set m x else Zf h m x
theorem zmv (h:List It) (m:Nat) (x:It) (hm:m<h.length):qt (h.set m x)=(qt h).take (m*5)++zP x++(qt h).drop (m*5+5):=by
 rw [List.set_eq_take_append_cons_drop,if_pos hm];have e:=GG (h.take m++h.drop (m+1)) m x;unfold Zf at e;have z:(h.take m++h.drop (m+1)).take m=h.take m:=by rw [List.take_left' (by rw [qf];omega)]
 have hd:(h.take m++h.drop (m+1)).drop m=h.drop (m+1):=by rw [List.drop_left' (by rw [qf];omega)]
 rw [z,hd] at e;rw [e,Yp,zdm,zdl];have u:((qt h).take (m*5)).length=m*5:=by rw [qf,uz];omega
 rw [List.take_left' u,List.drop_left' u,show (m+1)*5=m*5+5 by omega]
theorem zkN (cur X:List Value) (a h:Nat) (u:X.length=5) (D:a+5<=h) (E:h<=cur.length):((cur.take a++X++cur.drop (a+5)).take h)=(cur.take h).take a++X++(cur.take h).drop (a+5):=by
 have z:(cur.take a++X).length=a+5:=by rw [zl,qf,u];omega
 rw [List.take_append,jG (by omega),z,List.take_take,Nat.min_eq_left (by omega),List.drop_take]
theorem zjq (X o:Nat) (v:Value) (u:List It) (x:It) (m:Nat) (w:World) (h:Yy w X o v u) (hl:u.length<=1000) (hc:Cut u x.rw m) :
  zc 128 #[.pointer (some ⟨X,o,none⟩),.agg #[.int .i64 x.rw.t,.string (zb x.rw.k),.string (zb x.rw.v),.int .i64 x.pg,.int .i64 x.sl]] w fun e w'=>e=.returned (.tuple #[])/\∃ w0 v',(w'=w0/\v'=v∨w'=w0.setCell ⟨X,o,none⟩ v')/\zA (fun y=>v.ownBlock=some y) w w0/\(v'.ownBlock=v.ownBlock∨∃ q,v'.ownBlock=some q/\w.heap.size<=q)/\qW w0 v' (uC u m x):=by
 obtain ⟨w1,a1⟩:=ex (w.alloc (.cells #[.int .i64 x.rw.t,.string (zb x.rw.k),.string (zb x.rw.v),.int .i64 x.pg,.int .i64 x.sl] 136));have hC:w1.heap[w.heap.size]?=some (.cells #[.int .i64 x.rw.t,.string (zb x.rw.k),.string (zb x.rw.v),.int .i64 x.pg,.int .i64 x.sl] 136 (0,0)):=by rw [a1];exact zo _ _ rfl
 have hB:zd w w1:=by rw [a1];exact B_alloc (zf _ _) _
 have Z:X<w.heap.size:=Yl h.cell;have c7:w1.cell? ⟨X,o,none⟩=some v:=qU h.cell hB Z;have h1:qW w1 v u:=own_same h.N (fun k hk=>hB.block k (h.N.lt k hk).2);have c0:=zdI X o v u x.rw m w1 c7 h1 hl hc;obtain ⟨H,a7,U,HC,H1⟩:=zi5 h c0 hB hC h1;have d9:=ze w1 w.heap.size 0 _ _ _ hC;have e0:=ze w1 w.heap.size 1 _ _ _ hC;have a2:=ze w1 w.heap.size 2 _ _ _ hC;clear h c0 hB hC h1 c7;cases hf:ju u m x.rw with
 | true =>
  have hr:uC u m x=u.set m x:=by simp [uC,hf]
  have hm:m<u.length:=by
   unfold ju at hf;cases hx:u[m]? with
   | none=>rw [hx] at hf;cases hf
   | some y=>exact (zr.1 hx).1
  have HR:=hid hr;clear hr;go_enter func128,ntmps128;go_upto_region 1 with fail;rw [<- a1];clear a1;go_upto_region 4 with (go_at_call 131;refine a7.o.mono ?_;rintro e1 z ⟨rfl,D⟩);have R:qW z.drew v u:=own_same H1.o (fun q E=>D.block q (H1.o.lt q E).2);obtain ⟨g,c,cur,rfl,hg,d5,a6,c6,c1⟩:∃ g c,∃ cur:Array Value,v=.slice (some ⟨g,0,none⟩) u.length c/\z.drew.heap[g]?=some (.cells cur 136 (0,0))/\u.length<=c/\cur.size=c*5/\cur.toList.take (u.length*5)=qt u/\c<=maxLen:=by
   rcases R.2 with ⟨_,h0⟩ | ⟨g,cap,cur,h1,_,hh,h2,h3,h4,h5⟩
   ·omega
   ·exact ⟨g,cap,cur,h1,hh,h2,h4,h5,h3⟩
  have a3:z.drew.cell? ⟨X,o,none⟩=some (.slice (some ⟨g,0,none⟩) u.length c):=qU (qU H.o.cell U.o Z) D.drew (qg Z U.o.size);have Y:=zg HC.o D (zi HC.o);have hS:=And.intro a3 Y;have a0:zd w z.drew:=(B_call U.o D).drew;have q0:(0:Int)<=(m:Int):=by omega
  have q1:(m:Int)<(u.length:Int):=by omega
  have d6:cur.toList.length=c*5:=by rw [Array.length_toList,a6]
  have c2:qW (z.drew.setRow g (cur.toList.take (m*5)++(zP x).toArray.toList++cur.toList.drop (m*5+(zP x).toArray.size)).toArray) (.slice (some ⟨g,0,none⟩) u.length c) (u.set m x):=by
   have b9:(zP x).length=5:=rfl;unfold qW;rw [List.length_set];refine ⟨by rw [uz,List.length_set],.inr ⟨g,c,_,rfl,zT _,setRow_heap z.drew g cur _ 136 _ hg,d5,c1,?_,?_⟩⟩
   ·simp only [qH,zl,qf,qI,b9];omega
   ·rw [zmv u m x hm,<- c6];simp only [qH,b9];exact zkN cur.toList (zP x) (m*5) (u.length*5) rfl (by omega) (by omega)
  obtain ⟨d1,a4,HG,c8⟩:=zi4 c2 a0 hg a6;clear D R a3 Y a0 d6 c2 hg a6 c6 c1;refine sV [7] 8 (fun w'=>zH w' X o (.slice (some ⟨g,0,none⟩) u.length c)/\jJ w' w.heap.size #[.int .i64 x.rw.t,.string (zb x.rw.k),.string (zb x.rw.v),.int .i64 x.pg,.int .i64 x.sl] 136) hS fun L=>?_;refine pV 0 ?_;refine pV 1 ?_;refine pV 2 ?_;refine tV 3 ?_;refine pV 4 ?_;refine kV 5 rfl (qR 136 (.tmp 3) rfl (by rfl) w.heap.size (by rfl) 136 #[.int .i64 x.rw.t,.string (zb x.rw.k),.string (zb x.rw.v),.int .i64 x.pg,.int .i64 x.sl] (0,0) _ (fun _ h=>h.2) underlying136 rfl (by kernel_rfl)) ?_;refine pV 6 ?_;refine lV 7 fun K O=>?_;refine vV 136 (.tmp 22) (.tmp 21) rfl g (m*5) 136 cur (zP x).toArray (by rfl) (by rfl) HG.o (by rw [c8.o];show m*5+5<=c*5;omega) (by kernel_rfl) (Qj x) ?_;refine O.out _ _ ?_;clear O K;try simp only [pS]
  refine dV ?_;clear L hS;go_wp2_with fail;refine ZS rfl rfl ?_;refine ⟨rfl,_,_,.inl ⟨rfl,rfl⟩,?_,.inl rfl,?_⟩
  ·exact (zA.ak (M:=fun y=>(Value.slice (some ⟨g,0,none⟩) u.length c).ownBlock=some y) a4.o).setRow (.inl rfl) _
  ·rw [HR.o];have h9:=d1.o;rw [jq] at h9;exact h9
 | false =>
  have hr:uC u m x=Zf u m x:=by simp [uC,hf]
  have HR:=hid hr;clear hr;go_enter func128,ntmps128;go_upto_region 1 with fail;rw [<- a1];clear a1;go_upto_region 5 with (go_at_call 131;refine a7.o.mono ?_;rintro e1 z ⟨rfl,D⟩);have R:qW z.drew v u:=own_same H1.o (fun q E=>D.block q (H1.o.lt q E).2);obtain ⟨A,c,rfl⟩:=own_slice R;have a3:z.drew.cell? ⟨X,o,none⟩=some (.slice A u.length c):=qU (qU H.o.cell U.o Z) D.drew (qg Z U.o.size);have Y:=zg HC.o D (zi HC.o);have e4:X<z.drew.heap.size:=Yl a3;have hS:=And.intro a3 Y;obtain ⟨C,T,a8,a9⟩:=H.o.ex;have a0:zd w z.drew:=(B_call U.o D).drew;have hW:qW (z.drew.alloc (.cells (zP x).toArray 136)) (.slice A u.length c) u:=own_same R (fun q E=>qb z.drew _ q (R.lt q E).2);have c3:=zjR (.slice A u.length c) u x m z.drew.heap.size _ hW hc.le hl (zo _ _ rfl) (fun e=>Nat.lt_irrefl _ (R.lt _ e).2);have c5:∀ q,(Value.slice A u.length c).ownBlock=some q->q<w.heap.size:=fun q E=>(H.o.N.lt q E).2;obtain ⟨d2,a4⟩:=zi2 c3 a0;have d0:=hid (zg a8 a0 Z);have d8:o<C.size:=(qu.1 a9).1;have d3:=hid c5;have e3:w.heap.size<z.drew.heap.size:=zi Y;clear D R a3 Y a8 a9 hW c3 a0 c5;refine sV [11] 12 (fun w'=>zH w' X o (.slice A u.length c)/\jJ w' w.heap.size #[.int .i64 x.rw.t,.string (zb x.rw.k),.string (zb x.rw.v),.int .i64 x.pg,.int .i64 x.sl] 136) hS fun L=>?_;refine pV 0 ?_;refine pV 1 ?_;refine pV 2 ?_;refine pV 3 ?_;refine tV 4 ?_;refine pV 5 ?_;refine kV 6 rfl (qR 136 (.tmp 3) rfl (by rfl) w.heap.size (by rfl) 136 #[.int .i64 x.rw.t,.string (zb x.rw.k),.string (zb x.rw.v),.int .i64 x.pg,.int .i64 x.sl] (0,0) _ (fun _ h=>h.2) underlying136 rfl (by kernel_rfl)) ?_;refine oV 7 fun K O=>?_;refine yv 99 136 5 56 (.tmp 29) rfl (.agg (zP x).toArray) (by rfl) underlying99 zcs (by rfl) (by omega) (by omega) ?_;refine O.out _ _ ⟨yK L.1 _,zw L.2 _⟩ (fun L=>?_);clear O K;try simp only [pS]
  refine oC 8 d2.o ?_;rintro e1 w4 ⟨v4,rfl,c4,a5,d7⟩;obtain ⟨A4,e2,rfl⟩:=own_slice c4;have d4:=qK (zw d0.o (.cells (zP x).toArray 136)) a5 H.o.ne;refine eV ⟨Qh L.1 a5 H.o.ne,qK L.2 a5 (fun e=>Nat.lt_irrefl _ (d3.o _ e))⟩ fun L=>?_;refine pV 9 ?_;refine pV 10 ?_;refine lV 11 fun K O=>?_;refine jz 99 (.tmp 33) (.tmp 31) rfl X o C T _ (by rfl) (by rfl) (by kernel_rfl) d4 d8 rfl ?_;refine O.out _ _ ?_;clear O K;try simp only [pS]
  refine dV ?_;go_wp2_with fail;refine ZS rfl rfl ?_;refine ⟨rfl,w4,_,.inr rfl,?_,?_,?_⟩
  ·exact ((zA.ak (M:=fun y=>(Value.slice A u.length c).ownBlock=some y) a4.o).call (B_alloc (zf _ _) _)).trans a5 (fun q E=>.inl E)
  ·rcases d7 with e | e
   ·exact .inl e
   ·exact .inr ⟨_,e,by simp;exact Nat.le_succ_of_le a4.o.size⟩
  ·rw [HR.o];exact c4
end Go.Proofs.YtechnoogjhohfaaGreat
