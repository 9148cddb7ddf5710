/-
  Joined by a program from texts written one by one: part 11 of the walk through the program and of the law behind it.
-/
import Derived.Test.YtechnoogjhohfaaGreatC10
import Derived.Lib.AppendZerosOnto
import Derived.Lib.Overlaps
set_option maxRecDepth 100000
set_option maxHeartbeats 6400000
set_option linter.unusedVariables false
set_option linter.unusedSimpArgs false
namespace Go.Proofs.YtechnoogjhohfaaGreat
open Go.RowKit Go.Lib
open YtechnoogjhohfaaGreatW
theorem zkg (w:World):(Go.sizeOf 136).run Tryz.prog w=.ok 5 w:=by
 obtain ⟨i0,hi,_,hz1,_⟩:=info_parts Gc
 simp [sizeOf,typeInfo,hi,hz1]
theorem zbU (args:Array Value) (w:World):(callFunc 158 args).run Tryz.prog w=((Extern.SlicesOverlaps.overlaps #[99,99] #[4] args).run Tryz.prog w).andThen fun v w'=>.ok (.value v) w':=by
 cases hq:Tryz.prog.funcs[158]? with
 | none =>
  have h:(Tryz.prog.funcs[158]?).isSome=true:=by kernel_rfl
  rw [hq] at h;cases h
 | some fn =>
  have h1 : (Tryz.prog.funcs[158]?).map (fun fn => (fn.name == "runtime.NumGoroutine", fn.body.isNone)) = some (false, true) := by kernel_rfl
  rw [hq] at h1
  simp only [Option.map_some,Option.some.injEq,Prod.mk.injEq] at h1
  have h2:(Tryz.prog.funcs[158]?).map (fun fn=>(Extern.findNext fn).isNone)=some true:=by kernel_rfl
  rw [hq] at h2
  simp only [Option.map_some,Option.some.injEq,Option.isNone_iff_eq_none] at h2
  have h3:(Tryz.prog.funcs[158]?).map (fun fn=>Extern.find fn)=some (some (Extern.SlicesOverlaps.overlaps #[99,99] #[4])):=by kernel_rfl
  rw [hq] at h3
  simp only [Option.map_some,Option.some.injEq] at h3
  exact run_callFunc_extern hq h1.1 h1.2 h2 h3 args w
theorem ziS {o:Oper} {a:Act} {w:World} (x y:Operand) (ts:Array TypeId) (ho:o.op=.call { callee:=.value (.func 158),args:=#[x,y],argTypes:=ts }) (p q:Addr) (la ca lb cb:Nat)
  (hx:a.eval x=.slice (some p) la ca) (hy:a.eval y=.slice (some q) lb cb) (hne:p.block≠q.block) (cs ds:Array Value) (t1 t2:TypeId) (hp:w.heap[p.block]?=some (.cells cs t1 (0,0))) (hq:w.heap[q.block]?=some (.cells ds t2 (0,0))) (h0:ds.size≠0) :
  (execOp a.eval o).run Tryz.prog w=.ok (.value (.bool false)) w:=by
 have h:=run_overlaps_apart (P:=Tryz.prog) w 99 4 136 Tryz.underlying99 5 zkg p q la ca lb cb hne t1 t2 cs.size ds.size (by simp [World.shape?,hp]) (by simp [World.shape?,hq]) h0 (by simp [World.frozen?,hp]) (by simp [World.frozen?,hp])
 have hc:=zbU #[.slice (some p) la ca,.slice (some q) lb cb] w
 rw [h] at hc
 simp only [Result.andThen_ok] at hc
 unfold execOp
 simp only [ho,resolve,Deferred.ofValue,invoke,Act.eval,Sem.run_bind,Sem.run_pure,Result.andThen_ok]
 simp [hx,hy,hc]
def yX (its:List It) (i:Nat) (x:It):List It:=its.take i++x::its.drop i
theorem JP (its:List It) (i:Nat) (x:It):zT (yX its i x)=(zT its).take (i*5)++zC x++(zT its).drop (i*5):=by
 unfold yX
 rw [show its.take i++x::its.drop i=its.take i++([x]++its.drop i) by simp,ZR,ZR,GK,GJ]
 simp [zT]
theorem Zm (its:List It) (i:Nat) (x:It):(yX its i x).length=its.length+1:=by
 unfold yX;rw [List.length_append,List.length_cons,List.length_take,List.length_drop];omega
theorem zdH (g c i b:Nat) (its:List It) (x:It) (w:World) (h:qg w (.slice (some ⟨g,0,none⟩) its.length c) its) (hi:i<its.length) (hl:its.length<=1000) (hc:its.length+1<=c) (hb:w.heap[b]?=some (.cells (zC x).toArray 136 (0,0))) (hne:b≠g) :
  Calls Tryz.prog 150 #[.slice (some ⟨g,0,none⟩) its.length c,.int .i64 i,.slice (some ⟨b,0,none⟩) 1 1] w fun e w'=>e=.returned (.slice (some ⟨g,0,none⟩) (its.length+1) c)/\qg w' (.slice (some ⟨g,0,none⟩) (its.length+1) c) (yX its i x)/\zr (fun y=>y=g) w w':=by
 obtain ⟨n,hn⟩:∃ n,n=its.length:=⟨_,rfl⟩
 obtain ⟨n1,hn1⟩:∃ k,k=n+1:=⟨_,rfl⟩
 obtain ⟨j1,hj1⟩:∃ j,j=i+1:=⟨_,rfl⟩
 have hj:(i:Int)+1=(j1:Int):=by omega
 have hnn:(n:Int)+1=(n1:Int):=by omega
 rw [<- hn,<- hn1]
 rw [<- hn] at hi hl hc h
 obtain ⟨cur,hh,hcs,htk,hcm⟩:∃ cur:Array Value,w.heap[g]?=some (.cells cur 136 (0,0))/\cur.toList.length=c*5/\cur.toList.take (n*5)=zT its/\c<=maxLen:=by
  rcases h.2 with ⟨h1,_⟩ | ⟨g',cap',cur,h1,_,hh,_,h3,h4,h5⟩
  ·cases h1
  ·injection h1 with e1 e2 e3
   injection e1 with e1
   injection e1 with e1
   subst e1 e3
   refine ⟨cur,hh,by simpa using h4,?_,h3⟩
   rw [<- hn] at h5;exact h5
 have hcsz:cur.size=c*5:=by simpa using hcs
 obtain ⟨Dl,hD⟩:∃ d,d=(zT its).drop (i*5):=⟨_,rfl⟩
 have hDl:Dl.length=(n-i)*5:=by rw [hD,List.length_drop,yK,<- hn];omega
 have hDc:∀ j u,Dl[j]?=some u->w.cell? ((⟨g,i*5,none⟩:Addr).add j)=some u:=by
  intro j u hu
  have hjl:j<Dl.length:=(List.getElem?_eq_some_iff.1 hu).1
  rw [Addr.add_mid,cell_of_row w g _ _ _ _ hh,<- Array.getElem?_toList]
  rw [hD,List.getElem?_drop,<- htk,List.getElem?_take,if_pos (by omega)] at hu
  exact hu
 have hD1:∀ v∈Dl,v.oneCell'=true:=fun v hv=>zaK its v (by rw [hD] at hv;exact List.mem_of_mem_drop hv)
 obtain ⟨C1,hC1⟩:∃ C:Array Value,C=(cur.toList.take (j1*5)++Dl++cur.toList.drop (j1*5+Dl.length)).toArray:=⟨_,rfl⟩
 have hC1l:C1.size=c*5:=by rw [hC1];simp only [List.size_toArray,List.length_append,List.length_take,List.length_drop];omega
 have cp1:=ZD (P:=Tryz.prog) w.drew 99 99 3 136 5 g (j1*5) (n1-j1) (c-j1) ⟨g,i*5,none⟩ (n1-i) (c-i) cur 136 Dl (n-i) Tryz.underlying99 (by kernel_rfl) hh (by show n-i=min (n1-i) (n1-j1);omega) hDl hDc (by rw [hcsz];omega) hD1
 rw [<- hC1] at cp1
 have hg1:(w.drew.setRow g C1).heap[g]?=some (.cells C1 136 (0,0)):=setRow_heap w.drew g cur C1 136 _ hh
 have hb1:(w.drew.setRow g C1).heap[b]?=some (.cells (zC x).toArray 136 (0,0)):=zbp (show w.drew.heap[b]?=_ from hb) hne C1
 obtain ⟨w1,hw1⟩:∃ w1,w1=w.drew.setRow g C1:=⟨_,rfl⟩
 rw [<- hw1] at cp1 hg1 hb1
 obtain ⟨C2,hC2⟩:∃ C:Array Value,C=(C1.toList.take (i*5)++zC x++C1.toList.drop (i*5+(zC x).length)).toArray:=⟨_,rfl⟩
 have cp2:=ZD (P:=Tryz.prog) w1 99 99 3 136 5 g (i*5) (n1-i) (c-i) ⟨b,0,none⟩ 1 1 C1 136 (zC x) 1 Tryz.underlying99 (by kernel_rfl) hg1 (by show 1=min 1 (n1-i);omega) rfl
  (fun j u hu=>by rw [Addr.add_mid,Nat.zero_add,cell_of_row w1 b _ _ _ _ hb1,List.getElem?_toArray];exact hu) (by rw [hC1l];show i*5+5<=c*5;omega) (uf x)
 rw [<- hC2] at cp2
 have hfin:qg (w1.setRow g C2) (.slice (some ⟨g,0,none⟩) n1 c) (yX its i x):=by
  unfold qg
  rw [Zm,<- hn,<- hn1]
  refine ⟨by rw [yK,Zm,<- hn,<- hn1],.inr ⟨g,c,C2,rfl,Nat.zero_le _,setRow_heap w1 g C1 C2 136 _ hg1,by omega,hcm,?_,?_⟩⟩
  ·rw [hC2];simp only [List.size_toArray,List.length_append,List.length_take,List.length_drop,Array.length_toList,hC1l]
   have:(zC x).length=5:=rfl
   omega
  ·have hs:=zfI cur.toList ((zT its).take (i*5)) (zC x) Dl (i*5) (by rw [<- htk,List.take_take,Nat.min_eq_left (by omega)]) (by omega) rfl (by omega)
   rw [JP,<- hD,hC2,hC1,show j1*5=i*5+5 by omega]
   rw [show n1*5=i*5+5+Dl.length by omega]
   exact hs
 have hkeep:zr (fun y=>y=g) w (w1.setRow g C2):=by
  rw [hw1]
  exact (((zr.refl (fun y=>y=g) w).drew.setRow (.inl rfl) C1).setRow (.inl rfl) C2)
 have q0:(0:Int)<=(i:Int):=by omega
 have q1:(i:Int)<=(n:Int):=by omega
 have q2:(n1:Int)<=(c:Int):=by omega
 have q3:¬ ((c:Int)<(n1:Int)):=by omega
 have q4:¬ ((i:Int)=(n:Int)):=by omega
 have q5:¬ (c=i):=by omega
 have q6:¬ (c=j1):=by omega
 have q7:(j1:Int)<=(n1:Int):=by omega
 have q8:(i:Int)<=(n1:Int):=by omega
 have q9:(n:Int)<=(c:Int):=by omega
 have q10:j1<=n1:=by omega
 have q11:i<=n1:=by omega
 have q12:i<=n:=by omega
 have z1:IntKind.i64.wrap (n1:Int)=(n1:Int):=by rw [IntKind.wrap_i64];unfold maxLen at hcm;omega
 have z2:IntKind.i64.wrap (j1:Int)=(j1:Int):=by rw [IntKind.wrap_i64];unfold maxLen at hcm;omega
 have hcz:cur.size≠0:=by rw [hcsz];omega
 obtain ⟨HCP1,HCP2,HF,HK,HG,HB,HNE,HCZ,HW1⟩:=zi9 cp1 cp2 hfin hkeep hh hb hne hcz hw1
 clear cp1 cp2 hfin hkeep hh hb hne hcz hw1 hg1 hb1 hC1 hC2 hC1l hD hDl hDc hD1 htk hcs hcsz hcm hn hn1 hj1 h hi hc
 go_enter Tryz.func150,Tryz.ntmps150
 go_upto_region 15 with (show wpList _ _ _ (⟨some 67,_,_,_,_,_⟩::_) _ _;refine zZ rfl _ _ (ziS (.tmp 61) (.tmp 66) #[99,99] rfl ⟨b,0,none⟩ ⟨g,j1*5,none⟩ 1 1 (n1-j1) (c-j1) (by rfl) (by rfl) HNE.out _ _ 136 136 HB.out HG.out HCZ.out) ?_)
 refine wp_region_noPanic ?_
 refine PrintLast.start_ (n:=9) (S:=(fun _=>True)) (ds:=[]) (bA 9 0) (by kernel_rfl) rfl (by kernel_rfl) trivial (fun hHeld=>?_)
 refine pu 0 69 9 1 rfl rfl ?_
 refine pu 1 70 9 3 rfl rfl ?_
 refine pu 2 71 9 7 rfl rfl ?_
 refine pu 3 72 9 15 rfl rfl ?_
 refine pu 4 73 9 31 rfl rfl ?_
 refine pu 5 74 9 63 rfl rfl ?_
 refine pu 6 75 9 127 rfl rfl ?_
 refine pu 7 76 9 255 rfl rfl ?_
 refine on 8 9 511 (some 77) rfl rfl (fun K hK=>?_)
 show Oper.wp _ ⟨some 77,_,_,_,_,_⟩ _ _ _ _
 refine vu (ZX (.tmp 73) (.tmp 76) #[99,99] rfl (by rfl) (by rfl) HCP1.out) ?_
 refine hK.out _ _ trivial (fun hHeld=>?_)
 clear hK K
 try simp only [pS]
 refine PrintLast.done_ (by kernel_rfl) ?_
 refine NoPanic.normal ?_
 clear hHeld
 go_wp2_with (show wpList _ _ _ (⟨some 82,_,_,_,_,_⟩::_) _ _;refine zZ rfl _ _ (ZX (.tmp 80) (.tmp 81) #[99,99] rfl (by rfl) (by rfl) HCP2.out) ?_)
 go_ret
 exact ⟨rfl,HF.out,HK.out⟩
theorem zef (cur T X D E:List Value) (k:Nat) (hT:T=cur.take k) (hk:k<=cur.length) (hX:X.length=5) :
  ((cur.take k++X++cur.drop (k+X.length)).take (k+5)++D++E).take (k+5+D.length)=T++X++D:=by
 have hl:(cur.take k++X).length=k+5:=by rw [List.length_append,List.length_take,hX];omega
 rw [List.take_left' hl,<- hT]
 rw [<- hT] at hl
 rw [List.take_left' (by rw [List.length_append,hl])]
theorem zdG (g i b:Nat) (its:List It) (x:It) (w:World) (h:qg w (.slice (some ⟨g,0,none⟩) its.length its.length) its) (hi:i<its.length) (hl:its.length<=1000) (hb:w.heap[b]?=some (.cells (zC x).toArray 136 (0,0))) :
  Calls Tryz.prog 150 #[.slice (some ⟨g,0,none⟩) its.length its.length,.int .i64 i,.slice (some ⟨b,0,none⟩) 1 1] w fun e w'=>∃ c',e=.returned (.slice (some ⟨w.heap.size,0,none⟩) (its.length+1) c')/\qg w' (.slice (some ⟨w.heap.size,0,none⟩) (its.length+1) c') (yX its i x)/\Below w.heap.size w w':=by
 obtain ⟨i0,hi0,hz0,hz1,hz2⟩:=info_parts Gc
 obtain ⟨n,hn⟩:∃ n,n=its.length:=⟨_,rfl⟩
 obtain ⟨n1,hn1⟩:∃ k,k=n+1:=⟨_,rfl⟩
 obtain ⟨j1,hj1⟩:∃ j,j=i+1:=⟨_,rfl⟩
 obtain ⟨kk,hkk⟩:∃ j,j=n1-i:=⟨_,rfl⟩
 obtain ⟨N,hN⟩:∃ j,j=w.heap.size:=⟨_,rfl⟩
 have hj:(i:Int)+1=(j1:Int):=by omega
 have hnn:(n:Int)+1=(n1:Int):=by omega
 have hks:(n1:Int)-(i:Int)=(kk:Int):=by omega
 rw [<- hn,<- hn1,<- hN]
 rw [<- hn] at hi hl h
 obtain ⟨cur,hh,hcs,htk⟩:∃ cur:Array Value,w.heap[g]?=some (.cells cur 136 (0,0))/\cur.toList.length=n*5/\cur.toList=zT its:=by
  rcases h.2 with ⟨h1,_⟩ | ⟨g',cap',cur,h1,_,hh,_,h3,h4,h5⟩
  ·cases h1
  ·injection h1 with e1 e2 e3
   injection e1 with e1
   injection e1 with e1
   subst e1 e3
   have h6:cur.toList.length=n*5:=by simpa using h4
   refine ⟨cur,hh,h6,?_⟩
   rw [<- hn,List.take_of_length_le (by omega)] at h5;exact h5
 have hcell:∀ j u,(zT its)[j]?=some u->w.cell? ⟨g,j,none⟩=some u:=by
  intro j u hu
  rw [cell_of_row w g _ _ _ _ hh,<- Array.getElem?_toList,htk];exact hu
 obtain ⟨T,hT⟩:∃ d,d=(zT its).take (i*5):=⟨_,rfl⟩
 obtain ⟨Dl,hD⟩:∃ d,d=(zT its).drop (i*5):=⟨_,rfl⟩
 have hTl:T.length=i*5:=by rw [hT,List.length_take,yK,<- hn];omega
 have hDl:Dl.length=(n-i)*5:=by rw [hD,List.length_drop,yK,<- hn];omega
 have hTc:∀ j u,T[j]?=some u->w.drew.cell? ((⟨g,0,none⟩:Addr).add j)=some u:=by
  intro j u hu
  rw [Addr.add_mid,Nat.zero_add]
  rw [hT,List.getElem?_take] at hu
  split at hu
  ·exact hcell j u hu
  ·cases hu
 have hfc:=run_firstCells_some (P:=Tryz.prog) w.drew 5 i ⟨g,0,none⟩ i n T hTl hTc
 have hap:=run_append_grow_zeros (P:=Tryz.prog) w 99 3 99 136 i0 _ .i64 .i64 Tryz.underlying99 Tryz.underlying3 hi0 hz0 (some ⟨g,0,none⟩) i n T (by rw [hz1];exact hfc) kk (by omega) (by rw [hz1];omega) (by omega) (by omega) (by rw [hz2];omega) (by
  rw [hz2]
  have:=nextslicecap_le (need:=i+kk) (old:=n) (by omega)
  omega)
 have hik:i+kk=n1:=by omega
 rw [hik,<- hN] at hap
 obtain ⟨c',hc'⟩:∃ c,c=grownCap w n1 n 136:=⟨_,rfl⟩
 have hge:n1<=c':=by rw [hc'];exact grownCap_ge w n1 n 136
 have hcm:c'<=maxLen:=by rw [hc'];exact grownCap_le_maxLen w n1 n 136 (by unfold maxLen;omega)
 rw [<- hc'] at hap
 obtain ⟨C0,hC0⟩:∃ C:Array Value,C=T.toArray++Builtin.zeroCells (Value.agg Zf.toArray).cells kk++Builtin.zeroCells (Value.agg Zf.toArray).cells (c' - n1):=⟨_,rfl⟩
 rw [<- hC0] at hap
 have hzl:∀ k,(Builtin.zeroCells (Value.agg Zf.toArray).cells k).size=k*5:=fun k=>by rw [size_zeroCells];rfl
 have hC0l:C0.size=c'*5:=by rw [hC0];simp only [Array.size_append,List.size_toArray,hzl];omega
 have hC0t:T=C0.toList.take (i*5):=by
  rw [hC0];simp only [Array.toList_append,List.append_assoc]
  rw [List.take_left' hTl]
 obtain ⟨w1,hw1⟩:∃ w1,w1=w.drew.alloc (.cells C0 136):=⟨_,rfl⟩
 rw [<- hw1] at hap
 have hB1:Below N w w1:=by rw [hw1,hN];exact B_alloc (Below.refl _ _).drew _
 have hN1:w1.heap[N]?=some (.cells C0 136 (0,0)):=by rw [hw1];exact zk _ _ hN
 have hbN:b<N:=by rw [hN];exact zd hb
 have hb1:w1.heap[b]?=some (.cells (zC x).toArray 136 (0,0)):=zb hb (by rw [hN] at hB1;exact hB1) (zd hb)
 obtain ⟨C1,hC1⟩:∃ C:Array Value,C=(C0.toList.take (i*5)++zC x++C0.toList.drop (i*5+(zC x).length)).toArray:=⟨_,rfl⟩
 have hX5:(zC x).length=5:=rfl
 have hC0l':C0.toList.length=c'*5:=by rw [Array.length_toList,hC0l]
 have hC1l:C1.size=c'*5:=by rw [hC1];simp only [List.size_toArray,List.length_append,List.length_take,List.length_drop,hX5];omega
 have cp1:=ZD (P:=Tryz.prog) w1 99 99 3 136 5 N (i*5) (n1-i) (c' - i) ⟨b,0,none⟩ 1 1 C0 136 (zC x) 1 Tryz.underlying99 (by kernel_rfl) hN1 (by show 1=min 1 (n1-i);omega) rfl
  (fun j u hu=>by rw [Addr.add_mid,Nat.zero_add,cell_of_row w1 b _ _ _ _ hb1,List.getElem?_toArray];exact hu) (by rw [hC0l,hX5];omega) (uf x)
 rw [<- hC1] at cp1
 obtain ⟨w2,hw2⟩:∃ w2,w2=w1.setRow N C1:=⟨_,rfl⟩
 rw [<- hw2] at cp1
 have hN2:w2.drew.heap[N]?=some (.cells C1 136 (0,0)):=by rw [hw2];exact setRow_heap w1 N C0 C1 136 _ hN1
 have hB2:Below N w w2:=by rw [hw2];exact below_setRow hB1 (Nat.le_refl _) _
 have hgN:g<N:=by rw [hN];exact zd hh
 have hDc:∀ j u,Dl[j]?=some u->w2.drew.cell? ((⟨g,i*5,none⟩:Addr).add j)=some u:=by
  intro j u hu
  rw [Addr.add_mid]
  rw [hD,List.getElem?_drop] at hu
  exact qk (hcell _ _ hu) hB2.drew hgN
 obtain ⟨C2,hC2⟩:∃ C:Array Value,C=(C1.toList.take (j1*5)++Dl++C1.toList.drop (j1*5+Dl.length)).toArray:=⟨_,rfl⟩
 have cp2:=ZD (P:=Tryz.prog) w2.drew 99 99 3 136 5 N (j1*5) (n1-j1) (c' - j1) ⟨g,i*5,none⟩ (n-i) (n-i) C1 136 Dl (n-i) Tryz.underlying99 (by kernel_rfl) hN2 (by show n-i=min (n-i) (n1-j1);omega) hDl hDc (by rw [hC1l];omega)
  (fun v hv=>zaK its v (by rw [hD] at hv;exact List.mem_of_mem_drop hv))
 rw [<- hC2] at cp2
 have hfin:qg (w2.drew.setRow N C2) (.slice (some ⟨N,0,none⟩) n1 c') (yX its i x):=by
  unfold qg
  rw [Zm,<- hn,<- hn1]
  refine ⟨by rw [yK,Zm,<- hn,<- hn1],.inr ⟨N,c',C2,rfl,Nat.zero_le _,setRow_heap w2.drew N C1 C2 136 _ hN2,hge,hcm,?_,?_⟩⟩
  ·rw [hC2];simp only [List.size_toArray,List.length_append,List.length_take,List.length_drop,Array.length_toList,hC1l];omega
  ·have hs:=zef C0.toList T (zC x) Dl (C1.toList.drop (j1*5+Dl.length)) (i*5) hC0t (by omega) rfl
   rw [JP,<- hD,<- hT,hC2,show n1*5=i*5+5+Dl.length by omega]
   rw [show C1.toList=C0.toList.take (i*5)++zC x++C0.toList.drop (i*5+(zC x).length) by rw [hC1]] at hs ⊢
   rw [show j1*5=i*5+5 by omega] at hs ⊢
   exact hs
 have hB3:Below N w (w2.drew.setRow N C2):=below_setRow hB2.drew (Nat.le_refl _) _
 have q0:(0:Int)<=(i:Int):=by omega
 have q1:(i:Int)<=(n:Int):=by omega
 have q3:(n:Int)<(n1:Int):=by omega
 have q4:¬ ((i:Int)=(n:Int)):=by omega
 have q5:¬ (n=i):=by omega
 have q6:¬ (c'=j1):=by omega
 have q6':¬ (c'=i):=by omega
 have q7:(j1:Int)<=(n1:Int):=by omega
 have q8:(i:Int)<=(n1:Int):=by omega
 have q9:(n1:Int)<=(c':Int):=by omega
 have q10:j1<=n1:=by omega
 have q11:i<=n1:=by omega
 have q12:i<=n:=by omega
 have z1:IntKind.i64.wrap (n1:Int)=(n1:Int):=by rw [IntKind.wrap_i64];omega
 have z2:IntKind.i64.wrap (j1:Int)=(j1:Int):=by rw [IntKind.wrap_i64];omega
 have z3:IntKind.i64.wrap (kk:Int)=(kk:Int):=by rw [IntKind.wrap_i64];omega
 obtain ⟨HAP,HCP1,HCP2,HF,HB3⟩:=zi5 hap cp1 cp2 hfin hB3
 clear hap cp1 cp2 hfin hB3 hw1 hw2 hB1 hN1 hbN hb1 hC1 hX5 hC0l' hC1l hN2 hB2 hgN hDc hC2 hC0 hzl hC0l hC0t hge hcm hc' hik hfc hTc hDl hTl hT hD hcell htk hcs hh hb h hi hn hn1 hj1 hkk hN
 go_enter Tryz.func150,Tryz.ntmps150
 go_upto_region 11 with (first
  | (show wpList _ _ _ (⟨some 40,_,_,_,_,_⟩::_) _ _;refine zZ rfl _ _ (JX (.tmp 34) (.tmp 39) #[99,3] rfl (by rfl) (by rfl) HAP.out) ?_)
  | (show wpList _ _ _ (⟨some 45,_,_,_,_,_⟩::_) _ _;refine zZ rfl _ _ (ZX (.tmp 43) (.tmp 44) #[99,99] rfl (by rfl) (by rfl) HCP1.out) ?_))
 refine wp_region_noPanic ?_
 refine PrintLast.start_ (n:=9) (S:=(fun _=>True)) (ds:=[]) (bA 9 0) (by kernel_rfl) rfl (by kernel_rfl) trivial (fun hHeld=>?_)
 refine pu 0 46 9 1 rfl rfl ?_
 refine pu 1 47 9 3 rfl rfl ?_
 refine pu 2 48 9 7 rfl rfl ?_
 refine pu 3 49 9 15 rfl rfl ?_
 refine pu 4 50 9 31 rfl rfl ?_
 refine pu 5 51 9 63 rfl rfl ?_
 refine pu 6 52 9 127 rfl rfl ?_
 refine pu 7 53 9 255 rfl rfl ?_
 refine on 8 9 511 (some 54) rfl rfl (fun K hK=>?_)
 show Oper.wp _ ⟨some 54,_,_,_,_,_⟩ _ _ _ _
 refine vu (ZX (.tmp 50) (.tmp 53) #[99,99] rfl (by rfl) (by rfl) HCP2.out) ?_
 refine hK.out _ _ trivial (fun hHeld=>?_)
 clear hK K
 try simp only [pS]
 refine PrintLast.done_ (by kernel_rfl) ?_
 refine NoPanic.normal ?_
 clear hHeld
 go_wp2_with fail
 go_ret
 exact ⟨c',rfl,HF.out,HB3.out⟩
theorem zgr (its:List It) (x:It):yX its its.length x=its++[x]:=by simp [yX]
theorem zeW (v:Value) (its:List It) (x:It) (i b:Nat) (w:World) (h:qg w v its) (hi:i<=its.length) (hl:its.length<=1000) (hb:w.heap[b]?=some (.cells (zC x).toArray 136 (0,0))) (hne:v.ownBlock≠some b) :
  Calls Tryz.prog 150 #[v,.int .i64 i,.slice (some ⟨b,0,none⟩) 1 1] w fun e w'=>∃ v',e=.returned v'/\qg w' v' (yX its i x)/\zr (fun y=>v.ownBlock=some y) w w'/\(v'.ownBlock=v.ownBlock∨v'.ownBlock=some w.heap.size):=by
 by_cases he:i=its.length
 ·subst he
  rw [zgr]
  exact zeX v its x b w h hl hb
 ·have hlt:i<its.length:=by omega
  have hv:∃ g c,v=.slice (some ⟨g,0,none⟩) its.length c/\its.length<=c:=by
   rcases h.2 with ⟨h1,h0⟩ | ⟨g,cap,cur,h1,_,_,h2,_⟩
   ·omega
   ·exact ⟨g,cap,h1,h2⟩
  obtain ⟨g,c,rfl,hc⟩:=hv
  by_cases hr:its.length+1<=c
  ·refine (zdH g c i b its x w h hlt hl hr hb (fun e=>hne (by rw [e];rfl))).mono ?_
   rintro e w' ⟨rfl,h1,h2⟩
   exact ⟨_,rfl,h1,h2.mono (fun y hy=>.inl (by rw [hy];rfl)),.inl rfl⟩
  ·have hce:c=its.length:=by omega
   subst hce
   refine (zdG g i b its x w h hlt hl hb).mono ?_
   rintro e w' ⟨c',rfl,h1,h2⟩
   exact ⟨_,rfl,h1,zr.of_below h2,.inr rfl⟩
def yZ (its:List It) (m:Nat) (x:It):List It:=if qv its m x.rw then its.set m x else yX its m x
theorem zhi (its:List It) (m:Nat) (x:It) (hm:m<its.length):zT (its.set m x)=(zT its).take (m*5)++zC x++(zT its).drop (m*5+5):=by
 rw [List.set_eq_take_append_cons_drop,if_pos hm]
 have e:=JP (its.take m++its.drop (m+1)) m x
 unfold yX at e
 have ht:(its.take m++its.drop (m+1)).take m=its.take m:=by rw [List.take_left' (by rw [List.length_take];omega)]
 have hd:(its.take m++its.drop (m+1)).drop m=its.drop (m+1):=by rw [List.drop_left' (by rw [List.length_take];omega)]
 rw [ht,hd] at e
 rw [e,ZR,GK,GJ]
 have hl:((zT its).take (m*5)).length=m*5:=by rw [List.length_take,yK];omega
 rw [List.take_left' hl,List.drop_left' hl,show (m+1)*5=m*5+5 by omega]
theorem zfK (cur X:List Value) (a n5:Nat) (hX:X.length=5) (h1:a+5<=n5) (h2:n5<=cur.length):((cur.take a++X++cur.drop (a+5)).take n5)=(cur.take n5).take a++X++(cur.take n5).drop (a+5):=by
 have hl:(cur.take a++X).length=a+5:=by rw [List.length_append,List.length_take,hX];omega
 rw [List.take_append,List.take_of_length_le (by omega),hl,List.take_take,Nat.min_eq_left (by omega),List.drop_take]
theorem zey (X o:Nat) (v:Value) (its:List It) (x:It) (m:Nat) (w:World) (h:QG w X o v its) (hl:its.length<=1000) (hc:Cut its x.rw m) :
  Calls Tryz.prog 128 #[.pointer (some ⟨X,o,none⟩),.agg #[.int .i64 x.rw.t,.string (za x.rw.k),.string (za x.rw.v),.int .i64 x.pg,.int .i64 x.sl]] w fun e w'=>e=.returned (.tuple #[])/\∃ w0 v',(w'=w0/\v'=v∨w'=w0.setCell ⟨X,o,none⟩ v')/\zr (fun y=>v.ownBlock=some y) w w0/\(v'.ownBlock=v.ownBlock∨∃ q,v'.ownBlock=some q/\w.heap.size<=q)/\qg w0 v' (yZ its m x):=by
 obtain ⟨w1,hw1⟩:∃ w1,w1=w.alloc (.cells #[.int .i64 x.rw.t,.string (za x.rw.k),.string (za x.rw.v),.int .i64 x.pg,.int .i64 x.sl] 136):=⟨_,rfl⟩
 have hC:w1.heap[w.heap.size]?=some (.cells #[.int .i64 x.rw.t,.string (za x.rw.k),.string (za x.rw.v),.int .i64 x.pg,.int .i64 x.sl] 136 (0,0)):=by rw [hw1];exact zk _ _ rfl
 have hB:Below w.heap.size w w1:=by rw [hw1];exact B_alloc (Below.refl _ _) _
 have hXl:X<w.heap.size:=ZP h.cell
 have hx1:w1.cell? ⟨X,o,none⟩=some v:=qk h.cell hB hXl
 have h1:qg w1 v its:=zi h.its (fun k hk=>hB.block k (h.its.lt k hk).2)
 have hat:=zco X o v its x.rw m w1 hx1 h1 hl hc
 obtain ⟨H,HAT,HB,HC,H1⟩:=zi5 h hat hB hC h1
 have a0:=cell_of_row w1 w.heap.size 0 _ _ _ hC
 have a1:=cell_of_row w1 w.heap.size 1 _ _ _ hC
 have a2:=cell_of_row w1 w.heap.size 2 _ _ _ hC
 clear h hat hB hC h1 hx1
 cases hf:qv its m x.rw with
 | true =>
  have hr:yZ its m x=its.set m x:=by simp [yZ,hf]
  have hm:m<its.length:=by
   unfold qv at hf
   cases hx:its[m]? with
   | none=>rw [hx] at hf;cases hf
   | some y=>exact (List.getElem?_eq_some_iff.1 hx).1
  have HR:=hid hr
  clear hr
  go_enter Tryz.func128,Tryz.ntmps128
  go_upto_region 1 with fail
  rw [<- hw1]
  clear hw1
  go_upto_region 4 with (go_at_call 131;refine HAT.out.mono ?_;rintro e1 w2 ⟨rfl,hb2⟩)
  have hi2:qg w2.drew v its:=zi H1.out (fun q hq=>hb2.block q (H1.out.lt q hq).2)
  obtain ⟨g,c,cur,rfl,hg,hcc,hcs,htk,hcm⟩:∃ g c,∃ cur:Array Value,v=.slice (some ⟨g,0,none⟩) its.length c/\w2.drew.heap[g]?=some (.cells cur 136 (0,0))/\its.length<=c/\cur.size=c*5/\cur.toList.take (its.length*5)=zT its/\c<=maxLen:=by
   rcases hi2.2 with ⟨_,h0⟩ | ⟨g,cap,cur,h1,_,hh,h2,h3,h4,h5⟩
   ·omega
   ·exact ⟨g,cap,cur,h1,hh,h2,h4,h5,h3⟩
  have hx2:w2.drew.cell? ⟨X,o,none⟩=some (.slice (some ⟨g,0,none⟩) its.length c):=qk (qk H.out.cell HB.out hXl) hb2.drew (Nat.lt_of_lt_of_le hXl HB.out.size)
  have hC2:=zb HC.out hb2 (zd HC.out)
  have hS:w2.drew.cell? ⟨X,o,none⟩=some (.slice (some ⟨g,0,none⟩) its.length c)/\w2.drew.heap[w.heap.size]?=some (.cells #[.int .i64 x.rw.t,.string (za x.rw.k),.string (za x.rw.v),.int .i64 x.pg,.int .i64 x.sl] 136 (0,0)):=⟨hx2,hC2⟩
  have hbw:Below w.heap.size w w2.drew:=(B_call HB.out hb2).drew
  have q0:(0:Int)<=(m:Int):=by omega
  have q1:(m:Int)<(its.length:Int):=by omega
  have hcl:cur.toList.length=c*5:=by rw [Array.length_toList,hcs]
  have hfin:qg (w2.drew.setRow g (cur.toList.take (m*5)++(zC x).toArray.toList++cur.toList.drop (m*5+(zC x).toArray.size)).toArray) (.slice (some ⟨g,0,none⟩) its.length c) (its.set m x):=by
   have hX5:(zC x).length=5:=rfl
   unfold qg
   rw [List.length_set]
   refine ⟨by rw [yK,List.length_set],.inr ⟨g,c,_,rfl,Nat.zero_le _,setRow_heap w2.drew g cur _ 136 _ hg,hcc,hcm,?_,?_⟩⟩
   ·simp only [List.size_toArray,List.length_append,List.length_take,List.length_drop,hX5];omega
   ·rw [zhi its m x hm,<- htk]
    simp only [List.size_toArray,hX5]
    exact zfK cur.toList (zC x) (m*5) (its.length*5) rfl (by omega) (by omega)
  obtain ⟨HFIN,HBW,HG,HCS⟩:=zi4 hfin hbw hg hcs
  clear hb2 hi2 hx2 hC2 hbw hcl hfin hg hcs htk hcm
  refine wp_region_noPanic ?_
  refine PrintLast.start_ (n:=8) (S:=(fun w'=>w'.cell? ⟨X,o,none⟩=some (.slice (some ⟨g,0,none⟩) its.length c)/\w'.heap[w.heap.size]?=some (.cells #[.int .i64 x.rw.t,.string (za x.rw.k),.string (za x.rw.v),.int .i64 x.pg,.int .i64 x.sl] 136 (0,0)))) (ds:=[7]) (bA 8 0) (by kernel_rfl) rfl (by kernel_rfl) hS (fun hHeld=>?_)
  refine pu 0 16 8 1 rfl rfl ?_
  refine pu 1 17 8 3 rfl rfl ?_
  refine pu 2 18 8 7 rfl rfl ?_
  refine tq 3 19 8 15 rfl rfl ?_
  refine pu 4 20 8 31 rfl rfl ?_
  refine tk 5 21 8 63 rfl rfl (qE 136 (.tmp 3) rfl (by rfl) w.heap.size (by rfl) 136 #[.int .i64 x.rw.t,.string (za x.rw.k),.string (za x.rw.v),.int .i64 x.pg,.int .i64 x.sl] (0,0) _ (fun _ h=>h.2) Tryz.underlying136 rfl (by kernel_rfl)) ?_
  refine pu 6 22 8 127 rfl rfl ?_
  refine la 7 8 255 none rfl rfl (fun K hK=>?_)
  show Oper.wp _ ⟨none,_,_,_,_,_⟩ _ _ _ _
  refine um 136 (.tmp 22) (.tmp 21) rfl g (m*5) 136 cur (zC x).toArray (by rfl) (by rfl) HG.out (by rw [HCS.out];show m*5+5<=c*5;omega) (by kernel_rfl) (uf x) ?_
  refine hK.out _ _ ?_
  clear hK K
  try simp only [pS]
  refine PrintLast.done_ (by kernel_rfl) ?_
  refine NoPanic.normal ?_
  clear hHeld hS
  go_wp2_with fail
  refine uN rfl rfl ?_
  refine ⟨rfl,_,_,.inl ⟨rfl,rfl⟩,?_,.inl rfl,?_⟩
  ·exact (zr.of_below (M:=fun y=>(Value.slice (some ⟨g,0,none⟩) its.length c).ownBlock=some y) HBW.out).setRow (.inl rfl) _
  ·rw [HR.out]
   have h9:=HFIN.out
   rw [List.append_assoc] at h9
   exact h9
 | false =>
  have hr:yZ its m x=yX its m x:=by simp [yZ,hf]
  have HR:=hid hr
  clear hr
  go_enter Tryz.func128,Tryz.ntmps128
  go_upto_region 1 with fail
  rw [<- hw1]
  clear hw1
  go_upto_region 5 with (go_at_call 131;refine HAT.out.mono ?_;rintro e1 w2 ⟨rfl,hb2⟩)
  have hi2:qg w2.drew v its:=zi H1.out (fun q hq=>hb2.block q (H1.out.lt q hq).2)
  obtain ⟨A,c,rfl⟩:=own_slice hi2
  have hx2:w2.drew.cell? ⟨X,o,none⟩=some (.slice A its.length c):=qk (qk H.out.cell HB.out hXl) hb2.drew (Nat.lt_of_lt_of_le hXl HB.out.size)
  have hC2:=zb HC.out hb2 (zd HC.out)
  have hX2:X<w2.drew.heap.size:=ZP hx2
  have hS:w2.drew.cell? ⟨X,o,none⟩=some (.slice A its.length c)/\w2.drew.heap[w.heap.size]?=some (.cells #[.int .i64 x.rw.t,.string (za x.rw.k),.string (za x.rw.v),.int .i64 x.pg,.int .i64 x.sl] 136 (0,0)):=⟨hx2,hC2⟩
  obtain ⟨C,T,hCX,hCo⟩:=H.out.ex
  have hbw:Below w.heap.size w w2.drew:=(B_call HB.out hb2).drew
  have hW:qg (w2.drew.alloc (.cells (zC x).toArray 136)) (.slice A its.length c) its:=zi hi2 (fun q hq=>Below.heap_alloc w2.drew _ q (hi2.lt q hq).2)
  have hins:=zeW (.slice A its.length c) its x m w2.drew.heap.size _ hW hc.le hl (zk _ _ rfl) (fun e=>Nat.lt_irrefl _ (hi2.lt _ e).2)
  have hown:∀ q,(Value.slice A its.length c).ownBlock=some q->q<w.heap.size:=fun q hq=>(H.out.its.lt q hq).2
  obtain ⟨HINS,HBW⟩:=zi2 hins hbw
  have HCX:=hid (zb hCX hbw hXl)
  have hol:o<C.size:=(Array.getElem?_eq_some_iff.1 hCo).1
  have HOWN:=hid hown
  have hCl:w.heap.size<w2.drew.heap.size:=zd hC2
  clear hb2 hi2 hx2 hC2 hCX hCo hW hins hbw hown
  refine wp_region_noPanic ?_
  refine PrintLast.start_ (n:=12) (S:=(fun w'=>w'.cell? ⟨X,o,none⟩=some (.slice A its.length c)/\w'.heap[w.heap.size]?=some (.cells #[.int .i64 x.rw.t,.string (za x.rw.k),.string (za x.rw.v),.int .i64 x.pg,.int .i64 x.sl] 136 (0,0)))) (ds:=[11]) (bA 12 0) (by kernel_rfl) rfl (by kernel_rfl) hS (fun hHeld=>?_)
  refine pu 0 23 12 1 rfl rfl ?_
  refine pu 1 24 12 3 rfl rfl ?_
  refine pu 2 25 12 7 rfl rfl ?_
  refine pu 3 26 12 15 rfl rfl ?_
  refine tq 4 27 12 31 rfl rfl ?_
  refine pu 5 28 12 63 rfl rfl ?_
  refine tk 6 29 12 127 rfl rfl (qE 136 (.tmp 3) rfl (by rfl) w.heap.size (by rfl) 136 #[.int .i64 x.rw.t,.string (za x.rw.k),.string (za x.rw.v),.int .i64 x.pg,.int .i64 x.sl] (0,0) _ (fun _ h=>h.2) Tryz.underlying136 rfl (by kernel_rfl)) ?_
  refine on 7 12 255 (some 30) rfl rfl (fun K hK=>?_)
  show Oper.wp _ ⟨some 30,_,_,_,_,_⟩ _ _ _ _
  refine vf 99 136 5 56 (.tmp 29) rfl (.agg (zC x).toArray) (by rfl) Tryz.underlying99 KZ (by rfl) (by omega) (by omega) ?_
  refine hK.out _ _ ⟨jI hHeld.1 _,zy hHeld.2 _⟩ (fun hHeld=>?_)
  clear hK K
  try simp only [pS]
  refine on 8 12 511 (some 31) rfl rfl (fun K hK=>?_)
  show Oper.wp _ ⟨some 31,_,_,_,_,_⟩ _ _ _ _
  refine zq 150 _ _ [.slice A its.length c,.int .i64 m,.slice (some ⟨w2.drew.heap.size,0,none⟩) 1 1] rfl (by kernel_rfl) (by rfl) (HINS.out.mono ?_)
  rintro e1 w4 ⟨v4,rfl,hits4,hk4,ho4⟩
  obtain ⟨A4,c4,rfl⟩:=own_slice hits4
  have hX4:=qj (zy HCX.out (.cells (zC x).toArray 136)) hk4 H.out.ne
  refine ⟨_,rfl,?_⟩
  refine hK.out _ _ ⟨ue hHeld.1 hk4 H.out.ne,qj hHeld.2 hk4 (fun e=>Nat.lt_irrefl _ (HOWN.out _ e))⟩ (fun hHeld=>?_)
  clear hK K
  try simp only [pS]
  refine pu 9 32 12 1023 rfl rfl ?_
  refine pu 10 33 12 2047 rfl rfl ?_
  refine la 11 12 4095 none rfl rfl (fun K hK=>?_)
  show Oper.wp _ ⟨none,_,_,_,_,_⟩ _ _ _ _
  refine jp 99 (.tmp 33) (.tmp 31) rfl X o C T _ (by rfl) (by rfl) (by kernel_rfl) hX4 hol rfl ?_
  refine hK.out _ _ ?_
  clear hK K
  try simp only [pS]
  refine PrintLast.done_ (by kernel_rfl) ?_
  refine NoPanic.normal ?_
  go_wp2_with fail
  refine uN rfl rfl ?_
  refine ⟨rfl,w4,_,.inr rfl,?_,?_,?_⟩
  ·exact ((zr.of_below (M:=fun y=>(Value.slice A its.length c).ownBlock=some y) HBW.out).call (B_alloc (Below.refl _ _) _)).trans hk4 (fun q hq=>.inl hq)
  ·rcases ho4 with e | e
   ·exact .inl e
   ·exact .inr ⟨_,e,by simp;exact Nat.le_succ_of_le HBW.out.size⟩
  ·rw [HR.out];exact hits4
end Go.Proofs.YtechnoogjhohfaaGreat
