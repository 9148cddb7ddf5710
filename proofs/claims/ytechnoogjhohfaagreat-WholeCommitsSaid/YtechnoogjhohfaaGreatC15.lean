/-
  Joined by a program from texts written one by one: part 15 of the walk through the program and of the law behind it.
-/
import Derived.Test.YtechnoogjhohfaaGreatC14
import Derived.LoopIn
import Derived.LoopNIn
import Derived.OwnWalkIn
import Derived.Sort.CutIn
import Derived.TacticsInMore
set_option maxRecDepth 100000
set_option maxHeartbeats 6400000
set_option linter.unusedVariables false
set_option linter.unusedSimpArgs false
namespace Go.Proofs.YtechnoogjhohfaaGreat
open Go.RowKit Go.Lib
open YtechnoogjhohfaaGreatW
section
attribute [local go_sem] Oper.semAt_some
def vY (l:List Chg) (pg:Nat):List Nat:=l.filterMap fun c=>if c.pg=pg/\c.before≠none then some c.sl else none
def jv (l:List (Nat × Nat × Tx)) (pg:Nat):List Nat:=l.flatMap fun p=>vY p.2.2.list pg
theorem zfa {l:List (Nat × Nat × Tx)} {k i b pg:Nat} {x:Tx} (h:l[k]?=some (i,b,x)):jv (l.take (k+1)) pg=jv (l.take k) pg++vY x.list pg:=by
 obtain ⟨hl,hx⟩:=List.getElem?_eq_some_iff.1 h
 rw [List.take_succ_eq_append_getElem hl,hx]
 simp [jv]
theorem zeZ {l:List Chg} {j pg:Nat} {c:Chg} (h:l[j]?=some c):vY (l.take (j+1)) pg=vY (l.take j) pg++(if c.pg=pg/\c.before≠none then [c.sl] else []):=by
 obtain ⟨hl,hx⟩:=List.getElem?_eq_some_iff.1 h
 rw [List.take_succ_eq_append_getElem hl,hx]
 unfold vY
 rw [List.filterMap_append]
 split<;>simp [*]
theorem zcI (l:List Chg) (pg:Nat):(vY l pg).length<=l.length:=List.length_filterMap_le _ _
theorem GL:∀ (l:List (Nat × Nat × Tx)) (pg:Nat),(jv l pg).length<=jK l
 | [],_=>by simp [jv,jK]
 | p::l,pg=>by
  have h1:=GL l pg
  have h2:=zcI p.2.2.list pg
  simp only [jv,jK,List.flatMap_cons,List.map_cons,List.sum_cons,List.length_append] at *
  omega
theorem Kj {P:Program} {l n:Nat} {ops:Array Oper} {Q:Exit->Act->World->Prop} {a:Act} {w:World} {rest:List Oper} {o:Oper} (hg:o.guard=none) (hd:yL o=true) (h:∀ K:Act->World->Prop,(∀ a w,wpListIn (Fence.wide.inRound l) n P ops Q rest a w->K a w)->o.wp P a w K Q):wpListIn (Fence.wide.inRound l) n P ops Q (o::rest) a w :=
 wpListIn_plain hg fun K hK=>zcT (vr l) n hd (h K hK)
theorem zjl:yU Tryz.prog 3 1 8:=yU.of (by kernel_rfl)
theorem Jz {w:World} {B t:Nat} {A:Option Addr} {n c:Nat} {l:List Chg} (h:w.ownsRow B t 3 (.slice A n c) n (zY l)) {k:Nat} {x:Chg} (hx:l[k]?=some x):∃ g,A=some ⟨g,0,none⟩/\g<w.heap.size/\n<=c/\w.rangeAt g (k*3) (zw x):=by
 have hl:=(List.getElem?_eq_some_iff.1 hx).1
 obtain ⟨h0,h⟩:=h
 rw [zhR] at h0
 rcases h with ⟨_,hn⟩ | ⟨g,cap,cur,hv,_,hh,h1,_,h3,h4⟩
 ·omega
 ·injection hv with e1 e2 e3
  subst e1 e3
  refine ⟨g,rfl,zd hh,h1,fun j v hj=>?_⟩
  have hj5:j<3:=(List.getElem?_eq_some_iff.1 hj).1
  rw [cell_of_row w g _ cur t (0,0) hh]
  have h9:=(chgs_at l k x hx j hj5).trans hj
  rw [<- h4,List.getElem?_take_of_lt (by omega)] at h9
  simpa using h9
theorem zik (S pg:Nat) (ts:qL) (G:Nat->Nat->Prop) (w:World) (h:jZ w S ts G) :
  Calls Tryz.prog 133 #[.pointer (some ⟨S,1,none⟩),.int .i64 pg] w fun e w'=>∃ v,e=.returned v/\w'.ownsRow w.heap.size 3 1 v (jv (zH ts) pg).length (Zx (jv (zH ts) pg))/\Below w.heap.size w w':=by
 have H:=hid h
 clear h
 refine uQ Tryz.func133 rfl ?_
 simp only [Tryz.ntmps133,List.size_toArray,List.length_cons,List.length_nil,Nat.reduceAdd,Nat.reduceSub,Array.replicate_succ,Array.replicate_zero,List.push_toArray,List.append_toArray,List.nil_append,List.cons_append]
 go_wp2_with fail
 refine Jp (gf:=68) (bound:=#[.pointer (some ⟨S,1,none⟩)]) (caps:=#[]) (by rfl) (by kernel_rfl) (zH ts).length (vH ts) (QA ts) (fun k W=>Below w.heap.size w W/\w.heap.size+4<=W.heap.size/\W.heap[w.heap.size]?=some (.cells #[.int .i64 pg] 3 (0,0))/\∃ v,W.heap[w.heap.size+1]?=some (.cells #[v] 51 (0,0))/\W.ownsRow (w.heap.size+4) 3 1 v (jv ((zH ts).take k) pg).length (Zx (jv ((zH ts).take k) pg))) ?h0 ?hput ?hbel (zaD S ts _ H.out.len (fun W hW=>H.out.row.same (hW.1.block S H.out.row.lt))) ?hround ?hend
 case h0=>exact fun rec=>⟨B_alloc (B_alloc (B_alloc (B_alloc (Below.refl _ _) _) _) _) _,by simp,zy (zy (zy (zk _ _ rfl) _) _) _,_,zy (zy (zk _ _ (by simp)) _) _,World.ownsRow_nil _ _ _ _⟩
 case hput =>
  rintro k W o ⟨h1,h2,h3,v,h4,h5⟩ hl
  refine ⟨Below.put h1 (by simp<;>omega) o,by simpa using h2,(World.putObj_heap_other (by simp<;>omega)).trans h3,v,(World.putObj_heap_other (by simp<;>omega)).trans h4,zi h5 fun q hq=>World.putObj_heap_other (by have:=(h5.lt q hq).1;simp<;>omega)⟩
 case hbel =>
  rintro k W W' ⟨h1,h2,h3,v,h4,h5⟩ hb
  exact ⟨B_call h1 hb,Nat.le_trans h2 hb.size,zb h3 hb (zd h3),v,zb h4 hb (zd h4),zi h5 fun q hq=>hb.block q (h5.lt q hq).2⟩
 case hround =>
  rintro k W hk ⟨h1,h2,h3,v,h4,h5⟩ hl
  obtain ⟨⟨i,b,x⟩,hx⟩:∃ p,(zH ts)[k]?=some p:=⟨_,List.getElem?_eq_getElem hk⟩
  obtain ⟨htx,hok⟩:=H.out.tx i b x (H.out.open_ hx)
  have htxW:=htx.below h1
  rw [JT hx]
  simp only [List.zip_toArray,List.zip_cons_cons,List.zip_nil_right,List.foldl_toArray,List.foldl_cons,List.foldl_nil,List.setIfInBounds_toArray,List.set_cons_succ,List.set_cons_zero]
  refine ym (vr _) 0 rfl (fun _ _ h=>h) ?_
  go_wp2_with fail
  refine ⟨uP.refl _ _,fun o=>?_⟩
  refine wpIn_block ?_
  obtain ⟨W2,hW2⟩:∃ W2,W.putObj (((w.alloc (.cells #[.int .i64 pg] 3)).alloc (.cells #[.slice none 0 0] 51)).heap.size+1) o=W2:=⟨_,rfl⟩
  rw [hW2]
  simp only [World.size_alloc] at hW2 ⊢
  have hbl:=H.out.lt htx.gT
  obtain ⟨lv,sv,hb0,hlo,_⟩:=htx.ex
  obtain ⟨A,c,rfl⟩:=own_slice hlo
  have hb:W2.heap[b]?=some (.cells #[.slice A x.list.length c,sv,.int .i64 x.ops] 208 (0,0)):=by rw [<- hW2];exact (World.putObj_heap_other (by omega)).trans ((h1.block b hbl).trans hb0)
  have kb:=(cell_of_row W2 b 0 _ _ _ hb).trans (show _=some (Value.slice A x.list.length c) from rfl)
  obtain ⟨HX,HW2,HB,HLO,HOK⟩:=zi5 hx hW2 hb hlo hok
  clear hx hW2 hb hb0 hlo hok htxW
  have hloc2:uP (w.heap.size+2) W2 W2:=uP.refl _ _
  have hB2:Below w.heap.size w W2:=by rw [<- HW2.out];exact Below.put h1 (by omega) o
  have hz2:w.heap.size+4<=W2.heap.size:=by rw [<- HW2.out];simpa using h2
  have hp2:W2.heap[w.heap.size]?=some (.cells #[.int .i64 pg] 3 (0,0)):=by rw [<- HW2.out];exact (World.putObj_heap_other (by omega)).trans h3
  have ho2:W2.heap[w.heap.size+1]?=some (.cells #[v] 51 (0,0)):=by rw [<- HW2.out];exact (World.putObj_heap_other (by omega)).trans h4
  have hv2:W2.ownsRow (w.heap.size+4) 3 1 v (jv ((zH ts).take k) pg).length (Zx (jv ((zH ts).take k) pg)):=by rw [<- HW2.out];exact zi h5 fun q hq=>World.putObj_heap_other (by have:=(h5.lt q hq).1;omega)
  obtain ⟨R,hR⟩:∃ R:Nat->World->Prop,R=fun j W=>uP (w.heap.size+2) W2 W/\Below w.heap.size w W/\w.heap.size+4<=W.heap.size/\W.heap[w.heap.size]?=some (.cells #[.int .i64 pg] 3 (0,0))/\∃ v,W.heap[w.heap.size+1]?=some (.cells #[v] 51 (0,0))/\W.ownsRow (w.heap.size+4) 3 1 v (jv ((zH ts).take k) pg++vY (x.list.take j) pg).length (Zx (jv ((zH ts).take k) pg++vY (x.list.take j) pg)):=⟨_,rfl⟩
  have hR0:R 0 W2:=by rw [hR];exact ⟨hloc2,hB2,hz2,hp2,v,ho2,by simpa [vY] using hv2⟩
  obtain ⟨HR0,HR⟩:=zi2 hR0 hR
  clear hR hR0 hloc2 hB2 hz2 hp2 ho2 hv2 h1 h2 h3 h4 h5
  gi_wp2
  gi_loopw [19] (fun u wr=>∃ j:Nat,j<=x.list.length/\u=.int .i64 j/\R j wr) (fun u _=>(x.list.length-jl u).toNat)
  case atStart=>exact ⟨0,Nat.zero_le _,rfl,HR0.out⟩
  case round =>
   obtain ⟨j,hj,rfl,hrj⟩:=hrel
   have hrj':=hrj
   rw [HR.out] at hrj'
   obtain ⟨g1,g2,g3,g4,v',g5,g6⟩:=hrj'
   by_cases hlt:j<x.list.length
   ·obtain ⟨ch,hch⟩:∃ ch,x.list[j]?=some ch:=⟨_,List.getElem?_eq_getElem hlt⟩
    have q0:(0:Int)<=(j:Int):=by omega
    have q1:(j:Int)<(x.list.length:Int):=by omega
    have x2:IntKind.i64.wrap ((j:Int)+1)=(j:Int)+1:=by have:=HOK.out.len;have:=HOK.out.n8;rw [IntKind.wrap_i64];omega
    have hLr:wr.ownsRow 0 150 3 (.slice A x.list.length c) x.list.length (zY x.list):=zi HLO.out fun q hq=>g2.block q (HLO.out.lt q hq).2
    obtain ⟨g,rfl,hg,hgc,hrng⟩:=Jz hLr hch
    obtain ⟨A5,c5,rfl⟩:=own_slice g6
    have f1:=(cell_of_row _ wr.heap.size 0 _ _ _ (zk wr (.cells (zw ch).toArray 150) rfl)).trans (show _=some (Value.int .i64 ch.pg) from rfl)
    have f2:=(cell_of_row _ wr.heap.size 1 _ _ _ (zk wr (.cells (zw ch).toArray 150) rfl)).trans (show _=some (Value.int .i64 ch.sl) from rfl)
    have f3:=(cell_of_row _ wr.heap.size 2 _ _ _ (zk wr (.cells (zw ch).toArray 150) rfl)).trans (show _=some (Value.string (za (zt ch.before))) from rfl)
    have f4:=jI ((cell_of_row wr w.heap.size 0 _ _ _ g4).trans (show _=some (Value.int .i64 pg) from rfl)) (.cells (zw ch).toArray 150)
    have f5:=jI ((cell_of_row wr (w.heap.size+1) 0 _ _ _ g5).trans (show _=some (Value.slice A5 _ c5) from rfl)) (.cells (zw ch).toArray 150)
    have HRNG:=hid hrng
    have hstep:=zeZ (pg:=pg) hch
    obtain ⟨HSTEP,HRJ⟩:=zi2 hstep hrj
    clear hLr hrng hstep hrj hch
    gi_upto_region 7 with (first
     | (show wpListIn _ _ _ _ _ (⟨some 22,_,_,_,_,_⟩::_) _ _;refine Kj rfl rfl fun K hK=>vu (qy 150 (.tmp 21) rfl g (j*3) (by rfl) (zw ch) _ HRNG.out Tryz.underlying150 rfl (by kernel_rfl)) (hK _ _ ?_))
     | (show wpListIn _ _ _ _ _ (⟨none,.store 150 _ _,_,_,_,_⟩::_) _ _;refine Kj rfl rfl fun K hK=>uC 150 (.tmp 9) (.tmp 22) rfl wr.heap.size rfl _ (zw ch).toArray (by rfl) (by rfl) (by kernel_rfl) (by rfl) (by simp [zw,Value.oneCell']) (hK _ _ ?_)))
    have c1:(decide ((ch.pg:Int)=(pg:Int)))=decide (ch.pg=pg):=decide_eq_decide.2 ⟨fun h=>by omega,fun h=>by omega⟩
    have hskip:∀ o,(vY (x.list.take (j+1)) pg=vY (x.list.take j) pg)->R (j+1) (wr.alloc o):=fun o he=>by
     rw [HR.out]
     exact ⟨g1.trans (uP.below ((Below.refl wr.heap.size wr).alloc (Nat.le_refl _) o) (by omega)),B_alloc g2 _,by simp;omega,zy g4 _,_,zy g5 _,by rw [he];exact zi g6 fun q hq=>Below.heap_alloc wr o q (g6.lt q hq).2⟩
    by_cases hpg:ch.pg=pg
    ·rw [decide_eq_true hpg] at c1
     cases hbf:ch.before with
     | none =>
      rw [hbf] at f3
      have c2:za (zt none)={ data:=#[] }:=rfl
      rw [hbf] at HSTEP
      gi_wp2
      refine ⟨⟨j+1,by omega,by simp,hskip _ ?_⟩,by simp [jl];omega⟩
      rw [HSTEP.out];simp
     | some r =>
      rw [hbf] at f3 HSTEP
      have c3:(za (zt (some r))).toList.isEmpty=false:=by
       have e:(za (zt (some r))).toList=(za (zt (some r))).data.toList:=ByteArray.toList_eq _
       rw [e,JZ];simp [zt,jJ,ZC]
      obtain ⟨n5,hn5⟩:∃ n5,n5=(jv ((zH ts).take k) pg++vY (x.list.take j) pg).length:=⟨_,rfl⟩
      obtain ⟨l5,hl5⟩:∃ l5,l5=Zx (jv ((zH ts).take k) pg++vY (x.list.take j) pg):=⟨_,rfl⟩
      rw [<- hn5] at f5
      rw [<- hn5,<- hl5] at g6
      have hG6:(wr.alloc (.cells (zw ch).toArray 150)).ownsRow (w.heap.size+4) 3 1 (.slice A5 n5 c5) n5 l5:=zi g6 fun q hq=>Below.heap_alloc wr _ q (g6.lt q hq).2
      obtain ⟨HG6,HN5,HL5⟩:=zi3 hG6 hn5 hl5
      have hnn:n5<=1000:=by
       rw [hn5,List.length_append]
       have e1:=GL ((zH ts).take k) pg
       have e2:=H.out.chgs_le k (by omega)
       have e3:(zH ts).length<=4:=by have:=jP ts 0;rw [H.out.len] at this;exact this
       have e4:=zcI (x.list.take j) pg
       have e5:(x.list.take j).length<=j:=by rw [List.length_take];omega
       have:=HOK.out.len;have:=HOK.out.n8
       omega
      clear hn5 hl5 hG6
      gi_upto_region 8 with fail
      have hb5:w.heap.size+4<=((wr.alloc (.cells (zw ch).toArray 150)).alloc (.cells #[.int .i64 ch.sl] 3)).heap.size:=by simp;omega
      have hown7:((wr.alloc (.cells (zw ch).toArray 150)).alloc (.cells #[.int .i64 ch.sl] 3)).ownsRow (w.heap.size+4) 3 1 (.slice A5 n5 c5) n5 l5:=zi HG6.out fun q hq=>Below.heap_alloc _ _ q (HG6.out.lt q hq).2
      have HO7:=hid hown7
      have hrd7:=zx.of_list (zk (wr.alloc (.cells (zw ch).toArray 150)) (.cells #[.int .i64 ch.sl] 3) rfl) (size:=1) (n:=1) rfl
      have HRD7:=hid hrd7
      clear hown7 hrd7
      refine ym (vr _) 0 rfl (fun _ _ h=>h) ?_
      go_wp2_with (first
       | (show wpList _ _ _ (⟨some 35,_,_,_,_,_⟩::_) _ _;refine wpList_plain rfl fun _ hK=>vf 51 3 1 8 (.tmp 34) rfl (.int .i64 ch.sl) (by rfl) Tryz.underlying51 zjl (by rfl) (by omega) (by omega) (hK _ _ ?_))
       | (show wpList _ _ _ (⟨some 36,_,_,_,_,_⟩::_) _ _;refine qW rfl (.tmp 32) (.tmp 35) 51 3 1 8 rfl Tryz.underlying51 zjl (by omega) _ _ _ (w.heap.size+4) (by rfl) HO7.out _ 1 _ _ _ (by rfl) HRD7.out (by intro u hu;simp at hu;subst hu;rfl) (by omega) (by omega) hb5 ?_;intro v8 w8 hown8 hg8 ho8;obtain ⟨A8,c8,rfl⟩:=own_slice hown8;have g58:=zX (zy (zy g5 _) _) hg8 (fun e=>by have:=(HO7.out.lt _ e).1;omega);have k58:=frozen_of_row w8 (w.heap.size+1) 0 _ _ g58;have k59:=cell_of_row w8 (w.heap.size+1) 0 _ _ _ g58))
      have hst8:(w8.setCell ⟨w.heap.size+1,0,none⟩ (.slice A8 (n5+1) c8)).heap[w.heap.size+1]?=some (.cells #[.slice A8 (n5+1) c8] 51 (0,0)):=by rw [heap_setCell_same _ _ 0 _ _ _ g58];rfl
      have hRn:R (j+1) (w8.setCell ⟨w.heap.size+1,0,none⟩ (.slice A8 (n5+1) c8)):=by
       have hb8:Below wr.heap.size wr ((wr.alloc (.cells (zw ch).toArray 150)).alloc (.cells #[.int .i64 ch.sl] 3)):=B_alloc (B_alloc (Below.refl _ _) _) _
       have hgo:∀ q,q<wr.heap.size->(Value.slice A5 n5 c5).ownBlock≠some q->q≠w.heap.size+1->(w8.setCell ⟨w.heap.size+1,0,none⟩ (.slice A8 (n5+1) c8)).heap[q]?=wr.heap[q]?:=fun q h1 h2 h3 =>
        (heap_setCell_other _ _ _ _ h3).trans ((hg8.block q (by simp;omega) (fun e=>h2 e.symm)).trans (hb8.block q h1))
       have hov:∀ q,(Value.slice A5 n5 c5).ownBlock=some q->w.heap.size+4<=q:=fun q e=>(HO7.out.lt q e).1
       rw [HR.out]
       refine ⟨g1.trans ⟨?_,hgo _ (by omega) (fun e=>by have:=hov _ e;omega) (by omega),hgo _ (by omega) (fun e=>by have:=hov _ e;omega) (by omega)⟩,?_,?_,(hgo _ (by omega) (fun e=>by have:=hov _ e;omega) (by omega)).trans g4,_,hst8,?_⟩
       ·have:=hg8.size;simp at this ⊢;omega
       ·exact B_set ((B_alloc (B_alloc g2 _) _).grown hg8 (by simp;omega) (fun q e=>by have:=hov q e;omega)) (by show w.heap.size<=w.heap.size+1;omega) _
       ·have:=hg8.size;simp at this ⊢;omega
       ·rw [HSTEP.out,if_pos ⟨hpg,by simp⟩,<- List.append_assoc,List.length_append,<- HN5.out,List.length_singleton]
        refine own_set1 (by rw [show Zx (jv ((zH ts).take k) pg++vY (x.list.take j) pg++[ch.sl])=l5++[.int .i64 ch.sl] by rw [HL5.out];simp [Zx]];exact hown8) (fun e=>by have:=(hown8.lt _ e).1;omega) _ _
      refine (by assumption:∀ a w,Code.wpIn _ 0 Tryz.prog _ _ a w->_) _ _ ?_
      gi_wp2
      exact ⟨⟨j+1,by omega,by simp,hRn⟩,by simp [jl];omega⟩
    ·rw [decide_eq_false hpg] at c1
     gi_wp2
     refine ⟨⟨j+1,by omega,by simp,hskip _ ?_⟩,by simp [jl];omega⟩
     rw [HSTEP.out];simp [hpg]
   ·have hje:j=x.list.length:=by omega
    have q1:¬ ((j:Int)<(x.list.length:Int)):=by omega
    subst hje
    gi_wp2
    rw [List.take_length] at g6
    exact ⟨⟨g2,g3,g4,v',g5,by rw [zfa HX.out];exact g6⟩,g1⟩
 case hend =>
  rintro W ⟨h1,h2,h3,v,h4,h5⟩ hD
  rw [List.take_length] at h5
  obtain ⟨A,c,rfl⟩:=own_slice h5
  have k0:=(cell_of_row W (w.heap.size+1) 0 _ _ _ h4).trans (show _=some (Value.slice A _ c) from rfl)
  simp only [World.size_alloc] at hD
  obtain ⟨HD,H5⟩:=zi2 hD h5
  clear hD h4 h5
  refine (by assumption:∀ a w,Code.wp Tryz.prog (Code.seq _ _) _ a w->_) _ _ ?_
  go_wp2_with fail
  refine ⟨by simp,.inl ⟨_,_,rfl,run_takeDeferred HD.out,?_⟩⟩
  refine ⟨_,results_tmp rfl _ _ _,_,rfl,?_,Below.put h1 (by omega) _⟩
  exact qT (zi H5.out fun q hq=>World.putObj_heap_other (by have:=(H5.out.lt q hq).1;omega)) (by omega)
end
theorem Yc:yU Tryz.prog 150 3 32:=yU.of (by kernel_rfl)
theorem zel (c:Chg):∀ u∈zw c,u.oneCell'=true:=by
 intro u hu;simp only [zw,List.mem_cons,List.not_mem_nil,or_false] at hu
 rcases hu with rfl | rfl | rfl<;>rfl
theorem zcs (l:List Chg):∀ u∈zY l,u.oneCell'=true:=by
 intro u hu
 obtain ⟨c,_,h⟩:=List.mem_flatMap.1 hu
 exact zel c u h
theorem zet (T:Nat) (x:Tx) (G:Nat->Prop) (w:World) (h:vn w T x G) (hl:x.list.length<=1000) :
  Calls Tryz.prog 69 #[.pointer (some ⟨T,0,none⟩)] w fun e w'=>∃ v,e=.returned v/\w'.ownsRow w.heap.size 150 3 v x.list.length (zY x.list)/\Below w.heap.size w w':=by
 obtain ⟨lv,sv,h1,h2,_⟩:=h.ex
 obtain ⟨A,c,rfl⟩:=own_slice h2
 have k0:=(cell_of_row w T 0 _ _ _ h1).trans (show _=some (Value.slice A x.list.length c) from rfl)
 have hr:=zx.of_own h2
 have HR:=hid hr
 clear h h1 h2 hr
 go_enter Tryz.func69,Tryz.ntmps69
 go_wp2_with (at_builtin;refine qW rfl (.const (.slice none 0 0)) (.tmp 8) 147 150 3 32 rfl Tryz.underlying147 Yc (by omega) (.slice none 0 0) 0 [] w.heap.size (by rfl) (World.ownsRow_nil _ _ _ _) _ x.list.length _ _ _ (by rfl) HR.out (zcs _) (by omega) (by omega) (Nat.le_refl _) ?_;intro v' w' hown hg ho)
 go_ret
 rw [Nat.zero_add,List.nil_append] at hown
 exact ⟨_,rfl,hown,(Below.refl _ _).grown hg (Nat.le_refl _) (fun q e=>by cases e)⟩
theorem zjT (T:Nat) (x:Tx) (c:Chg) (G:Nat->Prop) (w:World) (h:vn w T x G) (hx:x.ok) (h8:x.ops<8) :
  Calls Tryz.prog 139 #[.pointer (some ⟨T,0,none⟩),.agg (zw c).toArray] w fun e w'=>e=.returned (.tuple #[])/\∃ G',vn w' T ⟨x.list++[c],x.saves,x.ops+1⟩ G'/\zr G w w'/\qh w G G':=by
 have hw1:=h.below (B_alloc (Below.refl _ w) (.cells (zw c).toArray 150))
 have hbx:=zk w (.cells (zw c).toArray 150) rfl
 have hop:IntKind.i64.wrap ((x.ops:Int)+1)=(x.ops:Int)+1:=by rw [IntKind.wrap_i64];omega
 have hlen:=hx.len
 obtain ⟨HB,H1,H⟩:=zi3 hbx hw1 h
 obtain ⟨lv,sv,e1,e2,e3,e4,e5⟩:=hw1.ex
 have hT2:=(cell_of_row _ T 2 _ _ _ e1).trans (show _=some (Value.int .i64 x.ops) from rfl)
 obtain ⟨A,cc,rfl⟩:=own_slice e2
 obtain ⟨HE1,HE2,HE3,HE4,HE5⟩:=zi5 e1 e2 e3 e4 e5
 clear h hw1 hbx e1 e2 e3 e4 e5
 unfold zw
 go_enter Tryz.func139,Tryz.ntmps139
 go_upto_region 2 with fail
 have hTD:(w.alloc (.cells #[.int .i64 c.pg,.int .i64 c.sl,.string (za (zt c.before))] 150)).drew.heap[T]?=_:=HE1.out
 have hED:(w.alloc (.cells #[.int .i64 c.pg,.int .i64 c.sl,.string (za (zt c.before))] 150)).drew.ownsRow 0 150 3 (.slice A x.list.length cc) x.list.length (zY x.list):=zi HE2.out fun _ _=>rfl
 obtain ⟨HTD,HED⟩:=zi2 hTD hED
 clear hTD hED
 have hS:(w.alloc (.cells #[.int .i64 c.pg,.int .i64 c.sl,.string (za (zt c.before))] 150)).drew.cell? ⟨T,0,none⟩=some (.slice A x.list.length cc)/\(w.alloc (.cells #[.int .i64 c.pg,.int .i64 c.sl,.string (za (zt c.before))] 150)).drew.heap[w.heap.size]?=some (.cells #[.int .i64 c.pg,.int .i64 c.sl,.string (za (zt c.before))] 150 (0,0)):=⟨(cell_of_row _ T 0 _ _ _ HE1.out).trans rfl,HB.out⟩
 refine wp_region_noPanic ?_
 refine PrintLast.start_ (n:=11) (S:=(fun w'=>w'.cell? ⟨T,0,none⟩=some (.slice A x.list.length cc)/\w'.heap[w.heap.size]?=some (.cells #[.int .i64 c.pg,.int .i64 c.sl,.string (za (zt c.before))] 150 (0,0)))) (ds:=[7,10]) (bA 11 0) (by kernel_rfl) rfl (by kernel_rfl) hS (fun hHeld=>?_)
 refine pu 0 6 11 1 rfl rfl ?_
 refine pu 1 7 11 3 rfl rfl ?_
 refine pu 2 8 11 7 rfl rfl ?_
 refine pu 3 9 11 15 rfl rfl ?_
 refine tq 4 10 11 31 rfl rfl ?_
 refine tk 5 11 11 63 rfl rfl (qE 150 (.tmp 3) rfl (by rfl) w.heap.size (by rfl) 150 #[.int .i64 c.pg,.int .i64 c.sl,.string (za (zt c.before))] (0,0) _ (fun _ h=>h.2) Tryz.underlying150 rfl (by kernel_rfl)) ?_
 refine on 6 11 127 (some 12) rfl rfl (fun K hK=>?_)
 show Oper.wp _ ⟨some 12,_,_,_,_,_⟩ _ _ _ _
 refine vf 147 150 3 32 (.tmp 11) rfl (.agg #[.int .i64 c.pg,.int .i64 c.sl,.string (za (zt c.before))]) (by rfl) Tryz.underlying147 Yc (by rfl) (by omega) (by omega) ?_
 refine hK.out _ _ ⟨jI hHeld.1 _,zy hHeld.2 _⟩ (fun hHeld=>?_)
 clear hK K
 try simp only [pS]
 refine la 7 11 255 (some 13) rfl rfl (fun K hK=>?_)
 show Oper.wp _ ⟨some 13,_,_,_,_,_⟩ _ _ _ _
 refine uZ (.tmp 10) (.tmp 12) 147 150 3 32 rfl Tryz.underlying147 Yc (by omega) (.slice A x.list.length cc) x.list.length (zY x.list) 0 (by rfl) (zi HED.out fun q hq=>Below.heap_alloc _ _ q (HED.out.lt q hq).2) _ 1 1 (zw c) _ (by rfl) (zx.of_list (zk _ _ rfl) rfl) (zel c) (by omega) (by omega) (Nat.zero_le _) ?_
 intro v8 w8 hown8 hg8 ho8
 obtain ⟨A8,c8,rfl⟩:=own_slice hown8
 have HT8:=hid <| zX (zy HTD.out _) hg8 (own_ne HED.out HTD.out (by decide))
 refine hK.out _ _ ?_
 clear hK K
 try simp only [pS]
 refine pu 8 14 11 511 rfl rfl ?_
 refine pu 9 15 11 1023 rfl rfl ?_
 refine la 10 11 2047 none rfl rfl (fun K hK=>?_)
 show Oper.wp _ ⟨none,_,_,_,_,_⟩ _ _ _ _
 refine jp 147 (.tmp 15) (.tmp 13) rfl T 0 _ 208 (.slice A8 (x.list.length+1) c8) (by rfl) (by rfl) (by kernel_rfl) HT8.out (by simp) rfl ?_
 refine hK.out _ _ ?_
 clear hK K
 try simp only [pS]
 refine PrintLast.done_ (by kernel_rfl) ?_
 refine NoPanic.normal ?_
 have hwd:Below w.heap.size w ((w.alloc (.cells #[.int .i64 c.pg,.int .i64 c.sl,.string (za (zt c.before))] 150)).drew.alloc (.cells #[.int .i64 c.pg,.int .i64 c.sl,.string (za (zt c.before))] 150)):=B_alloc (B_alloc (Below.refl _ w) (.cells #[.int .i64 c.pg,.int .i64 c.sl,.string (za (zt c.before))] 150)).drew _
 obtain ⟨G1,ht1,hk1,hn1⟩:=(H.out.below hwd).set0 (l':=x.list++[c]) (zy HTD.out _) (zi HED.out fun q hq=>Below.heap_alloc _ _ q (HED.out.lt q hq).2) (zi HE3.out fun q hq=>Below.heap_alloc (w.alloc _).drew _ q (HE3.out.lt q hq).2) HE4.out HE5.out hg8 (by rw [List.length_append,List.length_singleton,chgs_snoc];exact hown8) (ho8.imp id .inl)
 obtain ⟨ht2,hk2⟩:=ht1.setOps (x.ops+1)
 have g2:(w8.setCell ⟨T,0,none⟩ (.slice A8 (x.list.length+1) c8)).heap[T]?=some (.cells #[.slice A8 (x.list.length+1) c8,sv,.int .i64 x.ops] 208 (0,0)):=by rw [heap_setCell_same _ _ 0 _ _ _ HT8.out];rfl
 have g3:=(cell_of_row _ T 2 _ _ _ g2).trans (show _=some (Value.int .i64 x.ops) from rfl)
 have g4:=frozen_of_row _ T 2 _ _ g2
 have HT2:=hid ht2
 have HK:=hid ((zr.of_below (M:=G) hwd).trans hk1 (fun _ h=>.inl h))
 have HN:=hid (hn1.mono hwd.size)
 have HK2:=hid hk2
 clear ht1 hk1 hn1 ht2 hk2 hwd g2 hS hown8 hg8 ho8 hHeld
 go_wp2_with fail
 refine uN rfl rfl ?_
 refine ⟨rfl,G1,HT2.out,HK.out.next HK2.out HN.out,HN.out⟩
theorem ziT {o:Oper} {a:Act} {w:World} (t e:TypeId) (k:Nat) (ht:Tryz.prog.underlying t=some (.slice e)) (he:Tryz.prog.elem t=e) (hsz:∀ w,(sizeOf e).run Tryz.prog w=.ok k w) (x y:Operand) (ho:o.op=.slice t x none (some y) none) (A:Option Addr) (n c hi:Nat) (hx:a.eval x=.slice A n c) (hy:a.eval y=.int .i64 hi) (h2:hi<=c) :
  (execOp a.eval o).run Tryz.prog w=.ok (.value (.slice A hi c)) w:=by
 have ht':Tryz.prog.underlying t=some (.slice (Tryz.prog.elem t)):=by rw [he];exact ht
 have hrun:(Instr.sliceAt t (.slice A n c) none (some (.int .i64 hi)) none).run Tryz.prog w=.ok (.slice A hi c) w:=by
  rw [run_sliceAt_slice w t _ _ _ _ ht',run_slice_h w t _ _ _ ht' .i64 hi (by omega) (by omega),he,hsz]
  simp only [Result.andThen_ok,sliced,Int.toNat_natCast,Nat.zero_mul,Nat.sub_zero]
  rcases A with _ | ad
  ·simp
  ·have:ad.add 0=ad:=rfl
   simp [this]
 unfold execOp
 simp only [ho,Option.map_none,Option.map_some,hx,hy,Sem.run_bind,hrun,Result.andThen_ok,Sem.run_pure]
theorem ziF {w:World} {B e s n m c:Nat} {A:Option Addr} {xs:List Value} (h:w.ownsRow B e s (.slice A n c) n xs) (hm:m<=n):w.ownsRow B e s (.slice A m c) m (xs.take (m*s)):=by
 have hms:m*s<=n*s:=Nat.mul_le_mul_right s hm
 refine ⟨by rw [List.length_take,h.1];omega,?_⟩
 rcases h.2 with ⟨h1,h2⟩ | ⟨g,cap,cur,hv,hg,hb,h1,h2,h3,h4⟩
 ·injection h1 with e1 e2 e3
  subst e1 e2 e3
  have:m=0:=by omega
  subst this
  exact .inl ⟨rfl,rfl⟩
 ·injection hv with e1 e2 e3
  subst e1 e3
  refine .inr ⟨g,c,cur,rfl,hg,hb,Nat.le_trans hm h1,h2,h3,?_⟩
  rw [<- h4,List.take_take,Nat.min_eq_left hms]
theorem zed (w:World):(sizeOf 150).run Tryz.prog w=.ok 3 w:=by
 obtain ⟨i,z,hi,hz,hsi,hby,hzc⟩:=Yc.ex
 simp [sizeOf,typeInfo,hi,hsi]
theorem zkQ (T:Nat) (x:Tx) (l:List Chg) (c:Chg) (G:Nat->Prop) (w:World) (h:vn w T x G) (hx:x.ok) (hl:x.list=l++[c]) :
  Calls Tryz.prog 151 #[.pointer (some ⟨T,0,none⟩)] w fun e w'=>e=.returned (.tuple #[.agg (zw c).toArray,.bool true])/\∃ G',vn w' T ⟨l,x.saves,x.ops⟩ G'/\zr G w w'/\qh w G G':=by
 have hlen:=hx.len
 have h8:=hx.n8
 have hll:x.list.length=l.length+1:=by rw [hl];simp
 have hat:x.list[l.length]?=some c:=by rw [hl];simp
 have hb1:Below w.heap.size w (w.alloc (.cells #[.int .i64 0,.int .i64 0,.string { data:=#[] }] 150)):=B_alloc (Below.refl _ w) _
 have H:=hid h
 obtain ⟨lv,sv,e1,e2,e3,e4,e5⟩:=h.ex
 obtain ⟨A,cc,rfl⟩:=own_slice e2
 obtain ⟨g,rfl,hg,hgc,hrng⟩:=Jz e2 hat
 have k0:=(cell_of_row _ T 0 _ _ _ (zy e1 (.cells #[.int .i64 0,.int .i64 0,.string { data:=#[] }] 150))).trans (show _=some (Value.slice (some ⟨g,0,none⟩) x.list.length cc) from rfl)
 have s1:IntKind.i64.wrap ((x.list.length:Int)-1)=(l.length:Int):=by rw [IntKind.wrap_i64];omega
 have q0:(0:Int)<=(l.length:Int):=by omega
 have q1:(l.length:Int)<(x.list.length:Int):=by omega
 have q2:((x.list.length:Int) == 0)=false:=by rw [beq_eq_false_iff_ne];omega
 obtain ⟨HE1,HE2,HE3,HE4,HE5,HR,HB1,HLL,HL⟩:=zi9 e1 e2 e3 e4 e5 hrng hb1 hll hl
 clear h e1 e2 e3 e4 e5 hrng hb1 hll hl hat
 go_enter Tryz.func151,Tryz.ntmps151
 go_upto_region 3 with fail
 have HE1d:Hid ((w.alloc (.cells #[.int .i64 0,.int .i64 0,.string { data:=#[] }] 150)).drew.heap[T]?=_):=hid (zy HE1.out _)
 have hrd:(w.alloc (.cells #[.int .i64 0,.int .i64 0,.string { data:=#[] }] 150)).drew.rangeAt g (l.length*3) (zw c):=uh HR.out HB1.out.drew hg
 have hS:(w.alloc (.cells #[.int .i64 0,.int .i64 0,.string { data:=#[] }] 150)).drew.cell? ⟨T,0,none⟩=some (.slice (some ⟨g,0,none⟩) x.list.length cc)/\(w.alloc (.cells #[.int .i64 0,.int .i64 0,.string { data:=#[] }] 150)).drew.rangeAt g (l.length*3) (zw c):=⟨(cell_of_row _ T 0 _ _ _ HE1d.out).trans rfl,hrd⟩
 refine wp_region_noPanic ?_
 refine PrintLast.start_ (n:=14) (S:=(fun w'=>w'.cell? ⟨T,0,none⟩=some (.slice (some ⟨g,0,none⟩) x.list.length cc)/\w'.rangeAt g (l.length*3) (zw c))) (ds:=[13]) (bA 14 0) (by kernel_rfl) rfl (by kernel_rfl) hS (fun hHeld=>?_)
 refine pu 0 16 14 1 rfl rfl ?_
 refine pu 1 17 14 3 rfl rfl ?_
 refine pu 2 18 14 7 rfl rfl ?_
 refine tq 3 19 14 15 rfl rfl ?_
 refine pu 4 20 14 31 rfl rfl ?_
 refine pu 5 21 14 63 rfl rfl ?_
 refine pu 6 22 14 127 rfl rfl ?_
 refine tq 7 23 14 255 rfl rfl ?_
 refine pu 8 24 14 511 rfl rfl ?_
 refine pu 9 25 14 1023 rfl rfl ?_
 refine pu 10 26 14 2047 rfl rfl ?_
 refine tk 11 27 14 4095 rfl rfl (yieldsIf_load_mid (by rfl) 150 (.tmp 26) rfl g (l.length*3) (by rfl) (zw c) _ (fun _ h=>h.2) Tryz.underlying150 rfl (by kernel_rfl)) ?_
 refine on 12 14 8191 (some 4) rfl rfl (fun K hK=>?_)
 show Oper.wp _ ⟨some 4,_,_,_,_,_⟩ _ _ _ _
 refine YR 150 rfl _ rfl (.agg #[.int .i64 0,.int .i64 0,.string { data:=#[] }]) (by kernel_rfl) ?_
 refine hK.out _ _ ⟨jI hHeld.1 _,uh hHeld.2 ((Below.refl _ _).alloc (Nat.le_refl _) _) (by simp;omega)⟩ (fun hHeld=>?_)
 clear hK K
 try simp only [pS]
 refine la 13 14 16383 none rfl rfl (fun K hK=>?_)
 show Oper.wp _ ⟨none,_,_,_,_,_⟩ _ _ _ _
 refine uC 150 (.tmp 4) (.tmp 27) rfl _ rfl _ (zw c).toArray (by rfl) (by rfl) (by kernel_rfl) (by rfl) (by simp [zw,Value.oneCell']) ?_
 refine hK.out _ _ ?_
 clear hK K
 try simp only [pS]
 refine PrintLast.done_ (by kernel_rfl) ?_
 refine NoPanic.normal ?_
 clear hHeld hS hrd
 have hT2:((w.alloc (.cells #[.int .i64 0,.int .i64 0,.string { data:=#[] }] 150)).drew.alloc (.cells (zw c).toArray 150)).drew.heap[T]?=_:=zy HE1d.out _
 have HT2:=hid hT2
 have hS:((w.alloc (.cells #[.int .i64 0,.int .i64 0,.string { data:=#[] }] 150)).drew.alloc (.cells (zw c).toArray 150)).drew.cell? ⟨T,0,none⟩=some (.slice (some ⟨g,0,none⟩) x.list.length cc):=(cell_of_row _ T 0 _ _ _ hT2).trans rfl
 clear hT2
 go_upto_region 4 with fail
 refine wp_region_noPanic ?_
 refine PrintLast.start_ (n:=15) (S:=(fun w'=>w'.cell? ⟨T,0,none⟩=some (.slice (some ⟨g,0,none⟩) x.list.length cc))) (ds:=[14]) (bA 15 0) (by kernel_rfl) rfl (by kernel_rfl) hS (fun hHeld=>?_)
 refine pu 0 28 15 1 rfl rfl ?_
 refine pu 1 29 15 3 rfl rfl ?_
 refine pu 2 30 15 7 rfl rfl ?_
 refine pu 3 31 15 15 rfl rfl ?_
 refine tq 4 32 15 31 rfl rfl ?_
 refine pu 5 33 15 63 rfl rfl ?_
 refine pu 6 34 15 127 rfl rfl ?_
 refine pu 7 35 15 255 rfl rfl ?_
 refine tq 8 36 15 511 rfl rfl ?_
 refine pu 9 37 15 1023 rfl rfl ?_
 refine pu 10 38 15 2047 rfl rfl ?_
 refine tk 11 39 15 4095 rfl rfl (Or.inl ⟨by rfl,fun _ _=>ziT 147 150 3 Tryz.underlying147 (by kernel_rfl) zed (.tmp 32) (.tmp 38) rfl _ _ _ l.length (by rfl) (by rfl) (by omega)⟩) ?_
 refine pu 12 40 15 8191 rfl rfl ?_
 refine pu 13 41 15 16383 rfl rfl ?_
 refine la 14 15 32767 none rfl rfl (fun K hK=>?_)
 show Oper.wp _ ⟨none,_,_,_,_,_⟩ _ _ _ _
 refine jp 147 (.tmp 41) (.tmp 39) rfl T 0 _ 208 (.slice (some ⟨g,0,none⟩) l.length cc) (by rfl) (by rfl) (by kernel_rfl) HT2.out (by simp) rfl ?_
 refine hK.out _ _ ?_
 clear hK K
 try simp only [pS]
 refine PrintLast.done_ (by kernel_rfl) ?_
 refine NoPanic.normal ?_
 clear hHeld hS
 have hwE:Below w.heap.size w ((w.alloc (.cells #[.int .i64 0,.int .i64 0,.string { data:=#[] }] 150)).drew.alloc (.cells (zw c).toArray 150)).drew:=(B_alloc HB1.out.drew _).drew
 have htw:=H.out.below hwE
 have hown:=ziF HE2.out (m:=l.length) (by omega)
 rw [<- zgc,HL.out,List.take_left' rfl] at hown
 obtain ⟨G1,ht1,hk1,hn1⟩:=htw.set0 (w1:=((w.alloc (.cells #[.int .i64 0,.int .i64 0,.string { data:=#[] }] 150)).drew.alloc (.cells (zw c).toArray 150)).drew) (v':=.slice (some ⟨g,0,none⟩) l.length cc) (l':=l) HT2.out (zi HE2.out fun q hq=>hwE.block q (HE2.out.lt q hq).2) (zi HE3.out fun q hq=>hwE.block q (HE3.out.lt q hq).2) HE4.out HE5.out ⟨rfl,rfl,rfl,Nat.le_refl _,fun _ _ _=>rfl⟩ (zi hown fun q hq=>hwE.block q (hown.lt q hq).2) (.inl rfl)
 have hTw:T<w.heap.size:=zd HE1.out
 have hX5:(((w.alloc (.cells #[.int .i64 0,.int .i64 0,.string { data:=#[] }] 150)).drew.alloc (.cells (zw c).toArray 150)).drew.setCell ⟨T,0,none⟩ (.slice (some ⟨g,0,none⟩) l.length cc)).heap[(w.alloc (.cells #[.int .i64 0,.int .i64 0,.string { data:=#[] }] 150)).drew.heap.size]?=some (.cells (zw c).toArray 150 (0,0)):=(heap_setCell_other _ _ _ _ (by simp;omega)).trans (zk _ _ rfl)
 have hB5:(((w.alloc (.cells #[.int .i64 0,.int .i64 0,.string { data:=#[] }] 150)).drew.alloc (.cells (zw c).toArray 150)).drew.setCell ⟨T,0,none⟩ (.slice (some ⟨g,0,none⟩) l.length cc)).heap[w.heap.size]?=some (.cells #[.int .i64 0,.int .i64 0,.string { data:=#[] }] 150 (0,0)):=(heap_setCell_other _ _ _ _ (by show w.heap.size≠T;omega)).trans (zy (zk w _ rfl) _)
 obtain ⟨HX5,HB5,HT1⟩:=zi3 hX5 hB5 ht1
 have HK1:=hid ((zr.of_below (M:=G) hwE).trans hk1 (fun _ h=>.inl h))
 have HN1:=hid (hn1.mono hwE.size)
 have hlt5:∀ q,G1 q->q≠w.heap.size:=fun q hq=>by
  rcases hn1 q hq with h | h
  ·have:=H.out.lt q h;omega
  ·simp at h;omega
 clear ht1 hk1 hn1 hX5 hB5 hwE htw hown
 generalize (((w.alloc (.cells #[.int .i64 0,.int .i64 0,.string { data:=#[] }] 150)).drew.alloc (.cells (zw c).toArray 150)).drew.setCell ⟨T,0,none⟩ (.slice (some ⟨g,0,none⟩) l.length cc))=w5 at HX5 HB5 HT1 HK1 ⊢
 go_wp2_with (first
  | (show wpList _ _ _ (⟨some 42,_,_,_,_,_⟩::_) _ _;refine wpList_load_row rfl 150 (.tmp 4) rfl _ (by rfl) 150 _ (0,0) _ HX5.out Tryz.underlying150 rfl (by kernel_rfl) ?_)
  | (show wpList _ _ _ (⟨none,.store 150 _ _,_,_,_,_⟩::_) _ _;refine wpList_store_row rfl 150 (.tmp 2) (.tmp 42) rfl w.heap.size (zw c).toArray (by rfl) (by rfl) 150 _ HB5.out (by kernel_rfl) (by rfl) (by simp [zw,Value.oneCell']) ?_))
 refine jO 2 3 150 rfl rfl w.heap.size 150 (zw c).toArray (0,0) _ (.bool true) rfl rfl (setRow_heap _ _ _ _ _ _ HB5.out) Tryz.underlying150 rfl (by kernel_rfl) ?_
 refine ⟨rfl,G1,HT1.out.same (fun q hq=>setRow_other _ _ _ _ (hlt5 q hq)) (by simp),HK1.out.setRow (.inr (Nat.le_refl _)) _,HN1.out⟩
theorem yg.cell {w:World} {S:Nat} {ts:qL} (h:yg w S ts) {i:Nat} (hi:i<4) {o:Option (Nat × Tx)} (ho:ts[i]?=some o):w.cell? ⟨S,1+i,none⟩=some (.pointer (o.map fun p=>⟨p.1,0,none⟩)):=by
 obtain ⟨C,h1,h2⟩:=h
 rw [cell_of_row w S (1+i) C 103 _ h1,h2 i hi]
 simp [jV,ho]
theorem yg.frozen {w:World} {S:Nat} {ts:qL} (h:yg w S ts) (k:Nat):w.frozen? ⟨S,k,none⟩=false:=by
 obtain ⟨C,h1,_⟩:=h
 exact frozen_of_row w S k C 103 h1
theorem Yg (S n:Nat) (ts:qL) (o:Option (Nat × Tx)) (w:World) (h:yg w S ts) (h1:1<=n) (h3:n<=3) (ho:ts[n]?=some o) :
  Calls Tryz.prog 88 #[.pointer (some ⟨S,1,none⟩),.int .i64 n] w fun e w'=>e=.returned (.pointer (o.map fun p=>⟨p.1,0,none⟩))/\w'=w:=by
 have k:=h.cell (by omega) ho
 have q0:(1:Int)<=(n:Int):=by omega
 have q1:(n:Int)<=3:=by omega
 have q2:(0:Int)<=(n:Int):=by omega
 have q3:(n:Int)<4:=by omega
 have K:=hid k
 clear h ho
 go_enter Tryz.func88,Tryz.ntmps88
 go_wp2_with fail
 go_ret
 exact ⟨rfl,rfl⟩
theorem zjE (S n:Nat) (ts:qL) (o:Option (Nat × Tx)) (w:World) (h:yg w S ts) (h1:1<=n) (h3:n<=3) (ho:ts[n]?=some o) :
  Calls Tryz.prog 95 #[.pointer (some ⟨S,1,none⟩),.int .i64 n] w fun e w'=>e=.returned (.tuple #[])/\w'=w.setCell ⟨S,1+n,none⟩ (.pointer none):=by
 have k:=h.cell (by omega) ho
 have kf:=h.frozen (1+n)
 have q0:(1:Int)<=(n:Int):=by omega
 have q1:(n:Int)<=3:=by omega
 have q2:(0:Int)<=(n:Int):=by omega
 have q3:(n:Int)<4:=by omega
 have K:=hid k
 clear h ho
 go_enter Tryz.func95,Tryz.ntmps95
 go_wp2_with fail
 refine uN rfl rfl ?_
 exact ⟨rfl,rfl⟩
theorem ziC (S:Nat) (ts:qL) (w:World) (h:yg w S ts) (h4:ts.length=4) :
  Calls Tryz.prog 31 #[.pointer (some ⟨S,1,none⟩)] w fun e w'=>e=.returned (.int .i64 (zH ts).length)/\w'=w:=by
 have HR:=hid (h.range h4)
 have H4:=hid h4
 have hlen:(jV ts).length=4:=by rw [YQ,h4]
 have HLEN:=hid hlen
 have hl:∀ i,(zH (ts.take i)).length<=4:=fun i=>by
  have:=jP (ts.take i) 0
  rw [List.length_take,h4] at this
  exact Nat.le_trans this (Nat.min_le_right _ _)
 have HL:=hid hl
 clear hlen h h4 hl
 go_enter Tryz.func31,Tryz.ntmps31
 go_upto_region 3 with (show wpList _ _ _ (⟨some 9,_,_,_,_,_⟩::_) _ _;refine zZ rfl _ _ (qy 94 (.tmp 8) rfl S 1 (by rfl) (jV ts) _ HR.out Tryz.underlying94 rfl (by rw [HLEN.out];kernel_rfl)) ?_)
 go_loopw [3,10] (fun c u wr=>∃ i:Nat,i<=4/\u=.int .i64 i/\c=.int .i64 (zH (ts.take i)).length/\w=wr) (fun _ u _=>(4-jl u).toNat)
 case atStart=>exact ⟨0,Nat.zero_le _,rfl,by simp [zH,qM],rfl⟩
 case round =>
  obtain ⟨i,hi,rfl,rfl,rfl⟩:=hrel
  by_cases hlt:i<4
  ·have q1:(i:Int)<4:=by omega
   have x2:IntKind.i64.wrap ((i:Int)+1)=(i:Int)+1:=by rw [IntKind.wrap_i64];omega
   obtain ⟨o,ho⟩:∃ o,ts[i]?=some o:=⟨_,List.getElem?_eq_getElem (by rw [H4.out];omega)⟩
   cases o with
   | none =>
    have hv:(jV ts).toArray[i]?=some (.pointer none):=by simp [jV,ho]
    obtain ⟨HV,HO⟩:=zi2 hv ho
    clear hv ho
    go_wp2_with (show wpList _ _ _ (⟨some 12,_,_,_,_,_⟩::_) _ _;refine zZ rfl _ _ (JE (.tmp 9) (.tmp 10) rfl (jV ts).toArray (by rfl) i (by rfl) _ HV.out hlt) ?_)
    go_roundw
    case rel=>exact ⟨i+1,by omega,by simp,by rw [zak HO.out],trivial⟩
    case measure=>simp [jl];omega
   | some p =>
    obtain ⟨b,x⟩:=p
    have hv:(jV ts).toArray[i]?=some (.pointer (some ⟨b,0,none⟩)):=by simp [jV,ho]
    obtain ⟨n,hn⟩:∃ n,n=(zH (ts.take i)).length:=⟨_,rfl⟩
    have hnl:=HL.out i
    rw [<- hn] at hnl ⊢
    have x3:IntKind.i64.wrap ((n:Int)+1)=(n:Int)+1:=by rw [IntKind.wrap_i64];omega
    obtain ⟨HN,HV,HO⟩:=zi3 hn hv ho
    clear hv ho hn
    go_wp2_with (show wpList _ _ _ (⟨some 12,_,_,_,_,_⟩::_) _ _;refine zZ rfl _ _ (JE (.tmp 9) (.tmp 10) rfl (jV ts).toArray (by rfl) i (by rfl) _ HV.out hlt) ?_)
    go_roundw
    case rel=>exact ⟨i+1,by omega,by simp,by rw [YJ HO.out,List.length_append,<- HN.out];simp,trivial⟩
    case measure=>simp [jl];omega
  ·have hie:i=4:=by omega
   subst hie
   go_wp2_with fail
   go_ret
   rw [List.take_of_length_le (by rw [H4.out];omega)]
   exact ⟨rfl,rfl⟩
def jC (ts:qL):Nat->Nat->Option Nat
 | 0,_=>none
 | k+1,i=>if i<=3 then (match ts[i]? with
  | some none=>some i
  | _=>jC ts k (i+1)) else none
def Yf (ts:qL):Option Nat:=jC ts 4 1
theorem zdB {ts:qL} {k:Nat} (i:Nat) (hi:3<i):jC ts k i=none:=by
 cases k with
 | zero=>rfl
 | succ k=>rw [jC,if_neg (by omega)]
theorem zdC {ts:qL} {k i:Nat} {p:Nat × Tx} (hi:i<=3) (h:ts[i]?=some (some p)):jC ts (k+1) i=jC ts k (i+1):=by rw [jC,if_pos hi,h]
theorem zdD {ts:qL} {k i:Nat} (hi:i<=3) (h:ts[i]?=some none):jC ts (k+1) i=some i:=by rw [jC,if_pos hi,h]
theorem zfY (S:Nat) (ts:qL) (w:World) (h:yg w S ts) (h4:ts.length=4) :
  Calls Tryz.prog 73 #[.pointer (some ⟨S,1,none⟩)] w fun e w'=>match Yf ts with
   | none=>e=.returned (.int .i64 0)/\w'=w
   | some i=>e=.returned (.int .i64 i)/\w'=(w.alloc (.cells #[.slice none 0 0,.slice none 0 0,.int .i64 0] 208)).setCell ⟨S,1+i,none⟩ (.pointer (some ⟨w.heap.size,0,none⟩)):=by
 obtain ⟨H,H4⟩:=zi2 h h4
 clear h h4
 obtain ⟨R,hR⟩:∃ R:Ending->World->Prop,R=fun e w'=>match Yf ts with
   | none=>e=.returned (.int .i64 0)/\w'=w
   | some i=>e=.returned (.int .i64 i)/\w'=(w.alloc (.cells #[.slice none 0 0,.slice none 0 0,.int .i64 0] 208)).setCell ⟨S,1+i,none⟩ (.pointer (some ⟨w.heap.size,0,none⟩)):=⟨_,rfl⟩
 rw [<- hR]
 have HR:=hid hR
 clear hR
 go_enter Tryz.func73,Tryz.ntmps73
 go_upto_region 2 with fail
 go_loopw [3] (fun u wr=>∃ i:Nat,1<=i/\i<=4/\u=.int .i64 i/\Yf ts=jC ts (5-i) i/\w=wr) (fun u _=>(4-jl u).toNat)
 case atStart=>exact ⟨1,by omega,by omega,rfl,rfl,rfl⟩
 case round =>
  obtain ⟨i,h1,hi,rfl,hf,rfl⟩:=hrel
  by_cases hlt:i<=3
  ·have q1:(i:Int)<=3:=by omega
   have q2:(0:Int)<=(i:Int):=by omega
   have q3:(i:Int)<4:=by omega
   have x2:IntKind.i64.wrap ((i:Int)+1)=(i:Int)+1:=by rw [IntKind.wrap_i64];omega
   obtain ⟨o,ho⟩:∃ o,ts[i]?=some o:=⟨_,List.getElem?_eq_getElem (by rw [H4.out];omega)⟩
   obtain ⟨d,hd⟩:∃ d,5-i=d+1:=⟨4-i,by omega⟩
   rw [hd] at hf
   have k:=H.out.cell (by omega) ho
   have kf:=H.out.frozen (1+i)
   cases o with
   | none =>
    rw [zdD hlt ho] at hf
    have k2:=jI k (.cells #[.slice none 0 0,.slice none 0 0,.int .i64 0] 208)
    have kf2:(w.alloc (.cells #[.slice none 0 0,.slice none 0 0,.int .i64 0] 208)).frozen? ⟨S,1+i,none⟩=false:=(World.frozen?_of_block (a:=⟨S,1+i,none⟩) (Below.heap_alloc w _ S (uj k))).trans kf
    have HF:=hid hf
    clear hf ho hd
    go_wp2_with fail
    rw [HR.out]
    simp only [HF.out]
    exact ⟨rfl,trivial⟩
   | some p =>
    rw [zdC hlt ho] at hf
    obtain ⟨HF,HD⟩:=zi2 hf hd
    clear hf ho hd
    simp only [Option.map_some] at k
    go_wp2_with fail
    go_roundw
    case rel=>exact ⟨i+1,by omega,by omega,by simp,by rw [HF.out,show 5-(i+1)=d by have:=HD.out;omega],trivial⟩
    case measure=>simp [jl];omega
  ·have hie:i=4:=by omega
   subst hie
   have hf2:Yf ts=none:=by rw [hf];exact zdB 4 (by omega)
   have HF:=hid hf2
   clear hf hf2
   go_wp2_with fail
   rw [HR.out]
   simp only [HF.out]
   exact ⟨rfl,trivial⟩
end Go.Proofs.YtechnoogjhohfaaGreat
