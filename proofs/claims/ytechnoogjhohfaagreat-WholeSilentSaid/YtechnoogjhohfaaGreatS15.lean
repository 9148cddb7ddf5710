import Derived.Test.YtechnoogjhohfaaGreatS14
import Derived.Test.YtechnoogjhohfaaGreatS8
import Derived.LoopIn
import Derived.LoopNIn
import Derived.OwnWalkIn
import Derived.Sort.CutIn
import Derived.TacticsInMore
set_option maxRecDepth 100000
set_option maxHeartbeats 6400000
set_option linter.unusedVariables false
set_option linter.unusedSimpArgs false
namespace Go.Proofs.YtechnoogjhohfaaGreat
open Go.RowKit Go.Lib
open YtechnoogjhohfaaGreatW Go.Proofs.Tryz Go.Proofs.YtechnoogjhohfaaGreat.Tryz
section
attribute [local go_sem] Oper.semAt_some
def ZT (l:List Chg) (pg:Nat):List Nat:=l.filterMap fun c=>if c.pg=pg/\c.aa≠none then some c.sl else none
def yB (l:List (Nat × Nat × Tx)) (pg:Nat):List Nat:=l.flatMap fun p=>ZT p.2.2.I pg
theorem zjV {l:List (Nat × Nat × Tx)} {k i b pg:Nat} {x:Tx} (h:l[k]?=some (i,b,x)):yB (l.take (k+1)) pg=yB (l.take k) pg++ZT x.I pg:=by obtain ⟨u,z⟩:=zr.1 h;rw [yH u,z];simp [yB]
theorem zjU {l:List Chg} {j pg:Nat} {c:Chg} (h:l[j]?=some c):ZT (l.take (j+1)) pg=ZT (l.take j) pg++(if c.pg=pg/\c.aa≠none then [c.sl] else []):=by obtain ⟨u,z⟩:=zr.1 h;rw [yH u,z];unfold ZT;rw [List.filterMap_append];split<;>simp [*]
theorem zhm (l:List Chg) (pg:Nat):(ZT l pg).length<=l.length:=List.length_filterMap_le _ _
theorem zdn:∀ (l:List (Nat × Nat × Tx)) (pg:Nat),(yB l pg).length<=jS l
 | [],_=>by simp [yB,jS]
 | p::l,pg=>by have h:=zdn l pg;have u:=zhm p.2.2.I pg;simp only [yB,jS,qC,List.map_cons,List.sum_cons,zl] at *;omega
theorem zbp {P:Program} {l n:Nat} {ops:Array Oper} {Q:Exit->Act->World->Prop} {a:Act} {w:World} {rest:List Oper} {o:Oper} (z:o.guard=none) (hd:uB o=true) (h:∀ K:Act->World->Prop,(∀ a w,wpListIn (Fence.wide.inRound l) n P ops Q rest a w->K a w)->o.wp P a w K Q):wpListIn (Fence.wide.inRound l) n P ops Q (o::rest) a w :=
 wpListIn_plain z fun K u=>zhA (uv l) n hd (h K u)
theorem zct:ue prog 3 1 8:=ue.of (by kernel_rfl)
theorem Gs {w:World} {B t:Nat} {A:Option Addr} {n c:Nat} {l:List Chg} (h:w.ownsRow B t 3 (.slice A n c) n (qD l)) {k:Nat} {x:Chg} (E:l[k]?=some x):∃ g,A=some ⟨g,0,none⟩/\g<w.heap.size/\n<=c/\w.rangeAt g (k*3) (zS x):=by
 have hl:=(zr.1 E).1;obtain ⟨h0,h⟩:=h;rw [zmX] at h0;rcases h with ⟨_,hn⟩ | ⟨g,cap,cur,Y,_,z,R,_,h3,U⟩
 ·omega
 ·injection Y with L Z O;subst L O;refine ⟨g,rfl,zi z,R,fun j v D=>?_⟩;have X:j<3:=(zr.1 D).1;rw [ze w g _ cur t (0,0) z];have u:=(chgs_at l k x E j X).trans D;rw [<- U,List.getElem?_take_of_lt (by omega)] at u;simpa using u
theorem znt (S pg:Nat) (ts:qE) (G:Nat->Nat->Prop) (w:World) (h:vM w S ts G) :
  zc 133 #[.pointer (some ⟨S,1,none⟩),.int .i64 pg] w fun e w'=>∃ v,e=.returned v/\w'.ownsRow w.heap.size 3 1 v (yB (zF ts) pg).length (uO (yB (zF ts) pg))/\zd w w':=by
 have H:=hid h;clear h;refine Qg func133 rfl ?_;simp only [ntmps133,qH,qc,jr,Nat.reduceAdd,Nat.reduceSub,Array.replicate_succ,Array.replicate_zero,List.push_toArray,List.append_toArray,List.nil_append,List.cons_append];go_wp2_with fail;refine Yw (gf:=68) (bound:=#[.pointer (some ⟨S,1,none⟩)]) (caps:=#[]) (by rfl) (by kernel_rfl) (zF ts).length (Zt ts) (Kf ts) (fun k W=>zd w W/\w.heap.size+4<=W.heap.size/\W.heap[w.heap.size]?=some (.cells #[.int .i64 pg] 3 (0,0))/\∃ v,W.heap[w.heap.size+1]?=some (.cells #[v] 51 (0,0))/\W.ownsRow (w.heap.size+4) 3 1 v (yB ((zF ts).take k) pg).length (uO (yB ((zF ts).take k) pg))) ?h0 ?hput ?hbel (zeF S ts _ H.o.len (fun W hW=>H.o.row.same (hW.1.block S H.o.row.lt))) ?hround ?hend
 case h0=>exact fun i7=>⟨B_alloc (B_alloc (B_alloc (B_alloc (zf _ _) _) _) _) _,by simp,zw (zw (zw (zo _ _ rfl) _) _) _,_,zw (zw (zo _ _ (by simp)) _) _,ql _ _ _ _⟩
 case hput =>rintro k W o ⟨L,Y,U,v,X,D⟩ hl;refine ⟨Below.put L (by simp<;>omega) o,by simpa using Y,(World.putObj_heap_other (by simp<;>omega)).trans U,v,(World.putObj_heap_other (by simp<;>omega)).trans X,own_same D fun q z=>World.putObj_heap_other (by have:=(D.lt q z).1;simp<;>omega)⟩
 case hbel =>rintro k W W' ⟨L,Y,U,v,X,D⟩ hb;exact ⟨B_call L hb,zz Y hb.size,zg U hb (zi U),v,zg X hb (zi X),own_same D fun q z=>hb.block q (D.lt q z).2⟩
 case hround =>
  rintro k W hk ⟨L,Y,U,v,X,D⟩ hl;obtain ⟨⟨i,b,x⟩,hx⟩:∃ p,(zF ts)[k]?=some p:=⟨_,zX hk⟩;obtain ⟨d0,hok⟩:=H.o.tx i b x (H.o.fg hx);have g9:=d0.below L;rw [GL hx];simp only [List.zip_toArray,List.zip_cons_cons,List.zip_nil_right,List.foldl_toArray,jM,List.foldl_nil,List.setIfInBounds_toArray,List.set_cons_succ,List.set_cons_zero];refine vk (uv _) 0 rfl (fun _ _ h=>h) ?_;go_wp2_with fail;refine ⟨Jb.refl _ _,fun o=>?_⟩;refine wpIn_block ?_;obtain ⟨E,a3⟩:∃ E,W.putObj (((w.alloc (.cells #[.int .i64 pg] 3)).alloc (.cells #[.slice none 0 0] 51)).heap.size+1) o=E:=⟨_,rfl⟩;rw [a3];simp only [World.size_alloc] at a3 ⊢;have g0:=H.o.lt d0.gT;obtain ⟨lv,sv,d8,c4,_⟩:=d0.ex;obtain ⟨A,c,rfl⟩:=own_slice c4;have hb:E.heap[b]?=some (.cells #[.slice A x.I.length c,sv,.int .i64 x.ops] 208 (0,0)):=by rw [<- a3];exact (World.putObj_heap_other (by omega)).trans ((L.block b g0).trans d8)
  have kb:=xV (Value.slice A x.I.length c) 0 hb;obtain ⟨HX,a1,HB,d2,a6⟩:=zi5 hx a3 hb c4 hok;clear hx a3 hb d8 c4 hok g9;have d9:Jb (w.heap.size+2) E E:=Jb.refl _ _;have d4:zd w E:=by rw [<- a1.o];exact Below.put L (by omega) o
  have e9:w.heap.size+4<=E.heap.size:=by rw [<- a1.o];simpa using Y
  have e2:E.heap[w.heap.size]?=some (.cells #[.int .i64 pg] 3 (0,0)):=by rw [<- a1.o];exact (World.putObj_heap_other (by omega)).trans U
  have e0:E.heap[w.heap.size+1]?=some (.cells #[v] 51 (0,0)):=by rw [<- a1.o];exact (World.putObj_heap_other (by omega)).trans X
  have e8:E.ownsRow (w.heap.size+4) 3 1 v (yB ((zF ts).take k) pg).length (uO (yB ((zF ts).take k) pg)):=by rw [<- a1.o];exact own_same D fun q z=>World.putObj_heap_other (by have:=(D.lt q z).1;omega)
  obtain ⟨R,hR⟩:∃ R:Nat->World->Prop,R=fun j W=>Jb (w.heap.size+2) E W/\zd w W/\w.heap.size+4<=W.heap.size/\W.heap[w.heap.size]?=some (.cells #[.int .i64 pg] 3 (0,0))/\∃ v,W.heap[w.heap.size+1]?=some (.cells #[v] 51 (0,0))/\W.ownsRow (w.heap.size+4) 3 1 v (yB ((zF ts).take k) pg++ZT (x.I.take j) pg).length (uO (yB ((zF ts).take k) pg++ZT (x.I.take j) pg)):=⟨_,rfl⟩;have d7:R 0 E:=by rw [hR];exact ⟨d9,d4,e9,e2,v,e0,by simpa [ZT] using e8⟩
  obtain ⟨f2,HR⟩:=zi2 d7 hR;clear hR d7 d9 d4 e9 e2 e0 e8 L Y U X D
  gi_wp2
  gi_loopw [19] (fun a8 wr=>∃ j:Nat,j<=x.I.length/\a8=.int .i64 j/\R j wr) (fun a8 _=>(x.I.length-jF a8).toNat)
  case atStart=>exact ⟨0,zT _,rfl,f2.o⟩
  case round =>
   obtain ⟨j,hj,rfl,c7⟩:=hrel;have e4:=c7;rw [HR.o] at e4;obtain ⟨g1,g2,g3,g4,v',g5,Z⟩:=e4;by_cases g7:j<x.I.length
   ·obtain ⟨u,c1⟩:∃ u,x.I[j]?=some u:=⟨_,zX g7⟩;have q0:(0:Int)<=(j:Int):=by omega
    have q1:(j:Int)<(x.I.length:Int):=by omega
    have x2:IntKind.i64.wrap ((j:Int)+1)=(j:Int)+1:=by have:=a6.o.len;have:=a6.o.n8;rw [zu];omega
    have d6:wr.ownsRow 0 150 3 (.slice A x.I.length c) x.I.length (qD x.I):=own_same d2.o fun q z=>g2.block q (d2.o.lt q z).2;obtain ⟨g,rfl,hg,i2,e5⟩:=Gs d6 c1;obtain ⟨A5,c5,rfl⟩:=own_slice Z;have h9:=xV (Value.int .i64 u.pg) 0 (zo wr (.cells (zS u).toArray 150) rfl);have i0:=xV (Value.int .i64 u.sl) 1 (zo wr (.cells (zS u).toArray 150) rfl);have f3:=xV (Value.string (zb (zM u.aa))) 2 (zo wr (.cells (zS u).toArray 150) rfl);have i1:=yK ((xV (Value.int .i64 pg) 0 g4)) (.cells (zS u).toArray 150);have f6:=yK ((xV (Value.slice A5 _ c5) 0 g5)) (.cells (zS u).toArray 150);have f5:=hid e5;have e7:=zjU (pg:=pg) c1;obtain ⟨a0,h1⟩:=zi2 e7 c7;clear d6 e5 e7 c7 c1
    gi_upto_region 7 with (first|(show wpListIn _ _ _ _ _ (⟨some 22,_,_,_,_,_⟩::_) _ _;refine zbp rfl rfl fun K hK=>uL (us 150 (.tmp 21) rfl g (j*3) (by rfl) (zS u) _ f5.o underlying150 rfl (by kernel_rfl)) (hK _ _ ?_))|(show wpListIn _ _ _ _ _ (⟨none,.store 150 _ _,_,_,_,_⟩::_) _ _;refine zbp rfl rfl fun K hK=>QP 150 (.tmp 9) (.tmp 22) rfl wr.heap.size rfl _ (zS u).toArray (by rfl) (by rfl) (by kernel_rfl) (by rfl) (by simp [zS,Value.oneCell']) (hK _ _ ?_)))
    have d3:(decide ((u.pg:Int)=(pg:Int)))=decide (u.pg=pg):=decide_eq_decide.2 ⟨fun h=>by omega,fun h=>by omega⟩;have e6:∀ o,(ZT (x.I.take (j+1)) pg=ZT (x.I.take j) pg)->R (j+1) (wr.alloc o):=fun o he=>by rw [HR.o];exact ⟨g1.trans (Jb.below ((zf wr.heap.size wr).alloc (za _) o) (by omega)),B_alloc g2 _,by simp;omega,zw g4 _,_,zw g5 _,by rw [he];exact own_same Z fun q z=>qb wr o q (Z.lt q z).2⟩
    by_cases hpg:u.pg=pg
    ·rw [decide_eq_true hpg] at d3;cases c0:u.aa with
     | none =>
      rw [c0] at f3;have h2:zb (zM none)={ data:=#[] }:=rfl;rw [c0] at a0
      gi_wp2
      refine ⟨⟨j+1,by omega,by simp,e6 _ ?_⟩,by simp [jF];omega⟩;rw [a0.o];simp
     | some r =>
      rw [c0] at f3 a0;have h3:(zb (zM (some r))).toList.isEmpty=false:=by have e:(zb (zM (some r))).toList=(zb (zM (some r))).data.toList:=ByteArray.toList_eq _;rw [e,Qm];simp [zM,yZ,Jj]
      obtain ⟨O,a5⟩:=ex ((yB ((zF ts).take k) pg++ZT (x.I.take j) pg).length);obtain ⟨l5,c3⟩:=ex (uO (yB ((zF ts).take k) pg++ZT (x.I.take j) pg));rw [<- a5] at f6;rw [<- a5,<- c3] at Z;have d5:(wr.alloc (.cells (zS u).toArray 150)).ownsRow (w.heap.size+4) 3 1 (.slice A5 O c5) O l5:=own_same Z fun q z=>qb wr _ q (Z.lt q z).2;obtain ⟨d1,f1,f0⟩:=zi3 d5 a5 c3;have i3:O<=1000:=by
       rw [a5,zl];have h4:=zdn ((zF ts).take k) pg;have h5:=H.o.cw k (by omega);have h6:(zF ts).length<=4:=by have:=vw ts 0;rw [H.o.len] at this;exact this
       have h7:=zhm (x.I.take j) pg;have h8:(x.I.take j).length<=j:=by rw [qf];omega
       have:=a6.o.len;have:=a6.o.n8;omega
      clear a5 c3 d5
      gi_upto_region 8 with fail
      have f8:w.heap.size+4<=((wr.alloc (.cells (zS u).toArray 150)).alloc (.cells #[.int .i64 u.sl] 3)).heap.size:=by simp;omega
      have e1:((wr.alloc (.cells (zS u).toArray 150)).alloc (.cells #[.int .i64 u.sl] 3)).ownsRow (w.heap.size+4) 3 1 (.slice A5 O c5) O l5:=own_same d1.o fun q z=>qb _ _ q (d1.o.lt q z).2;have a9:=hid e1;have e3:=zL.bk (zo (wr.alloc (.cells (zS u).toArray 150)) (.cells #[.int .i64 u.sl] 3) rfl) (size:=1) (n:=1) rfl;have f4:=hid e3;clear e1 e3;refine vk (uv _) 0 rfl (fun _ _ h=>h) ?_;go_wp2_with (first|(show wpList _ _ _ (⟨some 35,_,_,_,_,_⟩::_) _ _;refine wpList_plain rfl fun _ hK=>yv 51 3 1 8 (.tmp 34) rfl (.int .i64 u.sl) (by rfl) underlying51 zct (by rfl) (by omega) (by omega) (hK _ _ ?_))|(show wpList _ _ _ (⟨some 36,_,_,_,_,_⟩::_) _ _;refine jX rfl (.tmp 32) (.tmp 35) 51 3 1 8 rfl underlying51 zct (by omega) _ _ _ (w.heap.size+4) (by rfl) a9.o _ 1 _ _ _ (by rfl) f4.o (by intro a8 hu;simp at hu;subst hu;rfl) (by omega) (by omega) f8 ?_;intro v8 w8 c6 a4 i4;obtain ⟨A8,c8,rfl⟩:=own_slice c6;have b9:=qq (zw (zw g5 _) _) a4 (fun e=>by have:=(a9.o.lt _ e).1;omega);have i5:=zI w8 (w.heap.size+1) 0 _ _ b9;have i6:=ze w8 (w.heap.size+1) 0 _ _ _ b9));have g8:(w8.setCell ⟨w.heap.size+1,0,none⟩ (.slice A8 (O+1) c8)).heap[w.heap.size+1]?=some (.cells #[.slice A8 (O+1) c8] 51 (0,0)):=by rw [zB _ _ 0 _ _ _ b9];rfl
      have f7:R (j+1) (w8.setCell ⟨w.heap.size+1,0,none⟩ (.slice A8 (O+1) c8)):=by
       have f9:zd wr ((wr.alloc (.cells (zS u).toArray 150)).alloc (.cells #[.int .i64 u.sl] 3)):=B_alloc (B_alloc (zf _ _) _) _;have c2:∀ q,q<wr.heap.size->(Value.slice A5 O c5).ownBlock≠some q->q≠w.heap.size+1->(w8.setCell ⟨w.heap.size+1,0,none⟩ (.slice A8 (O+1) c8)).heap[q]?=wr.heap[q]?:=fun q L Y U =>
        (zt _ _ _ _ U).trans ((a4.block q (by simp;omega) (fun e=>Y e.symm)).trans (f9.block q L))
       have a7:∀ q,(Value.slice A5 O c5).ownBlock=some q->w.heap.size+4<=q:=fun q e=>(a9.o.lt q e).1;rw [HR.o];refine ⟨g1.trans ⟨?_,c2 _ (by omega) (fun e=>by have:=a7 _ e;omega) (by omega),c2 _ (by omega) (fun e=>by have:=a7 _ e;omega) (by omega)⟩,?_,?_,(c2 _ (by omega) (fun e=>by have:=a7 _ e;omega) (by omega)).trans g4,_,g8,?_⟩
       ·have:=a4.size;simp at this ⊢;omega
       ·exact B_set ((B_alloc (B_alloc g2 _) _).grown a4 (by simp;omega) (fun q e=>by have:=a7 q e;omega)) (by show w.heap.size<=w.heap.size+1;omega) _
       ·have:=a4.size;simp at this ⊢;omega
       ·rw [a0.o,if_pos ⟨hpg,by simp⟩,<- jq,zl,<- f1.o,List.length_singleton];refine own_set1 (by rw [show uO (yB ((zF ts).take k) pg++ZT (x.I.take j) pg++[u.sl])=l5++[.int .i64 u.sl] by rw [f0.o];simp [uO]];exact c6) (fun e=>by have:=(c6.lt _ e).1;omega) _ _
      refine (by assumption:∀ a w,Code.wpIn _ 0 prog _ _ a w->_) _ _ ?_
      gi_wp2
      exact ⟨⟨j+1,by omega,by simp,f7⟩,by simp [jF];omega⟩
    ·rw [decide_eq_false hpg] at d3
     gi_wp2
     refine ⟨⟨j+1,by omega,by simp,e6 _ ?_⟩,by simp [jF];omega⟩;rw [a0.o];simp [hpg]
   ·have g6:j=x.I.length:=by omega
    have q1:¬ ((j:Int)<(x.I.length:Int)):=by omega
    subst g6
    gi_wp2
    rw [qi] at Z;exact ⟨⟨g2,g3,g4,v',g5,by rw [zjV HX.o];exact Z⟩,g1⟩
 case hend =>rintro W ⟨L,Y,U,v,X,D⟩ hD;rw [qi] at D;obtain ⟨A,c,rfl⟩:=own_slice D;have k0:=xV (Value.slice A _ c) 0 X;simp only [World.size_alloc] at hD;obtain ⟨HD,H5⟩:=zi2 hD D;clear hD X D;refine (by assumption:∀ a w,Code.wp prog (Code.seq _ _) _ a w->_) _ _ ?_;go_wp2_with fail;refine ⟨by simp,.inl ⟨_,_,rfl,run_takeDeferred HD.o,?_⟩⟩;refine ⟨_,results_tmp rfl _ _ _,_,rfl,?_,Below.put L (by omega) _⟩;exact jK (own_same H5.o fun q z=>World.putObj_heap_other (by have:=(H5.o.lt q z).1;omega)) (by omega)
end
theorem GZ:ue prog 150 3 32:=ue.of (by kernel_rfl)
theorem zje (c:Chg):∀ u∈zS c,u.oneCell'=true:=by intro u h;simp only [zS,zO,qZ,or_false] at h;rcases h with rfl | rfl | rfl<;>rfl
theorem zgP (l:List Chg):∀ u∈qD l,u.oneCell'=true:=by intro u z;obtain ⟨c,_,h⟩:=List.mem_flatMap.1 z;exact zje c u h
theorem zjk (T:Nat) (x:Tx) (G:Nat->Prop) (w:World) (h:vz w T x G) (R:x.I.length<=1000) :
  zc 69 #[.pointer (some ⟨T,0,none⟩)] w fun e w'=>∃ v,e=.returned v/\w'.ownsRow w.heap.size 150 3 v x.I.length (qD x.I)/\zd w w':=by
 obtain ⟨Y,Z,z,u,_⟩:=h.ex;obtain ⟨A,c,rfl⟩:=own_slice u;have X:=xV (Value.slice A x.I.length c) 0 z;have E:=zL.aj u;have L:=hid E;clear h z u E;go_enter func69,ntmps69;go_wp2_with (at_builtin;refine jX rfl (.const (.slice none 0 0)) (.tmp 8) 147 150 3 32 rfl underlying147 GZ (by omega) (.slice none 0 0) 0 [] w.heap.size (by rfl) (ql _ _ _ _) _ x.I.length _ _ _ (by rfl) L.o (zgP _) (by omega) (by omega) (za _) ?_;intro v' w' D O U);go_ret;rw [qy,List.nil_append] at D;exact ⟨_,rfl,D,(zf _ _).grown O (za _) (fun q e=>by cases e)⟩
theorem zpj (T:Nat) (x:Tx) (c:Chg) (G:Nat->Prop) (w:World) (h:vz w T x G) (hx:x.ok) (h8:x.ops<8) :
  zc 139 #[.pointer (some ⟨T,0,none⟩),.agg (zS c).toArray] w fun e w'=>e=.returned (.tuple #[])/\∃ G',vz w' T ⟨x.I++[c],x.ag,x.ops+1⟩ G'/\zA G w w'/\qN w G G':=by
 have a3:=h.below (B_alloc (zf _ w) (.cells (zS c).toArray 150));have a9:=zo w (.cells (zS c).toArray 150) rfl;have d2:IntKind.i64.wrap ((x.ops:Int)+1)=(x.ops:Int)+1:=by rw [zu];omega
 have hlen:=hx.len;obtain ⟨HB,H1,H⟩:=zi3 a9 a3 h;obtain ⟨lv,sv,Y,Z,e3,e4,e5⟩:=a3.ex;have d1:=xV (Value.int .i64 x.ops) 2 Y;obtain ⟨A,X,rfl⟩:=own_slice Z;obtain ⟨a4,c5,a5,c6,c7⟩:=zi5 Y Z e3 e4 e5;clear h a3 a9 Y Z e3 e4 e5;unfold zS;go_enter func139,ntmps139;go_upto_region 2 with fail;have a8:(w.alloc (.cells #[.int .i64 c.pg,.int .i64 c.sl,.string (zb (zM c.aa))] 150)).drew.heap[T]?=_:=a4.o;have a7:(w.alloc (.cells #[.int .i64 c.pg,.int .i64 c.sl,.string (zb (zM c.aa))] 150)).drew.ownsRow 0 150 3 (.slice A x.I.length X) x.I.length (qD x.I):=own_same c5.o fun _ _=>rfl;obtain ⟨R,z⟩:=zi2 a8 a7;clear a8 a7;refine sV [7,10] 11 (fun w'=>zH w' T 0 (.slice A x.I.length X)/\jJ w' w.heap.size #[.int .i64 c.pg,.int .i64 c.sl,.string (zb (zM c.aa))] 150) ⟨(ze _ T 0 _ _ _ a4.o).trans rfl,HB.o⟩ fun E=>?_;refine pV 0 ?_;refine pV 1 ?_;refine pV 2 ?_;refine pV 3 ?_;refine tV 4 ?_;refine kV 5 rfl (qR 150 (.tmp 3) rfl (by rfl) w.heap.size (by rfl) 150 #[.int .i64 c.pg,.int .i64 c.sl,.string (zb (zM c.aa))] (0,0) _ (fun _ h=>h.2) underlying150 rfl (by kernel_rfl)) ?_;refine oV 6 fun K u=>?_;refine yv 147 150 3 32 (.tmp 11) rfl (.agg #[.int .i64 c.pg,.int .i64 c.sl,.string (zb (zM c.aa))]) (by rfl) underlying147 GZ (by rfl) (by omega) (by omega) ?_;refine u.out _ _ ⟨yK E.1 _,zw E.2 _⟩ (fun E=>?_);clear u K;try simp only [pS]
 refine lV 7 fun K u=>?_;refine Qd (.tmp 10) (.tmp 12) 147 150 3 32 rfl underlying147 GZ (by omega) (.slice A x.I.length X) x.I.length (qD x.I) 0 (by rfl) (own_same z.o fun q D=>qb _ _ q (z.o.lt q D).2) _ 1 1 (zS c) _ (by rfl) (zL.bk (zo _ _ rfl) rfl) (zje c) (by omega) (by omega) (zT _) ?_;intro v8 w8 a1 a0 c2;obtain ⟨O,U,rfl⟩:=own_slice a1;have a6:=hid <| qq (zw R.o _) a0 (own_ne z.o R.o (by decide));refine u.out _ _ ?_;clear u K;try simp only [pS]
 refine pV 8 ?_;refine pV 9 ?_;refine lV 10 fun K u=>?_;refine jz 147 (.tmp 15) (.tmp 13) rfl T 0 _ 208 (.slice O (x.I.length+1) U) (by rfl) (by rfl) (by kernel_rfl) a6.o (by simp) rfl ?_;refine u.out _ _ ?_;clear u K;try simp only [pS]
 refine dV ?_;have L:zd w ((w.alloc (.cells #[.int .i64 c.pg,.int .i64 c.sl,.string (zb (zM c.aa))] 150)).drew.alloc (.cells #[.int .i64 c.pg,.int .i64 c.sl,.string (zb (zM c.aa))] 150)):=B_alloc (B_alloc (zf _ w) (.cells #[.int .i64 c.pg,.int .i64 c.sl,.string (zb (zM c.aa))] 150)).drew _;obtain ⟨G1,c3,b9,c1⟩:=(H.o.below L).hw (l':=x.I++[c]) (zw R.o _) (own_same z.o fun q D=>qb _ _ q (z.o.lt q D).2) (own_same a5.o fun q D=>qb (w.alloc _).drew _ q (a5.o.lt q D).2) c6.o c7.o a0 (by rw [zl,List.length_singleton,chgs_snoc];exact a1) (c2.imp id .inl);obtain ⟨c4,c0⟩:=c3.h1 (x.ops+1);have g2:(w8.setCell ⟨T,0,none⟩ (.slice O (x.I.length+1) U)).heap[T]?=some (.cells #[.slice O (x.I.length+1) U,sv,.int .i64 x.ops] 208 (0,0)):=by rw [zB _ _ 0 _ _ _ a6.o];rfl
 have g3:=xV (Value.int .i64 x.ops) 2 g2;have g4:=zI _ T 2 _ _ g2;have d0:=hid c4;have HK:=hid ((zA.ak (M:=G) L).trans b9 (fun _ h=>.inl h));have HN:=hid (c1.mono L.size);have c8:=hid c0;clear c3 b9 c1 c4 c0 L g2 a1 a0 c2 E;go_wp2_with fail;refine ZS rfl rfl ?_;refine ⟨rfl,G1,d0.o,HK.o.next c8.o HN.o,HN.o⟩
theorem zoa {o:Oper} {a:Act} {w:World} (t e:TypeId) (k:Nat) (O:prog.underlying t=some (.slice e)) (u:prog.elem t=e) (L:∀ w,(sizeOf e).run prog w=.ok k w) (x y:Operand) (D:o.op=.slice t x none (some y) none) (A:Option Addr) (n c h:Nat) (R:a.eval x=.slice A n c) (U:a.eval y=.int .i64 h) (X:h<=c) :
  (execOp a.eval o).run prog w=.ok (.value (.slice A h c)) w:=by
 have z:prog.underlying t=some (.slice (prog.elem t)):=by rw [u];exact O
 have E:(Instr.sliceAt t (.slice A n c) none (some (.int .i64 h)) none).run prog w=.ok (.slice A h c) w:=by
  rw [run_sliceAt_slice w t _ _ _ _ z,run_slice_h w t _ _ _ z .i64 h (by omega) (by omega),u,L];simp only [vi,sliced,qp,Nat.zero_mul,Nat.sub_zero];rcases A with _ | ad
  ·simp
  ·have:ad.add 0=ad:=rfl;simp [this]
 unfold execOp;simp only [D,Option.map_none,qk,R,U,Sem.run_bind,E,vi,Sem.run_pure]
theorem zhD {w:World} {B e s n m c:Nat} {A:Option Addr} {xs:List Value} (h:w.ownsRow B e s (.slice A n c) n xs) (hm:m<=n):w.ownsRow B e s (.slice A m c) m (xs.take (m*s)):=by
 have X:m*s<=n*s:=Nat.mul_le_mul_right s hm;refine ⟨by rw [qf,h.1];omega,?_⟩;rcases h.2 with ⟨D,L⟩ | ⟨g,cap,cur,Y,U,hb,D,L,O,R⟩
 ·injection D with u E z;subst u E z;have:m=0:=by omega
  subst this;exact .inl ⟨rfl,rfl⟩
 ·injection Y with u E z;subst u z;refine .inr ⟨g,c,cur,rfl,U,hb,zz hm D,L,O,?_⟩;rw [<- R,List.take_take,Nat.min_eq_left X]
theorem ziT (w:World):(sizeOf 150).run prog w=.ok 3 w:=by obtain ⟨i,z,h,E,u,D,L⟩:=GZ.ex;simp [sizeOf,typeInfo,h,u]
theorem zqB (T:Nat) (x:Tx) (l:List Chg) (c:Chg) (G:Nat->Prop) (w:World) (h:vz w T x G) (hx:x.ok) (R:x.I=l++[c]) :
  zc 151 #[.pointer (some ⟨T,0,none⟩)] w fun e w'=>e=.returned (.tuple #[.agg (zS c).toArray,.bool true])/\∃ G',vz w' T ⟨l,x.ag,x.ops⟩ G'/\zA G w w'/\qN w G G':=by
 have hlen:=hx.len;have h8:=hx.n8;have c5:x.I.length=l.length+1:=by rw [R];simp
 have c2:x.I[l.length]?=some c:=by rw [R];simp
 have c3:zd w (w.alloc (.cells #[.int .i64 0,.int .i64 0,.string { data:=#[] }] 150)):=B_alloc (zf _ w) _;have H:=hid h;obtain ⟨lv,sv,Z,O,e3,e4,e5⟩:=h.ex;obtain ⟨A,u,rfl⟩:=own_slice O;obtain ⟨g,rfl,hg,d7,c7⟩:=Gs O c2;have k0:=xV (Value.slice (some ⟨g,0,none⟩) x.I.length u) 0 (zw Z (.cells #[.int .i64 0,.int .i64 0,.string { data:=#[] }] 150));have s1:IntKind.i64.wrap ((x.I.length:Int)-1)=(l.length:Int):=by rw [zu];omega
 have q0:(0:Int)<=(l.length:Int):=by omega
 have q1:(l.length:Int)<(x.I.length:Int):=by omega
 have q2:((x.I.length:Int) == 0)=false:=by rw [beq_eq_false_iff_ne];omega
 obtain ⟨a4,Y,a6,d1,d2,HR,a3,d5,HL⟩:=zi9 Z O e3 e4 e5 c7 c3 c5 R;clear h Z O e3 e4 e5 c7 c3 c5 R c2;go_enter func151,ntmps151;go_upto_region 3 with fail;have a5:Hid ((w.alloc (.cells #[.int .i64 0,.int .i64 0,.string { data:=#[] }] 150)).drew.heap[T]?=_):=hid (zw a4.o _);have c6:(w.alloc (.cells #[.int .i64 0,.int .i64 0,.string { data:=#[] }] 150)).drew.rangeAt g (l.length*3) (zS c):=Ql HR.o a3.o.drew hg;refine sV [13] 14 (fun w'=>zH w' T 0 (.slice (some ⟨g,0,none⟩) x.I.length u)/\w'.rangeAt g (l.length*3) (zS c)) ⟨(ze _ T 0 _ _ _ a5.o).trans rfl,c6⟩ fun L=>?_;refine pV 0 ?_;refine pV 1 ?_;refine pV 2 ?_;refine tV 3 ?_;refine pV 4 ?_;refine pV 5 ?_;refine pV 6 ?_;refine tV 7 ?_;refine pV 8 ?_;refine pV 9 ?_;refine pV 10 ?_;refine kV 11 rfl (yieldsIf_load_mid (by rfl) 150 (.tmp 26) rfl g (l.length*3) (by rfl) (zS c) _ (fun _ h=>h.2) underlying150 rfl (by kernel_rfl)) ?_;refine oV 12 fun K D=>?_;refine zaY 150 rfl _ rfl (.agg #[.int .i64 0,.int .i64 0,.string { data:=#[] }]) (by kernel_rfl) ?_;refine D.out _ _ ⟨yK L.1 _,Ql L.2 ((zf _ _).alloc (za _) _) (by simp;omega)⟩ (fun L=>?_);clear D K;try simp only [pS]
 refine lV 13 fun K D=>?_;refine QP 150 (.tmp 4) (.tmp 27) rfl _ rfl _ (zS c).toArray (by rfl) (by rfl) (by kernel_rfl) (by rfl) (by simp [zS,Value.oneCell']) ?_;refine D.out _ _ ?_;clear D K;try simp only [pS]
 refine dV ?_;clear L c6;have a0:((w.alloc (.cells #[.int .i64 0,.int .i64 0,.string { data:=#[] }] 150)).drew.alloc (.cells (zS c).toArray 150)).drew.heap[T]?=_:=zw a5.o _;have a9:=hid a0;have hS:((w.alloc (.cells #[.int .i64 0,.int .i64 0,.string { data:=#[] }] 150)).drew.alloc (.cells (zS c).toArray 150)).drew.cell? ⟨T,0,none⟩=some (.slice (some ⟨g,0,none⟩) x.I.length u):=(ze _ T 0 _ _ _ a0).trans rfl;clear a0;go_upto_region 4 with fail;refine sV [14] 15 (fun w'=>zH w' T 0 (.slice (some ⟨g,0,none⟩) x.I.length u)) hS fun L=>?_;refine pV 0 ?_;refine pV 1 ?_;refine pV 2 ?_;refine pV 3 ?_;refine tV 4 ?_;refine pV 5 ?_;refine pV 6 ?_;refine pV 7 ?_;refine tV 8 ?_;refine pV 9 ?_;refine pV 10 ?_;refine kV 11 rfl (Or.inl ⟨by rfl,fun _ _=>zoa 147 150 3 underlying147 (by kernel_rfl) ziT (.tmp 32) (.tmp 38) rfl _ _ _ l.length (by rfl) (by rfl) (by omega)⟩) ?_;refine pV 12 ?_;refine pV 13 ?_;refine lV 14 fun K D=>?_;refine jz 147 (.tmp 41) (.tmp 39) rfl T 0 _ 208 (.slice (some ⟨g,0,none⟩) l.length u) (by rfl) (by rfl) (by kernel_rfl) a9.o (by simp) rfl ?_;refine D.out _ _ ?_;clear D K;try simp only [pS]
 refine dV ?_;clear L hS;have E:zd w ((w.alloc (.cells #[.int .i64 0,.int .i64 0,.string { data:=#[] }] 150)).drew.alloc (.cells (zS c).toArray 150)).drew:=(B_alloc a3.o.drew _).drew;have d0:=H.o.below E;have U:=zhD Y.o (m:=l.length) (by omega);rw [<- zlk,HL.o,List.take_left' rfl] at U;obtain ⟨G1,c8,c4,a1⟩:=d0.hw (w1:=((w.alloc (.cells #[.int .i64 0,.int .i64 0,.string { data:=#[] }] 150)).drew.alloc (.cells (zS c).toArray 150)).drew) (v':=.slice (some ⟨g,0,none⟩) l.length u) (l':=l) a9.o (own_same Y.o fun q z=>E.block q (Y.o.lt q z).2) (own_same a6.o fun q z=>E.block q (a6.o.lt q z).2) d1.o d2.o ⟨rfl,rfl,rfl,za _,fun _ _ _=>rfl⟩ (own_same U fun q z=>E.block q (U.lt q z).2) (.inl rfl);have d6:T<w.heap.size:=zi a4.o;have c1:(((w.alloc (.cells #[.int .i64 0,.int .i64 0,.string { data:=#[] }] 150)).drew.alloc (.cells (zS c).toArray 150)).drew.setCell ⟨T,0,none⟩ (.slice (some ⟨g,0,none⟩) l.length u)).heap[(w.alloc (.cells #[.int .i64 0,.int .i64 0,.string { data:=#[] }] 150)).drew.heap.size]?=some (.cells (zS c).toArray 150 (0,0)):=(zt _ _ _ _ (by simp;omega)).trans (zo _ _ rfl);have c0:(((w.alloc (.cells #[.int .i64 0,.int .i64 0,.string { data:=#[] }] 150)).drew.alloc (.cells (zS c).toArray 150)).drew.setCell ⟨T,0,none⟩ (.slice (some ⟨g,0,none⟩) l.length u)).heap[w.heap.size]?=some (.cells #[.int .i64 0,.int .i64 0,.string { data:=#[] }] 150 (0,0)):=(zt _ _ _ _ (by show w.heap.size≠T;omega)).trans (zw (zo w _ rfl) _);obtain ⟨b9,X,a8⟩:=zi3 c1 c0 c8;have a7:=hid ((zA.ak (M:=G) E).trans c4 (fun _ h=>.inl h));have d3:=hid (a1.mono E.size);have d4:∀ q,G1 q->q≠w.heap.size:=fun q z=>by
  rcases a1 q z with h | h
  ·have:=H.o.lt q h;omega
  ·simp at h;omega
 clear c8 c4 a1 c1 c0 E d0 U;generalize (((w.alloc (.cells #[.int .i64 0,.int .i64 0,.string { data:=#[] }] 150)).drew.alloc (.cells (zS c).toArray 150)).drew.setCell ⟨T,0,none⟩ (.slice (some ⟨g,0,none⟩) l.length u))=w5 at b9 X a8 a7 ⊢;go_wp2_with (first|((with_reducible refine gV 42 ?_);refine rV b9.o ?_)|(show wpList _ _ _ (⟨none,.store 150 _ _,_,_,_,_⟩::_) _ _;refine wpList_store_row rfl 150 (.tmp 2) (.tmp 42) rfl w.heap.size (zS c).toArray (by rfl) (by rfl) 150 _ X.o (by kernel_rfl) (by rfl) (by simp [zS,Value.oneCell']) ?_));refine yG 2 3 150 rfl rfl w.heap.size 150 (zS c).toArray (0,0) _ (.bool true) rfl rfl (setRow_heap _ _ _ _ _ _ X.o) underlying150 rfl (by kernel_rfl) ?_;refine ⟨rfl,G1,a8.o.same (fun q z=>setRow_other _ _ _ _ (d4 q z)) (by simp),a7.o.setRow (.inr (za _)) _,d3.o⟩
theorem vR.cell {w:World} {S:Nat} {ts:qE} (h:vR w S ts) {i:Nat} (D:i<4) {o:Option (Nat × Tx)} (E:ts[i]?=some o):w.cell? ⟨S,1+i,none⟩=some (.pointer (o.map fun p=>⟨p.1,0,none⟩)):=by obtain ⟨C,u,z⟩:=h;rw [ze w S (1+i) C 103 _ u,z i D];simp [vF,E]
theorem vR.ca {w:World} {S:Nat} {ts:qE} (h:vR w S ts) (k:Nat):w.frozen? ⟨S,k,none⟩=false:=by obtain ⟨C,u,_⟩:=h;exact zI w S k C 103 u
theorem QT (S n:Nat) (ts:qE) (o:Option (Nat × Tx)) (w:World) (h:vR w S ts) (z:1<=n) (D:n<=3) (u:ts[n]?=some o) :
  zc 88 #[.pointer (some ⟨S,1,none⟩),.int .i64 n] w fun e w'=>e=.returned (.pointer (o.map fun p=>⟨p.1,0,none⟩))/\w'=w:=by
 have k:=h.cell (by omega) u;have E:(1:Int)<=(n:Int):=by omega
 have L:(n:Int)<=3:=by omega
 have O:(0:Int)<=(n:Int):=by omega
 have R:(n:Int)<4:=by omega
 have K:=hid k;clear h u;go_enter func88,ntmps88;go_wp2_with fail;go_ret;exact ⟨rfl,rfl⟩
theorem zoK (S n:Nat) (ts:qE) (o:Option (Nat × Tx)) (w:World) (h:vR w S ts) (z:1<=n) (D:n<=3) (u:ts[n]?=some o) :
  zc 95 #[.pointer (some ⟨S,1,none⟩),.int .i64 n] w fun e w'=>e=.returned (.tuple #[])/\w'=w.setCell ⟨S,1+n,none⟩ (.pointer none):=by
 have k:=h.cell (by omega) u;have E:=h.ca (1+n);have L:(1:Int)<=(n:Int):=by omega
 have O:(n:Int)<=3:=by omega
 have R:(0:Int)<=(n:Int):=by omega
 have U:(n:Int)<4:=by omega
 have K:=hid k;clear h u;go_enter func95,ntmps95;go_wp2_with fail;refine ZS rfl rfl ?_;exact ⟨rfl,rfl⟩
theorem zdt (S:Nat) (ts:qE) (w:World) (h:vR w S ts) (D:ts.length=4) :
  zc 31 #[.pointer (some ⟨S,1,none⟩)] w fun e w'=>e=.returned (.int .i64 (zF ts).length)/\w'=w:=by
 have HR:=hid (h.range D);have U:=hid D;have hlen:(vF ts).length=4:=by rw [zaX,D]
 have a0:=hid hlen;have X:∀ i,(zF (ts.take i)).length<=4:=fun i=>by have:=vw (ts.take i) 0;rw [qf,D] at this;exact zz this (Nat.min_le_right _ _)
 have Z:=hid X;clear hlen h D X;go_enter func31,ntmps31;go_upto_region 3 with (show wpList _ _ _ (⟨some 9,_,_,_,_,_⟩::_) _ _;refine jE rfl _ _ (us 94 (.tmp 8) rfl S 1 (by rfl) (vF ts) _ HR.o underlying94 rfl (by rw [a0.o];kernel_rfl)) ?_);go_loopw [3,10] (fun c u wr=>∃ i:Nat,i<=4/\u=.int .i64 i/\c=.int .i64 (zF (ts.take i)).length/\w=wr) (fun _ u _=>(4-jF u).toNat)
 case atStart=>exact ⟨0,zT _,rfl,by simp [zF,je],rfl⟩
 case round =>
  obtain ⟨i,hi,rfl,rfl,rfl⟩:=hrel;by_cases Y:i<4
  ·have q1:(i:Int)<4:=by omega
   have x2:IntKind.i64.wrap ((i:Int)+1)=(i:Int)+1:=by rw [zu];omega
   obtain ⟨o,z⟩:∃ o,ts[i]?=some o:=⟨_,zX (by rw [U.o];omega)⟩;cases o with
   | none =>
    have E:(vF ts).toArray[i]?=some (.pointer none):=by simp [vF,z]
    obtain ⟨O,L⟩:=zi2 E z;clear E z;go_wp2_with (show wpList _ _ _ (⟨some 12,_,_,_,_,_⟩::_) _ _;refine jE rfl _ _ (Gx (.tmp 9) (.tmp 10) rfl (vF ts).toArray (by rfl) i (by rfl) _ O.o Y) ?_);go_roundw
    case rel=>exact ⟨i+1,by omega,by simp,by rw [zeg L.o],trivial⟩
    case measure=>simp [jF];omega
   | some p =>
    obtain ⟨b,x⟩:=p;have E:(vF ts).toArray[i]?=some (.pointer (some ⟨b,0,none⟩)):=by simp [vF,z]
    obtain ⟨n,R⟩:=ex ((zF (ts.take i)).length);have a3:=Z.o i;rw [<- R] at a3 ⊢;have x3:IntKind.i64.wrap ((n:Int)+1)=(n:Int)+1:=by rw [zu];omega
    obtain ⟨HN,O,L⟩:=zi3 R E z;clear E z R;go_wp2_with (show wpList _ _ _ (⟨some 12,_,_,_,_,_⟩::_) _ _;refine jE rfl _ _ (Gx (.tmp 9) (.tmp 10) rfl (vF ts).toArray (by rfl) i (by rfl) _ O.o Y) ?_);go_roundw
    case rel=>exact ⟨i+1,by omega,by simp,by rw [zaI L.o,zl,<- HN.o];simp,trivial⟩
    case measure=>simp [jF];omega
  ·have a1:i=4:=by omega
   subst a1;go_wp2_with fail;go_ret;rw [jG (by rw [U.o];omega)];exact ⟨rfl,rfl⟩
def jU (ts:qE):Nat->Nat->Option Nat
 | 0,_=>none
 | k+1,i=>if i<=3 then (match ts[i]? with
  | some none=>some i
  | _=>jU ts k (i+1)) else none
def ZX (ts:qE):Option Nat:=jU ts 4 1
theorem zir {ts:qE} {k:Nat} (i:Nat) (h:3<i):jU ts k i=none:=by
 cases k with
 | zero=>rfl
 | succ k=>rw [jU,if_neg (by omega)]
theorem zis {ts:qE} {k i:Nat} {p:Nat × Tx} (u:i<=3) (h:ts[i]?=some (some p)):jU ts (k+1) i=jU ts k (i+1):=by rw [jU,if_pos u,h]
theorem zit {ts:qE} {k i:Nat} (u:i<=3) (h:ts[i]?=some none):jU ts (k+1) i=some i:=by rw [jU,if_pos u,h]
theorem zle (S:Nat) (ts:qE) (w:World) (h:vR w S ts) (U:ts.length=4) :
  zc 73 #[.pointer (some ⟨S,1,none⟩)] w fun e w'=>match ZX ts with
   | none=>e=.returned (.int .i64 0)/\w'=w
   | some i=>e=.returned (.int .i64 i)/\w'=(w.alloc (.cells #[.slice none 0 0,.slice none 0 0,.int .i64 0] 208)).setCell ⟨S,1+i,none⟩ (.pointer (some ⟨w.heap.size,0,none⟩)):=by
 obtain ⟨H,Z⟩:=zi2 h U;clear h U;obtain ⟨R,L⟩:∃ R:Ending->World->Prop,R=fun e w'=>match ZX ts with
   | none=>e=.returned (.int .i64 0)/\w'=w
   | some i=>e=.returned (.int .i64 i)/\w'=(w.alloc (.cells #[.slice none 0 0,.slice none 0 0,.int .i64 0] 208)).setCell ⟨S,1+i,none⟩ (.pointer (some ⟨w.heap.size,0,none⟩)):=⟨_,rfl⟩
 rw [<- L];have O:=hid L;clear L;go_enter func73,ntmps73;go_upto_region 2 with fail;go_loopw [3] (fun u wr=>∃ i:Nat,1<=i/\i<=4/\u=.int .i64 i/\ZX ts=jU ts (5-i) i/\w=wr) (fun u _=>(4-jF u).toNat)
 case atStart=>exact ⟨1,by omega,by omega,rfl,rfl,rfl⟩
 case round =>
  obtain ⟨i,h1,hi,rfl,z,rfl⟩:=hrel;by_cases Y:i<=3
  ·have q1:(i:Int)<=3:=by omega
   have q2:(0:Int)<=(i:Int):=by omega
   have q3:(i:Int)<4:=by omega
   have x2:IntKind.i64.wrap ((i:Int)+1)=(i:Int)+1:=by rw [zu];omega
   obtain ⟨o,E⟩:∃ o,ts[i]?=some o:=⟨_,zX (by rw [Z.o];omega)⟩;obtain ⟨d,hd⟩:∃ d,5-i=d+1:=⟨4-i,by omega⟩;rw [hd] at z;have k:=H.o.cell (by omega) E;have kf:=H.o.ca (1+i);cases o with
   | none =>rw [zit Y E] at z;have k2:=yK k (.cells #[.slice none 0 0,.slice none 0 0,.int .i64 0] 208);have a1:(w.alloc (.cells #[.slice none 0 0,.slice none 0 0,.int .i64 0] 208)).frozen? ⟨S,1+i,none⟩=false:=(World.frozen?_of_block (a:=⟨S,1+i,none⟩) (qb w _ S (ZR k))).trans kf;have D:=hid z;clear z E hd;go_wp2_with fail;rw [O.o];simp only [D.o];exact ⟨rfl,trivial⟩
   | some p =>
    rw [zis Y E] at z;obtain ⟨D,HD⟩:=zi2 z hd;clear z E hd;simp only [qk] at k;go_wp2_with fail;go_roundw
    case rel=>exact ⟨i+1,by omega,by omega,by simp,by rw [D.o,show 5-(i+1)=d by have:=HD.o;omega],trivial⟩
    case measure=>simp [jF];omega
  ·have a0:i=4:=by omega
   subst a0;have X:ZX ts=none:=by rw [z];exact zir 4 (by omega)
   have D:=hid X;clear z X;go_wp2_with fail;rw [O.o];simp only [D.o];exact ⟨rfl,trivial⟩
end Go.Proofs.YtechnoogjhohfaaGreat
