import Derived.Test.YtechnoogjhohfaaGreatS19
import Derived.Test.YtechnoogjhohfaaGreatS8
import Derived.BigRegion
import Derived.Deep.RegionHeld3
set_option maxRecDepth 100000
set_option maxHeartbeats 6400000
set_option linter.unusedVariables false
set_option linter.unusedSimpArgs false
namespace Go.Proofs.YtechnoogjhohfaaGreat
open Go.RowKit Go.Maps
theorem zmI (B b h:Nat) (T:Tb) (b9 e0:Int) (n:Nm) (hg:zU T n=none) (hn:KQ n) (hw:iok b9) (w:World) (a0:qh w B b h T) :
  zc 130 #[.pointer (some ⟨b,0,none⟩),.int .i64 b9,Zb n,.int .i64 e0] w fun e w' =>
   ∃ bi,e=.returned (.bool true)/\w.heap.size<=bi/\qh w' B b h (aput T n (bi,[(b9,uZ 0 e0)]))/\zE (fun i=>i=h) w w':=by
 obtain ⟨e1,c7⟩:∃ e1,uZ 0 e0=e1:=⟨_,rfl⟩;rw [c7];obtain ⟨D,z,E⟩:=n;have a1:(w.alloc (.cells #[.int .i64 D,.string z,.bool E] 235)).heap[w.heap.size]?=some (.cells #[.int .i64 D,.string z,.bool E] 235 (0,0)):=heap_alloc_new w _;have c0:Below w.heap.size w (w.alloc (.cells #[.int .i64 D,.string z,.bool E] 235)):=(zf _ _).alloc (za _) _;have hA:=a0.below c0;have c6:(w.alloc (.cells #[.int .i64 D,.string z,.bool E] 235)).heap.size=w.heap.size+1:=by simp
 unfold Zb;go_enter Tryz.func130,Tryz.ntmps130;go_wp2_with fail;generalize w.alloc (.cells #[.int .i64 D,.string z,.bool E] 235)=W at a1 c0 hA c6 ⊢;obtain ⟨s,hs⟩:=ex w.heap.size;rw [<- hs] at a1 c6 ⊢;have Y:=xV (.int .i64 D) 0 a1;have Z:=xV (.string z) 1 a1;have k2:=xV (.bool E) 2 a1;have U:=xV (.map (some h)) 0 hA.U;have d4:∀ u:World,u.heap=W.heap->(Instr.lookup 220 (.map (some h)) (.agg #[.int .i64 D,.string z,.bool E]) false).run Tryz.prog u=.ok (.map none) u:=by intro u d2;have:=(hA.a8.a9 (w':=u) (by rw [d2])).lookup GK Tryz.underlying220 (v0:=none) (zas _) hn false;rw [ZP (fun q:Nat × yC=>some q.1),hg] at this;exact this
 have a8:∀ n,(Instr.lookup 137 (.map none) (.int .i64 b9) false).run Tryz.prog (W.drewN n)=.ok (.int .i64 0) (W.drewN n):=by intro n;exact look_nil (w:=W.drewN n) false Qo.ff Tryz.underlying137 (GB _) (keyOf_int_mk Tryz.underlying3 hw)
 have g0:∀ n,(Instr.lookup 220 (.map (some h)) (.agg #[.int .i64 D,.string z,.bool E]) false).run Tryz.prog (W.drewN n)=.ok (.map none) (W.drewN n):=fun n=>d4 _ rfl;obtain ⟨e2,HS⟩:=zi2 d4 hs;clear d4 hs;go_quiet ((go_at_call 152;exact Calls.quiet_of_same (zgN _ _ _)));rw [c7];have HW:=hid c7;clear c7 g0 a8;go_wp2_with fail;have c8:qh (W.drewN nq) B b h T:=hA.below ⟨rfl,rfl,rfl,za _,fun _ _=>rfl⟩;have d1:Below w.heap.size w (W.drewN nq):=c0.trans ⟨rfl,rfl,rfl,za _,fun _ _=>rfl⟩;have a6:(W.drewN nq).heap[s]?=_:=a1;have d7:(W.drewN nq).heap.size=s+1:=c6;have a8:∀ u:World,u.heap=(W.drewN nq).heap->(Instr.lookup 220 (.map (some h)) (.agg #[.int .i64 D,.string z,.bool E]) false).run Tryz.prog u=.ok (.map none) u:=e2.o;clear Y Z k2 U hA c0 a1 c6 e2;generalize W.drewN nq=O at c8 d1 a6 d7 a8 ⊢;have Y:=xV (.int .i64 D) 0 a6;have Z:=xV (.string z) 1 a6;have k2:=xV (.bool E) 2 a6;have U:=xV (.map (some h)) 0 c8.U;have e3:=hid d7;clear d7;have g2:(Instr.lookup 220 (.map (some h)) (.agg #[.int .i64 D,.string z,.bool E]) false).run Tryz.prog O.drew=.ok (.map none) O.drew:=a8 _ rfl;have f2:=hid a8;clear a8;have g9:=fun W=>zgD (P:=Tryz.prog) Tryz.underlying137 W;go_still_tail 6,(by kernel_rfl);clear g2;change wpList _ _ _ _ _ O.drew;go_wp2_with fail;have c4:O.heap.size=s+1:=e3.o;have c1:Below w.heap.size w (O.alloc (.mapIter none 0 #[] 0)).drew:=(d1.alloc (by have:=HS.o;omega) _).drew;have c3:(O.alloc (.mapIter none 0 #[] 0)).drew.heap[s+1]?=some (.mapIter none 0 #[] 0):=by rw [<- c4];exact heap_alloc_new O _
 have a7:(O.alloc (.mapIter none 0 #[] 0)).drew.heap[s]?=some (.cells #[.int .i64 D,.string z,.bool E] 235 (0,0)):=(qb O _ s (by omega)).trans a6;have d8:(O.alloc (.mapIter none 0 #[] 0)).drew.heap.size=s+2:=by
  have:(O.alloc (.mapIter none 0 #[] 0)).heap.size=s+2:=by rw [World.size_alloc,c4]
  exact this
 rw [c4];clear Y Z k2 U g9 f2 a6 d1 c8 c4 e3;generalize (O.alloc (.mapIter none 0 #[] 0)).drew=R at c1 c3 a7 d8 ⊢;have d0:=a0.below c1;have d5:∀ u:World,u.heap[h]?=R.heap[h]?->(Instr.lookup 220 (.map (some h)) (.agg #[.int .i64 D,.string z,.bool E]) false).run Tryz.prog u=.ok (.map none) u:=by intro u d2;have:=(d0.a8.a9 (w':=u) d2).lookup GK Tryz.underlying220 (v0:=none) (zas _) hn false;rw [ZP (fun q:Nat × yC=>some q.1),hg] at this;exact this
 have Y:=xV (.int .i64 D) 0 a7;have Z:=xV (.string z) 1 a7;have k2:=xV (.bool E) 2 a7;have U:=xV (.map (some h)) 0 d0.U;have g8:∀ ty,(Instr.next (.pointer (some ⟨s+1,0,none⟩)) false ty).run Tryz.prog R=.ok (.tuple #[.bool false]) R:=fun ty=>zhV c3;have g3:∀ n,(Instr.lookup 220 (.map (some h)) (.agg #[.int .i64 D,.string z,.bool E]) false).run Tryz.prog (R.drewN n)=.ok (.map none) (R.drewN n):=fun n=>d5 _ rfl;have g7:∀ u:World,(binOp .eql 137 (.map none) (.map none)).run Tryz.prog u=.ok (.bool true) u:=fun u=>run_eql_map_nil u 137 3 3 none Tryz.underlying137;obtain ⟨f3,e4,f1⟩:=zi3 d5 d8 c3;clear d5 d8 c3;refine wp_loop_rounds 1 ?_;rw [rounds_succ];go_wp2_with fail;go_quiet (fail);go_wp2_with fail;have a9:Below w.heap.size w (R.drewN nq):=c1.trans ⟨rfl,rfl,rfl,za _,fun _ _=>rfl⟩;have a3:(R.drewN nq).heap[s]?=some (.cells #[.int .i64 D,.string z,.bool E] 235 (0,0)):=a7;have d9:(R.drewN nq).heap.size=s+2:=e4.o;clear Y Z k2 U g3 c1 d0 a7 f3 g7 g8 f1 e4;generalize R.drewN nq=L at a9 a3 d9 ⊢;have X:=a0.below a9;have Y:=xV (.int .i64 D) 0 a3;have Z:=xV (.string z) 1 a3;have k2:=xV (.bool E) 2 a3;have U:=xV (.map (some h)) 0 X.U;have f7:¬ b=L.heap.size:=fun e=>by have:=(qu.1 X.U).1;omega
 have h2:¬ s=L.heap.size:=fun e=>by omega
 have h7:=a0.a8.lt;obtain ⟨w5,d6,h5,t5⟩:=((X.a8.alloc (.map #[] 0)).drew).gr (P:=Tryz.prog) GK Tryz.underlying220 hn (some L.heap.size);have g5:=@run_makeMap Tryz.prog;have e5:=hid d9;clear d9;have c5:s<L.heap.size:=(qu.1 a3).1;have e7:b<L.heap.size:=(qu.1 X.U).1;have h3:=(World.cell?_alloc_lt L (.map #[] 0) ⟨s,0,none⟩ c5).trans Y;have h4:=(World.cell?_alloc_lt L (.map #[] 0) ⟨s,1,none⟩ c5).trans Z;have h6:=(World.cell?_alloc_lt L (.map #[] 0) ⟨s,2,none⟩ c5).trans k2;have f4:=(World.cell?_alloc_lt L (.map #[] 0) ⟨b,0,none⟩ e7).trans U;clear c5 e7;unfold Zb KT at d6;simp only at d6;go_region;obtain ⟨c,hc⟩:=ex L.heap.size;have f0:qz (L.alloc (.map #[] 0)).drew uo iok uo c ([]:List (Int × Int)):=by rw [hc];exact qz.g1 L uo iok uo
 have e6:zE (fun _=>False) L (L.alloc (.map #[] 0)).drew:=((zE.refl _ L).alloc _).drew;have f6:h<L.heap.size:=X.a8.lt;have e8:¬ c=h:=by omega
 have c2:zE (fun i=>i=h) L w5:=(e6.mono (fun i _ a0=>a0.elim)).trans (zeb t5);have f9:qz w5 uo iok uo c ([]:List (Int × Int)):=f0.bl (zeb t5) e8;rw [<- hc] at h5 ⊢;have f8:¬ b=h:=fun e=>X.ne e.symm;have h1:¬ s=h:=by have:=HS.o;omega
 have d3:w5.heap[s]?=some (.cells #[.int .i64 D,.string z,.bool E] 235 (0,0)):=(c2.block s (by have:=e5.o;omega) h1).trans a3;have f5:w5.heap[b]?=some (.cells #[.map (some h)] 222 (0,0)):=(c2.block b (qu.1 X.U).1 f8).trans X.U;have a5:zE (fun i=>i=h) w w5:=(zE.ak a9).trans c2;have e9:w.heap.size<=c:=by have:=a9.size;omega
 have HC:=hid hc;clear Y Z k2 U h3 h4 h6 f4 d6 g5 f7 h2 X a3 a9 f0 e6 c2 t5 e5 hc f6;go_wp2_with fail;have Y:=xV (.int .i64 D) 0 d3;have Z:=xV (.string z) 1 d3;have k2:=xV (.bool E) 2 d3;have U:=xV (.map (some h)) 0 f5;have g4:(Instr.lookup 220 (.map (some h)) (.agg #[.int .i64 D,.string z,.bool E]) false).run Tryz.prog w5.drew=.ok (.map (some c)) w5.drew:=by have:=h5.drew.lookup GK Tryz.underlying220 (v0:=none) (zas _) hn false;rw [ul,if_pos rfl] at this;exact this
 go_still_tail 8,(by kernel_rfl);clear g4;change wpList _ _ _ _ _ w5.drew;refine Ze _ rfl _ _ _ 137 3 rfl Qo Tryz.underlying137 rfl f9.drew b9 rfl hw e1 rfl ?_;intro w9 h9 t9;go_frame;go_wp2_with fail;go_ret;have a4:zE (fun i=>i=c) w5 w9:=((zE.refl _ _).drew).bw t9 (.inr rfl);have hT:zE (fun i=>i=h) w w9:=⟨a4.os.trans a5.os,a4.tape.trans a5.tape,a4.output.trans a5.output,zz a5.size a4.size,fun i hi g6=>(a4.block i (qg hi a5.size) (by omega)).trans (a5.block i hi g6)⟩;exact ⟨c,rfl,e9,a0.bp (by rw [yF,hg];rfl) e9 hT h9 (h5.bl a4 (fun e=>e8 e.symm)),hT⟩
def takeB (M:Lk) (h:Int) (n:Nm) (u:Int):Bool:=!YM (qA M n) h (Zi M h n u)
def takeS (M:Lk) (u:Int) (n:Nm) (h:Int):Lk:=if takeB M u n h=true then takeM M u n h else M
theorem vB:ByteArray.empty.size<=maxLen:=by decide
theorem QF (T:Tb) (n:Nm) (h:Nat) (l:yC):zp (aput T n (h,l))=aput (zp T) n l:=(zdg (fun q:Nat × yC=>q.2) T n (h,l)).symm
theorem zhv (T:Tb) (n:Nm):zp (adel T n)=adel (zp T) n:=(zdf (fun q:Nat × yC=>q.2) T n).symm
def ZJ (T:Tb) (i:Nat):Prop:=∀ p∈T,p.2.1≠i
def uj (h:Nat) (T:Tb) (i:Nat):Prop:=i=h∨∃ p∈T,p.2.1=i
theorem QM (B b L:Nat) (T:Tb) (z u:Int) (n:Nm) (hn:KQ n) (hw:iok z) (w:World) (Z:qh w B b L T) :
  zc 130 #[.pointer (some ⟨b,0,none⟩),.int .i64 z,Zb n,.int .i64 u] w fun e w' =>
   e=.returned (.bool (takeB (zp T) z n u))/\∃ X,qh w' B b L X/\zp X=takeS (zp T) z n u/\zE (uj L T) w w'/\∀ i,i<w.heap.size->ZJ T i->ZJ X i:=by
 cases h:zU T n with
 | none =>
  refine (zmI B b L T z u n h hn hw w Z).mono ?_;rintro e w' ⟨R,rfl,a3,Y,t'⟩;have E:takeB (zp T) z n u=true:=by unfold takeB;rw [YD h];rfl
  have O:Zi (zp T) z n u=uZ 0 u:=by unfold Zi;rw [YD h];rfl
  refine ⟨by rw [E],_,Y,?_,t'.mono fun i _ e=>.inl e,?_⟩
  ·unfold takeS takeM;rw [if_pos E,QF,YD h,O];rfl
  ·intro i hi U p D;rw [Yj _ (by rw [yF,h];rfl)] at D;rcases ja.1 D with D | D
   ·exact U p D
   ·simp at D;subst D;show R≠i;omega
 | some q =>
  obtain ⟨R,l⟩:=q;have a0:=ya h;refine (zmJ B b L T z u n R l h hn hw w Z).mono ?_;have O:Zi (zp T) z n u=uZ ((zU l z).getD 0) u:=by unfold Zi;rw [Jf h]
  rintro e w' (⟨hb,rfl,hB⟩ | ⟨hb,rfl,Y,t'⟩)
  ·have E:takeB (zp T) z n u=false:=by unfold takeB;rw [Jf h,O,hb];rfl
   refine ⟨by rw [E],T,Z.below hB,?_,zE.ak hB,fun i _ a1=>a1⟩;unfold takeS;rw [E];rfl
  ·have E:takeB (zp T) z n u=true:=by unfold takeB;rw [Jf h,O,hb];rfl
   refine ⟨by rw [E],_,Y,?_,t'.mono fun i _ e=>.inr ⟨_,a0,e.symm⟩,?_⟩
   ·unfold takeS takeM;rw [if_pos E,QF,Jf h,O]
   ·intro i hi U p D;unfold aput at D;rw [if_pos (by rw [yF,h];rfl)] at D;obtain ⟨q,hq,rfl⟩:=List.mem_map.1 D;by_cases e:q.1=n
    ·rw [if_pos e];exact U (n,(R,l)) a0
    ·rw [if_neg e];exact U q hq
theorem qh.d7 {w:World} {B b u:Nat} {T:Tb} (h:qh w B b u T) {i:Nat} (D:uj u T i):i=u∨B<=i:=by
 rcases D with z | ⟨p,E,rfl⟩
 ·exact .inl z
 ·exact .inr (h.base p E)
def jm (w w':World) (u:Nat) (T h:Tb):Prop:=∀ X,X<w.heap.size->X≠u->ZJ T X->w'.heap[X]?=w.heap[X]?/\ZJ h X
theorem jm.below {w w':World} {h:Nat} {T:Tb} (k:zd w w'):jm w w' h T T:=fun X u _ z=>⟨k.block X u,z⟩
theorem jm.take {w w':World} {z:Nat} {T u:Tb} (t:zE (uj z T) w w') (o:∀ i,i<w.heap.size->ZJ T i->ZJ u i):jm w w' z T u :=
 fun X D hb E=>⟨t.block X D (by rintro (h | ⟨p,L,h⟩);exact hb h;exact E p L h),o X D E⟩
theorem jm.trans {w w' L:World} {u:Nat} {T z D:Tb} (h:jm w w' u T z) (k:jm w' L u z D) (hs:w.heap.size<=w'.heap.size):jm w L u T D :=
 fun X E hb U=>by obtain ⟨O,R⟩:=h X E hb U;obtain ⟨Y,Z⟩:=k X (qg E hs) hb R;exact ⟨Y.trans O,Z⟩
theorem jm.ch {w w':World} {E h:Nat} {T:Tb} {n:Nm} {l l':yC} (z:zU T n=some (h,l)) (t:zE (fun i=>i=h) w w'):jm w w' E T (aput T n (h,l')) :=
 fun X L _ D=>by
  have hb:X≠h:=fun e=>D _ (ya z) e.symm;refine ⟨t.block X L hb,fun p u=>?_⟩;unfold aput at u;rw [if_pos (by rw [yF,z];rfl)] at u;obtain ⟨q,O,rfl⟩:=List.mem_map.1 u;by_cases e:q.1=n
  ·rw [if_pos e];exact fun e=>hb e.symm
  ·rw [if_neg e];exact D q O
theorem jm.drop {w w':World} {h:Nat} {T:Tb} (n:Nm) (t:zE (fun i=>i=h) w w'):jm w w' h T (adel T n) :=
 fun X u hb z=>⟨t.block X u hb,fun p D=>z p (List.filter_sublist.subset D)⟩
theorem new_any (w:World) :
  zc 79 #[] w fun e w'=>e=.returned (.pointer (some ⟨w.heap.size+1,0,none⟩))/\zoB w' (w.heap.size+2) (w.heap.size+1) w.heap.size []/\zd w w'/\w'.heap.size=w.heap.size+2:=by
 have h:=@run_makeMap Tryz.prog;go_enter Tryz.func79,Tryz.ntmps79;go_wp2;go_ret;exact ⟨rfl,⟨[],⟨by simpa using heap_alloc_new (w.alloc (.map #[] 0)) _,(qz.g1 w _ _ _).alloc _,by simp,by simp,List.Pairwise.nil,by omega,by omega,by simp⟩,rfl⟩,((zf _ _).alloc (za _) _).alloc (by simp) _,by simp⟩
theorem zqE (B b z:Nat) (T:Tb) (u t:Int) (k:ByteArray) (hn:iok t) (hk:k.size<=maxLen) (hw:iok u) (w:World) (h:qh w B b z T) :
  zc 87 #[.pointer (some ⟨b,0,none⟩),.int .i64 u,.int .i64 t,.string k,.bool false] w fun e w' =>
   e=.returned (.bool (takeB (zp T) u (t,k,false) 1))/\∃ E,qh w' B b z E/\zp E=takeS (zp T) u (t,k,false) 1/\zE (fun i=>i=z∨B<=i) w w'/\jm w w' z T E:=by
 have D:=QM B b z T u 1 (t,k,false) ⟨hn,hk⟩ hw w h;unfold Zb at D;obtain ⟨r,O⟩:=ex (takeB (zp T) u (t,k,false) 1);rw [<- O] at D ⊢;obtain ⟨U,X⟩:=zi2 D h;clear D h O;go_enter Tryz.func87,Tryz.ntmps87;go_wp2_with (first|(go_at_call 130;refine U.o.mono ?_;rintro e w1 ⟨rfl,L⟩));go_ret;obtain ⟨Y,L,Z,R,o1⟩:=L;exact ⟨rfl,Y,L,Z,R.mono fun i _ hi=>X.o.d7 hi,jm.take R o1⟩
structure ZA (w:World) (s:Nat) (t:Int) (k:ByteArray):Prop where
 a:w.heap[s]?=some (.cells #[.int .i64 t,.string k,.bool false] 235 (0,0))
 b:w.heap[s+1]?=some (.cells #[.int .i64 t,.string ⟨#[]⟩,.bool true] 235 (0,0))
theorem ZA.bl {w w':World} {s:Nat} {t:Int} {k:ByteArray} {S:Nat->Prop} (h:ZA w s t k) (u:zE S w w') (h0:¬ S s) (z:¬ S (s+1)):ZA w' s t k :=
 ⟨(u.block s (qu.1 h.a).1 h0).trans h.a,(u.block (s+1) (qu.1 h.b).1 z).trans h.b⟩
theorem uq {w:World} {B b z:Nat} {T:Tb} (h:qh w B b z T) (n:Nm) (L:KQ n) (u:World) (E:u.heap[z]?=w.heap[z]?) :
  (Instr.lookup 220 (.map (some z)) (Zb n) false).run Tryz.prog u=.ok (.map ((zU T n).map fun q=>q.1)) u:=by
 have:=(h.a8.a9 (w':=u) E).lookup GK Tryz.underlying220 (v0:=none) (zas _) L false;rw [ZP (fun q:Nat × yC=>some q.1)] at this;cases D:zU T n with
 | none=>rw [D] at this;exact this
 | some q=>rw [D] at this;exact this
def zW (t:Int):Nm:=(t,⟨#[]⟩,true)
theorem QE {w:World} {B b L:Nat} {T:Tb} (h:qh w B b L T) (n:Nm) (D:Int) (E:iok D) (u:World) (O:u.heap=w.heap) :
  (Instr.lookup 137 (.map ((zU T n).map fun q=>q.1)) (.int .i64 D) false).run Tryz.prog u=.ok (.int .i64 ((zU (qA (zp T) n) D).getD 0)) u:=by
 cases z:zU T n with
 | none =>rw [YD z];exact look_nil (w:=u) false Qo.ff Tryz.underlying137 (GB _) (keyOf_int_mk Tryz.underlying3 E)
 | some q =>obtain ⟨R,l⟩:=q;rw [Jf z];exact ((h.get z).1.a9 (w':=u) (by rw [O])).lookup Qo Tryz.underlying137 (v0:=0) (GB _) E false
theorem qh.drop {w w':World} {B b u:Nat} {T:Tb} (h:qh w B b u T) (n:Nm) (t:zE (fun i=>i=u) w w')
  (L:qz w' Zb KQ KT u (adel (T.map fun p=>(p.1,(fun q:Nat × yC=>some q.1) p.2)) n)):qh w' B b u (adel T n):=by
 have E:¬ b=u:=fun e=>h.ne e.symm;have D:(adel T n).Sublist T:=List.filter_sublist;refine ⟨(t.block b (qu.1 h.U).1 E).trans h.U,?_,fun p z=>(h.b3 p (D.subset z)).bl t (by have:=h.base p (D.subset z);have:=h.dh;omega),fun p z=>h.base p (D.subset z),h.apart.sublist D,h.dh,h.ek,zz h.size t.size⟩;rw [<- zdf (fun q:Nat × yC=>some q.1)];exact L
theorem zbx {K V:Type} [DecidableEq K] (l:List (K × V)) (x:K) (u v:V):aput (aput l x u) x v=aput l x v:=by
 have h:qT (aput l x u) x=true:=by rw [zfz];simp
 unfold aput at h ⊢;by_cases e:qT l x=true
 ·simp only [if_pos e] at h ⊢;rw [if_pos h,List.map_map];refine List.map_congr_left fun p _=>?_;simp only [Function.comp];by_cases z:p.1=x<;>simp [z]
 ·simp only [if_neg e] at h ⊢;rw [if_pos h,List.map_append];congr 1
  ·conv=>rhs;rw [<- List.map_id l]
   refine List.map_congr_left fun p D=>?_;have:=vu.1 (by simpa using e) p D;rw [if_neg this];rfl
  ·simp
theorem Gf {K V:Type} [DecidableEq K] {l:List (K × V)} (z:yM l) {x:K} {v:V} (h:zU l x=some v):aput l x v=l:=by
 have u:qT l x=true:=by rw [yF,h];rfl
 unfold aput;rw [if_pos u]
 conv=>rhs;rw [<- List.map_id l]
 refine List.map_congr_left fun p D=>?_;by_cases e:p.1=x
 ·have:=Jt z D;rw [e,h] at this;injection this with this;rw [if_pos e];obtain ⟨E,L⟩:=p;simp only at e this;rw [e,this];rfl
 ·rw [if_neg e];rfl
theorem YK {K V:Type} [DecidableEq K] (l:List (K × V)) (x:K) (v:V):adel (aput l x v) x=adel l x:=by
 unfold aput;by_cases h:qT l x=true
 ·rw [if_pos h];unfold adel;induction l with
  | nil=>rfl
  | cons p l ih =>
   rw [List.map_cons,List.filter_cons,List.filter_cons];have L:(l.map fun p=>if p.1=x then (x,v) else p).filter (fun p=>!decide (p.1=x))=l.filter fun p=>!decide (p.1=x):=by
    by_cases u:qT l x=true
    ·exact ih u
    ·have D:=vu.1 (by simpa using u);congr 1
     conv=>rhs;rw [<- List.map_id l]
     refine List.map_congr_left fun p E=>?_;rw [if_neg (D p E)];rfl
   rw [L];by_cases z:p.1=x<;>simp [z]
 ·rw [if_neg h];unfold adel;rw [List.filter_append];simp
def WF (M:Lk):Prop:=∀ p∈M,p.2≠[]/\yM p.2/\∀ q∈p.2,q.2≠0
theorem WF.nil:WF []:=by intro p h;cases h
theorem WF.dz {M:Lk} (h:WF M) (n:Nm):yM (qA M n)/\(∀ q∈qA M n,q.2≠0)/\(qA M n=[]->zU M n=none):=by
 unfold qA;cases u:zU M n with
 | none=>exact ⟨yM.nil,(fun q z=>by cases z),fun _=>rfl⟩
 | some l =>have:=h _ (ya u);exact ⟨this.2.1,this.2.2,fun e=>absurd e this.1⟩
theorem qh.gx {w:World} {B b u:Nat} {T:Tb} (h:qh w B b u T):yM (zp T):=by have:=h.ea;unfold yM at this ⊢;unfold zp;rw [List.pairwise_map];exact this
theorem ziP {M:Lk} (L:WF M) (n:Nm) (h E:Int) (h0:(zU (qA M n) h).getD 0=0) (u:adel (aput (qA M n) h E) h=[]):adel (aput M n (aput (qA M n) h E)) n=M:=by
 obtain ⟨X,U,O⟩:=L.dz n;have R:qT (qA M n) h=false:=by
  cases z:qT (qA M n) h with
  | false=>rfl
  | true =>rw [yF] at z;obtain ⟨v,D⟩:=Option.isSome_iff_exists.1 z;rw [D] at h0;exact absurd h0 (U _ (ya D))
 rw [YK,vY R] at u;rw [YK];exact vY (by rw [yF,O u];rfl)
theorem ziQ {M:Lk} (L:yM M) (O:WF M) (n:Nm) (h z:Int) (h0:(zU (qA M n) h).getD 0=0) (u:adel (aput (qA M n) h z) h≠[]):aput (aput M n (aput (qA M n) h z)) n (adel (aput (qA M n) h z) h)=M:=by
 obtain ⟨Y,X,Z⟩:=O.dz n;have U:qT (qA M n) h=false:=by
  cases D:qT (qA M n) h with
  | false=>rfl
  | true =>rw [yF] at D;obtain ⟨v,E⟩:=Option.isSome_iff_exists.1 D;rw [E] at h0;exact absurd h0 (X _ (ya E))
 rw [YK,vY U] at u ⊢;rw [zbx];refine Gf L ?_;unfold qA at u ⊢;cases R:zU M n with
 | none=>rw [R] at u;exact absurd rfl u
 | some l=>rfl
theorem zhO {M:Lk} (D:yM M) (E:WF M) (n:Nm) (h z:Int) (h0:(zU (qA M n) h).getD 0≠0):aput (aput M n (aput (qA M n) h z)) n (aput (aput (qA M n) h z) h ((zU (qA M n) h).getD 0))=M:=by
 obtain ⟨L,U,R⟩:=E.dz n;rw [zbx,zbx];cases u:zU (qA M n) h with
 | none=>rw [u] at h0;exact absurd rfl h0
 | some v =>
  rw [Option.getD_some,Gf L u];refine Gf D ?_;unfold qA at u ⊢;cases O:zU M n with
  | none=>rw [O] at u;cases u
  | some l=>rfl
def keyB (M:Lk) (h t:Int) (k:ByteArray):Bool:=takeB M h (zW t) 2 && takeB (takeM M h (zW t) 2) h (t,k,false) 3
def keyS (M:Lk) (h t:Int) (k:ByteArray):Lk:=if keyB M h t k=true then takeM (takeM M h (zW t) 2) h (t,k,false) 3 else M
theorem zqj (B b u:Nat) (T:Tb) (E t:Int) (k:ByteArray) (hn:iok t) (hk:k.size<=maxLen) (hw:iok E) (w:World) (h:qh w B b u T) (a6:takeB (zp T) E (zW t) 2=false) :
  zc 87 #[.pointer (some ⟨b,0,none⟩),.int .i64 E,.int .i64 t,.string k,.bool true] w fun e w' =>
   e=.returned (.bool false)/\∃ Y,qh w' B b u Y/\zp Y=zp T/\zE (fun i=>i=u∨B<=i) w w'/\jm w w' u T Y:=by
 have c1:b<w.heap.size:=(qu.1 h.U).1;have a5:∀ p∈T,p.2.1<w.heap.size:=fun p hp=>(h.b3 p hp).lt;have b9:=h.a8.lt;obtain ⟨HN,HK⟩:=zi2 hn hk;have O:Below w.heap.size w ((w.alloc (.cells #[.int .i64 t,.string k,.bool false] 235)).alloc (.cells #[.int .i64 t,.string ⟨#[]⟩,.bool true] 235)):=((zf _ _).alloc (za _) _).alloc (by simp) _;have D:ZA ((w.alloc (.cells #[.int .i64 t,.string k,.bool false] 235)).alloc (.cells #[.int .i64 t,.string ⟨#[]⟩,.bool true] 235)) w.heap.size t k:=by refine ⟨(qb _ _ _ (by simp)).trans (heap_alloc_new w _),?_⟩;have:=heap_alloc_new (w.alloc (.cells #[.int .i64 t,.string k,.bool false] 235)) (.cells #[.int .i64 t,.string ⟨#[]⟩,.bool true] 235);rw [World.size_alloc] at this;exact this
 have X:((w.alloc (.cells #[.int .i64 t,.string k,.bool false] 235)).alloc (.cells #[.int .i64 t,.string ⟨#[]⟩,.bool true] 235)).heap.size=w.heap.size+2:=by simp
 have c5:=hid a5;clear a5 hn hk;go_enter Tryz.func87,Tryz.ntmps87;go_wp2_with fail;generalize (w.alloc (.cells #[.int .i64 t,.string k,.bool false] 235)).alloc (.cells #[.int .i64 t,.string ⟨#[]⟩,.bool true] 235)=z at O D X ⊢;have L:=h.below O;obtain ⟨s,hs⟩:=ex w.heap.size;rw [<- hs] at D X c1 b9 ⊢;have HS:=hid hs;clear hs;have k0:=xV (.int .i64 t) 0 D.b;have k1:=xV (.string ⟨#[]⟩) 1 D.b;have k2:=xV (.bool true) 2 D.b;have c0:=xV (.map (some u)) 0 L.U;obtain ⟨o,ho⟩:=ex ((zU T (zW t)).map fun q=>q.1);obtain ⟨a8,hO⟩:=ex ((zU (qA (zp T) (zW t)) E).getD 0);have c2:∀ n,(Instr.lookup 220 (.map (some u)) (.agg #[.int .i64 t,.string ⟨#[]⟩,.bool true]) false).run Tryz.prog (z.drewN n)=.ok (.map o) (z.drewN n):=by intro n;rw [ho];exact uq L (zW t) ⟨HN.o,vB⟩ _ rfl
 have c3:∀ n,(Instr.lookup 137 (.map o) (.int .i64 E) false).run Tryz.prog (z.drewN n)=.ok (.int .i64 a8) (z.drewN n):=by intro n;rw [ho,hO];exact QE L (zW t) E hw _ rfl
 have HO:=hid hO;clear ho hO;go_quiet (fail);have a3:qh (z.drewN nq) B b u T:=L.below ⟨rfl,rfl,rfl,za _,fun _ _=>rfl⟩;have U:ZA (z.drewN nq) s t k:=⟨D.a,D.b⟩;have a0:(z.drewN nq).heap.size=s+2:=X;have R:Below w.heap.size w (z.drewN nq):=O.trans ⟨rfl,rfl,rfl,za _,fun _ _=>rfl⟩;clear k0 k1 k2 c0 c2 c3 L D X O;generalize z.drewN nq=Z at a3 U a0 R ⊢;have k0:=xV (.int .i64 t) 0 U.b;have k1:=xV (.string ⟨#[]⟩) 1 U.b;have k2:=xV (.bool true) 2 U.b;have c6:=hid a0;clear a0;have a4:zc 130 #[.pointer (some ⟨b,0,none⟩),.int .i64 E,.agg #[.int .i64 t,.string ⟨#[]⟩,.bool true],.int .i64 2] Z _:=QM B b u T E 2 (zW t) ⟨HN.o,vB⟩ hw Z a3;have a7:=hid a4;clear a4;have a1:=hid a6;clear a6;go_wp2_with (first|((with_reducible refine aV 130 a7.o ?_);rintro e w2 ⟨rfl,T2,h2,e2,t2,o2⟩;rw [a1.o]));go_ret;have a9:∀ {v:World},zE (uj u T) Z v->zE (fun i=>i=u∨B<=i) w v:=fun c4=>(zE.ak R).trans (c4.mono fun i _ hi=>h.d7 hi);exact ⟨rfl,T2,h2,by rw [e2];unfold takeS;rw [a1.o];rfl,a9 t2,(jm.below R).trans (jm.take t2 o2) R.size⟩
theorem zqk (B b z:Nat) (T:Tb) (u t:Int) (k:ByteArray) (hn:iok t) (hk:k.size<=maxLen) (hw:iok u) (w:World) (h:qh w B b z T) (c3:takeB (zp T) u (zW t) 2=true) (c4:takeB (takeM (zp T) u (zW t) 2) u (t,k,false) 3=true) :
  zc 87 #[.pointer (some ⟨b,0,none⟩),.int .i64 u,.int .i64 t,.string k,.bool true] w fun e w' =>
   e=.returned (.bool true)/\∃ T',qh w' B b z T'/\zp T'=takeM (takeM (zp T) u (zW t) 2) u (t,k,false) 3/\zE (fun i=>i=z∨B<=i) w w'/\jm w w' z T T':=by
 have d3:b<w.heap.size:=(qu.1 h.U).1;have c2:∀ p∈T,p.2.1<w.heap.size:=fun p E=>(h.b3 p E).lt;have d2:=h.a8.lt;obtain ⟨HN,HK⟩:=zi2 hn hk;have Y:Below w.heap.size w ((w.alloc (.cells #[.int .i64 t,.string k,.bool false] 235)).alloc (.cells #[.int .i64 t,.string ⟨#[]⟩,.bool true] 235)):=((zf _ _).alloc (za _) _).alloc (by simp) _;have L:ZA ((w.alloc (.cells #[.int .i64 t,.string k,.bool false] 235)).alloc (.cells #[.int .i64 t,.string ⟨#[]⟩,.bool true] 235)) w.heap.size t k:=by refine ⟨(qb _ _ _ (by simp)).trans (heap_alloc_new w _),?_⟩;have:=heap_alloc_new (w.alloc (.cells #[.int .i64 t,.string k,.bool false] 235)) (.cells #[.int .i64 t,.string ⟨#[]⟩,.bool true] 235);rw [World.size_alloc] at this;exact this
 have a0:((w.alloc (.cells #[.int .i64 t,.string k,.bool false] 235)).alloc (.cells #[.int .i64 t,.string ⟨#[]⟩,.bool true] 235)).heap.size=w.heap.size+2:=by simp
 have a7:=hid c2;clear c2 hn hk;go_enter Tryz.func87,Tryz.ntmps87;go_wp2_with fail;generalize (w.alloc (.cells #[.int .i64 t,.string k,.bool false] 235)).alloc (.cells #[.int .i64 t,.string ⟨#[]⟩,.bool true] 235)=D at Y L a0 ⊢;have U:=h.below Y;obtain ⟨s,hs⟩:=ex w.heap.size;rw [<- hs] at L a0 d3 d2 ⊢;have HS:=hid hs;clear hs;have k0:=xV (.int .i64 t) 0 L.b;have k1:=xV (.string ⟨#[]⟩) 1 L.b;have k2:=xV (.bool true) 2 L.b;have d0:=xV (.map (some z)) 0 U.U;obtain ⟨o,ho⟩:=ex ((zU T (zW t)).map fun q=>q.1);obtain ⟨c8,hO⟩:=ex ((zU (qA (zp T) (zW t)) u).getD 0);have d4:∀ n,(Instr.lookup 220 (.map (some z)) (.agg #[.int .i64 t,.string ⟨#[]⟩,.bool true]) false).run Tryz.prog (D.drewN n)=.ok (.map o) (D.drewN n):=by intro n;rw [ho];exact uq U (zW t) ⟨HN.o,vB⟩ _ rfl
 have d5:∀ n,(Instr.lookup 137 (.map o) (.int .i64 u) false).run Tryz.prog (D.drewN n)=.ok (.int .i64 c8) (D.drewN n):=by intro n;rw [ho,hO];exact QE U (zW t) u hw _ rfl
 have HO:=hid hO;clear ho hO;go_quiet (fail);have a9:qh (D.drewN nq) B b z T:=U.below ⟨rfl,rfl,rfl,za _,fun _ _=>rfl⟩;have X:ZA (D.drewN nq) s t k:=⟨L.a,L.b⟩;have a6:(D.drewN nq).heap.size=s+2:=a0;have Z:Below w.heap.size w (D.drewN nq):=Y.trans ⟨rfl,rfl,rfl,za _,fun _ _=>rfl⟩;clear k0 k1 k2 d0 d4 d5 U L a0 Y;generalize D.drewN nq=W1 at a9 X a6 Z ⊢;have k0:=xV (.int .i64 t) 0 X.b;have k1:=xV (.string ⟨#[]⟩) 1 X.b;have k2:=xV (.bool true) 2 X.b;have d9:=hid a6;clear a6;have c0:zc 130 #[.pointer (some ⟨b,0,none⟩),.int .i64 u,.agg #[.int .i64 t,.string ⟨#[]⟩,.bool true],.int .i64 2] W1 _:=QM B b z T u 2 (zW t) ⟨HN.o,vB⟩ hw W1 a9;have c5:=hid c0;clear c0;obtain ⟨a1,a8⟩:=zi2 c3 c4;clear c3 c4;have a4:ZJ T s:=fun p E=>by have:=a7.o p E;have:=HS.o;omega
 have a5:ZJ T (s+1):=fun p E=>by have:=a7.o p E;have:=HS.o;omega
 obtain ⟨d7,d8⟩:=zi2 a4 a5;have n0:¬ uj z T s:=by rintro (R | ⟨p,E,R⟩);omega;exact a4 p E R
 have n1:¬ uj z T (s+1):=by rintro (R | ⟨p,E,R⟩);omega;exact a5 p E R
 obtain ⟨c6,c7⟩:=zi2 n0 n1;clear a4 a5 n0 n1;go_wp2_with (first|((with_reducible refine aV 130 c5.o ?_);rintro e O ⟨rfl,T2,h2,e2,t2,o2⟩;rw [a1.o];have a3:=X.bl t2 c6.o c7.o;have m0:O.cell? ⟨s,0,none⟩=some (.int .i64 t):=ze O s 0 _ _ _ a3.a;have m1:O.cell? ⟨s,1,none⟩=some (.string k):=ze O s 1 _ _ _ a3.a;have m2:O.cell? ⟨s,2,none⟩=some (.bool false):=ze O s 2 _ _ _ a3.a;have E2:=hid e2;have O2:=hid o2;clear e2 o2)|(go_at_call 130;have c1:zc 130 #[.pointer (some ⟨b,0,none⟩),.int .i64 u,.agg #[.int .i64 t,.string k,.bool false],.int .i64 3] O _:=QM B b z T2 u 3 (t,k,false) ⟨HN.o,HK.o⟩ hw O h2;refine c1.mono ?_;clear c1;rintro e w3 ⟨rfl,T3,h3,e3,t3,o3⟩;have E3:=hid e3;have O3:=hid o3;clear e3 o3;rw [E2.o,show takeS (zp T) u (zW t) 2=takeM (zp T) u (zW t) 2 from by (unfold takeS;rw [a1.o];rfl),a8.o]));go_ret;have b9:∀ {v:World},zE (uj z T) W1 v->zE (fun i=>i=z∨B<=i) w v:=fun d6=>(zE.ak Z).trans (d6.mono fun i _ hi=>h.d7 hi);have d1:zp T2=takeM (zp T) u (zW t) 2:=by rw [E2.o];unfold takeS;rw [a1.o];rfl
 refine ⟨rfl,T3,h3,?_,(b9 t2).trans (t3.mono fun i _ hi=>h2.d7 hi),((jm.below Z).trans (jm.take t2 O2.o) Z.size).trans (jm.take t3 O3.o) (b9 t2).size⟩;rw [E3.o,d1];unfold takeS;rw [a8.o];rfl
theorem zql (B b u:Nat) (T:Tb) (h t:Int) (k:ByteArray) (hn:iok t) (hk:k.size<=maxLen) (hw:iok h) (w:World) (a5:qh w B b u T) (g0:takeB (zp T) h (zW t) 2=true) (g2:takeB (takeM (zp T) h (zW t) 2) h (t,k,false) 3=false) (h0:(zU (qA (zp T) (zW t)) h).getD 0=0) (hW:WF (zp T)) (he:adel (aput (qA (zp T) (zW t)) h (Zi (zp T) h (zW t) 2)) h=[]) :
  zc 87 #[.pointer (some ⟨b,0,none⟩),.int .i64 h,.int .i64 t,.string k,.bool true] w fun e w' =>
   e=.returned (.bool false)/\∃ T',qh w' B b u T'/\zp T'=zp T/\zE (fun i=>i=u∨B<=i) w w'/\jm w w' u T T':=by
 have f3:b<w.heap.size:=(qu.1 a5.U).1;have f9:∀ p∈T,p.2.1<w.heap.size:=fun p D=>(a5.b3 p D).lt;have h8:=a5.a8.lt;obtain ⟨HN,HK⟩:=zi2 hn hk;have c1:Below w.heap.size w ((w.alloc (.cells #[.int .i64 t,.string k,.bool false] 235)).alloc (.cells #[.int .i64 t,.string ⟨#[]⟩,.bool true] 235)):=((zf _ _).alloc (za _) _).alloc (by simp) _;have R:ZA ((w.alloc (.cells #[.int .i64 t,.string k,.bool false] 235)).alloc (.cells #[.int .i64 t,.string ⟨#[]⟩,.bool true] 235)) w.heap.size t k:=by refine ⟨(qb _ _ _ (by simp)).trans (heap_alloc_new w _),?_⟩;have:=heap_alloc_new (w.alloc (.cells #[.int .i64 t,.string k,.bool false] 235)) (.cells #[.int .i64 t,.string ⟨#[]⟩,.bool true] 235);rw [World.size_alloc] at this;exact this
 have c3:((w.alloc (.cells #[.int .i64 t,.string k,.bool false] 235)).alloc (.cells #[.int .i64 t,.string ⟨#[]⟩,.bool true] 235)).heap.size=w.heap.size+2:=by simp
 have e2:=hid f9;clear f9 hn hk;go_enter Tryz.func87,Tryz.ntmps87;go_wp2_with fail;generalize (w.alloc (.cells #[.int .i64 t,.string k,.bool false] 235)).alloc (.cells #[.int .i64 t,.string ⟨#[]⟩,.bool true] 235)=O at c1 R c3 ⊢;have a6:=a5.below c1;obtain ⟨s,hs⟩:=ex w.heap.size;rw [<- hs] at R c3 f3 h8 ⊢;have HS:=hid hs;clear hs;have U:=xV (.int .i64 t) 0 R.b;have X:=xV (.string ⟨#[]⟩) 1 R.b;have Y:=xV (.bool true) 2 R.b;have c0:=xV (.map (some u)) 0 a6.U;obtain ⟨o,ho⟩:=ex ((zU T (zW t)).map fun q=>q.1);obtain ⟨e7,hO⟩:=ex ((zU (qA (zp T) (zW t)) h).getD 0);have h9:∀ n,(Instr.lookup 220 (.map (some u)) (.agg #[.int .i64 t,.string ⟨#[]⟩,.bool true]) false).run Tryz.prog (O.drewN n)=.ok (.map o) (O.drewN n):=by intro n;rw [ho];exact uq a6 (zW t) ⟨HN.o,vB⟩ _ rfl
 have i2:∀ n,(Instr.lookup 137 (.map o) (.int .i64 h) false).run Tryz.prog (O.drewN n)=.ok (.int .i64 e7) (O.drewN n):=by intro n;rw [ho,hO];exact QE a6 (zW t) h hw _ rfl
 have HO:=hid hO;clear ho hO;go_quiet (fail);have c7:qh (O.drewN nq) B b u T:=a6.below ⟨rfl,rfl,rfl,za _,fun _ _=>rfl⟩;have a4:ZA (O.drewN nq) s t k:=⟨R.a,R.b⟩;have d8:(O.drewN nq).heap.size=s+2:=c3;have a1:Below w.heap.size w (O.drewN nq):=c1.trans ⟨rfl,rfl,rfl,za _,fun _ _=>rfl⟩;clear U X Y c0 h9 i2 a6 R c3 c1;generalize O.drewN nq=W1 at c7 a4 d8 a1 ⊢;have U:=xV (.int .i64 t) 0 a4.b;have X:=xV (.string ⟨#[]⟩) 1 a4.b;have Y:=xV (.bool true) 2 a4.b;have c5:=hid d8;clear d8;have f4:zc 130 #[.pointer (some ⟨b,0,none⟩),.int .i64 h,.agg #[.int .i64 t,.string ⟨#[]⟩,.bool true],.int .i64 2] W1 _:=QM B b u T h 2 (zW t) ⟨HN.o,vB⟩ hw W1 c7;have e0:=hid f4;clear f4;have i4:(e7 == 0)=true:=by rw [HO.o,h0];rfl
 have H0:=hid h0;clear h0;have HE:=hid he;clear he;obtain ⟨c4,e5⟩:=zi2 g0 g2;clear g0 g2;have d6:ZJ T s:=fun p D=>by have:=e2.o p D;have:=HS.o;omega
 have d7:ZJ T (s+1):=fun p D=>by have:=e2.o p D;have:=HS.o;omega
 obtain ⟨g4,g5⟩:=zi2 d6 d7;have n0:¬ uj u T s:=by rintro (z | ⟨p,D,z⟩);omega;exact d6 p D z
 have n1:¬ uj u T (s+1):=by rintro (z | ⟨p,D,z⟩);omega;exact d7 p D z
 obtain ⟨e3,e4⟩:=zi2 n0 n1;clear d6 d7 n0 n1;go_wp2_with (first|((with_reducible refine aV 130 e0.o ?_);rintro e Z ⟨rfl,T2,h2,e8,t2,o2⟩;rw [c4.o];have a8:=a4.bl t2 e3.o e4.o;have m0:Z.cell? ⟨s,0,none⟩=some (.int .i64 t):=ze Z s 0 _ _ _ a8.a;have m1:Z.cell? ⟨s,1,none⟩=some (.string k):=ze Z s 1 _ _ _ a8.a;have m2:Z.cell? ⟨s,2,none⟩=some (.bool false):=ze Z s 2 _ _ _ a8.a;have E2:=hid e8;have O2:=hid o2;clear e8 o2)|(go_at_call 130;have f5:zc 130 #[.pointer (some ⟨b,0,none⟩),.int .i64 h,.agg #[.int .i64 t,.string k,.bool false],.int .i64 3] Z _:=QM B b u T2 h 3 (t,k,false) ⟨HN.o,HK.o⟩ hw Z h2;refine f5.mono ?_;clear f5;rintro e w3 ⟨rfl,L,h3,f0,t3,o3⟩;have E3:=hid f0;have O3:=hid o3;clear f0 o3;rw [E2.o,show takeS (zp T) h (zW t) 2=takeM (zp T) h (zW t) 2 from by (unfold takeS;rw [c4.o];rfl),e5.o]));have f6:ZJ T2 s:=O2.o s (by have:=c5.o;omega) g4.o;have d4:ZJ T2 (s+1):=O2.o (s+1) (by have:=c5.o;omega) g5.o;have f2:ZA w3 s t k:=a8.bl t3 (by rintro (z | ⟨p,D,z⟩);omega;exact f6 p D z) (by rintro (z | ⟨p,D,z⟩);omega;exact d4 p D z);have e9:zp T2=takeM (zp T) h (zW t) 2:=by rw [E2.o];unfold takeS;rw [c4.o];rfl
 have c6:zp L=takeM (zp T) h (zW t) 2:=by rw [E3.o,e9];unfold takeS;rw [e5.o];rfl
 obtain ⟨L1,d0⟩:=ex (aput (qA (zp T) (zW t)) h (Zi (zp T) h (zW t) 2));obtain ⟨E,a9⟩:∃ E,zU L (zW t)=some (E,L1):=by
  have z:zU (zp L) (zW t)=some L1:=by rw [c6,takeM,ul,if_pos rfl,d0]
  rw [Jg] at z;cases hg:zU L (zW t) with
  | none=>rw [hg] at z;cases z
  | some q=>obtain ⟨b1,l1⟩:=q;rw [hg] at z;injection z with z;exact ⟨b1,by rw [<- z]⟩
 have f7:ZJ L (s+1):=O3.o (s+1) (by have:=c5.o;have:=t2.size;omega) d4;have h7:¬ s+1=E:=fun e=>f7 _ (ya a9) e.symm;have d5:=h3.get a9;have h5:¬ u=E:=by have:=h3.dh;omega
 have d2:zE (fun i=>i=u∨B<=i) w w3:=((zE.ak a1).trans (t2.mono fun i _ hi=>a5.d7 hi)).trans (t3.mono fun i _ hi=>h2.d7 hi);have f8:∀ (W':World),W'.heap[u]?=w3.heap[u]?->(Instr.lookup 220 (.map (some u)) (.agg #[.int .i64 t,.string ⟨#[]⟩,.bool true]) false).run Tryz.prog W'=.ok (.map (some E)) W':=by intro W' h1;have:=uq h3 (zW t) ⟨HN.o,vB⟩ W' h1;rw [a9] at this;exact this
 have g7:=hid (show jm w w3 u T L from ((jm.below a1).trans (jm.take t2 O2.o) a1.size).trans (jm.take t3 O3.o) (zz a1.size t2.size));have g3:=hid c6;obtain ⟨g6,d9,e1⟩:=zi3 d0 a9 f8;have a0:=hid f2.b;clear f6 d4 f2 e9 c6 d0 a9 f8 f7 a8 m0 m1 m2 U X Y c7 a4 a1 t2 t3 E2 E3 O2 O3 e0 e3 e4 f3;have U:=xV (.int .i64 t) 0 a0.o;have X:=xV (.string ⟨#[]⟩) 1 a0.o;have Y:=xV (.bool true) 2 a0.o;have c0:=xV (.map (some u)) 0 h3.U;have i0:(Instr.lookup 220 (.map (some u)) (.agg #[.int .i64 t,.string ⟨#[]⟩,.bool true]) false).run Tryz.prog w3.drew=.ok (.map (some E)) w3.drew:=e1.o _ rfl;go_still_tail 7,(by kernel_rfl);clear i0;change wpList _ _ _ _ _ w3.drew;refine Zd _ rfl _ _ 137 3 rfl Qo Tryz.underlying137 rfl d5.1.drew h rfl hw ?_;intro w4 h4 t4;go_frame;have a3:zE (fun i=>i=E) w3 w4:=((zE.refl _ _).drew).bw t4 (.inr rfl);have c8:=h3.ch d9.o a3 h4;have a7:=(a3.block (s+1) (qu.1 a0.o).1 h7).trans a0.o;have f1:zE (fun i=>i=u∨B<=i) w w4:=d2.trans (a3.mono fun i _ e=>.inr (by rw [e];exact d5.2));have g8:=hid (show jm w w4 u T (aput L (zW t) (E,adel L1 h)) from g7.o.trans (jm.ch d9.o a3) d2.size);have i1:∀ n,(Instr.lookup 220 (.map (some u)) (.agg #[.int .i64 t,.string ⟨#[]⟩,.bool true]) false).run Tryz.prog (w4.drewN n)=.ok (.map (some E)) (w4.drewN n):=fun n=>e1.o _ (a3.block u h3.a8.lt h5);have i3:∀ n ty,(Builtin.len_ #[137] ty #[.map (some E)]).run Tryz.prog (w4.drewN n)=.ok (.int .i64 (adel L1 h).length) (w4.drewN n):=fun n ty=>(h4.drewN n).len Tryz.underlying137 ty;clear U X Y c0 d5 t4 h4 d2 a0;have U:=xV (.int .i64 t) 0 a7;have X:=xV (.string ⟨#[]⟩) 1 a7;have Y:=xV (.bool true) 2 a7;have c0:=xV (.map (some u)) 0 c8.U;have hlen:(((adel L1 h).length:Int) == 0)=true:=by rw [g6.o,HE.o];rfl
 go_wp2_with fail;go_quiet (fail);have b9:qh (w4.drewN nq) B b u (aput L (zW t) (E,adel L1 h)):=c8.below ⟨rfl,rfl,rfl,za _,fun _ _=>rfl⟩;have c2:(w4.drewN nq).heap[s+1]?=_:=a7;have d3:zE (fun i=>i=u∨B<=i) w (w4.drewN nq):=f1.drewN nq;have e6:=hid (show jm w (w4.drewN nq) u T (aput L (zW t) (E,adel L1 h)) from g8.o);clear U X Y c0 i1 i3 c8 a7 f1 a3;generalize w4.drewN nq=W5 at b9 c2 d3 e6 ⊢;have U:=xV (.int .i64 t) 0 c2;have X:=xV (.string ⟨#[]⟩) 1 c2;have Y:=xV (.bool true) 2 c2;have c0:=xV (.map (some u)) 0 b9.U;go_wp2_with fail;go_still_tail 5,(by kernel_rfl);change wpList _ _ _ _ _ W5.drew;refine Zd _ rfl _ _ 220 137 rfl GK Tryz.underlying220 rfl b9.a8.drew (zW t) rfl ⟨HN.o,vB⟩ ?_;intro w6 h6 t6;go_frame;go_wp2_with fail;go_ret;have d1:zE (fun i=>i=u) W5 w6:=((zE.refl _ _).drew).bw t6 (.inr rfl);refine ⟨rfl,_,b9.drop (zW t) d1 h6,?_,d3.trans (d1.mono fun i _ e=>.inl e),e6.o.trans (jm.drop (zW t) d1) d3.size⟩;have g9:adel (takeM (zp T) h (zW t) 2) (zW t)=zp T:=ziP hW (zW t) h _ H0.o HE.o;rw [zhv,QF,g3.o,YK];exact g9
theorem zqm (B b u:Nat) (T:Tb) (h t:Int) (k:ByteArray) (hn:iok t) (hk:k.size<=maxLen) (hw:iok h) (w:World) (a0:qh w B b u T) (f4:takeB (zp T) h (zW t) 2=true) (f5:takeB (takeM (zp T) h (zW t) 2) h (t,k,false) 3=false) (h0:(zU (qA (zp T) (zW t)) h).getD 0=0) (hW:WF (zp T)) (he:adel (aput (qA (zp T) (zW t)) h (Zi (zp T) h (zW t) 2)) h≠[]) :
  zc 87 #[.pointer (some ⟨b,0,none⟩),.int .i64 h,.int .i64 t,.string k,.bool true] w fun e w' =>
   e=.returned (.bool false)/\∃ T',qh w' B b u T'/\zp T'=zp T/\zE (fun i=>i=u∨B<=i) w w'/\jm w w' u T T':=by
 have e7:b<w.heap.size:=(qu.1 a0.U).1;have f3:∀ p∈T,p.2.1<w.heap.size:=fun p D=>(a0.b3 p D).lt;have g7:=a0.a8.lt;obtain ⟨HN,HK⟩:=zi2 hn hk;have a8:Below w.heap.size w ((w.alloc (.cells #[.int .i64 t,.string k,.bool false] 235)).alloc (.cells #[.int .i64 t,.string ⟨#[]⟩,.bool true] 235)):=((zf _ _).alloc (za _) _).alloc (by simp) _;have R:ZA ((w.alloc (.cells #[.int .i64 t,.string k,.bool false] 235)).alloc (.cells #[.int .i64 t,.string ⟨#[]⟩,.bool true] 235)) w.heap.size t k:=by refine ⟨(qb _ _ _ (by simp)).trans (heap_alloc_new w _),?_⟩;have:=heap_alloc_new (w.alloc (.cells #[.int .i64 t,.string k,.bool false] 235)) (.cells #[.int .i64 t,.string ⟨#[]⟩,.bool true] 235);rw [World.size_alloc] at this;exact this
 have a9:((w.alloc (.cells #[.int .i64 t,.string k,.bool false] 235)).alloc (.cells #[.int .i64 t,.string ⟨#[]⟩,.bool true] 235)).heap.size=w.heap.size+2:=by simp
 have d7:=hid f3;clear f3 hn hk;go_enter Tryz.func87,Tryz.ntmps87;go_wp2_with fail;generalize (w.alloc (.cells #[.int .i64 t,.string k,.bool false] 235)).alloc (.cells #[.int .i64 t,.string ⟨#[]⟩,.bool true] 235)=L at a8 R a9 ⊢;have a4:=a0.below a8;obtain ⟨s,hs⟩:=ex w.heap.size;rw [<- hs] at R a9 e7 g7 ⊢;have HS:=hid hs;clear hs;have k0:=xV (.int .i64 t) 0 R.b;have k1:=xV (.string ⟨#[]⟩) 1 R.b;have k2:=xV (.bool true) 2 R.b;have c0:=xV (.map (some u)) 0 a4.U;obtain ⟨o,ho⟩:=ex ((zU T (zW t)).map fun q=>q.1);obtain ⟨e1,hO⟩:=ex ((zU (qA (zp T) (zW t)) h).getD 0);have g8:∀ n,(Instr.lookup 220 (.map (some u)) (.agg #[.int .i64 t,.string ⟨#[]⟩,.bool true]) false).run Tryz.prog (L.drewN n)=.ok (.map o) (L.drewN n):=by intro n;rw [ho];exact uq a4 (zW t) ⟨HN.o,vB⟩ _ rfl
 have h1:∀ n,(Instr.lookup 137 (.map o) (.int .i64 h) false).run Tryz.prog (L.drewN n)=.ok (.int .i64 e1) (L.drewN n):=by intro n;rw [ho,hO];exact QE a4 (zW t) h hw _ rfl
 have HO:=hid hO;clear ho hO;go_quiet (fail);have c3:qh (L.drewN nq) B b u T:=a4.below ⟨rfl,rfl,rfl,za _,fun _ _=>rfl⟩;have a3:ZA (L.drewN nq) s t k:=⟨R.a,R.b⟩;have d2:(L.drewN nq).heap.size=s+2:=a9;have a1:Below w.heap.size w (L.drewN nq):=a8.trans ⟨rfl,rfl,rfl,za _,fun _ _=>rfl⟩;clear k0 k1 k2 c0 g8 h1 a4 R a9 a8;generalize L.drewN nq=W1 at c3 a3 d2 a1 ⊢;have k0:=xV (.int .i64 t) 0 a3.b;have k1:=xV (.string ⟨#[]⟩) 1 a3.b;have k2:=xV (.bool true) 2 a3.b;have c1:=hid d2;clear d2;have e8:zc 130 #[.pointer (some ⟨b,0,none⟩),.int .i64 h,.agg #[.int .i64 t,.string ⟨#[]⟩,.bool true],.int .i64 2] W1 _:=QM B b u T h 2 (zW t) ⟨HN.o,vB⟩ hw W1 c3;have d4:=hid e8;clear e8;have h5:(e1 == 0)=true:=by rw [HO.o,h0];rfl
 have H0:=hid h0;clear h0;have HE:=hid he;clear he;obtain ⟨b9,e0⟩:=zi2 f4 f5;clear f4 f5;have d0:ZJ T s:=fun p D=>by have:=d7.o p D;have:=HS.o;omega
 have d1:ZJ T (s+1):=fun p D=>by have:=d7.o p D;have:=HS.o;omega
 obtain ⟨f7,f8⟩:=zi2 d0 d1;have n0:¬ uj u T s:=by rintro (z | ⟨p,D,z⟩);omega;exact d0 p D z
 have n1:¬ uj u T (s+1):=by rintro (z | ⟨p,D,z⟩);omega;exact d1 p D z
 obtain ⟨d8,d9⟩:=zi2 n0 n1;clear d0 d1 n0 n1;go_wp2_with (first|((with_reducible refine aV 130 d4.o ?_);rintro e U ⟨rfl,T2,h2,e2,t2,o2⟩;rw [b9.o];have a6:=a3.bl t2 d8.o d9.o;have m0:U.cell? ⟨s,0,none⟩=some (.int .i64 t):=ze U s 0 _ _ _ a6.a;have m1:U.cell? ⟨s,1,none⟩=some (.string k):=ze U s 1 _ _ _ a6.a;have m2:U.cell? ⟨s,2,none⟩=some (.bool false):=ze U s 2 _ _ _ a6.a;have E2:=hid e2;have O2:=hid o2;clear e2 o2)|(go_at_call 130;have e9:zc 130 #[.pointer (some ⟨b,0,none⟩),.int .i64 h,.agg #[.int .i64 t,.string k,.bool false],.int .i64 3] U _:=QM B b u T2 h 3 (t,k,false) ⟨HN.o,HK.o⟩ hw U h2;refine e9.mono ?_;clear e9;rintro e X ⟨rfl,O,h3,e4,t3,o3⟩;have E3:=hid e4;have O3:=hid o3;clear e4 o3;rw [E2.o,show takeS (zp T) h (zW t) 2=takeM (zp T) h (zW t) 2 from by (unfold takeS;rw [b9.o];rfl),e0.o]));have f0:ZJ T2 s:=O2.o s (by have:=c1.o;omega) f7.o;have c7:ZJ T2 (s+1):=O2.o (s+1) (by have:=c1.o;omega) f8.o;have e6:ZA X s t k:=a6.bl t3 (by rintro (z | ⟨p,D,z⟩);omega;exact f0 p D z) (by rintro (z | ⟨p,D,z⟩);omega;exact c7 p D z);have e3:zp T2=takeM (zp T) h (zW t) 2:=by rw [E2.o];unfold takeS;rw [b9.o];rfl
 have c2:zp O=takeM (zp T) h (zW t) 2:=by rw [E3.o,e3];unfold takeS;rw [e0.o];rfl
 obtain ⟨Y,c5⟩:=ex (aput (qA (zp T) (zW t)) h (Zi (zp T) h (zW t) 2));obtain ⟨E,a7⟩:∃ E,zU O (zW t)=some (E,Y):=by
  have z:zU (zp O) (zW t)=some Y:=by rw [c2,takeM,ul,if_pos rfl,c5]
  rw [Jg] at z;cases hg:zU O (zW t) with
  | none=>rw [hg] at z;cases z
  | some q=>obtain ⟨b1,l1⟩:=q;rw [hg] at z;injection z with z;exact ⟨b1,by rw [<- z]⟩
 have f1:ZJ O (s+1):=O3.o (s+1) (by have:=c1.o;have:=t2.size;omega) c7;have g6:¬ s+1=E:=fun e=>f1 _ (ya a7) e.symm;have c8:=h3.get a7;have g5:¬ u=E:=by have:=h3.dh;omega
 have c6:zE (fun i=>i=u∨B<=i) w X:=((zE.ak a1).trans (t2.mono fun i _ hi=>a0.d7 hi)).trans (t3.mono fun i _ hi=>h2.d7 hi);have f2:∀ (W':World),W'.heap[u]?=X.heap[u]?->(Instr.lookup 220 (.map (some u)) (.agg #[.int .i64 t,.string ⟨#[]⟩,.bool true]) false).run Tryz.prog W'=.ok (.map (some E)) W':=by intro W' g4;have:=uq h3 (zW t) ⟨HN.o,vB⟩ W' g4;rw [a7] at this;exact this
 have f9:=hid (show jm w X u T O from ((jm.below a1).trans (jm.take t2 O2.o) a1.size).trans (jm.take t3 O3.o) (zz a1.size t2.size));have f6:=hid c2;obtain ⟨d5,d3,d6⟩:=zi3 c5 a7 f2;have Z:=hid e6.b;clear f0 c7 e6 e3 c2 c5 a7 f2 f1 a6 m0 m1 m2 k0 k1 k2 c3 a3 a1 t2 t3 E2 E3 O2 O3 d4 d8 d9 e7;have k0:=xV (.int .i64 t) 0 Z.o;have k1:=xV (.string ⟨#[]⟩) 1 Z.o;have k2:=xV (.bool true) 2 Z.o;have c0:=xV (.map (some u)) 0 h3.U;have g9:(Instr.lookup 220 (.map (some u)) (.agg #[.int .i64 t,.string ⟨#[]⟩,.bool true]) false).run Tryz.prog X.drew=.ok (.map (some E)) X.drew:=d6.o _ rfl;go_still_tail 7,(by kernel_rfl);clear g9;change wpList _ _ _ _ _ X.drew;refine Zd _ rfl _ _ 137 3 rfl Qo Tryz.underlying137 rfl c8.1.drew h rfl hw ?_;intro w4 h4 t4;go_frame;have a5:zE (fun i=>i=E) X w4:=((zE.refl _ _).drew).bw t4 (.inr rfl);have e5:=h3.ch d3.o a5 h4;have c4:=(a5.block (s+1) (qu.1 Z.o).1 g6).trans Z.o;have g3:zE (fun i=>i=u∨B<=i) w w4:=c6.trans (a5.mono fun i _ e=>.inr (by rw [e];exact c8.2));have g0:=hid (show jm w w4 u T (aput O (zW t) (E,adel Y h)) from f9.o.trans (jm.ch d3.o a5) c6.size);have h6:∀ n,(Instr.lookup 220 (.map (some u)) (.agg #[.int .i64 t,.string ⟨#[]⟩,.bool true]) false).run Tryz.prog (w4.drewN n)=.ok (.map (some E)) (w4.drewN n):=fun n=>d6.o _ (a5.block u h3.a8.lt g5);have h7:∀ n ty,(Builtin.len_ #[137] ty #[.map (some E)]).run Tryz.prog (w4.drewN n)=.ok (.int .i64 (adel Y h).length) (w4.drewN n):=fun n ty=>(h4.drewN n).len Tryz.underlying137 ty;clear k0 k1 k2 c0 c8 t4 h4 c6 Z;have k0:=xV (.int .i64 t) 0 c4;have k1:=xV (.string ⟨#[]⟩) 1 c4;have k2:=xV (.bool true) 2 c4;have c0:=xV (.map (some u)) 0 e5.U;have hlen:(((adel Y h).length:Int) == 0)=false:=by have:=HE.o;rw [<- d5.o] at this;have z:(adel Y h).length≠0:=fun e=>this (yd e);simp;omega
 go_wp2_with fail;go_quiet (fail);go_wp2_with fail;go_ret;have g2:qh (w4.drewN nq) B b u (aput O (zW t) (E,adel Y h)):=e5.below ⟨rfl,rfl,rfl,za _,fun _ _=>rfl⟩;refine ⟨rfl,_,g2,?_,g3.drewN nq,g0.o⟩;rw [QF,f6.o,d5.o];exact ziQ a0.gx hW (zW t) h _ H0.o HE.o
theorem zqn (B b z:Nat) (T:Tb) (u t:Int) (k:ByteArray) (hn:iok t) (hk:k.size<=maxLen) (hw:iok u) (w:World) (h:qh w B b z T) (e9:takeB (zp T) u (zW t) 2=true) (f0:takeB (takeM (zp T) u (zW t) 2) u (t,k,false) 3=false) (h0:(zU (qA (zp T) (zW t)) u).getD 0≠0) (hW:WF (zp T)) :
  zc 87 #[.pointer (some ⟨b,0,none⟩),.int .i64 u,.int .i64 t,.string k,.bool true] w fun e w' =>
   e=.returned (.bool false)/\∃ T',qh w' B b z T'/\zp T'=zp T/\zE (fun i=>i=z∨B<=i) w w'/\jm w w' z T T':=by
 have d9:b<w.heap.size:=(qu.1 h.U).1;have e8:∀ p∈T,p.2.1<w.heap.size:=fun p E=>(h.b3 p E).lt;have f9:=h.a8.lt;obtain ⟨HN,HK⟩:=zi2 hn hk;have a5:Below w.heap.size w ((w.alloc (.cells #[.int .i64 t,.string k,.bool false] 235)).alloc (.cells #[.int .i64 t,.string ⟨#[]⟩,.bool true] 235)):=((zf _ _).alloc (za _) _).alloc (by simp) _;have O:ZA ((w.alloc (.cells #[.int .i64 t,.string k,.bool false] 235)).alloc (.cells #[.int .i64 t,.string ⟨#[]⟩,.bool true] 235)) w.heap.size t k:=by refine ⟨(qb _ _ _ (by simp)).trans (heap_alloc_new w _),?_⟩;have:=heap_alloc_new (w.alloc (.cells #[.int .i64 t,.string k,.bool false] 235)) (.cells #[.int .i64 t,.string ⟨#[]⟩,.bool true] 235);rw [World.size_alloc] at this;exact this
 have a6:((w.alloc (.cells #[.int .i64 t,.string k,.bool false] 235)).alloc (.cells #[.int .i64 t,.string ⟨#[]⟩,.bool true] 235)).heap.size=w.heap.size+2:=by simp
 have d1:=hid e8;clear e8 hn hk;go_enter Tryz.func87,Tryz.ntmps87;go_wp2_with fail;generalize (w.alloc (.cells #[.int .i64 t,.string k,.bool false] 235)).alloc (.cells #[.int .i64 t,.string ⟨#[]⟩,.bool true] 235)=L at a5 O a6 ⊢;have a1:=h.below a5;obtain ⟨s,hs⟩:=ex w.heap.size;rw [<- hs] at O a6 d9 f9 ⊢;have HS:=hid hs;clear hs;have k0:=xV (.int .i64 t) 0 O.b;have k1:=xV (.string ⟨#[]⟩) 1 O.b;have k2:=xV (.bool true) 2 O.b;have d5:=xV (.map (some z)) 0 a1.U;obtain ⟨o,ho⟩:=ex ((zU T (zW t)).map fun q=>q.1);obtain ⟨b9,hO⟩:=ex ((zU (qA (zp T) (zW t)) u).getD 0);have g0:∀ n,(Instr.lookup 220 (.map (some z)) (.agg #[.int .i64 t,.string ⟨#[]⟩,.bool true]) false).run Tryz.prog (L.drewN n)=.ok (.map o) (L.drewN n):=by intro n;rw [ho];exact uq a1 (zW t) ⟨HN.o,vB⟩ _ rfl
 have g3:∀ n,(Instr.lookup 137 (.map o) (.int .i64 u) false).run Tryz.prog (L.drewN n)=.ok (.int .i64 b9) (L.drewN n):=by intro n;rw [ho,hO];exact QE a1 (zW t) u hw _ rfl
 have HO:=hid hO;clear ho hO;go_quiet (fail);have c1:qh (L.drewN nq) B b z T:=a1.below ⟨rfl,rfl,rfl,za _,fun _ _=>rfl⟩;have a0:ZA (L.drewN nq) s t k:=⟨O.a,O.b⟩;have c7:(L.drewN nq).heap.size=s+2:=a6;have Z:Below w.heap.size w (L.drewN nq):=a5.trans ⟨rfl,rfl,rfl,za _,fun _ _=>rfl⟩;clear k0 k1 k2 d5 g0 g3 a1 O a6 a5;generalize L.drewN nq=W1 at c1 a0 c7 Z ⊢;have k0:=xV (.int .i64 t) 0 a0.b;have k1:=xV (.string ⟨#[]⟩) 1 a0.b;have k2:=xV (.bool true) 2 a0.b;have a9:=hid c7;clear c7;have e0:zc 130 #[.pointer (some ⟨b,0,none⟩),.int .i64 u,.agg #[.int .i64 t,.string ⟨#[]⟩,.bool true],.int .i64 2] W1 _:=QM B b z T u 2 (zW t) ⟨HN.o,vB⟩ hw W1 c1;have d0:=hid e0;clear e0;have g4:(b9 == 0)=false:=by rw [HO.o];simpa using h0
 have H0:=hid h0;clear h0;obtain ⟨a8,d4⟩:=zi2 e9 f0;clear e9 f0;have c5:ZJ T s:=fun p E=>by have:=d1.o p E;have:=HS.o;omega
 have c6:ZJ T (s+1):=fun p E=>by have:=d1.o p E;have:=HS.o;omega
 obtain ⟨f2,f3⟩:=zi2 c5 c6;have n0:¬ uj z T s:=by rintro (D | ⟨p,E,D⟩);omega;exact c5 p E D
 have n1:¬ uj z T (s+1):=by rintro (D | ⟨p,E,D⟩);omega;exact c6 p E D
 obtain ⟨d2,d3⟩:=zi2 n0 n1;clear c5 c6 n0 n1;go_wp2_with (first|((with_reducible refine aV 130 d0.o ?_);rintro e R ⟨rfl,T2,h2,e2,t2,o2⟩;rw [a8.o];have a3:=a0.bl t2 d2.o d3.o;have m0:R.cell? ⟨s,0,none⟩=some (.int .i64 t):=ze R s 0 _ _ _ a3.a;have m1:R.cell? ⟨s,1,none⟩=some (.string k):=ze R s 1 _ _ _ a3.a;have m2:R.cell? ⟨s,2,none⟩=some (.bool false):=ze R s 2 _ _ _ a3.a;have E2:=hid e2;have O2:=hid o2;clear e2 o2)|(go_at_call 130;have e1:zc 130 #[.pointer (some ⟨b,0,none⟩),.int .i64 u,.agg #[.int .i64 t,.string k,.bool false],.int .i64 3] R _:=QM B b z T2 u 3 (t,k,false) ⟨HN.o,HK.o⟩ hw R h2;refine e1.mono ?_;clear e1;rintro e U ⟨rfl,Y,h3,e3,t3,o3⟩;have E3:=hid e3;have O3:=hid o3;clear e3 o3;rw [E2.o,show takeS (zp T) u (zW t) 2=takeM (zp T) u (zW t) 2 from by (unfold takeS;rw [a8.o];rfl),d4.o]));have e4:ZJ T2 s:=O2.o s (by have:=a9.o;omega) f2.o;have c4:ZJ T2 (s+1):=O2.o (s+1) (by have:=a9.o;omega) f3.o;have d8:ZA U s t k:=a3.bl t3 (by rintro (D | ⟨p,E,D⟩);omega;exact e4 p E D) (by rintro (D | ⟨p,E,D⟩);omega;exact c4 p E D);have d6:zp T2=takeM (zp T) u (zW t) 2:=by rw [E2.o];unfold takeS;rw [a8.o];rfl
 have c0:zp Y=takeM (zp T) u (zW t) 2:=by rw [E3.o,d6];unfold takeS;rw [d4.o];rfl
 obtain ⟨L1,c2⟩:=ex (aput (qA (zp T) (zW t)) u (Zi (zp T) u (zW t) 2));obtain ⟨X,a4⟩:∃ X,zU Y (zW t)=some (X,L1):=by
  have D:zU (zp Y) (zW t)=some L1:=by rw [c0,takeM,ul,if_pos rfl,c2]
  rw [Jg] at D;cases hg:zU Y (zW t) with
  | none=>rw [hg] at D;cases D
  | some q=>obtain ⟨b1,l1⟩:=q;rw [hg] at D;injection D with D;exact ⟨b1,by rw [<- D]⟩
 have e5:ZJ Y (s+1):=O3.o (s+1) (by have:=a9.o;have:=t2.size;omega) c4;have g6:¬ s+1=X:=fun e=>e5 _ (ya a4) e.symm;have e6:=h3.get a4;have g5:¬ z=X:=by have:=h3.dh;omega
 have d7:zE (fun i=>i=z∨B<=i) w U:=((zE.ak Z).trans (t2.mono fun i _ hi=>h.d7 hi)).trans (t3.mono fun i _ hi=>h2.d7 hi);have e7:∀ (W':World),W'.heap[z]?=U.heap[z]?->(Instr.lookup 220 (.map (some z)) (.agg #[.int .i64 t,.string ⟨#[]⟩,.bool true]) false).run Tryz.prog W'=.ok (.map (some X)) W':=by intro W' f8;have:=uq h3 (zW t) ⟨HN.o,vB⟩ W' f8;rw [a4] at this;exact this
 have f6:=hid (show jm w U z T Y from ((jm.below Z).trans (jm.take t2 O2.o) Z.size).trans (jm.take t3 O3.o) (zz Z.size t2.size));have f1:=hid c0;obtain ⟨f4,c8,f5⟩:=zi3 c2 a4 e7;have a7:=hid d8.b;clear e4 c4 d8 d6 c0 c2 a4 e7 e5 a3 m0 m1 m2 k0 k1 k2 c1 a0 Z t2 t3 E2 E3 O2 O3 d0 d2 d3 d9;have k0:=xV (.int .i64 t) 0 a7.o;have k1:=xV (.string ⟨#[]⟩) 1 a7.o;have k2:=xV (.bool true) 2 a7.o;have d5:=xV (.map (some z)) 0 h3.U;have g2:(Instr.lookup 220 (.map (some z)) (.agg #[.int .i64 t,.string ⟨#[]⟩,.bool true]) false).run Tryz.prog U.drew=.ok (.map (some X)) U.drew:=f5.o _ rfl;go_still_tail 8,(by kernel_rfl);clear g2;change wpList _ _ _ _ _ U.drew;refine Ze _ rfl _ _ _ 137 3 rfl Qo Tryz.underlying137 rfl e6.1.drew u rfl hw b9 rfl ?_;intro w4 h4 t4;go_frame;go_wp2_with fail;go_ret;have c3:zE (fun i=>i=X) U w4:=((zE.refl _ _).drew).bw t4 (.inr rfl);have f7:=h3.ch c8.o c3 h4;refine ⟨rfl,_,f7,?_,d7.trans (c3.mono fun i _ e=>.inr (by rw [e];exact e6.2)),f6.o.trans (jm.ch c8.o c3) d7.size⟩;rw [QF,f1.o,f4.o,HO.o];exact zhO h.gx hW (zW t) u _ H0.o
theorem zrc (B b z:Nat) (T:Tb) (h t:Int) (k:ByteArray) (Z:iok t) (Y:k.size<=maxLen) (hw:iok h) (w:World) (X:qh w B b z T) (hW:WF (zp T)) :
  zc 87 #[.pointer (some ⟨b,0,none⟩),.int .i64 h,.int .i64 t,.string k,.bool true] w fun e w' =>
   e=.returned (.bool (keyB (zp T) h t k))/\∃ u,qh w' B b z u/\zp u=keyS (zp T) h t k/\zE (fun i=>i=z∨B<=i) w w'/\jm w w' z T u:=by
 cases O:takeB (zp T) h (zW t) 2 with
 | false =>
  have L:keyB (zp T) h t k=false:=by unfold keyB;rw [O];rfl
  have U:keyS (zp T) h t k=zp T:=by unfold keyS;rw [L];rfl
  rw [L,U];refine (zqj B b z T h t k Z Y hw w X O).mono ?_;rintro e w' ⟨rfl,u,E,D,t',k'⟩;exact ⟨rfl,u,E,D,t',k'⟩
 | true =>
  cases R:takeB (takeM (zp T) h (zW t) 2) h (t,k,false) 3 with
  | true =>
   have L:keyB (zp T) h t k=true:=by unfold keyB;rw [O,R];rfl
   have U:keyS (zp T) h t k=takeM (takeM (zp T) h (zW t) 2) h (t,k,false) 3:=by unfold keyS;rw [L];rfl
   rw [L,U];refine (zqk B b z T h t k Z Y hw w X O R).mono ?_;rintro e w' ⟨rfl,u,E,D,t',k'⟩;exact ⟨rfl,u,E,D,t',k'⟩
  | false =>
   have L:keyB (zp T) h t k=false:=by unfold keyB;rw [O,R];rfl
   have U:keyS (zp T) h t k=zp T:=by unfold keyS;rw [L];rfl
   rw [L,U];by_cases h0:(zU (qA (zp T) (zW t)) h).getD 0=0
   ·by_cases he:adel (aput (qA (zp T) (zW t)) h (Zi (zp T) h (zW t) 2)) h=[]
    ·refine (zql B b z T h t k Z Y hw w X O R h0 hW he).mono ?_;rintro e w' ⟨rfl,u,E,D,t',k'⟩;exact ⟨rfl,u,E,D,t',k'⟩
    ·refine (zqm B b z T h t k Z Y hw w X O R h0 hW he).mono ?_;rintro e w' ⟨rfl,u,E,D,t',k'⟩;exact ⟨rfl,u,E,D,t',k'⟩
   ·refine (zqn B b z T h t k Z Y hw w X O R h0 hW).mono ?_;rintro e w' ⟨rfl,u,E,D,t',k'⟩;exact ⟨rfl,u,E,D,t',k'⟩
def vE (h:Int) (L:Nm->Bool) (T:Tb):Tb:=(T.map fun p=>if L p.1=true then p else (p.1,(p.2.1,adel p.2.2 h))).filter fun p=>L p.1 || !p.2.2.isEmpty
theorem znQ (h:Int) (L:Nm->Bool) (p:Nm × (Nat × yC)):(if L p.1=true then p else (p.1,(p.2.1,adel p.2.2 h))).1=p.1:=by split<;>rfl
theorem ZM (u:Int) (L:Nm->Bool) (p:Nm × (Nat × yC)) (T:Tb):vE u L (p::T)=(if L p.1=true then [p] else if (adel p.2.2 u).isEmpty=true then [] else [(p.1,(p.2.1,adel p.2.2 u))])++vE u L T:=by
 unfold vE;rw [List.map_cons,List.filter_cons];by_cases h:L p.1=true
 ·simp [h]
 ·have z:L p.1=false:=by simpa using h
  by_cases D:(adel p.2.2 u).isEmpty=true
  ·simp [z,D]
  ·simp [z,D]
theorem znP (D:Int) (T:Tb) (L:Nm->Bool) (h:∀ p∈T,L p.1=true):vE D L T=T:=by
 induction T with
 | nil=>rfl
 | cons p T z=>rw [ZM,if_pos (h p (by simp)),z (fun q u=>h q (jh _ u))];rfl
theorem zaL (z:Int) (T:Tb) (L u:Nm->Bool) (h:∀ p∈T,L p.1=u p.1):vE z L T=vE z u T:=by
 induction T with
 | nil=>rfl
 | cons p T E=>rw [ZM,ZM,h p (by simp),E (fun q D=>h q (jh _ D))]
theorem zmh (h:Int) (T:Tb):zp (vE h (fun _=>false) T)=dropM (zp T) h:=by unfold zp dropM vE;rw [List.map_map,List.filter_map,List.filter_map,List.map_map];rfl
theorem zhJ (D:Int) (T:Tb) (L:Nm->Bool) (n:Nm) (h:qT T n=false):qT (vE D L T) n=false:=by rw [vu] at h ⊢;intro p u;unfold vE at u;obtain ⟨q,z,rfl⟩:=List.mem_map.1 (List.mem_filter.1 u).1;rw [znQ];exact h q z
theorem zhI (u:Int) {T:Tb} (z:yM T) (L:Nm->Bool) {n:Nm} {v:Nat × yC} (h:zU T n=some v) (D:L n=true):zU (vE u L T) n=some v:=by
 induction T with
 | nil=>cases h
 | cons p T ih =>
  rw [yr] at h;rw [ZM,zcK];by_cases e:p.1=n
  ·rw [if_pos e] at h;rw [e,if_pos D,JE,decide_eq_true e,yr,if_pos e];simpa using h
  ·rw [if_neg e] at h;have E:qT (if L p.1=true then [p] else if (adel p.2.2 u).isEmpty=true then [] else [(p.1,(p.2.1,adel p.2.2 u))]) n=false:=by
    split
    ·rw [JE,decide_eq_false e];rfl
    ·split
     ·rfl
     ·rw [JE,decide_eq_false e];rfl
   rw [E];simp only [Bool.false_eq_true,if_false];exact ih (List.pairwise_cons.1 z).2 h
theorem zfX (h:Int) {T:Tb} (X:yM T) (L:Nm->Bool) {n:Nm} {E:Nat} {l:yC} (D:zU T n=some (E,l)) (O:L n=true) :
  (if (adel l h).isEmpty=true then adel (aput (vE h L T) n (E,adel l h)) n else aput (vE h L T) n (E,adel l h))=vE h (fun x=>L x && !decide (x=n)) T:=by
 have Z:=zhI h X L D O;have hh:qT (vE h L T) n=true:=by rw [yF,Z];rfl
 rw [YK];have U:aput (vE h L T) n (E,adel l h)=(vE h L T).map fun p=>if p.1=n then (n,(E,adel l h)) else p:=by unfold aput;rw [if_pos hh]
 rw [U];clear hh Z U;induction T with
 | nil=>cases D
 | cons p T ih =>
  obtain ⟨a7,a4⟩:=List.pairwise_cons.1 X;rw [yr] at D;by_cases e:p.1=n
  ·rw [if_pos e] at D;injection D with D;have a0:∀ q∈T,q.1≠n:=fun q u e2=>a7 q u (by rw [e,e2]);have a8:vE h (fun x=>L x && !decide (x=n)) T=vE h L T:=zaL h T _ _ fun q u=>by simp [a0 q u]
   have a1:∀ q∈vE h L T,q.1≠n:=fun q u=>vu.1 (zhJ h T L n (vu.2 a0)) q u;have a6:(vE h L T).map (fun p=>if p.1=n then (n,(E,adel l h)) else p)=vE h L T:=by
    conv=>rhs;rw [<- List.map_id (vE h L T)]
    refine List.map_congr_left fun q u=>?_;rw [if_neg (a1 q u)];rfl
   have Y:adel (vE h L T) n=vE h L T:=vY (vu.2 a1);rw [ZM,ZM,a8,e,if_pos O];simp only [O,decide_true,Bool.not_true,Bool.and_false,Bool.false_eq_true,if_false,D];by_cases z:(adel l h).isEmpty=true
   ·rw [if_pos z,if_pos z];unfold adel at Y ⊢;rw [List.filter_append,Y];simp [e]
   ·rw [if_neg z,if_neg z,List.map_append,a6];simp [e]
  ·rw [if_neg e] at D;have a9:=ih a4 D;rw [ZM,ZM,<- a9];have a5:(L p.1 && !decide (p.1=n))=L p.1:=by simp [e]
   rw [a5];have R:∀ q∈(if L p.1=true then [p] else if (adel p.2.2 h).isEmpty=true then [] else [(p.1,(p.2.1,adel p.2.2 h))]),q.1≠n:=by
    intro q u;split at u
    ·simp at u;rw [u];exact e
    ·split at u
     ·cases u
     ·simp at u;rw [u];exact e
   by_cases z:(adel l h).isEmpty=true
   ·rw [if_pos z,if_pos z];unfold adel;rw [List.filter_append];congr 1;rw [List.filter_eq_self];intro q u;simp [R q u]
   ·rw [if_neg z,if_neg z,List.map_append];congr 1;generalize (if L p.1=true then [p] else if (adel p.2.2 h).isEmpty=true then [] else [(p.1,(p.2.1,adel p.2.2 h))])=a3 at R
    conv=>rhs;rw [<- List.map_id a3]
    refine List.map_congr_left fun q u=>?_;rw [if_neg (R q u)];rfl
def vp (T:Tb):List (Nm × Option Nat):=T.map fun p=>(p.1,(fun q:Nat × yC=>some q.1) p.2)
theorem ziF (T:Tb) (n:Nm):zU (vp T) n=(zU T n).map fun q=>some q.1:=ZP (fun q:Nat × yC=>some q.1) T n
theorem zej (z:Int) (L:Nm->Bool) (T:Tb):∀ p∈vE z L T,∃ q∈T,q.2.1=p.2.1:=by intro p h;unfold vE at h;obtain ⟨q,u,rfl⟩:=List.mem_map.1 (List.mem_filter.1 h).1;refine ⟨q,u,?_⟩;split<;>rfl
theorem zbU {T:Tb} (u:yM T) {n:Nm} {h:Nat} {l l':yC} (z:zU T n=some (h,l)):vp (aput T n (h,l'))=vp T:=by
 unfold vp;rw [<- zdg (fun q:Nat × yC=>some q.1)];refine Gf ?_ ?_
 ·unfold yM at u ⊢;rw [List.pairwise_map];exact u
 ·rw [ZP (fun q:Nat × yC=>some q.1),z];rfl
def zpU {K V:Type} [DecidableEq K] (P:Program) (f:K->Value) (D:K->Prop) (g:V->Value) (b r:Nat) (l u:List (K × V)) (w:World) (h z:Value) (w':World):Prop :=
 ∃ p∈u,h=f p.1/\z=g p.2/\yq w' f D g b r l (adel u p.1)/\zE (fun i=>i=r) w w'/\w'.heap.size=w.heap.size/\(Instr.entry (.pointer (some ⟨r,0,none⟩))).run P w'=.ok (.tuple #[h,z]) w'
theorem zfu {P:Program} {K V:Type} [DecidableEq K] {f:K->Value} {E:K->Prop} {g:V->Value} (w:World) {b r:Nat} {l z:List (K × V)} {ops:Array Oper} {rest:List Oper} {o:Oper} {a:Act} {Q:Exit->Act->World->Prop}
  (hw:Region.wanted o (yielded ops a.tmps)=true) (u:Operand) (a3:o.op=Op.next u false) (a0:∀ x y,f x=f y->x=y) (a1:a.eval u=.pointer (some ⟨r,0,none⟩)) (h:yq w f E g b r l z)
  (Y:z=[]->wpList P ops Q rest (a.put o.dst (.tuple #[.bool false])) w)
  (Z:∀ (D L:Value) (w':World),zpU P f E g b r l z w D L w'->wpList P ops Q rest (a.put o.dst (.tuple #[.bool true,D,L])) w'):wpList P ops Q (o::rest) a w :=
 zaq w hw u a3 a0 a1 h Y fun p hp _ O R U X=>Z _ _ _ ⟨p,hp,rfl,rfl,O,R,U,X⟩
theorem zqc (B b L:Nat) (T:Tb) (E:Int) (hw:iok E) (w:World) (h:qh w B b L T) :
  zc 96 #[.pointer (some ⟨b,0,none⟩),.int .i64 E] w fun e w' =>
   e=.returned (.tuple #[])/\∃ T',qh w' B b L T'/\zp T'=dropM (zp T) E/\zE (fun i=>uj L T i∨w.heap.size<=i) w w'/\∀ i,ZJ T i->ZJ T' i:=by
 have d7:=xV (.map (some L)) 0 h.U;have hm:=h.a8;have g0:=h.size;have d5:=hid (show ∀ p∈T,p.2.1<w.heap.size from fun p U=>(h.b3 p U).lt);have f1:=hm.lt;have HA:=hid h.ea;go_enter Tryz.func96,Tryz.ntmps96;go_wp2_with (first|(at_range;refine GA _ rfl _ 220 137 rfl Tryz.underlying220 rfl hm ?_;intro w1 d0 t1 s1));try go_frame
 have h1:qh w1 B b L T:=h.below (t1.below (za _) (fun _ _ h=>h));have e7:zE (fun i=>uj L T i∨w.heap.size<=i) w w1:=t1.mono fun i _ h=>h.elim;obtain ⟨r,hr⟩:=ex w.heap.size;rw [<- hr] at d0 d5 g0 f1 ⊢;have a4:T=vE E (fun x=>qT (vp T) x) T:=(znP E T (fun x=>qT (vp T) x) fun p U=>YL.2 ⟨_,List.mem_map.2 ⟨p,U,rfl⟩,rfl⟩).symm;obtain ⟨HS,HH,HR⟩:=zi3 s1 h hr;clear s1 t1 d7 hm h hr;go_loopw [13] (fun _ wr=>∃ R O,qh wr B b L O/\yq wr Zb KQ KT L r (vp O) R/\O=vE E (fun x=>qT R x) T/\zE (fun i=>uj L T i∨w.heap.size<=i) w wr) (fun _ wr=>wr.rangeLeft L r)
 case atStart=>exact ⟨vp T,T,h1,d0,a4,e7⟩
 case round =>
  clear h1 d0 e7 a4;obtain ⟨R,O,Y,a5,a4,d2⟩:=hrel;have HP:=hid a4;clear a4;go_wp2_with (first|(at_next;refine zfu _ rfl _ rfl GK.inj rfl a5 ?_ ?_))
  ·intro f3;go_wp2;go_end0;refine ⟨rfl,O,Y,?_,d2,fun i ho p U e=>by
    rw [HP.o] at U;obtain ⟨q,hq,e2⟩:=zej E _ T p U;exact ho q hq (e2.trans e)⟩
   rw [HP.o,f3];exact zmh E T
  ·intro kv vv w4 f9;obtain ⟨⟨n,o⟩,U,rfl,rfl,e6,t4,s4,c6⟩:=f9;have a3:zU (vp O) n=some o:=Jt Y.a8.apart (a5.sub.subset U);have e5:KQ n:=Y.a8.iz _ (a5.sub.subset U);obtain ⟨X,l,Z,rfl⟩:∃ X l,zU O n=some (X,l)/\o=some X:=by
    rw [ziF] at a3;cases Z:zU O n with
    | none=>rw [Z] at a3;cases a3
    | some q=>obtain ⟨b1,l1⟩:=q;rw [Z] at a3;injection a3 with a3;exact ⟨b1,l1,rfl,a3.symm⟩
   have e4:zU T n=some (X,l):=by
    have hL:qT R n=true:=YL.2 ⟨_,U,rfl⟩;cases e1:zU T n with
    | none =>have:=zhJ E T (fun x=>qT R x) n (by rw [yF,e1];rfl);rw [<- HP.o,yF,Z] at this;cases this
    | some v =>have:=zhI E HA.o (fun x=>qT R x) e1 hL;rw [<- HP.o,Z] at this;exact this.symm
   have c7:ZJ O r:=by intro p U e;rw [HP.o] at U;obtain ⟨q,hq,e2⟩:=zej E _ T p U;have:=d5.o q hq;omega
   have d9:¬ X=r:=c7 _ (ya Z);have f7:¬ b=r:=by have:=Y.ek;omega
   have f8:¬ L=r:=by omega
   have c3:qh w4 B b L O:=⟨(t4.block b (qu.1 Y.U).1 f7).trans Y.U,Y.a8.bl t4 f8,fun p U=>(Y.b3 p U).bl t4 (c7 p U),Y.base,Y.apart,Y.dh,Y.ek,zz Y.size t4.size⟩;have e8:zE (fun i=>uj L T i∨w.heap.size<=i) w w4:=d2.trans (t4.mono fun i _ e=>.inr (by rw [e,HR.o];exact za _));obtain ⟨z,u,D⟩:=n;unfold Zb KT at c6 ⊢;simp only at c6 ⊢;have a7:Below w4.heap.size w4 (w4.alloc (.cells #[.int .i64 z,.string u,.bool D] 235)):=(zf _ _).alloc (za _) _;have a1:=c3.below a7;have d1:yq (w4.alloc (.cells #[.int .i64 z,.string u,.bool D] 235)) Zb KQ KT L r (vp O) (adel R (z,u,D)):=e6.bl (zE.ak (S:=fun _=>False) a7) (fun h=>h) (fun h=>h);have c5:(w4.alloc (.cells #[.int .i64 z,.string u,.bool D] 235)).heap[w4.heap.size]?=some (.cells #[.int .i64 z,.string u,.bool D] 235 (0,0)):=heap_alloc_new w4 _;have e3:(adel R (z,u,D)).length<R.length:=zae U;have e0:¬ w4.heap.size=X:=by have:=(c3.get Z).1.lt;omega
   have d3:zE (fun i=>uj L T i∨w.heap.size<=i) w (w4.alloc (.cells #[.int .i64 z,.string u,.bool D] 235)):=e8.trans (zE.ak a7);have HM:=hid (show wr.rangeLeft L r=R.length from a5.cs);obtain ⟨HG,HT,e9⟩:=zi3 Z e4 e5;have d6:=hid (show qT R (z,u,D)=true from YL.2 ⟨_,U,rfl⟩);have b9:=a1.get Z;have HB:=hid e0;clear U e6 t4 s4 a3 e5 Z e4 c7 Y a5 c3 e8 d2 a7 e0;go_wp2_with (first|(at_delete;refine Zd _ rfl _ _ 137 3 rfl Qo Tryz.underlying137 rfl b9.1 E rfl hw ?_;intro w6 h6 t6)|(at_len;refine Kk _ rfl _ 137 3 rfl Tryz.underlying137 rfl h6 ?_))
   ·have a9:(adel l E).isEmpty=true:=by
     have h0:(((adel l E).length:Int) == 0)=true:=by assumption
     have h1:(adel l E).length=0:=by simpa using h0
     rw [yd h1];rfl
    have a0:=zeb t6;have a6:=a1.ch HG.o a0 h6;have c0:vp (aput O (z,u,D) (X,adel l E))=vp O:=zbU a1.ea HG.o;have c4:¬ L=X:=by have:=a1.dh;have:=b9.2;omega
    have c1:yq w6 Zb KQ KT L r (vp (aput O (z,u,D) (X,adel l E))) (adel R (z,u,D)):=by rw [c0];exact d1.bl a0 c4 (fun e=>d9 e.symm)
    have d4:zE (fun i=>uj L T i∨w.heap.size<=i) w w6:=d3.trans (a0.mono fun i _ e=>.inl (.inr ⟨_,ya HT.o,e.symm⟩));have a8:=(a0.block w4.heap.size (qu.1 c5).1 HB.o).trans c5;have HE:=hid a9;clear a0 c0 d1 c5 d3 b9 a1 h6 t6 a9 c6;obtain ⟨c,hc⟩:=ex w4.heap.size;rw [<- hc] at a8 ⊢;clear hc;have k0:=xV (.int .i64 z) 0 a8;have k1:=xV (.string u) 1 a8;have k2:=xV (.bool D) 2 a8;have d7:=xV (.map (some L)) 0 a6.U;go_still_tail 5,(by kernel_rfl);change wpList _ _ _ _ _ w6.drew;refine zcH _ rfl _ _ 220 137 rfl GK Tryz.underlying220 rfl (c1.bl ((zE.refl (fun _=>False) w6).drew) (fun h=>h) (fun h=>h)) (z,u,D) rfl e9.o ?_;intro w8 c2 t8;try go_frame
    go_wp2;have d8:zE (fun i=>i=L) w6 w8:=((zE.refl _ _).drew).bw t8 (.inr rfl);have f0:=a6.drop (z,u,D) d8 c2.map;have f2:adel (adel R (z,u,D)) (z,u,D)=adel R (z,u,D):=vY (by rw [zbu];simp);have f6:adel (vp (aput O (z,u,D) (X,adel l E))) (z,u,D)=vp (adel (aput O (z,u,D) (X,adel l E)) (z,u,D)):=zdf (fun q:Nat × yC=>some q.1) _ _;rw [f2,f6] at c2;have c8:adel (aput O (z,u,D) (X,adel l E)) (z,u,D)=vE E (fun x=>qT (adel R (z,u,D)) x) T:=by have:=zfX E HA.o (fun x=>qT R x) HT.o d6.o;rw [if_pos HE.o,<- HP.o] at this;rw [this];exact zaL E T _ _ fun p _=>by rw [zbu,Bool.and_comm]
    have f5:=c2.cs;go_roundw
    case rel=>exact ⟨adel R (z,u,D),_,f0,c2,c8,d4.trans (d8.mono fun i _ e=>.inl (.inl e))⟩
    case measure=>rw [f5,HM.o];exact e3
   ·have a9:¬ (adel l E).isEmpty=true:=by
     have h0:(((adel l E).length:Int) == 0)=false:=by assumption
     intro h1;rw [List.isEmpty_iff.1 h1] at h0;cases h0
    have a0:=zeb t6;have a6:=a1.ch HG.o a0 h6;have c0:vp (aput O (z,u,D) (X,adel l E))=vp O:=zbU a1.ea HG.o;have c4:¬ L=X:=by have:=a1.dh;have:=b9.2;omega
    have c1:yq w6 Zb KQ KT L r (vp (aput O (z,u,D) (X,adel l E))) (adel R (z,u,D)):=by rw [c0];exact d1.bl a0 c4 (fun e=>d9 e.symm)
    have d4:zE (fun i=>uj L T i∨w.heap.size<=i) w w6:=d3.trans (a0.mono fun i _ e=>.inl (.inr ⟨_,ya HT.o,e.symm⟩));have c8:aput O (z,u,D) (X,adel l E)=vE E (fun x=>qT (adel R (z,u,D)) x) T:=by have:=zfX E HA.o (fun x=>qT R x) HT.o d6.o;rw [if_neg a9,<- HP.o] at this;rw [this];exact zaL E T _ _ fun p _=>by rw [zbu,Bool.and_comm]
    have f4:=c1.cs;go_roundw
    case rel=>exact ⟨adel R (z,u,D),_,a6,c1,c8,d4⟩
    case measure=>rw [f4,HM.o];exact e3
def hm (M:Lk) (n:Nm) (o:Int):Int:=(zU (qA M n) o).getD 0
theorem zjb {a b:Int} (hb:b≠0):uZ a b≠0:=by
 unfold uZ;by_cases h:a=0∨a=b
 ·rw [if_pos h];exact hb
 ·rw [if_neg h,if_neg hb];decide
theorem zom (M:Lk) (u:Int) (n:Nm) (h:Int):Zi M u n h=uZ (hm M n u) h:=rfl
theorem WF.takeM {M:Lk} (h:WF M) (z:Int) (n:Nm) {E:Int} (L:E≠0):WF (takeM M z n E):=by
 obtain ⟨R,O,_⟩:=h.dz n;have key:aput (qA M n) z (Zi M z n E)≠[]/\yM (aput (qA M n) z (Zi M z n E))/\∀ q∈aput (qA M n) z (Zi M z n E),q.2≠0:=by
  refine ⟨?_,R.aput _ _,?_⟩
  ·intro e;have:qT (aput (qA M n) z (Zi M z n E)) z=true:=by rw [zfz];simp
   rw [e] at this;cases this
  ·intro q u;unfold aput at u;split at u
   ·obtain ⟨X,U,rfl⟩:=List.mem_map.1 u;by_cases e:X.1=z
    ·rw [if_pos e];exact zjb L
    ·rw [if_neg e];exact O _ U
   ·rcases ja.1 u with u | u
    ·exact O _ u
    ·simp at u;rw [u];exact zjb L
 intro p D;unfold Go.Proofs.YtechnoogjhohfaaGreat.takeM aput at D;split at D
 ·obtain ⟨q,u,rfl⟩:=List.mem_map.1 D;by_cases e:q.1=n
  ·rw [if_pos e];exact key
  ·rw [if_neg e];exact h _ u
 ·rcases ja.1 D with D | D
  ·exact h _ D
  ·simp at D;rw [D];exact key
theorem WF.dropM {M:Lk} (h:WF M) (O:Int):WF (dropM M O):=by intro p D;obtain ⟨E,u⟩:=List.mem_filter.1 D;obtain ⟨q,z,rfl⟩:=List.mem_map.1 E;refine ⟨fun e=>?_,(h q z).2.1.adel _,fun r L=>(h q z).2.2 r (List.filter_sublist.subset L)⟩;simp only at e;rw [e] at u;cases u
theorem zjQ {M:Lk} (h:WF M) {n:Nm} {o v:Int}:(o,v)∈qA M n↔hm M n o=v/\v≠0:=by
 obtain ⟨O,U,_⟩:=h.dz n;constructor
 ·intro D;refine ⟨?_,U _ D⟩;have:=Jt O D;have e:hm M n o=(zU (qA M n) o).getD 0:=rfl;rw [e,this];rfl
 ·rintro ⟨e,R⟩;have E:hm M n o=(zU (qA M n) o).getD 0:=rfl;rw [E] at e;cases z:zU (qA M n) o with
  | none=>rw [z] at e;exact absurd e.symm R
  | some u=>rw [z] at e;have L:u=v:=e;rw [<- L];exact ya z
theorem zmH {M:Lk} (h:WF M) (u:Int) (n:Nm) (z:Int):takeB M u n z=true↔∀ o,o≠u->hm M n o≠0->JS (uZ (hm M n u) z) (hm M n o)=true:=by
 have e:takeB M u n z=!YM (qA M n) u (Zi M u n z):=rfl;rw [e,Bool.not_eq_true',<- Bool.not_eq_true,zax,zom];constructor
 ·intro hb o E U;cases D:JS (uZ (hm M n u) z) (hm M n o) with
  | true=>rfl
  | false=>exact absurd ⟨(o,hm M n o),(zjQ h).2 ⟨rfl,U⟩,E,D⟩ hb
 ·rintro R ⟨⟨o,v⟩,X,E,D⟩;obtain ⟨L,O⟩:=(zjQ h).1 X;have:=R o E (by rw [L];exact O);rw [L] at this;simp only at D;rw [D] at this;cases this
theorem WF.takeS {M:Lk} (h:WF M) (z:Int) (n:Nm) {u:Int} (D:u≠0):WF (takeS M z n u):=by
 unfold Go.Proofs.YtechnoogjhohfaaGreat.takeS;split
 ·exact h.takeM z n D
 ·exact h
theorem WF.keyS {M:Lk} (h:WF M) (u t:Int) (k:ByteArray):WF (keyS M u t k):=by
 unfold Go.Proofs.YtechnoogjhohfaaGreat.keyS;split
 ·exact (h.takeM u _ (by decide)).takeM u _ (by decide)
 ·exact h
end Go.Proofs.YtechnoogjhohfaaGreat
