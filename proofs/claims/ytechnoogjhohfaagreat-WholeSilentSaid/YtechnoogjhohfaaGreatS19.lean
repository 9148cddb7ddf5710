import Derived.Test.YtechnoogjhohfaaGreatS18
import Derived.Test.YtechnoogjhohfaaGreatS8
set_option maxRecDepth 100000
set_option maxHeartbeats 6400000
set_option linter.unusedVariables false
set_option linter.unusedSimpArgs false
namespace Go.Proofs.YtechnoogjhohfaaGreat
open Go.RowKit Go.Maps
theorem zax (h:yC) (D z:Int):YM h D z=true↔∃ p∈h,p.1≠D/\JS z p.2=false:=by
 unfold YM;rw [List.any_eq_true];constructor
 ·rintro ⟨p,u,hb⟩;simp at hb;exact ⟨p,u,hb.1,hb.2⟩
 ·rintro ⟨p,u,E,L⟩;exact ⟨p,u,by simp [E,L]⟩
theorem zmJ (B b z:Nat) (T:Tb) (R c4:Int) (n:Nm) (D:Nat) (l:yC) (hg:zU T n=some (D,l)) (hn:KQ n) (hw:iok R) (w:World) (h:qh w B b z T) :
  zc 130 #[.pointer (some ⟨b,0,none⟩),.int .i64 R,Zb n,.int .i64 c4] w fun e w' =>
   (YM l R (uZ ((zU l R).getD 0) c4)=true/\e=.returned (.bool false)/\Below w.heap.size w w') ∨
   (YM l R (uZ ((zU l R).getD 0) c4)=false/\e=.returned (.bool true)/\qh w' B b z (aput T n (D,aput l R (uZ ((zU l R).getD 0) c4)))/\zE (fun i=>i=D) w w'):=by
 obtain ⟨a0,d3⟩:∃ a0,uZ ((zU l R).getD 0) c4=a0:=⟨_,rfl⟩;rw [d3];obtain ⟨L,E,O⟩:=n;have a3:(w.alloc (.cells #[.int .i64 L,.string E,.bool O] 235)).heap[w.heap.size]?=some (.cells #[.int .i64 L,.string E,.bool O] 235 (0,0)):=heap_alloc_new w _;have c6:Below w.heap.size w (w.alloc (.cells #[.int .i64 L,.string E,.bool O] 235)):=(zf _ _).alloc (za _) _;have hA:=h.below c6;have d2:(w.alloc (.cells #[.int .i64 L,.string E,.bool O] 235)).heap.size=w.heap.size+1:=by simp
 unfold Zb;go_enter Tryz.func130,Tryz.ntmps130;go_wp2_with fail;generalize w.alloc (.cells #[.int .i64 L,.string E,.bool O] 235)=W at a3 c6 hA d2 ⊢;obtain ⟨s,hs⟩:=ex w.heap.size;rw [<- hs] at a3 d2 ⊢;have k0:=xV (.int .i64 L) 0 a3;have k1:=xV (.string E) 1 a3;have k2:=xV (.bool O) 2 a3;have c0:=xV (.map (some z)) 0 hA.U;have c3:=hA.get hg;have d8:∀ u:World,u.heap=W.heap->(Instr.lookup 220 (.map (some z)) (.agg #[.int .i64 L,.string E,.bool O]) false).run Tryz.prog u=.ok (.map (some D)) u:=by intro u a1;have:=(hA.a8.a9 (w':=u) (by rw [a1])).lookup GK Tryz.underlying220 (v0:=none) (zas _) hn false;rw [ZP (fun q:Nat × yC=>some q.1),hg] at this;exact this
 have a8:∀ n,(Instr.lookup 137 (.map (some D)) (.int .i64 R) false).run Tryz.prog (W.drewN n)=.ok (.int .i64 ((zU l R).getD 0)) (W.drewN n):=by intro n;exact (c3.1.drewN n).lookup Qo Tryz.underlying137 (v0:=0) (GB _) hw false
 have g9:∀ n,(Instr.lookup 220 (.map (some z)) (.agg #[.int .i64 L,.string E,.bool O]) false).run Tryz.prog (W.drewN n)=.ok (.map (some D)) (W.drewN n):=fun n=>d8 _ rfl;obtain ⟨e3,HS⟩:=zi2 d8 hs;clear d8 hs;go_quiet ((go_at_call 152;exact Calls.quiet_of_same (zgN _ _ _)));rw [d3];have HW:=hid d3;clear d3 g9 a8;go_wp2_with fail;have b9:qh (W.drewN nq) B b z T:=hA.below ⟨rfl,rfl,rfl,za _,fun _ _=>rfl⟩;have c7:Below w.heap.size w (W.drewN nq):=c6.trans ⟨rfl,rfl,rfl,za _,fun _ _=>rfl⟩;have a7:(W.drewN nq).heap[s]?=_:=a3;have e2:(W.drewN nq).heap.size=s+1:=d2;have a8:∀ u:World,u.heap=(W.drewN nq).heap->(Instr.lookup 220 (.map (some z)) (.agg #[.int .i64 L,.string E,.bool O]) false).run Tryz.prog u=.ok (.map (some D)) u:=e3.o;clear k0 k1 k2 c0 c3 hA c6 a3 d2 e3;generalize W.drewN nq=Y at b9 c7 a7 e2 a8 ⊢;have k0:=xV (.int .i64 L) 0 a7;have k1:=xV (.string E) 1 a7;have k2:=xV (.bool O) 2 a7;have c0:=xV (.map (some z)) 0 b9.U;have c3:=b9.get hg;have e7:=hid e2;clear e2;have h1:(Instr.lookup 220 (.map (some z)) (.agg #[.int .i64 L,.string E,.bool O]) false).run Tryz.prog Y.drew=.ok (.map (some D)) Y.drew:=a8 _ rfl;have g2:=hid a8;clear a8;go_still_tail 6,(by kernel_rfl);clear h1;change wpList _ _ _ _ _ Y.drew;refine GA _ rfl _ 137 3 rfl Tryz.underlying137 rfl c3.1.drew ?_;intro w3 e1 t3 s3;go_frame;go_wp2_with fail;have er:Y.drew.heap.size=s+1:=e7.o;rw [er] at e1 s3 ⊢;have f0:zE (fun _=>False) Y w3:=((zE.refl (fun _=>False) Y).drew).trans t3;have c8:zd Y w3:=f0.below (za _) (fun _ _ h=>h);have c5:=b9.below c8;have f8:s<Y.heap.size:=by have:=e7.o;omega
 have i0:w.heap.size<=s:=by have:=HS.o;omega
 have d7:=(c8.block s f8).trans a7;have c1:Below w.heap.size w w3:=c7.trans (c8.mono c7.size);have f3:∀ u:World,u.heap[z]?=w3.heap[z]?->(Instr.lookup 220 (.map (some z)) (.agg #[.int .i64 L,.string E,.bool O]) false).run Tryz.prog u=.ok (.map (some D)) u:=by intro u a1;have:=(c5.a8.a9 (w':=u) a1).lookup GK Tryz.underlying220 (v0:=none) (zas _) hn false;rw [ZP (fun q:Nat × yC=>some q.1),hg] at this;exact this
 have e4:=hid f3;have g7:=c5.get hg;have h7:D<s:=by have U:=(h.get hg).1.lt;have:=HS.o;omega
 clear k0 k1 k2 c0 c3 b9 c7 a7 g2 t3 f0 c8 er f3 s3;go_loopw [8] (fun v wr=>∃ a5,v=.bool false/\yq wr uo iok uo D (s+1) l a5/\(∀ p∈l,p∈a5∨¬(p.1≠R/\JS a0 p.2=false))/\zE (fun i=>i=s+1) w3 wr) (fun _ wr=>wr.rangeLeft D (s+1))
 case atStart=>exact ⟨l,rfl,e1,fun p hp=>.inl hp,zE.refl _ _⟩
 case round =>
  clear e1;obtain ⟨a5,rfl,a4,d1,ht⟩:=hrel;go_wp2_with (first|(at_next;refine zaq _ rfl _ rfl Qo.inj rfl a4 ?_ ?_))
  ·intro f4;have d5:Below w.heap.size w wr:=c1.trans (ht.below c1.size (by intro i hi e;omega));have e8:=h.below d5;have f9:s<w3.heap.size:=(qu.1 d7).1;have c2:wr.heap[s]?=some (.cells #[.int .i64 L,.string E,.bool O] 235 (0,0)):=(ht.block s f9 (by omega)).trans d7;have d9:∀ u:World,u.heap[z]?=wr.heap[z]?->(Instr.lookup 220 (.map (some z)) (.agg #[.int .i64 L,.string E,.bool O]) false).run Tryz.prog u=.ok (.map (some D)) u:=by
    intro u a1;have g5:z<w3.heap.size:=c5.a8.lt;have h8:z<s:=by have:=h.a8.lt;have:=HS.o;omega
    exact e4.o u (a1.trans (ht.block z g5 (by omega)))
   have f1:YM l R a0=false:=by
    cases hb:YM l R a0 with
    | false=>rfl
    | true =>
     obtain ⟨p,hp,U,h2⟩:=(zax _ _ _).1 hb;rcases d1 p hp with Z | Z
     ·rw [f4] at Z;cases Z
     ·exact absurd ⟨U,h2⟩ Z
   have k0:=xV (.int .i64 L) 0 c2;have k1:=xV (.string E) 1 c2;have k2:=xV (.bool O) 2 c2;have c0:=xV (.map (some z)) 0 e8.U;have h3:∀ n,(Instr.lookup 220 (.map (some z)) (.agg #[.int .i64 L,.string E,.bool O]) false).run Tryz.prog (wr.drewN n)=.ok (.map (some D)) (wr.drewN n):=fun n=>d9 _ rfl;have h5:∀ u:World,(binOp .eql 137 (.map (some D)) (.map none)).run Tryz.prog u=.ok (.bool false) u:=fun u=>run_eql_map_nil u 137 3 3 (some D) Tryz.underlying137;obtain ⟨g0,e5⟩:=zi2 f1 d9;clear f4 d1 d9 f1 d7 f9 c5 g7 e4 f8;go_wp2_with fail;go_quiet (fail);go_wp2_with fail;have d6:Below w.heap.size w (wr.drewN nq):=d5.trans ⟨rfl,rfl,rfl,za _,fun _ _=>rfl⟩;have d0:(wr.drewN nq).heap[s]?=some (.cells #[.int .i64 L,.string E,.bool O] 235 (0,0)):=c2;have e0:∀ u:World,u.heap=(wr.drewN nq).heap->(Instr.lookup 220 (.map (some z)) (.agg #[.int .i64 L,.string E,.bool O]) false).run Tryz.prog u=.ok (.map (some D)) u:=fun u a1=>e5.o u (by rw [a1];rfl);clear k0 k1 k2 c0 h3 d5 e8 c2 e5 a4 ht c1 h5;generalize wr.drewN nq=W7 at d6 d0 e0 ⊢;have e9:=h.below d6;have k0:=xV (.int .i64 L) 0 d0;have k1:=xV (.string E) 1 d0;have k2:=xV (.bool O) 2 d0;have c0:=xV (.map (some z)) 0 e9.U;have h4:(Instr.lookup 220 (.map (some z)) (.agg #[.int .i64 L,.string E,.bool O]) false).run Tryz.prog W7.drew=.ok (.map (some D)) W7.drew:=e0 _ rfl;have g8:=e9.get hg;clear e0;go_still_tail 8,(by kernel_rfl);clear h4;change wpList _ _ _ _ _ W7.drew;refine Ze _ rfl _ _ _ 137 3 rfl Qo Tryz.underlying137 rfl g8.1.drew R rfl hw a0 rfl ?_;intro w9 h9 t9;go_frame;go_wp2_with fail;go_ret;have g4:zE (fun i=>i=D) W7 w9:=((zE.refl _ _).drew).bw t9 (.inr rfl);have hT:zE (fun i=>i=D) w w9:=(zE.ak d6).trans g4;exact .inr ⟨g0.o,rfl,h.ch hg hT h9,hT⟩
  ·intro X pv hp w4 f7 t4 s4 g6;have f6:=a4.sub.subset hp;simp only [uo] at g6 ⊢;have f5:(adel a5 X).length<a5.length:=zae hp;obtain ⟨HR,e6⟩:=zi2 f7 d1;clear f7 d1;by_cases a9:X=R
   ·have h6:(X != R)=false:=by simpa using a9
    have d4:=hid a9;clear a9;go_wp2;go_roundw
    case rel =>
     refine ⟨adel a5 X,rfl,HR.o,fun q hq=>?_,ht.trans t4⟩;rcases e6.o q hq with U | U
     ·by_cases e:q.1=X
      ·exact .inr fun h2=>h2.1 (e.trans d4.o)
      ·exact .inl (List.mem_filter.2 ⟨U,by simp [e]⟩)
     ·exact .inr U
    case measure=>rw [a4.cs,HR.o.cs];exact f5
   ·have h6:(X != R)=true:=by simpa using a9
    have d4:=hid a9;clear a9;by_cases hf:JS a0 pv=true
    ·have HF:=hid hf;clear hf;go_wp2_with (first|(go_at_call 153;refine (zhf _ _ _).mono ?_;rintro e w' ⟨rfl,rfl⟩;rw [HF.o]));go_roundw
     case rel =>
      refine ⟨adel a5 X,rfl,HR.o,fun q hq=>?_,ht.trans t4⟩;rcases e6.o q hq with U | U
      ·by_cases e:q.1=X
       ·have g3:q=(X,pv):=by have a6:=Jt a4.map.apart hq;have a2:=Jt a4.map.apart f6;rw [e] at a6;simp only at a2;rw [a2] at a6;injection a6 with a6;obtain ⟨q1,q2⟩:=q;simp only at e a6;rw [e,<- a6]
        refine .inr fun h2=>?_;rw [g3] at h2;have Z:=h2.2;simp only at Z;rw [HF.o] at Z;cases Z
       ·exact .inl (List.mem_filter.2 ⟨U,by simp [e]⟩)
      ·exact .inr U
     case measure=>rw [a4.cs,HR.o.cs];exact f5
    ·have f2:JS a0 pv=false:=by simpa using hf
     have HF:=hid f2;clear hf f2;go_wp2_with (first|(go_at_call 153;refine (zhf _ _ _).mono ?_;rintro e w' ⟨rfl,rfl⟩;rw [HF.o]));go_ret;refine .inl ⟨(zax _ _ _).2 ⟨_,f6,d4.o,HF.o⟩,rfl,c1.trans ?_⟩;exact (ht.trans t4).below c1.size (by intro i hi e;omega)
end Go.Proofs.YtechnoogjhohfaaGreat
