/-
  Joined by a program from texts written one by one: part 19 of the walk through the program and of the law behind it.
-/
import Derived.Test.YtechnoogjhohfaaGreatC18
import Derived.BigRegion
import Derived.Deep.RegionHeld3
set_option maxRecDepth 100000
set_option maxHeartbeats 6400000
set_option linter.unusedVariables false
set_option linter.unusedSimpArgs false
namespace Go.Proofs.YtechnoogjhohfaaGreat
open Go.RowKit Go.Maps
theorem zhx (B b bm:Nat) (T:Tb) (who mode:Int) (n:Nm) (hg:zF T n=none) (hn:Jf n) (hw:iok who) (w:World) (h:zM w B b bm T) :
  Calls Tryz.prog 130 #[.pointer (some ⟨b,0,none⟩),.int .i64 who,vB n,.int .i64 mode] w fun e w' =>
   ∃ bi,e=.returned (.bool true)/\w.heap.size<=bi/\zM w' B b bm (aput T n (bi,[(who,vo 0 mode)]))/\zn (fun i=>i=bm) w w':=by
 obtain ⟨want,hwant⟩:∃ want,vo 0 mode=want:=⟨_,rfl⟩
 rw [hwant]
 obtain ⟨nt,nk,nw⟩:=n
 have hblk0:(w.alloc (.cells #[.int .i64 nt,.string nk,.bool nw] 235)).heap[w.heap.size]?=some (.cells #[.int .i64 nt,.string nk,.bool nw] 235 (0,0)):=heap_alloc_new w _
 have hB0:Below w.heap.size w (w.alloc (.cells #[.int .i64 nt,.string nk,.bool nw] 235)):=(Below.refl _ _).alloc (Nat.le_refl _) _
 have hA:=h.below hB0
 have hsz:(w.alloc (.cells #[.int .i64 nt,.string nk,.bool nw] 235)).heap.size=w.heap.size+1:=by simp
 unfold vB
 go_enter Tryz.func130,Tryz.ntmps130
 go_wp2_with fail
 generalize w.alloc (.cells #[.int .i64 nt,.string nk,.bool nw] 235)=W at hblk0 hB0 hA hsz ⊢
 obtain ⟨s,hs⟩:∃ s,s=w.heap.size:=⟨_,rfl⟩
 rw [<- hs] at hblk0 hsz ⊢
 have k0:W.cell? ⟨s,0,none⟩=some (.int .i64 nt):=cell_of_row W s 0 _ _ _ hblk0
 have k1:W.cell? ⟨s,1,none⟩=some (.string nk):=cell_of_row W s 1 _ _ _ hblk0
 have k2:W.cell? ⟨s,2,none⟩=some (.bool nw):=cell_of_row W s 2 _ _ _ hblk0
 have c0:W.cell? ⟨b,0,none⟩=some (.map (some bm)):=cell_of_row W b 0 _ _ _ hA.blk
 have hl1:∀ W':World,W'.heap=W.heap->(Instr.lookup 220 (.map (some bm)) (.agg #[.int .i64 nt,.string nk,.bool nw]) false).run Tryz.prog W'=.ok (.map none) W':=by
  intro W' hW'
  have:=(hA.outer.of_block (w':=W') (by rw [hW'])).lookup JS Tryz.underlying220 (v0:=none) (Yy _) hn false
  rw [vW (fun q:Nat × jn=>some q.1),hg] at this
  exact this
 have hl2:∀ n,(Instr.lookup 137 (.map none) (.int .i64 who) false).run Tryz.prog (W.drewN n)=.ok (.int .i64 0) (W.drewN n):=by
  intro n
  exact look_nil (w:=W.drewN n) false ut.keyed Tryz.underlying137 (YV _) (keyOf_int_mk Tryz.underlying3 hw)
 have hl1n:∀ n,(Instr.lookup 220 (.map (some bm)) (.agg #[.int .i64 nt,.string nk,.bool nw]) false).run Tryz.prog (W.drewN n)=.ok (.map none) (W.drewN n):=fun n=>hl1 _ rfl
 obtain ⟨HL1,HS⟩:=zi2 hl1 hs
 clear hl1 hs
 go_quiet ((go_at_call 152;exact Calls.quiet_of_same (zcq _ _ _)))
 rw [hwant]
 have HW:=hid hwant
 clear hwant hl1n hl2
 go_wp2_with fail
 have hA2:zM (W.drewN nq) B b bm T:=hA.below ⟨rfl,rfl,rfl,Nat.le_refl _,fun _ _=>rfl⟩
 have hB2:Below w.heap.size w (W.drewN nq):=hB0.trans ⟨rfl,rfl,rfl,Nat.le_refl _,fun _ _=>rfl⟩
 have hblk2:(W.drewN nq).heap[s]?=_:=hblk0
 have hsz2:(W.drewN nq).heap.size=s+1:=hsz
 have hl2:∀ W':World,W'.heap=(W.drewN nq).heap->(Instr.lookup 220 (.map (some bm)) (.agg #[.int .i64 nt,.string nk,.bool nw]) false).run Tryz.prog W'=.ok (.map none) W':=HL1.out
 clear k0 k1 k2 c0 hA hB0 hblk0 hsz HL1
 generalize W.drewN nq=W2 at hA2 hB2 hblk2 hsz2 hl2 ⊢
 have k0:W2.cell? ⟨s,0,none⟩=some (.int .i64 nt):=cell_of_row W2 s 0 _ _ _ hblk2
 have k1:W2.cell? ⟨s,1,none⟩=some (.string nk):=cell_of_row W2 s 1 _ _ _ hblk2
 have k2:W2.cell? ⟨s,2,none⟩=some (.bool nw):=cell_of_row W2 s 2 _ _ _ hblk2
 have c0:W2.cell? ⟨b,0,none⟩=some (.map (some bm)):=cell_of_row W2 b 0 _ _ _ hA2.blk
 have HSZ:=hid hsz2
 clear hsz2
 have hl3:(Instr.lookup 220 (.map (some bm)) (.agg #[.int .i64 nt,.string nk,.bool nw]) false).run Tryz.prog W2.drew=.ok (.map none) W2.drew:=hl2 _ rfl
 have HL2:=hid hl2
 clear hl2
 have hrn:=fun W=>zcf (P:=Tryz.prog) Tryz.underlying137 W
 go_still_tail 6,(by kernel_rfl)
 clear hl3
 change wpList _ _ _ _ _ W2.drew
 go_wp2_with fail
 have hs2:W2.heap.size=s+1:=HSZ.out
 have hB3:Below w.heap.size w (W2.alloc (.mapIter none 0 #[] 0)).drew:=(hB2.alloc (by have:=HS.out;omega) _).drew
 have hit:(W2.alloc (.mapIter none 0 #[] 0)).drew.heap[s+1]?=some (.mapIter none 0 #[] 0):=by rw [<- hs2];exact heap_alloc_new W2 _
 have hblk3:(W2.alloc (.mapIter none 0 #[] 0)).drew.heap[s]?=some (.cells #[.int .i64 nt,.string nk,.bool nw] 235 (0,0)):=(Below.heap_alloc W2 _ s (by omega)).trans hblk2
 have hsz3:(W2.alloc (.mapIter none 0 #[] 0)).drew.heap.size=s+2:=by
  have:(W2.alloc (.mapIter none 0 #[] 0)).heap.size=s+2:=by rw [World.size_alloc,hs2]
  exact this
 rw [hs2]
 clear k0 k1 k2 c0 hrn HL2 hblk2 hB2 hA2 hs2 HSZ
 generalize (W2.alloc (.mapIter none 0 #[] 0)).drew=W3 at hB3 hit hblk3 hsz3 ⊢
 have hA3:=h.below hB3
 have hl5:∀ W':World,W'.heap[bm]?=W3.heap[bm]?->(Instr.lookup 220 (.map (some bm)) (.agg #[.int .i64 nt,.string nk,.bool nw]) false).run Tryz.prog W'=.ok (.map none) W':=by
  intro W' hW'
  have:=(hA3.outer.of_block (w':=W') hW').lookup JS Tryz.underlying220 (v0:=none) (Yy _) hn false
  rw [vW (fun q:Nat × jn=>some q.1),hg] at this
  exact this
 have k0:W3.cell? ⟨s,0,none⟩=some (.int .i64 nt):=cell_of_row W3 s 0 _ _ _ hblk3
 have k1:W3.cell? ⟨s,1,none⟩=some (.string nk):=cell_of_row W3 s 1 _ _ _ hblk3
 have k2:W3.cell? ⟨s,2,none⟩=some (.bool nw):=cell_of_row W3 s 2 _ _ _ hblk3
 have c0:W3.cell? ⟨b,0,none⟩=some (.map (some bm)):=cell_of_row W3 b 0 _ _ _ hA3.blk
 have hnx:∀ ty,(Instr.next (.pointer (some ⟨s+1,0,none⟩)) false ty).run Tryz.prog W3=.ok (.tuple #[.bool false]) W3:=fun ty=>zdj hit
 have hl7:∀ n,(Instr.lookup 220 (.map (some bm)) (.agg #[.int .i64 nt,.string nk,.bool nw]) false).run Tryz.prog (W3.drewN n)=.ok (.map none) (W3.drewN n):=fun n=>hl5 _ rfl
 have hnil:∀ W':World,(binOp .eql 137 (.map none) (.map none)).run Tryz.prog W'=.ok (.bool true) W':=fun W'=>run_eql_map_nil W' 137 3 3 none Tryz.underlying137
 obtain ⟨HL5,HSZ3,HIT⟩:=zi3 hl5 hsz3 hit
 clear hl5 hsz3 hit
 refine wp_loop_rounds 1 ?_
 rw [rounds_succ]
 go_wp2_with fail
 go_quiet (fail)
 go_wp2_with fail
 have hB4:Below w.heap.size w (W3.drewN nq):=hB3.trans ⟨rfl,rfl,rfl,Nat.le_refl _,fun _ _=>rfl⟩
 have hblk4:(W3.drewN nq).heap[s]?=some (.cells #[.int .i64 nt,.string nk,.bool nw] 235 (0,0)):=hblk3
 have hsz4:(W3.drewN nq).heap.size=s+2:=HSZ3.out
 clear k0 k1 k2 c0 hl7 hB3 hA3 hblk3 HL5 hnil hnx HIT HSZ3
 generalize W3.drewN nq=W4 at hB4 hblk4 hsz4 ⊢
 have hA4:=h.below hB4
 have k0:W4.cell? ⟨s,0,none⟩=some (.int .i64 nt):=cell_of_row W4 s 0 _ _ _ hblk4
 have k1:W4.cell? ⟨s,1,none⟩=some (.string nk):=cell_of_row W4 s 1 _ _ _ hblk4
 have k2:W4.cell? ⟨s,2,none⟩=some (.bool nw):=cell_of_row W4 s 2 _ _ _ hblk4
 have c0:W4.cell? ⟨b,0,none⟩=some (.map (some bm)):=cell_of_row W4 b 0 _ _ _ hA4.blk
 have hbs:¬ b=W4.heap.size:=fun e=>by have:=(Array.getElem?_eq_some_iff.1 hA4.blk).1;omega
 have hss:¬ s=W4.heap.size:=fun e=>by omega
 have hbw:=h.outer.lt
 obtain ⟨w5,hrun5,h5,t5⟩:=((hA4.outer.alloc (.map #[] 0)).drew).update (P:=Tryz.prog) JS Tryz.underlying220 hn (some W4.heap.size)
 have hmm:=@run_makeMap Tryz.prog
 have HSZ4:=hid hsz4
 clear hsz4
 have hsl:s<W4.heap.size:=(Array.getElem?_eq_some_iff.1 hblk4).1
 have hbl:b<W4.heap.size:=(Array.getElem?_eq_some_iff.1 hA4.blk).1
 have k0':=(World.cell?_alloc_lt W4 (.map #[] 0) ⟨s,0,none⟩ hsl).trans k0
 have k1':=(World.cell?_alloc_lt W4 (.map #[] 0) ⟨s,1,none⟩ hsl).trans k1
 have k2':=(World.cell?_alloc_lt W4 (.map #[] 0) ⟨s,2,none⟩ hsl).trans k2
 have c0':=(World.cell?_alloc_lt W4 (.map #[] 0) ⟨b,0,none⟩ hbl).trans c0
 clear hsl hbl
 unfold vB Jg at hrun5
 simp only at hrun5
 go_region
 obtain ⟨c,hc⟩:∃ c,c=W4.heap.size:=⟨_,rfl⟩
 have hin5:zU (W4.alloc (.map #[] 0)).drew yP iok yP c ([]:List (Int × Int)):=by rw [hc];exact zU.made W4 yP iok yP
 have hT4:zn (fun _=>False) W4 (W4.alloc (.map #[] 0)).drew:=((zn.refl _ W4).alloc _).drew
 have hbmlt:bm<W4.heap.size:=hA4.outer.lt
 have hcne:¬ c=bm:=by omega
 have hT5:zn (fun i=>i=bm) W4 w5:=(hT4.mono (fun i _ h=>h.elim)).trans (Yk t5)
 have hi5:zU w5 yP iok yP c ([]:List (Int × Int)):=hin5.turns (Yk t5) hcne
 rw [<- hc] at h5 ⊢
 have hbw2:¬ b=bm:=fun e=>hA4.ne e.symm
 have hsbm:¬ s=bm:=by have:=HS.out;omega
 have hblk5:w5.heap[s]?=some (.cells #[.int .i64 nt,.string nk,.bool nw] 235 (0,0)):=(hT5.block s (by have:=HSZ4.out;omega) hsbm).trans hblk4
 have hb5:w5.heap[b]?=some (.cells #[.map (some bm)] 222 (0,0)):=(hT5.block b (Array.getElem?_eq_some_iff.1 hA4.blk).1 hbw2).trans hA4.blk
 have hTw:zn (fun i=>i=bm) w w5:=(zn.of_below hB4).trans hT5
 have hcw:w.heap.size<=c:=by have:=hB4.size;omega
 have HC:=hid hc
 clear k0 k1 k2 c0 k0' k1' k2' c0' hrun5 hmm hbs hss hA4 hblk4 hB4 hin5 hT4 hT5 t5 HSZ4 hc hbmlt
 go_wp2_with fail
 have k0:w5.cell? ⟨s,0,none⟩=some (.int .i64 nt):=cell_of_row w5 s 0 _ _ _ hblk5
 have k1:w5.cell? ⟨s,1,none⟩=some (.string nk):=cell_of_row w5 s 1 _ _ _ hblk5
 have k2:w5.cell? ⟨s,2,none⟩=some (.bool nw):=cell_of_row w5 s 2 _ _ _ hblk5
 have c0:w5.cell? ⟨b,0,none⟩=some (.map (some bm)):=cell_of_row w5 b 0 _ _ _ hb5
 have hl9:(Instr.lookup 220 (.map (some bm)) (.agg #[.int .i64 nt,.string nk,.bool nw]) false).run Tryz.prog w5.drew=.ok (.map (some c)) w5.drew:=by
  have:=h5.drew.lookup JS Tryz.underlying220 (v0:=none) (Yy _) hn false
  rw [Qi,if_pos rfl] at this
  exact this
 go_still_tail 8,(by kernel_rfl)
 clear hl9
 change wpList _ _ _ _ _ w5.drew
 refine yu _ rfl _ _ _ 137 3 rfl ut Tryz.underlying137 rfl hi5.drew who rfl hw want rfl ?_
 intro w9 h9 t9
 go_frame
 go_wp2_with fail
 go_ret
 have hT9:zn (fun i=>i=c) w5 w9:=((zn.refl _ _).drew).turned t9 (.inr rfl)
 have hT:zn (fun i=>i=bm) w w9:=⟨hT9.os.trans hTw.os,hT9.tape.trans hTw.tape,hT9.output.trans hTw.output,Nat.le_trans hTw.size hT9.size,fun i hi hne=>(hT9.block i (Nat.lt_of_lt_of_le hi hTw.size) (by omega)).trans (hTw.block i hi hne)⟩
 exact ⟨c,rfl,hcw,h.more (by rw [jA,hg];rfl) hcw hT h9 (h5.turns hT9 (fun e=>hcne e.symm)),hT⟩
def takeB (M:Lk) (who:Int) (n:Nm) (mode:Int):Bool:=!Qk (zW M n) who (vz M who n mode)
def takeS (M:Lk) (who:Int) (n:Nm) (mode:Int):Lk:=if takeB M who n mode=true then takeM M who n mode else M
theorem yh:ByteArray.empty.size<=maxLen:=by decide
theorem ux (T:Tb) (n:Nm) (bi:Nat) (l:jn):zh (aput T n (bi,l))=aput (zh T) n l:=(GE (fun q:Nat × jn=>q.2) T n (bi,l)).symm
theorem zcQ (T:Tb) (n:Nm):zh (adel T n)=adel (zh T) n:=(GD (fun q:Nat × jn=>q.2) T n).symm
def vS (T:Tb) (i:Nat):Prop:=∀ p∈T,p.2.1≠i
def yy (bm:Nat) (T:Tb) (i:Nat):Prop:=i=bm∨∃ p∈T,p.2.1=i
theorem uY (B b bm:Nat) (T:Tb) (who mode:Int) (n:Nm) (hn:Jf n) (hw:iok who) (w:World) (hT:zM w B b bm T) :
  Calls Tryz.prog 130 #[.pointer (some ⟨b,0,none⟩),.int .i64 who,vB n,.int .i64 mode] w fun e w' =>
   e=.returned (.bool (takeB (zh T) who n mode))/\∃ T',zM w' B b bm T'/\zh T'=takeS (zh T) who n mode/\zn (yy bm T) w w'/\∀ i,i<w.heap.size->vS T i->vS T' i:=by
 cases hg:zF T n with
 | none =>
  refine (zhx B b bm T who mode n hg hn hw w hT).mono ?_
  rintro e w' ⟨bi,rfl,hbi,h',t'⟩
  have e1:takeB (zh T) who n mode=true:=by unfold takeB;rw [Qd hg];rfl
  have e2:vz (zh T) who n mode=vo 0 mode:=by unfold vz;rw [Qd hg];rfl
  refine ⟨by rw [e1],_,h',?_,t'.mono fun i _ e=>.inl e,?_⟩
  ·unfold takeS takeM
   rw [if_pos e1,ux,Qd hg,e2];rfl
  ·intro i hi ho p hp
   rw [ZL _ (by rw [jA,hg];rfl)] at hp
   rcases List.mem_append.1 hp with hp | hp
   ·exact ho p hp
   ·simp at hp;subst hp
    show bi≠i
    omega
 | some q =>
  obtain ⟨bi,l⟩:=q
  have hmem:=qP hg
  refine (zhy B b bm T who mode n bi l hg hn hw w hT).mono ?_
  have e2:vz (zh T) who n mode=vo ((zF l who).getD 0) mode:=by unfold vz;rw [uT hg]
  rintro e w' (⟨hb,rfl,hB⟩ | ⟨hb,rfl,h',t'⟩)
  ·have e1:takeB (zh T) who n mode=false:=by unfold takeB;rw [uT hg,e2,hb];rfl
   refine ⟨by rw [e1],T,hT.below hB,?_,zn.of_below hB,fun i _ h=>h⟩
   unfold takeS;rw [e1];rfl
  ·have e1:takeB (zh T) who n mode=true:=by unfold takeB;rw [uT hg,e2,hb];rfl
   refine ⟨by rw [e1],_,h',?_,t'.mono fun i _ e=>.inr ⟨_,hmem,e.symm⟩,?_⟩
   ·unfold takeS takeM
    rw [if_pos e1,ux,uT hg,e2]
   ·intro i hi ho p hp
    unfold aput at hp
    rw [if_pos (by rw [jA,hg];rfl)] at hp
    obtain ⟨q,hq,rfl⟩:=List.mem_map.1 hp
    by_cases e:q.1=n
    ·rw [if_pos e];exact ho (n,(bi,l)) hmem
    ·rw [if_neg e];exact ho q hq
theorem zM.ofT {w:World} {B b bm:Nat} {T:Tb} (h:zM w B b bm T) {i:Nat} (hi:yy bm T i):i=bm∨B<=i:=by
 rcases hi with h1 | ⟨p,hp,rfl⟩
 ·exact .inl h1
 ·exact .inr (h.base p hp)
def qw (w w':World) (bm:Nat) (T T':Tb):Prop:=∀ X,X<w.heap.size->X≠bm->vS T X->w'.heap[X]?=w.heap[X]?/\vS T' X
theorem qw.below {w w':World} {bm:Nat} {T:Tb} (k:Below w.heap.size w w'):qw w w' bm T T:=fun X hX _ ho=>⟨k.block X hX,ho⟩
theorem qw.take {w w':World} {bm:Nat} {T T':Tb} (t:zn (yy bm T) w w') (o:∀ i,i<w.heap.size->vS T i->vS T' i):qw w w' bm T T' :=
 fun X hX hb ho=>⟨t.block X hX (by rintro (h | ⟨p,hp,h⟩);exact hb h;exact ho p hp h),o X hX ho⟩
theorem qw.trans {w w' w'':World} {bm:Nat} {T T' T'':Tb} (h:qw w w' bm T T') (k:qw w' w'' bm T' T'') (hs:w.heap.size<=w'.heap.size):qw w w'' bm T T'' :=
 fun X hX hb ho=>by
  obtain ⟨h1,h2⟩:=h X hX hb ho
  obtain ⟨k1,k2⟩:=k X (Nat.lt_of_lt_of_le hX hs) hb h2
  exact ⟨k1.trans h1,k2⟩
theorem qw.change {w w':World} {bm bi:Nat} {T:Tb} {n:Nm} {l l':jn} (hg:zF T n=some (bi,l)) (t:zn (fun i=>i=bi) w w'):qw w w' bm T (aput T n (bi,l')) :=
 fun X hX _ ho=>by
  have hb:X≠bi:=fun e=>ho _ (qP hg) e.symm
  refine ⟨t.block X hX hb,fun p hp=>?_⟩
  unfold aput at hp
  rw [if_pos (by rw [jA,hg];rfl)] at hp
  obtain ⟨q,hq,rfl⟩:=List.mem_map.1 hp
  by_cases e:q.1=n
  ·rw [if_pos e];exact fun e=>hb e.symm
  ·rw [if_neg e];exact ho q hq
theorem qw.drop {w w':World} {bm:Nat} {T:Tb} (n:Nm) (t:zn (fun i=>i=bm) w w'):qw w w' bm T (adel T n) :=
 fun X hX hb ho=>⟨t.block X hX hb,fun p hp=>ho p (List.filter_sublist.subset hp)⟩
theorem new_any (w:World) :
  Calls Tryz.prog 79 #[] w fun e w'=>e=.returned (.pointer (some ⟨w.heap.size+1,0,none⟩))/\zjt w' (w.heap.size+2) (w.heap.size+1) w.heap.size []/\Below w.heap.size w w'/\w'.heap.size=w.heap.size+2:=by
 have hmm:=@run_makeMap Tryz.prog
 go_enter Tryz.func79,Tryz.ntmps79
 go_wp2
 go_ret
 exact ⟨rfl,⟨[],⟨by simpa using heap_alloc_new (w.alloc (.map #[] 0)) _,(zU.made w _ _ _).alloc _,by simp,by simp,List.Pairwise.nil,by omega,by omega,by simp⟩,rfl⟩,((Below.refl _ _).alloc (Nat.le_refl _) _).alloc (by simp) _,by simp⟩
theorem zkU (B b bm:Nat) (T:Tb) (who t:Int) (k:ByteArray) (hn:iok t) (hk:k.size<=maxLen) (hw:iok who) (w:World) (h:zM w B b bm T) :
  Calls Tryz.prog 87 #[.pointer (some ⟨b,0,none⟩),.int .i64 who,.int .i64 t,.string k,.bool false] w fun e w' =>
   e=.returned (.bool (takeB (zh T) who (t,k,false) 1))/\∃ T',zM w' B b bm T'/\zh T'=takeS (zh T) who (t,k,false) 1/\zn (fun i=>i=bm∨B<=i) w w'/\qw w w' bm T T':=by
 have hc:=uY B b bm T who 1 (t,k,false) ⟨hn,hk⟩ hw w h
 unfold vB at hc
 obtain ⟨r,hr⟩:∃ r,r=takeB (zh T) who (t,k,false) 1:=⟨_,rfl⟩
 rw [<- hr] at hc ⊢
 obtain ⟨HC,HH⟩:=zi2 hc h
 clear hc h hr
 go_enter Tryz.func87,Tryz.ntmps87
 go_wp2_with (first
  | (go_at_call 130;refine HC.out.mono ?_;rintro e w1 ⟨rfl,h1⟩))
 go_ret
 obtain ⟨T1,h1,e1,t1,o1⟩:=h1
 exact ⟨rfl,T1,h1,e1,t1.mono fun i _ hi=>HH.out.ofT hi,qw.take t1 o1⟩
structure vK (w:World) (s:Nat) (t:Int) (k:ByteArray):Prop where
 a:w.heap[s]?=some (.cells #[.int .i64 t,.string k,.bool false] 235 (0,0))
 b:w.heap[s+1]?=some (.cells #[.int .i64 t,.string ⟨#[]⟩,.bool true] 235 (0,0))
theorem vK.turns {w w':World} {s:Nat} {t:Int} {k:ByteArray} {S:Nat->Prop} (h:vK w s t k) (u:zn S w w') (h0:¬ S s) (h1:¬ S (s+1)):vK w' s t k :=
 ⟨(u.block s (Array.getElem?_eq_some_iff.1 h.a).1 h0).trans h.a,(u.block (s+1) (Array.getElem?_eq_some_iff.1 h.b).1 h1).trans h.b⟩
theorem yC {w:World} {B b bm:Nat} {T:Tb} (h:zM w B b bm T) (n:Nm) (hn:Jf n) (W':World) (hW:W'.heap[bm]?=w.heap[bm]?) :
  (Instr.lookup 220 (.map (some bm)) (vB n) false).run Tryz.prog W'=.ok (.map ((zF T n).map fun q=>q.1)) W':=by
 have:=(h.outer.of_block (w':=W') hW).lookup JS Tryz.underlying220 (v0:=none) (Yy _) hn false
 rw [vW (fun q:Nat × jn=>some q.1)] at this
 cases hg:zF T n with
 | none=>rw [hg] at this;exact this
 | some q=>rw [hg] at this;exact this
def zD (t:Int):Nm:=(t,⟨#[]⟩,true)
theorem uw {w:World} {B b bm:Nat} {T:Tb} (h:zM w B b bm T) (n:Nm) (who:Int) (hw:iok who) (W':World) (hW:W'.heap=w.heap) :
  (Instr.lookup 137 (.map ((zF T n).map fun q=>q.1)) (.int .i64 who) false).run Tryz.prog W'=.ok (.int .i64 ((zF (zW (zh T) n) who).getD 0)) W':=by
 cases hg:zF T n with
 | none =>
  rw [Qd hg]
  exact look_nil (w:=W') false ut.keyed Tryz.underlying137 (YV _) (keyOf_int_mk Tryz.underlying3 hw)
 | some q =>
  obtain ⟨bi,l⟩:=q
  rw [uT hg]
  exact ((h.get hg).1.of_block (w':=W') (by rw [hW])).lookup ut Tryz.underlying137 (v0:=0) (YV _) hw false
theorem zM.drop {w w':World} {B b bm:Nat} {T:Tb} (h:zM w B b bm T) (n:Nm) (t:zn (fun i=>i=bm) w w')
  (hout:zU w' vB Jf Jg bm (adel (T.map fun p=>(p.1,(fun q:Nat × jn=>some q.1) p.2)) n)):zM w' B b bm (adel T n):=by
 have hbb:¬ b=bm:=fun e=>h.ne e.symm
 have hsub:(adel T n).Sublist T:=List.filter_sublist
 refine ⟨(t.block b (Array.getElem?_eq_some_iff.1 h.blk).1 hbb).trans h.blk,?_,fun p hp=>(h.inner p (hsub.subset hp)).turns t (by have:=h.base p (hsub.subset hp);have:=h.low;omega),fun p hp=>h.base p (hsub.subset hp),h.apart.sublist hsub,h.low,h.blow,Nat.le_trans h.size t.size⟩
 rw [<- GD (fun q:Nat × jn=>some q.1)];exact hout
theorem Kp {K V:Type} [DecidableEq K] (l:List (K × V)) (x:K) (u v:V):aput (aput l x u) x v=aput l x v:=by
 have h:qb (aput l x u) x=true:=by rw [zbf];simp
 unfold aput at h ⊢
 by_cases e:qb l x=true
 ·simp only [if_pos e] at h ⊢
  rw [if_pos h,List.map_map]
  refine List.map_congr_left fun p _=>?_
  simp only [Function.comp]
  by_cases e2:p.1=x<;>simp [e2]
 ·simp only [if_neg e] at h ⊢
  rw [if_pos h,List.map_append]
  congr 1
  ·conv=>rhs;rw [<- List.map_id l]
   refine List.map_congr_left fun p hp=>?_
   have:=jB.1 (by simpa using e) p hp
   rw [if_neg this];rfl
  ·simp
theorem Jr {K V:Type} [DecidableEq K] {l:List (K × V)} (hl:js l) {x:K} {v:V} (h:zF l x=some v):aput l x v=l:=by
 have hh:qb l x=true:=by rw [jA,h];rfl
 unfold aput
 rw [if_pos hh]
 conv=>rhs;rw [<- List.map_id l]
 refine List.map_congr_left fun p hp=>?_
 by_cases e:p.1=x
 ·have:=Zg hl hp
  rw [e,h] at this
  injection this with this
  rw [if_pos e]
  obtain ⟨p1,p2⟩:=p
  simp only at e this
  rw [e,this];rfl
 ·rw [if_neg e];rfl
theorem Qh {K V:Type} [DecidableEq K] (l:List (K × V)) (x:K) (v:V):adel (aput l x v) x=adel l x:=by
 unfold aput
 by_cases h:qb l x=true
 ·rw [if_pos h]
  unfold adel
  induction l with
  | nil=>rfl
  | cons p l ih =>
   rw [List.map_cons,List.filter_cons,List.filter_cons]
   have ih':(l.map fun p=>if p.1=x then (x,v) else p).filter (fun p=>!decide (p.1=x))=l.filter fun p=>!decide (p.1=x):=by
    by_cases h2:qb l x=true
    ·exact ih h2
    ·have h3:=jB.1 (by simpa using h2)
     congr 1
     conv=>rhs;rw [<- List.map_id l]
     refine List.map_congr_left fun p hp=>?_
     rw [if_neg (h3 p hp)];rfl
   rw [ih']
   by_cases h1:p.1=x<;>simp [h1]
 ·rw [if_neg h];unfold adel;rw [List.filter_append];simp
def WF (M:Lk):Prop:=∀ p∈M,p.2≠[]/\js p.2/\∀ q∈p.2,q.2≠0
theorem WF.nil:WF []:=by intro p hp;cases hp
theorem WF.held {M:Lk} (h:WF M) (n:Nm):js (zW M n)/\(∀ q∈zW M n,q.2≠0)/\(zW M n=[]->zF M n=none):=by
 unfold zW
 cases hg:zF M n with
 | none=>exact ⟨js.nil,(fun q hq=>by cases hq),fun _=>rfl⟩
 | some l =>
  have:=h _ (qP hg)
  exact ⟨this.2.1,this.2.2,fun e=>absurd e this.1⟩
theorem zM.apartM {w:World} {B b bm:Nat} {T:Tb} (h:zM w B b bm T):js (zh T):=by
 have:=h.apartT
 unfold js at this ⊢
 unfold zh
 rw [List.pairwise_map];exact this
theorem zdY {M:Lk} (hW:WF M) (n:Nm) (who want:Int) (h0:(zF (zW M n) who).getD 0=0) (he:adel (aput (zW M n) who want) who=[]):adel (aput M n (aput (zW M n) who want)) n=M:=by
 obtain ⟨ha,hz,hn⟩:=hW.held n
 have hno:qb (zW M n) who=false:=by
  cases hh:qb (zW M n) who with
  | false=>rfl
  | true =>
   rw [jA] at hh
   obtain ⟨v,hv⟩:=Option.isSome_iff_exists.1 hh
   rw [hv] at h0
   exact absurd h0 (hz _ (qP hv))
 rw [Qh,yk hno] at he
 rw [Qh]
 exact yk (by rw [jA,hn he];rfl)
theorem zdZ {M:Lk} (hA:js M) (hW:WF M) (n:Nm) (who want:Int) (h0:(zF (zW M n) who).getD 0=0) (he:adel (aput (zW M n) who want) who≠[]):aput (aput M n (aput (zW M n) who want)) n (adel (aput (zW M n) who want) who)=M:=by
 obtain ⟨ha,hz,hn⟩:=hW.held n
 have hno:qb (zW M n) who=false:=by
  cases hh:qb (zW M n) who with
  | false=>rfl
  | true =>
   rw [jA] at hh
   obtain ⟨v,hv⟩:=Option.isSome_iff_exists.1 hh
   rw [hv] at h0
   exact absurd h0 (hz _ (qP hv))
 rw [Qh,yk hno] at he ⊢
 rw [Kp]
 refine Jr hA ?_
 unfold zW at he ⊢
 cases hg:zF M n with
 | none=>rw [hg] at he;exact absurd rfl he
 | some l=>rfl
theorem zdf {M:Lk} (hA:js M) (hW:WF M) (n:Nm) (who want:Int) (h0:(zF (zW M n) who).getD 0≠0):aput (aput M n (aput (zW M n) who want)) n (aput (aput (zW M n) who want) who ((zF (zW M n) who).getD 0))=M:=by
 obtain ⟨ha,hz,hn⟩:=hW.held n
 rw [Kp,Kp]
 cases hv:zF (zW M n) who with
 | none=>rw [hv] at h0;exact absurd rfl h0
 | some v =>
  rw [Option.getD_some,Jr ha hv]
  refine Jr hA ?_
  unfold zW at hv ⊢
  cases hg:zF M n with
  | none=>rw [hg] at hv;cases hv
  | some l=>rfl
def keyB (M:Lk) (who t:Int) (k:ByteArray):Bool:=takeB M who (zD t) 2 && takeB (takeM M who (zD t) 2) who (t,k,false) 3
def keyS (M:Lk) (who t:Int) (k:ByteArray):Lk:=if keyB M who t k=true then takeM (takeM M who (zD t) 2) who (t,k,false) 3 else M
theorem zkC (B b bm:Nat) (T:Tb) (who t:Int) (k:ByteArray) (hn:iok t) (hk:k.size<=maxLen) (hw:iok who) (w:World) (h:zM w B b bm T) (hr1:takeB (zh T) who (zD t) 2=false) :
  Calls Tryz.prog 87 #[.pointer (some ⟨b,0,none⟩),.int .i64 who,.int .i64 t,.string k,.bool true] w fun e w' =>
   e=.returned (.bool false)/\∃ T',zM w' B b bm T'/\zh T'=zh T/\zn (fun i=>i=bm∨B<=i) w w'/\qw w w' bm T T':=by
 have hbw:b<w.heap.size:=(Array.getElem?_eq_some_iff.1 h.blk).1
 have hltT:∀ p∈T,p.2.1<w.heap.size:=fun p hp=>(h.inner p hp).lt
 have hbmlt:=h.outer.lt
 obtain ⟨HN,HK⟩:=zi2 hn hk
 have hB0:Below w.heap.size w ((w.alloc (.cells #[.int .i64 t,.string k,.bool false] 235)).alloc (.cells #[.int .i64 t,.string ⟨#[]⟩,.bool true] 235)):=((Below.refl _ _).alloc (Nat.le_refl _) _).alloc (by simp) _
 have hX0:vK ((w.alloc (.cells #[.int .i64 t,.string k,.bool false] 235)).alloc (.cells #[.int .i64 t,.string ⟨#[]⟩,.bool true] 235)) w.heap.size t k:=by
  refine ⟨(Below.heap_alloc _ _ _ (by simp)).trans (heap_alloc_new w _),?_⟩
  have:=heap_alloc_new (w.alloc (.cells #[.int .i64 t,.string k,.bool false] 235)) (.cells #[.int .i64 t,.string ⟨#[]⟩,.bool true] 235)
  rw [World.size_alloc] at this
  exact this
 have hz0:((w.alloc (.cells #[.int .i64 t,.string k,.bool false] 235)).alloc (.cells #[.int .i64 t,.string ⟨#[]⟩,.bool true] 235)).heap.size=w.heap.size+2:=by simp
 have HLT:=hid hltT
 clear hltT hn hk
 go_enter Tryz.func87,Tryz.ntmps87
 go_wp2_with fail
 generalize (w.alloc (.cells #[.int .i64 t,.string k,.bool false] 235)).alloc (.cells #[.int .i64 t,.string ⟨#[]⟩,.bool true] 235)=W0 at hB0 hX0 hz0 ⊢
 have hA0:=h.below hB0
 obtain ⟨s,hs⟩:∃ s,s=w.heap.size:=⟨_,rfl⟩
 rw [<- hs] at hX0 hz0 hbw hbmlt ⊢
 have HS:=hid hs
 clear hs
 have k0:W0.cell? ⟨s+1,0,none⟩=some (.int .i64 t):=cell_of_row W0 (s+1) 0 _ _ _ hX0.b
 have k1:W0.cell? ⟨s+1,1,none⟩=some (.string ⟨#[]⟩):=cell_of_row W0 (s+1) 1 _ _ _ hX0.b
 have k2:W0.cell? ⟨s+1,2,none⟩=some (.bool true):=cell_of_row W0 (s+1) 2 _ _ _ hX0.b
 have c0:W0.cell? ⟨b,0,none⟩=some (.map (some bm)):=cell_of_row W0 b 0 _ _ _ hA0.blk
 obtain ⟨o,ho⟩:∃ o,o=(zF T (zD t)).map fun q=>q.1:=⟨_,rfl⟩
 obtain ⟨O,hO⟩:∃ O,O=(zF (zW (zh T) (zD t)) who).getD 0:=⟨_,rfl⟩
 have hl1:∀ n,(Instr.lookup 220 (.map (some bm)) (.agg #[.int .i64 t,.string ⟨#[]⟩,.bool true]) false).run Tryz.prog (W0.drewN n)=.ok (.map o) (W0.drewN n):=by
  intro n;rw [ho];exact yC hA0 (zD t) ⟨HN.out,yh⟩ _ rfl
 have hl2:∀ n,(Instr.lookup 137 (.map o) (.int .i64 who) false).run Tryz.prog (W0.drewN n)=.ok (.int .i64 O) (W0.drewN n):=by
  intro n;rw [ho,hO];exact uw hA0 (zD t) who hw _ rfl
 have HO:=hid hO
 clear ho hO
 go_quiet (fail)
 have hA1:zM (W0.drewN nq) B b bm T:=hA0.below ⟨rfl,rfl,rfl,Nat.le_refl _,fun _ _=>rfl⟩
 have hX1:vK (W0.drewN nq) s t k:=⟨hX0.a,hX0.b⟩
 have hz1:(W0.drewN nq).heap.size=s+2:=hz0
 have hB1:Below w.heap.size w (W0.drewN nq):=hB0.trans ⟨rfl,rfl,rfl,Nat.le_refl _,fun _ _=>rfl⟩
 clear k0 k1 k2 c0 hl1 hl2 hA0 hX0 hz0 hB0
 generalize W0.drewN nq=W1 at hA1 hX1 hz1 hB1 ⊢
 have k0:W1.cell? ⟨s+1,0,none⟩=some (.int .i64 t):=cell_of_row W1 (s+1) 0 _ _ _ hX1.b
 have k1:W1.cell? ⟨s+1,1,none⟩=some (.string ⟨#[]⟩):=cell_of_row W1 (s+1) 1 _ _ _ hX1.b
 have k2:W1.cell? ⟨s+1,2,none⟩=some (.bool true):=cell_of_row W1 (s+1) 2 _ _ _ hX1.b
 have HZ1:=hid hz1
 clear hz1
 have hc1:Calls Tryz.prog 130 #[.pointer (some ⟨b,0,none⟩),.int .i64 who,.agg #[.int .i64 t,.string ⟨#[]⟩,.bool true],.int .i64 2] W1 _:=uY B b bm T who 2 (zD t) ⟨HN.out,yh⟩ hw W1 hA1
 have HC1:=hid hc1
 clear hc1
 have HR1:=hid hr1
 clear hr1
 go_wp2_with (first
  | (go_at_call 130;(with_reducible refine HC1.out.mono ?_);rintro e w2 ⟨rfl,T2,h2,e2,t2,o2⟩;rw [HR1.out]))
 go_ret
 have hTw:∀ {v:World},zn (yy bm T) W1 v->zn (fun i=>i=bm∨B<=i) w v:=fun u=>(zn.of_below hB1).trans (u.mono fun i _ hi=>h.ofT hi)
 exact ⟨rfl,T2,h2,by rw [e2];unfold takeS;rw [HR1.out];rfl,hTw t2,(qw.below hB1).trans (qw.take t2 o2) hB1.size⟩
theorem zkD (B b bm:Nat) (T:Tb) (who t:Int) (k:ByteArray) (hn:iok t) (hk:k.size<=maxLen) (hw:iok who) (w:World) (h:zM w B b bm T) (hr1:takeB (zh T) who (zD t) 2=true) (hr2:takeB (takeM (zh T) who (zD t) 2) who (t,k,false) 3=true) :
  Calls Tryz.prog 87 #[.pointer (some ⟨b,0,none⟩),.int .i64 who,.int .i64 t,.string k,.bool true] w fun e w' =>
   e=.returned (.bool true)/\∃ T',zM w' B b bm T'/\zh T'=takeM (takeM (zh T) who (zD t) 2) who (t,k,false) 3/\zn (fun i=>i=bm∨B<=i) w w'/\qw w w' bm T T':=by
 have hbw:b<w.heap.size:=(Array.getElem?_eq_some_iff.1 h.blk).1
 have hltT:∀ p∈T,p.2.1<w.heap.size:=fun p hp=>(h.inner p hp).lt
 have hbmlt:=h.outer.lt
 obtain ⟨HN,HK⟩:=zi2 hn hk
 have hB0:Below w.heap.size w ((w.alloc (.cells #[.int .i64 t,.string k,.bool false] 235)).alloc (.cells #[.int .i64 t,.string ⟨#[]⟩,.bool true] 235)):=((Below.refl _ _).alloc (Nat.le_refl _) _).alloc (by simp) _
 have hX0:vK ((w.alloc (.cells #[.int .i64 t,.string k,.bool false] 235)).alloc (.cells #[.int .i64 t,.string ⟨#[]⟩,.bool true] 235)) w.heap.size t k:=by
  refine ⟨(Below.heap_alloc _ _ _ (by simp)).trans (heap_alloc_new w _),?_⟩
  have:=heap_alloc_new (w.alloc (.cells #[.int .i64 t,.string k,.bool false] 235)) (.cells #[.int .i64 t,.string ⟨#[]⟩,.bool true] 235)
  rw [World.size_alloc] at this
  exact this
 have hz0:((w.alloc (.cells #[.int .i64 t,.string k,.bool false] 235)).alloc (.cells #[.int .i64 t,.string ⟨#[]⟩,.bool true] 235)).heap.size=w.heap.size+2:=by simp
 have HLT:=hid hltT
 clear hltT hn hk
 go_enter Tryz.func87,Tryz.ntmps87
 go_wp2_with fail
 generalize (w.alloc (.cells #[.int .i64 t,.string k,.bool false] 235)).alloc (.cells #[.int .i64 t,.string ⟨#[]⟩,.bool true] 235)=W0 at hB0 hX0 hz0 ⊢
 have hA0:=h.below hB0
 obtain ⟨s,hs⟩:∃ s,s=w.heap.size:=⟨_,rfl⟩
 rw [<- hs] at hX0 hz0 hbw hbmlt ⊢
 have HS:=hid hs
 clear hs
 have k0:W0.cell? ⟨s+1,0,none⟩=some (.int .i64 t):=cell_of_row W0 (s+1) 0 _ _ _ hX0.b
 have k1:W0.cell? ⟨s+1,1,none⟩=some (.string ⟨#[]⟩):=cell_of_row W0 (s+1) 1 _ _ _ hX0.b
 have k2:W0.cell? ⟨s+1,2,none⟩=some (.bool true):=cell_of_row W0 (s+1) 2 _ _ _ hX0.b
 have c0:W0.cell? ⟨b,0,none⟩=some (.map (some bm)):=cell_of_row W0 b 0 _ _ _ hA0.blk
 obtain ⟨o,ho⟩:∃ o,o=(zF T (zD t)).map fun q=>q.1:=⟨_,rfl⟩
 obtain ⟨O,hO⟩:∃ O,O=(zF (zW (zh T) (zD t)) who).getD 0:=⟨_,rfl⟩
 have hl1:∀ n,(Instr.lookup 220 (.map (some bm)) (.agg #[.int .i64 t,.string ⟨#[]⟩,.bool true]) false).run Tryz.prog (W0.drewN n)=.ok (.map o) (W0.drewN n):=by
  intro n;rw [ho];exact yC hA0 (zD t) ⟨HN.out,yh⟩ _ rfl
 have hl2:∀ n,(Instr.lookup 137 (.map o) (.int .i64 who) false).run Tryz.prog (W0.drewN n)=.ok (.int .i64 O) (W0.drewN n):=by
  intro n;rw [ho,hO];exact uw hA0 (zD t) who hw _ rfl
 have HO:=hid hO
 clear ho hO
 go_quiet (fail)
 have hA1:zM (W0.drewN nq) B b bm T:=hA0.below ⟨rfl,rfl,rfl,Nat.le_refl _,fun _ _=>rfl⟩
 have hX1:vK (W0.drewN nq) s t k:=⟨hX0.a,hX0.b⟩
 have hz1:(W0.drewN nq).heap.size=s+2:=hz0
 have hB1:Below w.heap.size w (W0.drewN nq):=hB0.trans ⟨rfl,rfl,rfl,Nat.le_refl _,fun _ _=>rfl⟩
 clear k0 k1 k2 c0 hl1 hl2 hA0 hX0 hz0 hB0
 generalize W0.drewN nq=W1 at hA1 hX1 hz1 hB1 ⊢
 have k0:W1.cell? ⟨s+1,0,none⟩=some (.int .i64 t):=cell_of_row W1 (s+1) 0 _ _ _ hX1.b
 have k1:W1.cell? ⟨s+1,1,none⟩=some (.string ⟨#[]⟩):=cell_of_row W1 (s+1) 1 _ _ _ hX1.b
 have k2:W1.cell? ⟨s+1,2,none⟩=some (.bool true):=cell_of_row W1 (s+1) 2 _ _ _ hX1.b
 have HZ1:=hid hz1
 clear hz1
 have hc1:Calls Tryz.prog 130 #[.pointer (some ⟨b,0,none⟩),.int .i64 who,.agg #[.int .i64 t,.string ⟨#[]⟩,.bool true],.int .i64 2] W1 _:=uY B b bm T who 2 (zD t) ⟨HN.out,yh⟩ hw W1 hA1
 have HC1:=hid hc1
 clear hc1
 obtain ⟨HR1,HR2⟩:=zi2 hr1 hr2
 clear hr1 hr2
 have hoff0:vS T s:=fun p hp=>by have:=HLT.out p hp;have:=HS.out;omega
 have hoff1:vS T (s+1):=fun p hp=>by have:=HLT.out p hp;have:=HS.out;omega
 obtain ⟨HF0,HF1⟩:=zi2 hoff0 hoff1
 have n0:¬ yy bm T s:=by rintro (h1 | ⟨p,hp,h1⟩);omega;exact hoff0 p hp h1
 have n1:¬ yy bm T (s+1):=by rintro (h1 | ⟨p,hp,h1⟩);omega;exact hoff1 p hp h1
 obtain ⟨HN0,HN1⟩:=zi2 n0 n1
 clear hoff0 hoff1 n0 n1
 go_wp2_with (first
  | (go_at_call 130;(with_reducible refine HC1.out.mono ?_);rintro e w2 ⟨rfl,T2,h2,e2,t2,o2⟩;rw [HR1.out];have hX2:=hX1.turns t2 HN0.out HN1.out;have m0:w2.cell? ⟨s,0,none⟩=some (.int .i64 t):=cell_of_row w2 s 0 _ _ _ hX2.a;have m1:w2.cell? ⟨s,1,none⟩=some (.string k):=cell_of_row w2 s 1 _ _ _ hX2.a;have m2:w2.cell? ⟨s,2,none⟩=some (.bool false):=cell_of_row w2 s 2 _ _ _ hX2.a;have E2:=hid e2;have O2:=hid o2;clear e2 o2)
  | (go_at_call 130;have hc2:Calls Tryz.prog 130 #[.pointer (some ⟨b,0,none⟩),.int .i64 who,.agg #[.int .i64 t,.string k,.bool false],.int .i64 3] w2 _:=uY B b bm T2 who 3 (t,k,false) ⟨HN.out,HK.out⟩ hw w2 h2;refine hc2.mono ?_;clear hc2;rintro e w3 ⟨rfl,T3,h3,e3,t3,o3⟩;have E3:=hid e3;have O3:=hid o3;clear e3 o3;rw [E2.out,show takeS (zh T) who (zD t) 2=takeM (zh T) who (zD t) 2 from by (unfold takeS;rw [HR1.out];rfl),HR2.out]))
 go_ret
 have hTw:∀ {v:World},zn (yy bm T) W1 v->zn (fun i=>i=bm∨B<=i) w v:=fun u=>(zn.of_below hB1).trans (u.mono fun i _ hi=>h.ofT hi)
 have e2':zh T2=takeM (zh T) who (zD t) 2:=by rw [E2.out];unfold takeS;rw [HR1.out];rfl
 refine ⟨rfl,T3,h3,?_,(hTw t2).trans (t3.mono fun i _ hi=>h2.ofT hi),((qw.below hB1).trans (qw.take t2 O2.out) hB1.size).trans (qw.take t3 O3.out) (hTw t2).size⟩
 rw [E3.out,e2'];unfold takeS;rw [HR2.out];rfl
theorem zkE (B b bm:Nat) (T:Tb) (who t:Int) (k:ByteArray) (hn:iok t) (hk:k.size<=maxLen) (hw:iok who) (w:World) (h:zM w B b bm T) (hr1:takeB (zh T) who (zD t) 2=true) (hr2:takeB (takeM (zh T) who (zD t) 2) who (t,k,false) 3=false) (h0:(zF (zW (zh T) (zD t)) who).getD 0=0) (hW:WF (zh T)) (he:adel (aput (zW (zh T) (zD t)) who (vz (zh T) who (zD t) 2)) who=[]) :
  Calls Tryz.prog 87 #[.pointer (some ⟨b,0,none⟩),.int .i64 who,.int .i64 t,.string k,.bool true] w fun e w' =>
   e=.returned (.bool false)/\∃ T',zM w' B b bm T'/\zh T'=zh T/\zn (fun i=>i=bm∨B<=i) w w'/\qw w w' bm T T':=by
 have hbw:b<w.heap.size:=(Array.getElem?_eq_some_iff.1 h.blk).1
 have hltT:∀ p∈T,p.2.1<w.heap.size:=fun p hp=>(h.inner p hp).lt
 have hbmlt:=h.outer.lt
 obtain ⟨HN,HK⟩:=zi2 hn hk
 have hB0:Below w.heap.size w ((w.alloc (.cells #[.int .i64 t,.string k,.bool false] 235)).alloc (.cells #[.int .i64 t,.string ⟨#[]⟩,.bool true] 235)):=((Below.refl _ _).alloc (Nat.le_refl _) _).alloc (by simp) _
 have hX0:vK ((w.alloc (.cells #[.int .i64 t,.string k,.bool false] 235)).alloc (.cells #[.int .i64 t,.string ⟨#[]⟩,.bool true] 235)) w.heap.size t k:=by
  refine ⟨(Below.heap_alloc _ _ _ (by simp)).trans (heap_alloc_new w _),?_⟩
  have:=heap_alloc_new (w.alloc (.cells #[.int .i64 t,.string k,.bool false] 235)) (.cells #[.int .i64 t,.string ⟨#[]⟩,.bool true] 235)
  rw [World.size_alloc] at this
  exact this
 have hz0:((w.alloc (.cells #[.int .i64 t,.string k,.bool false] 235)).alloc (.cells #[.int .i64 t,.string ⟨#[]⟩,.bool true] 235)).heap.size=w.heap.size+2:=by simp
 have HLT:=hid hltT
 clear hltT hn hk
 go_enter Tryz.func87,Tryz.ntmps87
 go_wp2_with fail
 generalize (w.alloc (.cells #[.int .i64 t,.string k,.bool false] 235)).alloc (.cells #[.int .i64 t,.string ⟨#[]⟩,.bool true] 235)=W0 at hB0 hX0 hz0 ⊢
 have hA0:=h.below hB0
 obtain ⟨s,hs⟩:∃ s,s=w.heap.size:=⟨_,rfl⟩
 rw [<- hs] at hX0 hz0 hbw hbmlt ⊢
 have HS:=hid hs
 clear hs
 have k0:W0.cell? ⟨s+1,0,none⟩=some (.int .i64 t):=cell_of_row W0 (s+1) 0 _ _ _ hX0.b
 have k1:W0.cell? ⟨s+1,1,none⟩=some (.string ⟨#[]⟩):=cell_of_row W0 (s+1) 1 _ _ _ hX0.b
 have k2:W0.cell? ⟨s+1,2,none⟩=some (.bool true):=cell_of_row W0 (s+1) 2 _ _ _ hX0.b
 have c0:W0.cell? ⟨b,0,none⟩=some (.map (some bm)):=cell_of_row W0 b 0 _ _ _ hA0.blk
 obtain ⟨o,ho⟩:∃ o,o=(zF T (zD t)).map fun q=>q.1:=⟨_,rfl⟩
 obtain ⟨O,hO⟩:∃ O,O=(zF (zW (zh T) (zD t)) who).getD 0:=⟨_,rfl⟩
 have hl1:∀ n,(Instr.lookup 220 (.map (some bm)) (.agg #[.int .i64 t,.string ⟨#[]⟩,.bool true]) false).run Tryz.prog (W0.drewN n)=.ok (.map o) (W0.drewN n):=by
  intro n;rw [ho];exact yC hA0 (zD t) ⟨HN.out,yh⟩ _ rfl
 have hl2:∀ n,(Instr.lookup 137 (.map o) (.int .i64 who) false).run Tryz.prog (W0.drewN n)=.ok (.int .i64 O) (W0.drewN n):=by
  intro n;rw [ho,hO];exact uw hA0 (zD t) who hw _ rfl
 have HO:=hid hO
 clear ho hO
 go_quiet (fail)
 have hA1:zM (W0.drewN nq) B b bm T:=hA0.below ⟨rfl,rfl,rfl,Nat.le_refl _,fun _ _=>rfl⟩
 have hX1:vK (W0.drewN nq) s t k:=⟨hX0.a,hX0.b⟩
 have hz1:(W0.drewN nq).heap.size=s+2:=hz0
 have hB1:Below w.heap.size w (W0.drewN nq):=hB0.trans ⟨rfl,rfl,rfl,Nat.le_refl _,fun _ _=>rfl⟩
 clear k0 k1 k2 c0 hl1 hl2 hA0 hX0 hz0 hB0
 generalize W0.drewN nq=W1 at hA1 hX1 hz1 hB1 ⊢
 have k0:W1.cell? ⟨s+1,0,none⟩=some (.int .i64 t):=cell_of_row W1 (s+1) 0 _ _ _ hX1.b
 have k1:W1.cell? ⟨s+1,1,none⟩=some (.string ⟨#[]⟩):=cell_of_row W1 (s+1) 1 _ _ _ hX1.b
 have k2:W1.cell? ⟨s+1,2,none⟩=some (.bool true):=cell_of_row W1 (s+1) 2 _ _ _ hX1.b
 have HZ1:=hid hz1
 clear hz1
 have hc1:Calls Tryz.prog 130 #[.pointer (some ⟨b,0,none⟩),.int .i64 who,.agg #[.int .i64 t,.string ⟨#[]⟩,.bool true],.int .i64 2] W1 _:=uY B b bm T who 2 (zD t) ⟨HN.out,yh⟩ hw W1 hA1
 have HC1:=hid hc1
 clear hc1
 have hO0:(O == 0)=true:=by rw [HO.out,h0];rfl
 have H0:=hid h0
 clear h0
 have HE:=hid he
 clear he
 obtain ⟨HR1,HR2⟩:=zi2 hr1 hr2
 clear hr1 hr2
 have hoff0:vS T s:=fun p hp=>by have:=HLT.out p hp;have:=HS.out;omega
 have hoff1:vS T (s+1):=fun p hp=>by have:=HLT.out p hp;have:=HS.out;omega
 obtain ⟨HF0,HF1⟩:=zi2 hoff0 hoff1
 have n0:¬ yy bm T s:=by rintro (h1 | ⟨p,hp,h1⟩);omega;exact hoff0 p hp h1
 have n1:¬ yy bm T (s+1):=by rintro (h1 | ⟨p,hp,h1⟩);omega;exact hoff1 p hp h1
 obtain ⟨HN0,HN1⟩:=zi2 n0 n1
 clear hoff0 hoff1 n0 n1
 go_wp2_with (first
  | (go_at_call 130;(with_reducible refine HC1.out.mono ?_);rintro e w2 ⟨rfl,T2,h2,e2,t2,o2⟩;rw [HR1.out];have hX2:=hX1.turns t2 HN0.out HN1.out;have m0:w2.cell? ⟨s,0,none⟩=some (.int .i64 t):=cell_of_row w2 s 0 _ _ _ hX2.a;have m1:w2.cell? ⟨s,1,none⟩=some (.string k):=cell_of_row w2 s 1 _ _ _ hX2.a;have m2:w2.cell? ⟨s,2,none⟩=some (.bool false):=cell_of_row w2 s 2 _ _ _ hX2.a;have E2:=hid e2;have O2:=hid o2;clear e2 o2)
  | (go_at_call 130;have hc2:Calls Tryz.prog 130 #[.pointer (some ⟨b,0,none⟩),.int .i64 who,.agg #[.int .i64 t,.string k,.bool false],.int .i64 3] w2 _:=uY B b bm T2 who 3 (t,k,false) ⟨HN.out,HK.out⟩ hw w2 h2;refine hc2.mono ?_;clear hc2;rintro e w3 ⟨rfl,T3,h3,e3,t3,o3⟩;have E3:=hid e3;have O3:=hid o3;clear e3 o3;rw [E2.out,show takeS (zh T) who (zD t) 2=takeM (zh T) who (zD t) 2 from by (unfold takeS;rw [HR1.out];rfl),HR2.out]))
 have hf20:vS T2 s:=O2.out s (by have:=HZ1.out;omega) HF0.out
 have hf21:vS T2 (s+1):=O2.out (s+1) (by have:=HZ1.out;omega) HF1.out
 have hX3:vK w3 s t k:=hX2.turns t3 (by rintro (h1 | ⟨p,hp,h1⟩);omega;exact hf20 p hp h1) (by rintro (h1 | ⟨p,hp,h1⟩);omega;exact hf21 p hp h1)
 have e2':zh T2=takeM (zh T) who (zD t) 2:=by rw [E2.out];unfold takeS;rw [HR1.out];rfl
 have e3':zh T3=takeM (zh T) who (zD t) 2:=by rw [E3.out,e2'];unfold takeS;rw [HR2.out];rfl
 obtain ⟨L1,hL1⟩:∃ L1,L1=aput (zW (zh T) (zD t)) who (vz (zh T) who (zD t) 2):=⟨_,rfl⟩
 obtain ⟨bi,hbi⟩:∃ bi,zF T3 (zD t)=some (bi,L1):=by
  have h1:zF (zh T3) (zD t)=some L1:=by rw [e3',takeM,Qi,if_pos rfl,hL1]
  rw [uU] at h1
  cases hg:zF T3 (zD t) with
  | none=>rw [hg] at h1;cases h1
  | some q=>obtain ⟨b1,l1⟩:=q;rw [hg] at h1;injection h1 with h1;exact ⟨b1,by rw [<- h1]⟩
 have hf31:vS T3 (s+1):=O3.out (s+1) (by have:=HZ1.out;have:=t2.size;omega) hf21
 have hbis:¬ s+1=bi:=fun e=>hf31 _ (qP hbi) e.symm
 have hin3:=h3.get hbi
 have hbibm:¬ bm=bi:=by have:=h3.low;omega
 have hTw3:zn (fun i=>i=bm∨B<=i) w w3:=((zn.of_below hB1).trans (t2.mono fun i _ hi=>h.ofT hi)).trans (t3.mono fun i _ hi=>h2.ofT hi)
 have hlk:∀ (W':World),W'.heap[bm]?=w3.heap[bm]?->(Instr.lookup 220 (.map (some bm)) (.agg #[.int .i64 t,.string ⟨#[]⟩,.bool true]) false).run Tryz.prog W'=.ok (.map (some bi)) W':=by
  intro W' hW'
  have:=yC h3 (zD t) ⟨HN.out,yh⟩ W' hW'
  rw [hbi] at this
  exact this
 have KP3:=hid (show qw w w3 bm T T3 from ((qw.below hB1).trans (qw.take t2 O2.out) hB1.size).trans (qw.take t3 O3.out) (Nat.le_trans hB1.size t2.size))
 have HE3:=hid e3'
 obtain ⟨HL1,HBI,HLK⟩:=zi3 hL1 hbi hlk
 have HBX:=hid hX3.b
 clear hf20 hf21 hX3 e2' e3' hL1 hbi hlk hf31 hX2 m0 m1 m2 k0 k1 k2 hA1 hX1 hB1 t2 t3 E2 E3 O2 O3 HC1 HN0 HN1 hbw
 have k0:w3.cell? ⟨s+1,0,none⟩=some (.int .i64 t):=cell_of_row w3 (s+1) 0 _ _ _ HBX.out
 have k1:w3.cell? ⟨s+1,1,none⟩=some (.string ⟨#[]⟩):=cell_of_row w3 (s+1) 1 _ _ _ HBX.out
 have k2:w3.cell? ⟨s+1,2,none⟩=some (.bool true):=cell_of_row w3 (s+1) 2 _ _ _ HBX.out
 have c0:w3.cell? ⟨b,0,none⟩=some (.map (some bm)):=cell_of_row w3 b 0 _ _ _ h3.blk
 have hl12:(Instr.lookup 220 (.map (some bm)) (.agg #[.int .i64 t,.string ⟨#[]⟩,.bool true]) false).run Tryz.prog w3.drew=.ok (.map (some bi)) w3.drew:=HLK.out _ rfl
 go_still_tail 7,(by kernel_rfl)
 clear hl12
 change wpList _ _ _ _ _ w3.drew
 refine vt _ rfl _ _ 137 3 rfl ut Tryz.underlying137 rfl hin3.1.drew who rfl hw ?_
 intro w4 h4 t4
 go_frame
 have hT4:zn (fun i=>i=bi) w3 w4:=((zn.refl _ _).drew).turned t4 (.inr rfl)
 have hA4:=h3.change HBI.out hT4 h4
 have hBX4:=(hT4.block (s+1) (Array.getElem?_eq_some_iff.1 HBX.out).1 hbis).trans HBX.out
 have hTw4:zn (fun i=>i=bm∨B<=i) w w4:=hTw3.trans (hT4.mono fun i _ e=>.inr (by rw [e];exact hin3.2))
 have KP4:=hid (show qw w w4 bm T (aput T3 (zD t) (bi,adel L1 who)) from KP3.out.trans (qw.change HBI.out hT4) hTw3.size)
 have hl13:∀ n,(Instr.lookup 220 (.map (some bm)) (.agg #[.int .i64 t,.string ⟨#[]⟩,.bool true]) false).run Tryz.prog (w4.drewN n)=.ok (.map (some bi)) (w4.drewN n):=fun n=>HLK.out _ (hT4.block bm h3.outer.lt hbibm)
 have hln:∀ n ty,(Builtin.len_ #[137] ty #[.map (some bi)]).run Tryz.prog (w4.drewN n)=.ok (.int .i64 (adel L1 who).length) (w4.drewN n):=fun n ty=>(h4.drewN n).len Tryz.underlying137 ty
 clear k0 k1 k2 c0 hin3 t4 h4 hTw3 HBX
 have k0:w4.cell? ⟨s+1,0,none⟩=some (.int .i64 t):=cell_of_row w4 (s+1) 0 _ _ _ hBX4
 have k1:w4.cell? ⟨s+1,1,none⟩=some (.string ⟨#[]⟩):=cell_of_row w4 (s+1) 1 _ _ _ hBX4
 have k2:w4.cell? ⟨s+1,2,none⟩=some (.bool true):=cell_of_row w4 (s+1) 2 _ _ _ hBX4
 have c0:w4.cell? ⟨b,0,none⟩=some (.map (some bm)):=cell_of_row w4 b 0 _ _ _ hA4.blk
 have hlen:(((adel L1 who).length:Int) == 0)=true:=by rw [HL1.out,HE.out];rfl
 go_wp2_with fail
 go_quiet (fail)
 have hA5:zM (w4.drewN nq) B b bm (aput T3 (zD t) (bi,adel L1 who)):=hA4.below ⟨rfl,rfl,rfl,Nat.le_refl _,fun _ _=>rfl⟩
 have hBX5:(w4.drewN nq).heap[s+1]?=_:=hBX4
 have hTw5:zn (fun i=>i=bm∨B<=i) w (w4.drewN nq):=hTw4.drewN nq
 have KP5:=hid (show qw w (w4.drewN nq) bm T (aput T3 (zD t) (bi,adel L1 who)) from KP4.out)
 clear k0 k1 k2 c0 hl13 hln hA4 hBX4 hTw4 hT4
 generalize w4.drewN nq=W5 at hA5 hBX5 hTw5 KP5 ⊢
 have k0:W5.cell? ⟨s+1,0,none⟩=some (.int .i64 t):=cell_of_row W5 (s+1) 0 _ _ _ hBX5
 have k1:W5.cell? ⟨s+1,1,none⟩=some (.string ⟨#[]⟩):=cell_of_row W5 (s+1) 1 _ _ _ hBX5
 have k2:W5.cell? ⟨s+1,2,none⟩=some (.bool true):=cell_of_row W5 (s+1) 2 _ _ _ hBX5
 have c0:W5.cell? ⟨b,0,none⟩=some (.map (some bm)):=cell_of_row W5 b 0 _ _ _ hA5.blk
 go_wp2_with fail
 go_still_tail 5,(by kernel_rfl)
 change wpList _ _ _ _ _ W5.drew
 refine vt _ rfl _ _ 220 137 rfl JS Tryz.underlying220 rfl hA5.outer.drew (zD t) rfl ⟨HN.out,yh⟩ ?_
 intro w6 h6 t6
 go_frame
 go_wp2_with fail
 go_ret
 have hT6:zn (fun i=>i=bm) W5 w6:=((zn.refl _ _).drew).turned t6 (.inr rfl)
 refine ⟨rfl,_,hA5.drop (zD t) hT6 h6,?_,hTw5.trans (hT6.mono fun i _ e=>.inl e),KP5.out.trans (qw.drop (zD t) hT6) hTw5.size⟩
 have e1:adel (takeM (zh T) who (zD t) 2) (zD t)=zh T:=zdY hW (zD t) who _ H0.out HE.out
 rw [zcQ,ux,HE3.out,Qh];exact e1
theorem zkF (B b bm:Nat) (T:Tb) (who t:Int) (k:ByteArray) (hn:iok t) (hk:k.size<=maxLen) (hw:iok who) (w:World) (h:zM w B b bm T) (hr1:takeB (zh T) who (zD t) 2=true) (hr2:takeB (takeM (zh T) who (zD t) 2) who (t,k,false) 3=false) (h0:(zF (zW (zh T) (zD t)) who).getD 0=0) (hW:WF (zh T)) (he:adel (aput (zW (zh T) (zD t)) who (vz (zh T) who (zD t) 2)) who≠[]) :
  Calls Tryz.prog 87 #[.pointer (some ⟨b,0,none⟩),.int .i64 who,.int .i64 t,.string k,.bool true] w fun e w' =>
   e=.returned (.bool false)/\∃ T',zM w' B b bm T'/\zh T'=zh T/\zn (fun i=>i=bm∨B<=i) w w'/\qw w w' bm T T':=by
 have hbw:b<w.heap.size:=(Array.getElem?_eq_some_iff.1 h.blk).1
 have hltT:∀ p∈T,p.2.1<w.heap.size:=fun p hp=>(h.inner p hp).lt
 have hbmlt:=h.outer.lt
 obtain ⟨HN,HK⟩:=zi2 hn hk
 have hB0:Below w.heap.size w ((w.alloc (.cells #[.int .i64 t,.string k,.bool false] 235)).alloc (.cells #[.int .i64 t,.string ⟨#[]⟩,.bool true] 235)):=((Below.refl _ _).alloc (Nat.le_refl _) _).alloc (by simp) _
 have hX0:vK ((w.alloc (.cells #[.int .i64 t,.string k,.bool false] 235)).alloc (.cells #[.int .i64 t,.string ⟨#[]⟩,.bool true] 235)) w.heap.size t k:=by
  refine ⟨(Below.heap_alloc _ _ _ (by simp)).trans (heap_alloc_new w _),?_⟩
  have:=heap_alloc_new (w.alloc (.cells #[.int .i64 t,.string k,.bool false] 235)) (.cells #[.int .i64 t,.string ⟨#[]⟩,.bool true] 235)
  rw [World.size_alloc] at this
  exact this
 have hz0:((w.alloc (.cells #[.int .i64 t,.string k,.bool false] 235)).alloc (.cells #[.int .i64 t,.string ⟨#[]⟩,.bool true] 235)).heap.size=w.heap.size+2:=by simp
 have HLT:=hid hltT
 clear hltT hn hk
 go_enter Tryz.func87,Tryz.ntmps87
 go_wp2_with fail
 generalize (w.alloc (.cells #[.int .i64 t,.string k,.bool false] 235)).alloc (.cells #[.int .i64 t,.string ⟨#[]⟩,.bool true] 235)=W0 at hB0 hX0 hz0 ⊢
 have hA0:=h.below hB0
 obtain ⟨s,hs⟩:∃ s,s=w.heap.size:=⟨_,rfl⟩
 rw [<- hs] at hX0 hz0 hbw hbmlt ⊢
 have HS:=hid hs
 clear hs
 have k0:W0.cell? ⟨s+1,0,none⟩=some (.int .i64 t):=cell_of_row W0 (s+1) 0 _ _ _ hX0.b
 have k1:W0.cell? ⟨s+1,1,none⟩=some (.string ⟨#[]⟩):=cell_of_row W0 (s+1) 1 _ _ _ hX0.b
 have k2:W0.cell? ⟨s+1,2,none⟩=some (.bool true):=cell_of_row W0 (s+1) 2 _ _ _ hX0.b
 have c0:W0.cell? ⟨b,0,none⟩=some (.map (some bm)):=cell_of_row W0 b 0 _ _ _ hA0.blk
 obtain ⟨o,ho⟩:∃ o,o=(zF T (zD t)).map fun q=>q.1:=⟨_,rfl⟩
 obtain ⟨O,hO⟩:∃ O,O=(zF (zW (zh T) (zD t)) who).getD 0:=⟨_,rfl⟩
 have hl1:∀ n,(Instr.lookup 220 (.map (some bm)) (.agg #[.int .i64 t,.string ⟨#[]⟩,.bool true]) false).run Tryz.prog (W0.drewN n)=.ok (.map o) (W0.drewN n):=by
  intro n;rw [ho];exact yC hA0 (zD t) ⟨HN.out,yh⟩ _ rfl
 have hl2:∀ n,(Instr.lookup 137 (.map o) (.int .i64 who) false).run Tryz.prog (W0.drewN n)=.ok (.int .i64 O) (W0.drewN n):=by
  intro n;rw [ho,hO];exact uw hA0 (zD t) who hw _ rfl
 have HO:=hid hO
 clear ho hO
 go_quiet (fail)
 have hA1:zM (W0.drewN nq) B b bm T:=hA0.below ⟨rfl,rfl,rfl,Nat.le_refl _,fun _ _=>rfl⟩
 have hX1:vK (W0.drewN nq) s t k:=⟨hX0.a,hX0.b⟩
 have hz1:(W0.drewN nq).heap.size=s+2:=hz0
 have hB1:Below w.heap.size w (W0.drewN nq):=hB0.trans ⟨rfl,rfl,rfl,Nat.le_refl _,fun _ _=>rfl⟩
 clear k0 k1 k2 c0 hl1 hl2 hA0 hX0 hz0 hB0
 generalize W0.drewN nq=W1 at hA1 hX1 hz1 hB1 ⊢
 have k0:W1.cell? ⟨s+1,0,none⟩=some (.int .i64 t):=cell_of_row W1 (s+1) 0 _ _ _ hX1.b
 have k1:W1.cell? ⟨s+1,1,none⟩=some (.string ⟨#[]⟩):=cell_of_row W1 (s+1) 1 _ _ _ hX1.b
 have k2:W1.cell? ⟨s+1,2,none⟩=some (.bool true):=cell_of_row W1 (s+1) 2 _ _ _ hX1.b
 have HZ1:=hid hz1
 clear hz1
 have hc1:Calls Tryz.prog 130 #[.pointer (some ⟨b,0,none⟩),.int .i64 who,.agg #[.int .i64 t,.string ⟨#[]⟩,.bool true],.int .i64 2] W1 _:=uY B b bm T who 2 (zD t) ⟨HN.out,yh⟩ hw W1 hA1
 have HC1:=hid hc1
 clear hc1
 have hO0:(O == 0)=true:=by rw [HO.out,h0];rfl
 have H0:=hid h0
 clear h0
 have HE:=hid he
 clear he
 obtain ⟨HR1,HR2⟩:=zi2 hr1 hr2
 clear hr1 hr2
 have hoff0:vS T s:=fun p hp=>by have:=HLT.out p hp;have:=HS.out;omega
 have hoff1:vS T (s+1):=fun p hp=>by have:=HLT.out p hp;have:=HS.out;omega
 obtain ⟨HF0,HF1⟩:=zi2 hoff0 hoff1
 have n0:¬ yy bm T s:=by rintro (h1 | ⟨p,hp,h1⟩);omega;exact hoff0 p hp h1
 have n1:¬ yy bm T (s+1):=by rintro (h1 | ⟨p,hp,h1⟩);omega;exact hoff1 p hp h1
 obtain ⟨HN0,HN1⟩:=zi2 n0 n1
 clear hoff0 hoff1 n0 n1
 go_wp2_with (first
  | (go_at_call 130;(with_reducible refine HC1.out.mono ?_);rintro e w2 ⟨rfl,T2,h2,e2,t2,o2⟩;rw [HR1.out];have hX2:=hX1.turns t2 HN0.out HN1.out;have m0:w2.cell? ⟨s,0,none⟩=some (.int .i64 t):=cell_of_row w2 s 0 _ _ _ hX2.a;have m1:w2.cell? ⟨s,1,none⟩=some (.string k):=cell_of_row w2 s 1 _ _ _ hX2.a;have m2:w2.cell? ⟨s,2,none⟩=some (.bool false):=cell_of_row w2 s 2 _ _ _ hX2.a;have E2:=hid e2;have O2:=hid o2;clear e2 o2)
  | (go_at_call 130;have hc2:Calls Tryz.prog 130 #[.pointer (some ⟨b,0,none⟩),.int .i64 who,.agg #[.int .i64 t,.string k,.bool false],.int .i64 3] w2 _:=uY B b bm T2 who 3 (t,k,false) ⟨HN.out,HK.out⟩ hw w2 h2;refine hc2.mono ?_;clear hc2;rintro e w3 ⟨rfl,T3,h3,e3,t3,o3⟩;have E3:=hid e3;have O3:=hid o3;clear e3 o3;rw [E2.out,show takeS (zh T) who (zD t) 2=takeM (zh T) who (zD t) 2 from by (unfold takeS;rw [HR1.out];rfl),HR2.out]))
 have hf20:vS T2 s:=O2.out s (by have:=HZ1.out;omega) HF0.out
 have hf21:vS T2 (s+1):=O2.out (s+1) (by have:=HZ1.out;omega) HF1.out
 have hX3:vK w3 s t k:=hX2.turns t3 (by rintro (h1 | ⟨p,hp,h1⟩);omega;exact hf20 p hp h1) (by rintro (h1 | ⟨p,hp,h1⟩);omega;exact hf21 p hp h1)
 have e2':zh T2=takeM (zh T) who (zD t) 2:=by rw [E2.out];unfold takeS;rw [HR1.out];rfl
 have e3':zh T3=takeM (zh T) who (zD t) 2:=by rw [E3.out,e2'];unfold takeS;rw [HR2.out];rfl
 obtain ⟨L1,hL1⟩:∃ L1,L1=aput (zW (zh T) (zD t)) who (vz (zh T) who (zD t) 2):=⟨_,rfl⟩
 obtain ⟨bi,hbi⟩:∃ bi,zF T3 (zD t)=some (bi,L1):=by
  have h1:zF (zh T3) (zD t)=some L1:=by rw [e3',takeM,Qi,if_pos rfl,hL1]
  rw [uU] at h1
  cases hg:zF T3 (zD t) with
  | none=>rw [hg] at h1;cases h1
  | some q=>obtain ⟨b1,l1⟩:=q;rw [hg] at h1;injection h1 with h1;exact ⟨b1,by rw [<- h1]⟩
 have hf31:vS T3 (s+1):=O3.out (s+1) (by have:=HZ1.out;have:=t2.size;omega) hf21
 have hbis:¬ s+1=bi:=fun e=>hf31 _ (qP hbi) e.symm
 have hin3:=h3.get hbi
 have hbibm:¬ bm=bi:=by have:=h3.low;omega
 have hTw3:zn (fun i=>i=bm∨B<=i) w w3:=((zn.of_below hB1).trans (t2.mono fun i _ hi=>h.ofT hi)).trans (t3.mono fun i _ hi=>h2.ofT hi)
 have hlk:∀ (W':World),W'.heap[bm]?=w3.heap[bm]?->(Instr.lookup 220 (.map (some bm)) (.agg #[.int .i64 t,.string ⟨#[]⟩,.bool true]) false).run Tryz.prog W'=.ok (.map (some bi)) W':=by
  intro W' hW'
  have:=yC h3 (zD t) ⟨HN.out,yh⟩ W' hW'
  rw [hbi] at this
  exact this
 have KP3:=hid (show qw w w3 bm T T3 from ((qw.below hB1).trans (qw.take t2 O2.out) hB1.size).trans (qw.take t3 O3.out) (Nat.le_trans hB1.size t2.size))
 have HE3:=hid e3'
 obtain ⟨HL1,HBI,HLK⟩:=zi3 hL1 hbi hlk
 have HBX:=hid hX3.b
 clear hf20 hf21 hX3 e2' e3' hL1 hbi hlk hf31 hX2 m0 m1 m2 k0 k1 k2 hA1 hX1 hB1 t2 t3 E2 E3 O2 O3 HC1 HN0 HN1 hbw
 have k0:w3.cell? ⟨s+1,0,none⟩=some (.int .i64 t):=cell_of_row w3 (s+1) 0 _ _ _ HBX.out
 have k1:w3.cell? ⟨s+1,1,none⟩=some (.string ⟨#[]⟩):=cell_of_row w3 (s+1) 1 _ _ _ HBX.out
 have k2:w3.cell? ⟨s+1,2,none⟩=some (.bool true):=cell_of_row w3 (s+1) 2 _ _ _ HBX.out
 have c0:w3.cell? ⟨b,0,none⟩=some (.map (some bm)):=cell_of_row w3 b 0 _ _ _ h3.blk
 have hl12:(Instr.lookup 220 (.map (some bm)) (.agg #[.int .i64 t,.string ⟨#[]⟩,.bool true]) false).run Tryz.prog w3.drew=.ok (.map (some bi)) w3.drew:=HLK.out _ rfl
 go_still_tail 7,(by kernel_rfl)
 clear hl12
 change wpList _ _ _ _ _ w3.drew
 refine vt _ rfl _ _ 137 3 rfl ut Tryz.underlying137 rfl hin3.1.drew who rfl hw ?_
 intro w4 h4 t4
 go_frame
 have hT4:zn (fun i=>i=bi) w3 w4:=((zn.refl _ _).drew).turned t4 (.inr rfl)
 have hA4:=h3.change HBI.out hT4 h4
 have hBX4:=(hT4.block (s+1) (Array.getElem?_eq_some_iff.1 HBX.out).1 hbis).trans HBX.out
 have hTw4:zn (fun i=>i=bm∨B<=i) w w4:=hTw3.trans (hT4.mono fun i _ e=>.inr (by rw [e];exact hin3.2))
 have KP4:=hid (show qw w w4 bm T (aput T3 (zD t) (bi,adel L1 who)) from KP3.out.trans (qw.change HBI.out hT4) hTw3.size)
 have hl13:∀ n,(Instr.lookup 220 (.map (some bm)) (.agg #[.int .i64 t,.string ⟨#[]⟩,.bool true]) false).run Tryz.prog (w4.drewN n)=.ok (.map (some bi)) (w4.drewN n):=fun n=>HLK.out _ (hT4.block bm h3.outer.lt hbibm)
 have hln:∀ n ty,(Builtin.len_ #[137] ty #[.map (some bi)]).run Tryz.prog (w4.drewN n)=.ok (.int .i64 (adel L1 who).length) (w4.drewN n):=fun n ty=>(h4.drewN n).len Tryz.underlying137 ty
 clear k0 k1 k2 c0 hin3 t4 h4 hTw3 HBX
 have k0:w4.cell? ⟨s+1,0,none⟩=some (.int .i64 t):=cell_of_row w4 (s+1) 0 _ _ _ hBX4
 have k1:w4.cell? ⟨s+1,1,none⟩=some (.string ⟨#[]⟩):=cell_of_row w4 (s+1) 1 _ _ _ hBX4
 have k2:w4.cell? ⟨s+1,2,none⟩=some (.bool true):=cell_of_row w4 (s+1) 2 _ _ _ hBX4
 have c0:w4.cell? ⟨b,0,none⟩=some (.map (some bm)):=cell_of_row w4 b 0 _ _ _ hA4.blk
 have hlen:(((adel L1 who).length:Int) == 0)=false:=by
  have:=HE.out
  rw [<- HL1.out] at this
  have h1:(adel L1 who).length≠0:=fun e=>this (List.eq_nil_of_length_eq_zero e)
  simp;omega
 go_wp2_with fail
 go_quiet (fail)
 go_wp2_with fail
 go_ret
 have hA5:zM (w4.drewN nq) B b bm (aput T3 (zD t) (bi,adel L1 who)):=hA4.below ⟨rfl,rfl,rfl,Nat.le_refl _,fun _ _=>rfl⟩
 refine ⟨rfl,_,hA5,?_,hTw4.drewN nq,KP4.out⟩
 rw [ux,HE3.out,HL1.out]
 exact zdZ h.apartM hW (zD t) who _ H0.out HE.out
theorem zkG (B b bm:Nat) (T:Tb) (who t:Int) (k:ByteArray) (hn:iok t) (hk:k.size<=maxLen) (hw:iok who) (w:World) (h:zM w B b bm T) (hr1:takeB (zh T) who (zD t) 2=true) (hr2:takeB (takeM (zh T) who (zD t) 2) who (t,k,false) 3=false) (h0:(zF (zW (zh T) (zD t)) who).getD 0≠0) (hW:WF (zh T)) :
  Calls Tryz.prog 87 #[.pointer (some ⟨b,0,none⟩),.int .i64 who,.int .i64 t,.string k,.bool true] w fun e w' =>
   e=.returned (.bool false)/\∃ T',zM w' B b bm T'/\zh T'=zh T/\zn (fun i=>i=bm∨B<=i) w w'/\qw w w' bm T T':=by
 have hbw:b<w.heap.size:=(Array.getElem?_eq_some_iff.1 h.blk).1
 have hltT:∀ p∈T,p.2.1<w.heap.size:=fun p hp=>(h.inner p hp).lt
 have hbmlt:=h.outer.lt
 obtain ⟨HN,HK⟩:=zi2 hn hk
 have hB0:Below w.heap.size w ((w.alloc (.cells #[.int .i64 t,.string k,.bool false] 235)).alloc (.cells #[.int .i64 t,.string ⟨#[]⟩,.bool true] 235)):=((Below.refl _ _).alloc (Nat.le_refl _) _).alloc (by simp) _
 have hX0:vK ((w.alloc (.cells #[.int .i64 t,.string k,.bool false] 235)).alloc (.cells #[.int .i64 t,.string ⟨#[]⟩,.bool true] 235)) w.heap.size t k:=by
  refine ⟨(Below.heap_alloc _ _ _ (by simp)).trans (heap_alloc_new w _),?_⟩
  have:=heap_alloc_new (w.alloc (.cells #[.int .i64 t,.string k,.bool false] 235)) (.cells #[.int .i64 t,.string ⟨#[]⟩,.bool true] 235)
  rw [World.size_alloc] at this
  exact this
 have hz0:((w.alloc (.cells #[.int .i64 t,.string k,.bool false] 235)).alloc (.cells #[.int .i64 t,.string ⟨#[]⟩,.bool true] 235)).heap.size=w.heap.size+2:=by simp
 have HLT:=hid hltT
 clear hltT hn hk
 go_enter Tryz.func87,Tryz.ntmps87
 go_wp2_with fail
 generalize (w.alloc (.cells #[.int .i64 t,.string k,.bool false] 235)).alloc (.cells #[.int .i64 t,.string ⟨#[]⟩,.bool true] 235)=W0 at hB0 hX0 hz0 ⊢
 have hA0:=h.below hB0
 obtain ⟨s,hs⟩:∃ s,s=w.heap.size:=⟨_,rfl⟩
 rw [<- hs] at hX0 hz0 hbw hbmlt ⊢
 have HS:=hid hs
 clear hs
 have k0:W0.cell? ⟨s+1,0,none⟩=some (.int .i64 t):=cell_of_row W0 (s+1) 0 _ _ _ hX0.b
 have k1:W0.cell? ⟨s+1,1,none⟩=some (.string ⟨#[]⟩):=cell_of_row W0 (s+1) 1 _ _ _ hX0.b
 have k2:W0.cell? ⟨s+1,2,none⟩=some (.bool true):=cell_of_row W0 (s+1) 2 _ _ _ hX0.b
 have c0:W0.cell? ⟨b,0,none⟩=some (.map (some bm)):=cell_of_row W0 b 0 _ _ _ hA0.blk
 obtain ⟨o,ho⟩:∃ o,o=(zF T (zD t)).map fun q=>q.1:=⟨_,rfl⟩
 obtain ⟨O,hO⟩:∃ O,O=(zF (zW (zh T) (zD t)) who).getD 0:=⟨_,rfl⟩
 have hl1:∀ n,(Instr.lookup 220 (.map (some bm)) (.agg #[.int .i64 t,.string ⟨#[]⟩,.bool true]) false).run Tryz.prog (W0.drewN n)=.ok (.map o) (W0.drewN n):=by
  intro n;rw [ho];exact yC hA0 (zD t) ⟨HN.out,yh⟩ _ rfl
 have hl2:∀ n,(Instr.lookup 137 (.map o) (.int .i64 who) false).run Tryz.prog (W0.drewN n)=.ok (.int .i64 O) (W0.drewN n):=by
  intro n;rw [ho,hO];exact uw hA0 (zD t) who hw _ rfl
 have HO:=hid hO
 clear ho hO
 go_quiet (fail)
 have hA1:zM (W0.drewN nq) B b bm T:=hA0.below ⟨rfl,rfl,rfl,Nat.le_refl _,fun _ _=>rfl⟩
 have hX1:vK (W0.drewN nq) s t k:=⟨hX0.a,hX0.b⟩
 have hz1:(W0.drewN nq).heap.size=s+2:=hz0
 have hB1:Below w.heap.size w (W0.drewN nq):=hB0.trans ⟨rfl,rfl,rfl,Nat.le_refl _,fun _ _=>rfl⟩
 clear k0 k1 k2 c0 hl1 hl2 hA0 hX0 hz0 hB0
 generalize W0.drewN nq=W1 at hA1 hX1 hz1 hB1 ⊢
 have k0:W1.cell? ⟨s+1,0,none⟩=some (.int .i64 t):=cell_of_row W1 (s+1) 0 _ _ _ hX1.b
 have k1:W1.cell? ⟨s+1,1,none⟩=some (.string ⟨#[]⟩):=cell_of_row W1 (s+1) 1 _ _ _ hX1.b
 have k2:W1.cell? ⟨s+1,2,none⟩=some (.bool true):=cell_of_row W1 (s+1) 2 _ _ _ hX1.b
 have HZ1:=hid hz1
 clear hz1
 have hc1:Calls Tryz.prog 130 #[.pointer (some ⟨b,0,none⟩),.int .i64 who,.agg #[.int .i64 t,.string ⟨#[]⟩,.bool true],.int .i64 2] W1 _:=uY B b bm T who 2 (zD t) ⟨HN.out,yh⟩ hw W1 hA1
 have HC1:=hid hc1
 clear hc1
 have hO0:(O == 0)=false:=by rw [HO.out];simpa using h0
 have H0:=hid h0
 clear h0
 obtain ⟨HR1,HR2⟩:=zi2 hr1 hr2
 clear hr1 hr2
 have hoff0:vS T s:=fun p hp=>by have:=HLT.out p hp;have:=HS.out;omega
 have hoff1:vS T (s+1):=fun p hp=>by have:=HLT.out p hp;have:=HS.out;omega
 obtain ⟨HF0,HF1⟩:=zi2 hoff0 hoff1
 have n0:¬ yy bm T s:=by rintro (h1 | ⟨p,hp,h1⟩);omega;exact hoff0 p hp h1
 have n1:¬ yy bm T (s+1):=by rintro (h1 | ⟨p,hp,h1⟩);omega;exact hoff1 p hp h1
 obtain ⟨HN0,HN1⟩:=zi2 n0 n1
 clear hoff0 hoff1 n0 n1
 go_wp2_with (first
  | (go_at_call 130;(with_reducible refine HC1.out.mono ?_);rintro e w2 ⟨rfl,T2,h2,e2,t2,o2⟩;rw [HR1.out];have hX2:=hX1.turns t2 HN0.out HN1.out;have m0:w2.cell? ⟨s,0,none⟩=some (.int .i64 t):=cell_of_row w2 s 0 _ _ _ hX2.a;have m1:w2.cell? ⟨s,1,none⟩=some (.string k):=cell_of_row w2 s 1 _ _ _ hX2.a;have m2:w2.cell? ⟨s,2,none⟩=some (.bool false):=cell_of_row w2 s 2 _ _ _ hX2.a;have E2:=hid e2;have O2:=hid o2;clear e2 o2)
  | (go_at_call 130;have hc2:Calls Tryz.prog 130 #[.pointer (some ⟨b,0,none⟩),.int .i64 who,.agg #[.int .i64 t,.string k,.bool false],.int .i64 3] w2 _:=uY B b bm T2 who 3 (t,k,false) ⟨HN.out,HK.out⟩ hw w2 h2;refine hc2.mono ?_;clear hc2;rintro e w3 ⟨rfl,T3,h3,e3,t3,o3⟩;have E3:=hid e3;have O3:=hid o3;clear e3 o3;rw [E2.out,show takeS (zh T) who (zD t) 2=takeM (zh T) who (zD t) 2 from by (unfold takeS;rw [HR1.out];rfl),HR2.out]))
 have hf20:vS T2 s:=O2.out s (by have:=HZ1.out;omega) HF0.out
 have hf21:vS T2 (s+1):=O2.out (s+1) (by have:=HZ1.out;omega) HF1.out
 have hX3:vK w3 s t k:=hX2.turns t3 (by rintro (h1 | ⟨p,hp,h1⟩);omega;exact hf20 p hp h1) (by rintro (h1 | ⟨p,hp,h1⟩);omega;exact hf21 p hp h1)
 have e2':zh T2=takeM (zh T) who (zD t) 2:=by rw [E2.out];unfold takeS;rw [HR1.out];rfl
 have e3':zh T3=takeM (zh T) who (zD t) 2:=by rw [E3.out,e2'];unfold takeS;rw [HR2.out];rfl
 obtain ⟨L1,hL1⟩:∃ L1,L1=aput (zW (zh T) (zD t)) who (vz (zh T) who (zD t) 2):=⟨_,rfl⟩
 obtain ⟨bi,hbi⟩:∃ bi,zF T3 (zD t)=some (bi,L1):=by
  have h1:zF (zh T3) (zD t)=some L1:=by rw [e3',takeM,Qi,if_pos rfl,hL1]
  rw [uU] at h1
  cases hg:zF T3 (zD t) with
  | none=>rw [hg] at h1;cases h1
  | some q=>obtain ⟨b1,l1⟩:=q;rw [hg] at h1;injection h1 with h1;exact ⟨b1,by rw [<- h1]⟩
 have hf31:vS T3 (s+1):=O3.out (s+1) (by have:=HZ1.out;have:=t2.size;omega) hf21
 have hbis:¬ s+1=bi:=fun e=>hf31 _ (qP hbi) e.symm
 have hin3:=h3.get hbi
 have hbibm:¬ bm=bi:=by have:=h3.low;omega
 have hTw3:zn (fun i=>i=bm∨B<=i) w w3:=((zn.of_below hB1).trans (t2.mono fun i _ hi=>h.ofT hi)).trans (t3.mono fun i _ hi=>h2.ofT hi)
 have hlk:∀ (W':World),W'.heap[bm]?=w3.heap[bm]?->(Instr.lookup 220 (.map (some bm)) (.agg #[.int .i64 t,.string ⟨#[]⟩,.bool true]) false).run Tryz.prog W'=.ok (.map (some bi)) W':=by
  intro W' hW'
  have:=yC h3 (zD t) ⟨HN.out,yh⟩ W' hW'
  rw [hbi] at this
  exact this
 have KP3:=hid (show qw w w3 bm T T3 from ((qw.below hB1).trans (qw.take t2 O2.out) hB1.size).trans (qw.take t3 O3.out) (Nat.le_trans hB1.size t2.size))
 have HE3:=hid e3'
 obtain ⟨HL1,HBI,HLK⟩:=zi3 hL1 hbi hlk
 have HBX:=hid hX3.b
 clear hf20 hf21 hX3 e2' e3' hL1 hbi hlk hf31 hX2 m0 m1 m2 k0 k1 k2 hA1 hX1 hB1 t2 t3 E2 E3 O2 O3 HC1 HN0 HN1 hbw
 have k0:w3.cell? ⟨s+1,0,none⟩=some (.int .i64 t):=cell_of_row w3 (s+1) 0 _ _ _ HBX.out
 have k1:w3.cell? ⟨s+1,1,none⟩=some (.string ⟨#[]⟩):=cell_of_row w3 (s+1) 1 _ _ _ HBX.out
 have k2:w3.cell? ⟨s+1,2,none⟩=some (.bool true):=cell_of_row w3 (s+1) 2 _ _ _ HBX.out
 have c0:w3.cell? ⟨b,0,none⟩=some (.map (some bm)):=cell_of_row w3 b 0 _ _ _ h3.blk
 have hl12:(Instr.lookup 220 (.map (some bm)) (.agg #[.int .i64 t,.string ⟨#[]⟩,.bool true]) false).run Tryz.prog w3.drew=.ok (.map (some bi)) w3.drew:=HLK.out _ rfl
 go_still_tail 8,(by kernel_rfl)
 clear hl12
 change wpList _ _ _ _ _ w3.drew
 refine yu _ rfl _ _ _ 137 3 rfl ut Tryz.underlying137 rfl hin3.1.drew who rfl hw O rfl ?_
 intro w4 h4 t4
 go_frame
 go_wp2_with fail
 go_ret
 have hT4:zn (fun i=>i=bi) w3 w4:=((zn.refl _ _).drew).turned t4 (.inr rfl)
 have hA4:=h3.change HBI.out hT4 h4
 refine ⟨rfl,_,hA4,?_,hTw3.trans (hT4.mono fun i _ e=>.inr (by rw [e];exact hin3.2)),KP3.out.trans (qw.change HBI.out hT4) hTw3.size⟩
 rw [ux,HE3.out,HL1.out,HO.out]
 exact zdf h.apartM hW (zD t) who _ H0.out
theorem zlj (B b bm:Nat) (T:Tb) (who t:Int) (k:ByteArray) (hn:iok t) (hk:k.size<=maxLen) (hw:iok who) (w:World) (hT:zM w B b bm T) (hW:WF (zh T)) :
  Calls Tryz.prog 87 #[.pointer (some ⟨b,0,none⟩),.int .i64 who,.int .i64 t,.string k,.bool true] w fun e w' =>
   e=.returned (.bool (keyB (zh T) who t k))/\∃ T',zM w' B b bm T'/\zh T'=keyS (zh T) who t k/\zn (fun i=>i=bm∨B<=i) w w'/\qw w w' bm T T':=by
 cases hr1:takeB (zh T) who (zD t) 2 with
 | false =>
  have e1:keyB (zh T) who t k=false:=by unfold keyB;rw [hr1];rfl
  have e2:keyS (zh T) who t k=zh T:=by unfold keyS;rw [e1];rfl
  rw [e1,e2]
  refine (zkC B b bm T who t k hn hk hw w hT hr1).mono ?_
  rintro e w' ⟨rfl,T',h',e',t',k'⟩
  exact ⟨rfl,T',h',e',t',k'⟩
 | true =>
  cases hr2:takeB (takeM (zh T) who (zD t) 2) who (t,k,false) 3 with
  | true =>
   have e1:keyB (zh T) who t k=true:=by unfold keyB;rw [hr1,hr2];rfl
   have e2:keyS (zh T) who t k=takeM (takeM (zh T) who (zD t) 2) who (t,k,false) 3:=by unfold keyS;rw [e1];rfl
   rw [e1,e2]
   refine (zkD B b bm T who t k hn hk hw w hT hr1 hr2).mono ?_
   rintro e w' ⟨rfl,T',h',e',t',k'⟩
   exact ⟨rfl,T',h',e',t',k'⟩
  | false =>
   have e1:keyB (zh T) who t k=false:=by unfold keyB;rw [hr1,hr2];rfl
   have e2:keyS (zh T) who t k=zh T:=by unfold keyS;rw [e1];rfl
   rw [e1,e2]
   by_cases h0:(zF (zW (zh T) (zD t)) who).getD 0=0
   ·by_cases he:adel (aput (zW (zh T) (zD t)) who (vz (zh T) who (zD t) 2)) who=[]
    ·refine (zkE B b bm T who t k hn hk hw w hT hr1 hr2 h0 hW he).mono ?_
     rintro e w' ⟨rfl,T',h',e',t',k'⟩
     exact ⟨rfl,T',h',e',t',k'⟩
    ·refine (zkF B b bm T who t k hn hk hw w hT hr1 hr2 h0 hW he).mono ?_
     rintro e w' ⟨rfl,T',h',e',t',k'⟩
     exact ⟨rfl,T',h',e',t',k'⟩
   ·refine (zkG B b bm T who t k hn hk hw w hT hr1 hr2 h0 hW).mono ?_
    rintro e w' ⟨rfl,T',h',e',t',k'⟩
    exact ⟨rfl,T',h',e',t',k'⟩
def jT (who:Int) (L:Nm->Bool) (T:Tb):Tb:=(T.map fun p=>if L p.1=true then p else (p.1,(p.2.1,adel p.2.2 who))).filter fun p=>L p.1 || !p.2.2.isEmpty
theorem ziJ (who:Int) (L:Nm->Bool) (p:Nm × (Nat × jn)):(if L p.1=true then p else (p.1,(p.2.1,adel p.2.2 who))).1=p.1:=by split<;>rfl
theorem vU (who:Int) (L:Nm->Bool) (p:Nm × (Nat × jn)) (T:Tb):jT who L (p::T)=(if L p.1=true then [p] else if (adel p.2.2 who).isEmpty=true then [] else [(p.1,(p.2.1,adel p.2.2 who))])++jT who L T:=by
 unfold jT
 rw [List.map_cons,List.filter_cons]
 by_cases h:L p.1=true
 ·simp [h]
 ·have h':L p.1=false:=by simpa using h
  by_cases h2:(adel p.2.2 who).isEmpty=true
  ·simp [h',h2]
  ·simp [h',h2]
theorem ziI (who:Int) (T:Tb) (L:Nm->Bool) (h:∀ p∈T,L p.1=true):jT who L T=T:=by
 induction T with
 | nil=>rfl
 | cons p T ih=>rw [vU,if_pos (h p (by simp)),ih (fun q hq=>h q (List.mem_cons_of_mem _ hq))];rfl
theorem YL (who:Int) (T:Tb) (L L':Nm->Bool) (h:∀ p∈T,L p.1=L' p.1):jT who L T=jT who L' T:=by
 induction T with
 | nil=>rfl
 | cons p T ih=>rw [vU,vU,h p (by simp),ih (fun q hq=>h q (List.mem_cons_of_mem _ hq))]
theorem zgS (who:Int) (T:Tb):zh (jT who (fun _=>false) T)=dropM (zh T) who:=by
 unfold zh dropM jT
 rw [List.map_map,List.filter_map,List.filter_map,List.map_map]
 rfl
theorem zda (who:Int) (T:Tb) (L:Nm->Bool) (n:Nm) (h:qb T n=false):qb (jT who L T) n=false:=by
 rw [jB] at h ⊢
 intro p hp
 unfold jT at hp
 obtain ⟨q,hq,rfl⟩:=List.mem_map.1 (List.mem_filter.1 hp).1
 rw [ziJ];exact h q hq
theorem zcZ (who:Int) {T:Tb} (hA:js T) (L:Nm->Bool) {n:Nm} {v:Nat × jn} (hg:zF T n=some v) (hL:L n=true):zF (jT who L T) n=some v:=by
 induction T with
 | nil=>cases hg
 | cons p T ih =>
  rw [jd] at hg
  rw [vU,Gp]
  by_cases e:p.1=n
  ·rw [if_pos e] at hg
   rw [e,if_pos hL,Zk,decide_eq_true e,jd,if_pos e]
   simpa using hg
  ·rw [if_neg e] at hg
   have hh:qb (if L p.1=true then [p] else if (adel p.2.2 who).isEmpty=true then [] else [(p.1,(p.2.1,adel p.2.2 who))]) n=false:=by
    split
    ·rw [Zk,decide_eq_false e];rfl
    ·split
     ·rfl
     ·rw [Zk,decide_eq_false e];rfl
   rw [hh]
   simp only [Bool.false_eq_true,if_false]
   exact ih (List.pairwise_cons.1 hA).2 hg
theorem zbC (who:Int) {T:Tb} (hA:js T) (L:Nm->Bool) {n:Nm} {bi:Nat} {l:jn} (hg:zF T n=some (bi,l)) (hL:L n=true) :
  (if (adel l who).isEmpty=true then adel (aput (jT who L T) n (bi,adel l who)) n else aput (jT who L T) n (bi,adel l who))=jT who (fun x=>L x && !decide (x=n)) T:=by
 have hget:=zcZ who hA L hg hL
 have hh:qb (jT who L T) n=true:=by rw [jA,hget];rfl
 rw [Qh]
 have e1:aput (jT who L T) n (bi,adel l who)=(jT who L T).map fun p=>if p.1=n then (n,(bi,adel l who)) else p:=by
  unfold aput;rw [if_pos hh]
 rw [e1]
 clear hh hget e1
 induction T with
 | nil=>cases hg
 | cons p T ih =>
  obtain ⟨hp1,hA'⟩:=List.pairwise_cons.1 hA
  rw [jd] at hg
  by_cases e:p.1=n
  ·rw [if_pos e] at hg
   injection hg with hg
   have hno:∀ q∈T,q.1≠n:=fun q hq e2=>hp1 q hq (by rw [e,e2])
   have hrest:jT who (fun x=>L x && !decide (x=n)) T=jT who L T:=YL who T _ _ fun q hq=>by simp [hno q hq]
   have hnoP:∀ q∈jT who L T,q.1≠n:=fun q hq=>jB.1 (zda who T L n (jB.2 hno)) q hq
   have hmap:(jT who L T).map (fun p=>if p.1=n then (n,(bi,adel l who)) else p)=jT who L T:=by
    conv=>rhs;rw [<- List.map_id (jT who L T)]
    refine List.map_congr_left fun q hq=>?_
    rw [if_neg (hnoP q hq)];rfl
   have hdel:adel (jT who L T) n=jT who L T:=yk (jB.2 hnoP)
   rw [vU,vU,hrest,e,if_pos hL]
   simp only [hL,decide_true,Bool.not_true,Bool.and_false,Bool.false_eq_true,if_false,hg]
   by_cases he:(adel l who).isEmpty=true
   ·rw [if_pos he,if_pos he]
    unfold adel at hdel ⊢
    rw [List.filter_append,hdel]
    simp [e]
   ·rw [if_neg he,if_neg he,List.map_append,hmap]
    simp [e]
  ·rw [if_neg e] at hg
   have ih':=ih hA' hg
   rw [vU,vU,<- ih']
   have hLp:(L p.1 && !decide (p.1=n))=L p.1:=by simp [e]
   rw [hLp]
   have hhead:∀ q∈(if L p.1=true then [p] else if (adel p.2.2 who).isEmpty=true then [] else [(p.1,(p.2.1,adel p.2.2 who))]),q.1≠n:=by
    intro q hq
    split at hq
    ·simp at hq;rw [hq];exact e
    ·split at hq
     ·cases hq
     ·simp at hq;rw [hq];exact e
   by_cases he:(adel l who).isEmpty=true
   ·rw [if_pos he,if_pos he]
    unfold adel
    rw [List.filter_append]
    congr 1
    rw [List.filter_eq_self]
    intro q hq;simp [hhead q hq]
   ·rw [if_neg he,if_neg he,List.map_append]
    congr 1
    generalize (if L p.1=true then [p] else if (adel p.2.2 who).isEmpty=true then [] else [(p.1,(p.2.1,adel p.2.2 who))])=Z at hhead
    conv=>rhs;rw [<- List.map_id Z]
    refine List.map_congr_left fun q hq=>?_
    rw [if_neg (hhead q hq)];rfl
def jM (T:Tb):List (Nm × Option Nat):=T.map fun p=>(p.1,(fun q:Nat × jn=>some q.1) p.2)
theorem zdP (T:Tb) (n:Nm):zF (jM T) n=(zF T n).map fun q=>some q.1:=vW (fun q:Nat × jn=>some q.1) T n
theorem zan (who:Int) (L:Nm->Bool) (T:Tb):∀ p∈jT who L T,∃ q∈T,q.2.1=p.2.1:=by
 intro p hp
 unfold jT at hp
 obtain ⟨q,hq,rfl⟩:=List.mem_map.1 (List.mem_filter.1 hp).1
 refine ⟨q,hq,?_⟩
 split<;>rfl
theorem KE {T:Tb} (hA:js T) {n:Nm} {bi:Nat} {l l':jn} (hg:zF T n=some (bi,l)):jM (aput T n (bi,l'))=jM T:=by
 unfold jM
 rw [<- GE (fun q:Nat × jn=>some q.1)]
 refine Jr ?_ ?_
 ·unfold js at hA ⊢;rw [List.pairwise_map];exact hA
 ·rw [vW (fun q:Nat × jn=>some q.1),hg];rfl
def zkp {K V:Type} [DecidableEq K] (P:Program) (f:K->Value) (ok:K->Prop) (g:V->Value) (b r:Nat) (l left:List (K × V)) (w:World) (kv vv:Value) (w':World):Prop :=
 ∃ p∈left,kv=f p.1/\vv=g p.2/\qV w' f ok g b r l (adel left p.1)/\zn (fun i=>i=r) w w'/\w'.heap.size=w.heap.size/\(Instr.entry (.pointer (some ⟨r,0,none⟩))).run P w'=.ok (.tuple #[kv,vv]) w'
theorem Yw {P:Program} {K V:Type} [DecidableEq K] {f:K->Value} {ok:K->Prop} {g:V->Value} (w:World) {b r:Nat} {l left:List (K × V)} {ops:Array Oper} {rest:List Oper} {o:Oper} {a:Act} {Q:Exit->Act->World->Prop}
  (hw:Region.wanted o (yielded ops a.tmps)=true) (it:Operand) (hop:o.op=Op.next it false) (hinj:∀ x y,f x=f y->x=y) (hit:a.eval it=.pointer (some ⟨r,0,none⟩)) (h:qV w f ok g b r l left)
  (hDone:left=[]->wpList P ops Q rest (a.put o.dst (.tuple #[.bool false])) w)
  (hMore:∀ (kv vv:Value) (w':World),zkp P f ok g b r l left w kv vv w'->wpList P ops Q rest (a.put o.dst (.tuple #[.bool true,kv,vv])) w'):wpList P ops Q (o::rest) a w :=
 Yv w hw it hop hinj hit h hDone fun p hp _ h1 h2 h3 h4=>hMore _ _ _ ⟨p,hp,rfl,rfl,h1,h2,h3,h4⟩
theorem zku (B b bm:Nat) (T:Tb) (who:Int) (hw:iok who) (w:World) (h:zM w B b bm T) :
  Calls Tryz.prog 96 #[.pointer (some ⟨b,0,none⟩),.int .i64 who] w fun e w' =>
   e=.returned (.tuple #[])/\∃ T',zM w' B b bm T'/\zh T'=dropM (zh T) who/\zn (fun i=>yy bm T i∨w.heap.size<=i) w w'/\∀ i,vS T i->vS T' i:=by
 have c0:w.cell? ⟨b,0,none⟩=some (.map (some bm)):=cell_of_row w b 0 _ _ _ h.blk
 have hm:=h.outer
 have hsz:=h.size
 have HLT:=hid (show ∀ p∈T,p.2.1<w.heap.size from fun p hp=>(h.inner p hp).lt)
 have hbm:=hm.lt
 have HA:=hid h.apartT
 go_enter Tryz.func96,Tryz.ntmps96
 go_wp2_with (first
  | (at_range;refine ZG _ rfl _ 220 137 rfl Tryz.underlying220 rfl hm ?_;intro w1 hr1 t1 s1))
 try go_frame
 have h1:zM w1 B b bm T:=h.below (t1.below (Nat.le_refl _) (fun _ _ h=>h))
 have ht1:zn (fun i=>yy bm T i∨w.heap.size<=i) w w1:=t1.mono fun i _ h=>h.elim
 obtain ⟨r,hr⟩:∃ r,r=w.heap.size:=⟨_,rfl⟩
 rw [<- hr] at hr1 HLT hsz hbm ⊢
 have hproc:T=jT who (fun x=>qb (jM T) x) T:=(ziI who T (fun x=>qb (jM T) x) fun p hp=>Qj.2 ⟨_,List.mem_map.2 ⟨p,hp,rfl⟩,rfl⟩).symm
 obtain ⟨HS,HH,HR⟩:=zi3 s1 h hr
 clear s1 t1 c0 hm h hr
 go_loopw [13] (fun _ wr=>∃ left Tc,zM wr B b bm Tc/\qV wr vB Jf Jg bm r (jM Tc) left/\Tc=jT who (fun x=>qb left x) T/\zn (fun i=>yy bm T i∨w.heap.size<=i) w wr) (fun _ wr=>wr.rangeLeft bm r)
 case atStart=>exact ⟨jM T,T,h1,hr1,hproc,ht1⟩
 case round =>
  clear h1 hr1 ht1 hproc
  obtain ⟨left,Tc,hTc,hrg,hproc,htc⟩:=hrel
  have HP:=hid hproc
  clear hproc
  go_wp2_with (first
   | (at_next;refine Yw _ rfl _ rfl JS.inj rfl hrg ?_ ?_))
  ·intro hleft
   go_wp2
   go_end0
   refine ⟨rfl,Tc,hTc,?_,htc,fun i ho p hp e=>by
    rw [HP.out] at hp
    obtain ⟨q,hq,e2⟩:=zan who _ T p hp
    exact ho q hq (e2.trans e)⟩
   rw [HP.out,hleft]
   exact zgS who T
  ·intro kv vv w4 hst
   obtain ⟨⟨n,o⟩,hp,rfl,rfl,hr4,t4,s4,hen⟩:=hst
   have hno:zF (jM Tc) n=some o:=Zg hTc.outer.apart (hrg.sub.subset hp)
   have hnk:Jf n:=hTc.outer.oks _ (hrg.sub.subset hp)
   obtain ⟨bi,l,hg,rfl⟩:∃ bi l,zF Tc n=some (bi,l)/\o=some bi:=by
    rw [zdP] at hno
    cases hg:zF Tc n with
    | none=>rw [hg] at hno;cases hno
    | some q=>obtain ⟨b1,l1⟩:=q;rw [hg] at hno;injection hno with hno;exact ⟨b1,l1,rfl,hno.symm⟩
   have hnT:zF T n=some (bi,l):=by
    have hL:qb left n=true:=Qj.2 ⟨_,hp,rfl⟩
    cases hgT:zF T n with
    | none =>
     have:=zda who T (fun x=>qb left x) n (by rw [jA,hgT];rfl)
     rw [<- HP.out,jA,hg] at this;cases this
    | some v =>
     have:=zcZ who HA.out (fun x=>qb left x) hgT hL
     rw [<- HP.out,hg] at this
     exact this.symm
   have hoffr:vS Tc r:=by
    intro p hp e
    rw [HP.out] at hp
    obtain ⟨q,hq,e2⟩:=zan who _ T p hp
    have:=HLT.out q hq
    omega
   have hbir:¬ bi=r:=hoffr _ (qP hg)
   have hrb:¬ b=r:=by have:=hTc.blow;omega
   have hrbm:¬ bm=r:=by omega
   have hTc4:zM w4 B b bm Tc:=⟨(t4.block b (Array.getElem?_eq_some_iff.1 hTc.blk).1 hrb).trans hTc.blk,hTc.outer.turns t4 hrbm,fun p hp=>(hTc.inner p hp).turns t4 (hoffr p hp),hTc.base,hTc.apart,hTc.low,hTc.blow,Nat.le_trans hTc.size t4.size⟩
   have htc4:zn (fun i=>yy bm T i∨w.heap.size<=i) w w4:=htc.trans (t4.mono fun i _ e=>.inr (by rw [e,HR.out];exact Nat.le_refl _))
   obtain ⟨nt,nk,nw⟩:=n
   unfold vB Jg at hen ⊢
   simp only at hen ⊢
   have hB5:Below w4.heap.size w4 (w4.alloc (.cells #[.int .i64 nt,.string nk,.bool nw] 235)):=(Below.refl _ _).alloc (Nat.le_refl _) _
   have hTc5:=hTc4.below hB5
   have hr5:qV (w4.alloc (.cells #[.int .i64 nt,.string nk,.bool nw] 235)) vB Jf Jg bm r (jM Tc) (adel left (nt,nk,nw)):=hr4.turns (zn.of_below (S:=fun _=>False) hB5) (fun h=>h) (fun h=>h)
   have hbx5:(w4.alloc (.cells #[.int .i64 nt,.string nk,.bool nw] 235)).heap[w4.heap.size]?=some (.cells #[.int .i64 nt,.string nk,.bool nw] 235 (0,0)):=heap_alloc_new w4 _
   have hmeas:(adel left (nt,nk,nw)).length<left.length:=ZS hp
   have hbis:¬ w4.heap.size=bi:=by have:=(hTc4.get hg).1.lt;omega
   have htc5:zn (fun i=>yy bm T i∨w.heap.size<=i) w (w4.alloc (.cells #[.int .i64 nt,.string nk,.bool nw] 235)):=htc4.trans (zn.of_below hB5)
   have HM:=hid (show wr.rangeLeft bm r=left.length from hrg.left_eq)
   obtain ⟨HG,HT,HNK⟩:=zi3 hg hnT hnk
   have HLr:=hid (show qb left (nt,nk,nw)=true from Qj.2 ⟨_,hp,rfl⟩)
   have hin5:=hTc5.get hg
   have HB:=hid hbis
   clear hp hr4 t4 s4 hno hnk hg hnT hoffr hTc hrg hTc4 htc4 htc hB5 hbis
   go_wp2_with (first
    | (at_delete;refine vt _ rfl _ _ 137 3 rfl ut Tryz.underlying137 rfl hin5.1 who rfl hw ?_;intro w6 h6 t6)
    | (at_len;refine QE _ rfl _ 137 3 rfl Tryz.underlying137 rfl h6 ?_))
   ·have hemp:(adel l who).isEmpty=true:=by
     have h0:(((adel l who).length:Int) == 0)=true:=by assumption
     have h1:(adel l who).length=0:=by simpa using h0
     rw [List.eq_nil_of_length_eq_zero h1];rfl
    have hT6:=Yk t6
    have hA6:=hTc5.change HG.out hT6 h6
    have ho6:jM (aput Tc (nt,nk,nw) (bi,adel l who))=jM Tc:=KE hTc5.apartT HG.out
    have hbibm:¬ bm=bi:=by have:=hTc5.low;have:=hin5.2;omega
    have hr6:qV w6 vB Jf Jg bm r (jM (aput Tc (nt,nk,nw) (bi,adel l who))) (adel left (nt,nk,nw)):=by rw [ho6];exact hr5.turns hT6 hbibm (fun e=>hbir e.symm)
    have htc6:zn (fun i=>yy bm T i∨w.heap.size<=i) w w6:=htc5.trans (hT6.mono fun i _ e=>.inl (.inr ⟨_,qP HT.out,e.symm⟩))
    have hbx6:=(hT6.block w4.heap.size (Array.getElem?_eq_some_iff.1 hbx5).1 HB.out).trans hbx5
    have HE:=hid hemp
    clear hT6 ho6 hr5 hbx5 htc5 hin5 hTc5 h6 t6 hemp hen
    obtain ⟨c,hc⟩:∃ c,c=w4.heap.size:=⟨_,rfl⟩
    rw [<- hc] at hbx6 ⊢
    clear hc
    have k0:w6.cell? ⟨c,0,none⟩=some (.int .i64 nt):=cell_of_row w6 c 0 _ _ _ hbx6
    have k1:w6.cell? ⟨c,1,none⟩=some (.string nk):=cell_of_row w6 c 1 _ _ _ hbx6
    have k2:w6.cell? ⟨c,2,none⟩=some (.bool nw):=cell_of_row w6 c 2 _ _ _ hbx6
    have c0:w6.cell? ⟨b,0,none⟩=some (.map (some bm)):=cell_of_row w6 b 0 _ _ _ hA6.blk
    go_still_tail 5,(by kernel_rfl)
    change wpList _ _ _ _ _ w6.drew
    refine Gm _ rfl _ _ 220 137 rfl JS Tryz.underlying220 rfl (hr6.turns ((zn.refl (fun _=>False) w6).drew) (fun h=>h) (fun h=>h)) (nt,nk,nw) rfl HNK.out ?_
    intro w8 hr8 t8
    try go_frame
    go_wp2
    have hT8:zn (fun i=>i=bm) w6 w8:=((zn.refl _ _).drew).turned t8 (.inr rfl)
    have hA8:=hA6.drop (nt,nk,nw) hT8 hr8.map
    have hdd:adel (adel left (nt,nk,nw)) (nt,nk,nw)=adel left (nt,nk,nw):=yk (by rw [Ko];simp)
    have hod:adel (jM (aput Tc (nt,nk,nw) (bi,adel l who))) (nt,nk,nw)=jM (adel (aput Tc (nt,nk,nw) (bi,adel l who)) (nt,nk,nw)):=GD (fun q:Nat × jn=>some q.1) _ _
    rw [hdd,hod] at hr8
    have hpr:adel (aput Tc (nt,nk,nw) (bi,adel l who)) (nt,nk,nw)=jT who (fun x=>qb (adel left (nt,nk,nw)) x) T:=by
     have:=zbC who HA.out (fun x=>qb left x) HT.out HLr.out
     rw [if_pos HE.out,<- HP.out] at this
     rw [this]
     exact YL who T _ _ fun p _=>by rw [Ko,Bool.and_comm]
    have hm8:=hr8.left_eq
    go_roundw
    case rel=>exact ⟨adel left (nt,nk,nw),_,hA8,hr8,hpr,htc6.trans (hT8.mono fun i _ e=>.inl (.inl e))⟩
    case measure=>rw [hm8,HM.out];exact hmeas
   ·have hemp:¬ (adel l who).isEmpty=true:=by
     have h0:(((adel l who).length:Int) == 0)=false:=by assumption
     intro h1
     rw [List.isEmpty_iff.1 h1] at h0
     cases h0
    have hT6:=Yk t6
    have hA6:=hTc5.change HG.out hT6 h6
    have ho6:jM (aput Tc (nt,nk,nw) (bi,adel l who))=jM Tc:=KE hTc5.apartT HG.out
    have hbibm:¬ bm=bi:=by have:=hTc5.low;have:=hin5.2;omega
    have hr6:qV w6 vB Jf Jg bm r (jM (aput Tc (nt,nk,nw) (bi,adel l who))) (adel left (nt,nk,nw)):=by rw [ho6];exact hr5.turns hT6 hbibm (fun e=>hbir e.symm)
    have htc6:zn (fun i=>yy bm T i∨w.heap.size<=i) w w6:=htc5.trans (hT6.mono fun i _ e=>.inl (.inr ⟨_,qP HT.out,e.symm⟩))
    have hpr:aput Tc (nt,nk,nw) (bi,adel l who)=jT who (fun x=>qb (adel left (nt,nk,nw)) x) T:=by
     have:=zbC who HA.out (fun x=>qb left x) HT.out HLr.out
     rw [if_neg hemp,<- HP.out] at this
     rw [this]
     exact YL who T _ _ fun p _=>by rw [Ko,Bool.and_comm]
    have hm6:=hr6.left_eq
    go_roundw
    case rel=>exact ⟨adel left (nt,nk,nw),_,hA6,hr6,hpr,htc6⟩
    case measure=>rw [hm6,HM.out];exact hmeas
def hm (M:Lk) (n:Nm) (o:Int):Int:=(zF (zW M n) o).getD 0
theorem zek {a b:Int} (hb:b≠0):vo a b≠0:=by
 unfold vo
 by_cases h:a=0∨a=b
 ·rw [if_pos h];exact hb
 ·rw [if_neg h,if_neg hb];decide
theorem zjb (M:Lk) (who:Int) (n:Nm) (mode:Int):vz M who n mode=vo (hm M n who) mode:=rfl
theorem WF.takeM {M:Lk} (h:WF M) (who:Int) (n:Nm) {mode:Int} (hm0:mode≠0):WF (takeM M who n mode):=by
 obtain ⟨ha,hz,_⟩:=h.held n
 have key:aput (zW M n) who (vz M who n mode)≠[]/\js (aput (zW M n) who (vz M who n mode))/\∀ q∈aput (zW M n) who (vz M who n mode),q.2≠0:=by
  refine ⟨?_,ha.aput _ _,?_⟩
  ·intro e
   have:qb (aput (zW M n) who (vz M who n mode)) who=true:=by rw [zbf];simp
   rw [e] at this;cases this
  ·intro q hq
   unfold aput at hq
   split at hq
   ·obtain ⟨q',hq',rfl⟩:=List.mem_map.1 hq
    by_cases e:q'.1=who
    ·rw [if_pos e];exact zek hm0
    ·rw [if_neg e];exact hz _ hq'
   ·rcases List.mem_append.1 hq with hq | hq
    ·exact hz _ hq
    ·simp at hq;rw [hq];exact zek hm0
 intro p hp
 unfold Go.Proofs.YtechnoogjhohfaaGreat.takeM aput at hp
 split at hp
 ·obtain ⟨q,hq,rfl⟩:=List.mem_map.1 hp
  by_cases e:q.1=n
  ·rw [if_pos e];exact key
  ·rw [if_neg e];exact h _ hq
 ·rcases List.mem_append.1 hp with hp | hp
  ·exact h _ hp
  ·simp at hp;rw [hp];exact key
theorem WF.dropM {M:Lk} (h:WF M) (who:Int):WF (dropM M who):=by
 intro p hp
 obtain ⟨hp1,hp2⟩:=List.mem_filter.1 hp
 obtain ⟨q,hq,rfl⟩:=List.mem_map.1 hp1
 refine ⟨fun e=>?_,(h q hq).2.1.adel _,fun r hr=>(h q hq).2.2 r (List.filter_sublist.subset hr)⟩
 simp only at e
 rw [e] at hp2;cases hp2
theorem zeV {M:Lk} (h:WF M) {n:Nm} {o v:Int}:(o,v)∈zW M n↔hm M n o=v/\v≠0:=by
 obtain ⟨ha,hz,_⟩:=h.held n
 constructor
 ·intro hp
  refine ⟨?_,hz _ hp⟩
  have:=Zg ha hp
  have e:hm M n o=(zF (zW M n) o).getD 0:=rfl
  rw [e,this];rfl
 ·rintro ⟨e,hv⟩
  have e2:hm M n o=(zF (zW M n) o).getD 0:=rfl
  rw [e2] at e
  cases hg:zF (zW M n) o with
  | none=>rw [hg] at e;exact absurd e.symm hv
  | some u=>rw [hg] at e;have e3:u=v:=e;rw [<- e3];exact qP hg
theorem zhw {M:Lk} (h:WF M) (who:Int) (n:Nm) (mode:Int):takeB M who n mode=true↔∀ o,o≠who->hm M n o≠0->Zv (vo (hm M n who) mode) (hm M n o)=true:=by
 have e:takeB M who n mode=!Qk (zW M n) who (vz M who n mode):=rfl
 rw [e,Bool.not_eq_true',<- Bool.not_eq_true,YC,zjb]
 constructor
 ·intro hb o ho hne
  cases hf:Zv (vo (hm M n who) mode) (hm M n o) with
  | true=>rfl
  | false=>exact absurd ⟨(o,hm M n o),(zeV h).2 ⟨rfl,hne⟩,ho,hf⟩ hb
 ·rintro hall ⟨⟨o,v⟩,hp,ho,hf⟩
  obtain ⟨e1,e2⟩:=(zeV h).1 hp
  have:=hall o ho (by rw [e1];exact e2)
  rw [e1] at this
  simp only at hf
  rw [hf] at this;cases this
end Go.Proofs.YtechnoogjhohfaaGreat
