/-
  Joined by a program from texts written one by one: part 19 of the walk through the program and of the law behind it.
-/
import Derived.Test.YtechnoogjhohfaaGreatQ18
import Derived.BigRegion
import Derived.Deep.RegionHeld3
set_option maxRecDepth 100000
set_option maxHeartbeats 6400000
set_option linter.unusedVariables false
set_option linter.unusedSimpArgs false
namespace Go.Proofs.YtechnoogjhohfaaGreat
open Go.RowKit Go.Maps
theorem take_none (B b bm:Nat) (T:Tb) (who mode:Int) (n:Nm) (hg:aget T n=none) (hn:nok n) (hw:iok who) (w:World) (h:LocksT w B b bm T) :
  Calls Tryz.prog 130 #[.pointer (some ⟨b,0,none⟩),.int .i64 who,nval n,.int .i64 mode] w fun e w' =>
   ∃ bi,e=.returned (.bool true)∧w.heap.size≤bi∧LocksT w' B b bm (aput T n (bi,[(who,both 0 mode)]))∧Turns (fun i=>i=bm) w w':=by
 obtain ⟨want,hwant⟩:∃ want,both 0 mode=want:=⟨_,rfl⟩
 rw [hwant]
 obtain ⟨nt,nk,nw⟩:=n
 have hblk0:(w.alloc (.cells #[.int .i64 nt,.string nk,.bool nw] 235)).heap[w.heap.size]?=some (.cells #[.int .i64 nt,.string nk,.bool nw] 235 (0,0)):=heap_alloc_new w _
 have hB0:Below w.heap.size w (w.alloc (.cells #[.int .i64 nt,.string nk,.bool nw] 235)):=(Below.refl _ _).alloc (Nat.le_refl _) _
 have hA:=h.below hB0
 have hsz:(w.alloc (.cells #[.int .i64 nt,.string nk,.bool nw] 235)).heap.size=w.heap.size+1:=by simp
 unfold nval
 go_enter Tryz.func130,Tryz.ntmps130
 go_wp2_with fail
 generalize w.alloc (.cells #[.int .i64 nt,.string nk,.bool nw] 235)=W at hblk0 hB0 hA hsz ⊢
 obtain ⟨s,hs⟩:∃ s,s=w.heap.size:=⟨_,rfl⟩
 rw [← hs] at hblk0 hsz ⊢
 have k0:W.cell? ⟨s,0,none⟩=some (.int .i64 nt):=cell_of_row W s 0 _ _ _ hblk0
 have k1:W.cell? ⟨s,1,none⟩=some (.string nk):=cell_of_row W s 1 _ _ _ hblk0
 have k2:W.cell? ⟨s,2,none⟩=some (.bool nw):=cell_of_row W s 2 _ _ _ hblk0
 have c0:W.cell? ⟨b,0,none⟩=some (.map (some bm)):=cell_of_row W b 0 _ _ _ hA.blk
 have hl1:∀ W':World,W'.heap=W.heap→(Instr.lookup 220 (.map (some bm)) (.agg #[.int .i64 nt,.string nk,.bool nw]) false).run Tryz.prog W'=.ok (.map none) W':=by
  intro W' hW'
  have:=(hA.outer.of_block (w':=W') (by rw [hW'])).lookup nenc Tryz.underlying220 (v0:=none) (zero45 _) hn false
  rw [aget_map (fun q:Nat × Hold=>some q.1),hg] at this
  exact this
 have hl2:∀ n,(Instr.lookup 137 (.map none) (.int .i64 who) false).run Tryz.prog (W.drewN n)=.ok (.int .i64 0) (W.drewN n):=by
  intro n
  exact look_nil (w:=W.drewN n) false ienc.keyed Tryz.underlying137 (zero3 _) (keyOf_int_mk Tryz.underlying3 hw)
 have hl1n:∀ n,(Instr.lookup 220 (.map (some bm)) (.agg #[.int .i64 nt,.string nk,.bool nw]) false).run Tryz.prog (W.drewN n)=.ok (.map none) (W.drewN n):=fun n=>hl1 _ rfl
 obtain ⟨HL1,HS⟩:=zi2 hl1 hs
 clear hl1 hs
 go_quiet ((go_at_call 152;exact Calls.quiet_of_same (both_any _ _ _)))
 rw [hwant]
 have HW:=hid hwant
 clear hwant hl1n hl2
 go_wp2_with fail
 have hA2:LocksT (W.drewN nq) B b bm T:=hA.below ⟨rfl,rfl,rfl,Nat.le_refl _,fun _ _=>rfl⟩
 have hB2:Below w.heap.size w (W.drewN nq):=hB0.trans ⟨rfl,rfl,rfl,Nat.le_refl _,fun _ _=>rfl⟩
 have hblk2:(W.drewN nq).heap[s]?=_:=hblk0
 have hsz2:(W.drewN nq).heap.size=s+1:=hsz
 have hl2:∀ W':World,W'.heap=(W.drewN nq).heap→(Instr.lookup 220 (.map (some bm)) (.agg #[.int .i64 nt,.string nk,.bool nw]) false).run Tryz.prog W'=.ok (.map none) W':=HL1.out
 clear k0 k1 k2 c0 hA hB0 hblk0 hsz HL1
 generalize W.drewN nq=W2 at hA2 hB2 hblk2 hsz2 hl2 ⊢
 have k0:W2.cell? ⟨s,0,none⟩=some (.int .i64 nt):=cell_of_row W2 s 0 _ _ _ hblk2
 have k1:W2.cell? ⟨s,1,none⟩=some (.string nk):=cell_of_row W2 s 1 _ _ _ hblk2
 have k2:W2.cell? ⟨s,2,none⟩=some (.bool nw):=cell_of_row W2 s 2 _ _ _ hblk2
 have c0:W2.cell? ⟨b,0,none⟩=some (.map (some bm)):=cell_of_row W2 b 0 _ _ _ hA2.blk
 have HSZ:=hid hsz2
 clear hsz2
 have hl3:(Instr.lookup 220 (.map (some bm)) (.agg #[.int .i64 nt,.string nk,.bool nw]) false).run Tryz.prog W2.drew=.ok (.map none) W2.drew:=hl2 _ rfl
 have HL2:=hid hl2
 clear hl2
 have hrn:=fun W=>run_range_nil (P:=Tryz.prog) Tryz.underlying137 W
 go_still_tail 6,(by kernel_rfl)
 clear hl3
 change wpList _ _ _ _ _ W2.drew
 go_wp2_with fail
 have hs2:W2.heap.size=s+1:=HSZ.out
 have hB3:Below w.heap.size w (W2.alloc (.mapIter none 0 #[] 0)).drew:=(hB2.alloc (by have:=HS.out;omega) _).drew
 have hit:(W2.alloc (.mapIter none 0 #[] 0)).drew.heap[s+1]?=some (.mapIter none 0 #[] 0):=by rw [← hs2];exact heap_alloc_new W2 _
 have hblk3:(W2.alloc (.mapIter none 0 #[] 0)).drew.heap[s]?=some (.cells #[.int .i64 nt,.string nk,.bool nw] 235 (0,0)):=(Below.heap_alloc W2 _ s (by omega)).trans hblk2
 have hsz3:(W2.alloc (.mapIter none 0 #[] 0)).drew.heap.size=s+2:=by
  have:(W2.alloc (.mapIter none 0 #[] 0)).heap.size=s+2:=by rw [World.size_alloc,hs2]
  exact this
 rw [hs2]
 clear k0 k1 k2 c0 hrn HL2 hblk2 hB2 hA2 hs2 HSZ
 generalize (W2.alloc (.mapIter none 0 #[] 0)).drew=W3 at hB3 hit hblk3 hsz3 ⊢
 have hA3:=h.below hB3
 have hl5:∀ W':World,W'.heap[bm]?=W3.heap[bm]?→(Instr.lookup 220 (.map (some bm)) (.agg #[.int .i64 nt,.string nk,.bool nw]) false).run Tryz.prog W'=.ok (.map none) W':=by
  intro W' hW'
  have:=(hA3.outer.of_block (w':=W') hW').lookup nenc Tryz.underlying220 (v0:=none) (zero45 _) hn false
  rw [aget_map (fun q:Nat × Hold=>some q.1),hg] at this
  exact this
 have k0:W3.cell? ⟨s,0,none⟩=some (.int .i64 nt):=cell_of_row W3 s 0 _ _ _ hblk3
 have k1:W3.cell? ⟨s,1,none⟩=some (.string nk):=cell_of_row W3 s 1 _ _ _ hblk3
 have k2:W3.cell? ⟨s,2,none⟩=some (.bool nw):=cell_of_row W3 s 2 _ _ _ hblk3
 have c0:W3.cell? ⟨b,0,none⟩=some (.map (some bm)):=cell_of_row W3 b 0 _ _ _ hA3.blk
 have hnx:∀ ty,(Instr.next (.pointer (some ⟨s+1,0,none⟩)) false ty).run Tryz.prog W3=.ok (.tuple #[.bool false]) W3:=fun ty=>run_next_nil hit
 have hl7:∀ n,(Instr.lookup 220 (.map (some bm)) (.agg #[.int .i64 nt,.string nk,.bool nw]) false).run Tryz.prog (W3.drewN n)=.ok (.map none) (W3.drewN n):=fun n=>hl5 _ rfl
 have hnil:∀ W':World,(binOp .eql 137 (.map none) (.map none)).run Tryz.prog W'=.ok (.bool true) W':=fun W'=>run_eql_map_nil W' 137 3 3 none Tryz.underlying137
 obtain ⟨HL5,HSZ3,HIT⟩:=zi3 hl5 hsz3 hit
 clear hl5 hsz3 hit
 refine wp_loop_rounds 1 ?_
 rw [rounds_succ]
 go_wp2_with fail
 go_quiet (fail)
 go_wp2_with fail
 have hB4:Below w.heap.size w (W3.drewN nq):=hB3.trans ⟨rfl,rfl,rfl,Nat.le_refl _,fun _ _=>rfl⟩
 have hblk4:(W3.drewN nq).heap[s]?=some (.cells #[.int .i64 nt,.string nk,.bool nw] 235 (0,0)):=hblk3
 have hsz4:(W3.drewN nq).heap.size=s+2:=HSZ3.out
 clear k0 k1 k2 c0 hl7 hB3 hA3 hblk3 HL5 hnil hnx HIT HSZ3
 generalize W3.drewN nq=W4 at hB4 hblk4 hsz4 ⊢
 have hA4:=h.below hB4
 have k0:W4.cell? ⟨s,0,none⟩=some (.int .i64 nt):=cell_of_row W4 s 0 _ _ _ hblk4
 have k1:W4.cell? ⟨s,1,none⟩=some (.string nk):=cell_of_row W4 s 1 _ _ _ hblk4
 have k2:W4.cell? ⟨s,2,none⟩=some (.bool nw):=cell_of_row W4 s 2 _ _ _ hblk4
 have c0:W4.cell? ⟨b,0,none⟩=some (.map (some bm)):=cell_of_row W4 b 0 _ _ _ hA4.blk
 have hbs:¬ b=W4.heap.size:=fun e=>by have:=(Array.getElem?_eq_some_iff.1 hA4.blk).1;omega
 have hss:¬ s=W4.heap.size:=fun e=>by omega
 have hbw:=h.outer.lt
 obtain ⟨w5,hrun5,h5,t5⟩:=((hA4.outer.alloc (.map #[] 0)).drew).update (P:=Tryz.prog) nenc Tryz.underlying220 hn (some W4.heap.size)
 have hmm:=@run_makeMap Tryz.prog
 have HSZ4:=hid hsz4
 clear hsz4
 have hsl:s<W4.heap.size:=(Array.getElem?_eq_some_iff.1 hblk4).1
 have hbl:b<W4.heap.size:=(Array.getElem?_eq_some_iff.1 hA4.blk).1
 have k0':=(World.cell?_alloc_lt W4 (.map #[] 0) ⟨s,0,none⟩ hsl).trans k0
 have k1':=(World.cell?_alloc_lt W4 (.map #[] 0) ⟨s,1,none⟩ hsl).trans k1
 have k2':=(World.cell?_alloc_lt W4 (.map #[] 0) ⟨s,2,none⟩ hsl).trans k2
 have c0':=(World.cell?_alloc_lt W4 (.map #[] 0) ⟨b,0,none⟩ hbl).trans c0
 clear hsl hbl
 unfold nval oval at hrun5
 simp only at hrun5
 go_region
 obtain ⟨c,hc⟩:∃ c,c=W4.heap.size:=⟨_,rfl⟩
 have hin5:MapAt (W4.alloc (.map #[] 0)).drew inum iok inum c ([]:List (Int × Int)):=by rw [hc];exact MapAt.made W4 inum iok inum
 have hT4:Turns (fun _=>False) W4 (W4.alloc (.map #[] 0)).drew:=((Turns.refl _ W4).alloc _).drew
 have hbmlt:bm<W4.heap.size:=hA4.outer.lt
 have hcne:¬ c=bm:=by omega
 have hT5:Turns (fun i=>i=bm) W4 w5:=(hT4.mono (fun i _ h=>h.elim)).trans (mapped t5)
 have hi5:MapAt w5 inum iok inum c ([]:List (Int × Int)):=hin5.turns (mapped t5) hcne
 rw [← hc] at h5 ⊢
 have hbw2:¬ b=bm:=fun e=>hA4.ne e.symm
 have hsbm:¬ s=bm:=by have:=HS.out;omega
 have hblk5:w5.heap[s]?=some (.cells #[.int .i64 nt,.string nk,.bool nw] 235 (0,0)):=(hT5.block s (by have:=HSZ4.out;omega) hsbm).trans hblk4
 have hb5:w5.heap[b]?=some (.cells #[.map (some bm)] 222 (0,0)):=(hT5.block b (Array.getElem?_eq_some_iff.1 hA4.blk).1 hbw2).trans hA4.blk
 have hTw:Turns (fun i=>i=bm) w w5:=(Turns.of_below hB4).trans hT5
 have hcw:w.heap.size≤c:=by have:=hB4.size;omega
 have HC:=hid hc
 clear k0 k1 k2 c0 k0' k1' k2' c0' hrun5 hmm hbs hss hA4 hblk4 hB4 hin5 hT4 hT5 t5 HSZ4 hc hbmlt
 go_wp2_with fail
 have k0:w5.cell? ⟨s,0,none⟩=some (.int .i64 nt):=cell_of_row w5 s 0 _ _ _ hblk5
 have k1:w5.cell? ⟨s,1,none⟩=some (.string nk):=cell_of_row w5 s 1 _ _ _ hblk5
 have k2:w5.cell? ⟨s,2,none⟩=some (.bool nw):=cell_of_row w5 s 2 _ _ _ hblk5
 have c0:w5.cell? ⟨b,0,none⟩=some (.map (some bm)):=cell_of_row w5 b 0 _ _ _ hb5
 have hl9:(Instr.lookup 220 (.map (some bm)) (.agg #[.int .i64 nt,.string nk,.bool nw]) false).run Tryz.prog w5.drew=.ok (.map (some c)) w5.drew:=by
  have:=h5.drew.lookup nenc Tryz.underlying220 (v0:=none) (zero45 _) hn false
  rw [aget_aput,if_pos rfl] at this
  exact this
 go_still_tail 8,(by kernel_rfl)
 clear hl9
 change wpList _ _ _ _ _ w5.drew
 refine wpList_update_al _ rfl _ _ _ 137 3 rfl ienc Tryz.underlying137 rfl hi5.drew who rfl hw want rfl ?_
 intro w9 h9 t9
 go_frame
 go_wp2_with fail
 go_ret
 have hT9:Turns (fun i=>i=c) w5 w9:=((Turns.refl _ _).drew).turned t9 (.inr rfl)
 have hT:Turns (fun i=>i=bm) w w9:=⟨hT9.os.trans hTw.os,hT9.tape.trans hTw.tape,hT9.output.trans hTw.output,Nat.le_trans hTw.size hT9.size,fun i hi hne=>(hT9.block i (Nat.lt_of_lt_of_le hi hTw.size) (by omega)).trans (hTw.block i hi hne)⟩
 exact ⟨c,rfl,hcw,h.more (by rw [ahas_eq,hg];rfl) hcw hT h9 (h5.turns hT9 (fun e=>hcne e.symm)),hT⟩
def takeB (M:Lk) (who:Int) (n:Nm) (mode:Int):Bool:=!barred (heldBy M n) who (wants M who n mode)
def takeS (M:Lk) (who:Int) (n:Nm) (mode:Int):Lk:=if takeB M who n mode=true then takeM M who n mode else M
theorem empty_le:ByteArray.empty.size≤maxLen:=by decide
theorem modelOf_aput (T:Tb) (n:Nm) (bi:Nat) (l:Hold):modelOf (aput T n (bi,l))=aput (modelOf T) n l:=(aput_map (fun q:Nat × Hold=>q.2) T n (bi,l)).symm
theorem modelOf_adel (T:Tb) (n:Nm):modelOf (adel T n)=adel (modelOf T) n:=(adel_map (fun q:Nat × Hold=>q.2) T n).symm
def Off (T:Tb) (i:Nat):Prop:=∀ p∈T,p.2.1≠i
def OfT (bm:Nat) (T:Tb) (i:Nat):Prop:=i=bm∨∃ p∈T,p.2.1=i
theorem take_T (B b bm:Nat) (T:Tb) (who mode:Int) (n:Nm) (hn:nok n) (hw:iok who) (w:World) (hT:LocksT w B b bm T) :
  Calls Tryz.prog 130 #[.pointer (some ⟨b,0,none⟩),.int .i64 who,nval n,.int .i64 mode] w fun e w' =>
   e=.returned (.bool (takeB (modelOf T) who n mode))∧∃ T',LocksT w' B b bm T'∧modelOf T'=takeS (modelOf T) who n mode∧Turns (OfT bm T) w w'∧∀ i,i<w.heap.size→Off T i→Off T' i:=by
 cases hg:aget T n with
 | none =>
  refine (take_none B b bm T who mode n hg hn hw w hT).mono ?_
  rintro e w' ⟨bi,rfl,hbi,h',t'⟩
  have e1:takeB (modelOf T) who n mode=true:=by unfold takeB;rw [heldBy_none hg];rfl
  have e2:wants (modelOf T) who n mode=both 0 mode:=by unfold wants;rw [heldBy_none hg];rfl
  refine ⟨by rw [e1],_,h',?_,t'.mono fun i _ e=>.inl e,?_⟩
  ·unfold takeS takeM
   rw [if_pos e1,modelOf_aput,heldBy_none hg,e2];rfl
  ·intro i hi ho p hp
   rw [aput_new _ (by rw [ahas_eq,hg];rfl)] at hp
   rcases List.mem_append.1 hp with hp | hp
   ·exact ho p hp
   ·simp at hp;subst hp
    show bi≠i
    omega
 | some q =>
  obtain ⟨bi,l⟩:=q
  have hmem:=mem_of_aget hg
  refine (take_some B b bm T who mode n bi l hg hn hw w hT).mono ?_
  have e2:wants (modelOf T) who n mode=both ((aget l who).getD 0) mode:=by unfold wants;rw [heldBy_some hg]
  rintro e w' (⟨hb,rfl,hB⟩ | ⟨hb,rfl,h',t'⟩)
  ·have e1:takeB (modelOf T) who n mode=false:=by unfold takeB;rw [heldBy_some hg,e2,hb];rfl
   refine ⟨by rw [e1],T,hT.below hB,?_,Turns.of_below hB,fun i _ h=>h⟩
   unfold takeS;rw [e1];rfl
  ·have e1:takeB (modelOf T) who n mode=true:=by unfold takeB;rw [heldBy_some hg,e2,hb];rfl
   refine ⟨by rw [e1],_,h',?_,t'.mono fun i _ e=>.inr ⟨_,hmem,e.symm⟩,?_⟩
   ·unfold takeS takeM
    rw [if_pos e1,modelOf_aput,heldBy_some hg,e2]
   ·intro i hi ho p hp
    unfold aput at hp
    rw [if_pos (by rw [ahas_eq,hg];rfl)] at hp
    obtain ⟨q,hq,rfl⟩:=List.mem_map.1 hp
    by_cases e:q.1=n
    ·rw [if_pos e];exact ho (n,(bi,l)) hmem
    ·rw [if_neg e];exact ho q hq
theorem LocksT.ofT {w:World} {B b bm:Nat} {T:Tb} (h:LocksT w B b bm T) {i:Nat} (hi:OfT bm T i):i=bm∨B≤i:=by
 rcases hi with h1 | ⟨p,hp,rfl⟩
 ·exact .inl h1
 ·exact .inr (h.base p hp)
def Keeps (w w':World) (bm:Nat) (T T':Tb):Prop:=∀ X,X<w.heap.size→X≠bm→Off T X→w'.heap[X]?=w.heap[X]?∧Off T' X
theorem Keeps.below {w w':World} {bm:Nat} {T:Tb} (k:Below w.heap.size w w'):Keeps w w' bm T T:=fun X hX _ ho=>⟨k.block X hX,ho⟩
theorem Keeps.take {w w':World} {bm:Nat} {T T':Tb} (t:Turns (OfT bm T) w w') (o:∀ i,i<w.heap.size→Off T i→Off T' i):Keeps w w' bm T T' :=
 fun X hX hb ho=>⟨t.block X hX (by rintro (h | ⟨p,hp,h⟩);exact hb h;exact ho p hp h),o X hX ho⟩
theorem Keeps.trans {w w' w'':World} {bm:Nat} {T T' T'':Tb} (h:Keeps w w' bm T T') (k:Keeps w' w'' bm T' T'') (hs:w.heap.size≤w'.heap.size):Keeps w w'' bm T T'' :=
 fun X hX hb ho=>by
  obtain ⟨h1,h2⟩:=h X hX hb ho
  obtain ⟨k1,k2⟩:=k X (Nat.lt_of_lt_of_le hX hs) hb h2
  exact ⟨k1.trans h1,k2⟩
theorem Keeps.change {w w':World} {bm bi:Nat} {T:Tb} {n:Nm} {l l':Hold} (hg:aget T n=some (bi,l)) (t:Turns (fun i=>i=bi) w w'):Keeps w w' bm T (aput T n (bi,l')) :=
 fun X hX _ ho=>by
  have hb:X≠bi:=fun e=>ho _ (mem_of_aget hg) e.symm
  refine ⟨t.block X hX hb,fun p hp=>?_⟩
  unfold aput at hp
  rw [if_pos (by rw [ahas_eq,hg];rfl)] at hp
  obtain ⟨q,hq,rfl⟩:=List.mem_map.1 hp
  by_cases e:q.1=n
  ·rw [if_pos e];exact fun e=>hb e.symm
  ·rw [if_neg e];exact ho q hq
theorem Keeps.drop {w w':World} {bm:Nat} {T:Tb} (n:Nm) (t:Turns (fun i=>i=bm) w w'):Keeps w w' bm T (adel T n) :=
 fun X hX hb ho=>⟨t.block X hX hb,fun p hp=>ho p (List.filter_sublist.subset hp)⟩
theorem new_any (w:World) :
  Calls Tryz.prog 79 #[] w fun e w'=>e=.returned (.pointer (some ⟨w.heap.size+1,0,none⟩))∧LocksAt w' (w.heap.size+2) (w.heap.size+1) w.heap.size []∧Below w.heap.size w w'∧w'.heap.size=w.heap.size+2:=by
 have hmm:=@run_makeMap Tryz.prog
 go_enter Tryz.func79,Tryz.ntmps79
 go_wp2
 go_ret
 exact ⟨rfl,⟨[],⟨by simpa using heap_alloc_new (w.alloc (.map #[] 0)) _,(MapAt.made w _ _ _).alloc _,by simp,by simp,List.Pairwise.nil,by omega,by omega,by simp⟩,rfl⟩,((Below.refl _ _).alloc (Nat.le_refl _) _).alloc (by simp) _,by simp⟩
structure Boxes (w:World) (s:Nat) (t:Int) (k:ByteArray):Prop where
 a:w.heap[s]?=some (.cells #[.int .i64 t,.string k,.bool false] 235 (0,0))
 b:w.heap[s+1]?=some (.cells #[.int .i64 t,.string ⟨#[]⟩,.bool true] 235 (0,0))
theorem Boxes.turns {w w':World} {s:Nat} {t:Int} {k:ByteArray} {S:Nat→Prop} (h:Boxes w s t k) (u:Turns S w w') (h0:¬ S s) (h1:¬ S (s+1)):Boxes w' s t k :=
 ⟨(u.block s (Array.getElem?_eq_some_iff.1 h.a).1 h0).trans h.a,(u.block (s+1) (Array.getElem?_eq_some_iff.1 h.b).1 h1).trans h.b⟩
theorem lookup_outer {w:World} {B b bm:Nat} {T:Tb} (h:LocksT w B b bm T) (n:Nm) (hn:nok n) (W':World) (hW:W'.heap[bm]?=w.heap[bm]?) :
  (Instr.lookup 220 (.map (some bm)) (nval n) false).run Tryz.prog W'=.ok (.map ((aget T n).map fun q=>q.1)) W':=by
 have:=(h.outer.of_block (w':=W') hW).lookup nenc Tryz.underlying220 (v0:=none) (zero45 _) hn false
 rw [aget_map (fun q:Nat × Hold=>some q.1)] at this
 cases hg:aget T n with
 | none=>rw [hg] at this;exact this
 | some q=>rw [hg] at this;exact this
def tname (t:Int):Nm:=(t,⟨#[]⟩,true)
theorem lookup_inner {w:World} {B b bm:Nat} {T:Tb} (h:LocksT w B b bm T) (n:Nm) (who:Int) (hw:iok who) (W':World) (hW:W'.heap=w.heap) :
  (Instr.lookup 137 (.map ((aget T n).map fun q=>q.1)) (.int .i64 who) false).run Tryz.prog W'=.ok (.int .i64 ((aget (heldBy (modelOf T) n) who).getD 0)) W':=by
 cases hg:aget T n with
 | none =>
  rw [heldBy_none hg]
  exact look_nil (w:=W') false ienc.keyed Tryz.underlying137 (zero3 _) (keyOf_int_mk Tryz.underlying3 hw)
 | some q =>
  obtain ⟨bi,l⟩:=q
  rw [heldBy_some hg]
  exact ((h.get hg).1.of_block (w':=W') (by rw [hW])).lookup ienc Tryz.underlying137 (v0:=0) (zero3 _) hw false
theorem LocksT.drop {w w':World} {B b bm:Nat} {T:Tb} (h:LocksT w B b bm T) (n:Nm) (t:Turns (fun i=>i=bm) w w')
  (hout:MapAt w' nval nok oval bm (adel (T.map fun p=>(p.1,(fun q:Nat × Hold=>some q.1) p.2)) n)):LocksT w' B b bm (adel T n):=by
 have hbb:¬ b=bm:=fun e=>h.ne e.symm
 have hsub:(adel T n).Sublist T:=List.filter_sublist
 refine ⟨(t.block b (Array.getElem?_eq_some_iff.1 h.blk).1 hbb).trans h.blk,?_,fun p hp=>(h.inner p (hsub.subset hp)).turns t (by have:=h.base p (hsub.subset hp);have:=h.low;omega),fun p hp=>h.base p (hsub.subset hp),h.apart.sublist hsub,h.low,h.blow,Nat.le_trans h.size t.size⟩
 rw [← adel_map (fun q:Nat × Hold=>some q.1)];exact hout
theorem aput_aput {K V:Type} [DecidableEq K] (l:List (K × V)) (x:K) (u v:V):aput (aput l x u) x v=aput l x v:=by
 have h:ahas (aput l x u) x=true:=by rw [ahas_aput];simp
 unfold aput at h ⊢
 by_cases e:ahas l x=true
 ·simp only [if_pos e] at h ⊢
  rw [if_pos h,List.map_map]
  refine List.map_congr_left fun p _=>?_
  simp only [Function.comp]
  by_cases e2:p.1=x<;>simp [e2]
 ·simp only [if_neg e] at h ⊢
  rw [if_pos h,List.map_append]
  congr 1
  ·conv=>rhs;rw [← List.map_id l]
   refine List.map_congr_left fun p hp=>?_
   have:=ahas_false.1 (by simpa using e) p hp
   rw [if_neg this];rfl
  ·simp
theorem aput_self {K V:Type} [DecidableEq K] {l:List (K × V)} (hl:Apart l) {x:K} {v:V} (h:aget l x=some v):aput l x v=l:=by
 have hh:ahas l x=true:=by rw [ahas_eq,h];rfl
 unfold aput
 rw [if_pos hh]
 conv=>rhs;rw [← List.map_id l]
 refine List.map_congr_left fun p hp=>?_
 by_cases e:p.1=x
 ·have:=aget_mem hl hp
  rw [e,h] at this
  injection this with this
  rw [if_pos e]
  obtain ⟨p1,p2⟩:=p
  simp only at e this
  rw [e,this];rfl
 ·rw [if_neg e];rfl
theorem adel_aput {K V:Type} [DecidableEq K] (l:List (K × V)) (x:K) (v:V):adel (aput l x v) x=adel l x:=by
 unfold aput
 by_cases h:ahas l x=true
 ·rw [if_pos h]
  unfold adel
  induction l with
  | nil=>rfl
  | cons p l ih =>
   rw [List.map_cons,List.filter_cons,List.filter_cons]
   have ih':(l.map fun p=>if p.1=x then (x,v) else p).filter (fun p=>!decide (p.1=x))=l.filter fun p=>!decide (p.1=x):=by
    by_cases h2:ahas l x=true
    ·exact ih h2
    ·have h3:=ahas_false.1 (by simpa using h2)
     congr 1
     conv=>rhs;rw [← List.map_id l]
     refine List.map_congr_left fun p hp=>?_
     rw [if_neg (h3 p hp)];rfl
   rw [ih']
   by_cases h1:p.1=x<;>simp [h1]
 ·rw [if_neg h];unfold adel;rw [List.filter_append];simp
def WF (M:Lk):Prop:=∀ p∈M,p.2≠[]∧Apart p.2∧∀ q∈p.2,q.2≠0
theorem WF.nil:WF []:=by intro p hp;cases hp
theorem WF.held {M:Lk} (h:WF M) (n:Nm):Apart (heldBy M n)∧(∀ q∈heldBy M n,q.2≠0)∧(heldBy M n=[]→aget M n=none):=by
 unfold heldBy
 cases hg:aget M n with
 | none=>exact ⟨Apart.nil,(fun q hq=>by cases hq),fun _=>rfl⟩
 | some l =>
  have:=h _ (mem_of_aget hg)
  exact ⟨this.2.1,this.2.2,fun e=>absurd e this.1⟩
theorem LocksT.apartM {w:World} {B b bm:Nat} {T:Tb} (h:LocksT w B b bm T):Apart (modelOf T):=by
 have:=h.apartT
 unfold Apart at this ⊢
 unfold modelOf
 rw [List.pairwise_map];exact this
theorem restore_new {M:Lk} (hW:WF M) (n:Nm) (who want:Int) (h0:(aget (heldBy M n) who).getD 0=0) (he:adel (aput (heldBy M n) who want) who=[]):adel (aput M n (aput (heldBy M n) who want)) n=M:=by
 obtain ⟨ha,hz,hn⟩:=hW.held n
 have hno:ahas (heldBy M n) who=false:=by
  cases hh:ahas (heldBy M n) who with
  | false=>rfl
  | true =>
   rw [ahas_eq] at hh
   obtain ⟨v,hv⟩:=Option.isSome_iff_exists.1 hh
   rw [hv] at h0
   exact absurd h0 (hz _ (mem_of_aget hv))
 rw [adel_aput,adel_none hno] at he
 rw [adel_aput]
 exact adel_none (by rw [ahas_eq,hn he];rfl)
theorem restore_old {M:Lk} (hA:Apart M) (hW:WF M) (n:Nm) (who want:Int) (h0:(aget (heldBy M n) who).getD 0=0) (he:adel (aput (heldBy M n) who want) who≠[]):aput (aput M n (aput (heldBy M n) who want)) n (adel (aput (heldBy M n) who want) who)=M:=by
 obtain ⟨ha,hz,hn⟩:=hW.held n
 have hno:ahas (heldBy M n) who=false:=by
  cases hh:ahas (heldBy M n) who with
  | false=>rfl
  | true =>
   rw [ahas_eq] at hh
   obtain ⟨v,hv⟩:=Option.isSome_iff_exists.1 hh
   rw [hv] at h0
   exact absurd h0 (hz _ (mem_of_aget hv))
 rw [adel_aput,adel_none hno] at he ⊢
 rw [aput_aput]
 refine aput_self hA ?_
 unfold heldBy at he ⊢
 cases hg:aget M n with
 | none=>rw [hg] at he;exact absurd rfl he
 | some l=>rfl
theorem restore_mode {M:Lk} (hA:Apart M) (hW:WF M) (n:Nm) (who want:Int) (h0:(aget (heldBy M n) who).getD 0≠0):aput (aput M n (aput (heldBy M n) who want)) n (aput (aput (heldBy M n) who want) who ((aget (heldBy M n) who).getD 0))=M:=by
 obtain ⟨ha,hz,hn⟩:=hW.held n
 rw [aput_aput,aput_aput]
 cases hv:aget (heldBy M n) who with
 | none=>rw [hv] at h0;exact absurd rfl h0
 | some v =>
  rw [Option.getD_some,aput_self ha hv]
  refine aput_self hA ?_
  unfold heldBy at hv ⊢
  cases hg:aget M n with
  | none=>rw [hg] at hv;cases hv
  | some l=>rfl
def keyB (M:Lk) (who t:Int) (k:ByteArray):Bool:=takeB M who (tname t) 2 && takeB (takeM M who (tname t) 2) who (t,k,false) 3
def keyS (M:Lk) (who t:Int) (k:ByteArray):Lk:=if keyB M who t k=true then takeM (takeM M who (tname t) 2) who (t,k,false) 3 else M
theorem key_c1 (B b bm:Nat) (T:Tb) (who t:Int) (k:ByteArray) (hn:iok t) (hk:k.size≤maxLen) (hw:iok who) (w:World) (h:LocksT w B b bm T) (hr1:takeB (modelOf T) who (tname t) 2=false) :
  Calls Tryz.prog 87 #[.pointer (some ⟨b,0,none⟩),.int .i64 who,.int .i64 t,.string k,.bool true] w fun e w' =>
   e=.returned (.bool false)∧∃ T',LocksT w' B b bm T'∧modelOf T'=modelOf T∧Turns (fun i=>i=bm∨B≤i) w w'∧Keeps w w' bm T T':=by
 have hbw:b<w.heap.size:=(Array.getElem?_eq_some_iff.1 h.blk).1
 have hltT:∀ p∈T,p.2.1<w.heap.size:=fun p hp=>(h.inner p hp).lt
 have hbmlt:=h.outer.lt
 obtain ⟨HN,HK⟩:=zi2 hn hk
 have hB0:Below w.heap.size w ((w.alloc (.cells #[.int .i64 t,.string k,.bool false] 235)).alloc (.cells #[.int .i64 t,.string ⟨#[]⟩,.bool true] 235)):=((Below.refl _ _).alloc (Nat.le_refl _) _).alloc (by simp) _
 have hX0:Boxes ((w.alloc (.cells #[.int .i64 t,.string k,.bool false] 235)).alloc (.cells #[.int .i64 t,.string ⟨#[]⟩,.bool true] 235)) w.heap.size t k:=by
  refine ⟨(Below.heap_alloc _ _ _ (by simp)).trans (heap_alloc_new w _),?_⟩
  have:=heap_alloc_new (w.alloc (.cells #[.int .i64 t,.string k,.bool false] 235)) (.cells #[.int .i64 t,.string ⟨#[]⟩,.bool true] 235)
  rw [World.size_alloc] at this
  exact this
 have hz0:((w.alloc (.cells #[.int .i64 t,.string k,.bool false] 235)).alloc (.cells #[.int .i64 t,.string ⟨#[]⟩,.bool true] 235)).heap.size=w.heap.size+2:=by simp
 have HLT:=hid hltT
 clear hltT hn hk
 go_enter Tryz.func87,Tryz.ntmps87
 go_wp2_with fail
 generalize (w.alloc (.cells #[.int .i64 t,.string k,.bool false] 235)).alloc (.cells #[.int .i64 t,.string ⟨#[]⟩,.bool true] 235)=W0 at hB0 hX0 hz0 ⊢
 have hA0:=h.below hB0
 obtain ⟨s,hs⟩:∃ s,s=w.heap.size:=⟨_,rfl⟩
 rw [← hs] at hX0 hz0 hbw hbmlt ⊢
 have HS:=hid hs
 clear hs
 have k0:W0.cell? ⟨s+1,0,none⟩=some (.int .i64 t):=cell_of_row W0 (s+1) 0 _ _ _ hX0.b
 have k1:W0.cell? ⟨s+1,1,none⟩=some (.string ⟨#[]⟩):=cell_of_row W0 (s+1) 1 _ _ _ hX0.b
 have k2:W0.cell? ⟨s+1,2,none⟩=some (.bool true):=cell_of_row W0 (s+1) 2 _ _ _ hX0.b
 have c0:W0.cell? ⟨b,0,none⟩=some (.map (some bm)):=cell_of_row W0 b 0 _ _ _ hA0.blk
 obtain ⟨o,ho⟩:∃ o,o=(aget T (tname t)).map fun q=>q.1:=⟨_,rfl⟩
 obtain ⟨O,hO⟩:∃ O,O=(aget (heldBy (modelOf T) (tname t)) who).getD 0:=⟨_,rfl⟩
 have hl1:∀ n,(Instr.lookup 220 (.map (some bm)) (.agg #[.int .i64 t,.string ⟨#[]⟩,.bool true]) false).run Tryz.prog (W0.drewN n)=.ok (.map o) (W0.drewN n):=by
  intro n;rw [ho];exact lookup_outer hA0 (tname t) ⟨HN.out,empty_le⟩ _ rfl
 have hl2:∀ n,(Instr.lookup 137 (.map o) (.int .i64 who) false).run Tryz.prog (W0.drewN n)=.ok (.int .i64 O) (W0.drewN n):=by
  intro n;rw [ho,hO];exact lookup_inner hA0 (tname t) who hw _ rfl
 have HO:=hid hO
 clear ho hO
 go_quiet (fail)
 have hA1:LocksT (W0.drewN nq) B b bm T:=hA0.below ⟨rfl,rfl,rfl,Nat.le_refl _,fun _ _=>rfl⟩
 have hX1:Boxes (W0.drewN nq) s t k:=⟨hX0.a,hX0.b⟩
 have hz1:(W0.drewN nq).heap.size=s+2:=hz0
 have hB1:Below w.heap.size w (W0.drewN nq):=hB0.trans ⟨rfl,rfl,rfl,Nat.le_refl _,fun _ _=>rfl⟩
 clear k0 k1 k2 c0 hl1 hl2 hA0 hX0 hz0 hB0
 generalize W0.drewN nq=W1 at hA1 hX1 hz1 hB1 ⊢
 have k0:W1.cell? ⟨s+1,0,none⟩=some (.int .i64 t):=cell_of_row W1 (s+1) 0 _ _ _ hX1.b
 have k1:W1.cell? ⟨s+1,1,none⟩=some (.string ⟨#[]⟩):=cell_of_row W1 (s+1) 1 _ _ _ hX1.b
 have k2:W1.cell? ⟨s+1,2,none⟩=some (.bool true):=cell_of_row W1 (s+1) 2 _ _ _ hX1.b
 have HZ1:=hid hz1
 clear hz1
 have hc1:Calls Tryz.prog 130 #[.pointer (some ⟨b,0,none⟩),.int .i64 who,.agg #[.int .i64 t,.string ⟨#[]⟩,.bool true],.int .i64 2] W1 _:=take_T B b bm T who 2 (tname t) ⟨HN.out,empty_le⟩ hw W1 hA1
 have HC1:=hid hc1
 clear hc1
 have HR1:=hid hr1
 clear hr1
 go_wp2_with (first
  | (go_at_call 130;(with_reducible refine HC1.out.mono ?_);rintro e w2 ⟨rfl,T2,h2,e2,t2,o2⟩;rw [HR1.out]))
 go_ret
 have hTw:∀ {v:World},Turns (OfT bm T) W1 v→Turns (fun i=>i=bm∨B≤i) w v:=fun u=>(Turns.of_below hB1).trans (u.mono fun i _ hi=>h.ofT hi)
 exact ⟨rfl,T2,h2,by rw [e2];unfold takeS;rw [HR1.out];rfl,hTw t2,(Keeps.below hB1).trans (Keeps.take t2 o2) hB1.size⟩
theorem key_c2 (B b bm:Nat) (T:Tb) (who t:Int) (k:ByteArray) (hn:iok t) (hk:k.size≤maxLen) (hw:iok who) (w:World) (h:LocksT w B b bm T) (hr1:takeB (modelOf T) who (tname t) 2=true) (hr2:takeB (takeM (modelOf T) who (tname t) 2) who (t,k,false) 3=true) :
  Calls Tryz.prog 87 #[.pointer (some ⟨b,0,none⟩),.int .i64 who,.int .i64 t,.string k,.bool true] w fun e w' =>
   e=.returned (.bool true)∧∃ T',LocksT w' B b bm T'∧modelOf T'=takeM (takeM (modelOf T) who (tname t) 2) who (t,k,false) 3∧Turns (fun i=>i=bm∨B≤i) w w'∧Keeps w w' bm T T':=by
 have hbw:b<w.heap.size:=(Array.getElem?_eq_some_iff.1 h.blk).1
 have hltT:∀ p∈T,p.2.1<w.heap.size:=fun p hp=>(h.inner p hp).lt
 have hbmlt:=h.outer.lt
 obtain ⟨HN,HK⟩:=zi2 hn hk
 have hB0:Below w.heap.size w ((w.alloc (.cells #[.int .i64 t,.string k,.bool false] 235)).alloc (.cells #[.int .i64 t,.string ⟨#[]⟩,.bool true] 235)):=((Below.refl _ _).alloc (Nat.le_refl _) _).alloc (by simp) _
 have hX0:Boxes ((w.alloc (.cells #[.int .i64 t,.string k,.bool false] 235)).alloc (.cells #[.int .i64 t,.string ⟨#[]⟩,.bool true] 235)) w.heap.size t k:=by
  refine ⟨(Below.heap_alloc _ _ _ (by simp)).trans (heap_alloc_new w _),?_⟩
  have:=heap_alloc_new (w.alloc (.cells #[.int .i64 t,.string k,.bool false] 235)) (.cells #[.int .i64 t,.string ⟨#[]⟩,.bool true] 235)
  rw [World.size_alloc] at this
  exact this
 have hz0:((w.alloc (.cells #[.int .i64 t,.string k,.bool false] 235)).alloc (.cells #[.int .i64 t,.string ⟨#[]⟩,.bool true] 235)).heap.size=w.heap.size+2:=by simp
 have HLT:=hid hltT
 clear hltT hn hk
 go_enter Tryz.func87,Tryz.ntmps87
 go_wp2_with fail
 generalize (w.alloc (.cells #[.int .i64 t,.string k,.bool false] 235)).alloc (.cells #[.int .i64 t,.string ⟨#[]⟩,.bool true] 235)=W0 at hB0 hX0 hz0 ⊢
 have hA0:=h.below hB0
 obtain ⟨s,hs⟩:∃ s,s=w.heap.size:=⟨_,rfl⟩
 rw [← hs] at hX0 hz0 hbw hbmlt ⊢
 have HS:=hid hs
 clear hs
 have k0:W0.cell? ⟨s+1,0,none⟩=some (.int .i64 t):=cell_of_row W0 (s+1) 0 _ _ _ hX0.b
 have k1:W0.cell? ⟨s+1,1,none⟩=some (.string ⟨#[]⟩):=cell_of_row W0 (s+1) 1 _ _ _ hX0.b
 have k2:W0.cell? ⟨s+1,2,none⟩=some (.bool true):=cell_of_row W0 (s+1) 2 _ _ _ hX0.b
 have c0:W0.cell? ⟨b,0,none⟩=some (.map (some bm)):=cell_of_row W0 b 0 _ _ _ hA0.blk
 obtain ⟨o,ho⟩:∃ o,o=(aget T (tname t)).map fun q=>q.1:=⟨_,rfl⟩
 obtain ⟨O,hO⟩:∃ O,O=(aget (heldBy (modelOf T) (tname t)) who).getD 0:=⟨_,rfl⟩
 have hl1:∀ n,(Instr.lookup 220 (.map (some bm)) (.agg #[.int .i64 t,.string ⟨#[]⟩,.bool true]) false).run Tryz.prog (W0.drewN n)=.ok (.map o) (W0.drewN n):=by
  intro n;rw [ho];exact lookup_outer hA0 (tname t) ⟨HN.out,empty_le⟩ _ rfl
 have hl2:∀ n,(Instr.lookup 137 (.map o) (.int .i64 who) false).run Tryz.prog (W0.drewN n)=.ok (.int .i64 O) (W0.drewN n):=by
  intro n;rw [ho,hO];exact lookup_inner hA0 (tname t) who hw _ rfl
 have HO:=hid hO
 clear ho hO
 go_quiet (fail)
 have hA1:LocksT (W0.drewN nq) B b bm T:=hA0.below ⟨rfl,rfl,rfl,Nat.le_refl _,fun _ _=>rfl⟩
 have hX1:Boxes (W0.drewN nq) s t k:=⟨hX0.a,hX0.b⟩
 have hz1:(W0.drewN nq).heap.size=s+2:=hz0
 have hB1:Below w.heap.size w (W0.drewN nq):=hB0.trans ⟨rfl,rfl,rfl,Nat.le_refl _,fun _ _=>rfl⟩
 clear k0 k1 k2 c0 hl1 hl2 hA0 hX0 hz0 hB0
 generalize W0.drewN nq=W1 at hA1 hX1 hz1 hB1 ⊢
 have k0:W1.cell? ⟨s+1,0,none⟩=some (.int .i64 t):=cell_of_row W1 (s+1) 0 _ _ _ hX1.b
 have k1:W1.cell? ⟨s+1,1,none⟩=some (.string ⟨#[]⟩):=cell_of_row W1 (s+1) 1 _ _ _ hX1.b
 have k2:W1.cell? ⟨s+1,2,none⟩=some (.bool true):=cell_of_row W1 (s+1) 2 _ _ _ hX1.b
 have HZ1:=hid hz1
 clear hz1
 have hc1:Calls Tryz.prog 130 #[.pointer (some ⟨b,0,none⟩),.int .i64 who,.agg #[.int .i64 t,.string ⟨#[]⟩,.bool true],.int .i64 2] W1 _:=take_T B b bm T who 2 (tname t) ⟨HN.out,empty_le⟩ hw W1 hA1
 have HC1:=hid hc1
 clear hc1
 obtain ⟨HR1,HR2⟩:=zi2 hr1 hr2
 clear hr1 hr2
 have hoff0:Off T s:=fun p hp=>by have:=HLT.out p hp;have:=HS.out;omega
 have hoff1:Off T (s+1):=fun p hp=>by have:=HLT.out p hp;have:=HS.out;omega
 obtain ⟨HF0,HF1⟩:=zi2 hoff0 hoff1
 have n0:¬ OfT bm T s:=by rintro (h1 | ⟨p,hp,h1⟩);omega;exact hoff0 p hp h1
 have n1:¬ OfT bm T (s+1):=by rintro (h1 | ⟨p,hp,h1⟩);omega;exact hoff1 p hp h1
 obtain ⟨HN0,HN1⟩:=zi2 n0 n1
 clear hoff0 hoff1 n0 n1
 go_wp2_with (first
  | (go_at_call 130;(with_reducible refine HC1.out.mono ?_);rintro e w2 ⟨rfl,T2,h2,e2,t2,o2⟩;rw [HR1.out];have hX2:=hX1.turns t2 HN0.out HN1.out;have m0:w2.cell? ⟨s,0,none⟩=some (.int .i64 t):=cell_of_row w2 s 0 _ _ _ hX2.a;have m1:w2.cell? ⟨s,1,none⟩=some (.string k):=cell_of_row w2 s 1 _ _ _ hX2.a;have m2:w2.cell? ⟨s,2,none⟩=some (.bool false):=cell_of_row w2 s 2 _ _ _ hX2.a;have E2:=hid e2;have O2:=hid o2;clear e2 o2)
  | (go_at_call 130;have hc2:Calls Tryz.prog 130 #[.pointer (some ⟨b,0,none⟩),.int .i64 who,.agg #[.int .i64 t,.string k,.bool false],.int .i64 3] w2 _:=take_T B b bm T2 who 3 (t,k,false) ⟨HN.out,HK.out⟩ hw w2 h2;refine hc2.mono ?_;clear hc2;rintro e w3 ⟨rfl,T3,h3,e3,t3,o3⟩;have E3:=hid e3;have O3:=hid o3;clear e3 o3;rw [E2.out,show takeS (modelOf T) who (tname t) 2=takeM (modelOf T) who (tname t) 2 from by (unfold takeS;rw [HR1.out];rfl),HR2.out]))
 go_ret
 have hTw:∀ {v:World},Turns (OfT bm T) W1 v→Turns (fun i=>i=bm∨B≤i) w v:=fun u=>(Turns.of_below hB1).trans (u.mono fun i _ hi=>h.ofT hi)
 have e2':modelOf T2=takeM (modelOf T) who (tname t) 2:=by rw [E2.out];unfold takeS;rw [HR1.out];rfl
 refine ⟨rfl,T3,h3,?_,(hTw t2).trans (t3.mono fun i _ hi=>h2.ofT hi),((Keeps.below hB1).trans (Keeps.take t2 O2.out) hB1.size).trans (Keeps.take t3 O3.out) (hTw t2).size⟩
 rw [E3.out,e2'];unfold takeS;rw [HR2.out];rfl
theorem key_c3 (B b bm:Nat) (T:Tb) (who t:Int) (k:ByteArray) (hn:iok t) (hk:k.size≤maxLen) (hw:iok who) (w:World) (h:LocksT w B b bm T) (hr1:takeB (modelOf T) who (tname t) 2=true) (hr2:takeB (takeM (modelOf T) who (tname t) 2) who (t,k,false) 3=false) (h0:(aget (heldBy (modelOf T) (tname t)) who).getD 0=0) (hW:WF (modelOf T)) (he:adel (aput (heldBy (modelOf T) (tname t)) who (wants (modelOf T) who (tname t) 2)) who=[]) :
  Calls Tryz.prog 87 #[.pointer (some ⟨b,0,none⟩),.int .i64 who,.int .i64 t,.string k,.bool true] w fun e w' =>
   e=.returned (.bool false)∧∃ T',LocksT w' B b bm T'∧modelOf T'=modelOf T∧Turns (fun i=>i=bm∨B≤i) w w'∧Keeps w w' bm T T':=by
 have hbw:b<w.heap.size:=(Array.getElem?_eq_some_iff.1 h.blk).1
 have hltT:∀ p∈T,p.2.1<w.heap.size:=fun p hp=>(h.inner p hp).lt
 have hbmlt:=h.outer.lt
 obtain ⟨HN,HK⟩:=zi2 hn hk
 have hB0:Below w.heap.size w ((w.alloc (.cells #[.int .i64 t,.string k,.bool false] 235)).alloc (.cells #[.int .i64 t,.string ⟨#[]⟩,.bool true] 235)):=((Below.refl _ _).alloc (Nat.le_refl _) _).alloc (by simp) _
 have hX0:Boxes ((w.alloc (.cells #[.int .i64 t,.string k,.bool false] 235)).alloc (.cells #[.int .i64 t,.string ⟨#[]⟩,.bool true] 235)) w.heap.size t k:=by
  refine ⟨(Below.heap_alloc _ _ _ (by simp)).trans (heap_alloc_new w _),?_⟩
  have:=heap_alloc_new (w.alloc (.cells #[.int .i64 t,.string k,.bool false] 235)) (.cells #[.int .i64 t,.string ⟨#[]⟩,.bool true] 235)
  rw [World.size_alloc] at this
  exact this
 have hz0:((w.alloc (.cells #[.int .i64 t,.string k,.bool false] 235)).alloc (.cells #[.int .i64 t,.string ⟨#[]⟩,.bool true] 235)).heap.size=w.heap.size+2:=by simp
 have HLT:=hid hltT
 clear hltT hn hk
 go_enter Tryz.func87,Tryz.ntmps87
 go_wp2_with fail
 generalize (w.alloc (.cells #[.int .i64 t,.string k,.bool false] 235)).alloc (.cells #[.int .i64 t,.string ⟨#[]⟩,.bool true] 235)=W0 at hB0 hX0 hz0 ⊢
 have hA0:=h.below hB0
 obtain ⟨s,hs⟩:∃ s,s=w.heap.size:=⟨_,rfl⟩
 rw [← hs] at hX0 hz0 hbw hbmlt ⊢
 have HS:=hid hs
 clear hs
 have k0:W0.cell? ⟨s+1,0,none⟩=some (.int .i64 t):=cell_of_row W0 (s+1) 0 _ _ _ hX0.b
 have k1:W0.cell? ⟨s+1,1,none⟩=some (.string ⟨#[]⟩):=cell_of_row W0 (s+1) 1 _ _ _ hX0.b
 have k2:W0.cell? ⟨s+1,2,none⟩=some (.bool true):=cell_of_row W0 (s+1) 2 _ _ _ hX0.b
 have c0:W0.cell? ⟨b,0,none⟩=some (.map (some bm)):=cell_of_row W0 b 0 _ _ _ hA0.blk
 obtain ⟨o,ho⟩:∃ o,o=(aget T (tname t)).map fun q=>q.1:=⟨_,rfl⟩
 obtain ⟨O,hO⟩:∃ O,O=(aget (heldBy (modelOf T) (tname t)) who).getD 0:=⟨_,rfl⟩
 have hl1:∀ n,(Instr.lookup 220 (.map (some bm)) (.agg #[.int .i64 t,.string ⟨#[]⟩,.bool true]) false).run Tryz.prog (W0.drewN n)=.ok (.map o) (W0.drewN n):=by
  intro n;rw [ho];exact lookup_outer hA0 (tname t) ⟨HN.out,empty_le⟩ _ rfl
 have hl2:∀ n,(Instr.lookup 137 (.map o) (.int .i64 who) false).run Tryz.prog (W0.drewN n)=.ok (.int .i64 O) (W0.drewN n):=by
  intro n;rw [ho,hO];exact lookup_inner hA0 (tname t) who hw _ rfl
 have HO:=hid hO
 clear ho hO
 go_quiet (fail)
 have hA1:LocksT (W0.drewN nq) B b bm T:=hA0.below ⟨rfl,rfl,rfl,Nat.le_refl _,fun _ _=>rfl⟩
 have hX1:Boxes (W0.drewN nq) s t k:=⟨hX0.a,hX0.b⟩
 have hz1:(W0.drewN nq).heap.size=s+2:=hz0
 have hB1:Below w.heap.size w (W0.drewN nq):=hB0.trans ⟨rfl,rfl,rfl,Nat.le_refl _,fun _ _=>rfl⟩
 clear k0 k1 k2 c0 hl1 hl2 hA0 hX0 hz0 hB0
 generalize W0.drewN nq=W1 at hA1 hX1 hz1 hB1 ⊢
 have k0:W1.cell? ⟨s+1,0,none⟩=some (.int .i64 t):=cell_of_row W1 (s+1) 0 _ _ _ hX1.b
 have k1:W1.cell? ⟨s+1,1,none⟩=some (.string ⟨#[]⟩):=cell_of_row W1 (s+1) 1 _ _ _ hX1.b
 have k2:W1.cell? ⟨s+1,2,none⟩=some (.bool true):=cell_of_row W1 (s+1) 2 _ _ _ hX1.b
 have HZ1:=hid hz1
 clear hz1
 have hc1:Calls Tryz.prog 130 #[.pointer (some ⟨b,0,none⟩),.int .i64 who,.agg #[.int .i64 t,.string ⟨#[]⟩,.bool true],.int .i64 2] W1 _:=take_T B b bm T who 2 (tname t) ⟨HN.out,empty_le⟩ hw W1 hA1
 have HC1:=hid hc1
 clear hc1
 have hO0:(O == 0)=true:=by rw [HO.out,h0];rfl
 have H0:=hid h0
 clear h0
 have HE:=hid he
 clear he
 obtain ⟨HR1,HR2⟩:=zi2 hr1 hr2
 clear hr1 hr2
 have hoff0:Off T s:=fun p hp=>by have:=HLT.out p hp;have:=HS.out;omega
 have hoff1:Off T (s+1):=fun p hp=>by have:=HLT.out p hp;have:=HS.out;omega
 obtain ⟨HF0,HF1⟩:=zi2 hoff0 hoff1
 have n0:¬ OfT bm T s:=by rintro (h1 | ⟨p,hp,h1⟩);omega;exact hoff0 p hp h1
 have n1:¬ OfT bm T (s+1):=by rintro (h1 | ⟨p,hp,h1⟩);omega;exact hoff1 p hp h1
 obtain ⟨HN0,HN1⟩:=zi2 n0 n1
 clear hoff0 hoff1 n0 n1
 go_wp2_with (first
  | (go_at_call 130;(with_reducible refine HC1.out.mono ?_);rintro e w2 ⟨rfl,T2,h2,e2,t2,o2⟩;rw [HR1.out];have hX2:=hX1.turns t2 HN0.out HN1.out;have m0:w2.cell? ⟨s,0,none⟩=some (.int .i64 t):=cell_of_row w2 s 0 _ _ _ hX2.a;have m1:w2.cell? ⟨s,1,none⟩=some (.string k):=cell_of_row w2 s 1 _ _ _ hX2.a;have m2:w2.cell? ⟨s,2,none⟩=some (.bool false):=cell_of_row w2 s 2 _ _ _ hX2.a;have E2:=hid e2;have O2:=hid o2;clear e2 o2)
  | (go_at_call 130;have hc2:Calls Tryz.prog 130 #[.pointer (some ⟨b,0,none⟩),.int .i64 who,.agg #[.int .i64 t,.string k,.bool false],.int .i64 3] w2 _:=take_T B b bm T2 who 3 (t,k,false) ⟨HN.out,HK.out⟩ hw w2 h2;refine hc2.mono ?_;clear hc2;rintro e w3 ⟨rfl,T3,h3,e3,t3,o3⟩;have E3:=hid e3;have O3:=hid o3;clear e3 o3;rw [E2.out,show takeS (modelOf T) who (tname t) 2=takeM (modelOf T) who (tname t) 2 from by (unfold takeS;rw [HR1.out];rfl),HR2.out]))
 have hf20:Off T2 s:=O2.out s (by have:=HZ1.out;omega) HF0.out
 have hf21:Off T2 (s+1):=O2.out (s+1) (by have:=HZ1.out;omega) HF1.out
 have hX3:Boxes w3 s t k:=hX2.turns t3 (by rintro (h1 | ⟨p,hp,h1⟩);omega;exact hf20 p hp h1) (by rintro (h1 | ⟨p,hp,h1⟩);omega;exact hf21 p hp h1)
 have e2':modelOf T2=takeM (modelOf T) who (tname t) 2:=by rw [E2.out];unfold takeS;rw [HR1.out];rfl
 have e3':modelOf T3=takeM (modelOf T) who (tname t) 2:=by rw [E3.out,e2'];unfold takeS;rw [HR2.out];rfl
 obtain ⟨L1,hL1⟩:∃ L1,L1=aput (heldBy (modelOf T) (tname t)) who (wants (modelOf T) who (tname t) 2):=⟨_,rfl⟩
 obtain ⟨bi,hbi⟩:∃ bi,aget T3 (tname t)=some (bi,L1):=by
  have h1:aget (modelOf T3) (tname t)=some L1:=by rw [e3',takeM,aget_aput,if_pos rfl,hL1]
  rw [modelOf_get] at h1
  cases hg:aget T3 (tname t) with
  | none=>rw [hg] at h1;cases h1
  | some q=>obtain ⟨b1,l1⟩:=q;rw [hg] at h1;injection h1 with h1;exact ⟨b1,by rw [← h1]⟩
 have hf31:Off T3 (s+1):=O3.out (s+1) (by have:=HZ1.out;have:=t2.size;omega) hf21
 have hbis:¬ s+1=bi:=fun e=>hf31 _ (mem_of_aget hbi) e.symm
 have hin3:=h3.get hbi
 have hbibm:¬ bm=bi:=by have:=h3.low;omega
 have hTw3:Turns (fun i=>i=bm∨B≤i) w w3:=((Turns.of_below hB1).trans (t2.mono fun i _ hi=>h.ofT hi)).trans (t3.mono fun i _ hi=>h2.ofT hi)
 have hlk:∀ (W':World),W'.heap[bm]?=w3.heap[bm]?→(Instr.lookup 220 (.map (some bm)) (.agg #[.int .i64 t,.string ⟨#[]⟩,.bool true]) false).run Tryz.prog W'=.ok (.map (some bi)) W':=by
  intro W' hW'
  have:=lookup_outer h3 (tname t) ⟨HN.out,empty_le⟩ W' hW'
  rw [hbi] at this
  exact this
 have KP3:=hid (show Keeps w w3 bm T T3 from ((Keeps.below hB1).trans (Keeps.take t2 O2.out) hB1.size).trans (Keeps.take t3 O3.out) (Nat.le_trans hB1.size t2.size))
 have HE3:=hid e3'
 obtain ⟨HL1,HBI,HLK⟩:=zi3 hL1 hbi hlk
 have HBX:=hid hX3.b
 clear hf20 hf21 hX3 e2' e3' hL1 hbi hlk hf31 hX2 m0 m1 m2 k0 k1 k2 hA1 hX1 hB1 t2 t3 E2 E3 O2 O3 HC1 HN0 HN1 hbw
 have k0:w3.cell? ⟨s+1,0,none⟩=some (.int .i64 t):=cell_of_row w3 (s+1) 0 _ _ _ HBX.out
 have k1:w3.cell? ⟨s+1,1,none⟩=some (.string ⟨#[]⟩):=cell_of_row w3 (s+1) 1 _ _ _ HBX.out
 have k2:w3.cell? ⟨s+1,2,none⟩=some (.bool true):=cell_of_row w3 (s+1) 2 _ _ _ HBX.out
 have c0:w3.cell? ⟨b,0,none⟩=some (.map (some bm)):=cell_of_row w3 b 0 _ _ _ h3.blk
 have hl12:(Instr.lookup 220 (.map (some bm)) (.agg #[.int .i64 t,.string ⟨#[]⟩,.bool true]) false).run Tryz.prog w3.drew=.ok (.map (some bi)) w3.drew:=HLK.out _ rfl
 go_still_tail 7,(by kernel_rfl)
 clear hl12
 change wpList _ _ _ _ _ w3.drew
 refine wpList_delete_al _ rfl _ _ 137 3 rfl ienc Tryz.underlying137 rfl hin3.1.drew who rfl hw ?_
 intro w4 h4 t4
 go_frame
 have hT4:Turns (fun i=>i=bi) w3 w4:=((Turns.refl _ _).drew).turned t4 (.inr rfl)
 have hA4:=h3.change HBI.out hT4 h4
 have hBX4:=(hT4.block (s+1) (Array.getElem?_eq_some_iff.1 HBX.out).1 hbis).trans HBX.out
 have hTw4:Turns (fun i=>i=bm∨B≤i) w w4:=hTw3.trans (hT4.mono fun i _ e=>.inr (by rw [e];exact hin3.2))
 have KP4:=hid (show Keeps w w4 bm T (aput T3 (tname t) (bi,adel L1 who)) from KP3.out.trans (Keeps.change HBI.out hT4) hTw3.size)
 have hl13:∀ n,(Instr.lookup 220 (.map (some bm)) (.agg #[.int .i64 t,.string ⟨#[]⟩,.bool true]) false).run Tryz.prog (w4.drewN n)=.ok (.map (some bi)) (w4.drewN n):=fun n=>HLK.out _ (hT4.block bm h3.outer.lt hbibm)
 have hln:∀ n ty,(Builtin.len_ #[137] ty #[.map (some bi)]).run Tryz.prog (w4.drewN n)=.ok (.int .i64 (adel L1 who).length) (w4.drewN n):=fun n ty=>(h4.drewN n).len Tryz.underlying137 ty
 clear k0 k1 k2 c0 hin3 t4 h4 hTw3 HBX
 have k0:w4.cell? ⟨s+1,0,none⟩=some (.int .i64 t):=cell_of_row w4 (s+1) 0 _ _ _ hBX4
 have k1:w4.cell? ⟨s+1,1,none⟩=some (.string ⟨#[]⟩):=cell_of_row w4 (s+1) 1 _ _ _ hBX4
 have k2:w4.cell? ⟨s+1,2,none⟩=some (.bool true):=cell_of_row w4 (s+1) 2 _ _ _ hBX4
 have c0:w4.cell? ⟨b,0,none⟩=some (.map (some bm)):=cell_of_row w4 b 0 _ _ _ hA4.blk
 have hlen:(((adel L1 who).length:Int) == 0)=true:=by rw [HL1.out,HE.out];rfl
 go_wp2_with fail
 go_quiet (fail)
 have hA5:LocksT (w4.drewN nq) B b bm (aput T3 (tname t) (bi,adel L1 who)):=hA4.below ⟨rfl,rfl,rfl,Nat.le_refl _,fun _ _=>rfl⟩
 have hBX5:(w4.drewN nq).heap[s+1]?=_:=hBX4
 have hTw5:Turns (fun i=>i=bm∨B≤i) w (w4.drewN nq):=hTw4.drewN nq
 have KP5:=hid (show Keeps w (w4.drewN nq) bm T (aput T3 (tname t) (bi,adel L1 who)) from KP4.out)
 clear k0 k1 k2 c0 hl13 hln hA4 hBX4 hTw4 hT4
 generalize w4.drewN nq=W5 at hA5 hBX5 hTw5 KP5 ⊢
 have k0:W5.cell? ⟨s+1,0,none⟩=some (.int .i64 t):=cell_of_row W5 (s+1) 0 _ _ _ hBX5
 have k1:W5.cell? ⟨s+1,1,none⟩=some (.string ⟨#[]⟩):=cell_of_row W5 (s+1) 1 _ _ _ hBX5
 have k2:W5.cell? ⟨s+1,2,none⟩=some (.bool true):=cell_of_row W5 (s+1) 2 _ _ _ hBX5
 have c0:W5.cell? ⟨b,0,none⟩=some (.map (some bm)):=cell_of_row W5 b 0 _ _ _ hA5.blk
 go_wp2_with fail
 go_still_tail 5,(by kernel_rfl)
 change wpList _ _ _ _ _ W5.drew
 refine wpList_delete_al _ rfl _ _ 220 137 rfl nenc Tryz.underlying220 rfl hA5.outer.drew (tname t) rfl ⟨HN.out,empty_le⟩ ?_
 intro w6 h6 t6
 go_frame
 go_wp2_with fail
 go_ret
 have hT6:Turns (fun i=>i=bm) W5 w6:=((Turns.refl _ _).drew).turned t6 (.inr rfl)
 refine ⟨rfl,_,hA5.drop (tname t) hT6 h6,?_,hTw5.trans (hT6.mono fun i _ e=>.inl e),KP5.out.trans (Keeps.drop (tname t) hT6) hTw5.size⟩
 have e1:adel (takeM (modelOf T) who (tname t) 2) (tname t)=modelOf T:=restore_new hW (tname t) who _ H0.out HE.out
 rw [modelOf_adel,modelOf_aput,HE3.out,adel_aput];exact e1
theorem key_c4 (B b bm:Nat) (T:Tb) (who t:Int) (k:ByteArray) (hn:iok t) (hk:k.size≤maxLen) (hw:iok who) (w:World) (h:LocksT w B b bm T) (hr1:takeB (modelOf T) who (tname t) 2=true) (hr2:takeB (takeM (modelOf T) who (tname t) 2) who (t,k,false) 3=false) (h0:(aget (heldBy (modelOf T) (tname t)) who).getD 0=0) (hW:WF (modelOf T)) (he:adel (aput (heldBy (modelOf T) (tname t)) who (wants (modelOf T) who (tname t) 2)) who≠[]) :
  Calls Tryz.prog 87 #[.pointer (some ⟨b,0,none⟩),.int .i64 who,.int .i64 t,.string k,.bool true] w fun e w' =>
   e=.returned (.bool false)∧∃ T',LocksT w' B b bm T'∧modelOf T'=modelOf T∧Turns (fun i=>i=bm∨B≤i) w w'∧Keeps w w' bm T T':=by
 have hbw:b<w.heap.size:=(Array.getElem?_eq_some_iff.1 h.blk).1
 have hltT:∀ p∈T,p.2.1<w.heap.size:=fun p hp=>(h.inner p hp).lt
 have hbmlt:=h.outer.lt
 obtain ⟨HN,HK⟩:=zi2 hn hk
 have hB0:Below w.heap.size w ((w.alloc (.cells #[.int .i64 t,.string k,.bool false] 235)).alloc (.cells #[.int .i64 t,.string ⟨#[]⟩,.bool true] 235)):=((Below.refl _ _).alloc (Nat.le_refl _) _).alloc (by simp) _
 have hX0:Boxes ((w.alloc (.cells #[.int .i64 t,.string k,.bool false] 235)).alloc (.cells #[.int .i64 t,.string ⟨#[]⟩,.bool true] 235)) w.heap.size t k:=by
  refine ⟨(Below.heap_alloc _ _ _ (by simp)).trans (heap_alloc_new w _),?_⟩
  have:=heap_alloc_new (w.alloc (.cells #[.int .i64 t,.string k,.bool false] 235)) (.cells #[.int .i64 t,.string ⟨#[]⟩,.bool true] 235)
  rw [World.size_alloc] at this
  exact this
 have hz0:((w.alloc (.cells #[.int .i64 t,.string k,.bool false] 235)).alloc (.cells #[.int .i64 t,.string ⟨#[]⟩,.bool true] 235)).heap.size=w.heap.size+2:=by simp
 have HLT:=hid hltT
 clear hltT hn hk
 go_enter Tryz.func87,Tryz.ntmps87
 go_wp2_with fail
 generalize (w.alloc (.cells #[.int .i64 t,.string k,.bool false] 235)).alloc (.cells #[.int .i64 t,.string ⟨#[]⟩,.bool true] 235)=W0 at hB0 hX0 hz0 ⊢
 have hA0:=h.below hB0
 obtain ⟨s,hs⟩:∃ s,s=w.heap.size:=⟨_,rfl⟩
 rw [← hs] at hX0 hz0 hbw hbmlt ⊢
 have HS:=hid hs
 clear hs
 have k0:W0.cell? ⟨s+1,0,none⟩=some (.int .i64 t):=cell_of_row W0 (s+1) 0 _ _ _ hX0.b
 have k1:W0.cell? ⟨s+1,1,none⟩=some (.string ⟨#[]⟩):=cell_of_row W0 (s+1) 1 _ _ _ hX0.b
 have k2:W0.cell? ⟨s+1,2,none⟩=some (.bool true):=cell_of_row W0 (s+1) 2 _ _ _ hX0.b
 have c0:W0.cell? ⟨b,0,none⟩=some (.map (some bm)):=cell_of_row W0 b 0 _ _ _ hA0.blk
 obtain ⟨o,ho⟩:∃ o,o=(aget T (tname t)).map fun q=>q.1:=⟨_,rfl⟩
 obtain ⟨O,hO⟩:∃ O,O=(aget (heldBy (modelOf T) (tname t)) who).getD 0:=⟨_,rfl⟩
 have hl1:∀ n,(Instr.lookup 220 (.map (some bm)) (.agg #[.int .i64 t,.string ⟨#[]⟩,.bool true]) false).run Tryz.prog (W0.drewN n)=.ok (.map o) (W0.drewN n):=by
  intro n;rw [ho];exact lookup_outer hA0 (tname t) ⟨HN.out,empty_le⟩ _ rfl
 have hl2:∀ n,(Instr.lookup 137 (.map o) (.int .i64 who) false).run Tryz.prog (W0.drewN n)=.ok (.int .i64 O) (W0.drewN n):=by
  intro n;rw [ho,hO];exact lookup_inner hA0 (tname t) who hw _ rfl
 have HO:=hid hO
 clear ho hO
 go_quiet (fail)
 have hA1:LocksT (W0.drewN nq) B b bm T:=hA0.below ⟨rfl,rfl,rfl,Nat.le_refl _,fun _ _=>rfl⟩
 have hX1:Boxes (W0.drewN nq) s t k:=⟨hX0.a,hX0.b⟩
 have hz1:(W0.drewN nq).heap.size=s+2:=hz0
 have hB1:Below w.heap.size w (W0.drewN nq):=hB0.trans ⟨rfl,rfl,rfl,Nat.le_refl _,fun _ _=>rfl⟩
 clear k0 k1 k2 c0 hl1 hl2 hA0 hX0 hz0 hB0
 generalize W0.drewN nq=W1 at hA1 hX1 hz1 hB1 ⊢
 have k0:W1.cell? ⟨s+1,0,none⟩=some (.int .i64 t):=cell_of_row W1 (s+1) 0 _ _ _ hX1.b
 have k1:W1.cell? ⟨s+1,1,none⟩=some (.string ⟨#[]⟩):=cell_of_row W1 (s+1) 1 _ _ _ hX1.b
 have k2:W1.cell? ⟨s+1,2,none⟩=some (.bool true):=cell_of_row W1 (s+1) 2 _ _ _ hX1.b
 have HZ1:=hid hz1
 clear hz1
 have hc1:Calls Tryz.prog 130 #[.pointer (some ⟨b,0,none⟩),.int .i64 who,.agg #[.int .i64 t,.string ⟨#[]⟩,.bool true],.int .i64 2] W1 _:=take_T B b bm T who 2 (tname t) ⟨HN.out,empty_le⟩ hw W1 hA1
 have HC1:=hid hc1
 clear hc1
 have hO0:(O == 0)=true:=by rw [HO.out,h0];rfl
 have H0:=hid h0
 clear h0
 have HE:=hid he
 clear he
 obtain ⟨HR1,HR2⟩:=zi2 hr1 hr2
 clear hr1 hr2
 have hoff0:Off T s:=fun p hp=>by have:=HLT.out p hp;have:=HS.out;omega
 have hoff1:Off T (s+1):=fun p hp=>by have:=HLT.out p hp;have:=HS.out;omega
 obtain ⟨HF0,HF1⟩:=zi2 hoff0 hoff1
 have n0:¬ OfT bm T s:=by rintro (h1 | ⟨p,hp,h1⟩);omega;exact hoff0 p hp h1
 have n1:¬ OfT bm T (s+1):=by rintro (h1 | ⟨p,hp,h1⟩);omega;exact hoff1 p hp h1
 obtain ⟨HN0,HN1⟩:=zi2 n0 n1
 clear hoff0 hoff1 n0 n1
 go_wp2_with (first
  | (go_at_call 130;(with_reducible refine HC1.out.mono ?_);rintro e w2 ⟨rfl,T2,h2,e2,t2,o2⟩;rw [HR1.out];have hX2:=hX1.turns t2 HN0.out HN1.out;have m0:w2.cell? ⟨s,0,none⟩=some (.int .i64 t):=cell_of_row w2 s 0 _ _ _ hX2.a;have m1:w2.cell? ⟨s,1,none⟩=some (.string k):=cell_of_row w2 s 1 _ _ _ hX2.a;have m2:w2.cell? ⟨s,2,none⟩=some (.bool false):=cell_of_row w2 s 2 _ _ _ hX2.a;have E2:=hid e2;have O2:=hid o2;clear e2 o2)
  | (go_at_call 130;have hc2:Calls Tryz.prog 130 #[.pointer (some ⟨b,0,none⟩),.int .i64 who,.agg #[.int .i64 t,.string k,.bool false],.int .i64 3] w2 _:=take_T B b bm T2 who 3 (t,k,false) ⟨HN.out,HK.out⟩ hw w2 h2;refine hc2.mono ?_;clear hc2;rintro e w3 ⟨rfl,T3,h3,e3,t3,o3⟩;have E3:=hid e3;have O3:=hid o3;clear e3 o3;rw [E2.out,show takeS (modelOf T) who (tname t) 2=takeM (modelOf T) who (tname t) 2 from by (unfold takeS;rw [HR1.out];rfl),HR2.out]))
 have hf20:Off T2 s:=O2.out s (by have:=HZ1.out;omega) HF0.out
 have hf21:Off T2 (s+1):=O2.out (s+1) (by have:=HZ1.out;omega) HF1.out
 have hX3:Boxes w3 s t k:=hX2.turns t3 (by rintro (h1 | ⟨p,hp,h1⟩);omega;exact hf20 p hp h1) (by rintro (h1 | ⟨p,hp,h1⟩);omega;exact hf21 p hp h1)
 have e2':modelOf T2=takeM (modelOf T) who (tname t) 2:=by rw [E2.out];unfold takeS;rw [HR1.out];rfl
 have e3':modelOf T3=takeM (modelOf T) who (tname t) 2:=by rw [E3.out,e2'];unfold takeS;rw [HR2.out];rfl
 obtain ⟨L1,hL1⟩:∃ L1,L1=aput (heldBy (modelOf T) (tname t)) who (wants (modelOf T) who (tname t) 2):=⟨_,rfl⟩
 obtain ⟨bi,hbi⟩:∃ bi,aget T3 (tname t)=some (bi,L1):=by
  have h1:aget (modelOf T3) (tname t)=some L1:=by rw [e3',takeM,aget_aput,if_pos rfl,hL1]
  rw [modelOf_get] at h1
  cases hg:aget T3 (tname t) with
  | none=>rw [hg] at h1;cases h1
  | some q=>obtain ⟨b1,l1⟩:=q;rw [hg] at h1;injection h1 with h1;exact ⟨b1,by rw [← h1]⟩
 have hf31:Off T3 (s+1):=O3.out (s+1) (by have:=HZ1.out;have:=t2.size;omega) hf21
 have hbis:¬ s+1=bi:=fun e=>hf31 _ (mem_of_aget hbi) e.symm
 have hin3:=h3.get hbi
 have hbibm:¬ bm=bi:=by have:=h3.low;omega
 have hTw3:Turns (fun i=>i=bm∨B≤i) w w3:=((Turns.of_below hB1).trans (t2.mono fun i _ hi=>h.ofT hi)).trans (t3.mono fun i _ hi=>h2.ofT hi)
 have hlk:∀ (W':World),W'.heap[bm]?=w3.heap[bm]?→(Instr.lookup 220 (.map (some bm)) (.agg #[.int .i64 t,.string ⟨#[]⟩,.bool true]) false).run Tryz.prog W'=.ok (.map (some bi)) W':=by
  intro W' hW'
  have:=lookup_outer h3 (tname t) ⟨HN.out,empty_le⟩ W' hW'
  rw [hbi] at this
  exact this
 have KP3:=hid (show Keeps w w3 bm T T3 from ((Keeps.below hB1).trans (Keeps.take t2 O2.out) hB1.size).trans (Keeps.take t3 O3.out) (Nat.le_trans hB1.size t2.size))
 have HE3:=hid e3'
 obtain ⟨HL1,HBI,HLK⟩:=zi3 hL1 hbi hlk
 have HBX:=hid hX3.b
 clear hf20 hf21 hX3 e2' e3' hL1 hbi hlk hf31 hX2 m0 m1 m2 k0 k1 k2 hA1 hX1 hB1 t2 t3 E2 E3 O2 O3 HC1 HN0 HN1 hbw
 have k0:w3.cell? ⟨s+1,0,none⟩=some (.int .i64 t):=cell_of_row w3 (s+1) 0 _ _ _ HBX.out
 have k1:w3.cell? ⟨s+1,1,none⟩=some (.string ⟨#[]⟩):=cell_of_row w3 (s+1) 1 _ _ _ HBX.out
 have k2:w3.cell? ⟨s+1,2,none⟩=some (.bool true):=cell_of_row w3 (s+1) 2 _ _ _ HBX.out
 have c0:w3.cell? ⟨b,0,none⟩=some (.map (some bm)):=cell_of_row w3 b 0 _ _ _ h3.blk
 have hl12:(Instr.lookup 220 (.map (some bm)) (.agg #[.int .i64 t,.string ⟨#[]⟩,.bool true]) false).run Tryz.prog w3.drew=.ok (.map (some bi)) w3.drew:=HLK.out _ rfl
 go_still_tail 7,(by kernel_rfl)
 clear hl12
 change wpList _ _ _ _ _ w3.drew
 refine wpList_delete_al _ rfl _ _ 137 3 rfl ienc Tryz.underlying137 rfl hin3.1.drew who rfl hw ?_
 intro w4 h4 t4
 go_frame
 have hT4:Turns (fun i=>i=bi) w3 w4:=((Turns.refl _ _).drew).turned t4 (.inr rfl)
 have hA4:=h3.change HBI.out hT4 h4
 have hBX4:=(hT4.block (s+1) (Array.getElem?_eq_some_iff.1 HBX.out).1 hbis).trans HBX.out
 have hTw4:Turns (fun i=>i=bm∨B≤i) w w4:=hTw3.trans (hT4.mono fun i _ e=>.inr (by rw [e];exact hin3.2))
 have KP4:=hid (show Keeps w w4 bm T (aput T3 (tname t) (bi,adel L1 who)) from KP3.out.trans (Keeps.change HBI.out hT4) hTw3.size)
 have hl13:∀ n,(Instr.lookup 220 (.map (some bm)) (.agg #[.int .i64 t,.string ⟨#[]⟩,.bool true]) false).run Tryz.prog (w4.drewN n)=.ok (.map (some bi)) (w4.drewN n):=fun n=>HLK.out _ (hT4.block bm h3.outer.lt hbibm)
 have hln:∀ n ty,(Builtin.len_ #[137] ty #[.map (some bi)]).run Tryz.prog (w4.drewN n)=.ok (.int .i64 (adel L1 who).length) (w4.drewN n):=fun n ty=>(h4.drewN n).len Tryz.underlying137 ty
 clear k0 k1 k2 c0 hin3 t4 h4 hTw3 HBX
 have k0:w4.cell? ⟨s+1,0,none⟩=some (.int .i64 t):=cell_of_row w4 (s+1) 0 _ _ _ hBX4
 have k1:w4.cell? ⟨s+1,1,none⟩=some (.string ⟨#[]⟩):=cell_of_row w4 (s+1) 1 _ _ _ hBX4
 have k2:w4.cell? ⟨s+1,2,none⟩=some (.bool true):=cell_of_row w4 (s+1) 2 _ _ _ hBX4
 have c0:w4.cell? ⟨b,0,none⟩=some (.map (some bm)):=cell_of_row w4 b 0 _ _ _ hA4.blk
 have hlen:(((adel L1 who).length:Int) == 0)=false:=by
  have:=HE.out
  rw [← HL1.out] at this
  have h1:(adel L1 who).length≠0:=fun e=>this (List.eq_nil_of_length_eq_zero e)
  simp;omega
 go_wp2_with fail
 go_quiet (fail)
 go_wp2_with fail
 go_ret
 have hA5:LocksT (w4.drewN nq) B b bm (aput T3 (tname t) (bi,adel L1 who)):=hA4.below ⟨rfl,rfl,rfl,Nat.le_refl _,fun _ _=>rfl⟩
 refine ⟨rfl,_,hA5,?_,hTw4.drewN nq,KP4.out⟩
 rw [modelOf_aput,HE3.out,HL1.out]
 exact restore_old h.apartM hW (tname t) who _ H0.out HE.out
theorem key_c5 (B b bm:Nat) (T:Tb) (who t:Int) (k:ByteArray) (hn:iok t) (hk:k.size≤maxLen) (hw:iok who) (w:World) (h:LocksT w B b bm T) (hr1:takeB (modelOf T) who (tname t) 2=true) (hr2:takeB (takeM (modelOf T) who (tname t) 2) who (t,k,false) 3=false) (h0:(aget (heldBy (modelOf T) (tname t)) who).getD 0≠0) (hW:WF (modelOf T)) :
  Calls Tryz.prog 87 #[.pointer (some ⟨b,0,none⟩),.int .i64 who,.int .i64 t,.string k,.bool true] w fun e w' =>
   e=.returned (.bool false)∧∃ T',LocksT w' B b bm T'∧modelOf T'=modelOf T∧Turns (fun i=>i=bm∨B≤i) w w'∧Keeps w w' bm T T':=by
 have hbw:b<w.heap.size:=(Array.getElem?_eq_some_iff.1 h.blk).1
 have hltT:∀ p∈T,p.2.1<w.heap.size:=fun p hp=>(h.inner p hp).lt
 have hbmlt:=h.outer.lt
 obtain ⟨HN,HK⟩:=zi2 hn hk
 have hB0:Below w.heap.size w ((w.alloc (.cells #[.int .i64 t,.string k,.bool false] 235)).alloc (.cells #[.int .i64 t,.string ⟨#[]⟩,.bool true] 235)):=((Below.refl _ _).alloc (Nat.le_refl _) _).alloc (by simp) _
 have hX0:Boxes ((w.alloc (.cells #[.int .i64 t,.string k,.bool false] 235)).alloc (.cells #[.int .i64 t,.string ⟨#[]⟩,.bool true] 235)) w.heap.size t k:=by
  refine ⟨(Below.heap_alloc _ _ _ (by simp)).trans (heap_alloc_new w _),?_⟩
  have:=heap_alloc_new (w.alloc (.cells #[.int .i64 t,.string k,.bool false] 235)) (.cells #[.int .i64 t,.string ⟨#[]⟩,.bool true] 235)
  rw [World.size_alloc] at this
  exact this
 have hz0:((w.alloc (.cells #[.int .i64 t,.string k,.bool false] 235)).alloc (.cells #[.int .i64 t,.string ⟨#[]⟩,.bool true] 235)).heap.size=w.heap.size+2:=by simp
 have HLT:=hid hltT
 clear hltT hn hk
 go_enter Tryz.func87,Tryz.ntmps87
 go_wp2_with fail
 generalize (w.alloc (.cells #[.int .i64 t,.string k,.bool false] 235)).alloc (.cells #[.int .i64 t,.string ⟨#[]⟩,.bool true] 235)=W0 at hB0 hX0 hz0 ⊢
 have hA0:=h.below hB0
 obtain ⟨s,hs⟩:∃ s,s=w.heap.size:=⟨_,rfl⟩
 rw [← hs] at hX0 hz0 hbw hbmlt ⊢
 have HS:=hid hs
 clear hs
 have k0:W0.cell? ⟨s+1,0,none⟩=some (.int .i64 t):=cell_of_row W0 (s+1) 0 _ _ _ hX0.b
 have k1:W0.cell? ⟨s+1,1,none⟩=some (.string ⟨#[]⟩):=cell_of_row W0 (s+1) 1 _ _ _ hX0.b
 have k2:W0.cell? ⟨s+1,2,none⟩=some (.bool true):=cell_of_row W0 (s+1) 2 _ _ _ hX0.b
 have c0:W0.cell? ⟨b,0,none⟩=some (.map (some bm)):=cell_of_row W0 b 0 _ _ _ hA0.blk
 obtain ⟨o,ho⟩:∃ o,o=(aget T (tname t)).map fun q=>q.1:=⟨_,rfl⟩
 obtain ⟨O,hO⟩:∃ O,O=(aget (heldBy (modelOf T) (tname t)) who).getD 0:=⟨_,rfl⟩
 have hl1:∀ n,(Instr.lookup 220 (.map (some bm)) (.agg #[.int .i64 t,.string ⟨#[]⟩,.bool true]) false).run Tryz.prog (W0.drewN n)=.ok (.map o) (W0.drewN n):=by
  intro n;rw [ho];exact lookup_outer hA0 (tname t) ⟨HN.out,empty_le⟩ _ rfl
 have hl2:∀ n,(Instr.lookup 137 (.map o) (.int .i64 who) false).run Tryz.prog (W0.drewN n)=.ok (.int .i64 O) (W0.drewN n):=by
  intro n;rw [ho,hO];exact lookup_inner hA0 (tname t) who hw _ rfl
 have HO:=hid hO
 clear ho hO
 go_quiet (fail)
 have hA1:LocksT (W0.drewN nq) B b bm T:=hA0.below ⟨rfl,rfl,rfl,Nat.le_refl _,fun _ _=>rfl⟩
 have hX1:Boxes (W0.drewN nq) s t k:=⟨hX0.a,hX0.b⟩
 have hz1:(W0.drewN nq).heap.size=s+2:=hz0
 have hB1:Below w.heap.size w (W0.drewN nq):=hB0.trans ⟨rfl,rfl,rfl,Nat.le_refl _,fun _ _=>rfl⟩
 clear k0 k1 k2 c0 hl1 hl2 hA0 hX0 hz0 hB0
 generalize W0.drewN nq=W1 at hA1 hX1 hz1 hB1 ⊢
 have k0:W1.cell? ⟨s+1,0,none⟩=some (.int .i64 t):=cell_of_row W1 (s+1) 0 _ _ _ hX1.b
 have k1:W1.cell? ⟨s+1,1,none⟩=some (.string ⟨#[]⟩):=cell_of_row W1 (s+1) 1 _ _ _ hX1.b
 have k2:W1.cell? ⟨s+1,2,none⟩=some (.bool true):=cell_of_row W1 (s+1) 2 _ _ _ hX1.b
 have HZ1:=hid hz1
 clear hz1
 have hc1:Calls Tryz.prog 130 #[.pointer (some ⟨b,0,none⟩),.int .i64 who,.agg #[.int .i64 t,.string ⟨#[]⟩,.bool true],.int .i64 2] W1 _:=take_T B b bm T who 2 (tname t) ⟨HN.out,empty_le⟩ hw W1 hA1
 have HC1:=hid hc1
 clear hc1
 have hO0:(O == 0)=false:=by rw [HO.out];simpa using h0
 have H0:=hid h0
 clear h0
 obtain ⟨HR1,HR2⟩:=zi2 hr1 hr2
 clear hr1 hr2
 have hoff0:Off T s:=fun p hp=>by have:=HLT.out p hp;have:=HS.out;omega
 have hoff1:Off T (s+1):=fun p hp=>by have:=HLT.out p hp;have:=HS.out;omega
 obtain ⟨HF0,HF1⟩:=zi2 hoff0 hoff1
 have n0:¬ OfT bm T s:=by rintro (h1 | ⟨p,hp,h1⟩);omega;exact hoff0 p hp h1
 have n1:¬ OfT bm T (s+1):=by rintro (h1 | ⟨p,hp,h1⟩);omega;exact hoff1 p hp h1
 obtain ⟨HN0,HN1⟩:=zi2 n0 n1
 clear hoff0 hoff1 n0 n1
 go_wp2_with (first
  | (go_at_call 130;(with_reducible refine HC1.out.mono ?_);rintro e w2 ⟨rfl,T2,h2,e2,t2,o2⟩;rw [HR1.out];have hX2:=hX1.turns t2 HN0.out HN1.out;have m0:w2.cell? ⟨s,0,none⟩=some (.int .i64 t):=cell_of_row w2 s 0 _ _ _ hX2.a;have m1:w2.cell? ⟨s,1,none⟩=some (.string k):=cell_of_row w2 s 1 _ _ _ hX2.a;have m2:w2.cell? ⟨s,2,none⟩=some (.bool false):=cell_of_row w2 s 2 _ _ _ hX2.a;have E2:=hid e2;have O2:=hid o2;clear e2 o2)
  | (go_at_call 130;have hc2:Calls Tryz.prog 130 #[.pointer (some ⟨b,0,none⟩),.int .i64 who,.agg #[.int .i64 t,.string k,.bool false],.int .i64 3] w2 _:=take_T B b bm T2 who 3 (t,k,false) ⟨HN.out,HK.out⟩ hw w2 h2;refine hc2.mono ?_;clear hc2;rintro e w3 ⟨rfl,T3,h3,e3,t3,o3⟩;have E3:=hid e3;have O3:=hid o3;clear e3 o3;rw [E2.out,show takeS (modelOf T) who (tname t) 2=takeM (modelOf T) who (tname t) 2 from by (unfold takeS;rw [HR1.out];rfl),HR2.out]))
 have hf20:Off T2 s:=O2.out s (by have:=HZ1.out;omega) HF0.out
 have hf21:Off T2 (s+1):=O2.out (s+1) (by have:=HZ1.out;omega) HF1.out
 have hX3:Boxes w3 s t k:=hX2.turns t3 (by rintro (h1 | ⟨p,hp,h1⟩);omega;exact hf20 p hp h1) (by rintro (h1 | ⟨p,hp,h1⟩);omega;exact hf21 p hp h1)
 have e2':modelOf T2=takeM (modelOf T) who (tname t) 2:=by rw [E2.out];unfold takeS;rw [HR1.out];rfl
 have e3':modelOf T3=takeM (modelOf T) who (tname t) 2:=by rw [E3.out,e2'];unfold takeS;rw [HR2.out];rfl
 obtain ⟨L1,hL1⟩:∃ L1,L1=aput (heldBy (modelOf T) (tname t)) who (wants (modelOf T) who (tname t) 2):=⟨_,rfl⟩
 obtain ⟨bi,hbi⟩:∃ bi,aget T3 (tname t)=some (bi,L1):=by
  have h1:aget (modelOf T3) (tname t)=some L1:=by rw [e3',takeM,aget_aput,if_pos rfl,hL1]
  rw [modelOf_get] at h1
  cases hg:aget T3 (tname t) with
  | none=>rw [hg] at h1;cases h1
  | some q=>obtain ⟨b1,l1⟩:=q;rw [hg] at h1;injection h1 with h1;exact ⟨b1,by rw [← h1]⟩
 have hf31:Off T3 (s+1):=O3.out (s+1) (by have:=HZ1.out;have:=t2.size;omega) hf21
 have hbis:¬ s+1=bi:=fun e=>hf31 _ (mem_of_aget hbi) e.symm
 have hin3:=h3.get hbi
 have hbibm:¬ bm=bi:=by have:=h3.low;omega
 have hTw3:Turns (fun i=>i=bm∨B≤i) w w3:=((Turns.of_below hB1).trans (t2.mono fun i _ hi=>h.ofT hi)).trans (t3.mono fun i _ hi=>h2.ofT hi)
 have hlk:∀ (W':World),W'.heap[bm]?=w3.heap[bm]?→(Instr.lookup 220 (.map (some bm)) (.agg #[.int .i64 t,.string ⟨#[]⟩,.bool true]) false).run Tryz.prog W'=.ok (.map (some bi)) W':=by
  intro W' hW'
  have:=lookup_outer h3 (tname t) ⟨HN.out,empty_le⟩ W' hW'
  rw [hbi] at this
  exact this
 have KP3:=hid (show Keeps w w3 bm T T3 from ((Keeps.below hB1).trans (Keeps.take t2 O2.out) hB1.size).trans (Keeps.take t3 O3.out) (Nat.le_trans hB1.size t2.size))
 have HE3:=hid e3'
 obtain ⟨HL1,HBI,HLK⟩:=zi3 hL1 hbi hlk
 have HBX:=hid hX3.b
 clear hf20 hf21 hX3 e2' e3' hL1 hbi hlk hf31 hX2 m0 m1 m2 k0 k1 k2 hA1 hX1 hB1 t2 t3 E2 E3 O2 O3 HC1 HN0 HN1 hbw
 have k0:w3.cell? ⟨s+1,0,none⟩=some (.int .i64 t):=cell_of_row w3 (s+1) 0 _ _ _ HBX.out
 have k1:w3.cell? ⟨s+1,1,none⟩=some (.string ⟨#[]⟩):=cell_of_row w3 (s+1) 1 _ _ _ HBX.out
 have k2:w3.cell? ⟨s+1,2,none⟩=some (.bool true):=cell_of_row w3 (s+1) 2 _ _ _ HBX.out
 have c0:w3.cell? ⟨b,0,none⟩=some (.map (some bm)):=cell_of_row w3 b 0 _ _ _ h3.blk
 have hl12:(Instr.lookup 220 (.map (some bm)) (.agg #[.int .i64 t,.string ⟨#[]⟩,.bool true]) false).run Tryz.prog w3.drew=.ok (.map (some bi)) w3.drew:=HLK.out _ rfl
 go_still_tail 8,(by kernel_rfl)
 clear hl12
 change wpList _ _ _ _ _ w3.drew
 refine wpList_update_al _ rfl _ _ _ 137 3 rfl ienc Tryz.underlying137 rfl hin3.1.drew who rfl hw O rfl ?_
 intro w4 h4 t4
 go_frame
 go_wp2_with fail
 go_ret
 have hT4:Turns (fun i=>i=bi) w3 w4:=((Turns.refl _ _).drew).turned t4 (.inr rfl)
 have hA4:=h3.change HBI.out hT4 h4
 refine ⟨rfl,_,hA4,?_,hTw3.trans (hT4.mono fun i _ e=>.inr (by rw [e];exact hin3.2)),KP3.out.trans (Keeps.change HBI.out hT4) hTw3.size⟩
 rw [modelOf_aput,HE3.out,HL1.out,HO.out]
 exact restore_mode h.apartM hW (tname t) who _ H0.out
theorem key_T (B b bm:Nat) (T:Tb) (who t:Int) (k:ByteArray) (hn:iok t) (hk:k.size≤maxLen) (hw:iok who) (w:World) (hT:LocksT w B b bm T) (hW:WF (modelOf T)) :
  Calls Tryz.prog 87 #[.pointer (some ⟨b,0,none⟩),.int .i64 who,.int .i64 t,.string k,.bool true] w fun e w' =>
   e=.returned (.bool (keyB (modelOf T) who t k))∧∃ T',LocksT w' B b bm T'∧modelOf T'=keyS (modelOf T) who t k∧Turns (fun i=>i=bm∨B≤i) w w'∧Keeps w w' bm T T':=by
 cases hr1:takeB (modelOf T) who (tname t) 2 with
 | false =>
  have e1:keyB (modelOf T) who t k=false:=by unfold keyB;rw [hr1];rfl
  have e2:keyS (modelOf T) who t k=modelOf T:=by unfold keyS;rw [e1];rfl
  rw [e1,e2]
  refine (key_c1 B b bm T who t k hn hk hw w hT hr1).mono ?_
  rintro e w' ⟨rfl,T',h',e',t',k'⟩
  exact ⟨rfl,T',h',e',t',k'⟩
 | true =>
  cases hr2:takeB (takeM (modelOf T) who (tname t) 2) who (t,k,false) 3 with
  | true =>
   have e1:keyB (modelOf T) who t k=true:=by unfold keyB;rw [hr1,hr2];rfl
   have e2:keyS (modelOf T) who t k=takeM (takeM (modelOf T) who (tname t) 2) who (t,k,false) 3:=by unfold keyS;rw [e1];rfl
   rw [e1,e2]
   refine (key_c2 B b bm T who t k hn hk hw w hT hr1 hr2).mono ?_
   rintro e w' ⟨rfl,T',h',e',t',k'⟩
   exact ⟨rfl,T',h',e',t',k'⟩
  | false =>
   have e1:keyB (modelOf T) who t k=false:=by unfold keyB;rw [hr1,hr2];rfl
   have e2:keyS (modelOf T) who t k=modelOf T:=by unfold keyS;rw [e1];rfl
   rw [e1,e2]
   by_cases h0:(aget (heldBy (modelOf T) (tname t)) who).getD 0=0
   ·by_cases he:adel (aput (heldBy (modelOf T) (tname t)) who (wants (modelOf T) who (tname t) 2)) who=[]
    ·refine (key_c3 B b bm T who t k hn hk hw w hT hr1 hr2 h0 hW he).mono ?_
     rintro e w' ⟨rfl,T',h',e',t',k'⟩
     exact ⟨rfl,T',h',e',t',k'⟩
    ·refine (key_c4 B b bm T who t k hn hk hw w hT hr1 hr2 h0 hW he).mono ?_
     rintro e w' ⟨rfl,T',h',e',t',k'⟩
     exact ⟨rfl,T',h',e',t',k'⟩
   ·refine (key_c5 B b bm T who t k hn hk hw w hT hr1 hr2 h0 hW).mono ?_
    rintro e w' ⟨rfl,T',h',e',t',k'⟩
    exact ⟨rfl,T',h',e',t',k'⟩
def proc (who:Int) (L:Nm→Bool) (T:Tb):Tb:=(T.map fun p=>if L p.1=true then p else (p.1,(p.2.1,adel p.2.2 who))).filter fun p=>L p.1 || !p.2.2.isEmpty
theorem proc_key (who:Int) (L:Nm→Bool) (p:Nm × (Nat × Hold)):(if L p.1=true then p else (p.1,(p.2.1,adel p.2.2 who))).1=p.1:=by split<;>rfl
theorem proc_cons (who:Int) (L:Nm→Bool) (p:Nm × (Nat × Hold)) (T:Tb):proc who L (p::T)=(if L p.1=true then [p] else if (adel p.2.2 who).isEmpty=true then [] else [(p.1,(p.2.1,adel p.2.2 who))])++proc who L T:=by
 unfold proc
 rw [List.map_cons,List.filter_cons]
 by_cases h:L p.1=true
 ·simp [h]
 ·have h':L p.1=false:=by simpa using h
  by_cases h2:(adel p.2.2 who).isEmpty=true
  ·simp [h',h2]
  ·simp [h',h2]
theorem proc_all (who:Int) (T:Tb) (L:Nm→Bool) (h:∀ p∈T,L p.1=true):proc who L T=T:=by
 induction T with
 | nil=>rfl
 | cons p T ih=>rw [proc_cons,if_pos (h p (by simp)),ih (fun q hq=>h q (List.mem_cons_of_mem _ hq))];rfl
theorem proc_congr (who:Int) (T:Tb) (L L':Nm→Bool) (h:∀ p∈T,L p.1=L' p.1):proc who L T=proc who L' T:=by
 induction T with
 | nil=>rfl
 | cons p T ih=>rw [proc_cons,proc_cons,h p (by simp),ih (fun q hq=>h q (List.mem_cons_of_mem _ hq))]
theorem proc_none (who:Int) (T:Tb):modelOf (proc who (fun _=>false) T)=dropM (modelOf T) who:=by
 unfold modelOf dropM proc
 rw [List.map_map,List.filter_map,List.filter_map,List.map_map]
 rfl
theorem proc_has (who:Int) (T:Tb) (L:Nm→Bool) (n:Nm) (h:ahas T n=false):ahas (proc who L T) n=false:=by
 rw [ahas_false] at h ⊢
 intro p hp
 unfold proc at hp
 obtain ⟨q,hq,rfl⟩:=List.mem_map.1 (List.mem_filter.1 hp).1
 rw [proc_key];exact h q hq
theorem proc_get (who:Int) {T:Tb} (hA:Apart T) (L:Nm→Bool) {n:Nm} {v:Nat × Hold} (hg:aget T n=some v) (hL:L n=true):aget (proc who L T) n=some v:=by
 induction T with
 | nil=>cases hg
 | cons p T ih =>
  rw [aget_cons] at hg
  rw [proc_cons,aget_append]
  by_cases e:p.1=n
  ·rw [if_pos e] at hg
   rw [e,if_pos hL,ahas_cons,decide_eq_true e,aget_cons,if_pos e]
   simpa using hg
  ·rw [if_neg e] at hg
   have hh:ahas (if L p.1=true then [p] else if (adel p.2.2 who).isEmpty=true then [] else [(p.1,(p.2.1,adel p.2.2 who))]) n=false:=by
    split
    ·rw [ahas_cons,decide_eq_false e];rfl
    ·split
     ·rfl
     ·rw [ahas_cons,decide_eq_false e];rfl
   rw [hh]
   simp only [Bool.false_eq_true,if_false]
   exact ih (List.pairwise_cons.1 hA).2 hg
theorem proc_step (who:Int) {T:Tb} (hA:Apart T) (L:Nm→Bool) {n:Nm} {bi:Nat} {l:Hold} (hg:aget T n=some (bi,l)) (hL:L n=true) :
  (if (adel l who).isEmpty=true then adel (aput (proc who L T) n (bi,adel l who)) n else aput (proc who L T) n (bi,adel l who))=proc who (fun x=>L x && !decide (x=n)) T:=by
 have hget:=proc_get who hA L hg hL
 have hh:ahas (proc who L T) n=true:=by rw [ahas_eq,hget];rfl
 rw [adel_aput]
 have e1:aput (proc who L T) n (bi,adel l who)=(proc who L T).map fun p=>if p.1=n then (n,(bi,adel l who)) else p:=by
  unfold aput;rw [if_pos hh]
 rw [e1]
 clear hh hget e1
 induction T with
 | nil=>cases hg
 | cons p T ih =>
  obtain ⟨hp1,hA'⟩:=List.pairwise_cons.1 hA
  rw [aget_cons] at hg
  by_cases e:p.1=n
  ·rw [if_pos e] at hg
   injection hg with hg
   have hno:∀ q∈T,q.1≠n:=fun q hq e2=>hp1 q hq (by rw [e,e2])
   have hrest:proc who (fun x=>L x && !decide (x=n)) T=proc who L T:=proc_congr who T _ _ fun q hq=>by simp [hno q hq]
   have hnoP:∀ q∈proc who L T,q.1≠n:=fun q hq=>ahas_false.1 (proc_has who T L n (ahas_false.2 hno)) q hq
   have hmap:(proc who L T).map (fun p=>if p.1=n then (n,(bi,adel l who)) else p)=proc who L T:=by
    conv=>rhs;rw [← List.map_id (proc who L T)]
    refine List.map_congr_left fun q hq=>?_
    rw [if_neg (hnoP q hq)];rfl
   have hdel:adel (proc who L T) n=proc who L T:=adel_none (ahas_false.2 hnoP)
   rw [proc_cons,proc_cons,hrest,e,if_pos hL]
   simp only [hL,decide_true,Bool.not_true,Bool.and_false,Bool.false_eq_true,if_false,hg]
   by_cases he:(adel l who).isEmpty=true
   ·rw [if_pos he,if_pos he]
    unfold adel at hdel ⊢
    rw [List.filter_append,hdel]
    simp [e]
   ·rw [if_neg he,if_neg he,List.map_append,hmap]
    simp [e]
  ·rw [if_neg e] at hg
   have ih':=ih hA' hg
   rw [proc_cons,proc_cons,← ih']
   have hLp:(L p.1 && !decide (p.1=n))=L p.1:=by simp [e]
   rw [hLp]
   have hhead:∀ q∈(if L p.1=true then [p] else if (adel p.2.2 who).isEmpty=true then [] else [(p.1,(p.2.1,adel p.2.2 who))]),q.1≠n:=by
    intro q hq
    split at hq
    ·simp at hq;rw [hq];exact e
    ·split at hq
     ·cases hq
     ·simp at hq;rw [hq];exact e
   by_cases he:(adel l who).isEmpty=true
   ·rw [if_pos he,if_pos he]
    unfold adel
    rw [List.filter_append]
    congr 1
    rw [List.filter_eq_self]
    intro q hq;simp [hhead q hq]
   ·rw [if_neg he,if_neg he,List.map_append]
    congr 1
    generalize (if L p.1=true then [p] else if (adel p.2.2 who).isEmpty=true then [] else [(p.1,(p.2.1,adel p.2.2 who))])=Z at hhead
    conv=>rhs;rw [← List.map_id Z]
    refine List.map_congr_left fun q hq=>?_
    rw [if_neg (hhead q hq)];rfl
def outerOf (T:Tb):List (Nm × Option Nat):=T.map fun p=>(p.1,(fun q:Nat × Hold=>some q.1) p.2)
theorem outerOf_get (T:Tb) (n:Nm):aget (outerOf T) n=(aget T n).map fun q=>some q.1:=aget_map (fun q:Nat × Hold=>some q.1) T n
theorem proc_block (who:Int) (L:Nm→Bool) (T:Tb):∀ p∈proc who L T,∃ q∈T,q.2.1=p.2.1:=by
 intro p hp
 unfold proc at hp
 obtain ⟨q,hq,rfl⟩:=List.mem_map.1 (List.mem_filter.1 hp).1
 refine ⟨q,hq,?_⟩
 split<;>rfl
theorem outerOf_aput {T:Tb} (hA:Apart T) {n:Nm} {bi:Nat} {l l':Hold} (hg:aget T n=some (bi,l)):outerOf (aput T n (bi,l'))=outerOf T:=by
 unfold outerOf
 rw [← aput_map (fun q:Nat × Hold=>some q.1)]
 refine aput_self ?_ ?_
 ·unfold Apart at hA ⊢;rw [List.pairwise_map];exact hA
 ·rw [aget_map (fun q:Nat × Hold=>some q.1),hg];rfl
def StepAt {K V:Type} [DecidableEq K] (P:Program) (f:K→Value) (ok:K→Prop) (g:V→Value) (b r:Nat) (l left:List (K × V)) (w:World) (kv vv:Value) (w':World):Prop :=
 ∃ p∈left,kv=f p.1∧vv=g p.2∧RngAt w' f ok g b r l (adel left p.1)∧Turns (fun i=>i=r) w w'∧w'.heap.size=w.heap.size∧(Instr.entry (.pointer (some ⟨r,0,none⟩))).run P w'=.ok (.tuple #[kv,vv]) w'
theorem wpList_next_st {P:Program} {K V:Type} [DecidableEq K] {f:K→Value} {ok:K→Prop} {g:V→Value} (w:World) {b r:Nat} {l left:List (K × V)} {ops:Array Oper} {rest:List Oper} {o:Oper} {a:Act} {Q:Exit→Act→World→Prop}
  (hw:Region.wanted o (yielded ops a.tmps)=true) (it:Operand) (hop:o.op=Op.next it false) (hinj:∀ x y,f x=f y→x=y) (hit:a.eval it=.pointer (some ⟨r,0,none⟩)) (h:RngAt w f ok g b r l left)
  (hDone:left=[]→wpList P ops Q rest (a.put o.dst (.tuple #[.bool false])) w)
  (hMore:∀ (kv vv:Value) (w':World),StepAt P f ok g b r l left w kv vv w'→wpList P ops Q rest (a.put o.dst (.tuple #[.bool true,kv,vv])) w'):wpList P ops Q (o::rest) a w :=
 wpList_next_al w hw it hop hinj hit h hDone fun p hp _ h1 h2 h3 h4=>hMore _ _ _ ⟨p,hp,rfl,rfl,h1,h2,h3,h4⟩
theorem drop_T (B b bm:Nat) (T:Tb) (who:Int) (hw:iok who) (w:World) (h:LocksT w B b bm T) :
  Calls Tryz.prog 96 #[.pointer (some ⟨b,0,none⟩),.int .i64 who] w fun e w' =>
   e=.returned (.tuple #[])∧∃ T',LocksT w' B b bm T'∧modelOf T'=dropM (modelOf T) who∧Turns (fun i=>OfT bm T i∨w.heap.size≤i) w w'∧∀ i,Off T i→Off T' i:=by
 have c0:w.cell? ⟨b,0,none⟩=some (.map (some bm)):=cell_of_row w b 0 _ _ _ h.blk
 have hm:=h.outer
 have hsz:=h.size
 have HLT:=hid (show ∀ p∈T,p.2.1<w.heap.size from fun p hp=>(h.inner p hp).lt)
 have hbm:=hm.lt
 have HA:=hid h.apartT
 go_enter Tryz.func96,Tryz.ntmps96
 go_wp2_with (first
  | (at_range;refine wpList_range_al _ rfl _ 220 137 rfl Tryz.underlying220 rfl hm ?_;intro w1 hr1 t1 s1))
 try go_frame
 have h1:LocksT w1 B b bm T:=h.below (t1.below (Nat.le_refl _) (fun _ _ h=>h))
 have ht1:Turns (fun i=>OfT bm T i∨w.heap.size≤i) w w1:=t1.mono fun i _ h=>h.elim
 obtain ⟨r,hr⟩:∃ r,r=w.heap.size:=⟨_,rfl⟩
 rw [← hr] at hr1 HLT hsz hbm ⊢
 have hproc:T=proc who (fun x=>ahas (outerOf T) x) T:=(proc_all who T (fun x=>ahas (outerOf T) x) fun p hp=>ahas_true.2 ⟨_,List.mem_map.2 ⟨p,hp,rfl⟩,rfl⟩).symm
 obtain ⟨HS,HH,HR⟩:=zi3 s1 h hr
 clear s1 t1 c0 hm h hr
 go_loopw [13] (fun _ wr=>∃ left Tc,LocksT wr B b bm Tc∧RngAt wr nval nok oval bm r (outerOf Tc) left∧Tc=proc who (fun x=>ahas left x) T∧Turns (fun i=>OfT bm T i∨w.heap.size≤i) w wr) (fun _ wr=>wr.rangeLeft bm r)
 case atStart=>exact ⟨outerOf T,T,h1,hr1,hproc,ht1⟩
 case round =>
  clear h1 hr1 ht1 hproc
  obtain ⟨left,Tc,hTc,hrg,hproc,htc⟩:=hrel
  have HP:=hid hproc
  clear hproc
  go_wp2_with (first
   | (at_next;refine wpList_next_st _ rfl _ rfl nenc.inj rfl hrg ?_ ?_))
  ·intro hleft
   go_wp2
   go_end0
   refine ⟨rfl,Tc,hTc,?_,htc,fun i ho p hp e=>by
    rw [HP.out] at hp
    obtain ⟨q,hq,e2⟩:=proc_block who _ T p hp
    exact ho q hq (e2.trans e)⟩
   rw [HP.out,hleft]
   exact proc_none who T
  ·intro kv vv w4 hst
   obtain ⟨⟨n,o⟩,hp,rfl,rfl,hr4,t4,s4,hen⟩:=hst
   have hno:aget (outerOf Tc) n=some o:=aget_mem hTc.outer.apart (hrg.sub.subset hp)
   have hnk:nok n:=hTc.outer.oks _ (hrg.sub.subset hp)
   obtain ⟨bi,l,hg,rfl⟩:∃ bi l,aget Tc n=some (bi,l)∧o=some bi:=by
    rw [outerOf_get] at hno
    cases hg:aget Tc n with
    | none=>rw [hg] at hno;cases hno
    | some q=>obtain ⟨b1,l1⟩:=q;rw [hg] at hno;injection hno with hno;exact ⟨b1,l1,rfl,hno.symm⟩
   have hnT:aget T n=some (bi,l):=by
    have hL:ahas left n=true:=ahas_true.2 ⟨_,hp,rfl⟩
    cases hgT:aget T n with
    | none =>
     have:=proc_has who T (fun x=>ahas left x) n (by rw [ahas_eq,hgT];rfl)
     rw [← HP.out,ahas_eq,hg] at this;cases this
    | some v =>
     have:=proc_get who HA.out (fun x=>ahas left x) hgT hL
     rw [← HP.out,hg] at this
     exact this.symm
   have hoffr:Off Tc r:=by
    intro p hp e
    rw [HP.out] at hp
    obtain ⟨q,hq,e2⟩:=proc_block who _ T p hp
    have:=HLT.out q hq
    omega
   have hbir:¬ bi=r:=hoffr _ (mem_of_aget hg)
   have hrb:¬ b=r:=by have:=hTc.blow;omega
   have hrbm:¬ bm=r:=by omega
   have hTc4:LocksT w4 B b bm Tc:=⟨(t4.block b (Array.getElem?_eq_some_iff.1 hTc.blk).1 hrb).trans hTc.blk,hTc.outer.turns t4 hrbm,fun p hp=>(hTc.inner p hp).turns t4 (hoffr p hp),hTc.base,hTc.apart,hTc.low,hTc.blow,Nat.le_trans hTc.size t4.size⟩
   have htc4:Turns (fun i=>OfT bm T i∨w.heap.size≤i) w w4:=htc.trans (t4.mono fun i _ e=>.inr (by rw [e,HR.out];exact Nat.le_refl _))
   obtain ⟨nt,nk,nw⟩:=n
   unfold nval oval at hen ⊢
   simp only at hen ⊢
   have hB5:Below w4.heap.size w4 (w4.alloc (.cells #[.int .i64 nt,.string nk,.bool nw] 235)):=(Below.refl _ _).alloc (Nat.le_refl _) _
   have hTc5:=hTc4.below hB5
   have hr5:RngAt (w4.alloc (.cells #[.int .i64 nt,.string nk,.bool nw] 235)) nval nok oval bm r (outerOf Tc) (adel left (nt,nk,nw)):=hr4.turns (Turns.of_below (S:=fun _=>False) hB5) (fun h=>h) (fun h=>h)
   have hbx5:(w4.alloc (.cells #[.int .i64 nt,.string nk,.bool nw] 235)).heap[w4.heap.size]?=some (.cells #[.int .i64 nt,.string nk,.bool nw] 235 (0,0)):=heap_alloc_new w4 _
   have hmeas:(adel left (nt,nk,nw)).length<left.length:=length_adel_lt hp
   have hbis:¬ w4.heap.size=bi:=by have:=(hTc4.get hg).1.lt;omega
   have htc5:Turns (fun i=>OfT bm T i∨w.heap.size≤i) w (w4.alloc (.cells #[.int .i64 nt,.string nk,.bool nw] 235)):=htc4.trans (Turns.of_below hB5)
   have HM:=hid (show wr.rangeLeft bm r=left.length from hrg.left_eq)
   obtain ⟨HG,HT,HNK⟩:=zi3 hg hnT hnk
   have HLr:=hid (show ahas left (nt,nk,nw)=true from ahas_true.2 ⟨_,hp,rfl⟩)
   have hin5:=hTc5.get hg
   have HB:=hid hbis
   clear hp hr4 t4 s4 hno hnk hg hnT hoffr hTc hrg hTc4 htc4 htc hB5 hbis
   go_wp2_with (first
    | (at_delete;refine wpList_delete_al _ rfl _ _ 137 3 rfl ienc Tryz.underlying137 rfl hin5.1 who rfl hw ?_;intro w6 h6 t6)
    | (at_len;refine wpList_len_al _ rfl _ 137 3 rfl Tryz.underlying137 rfl h6 ?_))
   ·have hemp:(adel l who).isEmpty=true:=by
     have h0:(((adel l who).length:Int) == 0)=true:=by assumption
     have h1:(adel l who).length=0:=by simpa using h0
     rw [List.eq_nil_of_length_eq_zero h1];rfl
    have hT6:=mapped t6
    have hA6:=hTc5.change HG.out hT6 h6
    have ho6:outerOf (aput Tc (nt,nk,nw) (bi,adel l who))=outerOf Tc:=outerOf_aput hTc5.apartT HG.out
    have hbibm:¬ bm=bi:=by have:=hTc5.low;have:=hin5.2;omega
    have hr6:RngAt w6 nval nok oval bm r (outerOf (aput Tc (nt,nk,nw) (bi,adel l who))) (adel left (nt,nk,nw)):=by rw [ho6];exact hr5.turns hT6 hbibm (fun e=>hbir e.symm)
    have htc6:Turns (fun i=>OfT bm T i∨w.heap.size≤i) w w6:=htc5.trans (hT6.mono fun i _ e=>.inl (.inr ⟨_,mem_of_aget HT.out,e.symm⟩))
    have hbx6:=(hT6.block w4.heap.size (Array.getElem?_eq_some_iff.1 hbx5).1 HB.out).trans hbx5
    have HE:=hid hemp
    clear hT6 ho6 hr5 hbx5 htc5 hin5 hTc5 h6 t6 hemp hen
    obtain ⟨c,hc⟩:∃ c,c=w4.heap.size:=⟨_,rfl⟩
    rw [← hc] at hbx6 ⊢
    clear hc
    have k0:w6.cell? ⟨c,0,none⟩=some (.int .i64 nt):=cell_of_row w6 c 0 _ _ _ hbx6
    have k1:w6.cell? ⟨c,1,none⟩=some (.string nk):=cell_of_row w6 c 1 _ _ _ hbx6
    have k2:w6.cell? ⟨c,2,none⟩=some (.bool nw):=cell_of_row w6 c 2 _ _ _ hbx6
    have c0:w6.cell? ⟨b,0,none⟩=some (.map (some bm)):=cell_of_row w6 b 0 _ _ _ hA6.blk
    go_still_tail 5,(by kernel_rfl)
    change wpList _ _ _ _ _ w6.drew
    refine wpList_delete_rng _ rfl _ _ 220 137 rfl nenc Tryz.underlying220 rfl (hr6.turns ((Turns.refl (fun _=>False) w6).drew) (fun h=>h) (fun h=>h)) (nt,nk,nw) rfl HNK.out ?_
    intro w8 hr8 t8
    try go_frame
    go_wp2
    have hT8:Turns (fun i=>i=bm) w6 w8:=((Turns.refl _ _).drew).turned t8 (.inr rfl)
    have hA8:=hA6.drop (nt,nk,nw) hT8 hr8.map
    have hdd:adel (adel left (nt,nk,nw)) (nt,nk,nw)=adel left (nt,nk,nw):=adel_none (by rw [ahas_adel];simp)
    have hod:adel (outerOf (aput Tc (nt,nk,nw) (bi,adel l who))) (nt,nk,nw)=outerOf (adel (aput Tc (nt,nk,nw) (bi,adel l who)) (nt,nk,nw)):=adel_map (fun q:Nat × Hold=>some q.1) _ _
    rw [hdd,hod] at hr8
    have hpr:adel (aput Tc (nt,nk,nw) (bi,adel l who)) (nt,nk,nw)=proc who (fun x=>ahas (adel left (nt,nk,nw)) x) T:=by
     have:=proc_step who HA.out (fun x=>ahas left x) HT.out HLr.out
     rw [if_pos HE.out,← HP.out] at this
     rw [this]
     exact proc_congr who T _ _ fun p _=>by rw [ahas_adel,Bool.and_comm]
    have hm8:=hr8.left_eq
    go_roundw
    case rel=>exact ⟨adel left (nt,nk,nw),_,hA8,hr8,hpr,htc6.trans (hT8.mono fun i _ e=>.inl (.inl e))⟩
    case measure=>rw [hm8,HM.out];exact hmeas
   ·have hemp:¬ (adel l who).isEmpty=true:=by
     have h0:(((adel l who).length:Int) == 0)=false:=by assumption
     intro h1
     rw [List.isEmpty_iff.1 h1] at h0
     cases h0
    have hT6:=mapped t6
    have hA6:=hTc5.change HG.out hT6 h6
    have ho6:outerOf (aput Tc (nt,nk,nw) (bi,adel l who))=outerOf Tc:=outerOf_aput hTc5.apartT HG.out
    have hbibm:¬ bm=bi:=by have:=hTc5.low;have:=hin5.2;omega
    have hr6:RngAt w6 nval nok oval bm r (outerOf (aput Tc (nt,nk,nw) (bi,adel l who))) (adel left (nt,nk,nw)):=by rw [ho6];exact hr5.turns hT6 hbibm (fun e=>hbir e.symm)
    have htc6:Turns (fun i=>OfT bm T i∨w.heap.size≤i) w w6:=htc5.trans (hT6.mono fun i _ e=>.inl (.inr ⟨_,mem_of_aget HT.out,e.symm⟩))
    have hpr:aput Tc (nt,nk,nw) (bi,adel l who)=proc who (fun x=>ahas (adel left (nt,nk,nw)) x) T:=by
     have:=proc_step who HA.out (fun x=>ahas left x) HT.out HLr.out
     rw [if_neg hemp,← HP.out] at this
     rw [this]
     exact proc_congr who T _ _ fun p _=>by rw [ahas_adel,Bool.and_comm]
    have hm6:=hr6.left_eq
    go_roundw
    case rel=>exact ⟨adel left (nt,nk,nw),_,hA6,hr6,hpr,htc6⟩
    case measure=>rw [hm6,HM.out];exact hmeas
def hm (M:Lk) (n:Nm) (o:Int):Int:=(aget (heldBy M n) o).getD 0
theorem both_ne {a b:Int} (hb:b≠0):both a b≠0:=by
 unfold both
 by_cases h:a=0∨a=b
 ·rw [if_pos h];exact hb
 ·rw [if_neg h,if_neg hb];decide
theorem wants_hm (M:Lk) (who:Int) (n:Nm) (mode:Int):wants M who n mode=both (hm M n who) mode:=rfl
theorem WF.takeM {M:Lk} (h:WF M) (who:Int) (n:Nm) {mode:Int} (hm0:mode≠0):WF (takeM M who n mode):=by
 obtain ⟨ha,hz,_⟩:=h.held n
 have key:aput (heldBy M n) who (wants M who n mode)≠[]∧Apart (aput (heldBy M n) who (wants M who n mode))∧∀ q∈aput (heldBy M n) who (wants M who n mode),q.2≠0:=by
  refine ⟨?_,ha.aput _ _,?_⟩
  ·intro e
   have:ahas (aput (heldBy M n) who (wants M who n mode)) who=true:=by rw [ahas_aput];simp
   rw [e] at this;cases this
  ·intro q hq
   unfold aput at hq
   split at hq
   ·obtain ⟨q',hq',rfl⟩:=List.mem_map.1 hq
    by_cases e:q'.1=who
    ·rw [if_pos e];exact both_ne hm0
    ·rw [if_neg e];exact hz _ hq'
   ·rcases List.mem_append.1 hq with hq | hq
    ·exact hz _ hq
    ·simp at hq;rw [hq];exact both_ne hm0
 intro p hp
 unfold Go.Proofs.YtechnoogjhohfaaGreat.takeM aput at hp
 split at hp
 ·obtain ⟨q,hq,rfl⟩:=List.mem_map.1 hp
  by_cases e:q.1=n
  ·rw [if_pos e];exact key
  ·rw [if_neg e];exact h _ hq
 ·rcases List.mem_append.1 hp with hp | hp
  ·exact h _ hp
  ·simp at hp;rw [hp];exact key
theorem WF.dropM {M:Lk} (h:WF M) (who:Int):WF (dropM M who):=by
 intro p hp
 obtain ⟨hp1,hp2⟩:=List.mem_filter.1 hp
 obtain ⟨q,hq,rfl⟩:=List.mem_map.1 hp1
 refine ⟨fun e=>?_,(h q hq).2.1.adel _,fun r hr=>(h q hq).2.2 r (List.filter_sublist.subset hr)⟩
 simp only at e
 rw [e] at hp2;cases hp2
theorem hm_ne {M:Lk} (h:WF M) {n:Nm} {o v:Int}:(o,v)∈heldBy M n↔hm M n o=v∧v≠0:=by
 obtain ⟨ha,hz,_⟩:=h.held n
 constructor
 ·intro hp
  refine ⟨?_,hz _ hp⟩
  have:=aget_mem ha hp
  have e:hm M n o=(aget (heldBy M n) o).getD 0:=rfl
  rw [e,this];rfl
 ·rintro ⟨e,hv⟩
  have e2:hm M n o=(aget (heldBy M n) o).getD 0:=rfl
  rw [e2] at e
  cases hg:aget (heldBy M n) o with
  | none=>rw [hg] at e;exact absurd e.symm hv
  | some u=>rw [hg] at e;have e3:u=v:=e;rw [← e3];exact mem_of_aget hg
theorem takeB_iff {M:Lk} (h:WF M) (who:Int) (n:Nm) (mode:Int):takeB M who n mode=true↔∀ o,o≠who→hm M n o≠0→fits (both (hm M n who) mode) (hm M n o)=true:=by
 have e:takeB M who n mode=!barred (heldBy M n) who (wants M who n mode):=rfl
 rw [e,Bool.not_eq_true',← Bool.not_eq_true,barred_iff,wants_hm]
 constructor
 ·intro hb o ho hne
  cases hf:fits (both (hm M n who) mode) (hm M n o) with
  | true=>rfl
  | false=>exact absurd ⟨(o,hm M n o),(hm_ne h).2 ⟨rfl,hne⟩,ho,hf⟩ hb
 ·rintro hall ⟨⟨o,v⟩,hp,ho,hf⟩
  obtain ⟨e1,e2⟩:=(hm_ne h).1 hp
  have:=hall o ho (by rw [e1];exact e2)
  rw [e1] at this
  simp only at hf
  rw [hf] at this;cases this
end Go.Proofs.YtechnoogjhohfaaGreat
