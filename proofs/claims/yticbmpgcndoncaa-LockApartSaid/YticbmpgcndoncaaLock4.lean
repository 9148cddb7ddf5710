/-
  'take' walked at a name that nobody holds.
-/
import Derived.Test.YticbmpgcndoncaaLock3
import Derived.BigRegion
import Derived.Deep.RegionHeld3
namespace Go.Proofs.Yticbmpgcndoncaa
open Go.RowKit Go.Maps

set_option maxRecDepth 100000 in
set_option maxHeartbeats 800000 in
theorem take_none (B b bm : Nat) (T : Tb) (who mode : Int) (n : Nm) (hg : aget T n = none) (hn : nok n) (hw : iok who) (w : World) (h : LocksT w B b bm T) :
    Calls Try.prog 14 #[.pointer (some ⟨b, 0, none⟩), .int .i64 who, nval n, .int .i64 mode] w fun e w' =>
      ∃ bi, e = .returned (.bool true) ∧ w.heap.size ≤ bi ∧ LocksT w' B b bm (aput T n (bi, [(who, both 0 mode)])) ∧ Turns (fun i => i = bm) w w' := by
  obtain ⟨want, hwant⟩ : ∃ want, both 0 mode = want := ⟨_, rfl⟩
  rw [hwant]
  obtain ⟨nt, nk, nw⟩ := n
  have hblk0 : (w.alloc (.cells #[.int .i64 nt, .string nk, .bool nw] 44)).heap[w.heap.size]? = some (.cells #[.int .i64 nt, .string nk, .bool nw] 44 (0, 0)) := heap_alloc_new w _
  have hB0 : Below w.heap.size w (w.alloc (.cells #[.int .i64 nt, .string nk, .bool nw] 44)) := (Below.refl _ _).alloc (Nat.le_refl _) _
  have hA := h.below hB0
  have hsz : (w.alloc (.cells #[.int .i64 nt, .string nk, .bool nw] 44)).heap.size = w.heap.size + 1 := by simp
  unfold nval
  go_enter Try.func14, Try.ntmps14
  go_wp2_with fail
  generalize w.alloc (.cells #[.int .i64 nt, .string nk, .bool nw] 44) = W at hblk0 hB0 hA hsz ⊢
  obtain ⟨s, hs⟩ : ∃ s, s = w.heap.size := ⟨_, rfl⟩
  rw [← hs] at hblk0 hsz ⊢
  have k0 : W.cell? ⟨s, 0, none⟩ = some (.int .i64 nt) := cell_of_row W s 0 _ _ _ hblk0
  have k1 : W.cell? ⟨s, 1, none⟩ = some (.string nk) := cell_of_row W s 1 _ _ _ hblk0
  have k2 : W.cell? ⟨s, 2, none⟩ = some (.bool nw) := cell_of_row W s 2 _ _ _ hblk0
  have c0 : W.cell? ⟨b, 0, none⟩ = some (.map (some bm)) := cell_of_row W b 0 _ _ _ hA.blk
  have hl1 : ∀ W' : World, W'.heap = W.heap → (Instr.lookup 39 (.map (some bm)) (.agg #[.int .i64 nt, .string nk, .bool nw]) false).run Try.prog W' = .ok (.map none) W' := by
    intro W' hW'
    have := (hA.outer.of_block (w' := W') (by rw [hW'])).lookup nenc Try.underlying39 (v0 := none) (zero45 _) hn false
    rw [aget_map (fun q : Nat × Hold => some q.1), hg] at this
    exact this
  have hl2 : ∀ n, (Instr.lookup 45 (.map none) (.int .i64 who) false).run Try.prog (W.drewN n) = .ok (.int .i64 0) (W.drewN n) := by
    intro n
    exact look_nil (w := W.drewN n) false ienc.keyed Try.underlying45 (zero3 _) (keyOf_int_mk Try.underlying3 hw)
  have hl1n : ∀ n, (Instr.lookup 39 (.map (some bm)) (.agg #[.int .i64 nt, .string nk, .bool nw]) false).run Try.prog (W.drewN n) = .ok (.map none) (W.drewN n) := fun n => hl1 _ rfl
  have HL1 := hid hl1
  have HS := hid hs
  clear hl1 hs
  go_quiet ((go_at_call 15; exact Calls.quiet_of_same (both_any _ _ _)))
  rw [hwant]
  have HW := hid hwant
  clear hwant hl1n hl2
  go_wp2_with fail
  have hA2 : LocksT (W.drewN nq) B b bm T := hA.below ⟨rfl, rfl, rfl, Nat.le_refl _, fun _ _ => rfl⟩
  have hB2 : Below w.heap.size w (W.drewN nq) := hB0.trans ⟨rfl, rfl, rfl, Nat.le_refl _, fun _ _ => rfl⟩
  have hblk2 : (W.drewN nq).heap[s]? = _ := hblk0
  have hsz2 : (W.drewN nq).heap.size = s + 1 := hsz
  have hl2 : ∀ W' : World, W'.heap = (W.drewN nq).heap → (Instr.lookup 39 (.map (some bm)) (.agg #[.int .i64 nt, .string nk, .bool nw]) false).run Try.prog W' = .ok (.map none) W' := HL1.out
  clear k0 k1 k2 c0 hA hB0 hblk0 hsz HL1
  generalize W.drewN nq = W2 at hA2 hB2 hblk2 hsz2 hl2 ⊢
  have k0 : W2.cell? ⟨s, 0, none⟩ = some (.int .i64 nt) := cell_of_row W2 s 0 _ _ _ hblk2
  have k1 : W2.cell? ⟨s, 1, none⟩ = some (.string nk) := cell_of_row W2 s 1 _ _ _ hblk2
  have k2 : W2.cell? ⟨s, 2, none⟩ = some (.bool nw) := cell_of_row W2 s 2 _ _ _ hblk2
  have c0 : W2.cell? ⟨b, 0, none⟩ = some (.map (some bm)) := cell_of_row W2 b 0 _ _ _ hA2.blk
  have HSZ := hid hsz2
  clear hsz2
  have hl3 : (Instr.lookup 39 (.map (some bm)) (.agg #[.int .i64 nt, .string nk, .bool nw]) false).run Try.prog W2.drew = .ok (.map none) W2.drew := hl2 _ rfl
  have HL2 := hid hl2
  clear hl2
  have hrn := fun W => run_range_nil (P := Try.prog) Try.underlying45 W
  go_still_tail 6, (by kernel_rfl)
  clear hl3
  change wpList _ _ _ _ _ W2.drew
  go_wp2_with fail
  have hs2 : W2.heap.size = s + 1 := HSZ.out
  have hB3 : Below w.heap.size w (W2.alloc (.mapIter none 0 #[] 0)).drew := (hB2.alloc (by have := HS.out; omega) _).drew
  have hit : (W2.alloc (.mapIter none 0 #[] 0)).drew.heap[s + 1]? = some (.mapIter none 0 #[] 0) := by rw [← hs2]; exact heap_alloc_new W2 _
  have hblk3 : (W2.alloc (.mapIter none 0 #[] 0)).drew.heap[s]? = some (.cells #[.int .i64 nt, .string nk, .bool nw] 44 (0, 0)) := (Below.heap_alloc W2 _ s (by omega)).trans hblk2
  have hsz3 : (W2.alloc (.mapIter none 0 #[] 0)).drew.heap.size = s + 2 := by
    have : (W2.alloc (.mapIter none 0 #[] 0)).heap.size = s + 2 := by rw [World.size_alloc, hs2]
    exact this
  rw [hs2]
  clear k0 k1 k2 c0 hrn HL2 hblk2 hB2 hA2 hs2 HSZ
  generalize (W2.alloc (.mapIter none 0 #[] 0)).drew = W3 at hB3 hit hblk3 hsz3 ⊢
  have hA3 := h.below hB3
  have hl5 : ∀ W' : World, W'.heap[bm]? = W3.heap[bm]? → (Instr.lookup 39 (.map (some bm)) (.agg #[.int .i64 nt, .string nk, .bool nw]) false).run Try.prog W' = .ok (.map none) W' := by
    intro W' hW'
    have := (hA3.outer.of_block (w' := W') hW').lookup nenc Try.underlying39 (v0 := none) (zero45 _) hn false
    rw [aget_map (fun q : Nat × Hold => some q.1), hg] at this
    exact this
  have k0 : W3.cell? ⟨s, 0, none⟩ = some (.int .i64 nt) := cell_of_row W3 s 0 _ _ _ hblk3
  have k1 : W3.cell? ⟨s, 1, none⟩ = some (.string nk) := cell_of_row W3 s 1 _ _ _ hblk3
  have k2 : W3.cell? ⟨s, 2, none⟩ = some (.bool nw) := cell_of_row W3 s 2 _ _ _ hblk3
  have c0 : W3.cell? ⟨b, 0, none⟩ = some (.map (some bm)) := cell_of_row W3 b 0 _ _ _ hA3.blk
  have hnx : ∀ ty, (Instr.next (.pointer (some ⟨s + 1, 0, none⟩)) false ty).run Try.prog W3 = .ok (.tuple #[.bool false]) W3 := fun ty => run_next_nil hit
  have hl7 : ∀ n, (Instr.lookup 39 (.map (some bm)) (.agg #[.int .i64 nt, .string nk, .bool nw]) false).run Try.prog (W3.drewN n) = .ok (.map none) (W3.drewN n) := fun n => hl5 _ rfl
  have hnil : ∀ W' : World, (binOp .eql 45 (.map none) (.map none)).run Try.prog W' = .ok (.bool true) W' := fun W' => run_eql_map_nil W' 45 3 3 none Try.underlying45
  have HL5 := hid hl5
  have HSZ3 := hid hsz3
  have HIT := hid hit
  clear hl5 hsz3 hit
  refine wp_loop_rounds 1 ?_
  rw [rounds_succ]
  go_wp2_with fail
  go_quiet (fail)
  go_wp2_with fail
  have hB4 : Below w.heap.size w (W3.drewN nq) := hB3.trans ⟨rfl, rfl, rfl, Nat.le_refl _, fun _ _ => rfl⟩
  have hblk4 : (W3.drewN nq).heap[s]? = some (.cells #[.int .i64 nt, .string nk, .bool nw] 44 (0, 0)) := hblk3
  have hsz4 : (W3.drewN nq).heap.size = s + 2 := HSZ3.out
  clear k0 k1 k2 c0 hl7 hB3 hA3 hblk3 HL5 hnil hnx HIT HSZ3
  generalize W3.drewN nq = W4 at hB4 hblk4 hsz4 ⊢
  have hA4 := h.below hB4
  have k0 : W4.cell? ⟨s, 0, none⟩ = some (.int .i64 nt) := cell_of_row W4 s 0 _ _ _ hblk4
  have k1 : W4.cell? ⟨s, 1, none⟩ = some (.string nk) := cell_of_row W4 s 1 _ _ _ hblk4
  have k2 : W4.cell? ⟨s, 2, none⟩ = some (.bool nw) := cell_of_row W4 s 2 _ _ _ hblk4
  have c0 : W4.cell? ⟨b, 0, none⟩ = some (.map (some bm)) := cell_of_row W4 b 0 _ _ _ hA4.blk
  have hbs : ¬ b = W4.heap.size := fun e => by have := (Array.getElem?_eq_some_iff.1 hA4.blk).1; omega
  have hss : ¬ s = W4.heap.size := fun e => by omega
  have hbw := h.outer.lt
  obtain ⟨w5, hrun5, h5, t5⟩ := ((hA4.outer.alloc (.map #[] 0)).drew).update (P := Try.prog) nenc Try.underlying39 hn (some W4.heap.size)
  have hmm := @run_makeMap Try.prog
  have HSZ4 := hid hsz4
  clear hsz4
  have hsl : s < W4.heap.size := (Array.getElem?_eq_some_iff.1 hblk4).1
  have hbl : b < W4.heap.size := (Array.getElem?_eq_some_iff.1 hA4.blk).1
  have k0' := (World.cell?_alloc_lt W4 (.map #[] 0) ⟨s, 0, none⟩ hsl).trans k0
  have k1' := (World.cell?_alloc_lt W4 (.map #[] 0) ⟨s, 1, none⟩ hsl).trans k1
  have k2' := (World.cell?_alloc_lt W4 (.map #[] 0) ⟨s, 2, none⟩ hsl).trans k2
  have c0' := (World.cell?_alloc_lt W4 (.map #[] 0) ⟨b, 0, none⟩ hbl).trans c0
  clear hsl hbl
  unfold nval oval at hrun5
  simp only at hrun5
  go_region
  obtain ⟨c, hc⟩ : ∃ c, c = W4.heap.size := ⟨_, rfl⟩
  have hin5 : MapAt (W4.alloc (.map #[] 0)).drew inum iok inum c ([] : List (Int × Int)) := by rw [hc]; exact MapAt.made W4 inum iok inum
  have hT4 : Turns (fun _ => False) W4 (W4.alloc (.map #[] 0)).drew := ((Turns.refl _ W4).alloc _).drew
  have hbmlt : bm < W4.heap.size := hA4.outer.lt
  have hcne : ¬ c = bm := by omega
  have hT5 : Turns (fun i => i = bm) W4 w5 := (hT4.mono (fun i _ h => h.elim)).trans (mapped t5)
  have hi5 : MapAt w5 inum iok inum c ([] : List (Int × Int)) := hin5.turns (mapped t5) hcne
  rw [← hc] at h5 ⊢
  have hbw2 : ¬ b = bm := fun e => hA4.ne e.symm
  have hsbm : ¬ s = bm := by have := HS.out; omega
  have hblk5 : w5.heap[s]? = some (.cells #[.int .i64 nt, .string nk, .bool nw] 44 (0, 0)) := (hT5.block s (by have := HSZ4.out; omega) hsbm).trans hblk4
  have hb5 : w5.heap[b]? = some (.cells #[.map (some bm)] 41 (0, 0)) := (hT5.block b (Array.getElem?_eq_some_iff.1 hA4.blk).1 hbw2).trans hA4.blk
  have hTw : Turns (fun i => i = bm) w w5 := (Turns.of_below hB4).trans hT5
  have hcw : w.heap.size ≤ c := by have := hB4.size; omega
  have HC := hid hc
  clear k0 k1 k2 c0 k0' k1' k2' c0' hrun5 hmm hbs hss hA4 hblk4 hB4 hin5 hT4 hT5 t5 HSZ4 hc hbmlt
  go_wp2_with fail
  have k0 : w5.cell? ⟨s, 0, none⟩ = some (.int .i64 nt) := cell_of_row w5 s 0 _ _ _ hblk5
  have k1 : w5.cell? ⟨s, 1, none⟩ = some (.string nk) := cell_of_row w5 s 1 _ _ _ hblk5
  have k2 : w5.cell? ⟨s, 2, none⟩ = some (.bool nw) := cell_of_row w5 s 2 _ _ _ hblk5
  have c0 : w5.cell? ⟨b, 0, none⟩ = some (.map (some bm)) := cell_of_row w5 b 0 _ _ _ hb5
  have hl9 : (Instr.lookup 39 (.map (some bm)) (.agg #[.int .i64 nt, .string nk, .bool nw]) false).run Try.prog w5.drew = .ok (.map (some c)) w5.drew := by
    have := h5.drew.lookup nenc Try.underlying39 (v0 := none) (zero45 _) hn false
    rw [aget_aput, if_pos rfl] at this
    exact this
  go_still_tail 8, (by kernel_rfl)
  clear hl9
  change wpList _ _ _ _ _ w5.drew
  refine wpList_update_al _ rfl _ _ _ 45 3 rfl ienc Try.underlying45 rfl hi5.drew who rfl hw want rfl ?_
  intro w9 h9 t9
  go_frame
  go_wp2_with fail
  go_ret
  have hT9 : Turns (fun i => i = c) w5 w9 := ((Turns.refl _ _).drew).turned t9 (.inr rfl)
  have hT : Turns (fun i => i = bm) w w9 := ⟨hT9.os.trans hTw.os, hT9.tape.trans hTw.tape, hT9.output.trans hTw.output, Nat.le_trans hTw.size hT9.size, fun i hi hne => (hT9.block i (Nat.lt_of_lt_of_le hi hTw.size) (by omega)).trans (hTw.block i hi hne)⟩
  exact ⟨c, rfl, hcw, h.more (by rw [ahas_eq, hg]; rfl) hcw hT h9 (h5.turns hT9 (fun e => hcne e.symm)), hT⟩

end Go.Proofs.Yticbmpgcndoncaa
