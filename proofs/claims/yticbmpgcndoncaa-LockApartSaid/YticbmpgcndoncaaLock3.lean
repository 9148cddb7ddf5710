/-
  'take' walked: a name that is held by somebody, and one that nobody holds.
-/
import Derived.Test.YticbmpgcndoncaaLock2
namespace Go.Proofs.Yticbmpgcndoncaa
open Go.RowKit Go.Maps

theorem barred_iff (h : Hold) (who want : Int) : barred h who want = true ↔ ∃ p ∈ h, p.1 ≠ who ∧ fits want p.2 = false := by
  unfold barred; rw [List.any_eq_true]
  constructor
  · rintro ⟨p, hp, hb⟩; simp at hb; exact ⟨p, hp, hb.1, hb.2⟩
  · rintro ⟨p, hp, h1, h2⟩; exact ⟨p, hp, by simp [h1, h2]⟩

set_option maxRecDepth 100000 in
set_option maxHeartbeats 800000 in
theorem take_some (B b bm : Nat) (T : Tb) (who mode : Int) (n : Nm) (bi : Nat) (l : Hold) (hg : aget T n = some (bi, l)) (hn : nok n) (hw : iok who) (w : World) (h : LocksT w B b bm T) :
    Calls Try.prog 14 #[.pointer (some ⟨b, 0, none⟩), .int .i64 who, nval n, .int .i64 mode] w fun e w' =>
      (barred l who (both ((aget l who).getD 0) mode) = true ∧ e = .returned (.bool false) ∧ Below w.heap.size w w') ∨
      (barred l who (both ((aget l who).getD 0) mode) = false ∧ e = .returned (.bool true) ∧ LocksT w' B b bm (aput T n (bi, aput l who (both ((aget l who).getD 0) mode))) ∧ Turns (fun i => i = bi) w w') := by
  obtain ⟨want, hwant⟩ : ∃ want, both ((aget l who).getD 0) mode = want := ⟨_, rfl⟩
  rw [hwant]
  obtain ⟨nt, nk, nw⟩ := n
  have hblk0 : (w.alloc (.cells #[.int .i64 nt, .string nk, .bool nw] 44)).heap[w.heap.size]? = some (.cells #[.int .i64 nt, .string nk, .bool nw] 44 (0, 0)) := heap_alloc_new w _
  have hB0 : Below w.heap.size w (w.alloc (.cells #[.int .i64 nt, .string nk, .bool nw] 44)) := (Below.refl _ _).alloc (Nat.le_refl _) _
  have hA := h.below hB0
  have hsz : (w.alloc (.cells #[.int .i64 nt, .string nk, .bool nw] 44)).heap.size = w.heap.size + 1 := by simp
  unfold nval
  go_enter Try.func14, Try.ntmps14
  go_wp2_with fail
  generalize w.alloc (.cells #[.int .i64 nt, .string nk, .bool nw] 44) = W at hblk0 hB0 hA hsz ⊢
  obtain ⟨s, hs⟩ : ∃ s, s = w.heap.size := ⟨_, rfl⟩
  rw [← hs] at hblk0 hsz ⊢
  have k0 : W.cell? ⟨s, 0, none⟩ = some (.int .i64 nt) := cell_of_row W s 0 _ _ _ hblk0
  have k1 : W.cell? ⟨s, 1, none⟩ = some (.string nk) := cell_of_row W s 1 _ _ _ hblk0
  have k2 : W.cell? ⟨s, 2, none⟩ = some (.bool nw) := cell_of_row W s 2 _ _ _ hblk0
  have c0 : W.cell? ⟨b, 0, none⟩ = some (.map (some bm)) := cell_of_row W b 0 _ _ _ hA.blk
  have hin := hA.get hg
  have hl1 : ∀ W' : World, W'.heap = W.heap → (Instr.lookup 39 (.map (some bm)) (.agg #[.int .i64 nt, .string nk, .bool nw]) false).run Try.prog W' = .ok (.map (some bi)) W' := by
    intro W' hW'
    have := (hA.outer.of_block (w' := W') (by rw [hW'])).lookup nenc Try.underlying39 (v0 := none) (zero45 _) hn false
    rw [aget_map (fun q : Nat × Hold => some q.1), hg] at this
    exact this
  have hl2 : ∀ n, (Instr.lookup 45 (.map (some bi)) (.int .i64 who) false).run Try.prog (W.drewN n) = .ok (.int .i64 ((aget l who).getD 0)) (W.drewN n) := by
    intro n
    exact (hin.1.drewN n).lookup ienc Try.underlying45 (v0 := 0) (zero3 _) hw false
  have hl1n : ∀ n, (Instr.lookup 39 (.map (some bm)) (.agg #[.int .i64 nt, .string nk, .bool nw]) false).run Try.prog (W.drewN n) = .ok (.map (some bi)) (W.drewN n) := fun n => hl1 _ rfl
  have HL1 := hid hl1
  have HS := hid hs
  clear hl1 hs
  go_quiet ((go_at_call 15; exact Calls.quiet_of_same (both_any _ _ _)))
  rw [hwant]
  have HW := hid hwant
  clear hwant hl1n hl2
  go_wp2_with fail
  have hA2 : LocksT (W.drewN nq) B b bm T := hA.below ⟨rfl, rfl, rfl, Nat.le_refl _, fun _ _ => rfl⟩
  have hB2 : Below w.heap.size w (W.drewN nq) := hB0.trans ⟨rfl, rfl, rfl, Nat.le_refl _, fun _ _ => rfl⟩
  have hblk2 : (W.drewN nq).heap[s]? = _ := hblk0
  have hsz2 : (W.drewN nq).heap.size = s + 1 := hsz
  have hl2 : ∀ W' : World, W'.heap = (W.drewN nq).heap → (Instr.lookup 39 (.map (some bm)) (.agg #[.int .i64 nt, .string nk, .bool nw]) false).run Try.prog W' = .ok (.map (some bi)) W' := HL1.out
  clear k0 k1 k2 c0 hin hA hB0 hblk0 hsz HL1
  generalize W.drewN nq = W2 at hA2 hB2 hblk2 hsz2 hl2 ⊢
  have k0 : W2.cell? ⟨s, 0, none⟩ = some (.int .i64 nt) := cell_of_row W2 s 0 _ _ _ hblk2
  have k1 : W2.cell? ⟨s, 1, none⟩ = some (.string nk) := cell_of_row W2 s 1 _ _ _ hblk2
  have k2 : W2.cell? ⟨s, 2, none⟩ = some (.bool nw) := cell_of_row W2 s 2 _ _ _ hblk2
  have c0 : W2.cell? ⟨b, 0, none⟩ = some (.map (some bm)) := cell_of_row W2 b 0 _ _ _ hA2.blk
  have hin := hA2.get hg
  have HSZ := hid hsz2
  clear hsz2
  have hl3 : (Instr.lookup 39 (.map (some bm)) (.agg #[.int .i64 nt, .string nk, .bool nw]) false).run Try.prog W2.drew = .ok (.map (some bi)) W2.drew := hl2 _ rfl
  have HL2 := hid hl2
  clear hl2
  go_still_tail 6, (by kernel_rfl)
  clear hl3
  change wpList _ _ _ _ _ W2.drew
  refine wpList_range_al _ rfl _ 45 3 rfl Try.underlying45 rfl hin.1.drew ?_
  intro w3 hr3 t3 s3
  go_frame
  go_wp2_with fail
  have er : W2.drew.heap.size = s + 1 := HSZ.out
  rw [er] at hr3 s3 ⊢
  have hT3 : Turns (fun _ => False) W2 w3 := ((Turns.refl (fun _ => False) W2).drew).trans t3
  have hB23 : Below W2.heap.size W2 w3 := hT3.below (Nat.le_refl _) (fun _ _ h => h)
  have hA3 := hA2.below hB23
  have hs1 : s < W2.heap.size := by have := HSZ.out; omega
  have hsw : w.heap.size ≤ s := by have := HS.out; omega
  have hblk3 := (hB23.block s hs1).trans hblk2
  have hB3 : Below w.heap.size w w3 := hB2.trans (hB23.mono hB2.size)
  have hl4 : ∀ W' : World, W'.heap[bm]? = w3.heap[bm]? → (Instr.lookup 39 (.map (some bm)) (.agg #[.int .i64 nt, .string nk, .bool nw]) false).run Try.prog W' = .ok (.map (some bi)) W' := by
    intro W' hW'
    have := (hA3.outer.of_block (w' := W') hW').lookup nenc Try.underlying39 (v0 := none) (zero45 _) hn false
    rw [aget_map (fun q : Nat × Hold => some q.1), hg] at this
    exact this
  have HL4 := hid hl4
  have hin3 := hA3.get hg
  have hbi : bi < s := by have h1 := (h.get hg).1.lt; have := HS.out; omega
  clear k0 k1 k2 c0 hin hA2 hB2 hblk2 HL2 t3 hT3 hB23 er hl4 s3
  go_loopw [8] (fun v wr => ∃ left, v = .bool false ∧ RngAt wr inum iok inum bi (s + 1) l left ∧ (∀ p ∈ l, p ∈ left ∨ ¬(p.1 ≠ who ∧ fits want p.2 = false)) ∧ Turns (fun i => i = s + 1) w3 wr) (fun _ wr => wr.rangeLeft bi (s + 1))
  case atStart => exact ⟨l, rfl, hr3, fun p hp => .inl hp, Turns.refl _ _⟩
  case round =>
    clear hr3
    obtain ⟨left, rfl, hrg, hpass, ht⟩ := hrel
    go_wp2_with (first
      | (at_next; refine wpList_next_al _ rfl _ rfl ienc.inj rfl hrg ?_ ?_))
    · intro hleft
      have hB5 : Below w.heap.size w wr := hB3.trans (ht.below hB3.size (by intro i hi e; omega))
      have hA5 := h.below hB5
      have hs3 : s < w3.heap.size := (Array.getElem?_eq_some_iff.1 hblk3).1
      have hblk5 : wr.heap[s]? = some (.cells #[.int .i64 nt, .string nk, .bool nw] 44 (0, 0)) := (ht.block s hs3 (by omega)).trans hblk3
      have hl6 : ∀ W' : World, W'.heap[bm]? = wr.heap[bm]? → (Instr.lookup 39 (.map (some bm)) (.agg #[.int .i64 nt, .string nk, .bool nw]) false).run Try.prog W' = .ok (.map (some bi)) W' := by
        intro W' hW'
        have hbm3 : bm < w3.heap.size := hA3.outer.lt
        have hbms : bm < s := by have := h.outer.lt; have := HS.out; omega
        exact HL4.out W' (hW'.trans (ht.block bm hbm3 (by omega)))
      have hbar : barred l who want = false := by
        cases hb : barred l who want with
        | false => rfl
        | true =>
          obtain ⟨p, hp, h1, h2⟩ := (barred_iff _ _ _).1 hb
          rcases hpass p hp with h3 | h3
          · rw [hleft] at h3; cases h3
          · exact absurd ⟨h1, h2⟩ h3
      have k0 : wr.cell? ⟨s, 0, none⟩ = some (.int .i64 nt) := cell_of_row wr s 0 _ _ _ hblk5
      have k1 : wr.cell? ⟨s, 1, none⟩ = some (.string nk) := cell_of_row wr s 1 _ _ _ hblk5
      have k2 : wr.cell? ⟨s, 2, none⟩ = some (.bool nw) := cell_of_row wr s 2 _ _ _ hblk5
      have c0 : wr.cell? ⟨b, 0, none⟩ = some (.map (some bm)) := cell_of_row wr b 0 _ _ _ hA5.blk
      have hl7 : ∀ n, (Instr.lookup 39 (.map (some bm)) (.agg #[.int .i64 nt, .string nk, .bool nw]) false).run Try.prog (wr.drewN n) = .ok (.map (some bi)) (wr.drewN n) := fun n => hl6 _ rfl
      have hnil : ∀ W' : World, (binOp .eql 45 (.map (some bi)) (.map none)).run Try.prog W' = .ok (.bool false) W' := fun W' => run_eql_map_nil W' 45 3 3 (some bi) Try.underlying45
      have HBAR := hid hbar
      have HL6 := hid hl6
      clear hleft hpass hl6 hbar hblk3 hs3 hA3 hin3 HL4 hs1
      go_wp2_with fail
      go_quiet (fail)
      go_wp2_with fail
      have hB7 : Below w.heap.size w (wr.drewN nq) := hB5.trans ⟨rfl, rfl, rfl, Nat.le_refl _, fun _ _ => rfl⟩
      have hblk7 : (wr.drewN nq).heap[s]? = some (.cells #[.int .i64 nt, .string nk, .bool nw] 44 (0, 0)) := hblk5
      have hl8 : ∀ W' : World, W'.heap = (wr.drewN nq).heap → (Instr.lookup 39 (.map (some bm)) (.agg #[.int .i64 nt, .string nk, .bool nw]) false).run Try.prog W' = .ok (.map (some bi)) W' := fun W' hW' => HL6.out W' (by rw [hW']; rfl)
      clear k0 k1 k2 c0 hl7 hB5 hA5 hblk5 HL6 hrg ht hB3 hnil
      generalize wr.drewN nq = W7 at hB7 hblk7 hl8 ⊢
      have hA7 := h.below hB7
      have k0 : W7.cell? ⟨s, 0, none⟩ = some (.int .i64 nt) := cell_of_row W7 s 0 _ _ _ hblk7
      have k1 : W7.cell? ⟨s, 1, none⟩ = some (.string nk) := cell_of_row W7 s 1 _ _ _ hblk7
      have k2 : W7.cell? ⟨s, 2, none⟩ = some (.bool nw) := cell_of_row W7 s 2 _ _ _ hblk7
      have c0 : W7.cell? ⟨b, 0, none⟩ = some (.map (some bm)) := cell_of_row W7 b 0 _ _ _ hA7.blk
      have hl9 : (Instr.lookup 39 (.map (some bm)) (.agg #[.int .i64 nt, .string nk, .bool nw]) false).run Try.prog W7.drew = .ok (.map (some bi)) W7.drew := hl8 _ rfl
      have hin7 := hA7.get hg
      clear hl8
      go_still_tail 8, (by kernel_rfl)
      clear hl9
      change wpList _ _ _ _ _ W7.drew
      refine wpList_update_al _ rfl _ _ _ 45 3 rfl ienc Try.underlying45 rfl hin7.1.drew who rfl hw want rfl ?_
      intro w9 h9 t9
      go_frame
      go_wp2_with fail
      go_ret
      have hT9 : Turns (fun i => i = bi) W7 w9 := ((Turns.refl _ _).drew).turned t9 (.inr rfl)
      have hT : Turns (fun i => i = bi) w w9 := (Turns.of_below hB7).trans hT9
      exact .inr ⟨HBAR.out, rfl, h.change hg hT h9, hT⟩
    · intro pk pv hp w4 hr4 t4 s4 hen
      have hpl := hrg.sub.subset hp
      simp only [inum] at hen ⊢
      have hmeas : (adel left pk).length < left.length := length_adel_lt hp
      have HR := hid hr4
      have HPASS := hid hpass
      clear hr4 hpass
      by_cases hpk : pk = who
      · have hpk' : (pk != who) = false := by simpa using hpk
        have HPK := hid hpk
        clear hpk
        go_wp2
        go_roundw
        case rel =>
          refine ⟨adel left pk, rfl, HR.out, fun q hq => ?_, ht.trans t4⟩
          rcases HPASS.out q hq with h1 | h1
          · by_cases e : q.1 = pk
            · exact .inr fun h2 => h2.1 (e.trans HPK.out)
            · exact .inl (List.mem_filter.2 ⟨h1, by simp [e]⟩)
          · exact .inr h1
        case measure => rw [hrg.left_eq, HR.out.left_eq]; exact hmeas
      · have hpk' : (pk != who) = true := by simpa using hpk
        have HPK := hid hpk
        clear hpk
        by_cases hf : fits want pv = true
        · have HF := hid hf
          clear hf
          go_wp2_with (first
            | (go_at_call 16; refine (fits_any _ _ _).mono ?_; rintro e w' ⟨rfl, rfl⟩; rw [HF.out]))
          go_roundw
          case rel =>
            refine ⟨adel left pk, rfl, HR.out, fun q hq => ?_, ht.trans t4⟩
            rcases HPASS.out q hq with h1 | h1
            · by_cases e : q.1 = pk
              · have e2 : q = (pk, pv) := by
                  have a1 := aget_mem hrg.map.apart hq
                  have a2 := aget_mem hrg.map.apart hpl
                  rw [e] at a1
                  simp only at a2
                  rw [a2] at a1
                  injection a1 with a1
                  obtain ⟨q1, q2⟩ := q
                  simp only at e a1
                  rw [e, ← a1]
                refine .inr fun h2 => ?_
                rw [e2] at h2
                have h3 := h2.2
                simp only at h3
                rw [HF.out] at h3
                cases h3
              · exact .inl (List.mem_filter.2 ⟨h1, by simp [e]⟩)
            · exact .inr h1
          case measure => rw [hrg.left_eq, HR.out.left_eq]; exact hmeas
        · have hf' : fits want pv = false := by simpa using hf
          have HF := hid hf'
          clear hf hf'
          go_wp2_with (first
            | (go_at_call 16; refine (fits_any _ _ _).mono ?_; rintro e w' ⟨rfl, rfl⟩; rw [HF.out]))
          go_ret
          refine .inl ⟨(barred_iff _ _ _).2 ⟨_, hpl, HPK.out, HF.out⟩, rfl, hB3.trans ?_⟩
          exact (ht.trans t4).below hB3.size (by intro i hi e; omega)

end Go.Proofs.Yticbmpgcndoncaa
