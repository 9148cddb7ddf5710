/-
  'Key' to change where the table is had and the key is not: what was held before is held again.
-/
import Derived.Test.YticbmpgcndoncaaLock7
namespace Go.Proofs.Yticbmpgcndoncaa
open Go.RowKit Go.Maps

set_option maxRecDepth 100000 in
set_option maxHeartbeats 1600000 in
theorem key_c3 (B b bm : Nat) (T : Tb) (who t : Int) (k : ByteArray) (hn : iok t) (hk : k.size ≤ maxLen) (hw : iok who) (w : World) (h : LocksT w B b bm T) (hr1 : takeB (modelOf T) who (tname t) 2 = true) (hr2 : takeB (takeM (modelOf T) who (tname t) 2) who (t, k, false) 3 = false) (h0 : (aget (heldBy (modelOf T) (tname t)) who).getD 0 = 0) (hW : WF (modelOf T)) (he : adel (aput (heldBy (modelOf T) (tname t)) who (wants (modelOf T) who (tname t) 2)) who = []) :
    Calls Try.prog 10 #[.pointer (some ⟨b, 0, none⟩), .int .i64 who, .int .i64 t, .string k, .bool true] w fun e w' =>
      e = .returned (.bool false) ∧ ∃ T', LocksT w' B b bm T' ∧ modelOf T' = modelOf T ∧ Turns (fun i => i = bm ∨ B ≤ i) w w' ∧ Keeps w w' bm T T' := by
  have hbw : b < w.heap.size := (Array.getElem?_eq_some_iff.1 h.blk).1
  have hltT : ∀ p ∈ T, p.2.1 < w.heap.size := fun p hp => (h.inner p hp).lt
  have hbmlt := h.outer.lt
  have HN := hid hn
  have HK := hid hk
  have hB0 : Below w.heap.size w ((w.alloc (.cells #[.int .i64 t, .string k, .bool false] 44)).alloc (.cells #[.int .i64 t, .string ⟨#[]⟩, .bool true] 44)) := ((Below.refl _ _).alloc (Nat.le_refl _) _).alloc (by simp) _
  have hX0 : Boxes ((w.alloc (.cells #[.int .i64 t, .string k, .bool false] 44)).alloc (.cells #[.int .i64 t, .string ⟨#[]⟩, .bool true] 44)) w.heap.size t k := by
    refine ⟨(Below.heap_alloc _ _ _ (by simp)).trans (heap_alloc_new w _), ?_⟩
    have := heap_alloc_new (w.alloc (.cells #[.int .i64 t, .string k, .bool false] 44)) (.cells #[.int .i64 t, .string ⟨#[]⟩, .bool true] 44)
    rw [World.size_alloc] at this
    exact this
  have hz0 : ((w.alloc (.cells #[.int .i64 t, .string k, .bool false] 44)).alloc (.cells #[.int .i64 t, .string ⟨#[]⟩, .bool true] 44)).heap.size = w.heap.size + 2 := by simp
  have HLT := hid hltT
  clear hltT hn hk
  go_enter Try.func10, Try.ntmps10
  go_wp2_with fail
  generalize (w.alloc (.cells #[.int .i64 t, .string k, .bool false] 44)).alloc (.cells #[.int .i64 t, .string ⟨#[]⟩, .bool true] 44) = W0 at hB0 hX0 hz0 ⊢
  have hA0 := h.below hB0
  obtain ⟨s, hs⟩ : ∃ s, s = w.heap.size := ⟨_, rfl⟩
  rw [← hs] at hX0 hz0 hbw hbmlt ⊢
  have HS := hid hs
  clear hs
  have k0 : W0.cell? ⟨s + 1, 0, none⟩ = some (.int .i64 t) := cell_of_row W0 (s + 1) 0 _ _ _ hX0.b
  have k1 : W0.cell? ⟨s + 1, 1, none⟩ = some (.string ⟨#[]⟩) := cell_of_row W0 (s + 1) 1 _ _ _ hX0.b
  have k2 : W0.cell? ⟨s + 1, 2, none⟩ = some (.bool true) := cell_of_row W0 (s + 1) 2 _ _ _ hX0.b
  have c0 : W0.cell? ⟨b, 0, none⟩ = some (.map (some bm)) := cell_of_row W0 b 0 _ _ _ hA0.blk
  obtain ⟨o, ho⟩ : ∃ o, o = (aget T (tname t)).map fun q => q.1 := ⟨_, rfl⟩
  obtain ⟨O, hO⟩ : ∃ O, O = (aget (heldBy (modelOf T) (tname t)) who).getD 0 := ⟨_, rfl⟩
  have hl1 : ∀ n, (Instr.lookup 39 (.map (some bm)) (.agg #[.int .i64 t, .string ⟨#[]⟩, .bool true]) false).run Try.prog (W0.drewN n) = .ok (.map o) (W0.drewN n) := by
    intro n; rw [ho]; exact lookup_outer hA0 (tname t) ⟨HN.out, empty_le⟩ _ rfl
  have hl2 : ∀ n, (Instr.lookup 45 (.map o) (.int .i64 who) false).run Try.prog (W0.drewN n) = .ok (.int .i64 O) (W0.drewN n) := by
    intro n; rw [ho, hO]; exact lookup_inner hA0 (tname t) who hw _ rfl
  have HO := hid hO
  clear ho hO
  go_quiet (fail)
  have hA1 : LocksT (W0.drewN nq) B b bm T := hA0.below ⟨rfl, rfl, rfl, Nat.le_refl _, fun _ _ => rfl⟩
  have hX1 : Boxes (W0.drewN nq) s t k := ⟨hX0.a, hX0.b⟩
  have hz1 : (W0.drewN nq).heap.size = s + 2 := hz0
  have hB1 : Below w.heap.size w (W0.drewN nq) := hB0.trans ⟨rfl, rfl, rfl, Nat.le_refl _, fun _ _ => rfl⟩
  clear k0 k1 k2 c0 hl1 hl2 hA0 hX0 hz0 hB0
  generalize W0.drewN nq = W1 at hA1 hX1 hz1 hB1 ⊢
  have k0 : W1.cell? ⟨s + 1, 0, none⟩ = some (.int .i64 t) := cell_of_row W1 (s + 1) 0 _ _ _ hX1.b
  have k1 : W1.cell? ⟨s + 1, 1, none⟩ = some (.string ⟨#[]⟩) := cell_of_row W1 (s + 1) 1 _ _ _ hX1.b
  have k2 : W1.cell? ⟨s + 1, 2, none⟩ = some (.bool true) := cell_of_row W1 (s + 1) 2 _ _ _ hX1.b
  have HZ1 := hid hz1
  clear hz1
  have hc1 : Calls Try.prog 14 #[.pointer (some ⟨b, 0, none⟩), .int .i64 who, .agg #[.int .i64 t, .string ⟨#[]⟩, .bool true], .int .i64 2] W1 _ := take_T B b bm T who 2 (tname t) ⟨HN.out, empty_le⟩ hw W1 hA1
  have HC1 := hid hc1
  clear hc1
  have hO0 : (O == 0) = true := by rw [HO.out, h0]; rfl
  have H0 := hid h0
  clear h0
  have HE := hid he
  clear he
  have HR1 := hid hr1
  have HR2 := hid hr2
  clear hr1 hr2
  have hoff0 : Off T s := fun p hp => by have := HLT.out p hp; have := HS.out; omega
  have hoff1 : Off T (s + 1) := fun p hp => by have := HLT.out p hp; have := HS.out; omega
  have HF0 := hid hoff0
  have HF1 := hid hoff1
  have n0 : ¬ OfT bm T s := by rintro (h1 | ⟨p, hp, h1⟩); omega; exact hoff0 p hp h1
  have n1 : ¬ OfT bm T (s + 1) := by rintro (h1 | ⟨p, hp, h1⟩); omega; exact hoff1 p hp h1
  have HN0 := hid n0
  have HN1 := hid n1
  clear hoff0 hoff1 n0 n1
  go_wp2_with (first
    | (go_at_call 14; (with_reducible refine HC1.out.mono ?_); rintro e w2 ⟨rfl, T2, h2, e2, t2, o2⟩; rw [HR1.out]; have hX2 := hX1.turns t2 HN0.out HN1.out; have m0 : w2.cell? ⟨s, 0, none⟩ = some (.int .i64 t) := cell_of_row w2 s 0 _ _ _ hX2.a; have m1 : w2.cell? ⟨s, 1, none⟩ = some (.string k) := cell_of_row w2 s 1 _ _ _ hX2.a; have m2 : w2.cell? ⟨s, 2, none⟩ = some (.bool false) := cell_of_row w2 s 2 _ _ _ hX2.a; have E2 := hid e2; have O2 := hid o2; clear e2 o2)
    | (go_at_call 14; have hc2 : Calls Try.prog 14 #[.pointer (some ⟨b, 0, none⟩), .int .i64 who, .agg #[.int .i64 t, .string k, .bool false], .int .i64 3] w2 _ := take_T B b bm T2 who 3 (t, k, false) ⟨HN.out, HK.out⟩ hw w2 h2; refine hc2.mono ?_; clear hc2; rintro e w3 ⟨rfl, T3, h3, e3, t3, o3⟩; have E3 := hid e3; have O3 := hid o3; clear e3 o3; rw [E2.out, show takeS (modelOf T) who (tname t) 2 = takeM (modelOf T) who (tname t) 2 from by (unfold takeS; rw [HR1.out]; rfl), HR2.out]))
  have hf20 : Off T2 s := O2.out s (by have := HZ1.out; omega) HF0.out
  have hf21 : Off T2 (s + 1) := O2.out (s + 1) (by have := HZ1.out; omega) HF1.out
  have hX3 : Boxes w3 s t k := hX2.turns t3 (by rintro (h1 | ⟨p, hp, h1⟩); omega; exact hf20 p hp h1) (by rintro (h1 | ⟨p, hp, h1⟩); omega; exact hf21 p hp h1)
  have e2' : modelOf T2 = takeM (modelOf T) who (tname t) 2 := by rw [E2.out]; unfold takeS; rw [HR1.out]; rfl
  have e3' : modelOf T3 = takeM (modelOf T) who (tname t) 2 := by rw [E3.out, e2']; unfold takeS; rw [HR2.out]; rfl
  obtain ⟨L1, hL1⟩ : ∃ L1, L1 = aput (heldBy (modelOf T) (tname t)) who (wants (modelOf T) who (tname t) 2) := ⟨_, rfl⟩
  obtain ⟨bi, hbi⟩ : ∃ bi, aget T3 (tname t) = some (bi, L1) := by
    have h1 : aget (modelOf T3) (tname t) = some L1 := by rw [e3', takeM, aget_aput, if_pos rfl, hL1]
    rw [modelOf_get] at h1
    cases hg : aget T3 (tname t) with
    | none => rw [hg] at h1; cases h1
    | some q => obtain ⟨b1, l1⟩ := q; rw [hg] at h1; injection h1 with h1; exact ⟨b1, by rw [← h1]⟩
  have hf31 : Off T3 (s + 1) := O3.out (s + 1) (by have := HZ1.out; have := t2.size; omega) hf21
  have hbis : ¬ s + 1 = bi := fun e => hf31 _ (mem_of_aget hbi) e.symm
  have hin3 := h3.get hbi
  have hbibm : ¬ bm = bi := by have := h3.low; omega
  have hTw3 : Turns (fun i => i = bm ∨ B ≤ i) w w3 := ((Turns.of_below hB1).trans (t2.mono fun i _ hi => h.ofT hi)).trans (t3.mono fun i _ hi => h2.ofT hi)
  have hlk : ∀ (W' : World), W'.heap[bm]? = w3.heap[bm]? → (Instr.lookup 39 (.map (some bm)) (.agg #[.int .i64 t, .string ⟨#[]⟩, .bool true]) false).run Try.prog W' = .ok (.map (some bi)) W' := by
    intro W' hW'
    have := lookup_outer h3 (tname t) ⟨HN.out, empty_le⟩ W' hW'
    rw [hbi] at this
    exact this
  have KP3 := hid (show Keeps w w3 bm T T3 from ((Keeps.below hB1).trans (Keeps.take t2 O2.out) hB1.size).trans (Keeps.take t3 O3.out) (Nat.le_trans hB1.size t2.size))
  have HE3 := hid e3'
  have HL1 := hid hL1
  have HBI := hid hbi
  have HLK := hid hlk
  have HBX := hid hX3.b
  clear hf20 hf21 hX3 e2' e3' hL1 hbi hlk hf31 hX2 m0 m1 m2 k0 k1 k2 hA1 hX1 hB1 t2 t3 E2 E3 O2 O3 HC1 HN0 HN1 hbw
  have k0 : w3.cell? ⟨s + 1, 0, none⟩ = some (.int .i64 t) := cell_of_row w3 (s + 1) 0 _ _ _ HBX.out
  have k1 : w3.cell? ⟨s + 1, 1, none⟩ = some (.string ⟨#[]⟩) := cell_of_row w3 (s + 1) 1 _ _ _ HBX.out
  have k2 : w3.cell? ⟨s + 1, 2, none⟩ = some (.bool true) := cell_of_row w3 (s + 1) 2 _ _ _ HBX.out
  have c0 : w3.cell? ⟨b, 0, none⟩ = some (.map (some bm)) := cell_of_row w3 b 0 _ _ _ h3.blk
  have hl12 : (Instr.lookup 39 (.map (some bm)) (.agg #[.int .i64 t, .string ⟨#[]⟩, .bool true]) false).run Try.prog w3.drew = .ok (.map (some bi)) w3.drew := HLK.out _ rfl
  go_still_tail 7, (by kernel_rfl)
  clear hl12
  change wpList _ _ _ _ _ w3.drew
  refine wpList_delete_al _ rfl _ _ 45 3 rfl ienc Try.underlying45 rfl hin3.1.drew who rfl hw ?_
  intro w4 h4 t4
  go_frame
  have hT4 : Turns (fun i => i = bi) w3 w4 := ((Turns.refl _ _).drew).turned t4 (.inr rfl)
  have hA4 := h3.change HBI.out hT4 h4
  have hBX4 := (hT4.block (s + 1) (Array.getElem?_eq_some_iff.1 HBX.out).1 hbis).trans HBX.out
  have hTw4 : Turns (fun i => i = bm ∨ B ≤ i) w w4 := hTw3.trans (hT4.mono fun i _ e => .inr (by rw [e]; exact hin3.2))
  have KP4 := hid (show Keeps w w4 bm T (aput T3 (tname t) (bi, adel L1 who)) from KP3.out.trans (Keeps.change HBI.out hT4) hTw3.size)
  have hl13 : ∀ n, (Instr.lookup 39 (.map (some bm)) (.agg #[.int .i64 t, .string ⟨#[]⟩, .bool true]) false).run Try.prog (w4.drewN n) = .ok (.map (some bi)) (w4.drewN n) := fun n => HLK.out _ (hT4.block bm h3.outer.lt hbibm)
  have hln : ∀ n ty, (Builtin.len_ #[45] ty #[.map (some bi)]).run Try.prog (w4.drewN n) = .ok (.int .i64 (adel L1 who).length) (w4.drewN n) := fun n ty => (h4.drewN n).len Try.underlying45 ty
  clear k0 k1 k2 c0 hin3 t4 h4 hTw3 HBX
  have k0 : w4.cell? ⟨s + 1, 0, none⟩ = some (.int .i64 t) := cell_of_row w4 (s + 1) 0 _ _ _ hBX4
  have k1 : w4.cell? ⟨s + 1, 1, none⟩ = some (.string ⟨#[]⟩) := cell_of_row w4 (s + 1) 1 _ _ _ hBX4
  have k2 : w4.cell? ⟨s + 1, 2, none⟩ = some (.bool true) := cell_of_row w4 (s + 1) 2 _ _ _ hBX4
  have c0 : w4.cell? ⟨b, 0, none⟩ = some (.map (some bm)) := cell_of_row w4 b 0 _ _ _ hA4.blk
  have hlen : (((adel L1 who).length : Int) == 0) = true := by rw [HL1.out, HE.out]; rfl
  go_wp2_with fail
  go_quiet (fail)
  have hA5 : LocksT (w4.drewN nq) B b bm (aput T3 (tname t) (bi, adel L1 who)) := hA4.below ⟨rfl, rfl, rfl, Nat.le_refl _, fun _ _ => rfl⟩
  have hBX5 : (w4.drewN nq).heap[s + 1]? = _ := hBX4
  have hTw5 : Turns (fun i => i = bm ∨ B ≤ i) w (w4.drewN nq) := hTw4.drewN nq
  have KP5 := hid (show Keeps w (w4.drewN nq) bm T (aput T3 (tname t) (bi, adel L1 who)) from KP4.out)
  clear k0 k1 k2 c0 hl13 hln hA4 hBX4 hTw4 hT4
  generalize w4.drewN nq = W5 at hA5 hBX5 hTw5 KP5 ⊢
  have k0 : W5.cell? ⟨s + 1, 0, none⟩ = some (.int .i64 t) := cell_of_row W5 (s + 1) 0 _ _ _ hBX5
  have k1 : W5.cell? ⟨s + 1, 1, none⟩ = some (.string ⟨#[]⟩) := cell_of_row W5 (s + 1) 1 _ _ _ hBX5
  have k2 : W5.cell? ⟨s + 1, 2, none⟩ = some (.bool true) := cell_of_row W5 (s + 1) 2 _ _ _ hBX5
  have c0 : W5.cell? ⟨b, 0, none⟩ = some (.map (some bm)) := cell_of_row W5 b 0 _ _ _ hA5.blk
  go_wp2_with fail
  go_still_tail 5, (by kernel_rfl)
  change wpList _ _ _ _ _ W5.drew
  refine wpList_delete_al _ rfl _ _ 39 45 rfl nenc Try.underlying39 rfl hA5.outer.drew (tname t) rfl ⟨HN.out, empty_le⟩ ?_
  intro w6 h6 t6
  go_frame
  go_wp2_with fail
  go_ret
  have hT6 : Turns (fun i => i = bm) W5 w6 := ((Turns.refl _ _).drew).turned t6 (.inr rfl)
  refine ⟨rfl, _, hA5.drop (tname t) hT6 h6, ?_, hTw5.trans (hT6.mono fun i _ e => .inl e), KP5.out.trans (Keeps.drop (tname t) hT6) hTw5.size⟩
  have e1 : adel (takeM (modelOf T) who (tname t) 2) (tname t) = modelOf T := restore_new hW (tname t) who _ H0.out HE.out
  rw [modelOf_adel, modelOf_aput, HE3.out, adel_aput]; exact e1

set_option maxRecDepth 100000 in
set_option maxHeartbeats 1600000 in
theorem key_c4 (B b bm : Nat) (T : Tb) (who t : Int) (k : ByteArray) (hn : iok t) (hk : k.size ≤ maxLen) (hw : iok who) (w : World) (h : LocksT w B b bm T) (hr1 : takeB (modelOf T) who (tname t) 2 = true) (hr2 : takeB (takeM (modelOf T) who (tname t) 2) who (t, k, false) 3 = false) (h0 : (aget (heldBy (modelOf T) (tname t)) who).getD 0 = 0) (hW : WF (modelOf T)) (he : adel (aput (heldBy (modelOf T) (tname t)) who (wants (modelOf T) who (tname t) 2)) who ≠ []) :
    Calls Try.prog 10 #[.pointer (some ⟨b, 0, none⟩), .int .i64 who, .int .i64 t, .string k, .bool true] w fun e w' =>
      e = .returned (.bool false) ∧ ∃ T', LocksT w' B b bm T' ∧ modelOf T' = modelOf T ∧ Turns (fun i => i = bm ∨ B ≤ i) w w' ∧ Keeps w w' bm T T' := by
  have hbw : b < w.heap.size := (Array.getElem?_eq_some_iff.1 h.blk).1
  have hltT : ∀ p ∈ T, p.2.1 < w.heap.size := fun p hp => (h.inner p hp).lt
  have hbmlt := h.outer.lt
  have HN := hid hn
  have HK := hid hk
  have hB0 : Below w.heap.size w ((w.alloc (.cells #[.int .i64 t, .string k, .bool false] 44)).alloc (.cells #[.int .i64 t, .string ⟨#[]⟩, .bool true] 44)) := ((Below.refl _ _).alloc (Nat.le_refl _) _).alloc (by simp) _
  have hX0 : Boxes ((w.alloc (.cells #[.int .i64 t, .string k, .bool false] 44)).alloc (.cells #[.int .i64 t, .string ⟨#[]⟩, .bool true] 44)) w.heap.size t k := by
    refine ⟨(Below.heap_alloc _ _ _ (by simp)).trans (heap_alloc_new w _), ?_⟩
    have := heap_alloc_new (w.alloc (.cells #[.int .i64 t, .string k, .bool false] 44)) (.cells #[.int .i64 t, .string ⟨#[]⟩, .bool true] 44)
    rw [World.size_alloc] at this
    exact this
  have hz0 : ((w.alloc (.cells #[.int .i64 t, .string k, .bool false] 44)).alloc (.cells #[.int .i64 t, .string ⟨#[]⟩, .bool true] 44)).heap.size = w.heap.size + 2 := by simp
  have HLT := hid hltT
  clear hltT hn hk
  go_enter Try.func10, Try.ntmps10
  go_wp2_with fail
  generalize (w.alloc (.cells #[.int .i64 t, .string k, .bool false] 44)).alloc (.cells #[.int .i64 t, .string ⟨#[]⟩, .bool true] 44) = W0 at hB0 hX0 hz0 ⊢
  have hA0 := h.below hB0
  obtain ⟨s, hs⟩ : ∃ s, s = w.heap.size := ⟨_, rfl⟩
  rw [← hs] at hX0 hz0 hbw hbmlt ⊢
  have HS := hid hs
  clear hs
  have k0 : W0.cell? ⟨s + 1, 0, none⟩ = some (.int .i64 t) := cell_of_row W0 (s + 1) 0 _ _ _ hX0.b
  have k1 : W0.cell? ⟨s + 1, 1, none⟩ = some (.string ⟨#[]⟩) := cell_of_row W0 (s + 1) 1 _ _ _ hX0.b
  have k2 : W0.cell? ⟨s + 1, 2, none⟩ = some (.bool true) := cell_of_row W0 (s + 1) 2 _ _ _ hX0.b
  have c0 : W0.cell? ⟨b, 0, none⟩ = some (.map (some bm)) := cell_of_row W0 b 0 _ _ _ hA0.blk
  obtain ⟨o, ho⟩ : ∃ o, o = (aget T (tname t)).map fun q => q.1 := ⟨_, rfl⟩
  obtain ⟨O, hO⟩ : ∃ O, O = (aget (heldBy (modelOf T) (tname t)) who).getD 0 := ⟨_, rfl⟩
  have hl1 : ∀ n, (Instr.lookup 39 (.map (some bm)) (.agg #[.int .i64 t, .string ⟨#[]⟩, .bool true]) false).run Try.prog (W0.drewN n) = .ok (.map o) (W0.drewN n) := by
    intro n; rw [ho]; exact lookup_outer hA0 (tname t) ⟨HN.out, empty_le⟩ _ rfl
  have hl2 : ∀ n, (Instr.lookup 45 (.map o) (.int .i64 who) false).run Try.prog (W0.drewN n) = .ok (.int .i64 O) (W0.drewN n) := by
    intro n; rw [ho, hO]; exact lookup_inner hA0 (tname t) who hw _ rfl
  have HO := hid hO
  clear ho hO
  go_quiet (fail)
  have hA1 : LocksT (W0.drewN nq) B b bm T := hA0.below ⟨rfl, rfl, rfl, Nat.le_refl _, fun _ _ => rfl⟩
  have hX1 : Boxes (W0.drewN nq) s t k := ⟨hX0.a, hX0.b⟩
  have hz1 : (W0.drewN nq).heap.size = s + 2 := hz0
  have hB1 : Below w.heap.size w (W0.drewN nq) := hB0.trans ⟨rfl, rfl, rfl, Nat.le_refl _, fun _ _ => rfl⟩
  clear k0 k1 k2 c0 hl1 hl2 hA0 hX0 hz0 hB0
  generalize W0.drewN nq = W1 at hA1 hX1 hz1 hB1 ⊢
  have k0 : W1.cell? ⟨s + 1, 0, none⟩ = some (.int .i64 t) := cell_of_row W1 (s + 1) 0 _ _ _ hX1.b
  have k1 : W1.cell? ⟨s + 1, 1, none⟩ = some (.string ⟨#[]⟩) := cell_of_row W1 (s + 1) 1 _ _ _ hX1.b
  have k2 : W1.cell? ⟨s + 1, 2, none⟩ = some (.bool true) := cell_of_row W1 (s + 1) 2 _ _ _ hX1.b
  have HZ1 := hid hz1
  clear hz1
  have hc1 : Calls Try.prog 14 #[.pointer (some ⟨b, 0, none⟩), .int .i64 who, .agg #[.int .i64 t, .string ⟨#[]⟩, .bool true], .int .i64 2] W1 _ := take_T B b bm T who 2 (tname t) ⟨HN.out, empty_le⟩ hw W1 hA1
  have HC1 := hid hc1
  clear hc1
  have hO0 : (O == 0) = true := by rw [HO.out, h0]; rfl
  have H0 := hid h0
  clear h0
  have HE := hid he
  clear he
  have HR1 := hid hr1
  have HR2 := hid hr2
  clear hr1 hr2
  have hoff0 : Off T s := fun p hp => by have := HLT.out p hp; have := HS.out; omega
  have hoff1 : Off T (s + 1) := fun p hp => by have := HLT.out p hp; have := HS.out; omega
  have HF0 := hid hoff0
  have HF1 := hid hoff1
  have n0 : ¬ OfT bm T s := by rintro (h1 | ⟨p, hp, h1⟩); omega; exact hoff0 p hp h1
  have n1 : ¬ OfT bm T (s + 1) := by rintro (h1 | ⟨p, hp, h1⟩); omega; exact hoff1 p hp h1
  have HN0 := hid n0
  have HN1 := hid n1
  clear hoff0 hoff1 n0 n1
  go_wp2_with (first
    | (go_at_call 14; (with_reducible refine HC1.out.mono ?_); rintro e w2 ⟨rfl, T2, h2, e2, t2, o2⟩; rw [HR1.out]; have hX2 := hX1.turns t2 HN0.out HN1.out; have m0 : w2.cell? ⟨s, 0, none⟩ = some (.int .i64 t) := cell_of_row w2 s 0 _ _ _ hX2.a; have m1 : w2.cell? ⟨s, 1, none⟩ = some (.string k) := cell_of_row w2 s 1 _ _ _ hX2.a; have m2 : w2.cell? ⟨s, 2, none⟩ = some (.bool false) := cell_of_row w2 s 2 _ _ _ hX2.a; have E2 := hid e2; have O2 := hid o2; clear e2 o2)
    | (go_at_call 14; have hc2 : Calls Try.prog 14 #[.pointer (some ⟨b, 0, none⟩), .int .i64 who, .agg #[.int .i64 t, .string k, .bool false], .int .i64 3] w2 _ := take_T B b bm T2 who 3 (t, k, false) ⟨HN.out, HK.out⟩ hw w2 h2; refine hc2.mono ?_; clear hc2; rintro e w3 ⟨rfl, T3, h3, e3, t3, o3⟩; have E3 := hid e3; have O3 := hid o3; clear e3 o3; rw [E2.out, show takeS (modelOf T) who (tname t) 2 = takeM (modelOf T) who (tname t) 2 from by (unfold takeS; rw [HR1.out]; rfl), HR2.out]))
  have hf20 : Off T2 s := O2.out s (by have := HZ1.out; omega) HF0.out
  have hf21 : Off T2 (s + 1) := O2.out (s + 1) (by have := HZ1.out; omega) HF1.out
  have hX3 : Boxes w3 s t k := hX2.turns t3 (by rintro (h1 | ⟨p, hp, h1⟩); omega; exact hf20 p hp h1) (by rintro (h1 | ⟨p, hp, h1⟩); omega; exact hf21 p hp h1)
  have e2' : modelOf T2 = takeM (modelOf T) who (tname t) 2 := by rw [E2.out]; unfold takeS; rw [HR1.out]; rfl
  have e3' : modelOf T3 = takeM (modelOf T) who (tname t) 2 := by rw [E3.out, e2']; unfold takeS; rw [HR2.out]; rfl
  obtain ⟨L1, hL1⟩ : ∃ L1, L1 = aput (heldBy (modelOf T) (tname t)) who (wants (modelOf T) who (tname t) 2) := ⟨_, rfl⟩
  obtain ⟨bi, hbi⟩ : ∃ bi, aget T3 (tname t) = some (bi, L1) := by
    have h1 : aget (modelOf T3) (tname t) = some L1 := by rw [e3', takeM, aget_aput, if_pos rfl, hL1]
    rw [modelOf_get] at h1
    cases hg : aget T3 (tname t) with
    | none => rw [hg] at h1; cases h1
    | some q => obtain ⟨b1, l1⟩ := q; rw [hg] at h1; injection h1 with h1; exact ⟨b1, by rw [← h1]⟩
  have hf31 : Off T3 (s + 1) := O3.out (s + 1) (by have := HZ1.out; have := t2.size; omega) hf21
  have hbis : ¬ s + 1 = bi := fun e => hf31 _ (mem_of_aget hbi) e.symm
  have hin3 := h3.get hbi
  have hbibm : ¬ bm = bi := by have := h3.low; omega
  have hTw3 : Turns (fun i => i = bm ∨ B ≤ i) w w3 := ((Turns.of_below hB1).trans (t2.mono fun i _ hi => h.ofT hi)).trans (t3.mono fun i _ hi => h2.ofT hi)
  have hlk : ∀ (W' : World), W'.heap[bm]? = w3.heap[bm]? → (Instr.lookup 39 (.map (some bm)) (.agg #[.int .i64 t, .string ⟨#[]⟩, .bool true]) false).run Try.prog W' = .ok (.map (some bi)) W' := by
    intro W' hW'
    have := lookup_outer h3 (tname t) ⟨HN.out, empty_le⟩ W' hW'
    rw [hbi] at this
    exact this
  have KP3 := hid (show Keeps w w3 bm T T3 from ((Keeps.below hB1).trans (Keeps.take t2 O2.out) hB1.size).trans (Keeps.take t3 O3.out) (Nat.le_trans hB1.size t2.size))
  have HE3 := hid e3'
  have HL1 := hid hL1
  have HBI := hid hbi
  have HLK := hid hlk
  have HBX := hid hX3.b
  clear hf20 hf21 hX3 e2' e3' hL1 hbi hlk hf31 hX2 m0 m1 m2 k0 k1 k2 hA1 hX1 hB1 t2 t3 E2 E3 O2 O3 HC1 HN0 HN1 hbw
  have k0 : w3.cell? ⟨s + 1, 0, none⟩ = some (.int .i64 t) := cell_of_row w3 (s + 1) 0 _ _ _ HBX.out
  have k1 : w3.cell? ⟨s + 1, 1, none⟩ = some (.string ⟨#[]⟩) := cell_of_row w3 (s + 1) 1 _ _ _ HBX.out
  have k2 : w3.cell? ⟨s + 1, 2, none⟩ = some (.bool true) := cell_of_row w3 (s + 1) 2 _ _ _ HBX.out
  have c0 : w3.cell? ⟨b, 0, none⟩ = some (.map (some bm)) := cell_of_row w3 b 0 _ _ _ h3.blk
  have hl12 : (Instr.lookup 39 (.map (some bm)) (.agg #[.int .i64 t, .string ⟨#[]⟩, .bool true]) false).run Try.prog w3.drew = .ok (.map (some bi)) w3.drew := HLK.out _ rfl
  go_still_tail 7, (by kernel_rfl)
  clear hl12
  change wpList _ _ _ _ _ w3.drew
  refine wpList_delete_al _ rfl _ _ 45 3 rfl ienc Try.underlying45 rfl hin3.1.drew who rfl hw ?_
  intro w4 h4 t4
  go_frame
  have hT4 : Turns (fun i => i = bi) w3 w4 := ((Turns.refl _ _).drew).turned t4 (.inr rfl)
  have hA4 := h3.change HBI.out hT4 h4
  have hBX4 := (hT4.block (s + 1) (Array.getElem?_eq_some_iff.1 HBX.out).1 hbis).trans HBX.out
  have hTw4 : Turns (fun i => i = bm ∨ B ≤ i) w w4 := hTw3.trans (hT4.mono fun i _ e => .inr (by rw [e]; exact hin3.2))
  have KP4 := hid (show Keeps w w4 bm T (aput T3 (tname t) (bi, adel L1 who)) from KP3.out.trans (Keeps.change HBI.out hT4) hTw3.size)
  have hl13 : ∀ n, (Instr.lookup 39 (.map (some bm)) (.agg #[.int .i64 t, .string ⟨#[]⟩, .bool true]) false).run Try.prog (w4.drewN n) = .ok (.map (some bi)) (w4.drewN n) := fun n => HLK.out _ (hT4.block bm h3.outer.lt hbibm)
  have hln : ∀ n ty, (Builtin.len_ #[45] ty #[.map (some bi)]).run Try.prog (w4.drewN n) = .ok (.int .i64 (adel L1 who).length) (w4.drewN n) := fun n ty => (h4.drewN n).len Try.underlying45 ty
  clear k0 k1 k2 c0 hin3 t4 h4 hTw3 HBX
  have k0 : w4.cell? ⟨s + 1, 0, none⟩ = some (.int .i64 t) := cell_of_row w4 (s + 1) 0 _ _ _ hBX4
  have k1 : w4.cell? ⟨s + 1, 1, none⟩ = some (.string ⟨#[]⟩) := cell_of_row w4 (s + 1) 1 _ _ _ hBX4
  have k2 : w4.cell? ⟨s + 1, 2, none⟩ = some (.bool true) := cell_of_row w4 (s + 1) 2 _ _ _ hBX4
  have c0 : w4.cell? ⟨b, 0, none⟩ = some (.map (some bm)) := cell_of_row w4 b 0 _ _ _ hA4.blk
  have hlen : (((adel L1 who).length : Int) == 0) = false := by
    have := HE.out
    rw [← HL1.out] at this
    have h1 : (adel L1 who).length ≠ 0 := fun e => this (List.eq_nil_of_length_eq_zero e)
    simp; omega
  go_wp2_with fail
  go_quiet (fail)
  go_wp2_with fail
  go_ret
  have hA5 : LocksT (w4.drewN nq) B b bm (aput T3 (tname t) (bi, adel L1 who)) := hA4.below ⟨rfl, rfl, rfl, Nat.le_refl _, fun _ _ => rfl⟩
  refine ⟨rfl, _, hA5, ?_, hTw4.drewN nq, KP4.out⟩
  rw [modelOf_aput, HE3.out, HL1.out]
  exact restore_old h.apartM hW (tname t) who _ H0.out HE.out

set_option maxRecDepth 100000 in
set_option maxHeartbeats 1600000 in
theorem key_c5 (B b bm : Nat) (T : Tb) (who t : Int) (k : ByteArray) (hn : iok t) (hk : k.size ≤ maxLen) (hw : iok who) (w : World) (h : LocksT w B b bm T) (hr1 : takeB (modelOf T) who (tname t) 2 = true) (hr2 : takeB (takeM (modelOf T) who (tname t) 2) who (t, k, false) 3 = false) (h0 : (aget (heldBy (modelOf T) (tname t)) who).getD 0 ≠ 0) (hW : WF (modelOf T)) :
    Calls Try.prog 10 #[.pointer (some ⟨b, 0, none⟩), .int .i64 who, .int .i64 t, .string k, .bool true] w fun e w' =>
      e = .returned (.bool false) ∧ ∃ T', LocksT w' B b bm T' ∧ modelOf T' = modelOf T ∧ Turns (fun i => i = bm ∨ B ≤ i) w w' ∧ Keeps w w' bm T T' := by
  have hbw : b < w.heap.size := (Array.getElem?_eq_some_iff.1 h.blk).1
  have hltT : ∀ p ∈ T, p.2.1 < w.heap.size := fun p hp => (h.inner p hp).lt
  have hbmlt := h.outer.lt
  have HN := hid hn
  have HK := hid hk
  have hB0 : Below w.heap.size w ((w.alloc (.cells #[.int .i64 t, .string k, .bool false] 44)).alloc (.cells #[.int .i64 t, .string ⟨#[]⟩, .bool true] 44)) := ((Below.refl _ _).alloc (Nat.le_refl _) _).alloc (by simp) _
  have hX0 : Boxes ((w.alloc (.cells #[.int .i64 t, .string k, .bool false] 44)).alloc (.cells #[.int .i64 t, .string ⟨#[]⟩, .bool true] 44)) w.heap.size t k := by
    refine ⟨(Below.heap_alloc _ _ _ (by simp)).trans (heap_alloc_new w _), ?_⟩
    have := heap_alloc_new (w.alloc (.cells #[.int .i64 t, .string k, .bool false] 44)) (.cells #[.int .i64 t, .string ⟨#[]⟩, .bool true] 44)
    rw [World.size_alloc] at this
    exact this
  have hz0 : ((w.alloc (.cells #[.int .i64 t, .string k, .bool false] 44)).alloc (.cells #[.int .i64 t, .string ⟨#[]⟩, .bool true] 44)).heap.size = w.heap.size + 2 := by simp
  have HLT := hid hltT
  clear hltT hn hk
  go_enter Try.func10, Try.ntmps10
  go_wp2_with fail
  generalize (w.alloc (.cells #[.int .i64 t, .string k, .bool false] 44)).alloc (.cells #[.int .i64 t, .string ⟨#[]⟩, .bool true] 44) = W0 at hB0 hX0 hz0 ⊢
  have hA0 := h.below hB0
  obtain ⟨s, hs⟩ : ∃ s, s = w.heap.size := ⟨_, rfl⟩
  rw [← hs] at hX0 hz0 hbw hbmlt ⊢
  have HS := hid hs
  clear hs
  have k0 : W0.cell? ⟨s + 1, 0, none⟩ = some (.int .i64 t) := cell_of_row W0 (s + 1) 0 _ _ _ hX0.b
  have k1 : W0.cell? ⟨s + 1, 1, none⟩ = some (.string ⟨#[]⟩) := cell_of_row W0 (s + 1) 1 _ _ _ hX0.b
  have k2 : W0.cell? ⟨s + 1, 2, none⟩ = some (.bool true) := cell_of_row W0 (s + 1) 2 _ _ _ hX0.b
  have c0 : W0.cell? ⟨b, 0, none⟩ = some (.map (some bm)) := cell_of_row W0 b 0 _ _ _ hA0.blk
  obtain ⟨o, ho⟩ : ∃ o, o = (aget T (tname t)).map fun q => q.1 := ⟨_, rfl⟩
  obtain ⟨O, hO⟩ : ∃ O, O = (aget (heldBy (modelOf T) (tname t)) who).getD 0 := ⟨_, rfl⟩
  have hl1 : ∀ n, (Instr.lookup 39 (.map (some bm)) (.agg #[.int .i64 t, .string ⟨#[]⟩, .bool true]) false).run Try.prog (W0.drewN n) = .ok (.map o) (W0.drewN n) := by
    intro n; rw [ho]; exact lookup_outer hA0 (tname t) ⟨HN.out, empty_le⟩ _ rfl
  have hl2 : ∀ n, (Instr.lookup 45 (.map o) (.int .i64 who) false).run Try.prog (W0.drewN n) = .ok (.int .i64 O) (W0.drewN n) := by
    intro n; rw [ho, hO]; exact lookup_inner hA0 (tname t) who hw _ rfl
  have HO := hid hO
  clear ho hO
  go_quiet (fail)
  have hA1 : LocksT (W0.drewN nq) B b bm T := hA0.below ⟨rfl, rfl, rfl, Nat.le_refl _, fun _ _ => rfl⟩
  have hX1 : Boxes (W0.drewN nq) s t k := ⟨hX0.a, hX0.b⟩
  have hz1 : (W0.drewN nq).heap.size = s + 2 := hz0
  have hB1 : Below w.heap.size w (W0.drewN nq) := hB0.trans ⟨rfl, rfl, rfl, Nat.le_refl _, fun _ _ => rfl⟩
  clear k0 k1 k2 c0 hl1 hl2 hA0 hX0 hz0 hB0
  generalize W0.drewN nq = W1 at hA1 hX1 hz1 hB1 ⊢
  have k0 : W1.cell? ⟨s + 1, 0, none⟩ = some (.int .i64 t) := cell_of_row W1 (s + 1) 0 _ _ _ hX1.b
  have k1 : W1.cell? ⟨s + 1, 1, none⟩ = some (.string ⟨#[]⟩) := cell_of_row W1 (s + 1) 1 _ _ _ hX1.b
  have k2 : W1.cell? ⟨s + 1, 2, none⟩ = some (.bool true) := cell_of_row W1 (s + 1) 2 _ _ _ hX1.b
  have HZ1 := hid hz1
  clear hz1
  have hc1 : Calls Try.prog 14 #[.pointer (some ⟨b, 0, none⟩), .int .i64 who, .agg #[.int .i64 t, .string ⟨#[]⟩, .bool true], .int .i64 2] W1 _ := take_T B b bm T who 2 (tname t) ⟨HN.out, empty_le⟩ hw W1 hA1
  have HC1 := hid hc1
  clear hc1
  have hO0 : (O == 0) = false := by rw [HO.out]; simpa using h0
  have H0 := hid h0
  clear h0
  have HR1 := hid hr1
  have HR2 := hid hr2
  clear hr1 hr2
  have hoff0 : Off T s := fun p hp => by have := HLT.out p hp; have := HS.out; omega
  have hoff1 : Off T (s + 1) := fun p hp => by have := HLT.out p hp; have := HS.out; omega
  have HF0 := hid hoff0
  have HF1 := hid hoff1
  have n0 : ¬ OfT bm T s := by rintro (h1 | ⟨p, hp, h1⟩); omega; exact hoff0 p hp h1
  have n1 : ¬ OfT bm T (s + 1) := by rintro (h1 | ⟨p, hp, h1⟩); omega; exact hoff1 p hp h1
  have HN0 := hid n0
  have HN1 := hid n1
  clear hoff0 hoff1 n0 n1
  go_wp2_with (first
    | (go_at_call 14; (with_reducible refine HC1.out.mono ?_); rintro e w2 ⟨rfl, T2, h2, e2, t2, o2⟩; rw [HR1.out]; have hX2 := hX1.turns t2 HN0.out HN1.out; have m0 : w2.cell? ⟨s, 0, none⟩ = some (.int .i64 t) := cell_of_row w2 s 0 _ _ _ hX2.a; have m1 : w2.cell? ⟨s, 1, none⟩ = some (.string k) := cell_of_row w2 s 1 _ _ _ hX2.a; have m2 : w2.cell? ⟨s, 2, none⟩ = some (.bool false) := cell_of_row w2 s 2 _ _ _ hX2.a; have E2 := hid e2; have O2 := hid o2; clear e2 o2)
    | (go_at_call 14; have hc2 : Calls Try.prog 14 #[.pointer (some ⟨b, 0, none⟩), .int .i64 who, .agg #[.int .i64 t, .string k, .bool false], .int .i64 3] w2 _ := take_T B b bm T2 who 3 (t, k, false) ⟨HN.out, HK.out⟩ hw w2 h2; refine hc2.mono ?_; clear hc2; rintro e w3 ⟨rfl, T3, h3, e3, t3, o3⟩; have E3 := hid e3; have O3 := hid o3; clear e3 o3; rw [E2.out, show takeS (modelOf T) who (tname t) 2 = takeM (modelOf T) who (tname t) 2 from by (unfold takeS; rw [HR1.out]; rfl), HR2.out]))
  have hf20 : Off T2 s := O2.out s (by have := HZ1.out; omega) HF0.out
  have hf21 : Off T2 (s + 1) := O2.out (s + 1) (by have := HZ1.out; omega) HF1.out
  have hX3 : Boxes w3 s t k := hX2.turns t3 (by rintro (h1 | ⟨p, hp, h1⟩); omega; exact hf20 p hp h1) (by rintro (h1 | ⟨p, hp, h1⟩); omega; exact hf21 p hp h1)
  have e2' : modelOf T2 = takeM (modelOf T) who (tname t) 2 := by rw [E2.out]; unfold takeS; rw [HR1.out]; rfl
  have e3' : modelOf T3 = takeM (modelOf T) who (tname t) 2 := by rw [E3.out, e2']; unfold takeS; rw [HR2.out]; rfl
  obtain ⟨L1, hL1⟩ : ∃ L1, L1 = aput (heldBy (modelOf T) (tname t)) who (wants (modelOf T) who (tname t) 2) := ⟨_, rfl⟩
  obtain ⟨bi, hbi⟩ : ∃ bi, aget T3 (tname t) = some (bi, L1) := by
    have h1 : aget (modelOf T3) (tname t) = some L1 := by rw [e3', takeM, aget_aput, if_pos rfl, hL1]
    rw [modelOf_get] at h1
    cases hg : aget T3 (tname t) with
    | none => rw [hg] at h1; cases h1
    | some q => obtain ⟨b1, l1⟩ := q; rw [hg] at h1; injection h1 with h1; exact ⟨b1, by rw [← h1]⟩
  have hf31 : Off T3 (s + 1) := O3.out (s + 1) (by have := HZ1.out; have := t2.size; omega) hf21
  have hbis : ¬ s + 1 = bi := fun e => hf31 _ (mem_of_aget hbi) e.symm
  have hin3 := h3.get hbi
  have hbibm : ¬ bm = bi := by have := h3.low; omega
  have hTw3 : Turns (fun i => i = bm ∨ B ≤ i) w w3 := ((Turns.of_below hB1).trans (t2.mono fun i _ hi => h.ofT hi)).trans (t3.mono fun i _ hi => h2.ofT hi)
  have hlk : ∀ (W' : World), W'.heap[bm]? = w3.heap[bm]? → (Instr.lookup 39 (.map (some bm)) (.agg #[.int .i64 t, .string ⟨#[]⟩, .bool true]) false).run Try.prog W' = .ok (.map (some bi)) W' := by
    intro W' hW'
    have := lookup_outer h3 (tname t) ⟨HN.out, empty_le⟩ W' hW'
    rw [hbi] at this
    exact this
  have KP3 := hid (show Keeps w w3 bm T T3 from ((Keeps.below hB1).trans (Keeps.take t2 O2.out) hB1.size).trans (Keeps.take t3 O3.out) (Nat.le_trans hB1.size t2.size))
  have HE3 := hid e3'
  have HL1 := hid hL1
  have HBI := hid hbi
  have HLK := hid hlk
  have HBX := hid hX3.b
  clear hf20 hf21 hX3 e2' e3' hL1 hbi hlk hf31 hX2 m0 m1 m2 k0 k1 k2 hA1 hX1 hB1 t2 t3 E2 E3 O2 O3 HC1 HN0 HN1 hbw
  have k0 : w3.cell? ⟨s + 1, 0, none⟩ = some (.int .i64 t) := cell_of_row w3 (s + 1) 0 _ _ _ HBX.out
  have k1 : w3.cell? ⟨s + 1, 1, none⟩ = some (.string ⟨#[]⟩) := cell_of_row w3 (s + 1) 1 _ _ _ HBX.out
  have k2 : w3.cell? ⟨s + 1, 2, none⟩ = some (.bool true) := cell_of_row w3 (s + 1) 2 _ _ _ HBX.out
  have c0 : w3.cell? ⟨b, 0, none⟩ = some (.map (some bm)) := cell_of_row w3 b 0 _ _ _ h3.blk
  have hl12 : (Instr.lookup 39 (.map (some bm)) (.agg #[.int .i64 t, .string ⟨#[]⟩, .bool true]) false).run Try.prog w3.drew = .ok (.map (some bi)) w3.drew := HLK.out _ rfl
  go_still_tail 8, (by kernel_rfl)
  clear hl12
  change wpList _ _ _ _ _ w3.drew
  refine wpList_update_al _ rfl _ _ _ 45 3 rfl ienc Try.underlying45 rfl hin3.1.drew who rfl hw O rfl ?_
  intro w4 h4 t4
  go_frame
  go_wp2_with fail
  go_ret
  have hT4 : Turns (fun i => i = bi) w3 w4 := ((Turns.refl _ _).drew).turned t4 (.inr rfl)
  have hA4 := h3.change HBI.out hT4 h4
  refine ⟨rfl, _, hA4, ?_, hTw3.trans (hT4.mono fun i _ e => .inr (by rw [e]; exact hin3.2)), KP3.out.trans (Keeps.change HBI.out hT4) hTw3.size⟩
  rw [modelOf_aput, HE3.out, HL1.out, HO.out]
  exact restore_mode h.apartM hW (tname t) who _ H0.out

end Go.Proofs.Yticbmpgcndoncaa
