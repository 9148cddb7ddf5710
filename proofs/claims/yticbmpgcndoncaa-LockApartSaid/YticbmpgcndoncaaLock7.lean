/-
  'Key' to change, walked in its ways.
-/
import Derived.Test.YticbmpgcndoncaaLock6
namespace Go.Proofs.Yticbmpgcndoncaa
open Go.RowKit Go.Maps

set_option maxRecDepth 100000 in
set_option maxHeartbeats 1600000 in
theorem key_c1 (B b bm : Nat) (T : Tb) (who t : Int) (k : ByteArray) (hn : iok t) (hk : k.size ≤ maxLen) (hw : iok who) (w : World) (h : LocksT w B b bm T) (hr1 : takeB (modelOf T) who (tname t) 2 = false) :
    Calls Try.prog 10 #[.pointer (some ⟨b, 0, none⟩), .int .i64 who, .int .i64 t, .string k, .bool true] w fun e w' =>
      e = .returned (.bool false) ∧ ∃ T', LocksT w' B b bm T' ∧ modelOf T' = modelOf T ∧ Turns (fun i => i = bm ∨ B ≤ i) w w' ∧ Keeps w w' bm T T' := by
  have hbw : b < w.heap.size := (Array.getElem?_eq_some_iff.1 h.blk).1
  have hltT : ∀ p ∈ T, p.2.1 < w.heap.size := fun p hp => (h.inner p hp).lt
  have hbmlt := h.outer.lt
  have HN := hid hn
  have HK := hid hk
  have hB0 : Below w.heap.size w ((w.alloc (.cells #[.int .i64 t, .string k, .bool false] 44)).alloc (.cells #[.int .i64 t, .string ⟨#[]⟩, .bool true] 44)) := ((Below.refl _ _).alloc (Nat.le_refl _) _).alloc (by simp) _
  have hX0 : Boxes ((w.alloc (.cells #[.int .i64 t, .string k, .bool false] 44)).alloc (.cells #[.int .i64 t, .string ⟨#[]⟩, .bool true] 44)) w.heap.size t k := by
    refine ⟨(Below.heap_alloc _ _ _ (by simp)).trans (heap_alloc_new w _), ?_⟩
    have := heap_alloc_new (w.alloc (.cells #[.int .i64 t, .string k, .bool false] 44)) (.cells #[.int .i64 t, .string ⟨#[]⟩, .bool true] 44)
    rw [World.size_alloc] at this
    exact this
  have hz0 : ((w.alloc (.cells #[.int .i64 t, .string k, .bool false] 44)).alloc (.cells #[.int .i64 t, .string ⟨#[]⟩, .bool true] 44)).heap.size = w.heap.size + 2 := by simp
  have HLT := hid hltT
  clear hltT hn hk
  go_enter Try.func10, Try.ntmps10
  go_wp2_with fail
  generalize (w.alloc (.cells #[.int .i64 t, .string k, .bool false] 44)).alloc (.cells #[.int .i64 t, .string ⟨#[]⟩, .bool true] 44) = W0 at hB0 hX0 hz0 ⊢
  have hA0 := h.below hB0
  obtain ⟨s, hs⟩ : ∃ s, s = w.heap.size := ⟨_, rfl⟩
  rw [← hs] at hX0 hz0 hbw hbmlt ⊢
  have HS := hid hs
  clear hs
  have k0 : W0.cell? ⟨s + 1, 0, none⟩ = some (.int .i64 t) := cell_of_row W0 (s + 1) 0 _ _ _ hX0.b
  have k1 : W0.cell? ⟨s + 1, 1, none⟩ = some (.string ⟨#[]⟩) := cell_of_row W0 (s + 1) 1 _ _ _ hX0.b
  have k2 : W0.cell? ⟨s + 1, 2, none⟩ = some (.bool true) := cell_of_row W0 (s + 1) 2 _ _ _ hX0.b
  have c0 : W0.cell? ⟨b, 0, none⟩ = some (.map (some bm)) := cell_of_row W0 b 0 _ _ _ hA0.blk
  obtain ⟨o, ho⟩ : ∃ o, o = (aget T (tname t)).map fun q => q.1 := ⟨_, rfl⟩
  obtain ⟨O, hO⟩ : ∃ O, O = (aget (heldBy (modelOf T) (tname t)) who).getD 0 := ⟨_, rfl⟩
  have hl1 : ∀ n, (Instr.lookup 39 (.map (some bm)) (.agg #[.int .i64 t, .string ⟨#[]⟩, .bool true]) false).run Try.prog (W0.drewN n) = .ok (.map o) (W0.drewN n) := by
    intro n; rw [ho]; exact lookup_outer hA0 (tname t) ⟨HN.out, empty_le⟩ _ rfl
  have hl2 : ∀ n, (Instr.lookup 45 (.map o) (.int .i64 who) false).run Try.prog (W0.drewN n) = .ok (.int .i64 O) (W0.drewN n) := by
    intro n; rw [ho, hO]; exact lookup_inner hA0 (tname t) who hw _ rfl
  have HO := hid hO
  clear ho hO
  go_quiet (fail)
  have hA1 : LocksT (W0.drewN nq) B b bm T := hA0.below ⟨rfl, rfl, rfl, Nat.le_refl _, fun _ _ => rfl⟩
  have hX1 : Boxes (W0.drewN nq) s t k := ⟨hX0.a, hX0.b⟩
  have hz1 : (W0.drewN nq).heap.size = s + 2 := hz0
  have hB1 : Below w.heap.size w (W0.drewN nq) := hB0.trans ⟨rfl, rfl, rfl, Nat.le_refl _, fun _ _ => rfl⟩
  clear k0 k1 k2 c0 hl1 hl2 hA0 hX0 hz0 hB0
  generalize W0.drewN nq = W1 at hA1 hX1 hz1 hB1 ⊢
  have k0 : W1.cell? ⟨s + 1, 0, none⟩ = some (.int .i64 t) := cell_of_row W1 (s + 1) 0 _ _ _ hX1.b
  have k1 : W1.cell? ⟨s + 1, 1, none⟩ = some (.string ⟨#[]⟩) := cell_of_row W1 (s + 1) 1 _ _ _ hX1.b
  have k2 : W1.cell? ⟨s + 1, 2, none⟩ = some (.bool true) := cell_of_row W1 (s + 1) 2 _ _ _ hX1.b
  have HZ1 := hid hz1
  clear hz1
  have hc1 : Calls Try.prog 14 #[.pointer (some ⟨b, 0, none⟩), .int .i64 who, .agg #[.int .i64 t, .string ⟨#[]⟩, .bool true], .int .i64 2] W1 _ := take_T B b bm T who 2 (tname t) ⟨HN.out, empty_le⟩ hw W1 hA1
  have HC1 := hid hc1
  clear hc1
  have HR1 := hid hr1
  clear hr1
  go_wp2_with (first
    | (go_at_call 14; (with_reducible refine HC1.out.mono ?_); rintro e w2 ⟨rfl, T2, h2, e2, t2, o2⟩; rw [HR1.out]))
  go_ret
  have hTw : ∀ {v : World}, Turns (OfT bm T) W1 v → Turns (fun i => i = bm ∨ B ≤ i) w v := fun u => (Turns.of_below hB1).trans (u.mono fun i _ hi => h.ofT hi)
  exact ⟨rfl, T2, h2, by rw [e2]; unfold takeS; rw [HR1.out]; rfl, hTw t2, (Keeps.below hB1).trans (Keeps.take t2 o2) hB1.size⟩

set_option maxRecDepth 100000 in
set_option maxHeartbeats 1600000 in
theorem key_c2 (B b bm : Nat) (T : Tb) (who t : Int) (k : ByteArray) (hn : iok t) (hk : k.size ≤ maxLen) (hw : iok who) (w : World) (h : LocksT w B b bm T) (hr1 : takeB (modelOf T) who (tname t) 2 = true) (hr2 : takeB (takeM (modelOf T) who (tname t) 2) who (t, k, false) 3 = true) :
    Calls Try.prog 10 #[.pointer (some ⟨b, 0, none⟩), .int .i64 who, .int .i64 t, .string k, .bool true] w fun e w' =>
      e = .returned (.bool true) ∧ ∃ T', LocksT w' B b bm T' ∧ modelOf T' = takeM (takeM (modelOf T) who (tname t) 2) who (t, k, false) 3 ∧ Turns (fun i => i = bm ∨ B ≤ i) w w' ∧ Keeps w w' bm T T' := by
  have hbw : b < w.heap.size := (Array.getElem?_eq_some_iff.1 h.blk).1
  have hltT : ∀ p ∈ T, p.2.1 < w.heap.size := fun p hp => (h.inner p hp).lt
  have hbmlt := h.outer.lt
  have HN := hid hn
  have HK := hid hk
  have hB0 : Below w.heap.size w ((w.alloc (.cells #[.int .i64 t, .string k, .bool false] 44)).alloc (.cells #[.int .i64 t, .string ⟨#[]⟩, .bool true] 44)) := ((Below.refl _ _).alloc (Nat.le_refl _) _).alloc (by simp) _
  have hX0 : Boxes ((w.alloc (.cells #[.int .i64 t, .string k, .bool false] 44)).alloc (.cells #[.int .i64 t, .string ⟨#[]⟩, .bool true] 44)) w.heap.size t k := by
    refine ⟨(Below.heap_alloc _ _ _ (by simp)).trans (heap_alloc_new w _), ?_⟩
    have := heap_alloc_new (w.alloc (.cells #[.int .i64 t, .string k, .bool false] 44)) (.cells #[.int .i64 t, .string ⟨#[]⟩, .bool true] 44)
    rw [World.size_alloc] at this
    exact this
  have hz0 : ((w.alloc (.cells #[.int .i64 t, .string k, .bool false] 44)).alloc (.cells #[.int .i64 t, .string ⟨#[]⟩, .bool true] 44)).heap.size = w.heap.size + 2 := by simp
  have HLT := hid hltT
  clear hltT hn hk
  go_enter Try.func10, Try.ntmps10
  go_wp2_with fail
  generalize (w.alloc (.cells #[.int .i64 t, .string k, .bool false] 44)).alloc (.cells #[.int .i64 t, .string ⟨#[]⟩, .bool true] 44) = W0 at hB0 hX0 hz0 ⊢
  have hA0 := h.below hB0
  obtain ⟨s, hs⟩ : ∃ s, s = w.heap.size := ⟨_, rfl⟩
  rw [← hs] at hX0 hz0 hbw hbmlt ⊢
  have HS := hid hs
  clear hs
  have k0 : W0.cell? ⟨s + 1, 0, none⟩ = some (.int .i64 t) := cell_of_row W0 (s + 1) 0 _ _ _ hX0.b
  have k1 : W0.cell? ⟨s + 1, 1, none⟩ = some (.string ⟨#[]⟩) := cell_of_row W0 (s + 1) 1 _ _ _ hX0.b
  have k2 : W0.cell? ⟨s + 1, 2, none⟩ = some (.bool true) := cell_of_row W0 (s + 1) 2 _ _ _ hX0.b
  have c0 : W0.cell? ⟨b, 0, none⟩ = some (.map (some bm)) := cell_of_row W0 b 0 _ _ _ hA0.blk
  obtain ⟨o, ho⟩ : ∃ o, o = (aget T (tname t)).map fun q => q.1 := ⟨_, rfl⟩
  obtain ⟨O, hO⟩ : ∃ O, O = (aget (heldBy (modelOf T) (tname t)) who).getD 0 := ⟨_, rfl⟩
  have hl1 : ∀ n, (Instr.lookup 39 (.map (some bm)) (.agg #[.int .i64 t, .string ⟨#[]⟩, .bool true]) false).run Try.prog (W0.drewN n) = .ok (.map o) (W0.drewN n) := by
    intro n; rw [ho]; exact lookup_outer hA0 (tname t) ⟨HN.out, empty_le⟩ _ rfl
  have hl2 : ∀ n, (Instr.lookup 45 (.map o) (.int .i64 who) false).run Try.prog (W0.drewN n) = .ok (.int .i64 O) (W0.drewN n) := by
    intro n; rw [ho, hO]; exact lookup_inner hA0 (tname t) who hw _ rfl
  have HO := hid hO
  clear ho hO
  go_quiet (fail)
  have hA1 : LocksT (W0.drewN nq) B b bm T := hA0.below ⟨rfl, rfl, rfl, Nat.le_refl _, fun _ _ => rfl⟩
  have hX1 : Boxes (W0.drewN nq) s t k := ⟨hX0.a, hX0.b⟩
  have hz1 : (W0.drewN nq).heap.size = s + 2 := hz0
  have hB1 : Below w.heap.size w (W0.drewN nq) := hB0.trans ⟨rfl, rfl, rfl, Nat.le_refl _, fun _ _ => rfl⟩
  clear k0 k1 k2 c0 hl1 hl2 hA0 hX0 hz0 hB0
  generalize W0.drewN nq = W1 at hA1 hX1 hz1 hB1 ⊢
  have k0 : W1.cell? ⟨s + 1, 0, none⟩ = some (.int .i64 t) := cell_of_row W1 (s + 1) 0 _ _ _ hX1.b
  have k1 : W1.cell? ⟨s + 1, 1, none⟩ = some (.string ⟨#[]⟩) := cell_of_row W1 (s + 1) 1 _ _ _ hX1.b
  have k2 : W1.cell? ⟨s + 1, 2, none⟩ = some (.bool true) := cell_of_row W1 (s + 1) 2 _ _ _ hX1.b
  have HZ1 := hid hz1
  clear hz1
  have hc1 : Calls Try.prog 14 #[.pointer (some ⟨b, 0, none⟩), .int .i64 who, .agg #[.int .i64 t, .string ⟨#[]⟩, .bool true], .int .i64 2] W1 _ := take_T B b bm T who 2 (tname t) ⟨HN.out, empty_le⟩ hw W1 hA1
  have HC1 := hid hc1
  clear hc1
  have HR1 := hid hr1
  have HR2 := hid hr2
  clear hr1 hr2
  have hoff0 : Off T s := fun p hp => by have := HLT.out p hp; have := HS.out; omega
  have hoff1 : Off T (s + 1) := fun p hp => by have := HLT.out p hp; have := HS.out; omega
  have HF0 := hid hoff0
  have HF1 := hid hoff1
  have n0 : ¬ OfT bm T s := by rintro (h1 | ⟨p, hp, h1⟩); omega; exact hoff0 p hp h1
  have n1 : ¬ OfT bm T (s + 1) := by rintro (h1 | ⟨p, hp, h1⟩); omega; exact hoff1 p hp h1
  have HN0 := hid n0
  have HN1 := hid n1
  clear hoff0 hoff1 n0 n1
  go_wp2_with (first
    | (go_at_call 14; (with_reducible refine HC1.out.mono ?_); rintro e w2 ⟨rfl, T2, h2, e2, t2, o2⟩; rw [HR1.out]; have hX2 := hX1.turns t2 HN0.out HN1.out; have m0 : w2.cell? ⟨s, 0, none⟩ = some (.int .i64 t) := cell_of_row w2 s 0 _ _ _ hX2.a; have m1 : w2.cell? ⟨s, 1, none⟩ = some (.string k) := cell_of_row w2 s 1 _ _ _ hX2.a; have m2 : w2.cell? ⟨s, 2, none⟩ = some (.bool false) := cell_of_row w2 s 2 _ _ _ hX2.a; have E2 := hid e2; have O2 := hid o2; clear e2 o2)
    | (go_at_call 14; have hc2 : Calls Try.prog 14 #[.pointer (some ⟨b, 0, none⟩), .int .i64 who, .agg #[.int .i64 t, .string k, .bool false], .int .i64 3] w2 _ := take_T B b bm T2 who 3 (t, k, false) ⟨HN.out, HK.out⟩ hw w2 h2; refine hc2.mono ?_; clear hc2; rintro e w3 ⟨rfl, T3, h3, e3, t3, o3⟩; have E3 := hid e3; have O3 := hid o3; clear e3 o3; rw [E2.out, show takeS (modelOf T) who (tname t) 2 = takeM (modelOf T) who (tname t) 2 from by (unfold takeS; rw [HR1.out]; rfl), HR2.out]))
  go_ret
  have hTw : ∀ {v : World}, Turns (OfT bm T) W1 v → Turns (fun i => i = bm ∨ B ≤ i) w v := fun u => (Turns.of_below hB1).trans (u.mono fun i _ hi => h.ofT hi)
  have e2' : modelOf T2 = takeM (modelOf T) who (tname t) 2 := by rw [E2.out]; unfold takeS; rw [HR1.out]; rfl
  refine ⟨rfl, T3, h3, ?_, (hTw t2).trans (t3.mono fun i _ hi => h2.ofT hi), ((Keeps.below hB1).trans (Keeps.take t2 O2.out) hB1.size).trans (Keeps.take t3 O3.out) (hTw t2).size⟩
  rw [E3.out, e2']; unfold takeS; rw [HR2.out]; rfl

end Go.Proofs.Yticbmpgcndoncaa
