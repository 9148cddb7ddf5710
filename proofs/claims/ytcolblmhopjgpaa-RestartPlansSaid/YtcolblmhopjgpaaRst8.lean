/-
  Analyse walked.
-/
import Derived.Test.YtcolblmhopjgpaaRst7
namespace Go.Proofs.Ytcolblmhopjgpaa
open Go.RowKit

theorem info42 : (Try.prog.info? 42).map (fun i => (i.zero, i.size, i.bytes)) = some (some (.agg #[.int .i64 0, .int .i64 0, .string ByteArray.empty]), 3, 32) := by kernel_rfl
theorem slotOf_lt (t : Int) : slotOf t < 4 := by unfold slotOf; split <;> omega
theorem slotOf_in {t : Int} (h : 1 ≤ t) (h3 : t ≤ 3) : t = (slotOf t : Int) := by unfold slotOf; rw [if_neg (by omega)]; omega
theorem slotOf_out {t : Int} (h : t < 1 ∨ 3 < t) : slotOf t = 0 := by unfold slotOf; rw [if_pos h]
def plan0 : Array Value := planCells pln0 (fun _ => .slice none 0 0)

theorem heap_set9 {w : World} {X : Nat} {t : TypeId} {a0 a1 a2 a3 a4 a5 a6 a7 a8 b0 b1 b2 b3 b4 b5 b6 b7 b8 : Value} (h : w.heap[X]? = some (.cells #[a0, a1, a2, a3, a4, a5, a6, a7, a8] t (0, 0))) :
    (((((((((w.setCell ⟨X, 0, none⟩ b0).setCell ⟨X, 1, none⟩ b1).setCell ⟨X, 2, none⟩ b2).setCell ⟨X, 3, none⟩ b3).setCell ⟨X, 4, none⟩ b4).setCell ⟨X, 5, none⟩ b5).setCell ⟨X, 6, none⟩ b6).setCell ⟨X, 7, none⟩ b7).setCell ⟨X, 8, none⟩ b8).heap[X]? = some (.cells #[b0, b1, b2, b3, b4, b5, b6, b7, b8] t (0, 0)) := by
  have h0 : (w.setCell ⟨X, 0, none⟩ b0).heap[X]? = some (.cells #[b0, a1, a2, a3, a4, a5, a6, a7, a8] t (0, 0)) := by
    have := heap_setCell_same w X 0 _ t b0 h
    simpa using this
  generalize w.setCell ⟨X, 0, none⟩ b0 = w1 at h0 ⊢
  have h1 : (w1.setCell ⟨X, 1, none⟩ b1).heap[X]? = some (.cells #[b0, b1, a2, a3, a4, a5, a6, a7, a8] t (0, 0)) := by
    have := heap_setCell_same w1 X 1 _ t b1 h0
    simpa using this
  generalize w1.setCell ⟨X, 1, none⟩ b1 = w2 at h1 ⊢
  have h2 : (w2.setCell ⟨X, 2, none⟩ b2).heap[X]? = some (.cells #[b0, b1, b2, a3, a4, a5, a6, a7, a8] t (0, 0)) := by
    have := heap_setCell_same w2 X 2 _ t b2 h1
    simpa using this
  generalize w2.setCell ⟨X, 2, none⟩ b2 = w3 at h2 ⊢
  have h3 : (w3.setCell ⟨X, 3, none⟩ b3).heap[X]? = some (.cells #[b0, b1, b2, b3, a4, a5, a6, a7, a8] t (0, 0)) := by
    have := heap_setCell_same w3 X 3 _ t b3 h2
    simpa using this
  generalize w3.setCell ⟨X, 3, none⟩ b3 = w4 at h3 ⊢
  have h4 : (w4.setCell ⟨X, 4, none⟩ b4).heap[X]? = some (.cells #[b0, b1, b2, b3, b4, a5, a6, a7, a8] t (0, 0)) := by
    have := heap_setCell_same w4 X 4 _ t b4 h3
    simpa using this
  generalize w4.setCell ⟨X, 4, none⟩ b4 = w5 at h4 ⊢
  have h5 : (w5.setCell ⟨X, 5, none⟩ b5).heap[X]? = some (.cells #[b0, b1, b2, b3, b4, b5, a6, a7, a8] t (0, 0)) := by
    have := heap_setCell_same w5 X 5 _ t b5 h4
    simpa using this
  generalize w5.setCell ⟨X, 5, none⟩ b5 = w6 at h5 ⊢
  have h6 : (w6.setCell ⟨X, 6, none⟩ b6).heap[X]? = some (.cells #[b0, b1, b2, b3, b4, b5, b6, a7, a8] t (0, 0)) := by
    have := heap_setCell_same w6 X 6 _ t b6 h5
    simpa using this
  generalize w6.setCell ⟨X, 6, none⟩ b6 = w7 at h6 ⊢
  have h7 : (w7.setCell ⟨X, 7, none⟩ b7).heap[X]? = some (.cells #[b0, b1, b2, b3, b4, b5, b6, b7, a8] t (0, 0)) := by
    have := heap_setCell_same w7 X 7 _ t b7 h6
    simpa using this
  generalize w7.setCell ⟨X, 7, none⟩ b7 = w8 at h7 ⊢
  have h8 : (w8.setCell ⟨X, 8, none⟩ b8).heap[X]? = some (.cells #[b0, b1, b2, b3, b4, b5, b6, b7, b8] t (0, 0)) := by
    have := heap_setCell_same w8 X 8 _ t b8 h7
    simpa using this
  generalize w8.setCell ⟨X, 8, none⟩ b8 = w9 at h8 ⊢
  exact h8
theorem own_set1 {w : World} {B X : Nat} {v : Value} {n : Nat} {xs : List Value} {e : TypeId} {s : Nat} (h : w.ownsRow B e s v n xs) (hne : v.ownBlock ≠ some X) (o : Nat) (u : Value) : (w.setCell ⟨X, o, none⟩ u).ownsRow B e s v n xs :=
  h.kept (row := some X) ⟨rfl, rfl, rfl, by simp, fun k _ hk => heap_setCell_other w ⟨X, o, none⟩ k u (fun e => hk (by simp [e]))⟩ (.inr hne)
theorem own_kept9 {w : World} {B X : Nat} {v : Value} {n : Nat} {xs : List Value} {e : TypeId} {s : Nat} (h : w.ownsRow B e s v n xs) (hne : v.ownBlock ≠ some X) (b0 b1 b2 b3 b4 b5 b6 b7 b8 : Value) :
    (((((((((w.setCell ⟨X, 0, none⟩ b0).setCell ⟨X, 1, none⟩ b1).setCell ⟨X, 2, none⟩ b2).setCell ⟨X, 3, none⟩ b3).setCell ⟨X, 4, none⟩ b4).setCell ⟨X, 5, none⟩ b5).setCell ⟨X, 6, none⟩ b6).setCell ⟨X, 7, none⟩ b7).setCell ⟨X, 8, none⟩ b8).ownsRow B e s v n xs := own_set1 (own_set1 (own_set1 (own_set1 (own_set1 (own_set1 (own_set1 (own_set1 (own_set1 h hne _ _) hne _ _) hne _ _) hne _ _) hne _ _) hne _ _) hne _ _) hne _ _) hne _ _
theorem size32 : (Try.prog.info? 32).map (·.size) = some 9 := by kernel_rfl

/-- an entry's step on its own number -/
theorem Pln.step_of (p : Pln) (e : Ent) (h : e.kd ≠ 7) : p.step e = ⟨p.fr, fun n => if n = slotOf e.tx then (p.s n).step e else p.s n⟩ := by
  unfold Pln.step; rw [if_neg h]

theorem since_at (pl kd tx pg sl : Int) (bf af im : ByteArray) (A : Option Addr) (n c : Nat) (dl : List Int) (w : World) (hd : DirtyAt w ⟨pl, kd, tx, pg, sl, bf, af, im, .slice A n c, dl⟩) :
    Calls Try.prog 16 #[.agg #[.int .u64 pl, .int .i64 kd, .int .i64 tx, .int .i64 pg, .int .i64 sl, .string bf, .string af, .string im, .slice A n c]] w fun r w' => r = .returned (.int .u64 (leastOf pl dl)) ∧ Below w.heap.size w w' :=
  since_any ⟨pl, kd, tx, pg, sl, bf, af, im, .slice A n c, dl⟩ w hd

theorem Pln.step_mark (p : Pln) (e : Ent) (h : e.kd = 7) : p.step e = ⟨leastOf e.pl e.dl, p.s⟩ := if_pos h
theorem grown_refl (w : World) (r : Option Nat) : w.grownBy w r := ⟨rfl, rfl, rfl, Nat.le_refl _, fun _ _ _ => rfl⟩
theorem One.step_end {s : One} {e : Ent} (h : e.kd = 5 ∨ e.kd = 6) : s.step e = ⟨[], false⟩ := by
  unfold One.step
  rw [if_neg (by omega), if_neg (by omega), if_pos h]
theorem One.step_undo {s : One} {e : Ent} (h : e.kd = 4) : s.step e = ⟨s.l.dropLast, s.o⟩ := by
  unfold One.step
  rw [if_neg (by omega), if_pos h]
theorem One.step_more {s : One} {e : Ent} (h : e.kd = 2 ∨ e.kd = 3) : s.step e = ⟨s.l ++ [e.chg], true⟩ := if_pos h
theorem One.step_none {s : One} {e : Ent} (h1 : ¬ (e.kd = 2 ∨ e.kd = 3)) (h2 : e.kd ≠ 4) (h3 : ¬ (e.kd = 5 ∨ e.kd = 6)) : s.step e = s := by
  unfold One.step
  rw [if_neg h1, if_neg h2, if_neg h3]
theorem chgs_snoc (l : List Chg) (c : Chg) : chgs (l ++ [c]) = chgs l ++ c.cells := by
  unfold chgs; rw [List.flatMap_append]; simp
theorem chgs_length (l : List Chg) : (chgs l).length = l.length * 3 := by
  induction l with
  | nil => rfl
  | cons c l ih =>
    show (Chg.cells c ++ chgs l).length = _
    rw [List.length_append, ih]; simp [Chg.cells]; omega

theorem plan_more {w wc w1 : World} {V : Nat → Value} {p : Pln} {k nk ck2 gg cap : Nat} {Ak : Option Addr} {pg sl : Int} {bf : ByteArray} {xs : List Value} {o : Obj} (HP : PlanAt w.heap.size wc (w.heap.size + 1) V p) (hk4 : k < 4)
    (hV : V k = .slice Ak nk ck2) (hn : nk = (p.s k).l.length) (hxs : xs = chgs (p.s k).l) (HB : Below w.heap.size w wc) (HR : wc.heap[w.heap.size]? = some (.cells plan0 32 (0, 0)))
    (hgrow : (wc.alloc o).drew.grownBy w1 (Value.slice Ak nk ck2).ownBlock)
    (hown1 : w1.ownsRow w.heap.size 42 3 (.slice (some ⟨gg, 0, none⟩) (nk + 1) cap) (nk + 1) (xs ++ [.int .i64 pg, .int .i64 sl, .string bf])) (hat : (Value.slice Ak nk ck2).ownBlock = some gg ∨ gg = wc.heap.size + 1) :
    PlanAt w.heap.size ((w1.setCell ⟨w.heap.size + 1, 1 + k, none⟩ (.slice (some ⟨gg, 0, none⟩) (nk + 1) cap)).setCell ⟨w.heap.size + 1, 5 + k, none⟩ (.bool true)) (w.heap.size + 1)
      (fun i => if i = k then .slice (some ⟨gg, 0, none⟩) (nk + 1) cap else V i) ⟨p.fr, fun i => if i = k then ⟨(p.s k).l ++ [⟨pg, sl, bf⟩], true⟩ else p.s i⟩ ∧
    Below w.heap.size w ((w1.setCell ⟨w.heap.size + 1, 1 + k, none⟩ (.slice (some ⟨gg, 0, none⟩) (nk + 1) cap)).setCell ⟨w.heap.size + 1, 5 + k, none⟩ (.bool true)) ∧
    ((w1.setCell ⟨w.heap.size + 1, 1 + k, none⟩ (.slice (some ⟨gg, 0, none⟩) (nk + 1) cap)).setCell ⟨w.heap.size + 1, 5 + k, none⟩ (.bool true)).heap[w.heap.size]? = some (.cells plan0 32 (0, 0)) := by
  have hlt := HP.lt
  have hown := HP.own k hk4
  rw [hV, ← hn] at hown
  have hgr : wc.grownBy w1 (V k).ownBlock := by
    rw [hV]
    exact ⟨hgrow.os, hgrow.tape, hgrow.output, Nat.le_trans (by simp) hgrow.size, fun j hj hne => (hgrow.block j (by simp; omega) hne).trans (Below.heap_alloc wc o j hj)⟩
  have hbW : Below w.heap.size w (wc.alloc o).drew := (B_alloc HB o).drew
  have hb1 : Below w.heap.size w w1 := hbW.grown hgrow hbW.size fun j hj => (hown.lt j hj).1
  refine ⟨HP.put hk4 true hgr ?_ ?_, B_set (B_set hb1 (Nat.le_succ _) _) (Nat.le_succ _) _, ?_⟩
  · rw [List.length_append, ← hn, chgs_snoc, ← hxs]
    exact hown1
  · rcases hat with hat | hat
    · exact .inr (.inl (by rw [hV]; exact hat.symm))
    · exact .inr (.inr ⟨gg, rfl, by omega⟩)
  · exact (Below.heap_setCell _ _ _ _ (by show _ ≠ w.heap.size + 1; omega)).trans ((Below.heap_setCell _ _ _ _ (by show _ ≠ w.heap.size + 1; omega)).trans
      ((hgrow.block _ (by simp; omega) (Ne.symm (own_ne hown HR (by decide)))).trans (blk_alloc_drew HR)))

set_option maxRecDepth 100000 in
set_option maxHeartbeats 3200000 in
theorem analyse_any (A : Option Addr) (n cap : Nat) (es : List Ent) (w : World) (hn : es.length = n) (hlen : n ≤ 1000) (hrow : RowsAt w A es) :
    Calls Try.prog 12 #[.slice A n cap] w fun r w' => (∃ V : Nat → Value, r = .returned (.agg (planCells ⟨(planOf es).fr, fun i => if i = 0 then ⟨[], false⟩ else (planOf es).s i⟩ (fun i => if i = 0 then .slice none 0 0 else V i))) ∧
      (∀ i, 1 ≤ i → i < 4 → w'.ownsRow w.heap.size 42 3 (V i) ((planOf es).s i).l.length (chgs ((planOf es).s i).l))) ∧ Below w.heap.size w w' := by
  obtain ⟨i0, hi, hz0, hz1, hz2⟩ := info_parts info42
  have HN := hid hn
  have HROW := hid hrow
  clear hn hrow
  go_enter Try.func12, Try.ntmps12
  go_wp2
  generalize hW : (w.alloc _).alloc _ = W
  have hb : Below w.heap.size w W := by rw [← hW]; exact B_alloc (B_alloc (Below.refl _ _) _) _
  have hres : W.heap[w.heap.size]? = some (.cells plan0 32 (0, 0)) := by
    rw [← hW, Below.heap_alloc _ _ _ (by simp), heap_alloc_new]; rfl
  have hplan : PlanAt w.heap.size W (w.heap.size + 1) (fun _ => .slice none 0 0) pln0 := by
    refine ⟨?_, fun i _ => World.ownsRow_nil _ _ _ _, fun _ _ _ _ _ => .inl rfl⟩
    rw [← hW]
    exact new_at _ _ _
  clear hW
  go_loopw [10] (fun u wr => ∃ (k : Nat) (V : Nat → Value), k ≤ n ∧ u = .int .i64 k ∧ PlanAt w.heap.size wr (w.heap.size + 1) V (planOf (es.take k)) ∧ Below w.heap.size w wr ∧ wr.heap[w.heap.size]? = some (.cells plan0 32 (0, 0))) (fun u _ => ((n : Int) - intOf u).toNat)
  case atStart => exact ⟨0, _, by omega, rfl, hplan, hb, hres⟩
  case round =>
    obtain ⟨i, V, hile, rfl, hP, hbl, hres⟩ := hrel
    by_cases hlt : i < n
    · obtain ⟨b, off, hA, hE, hD⟩ := HROW.out i (by rw [HN.out]; exact hlt)
      subst hA
      have hE2 := hE.below hbl
      have hD2 := hD.below hbl
      have hstep := planOf_take es i (by rw [HN.out]; exact hlt)
      have hlen2 := fun k => planOf_len (es.take i) k
      rw [List.length_take, HN.out, Nat.min_eq_left (by omega)] at hlen2
      clear hE hD
      obtain ⟨e, he⟩ : ∃ e, e = es[i]'(by rw [HN.out]; exact hlt) := ⟨_, rfl⟩
      rw [← he] at hE2 hD2 hstep
      clear he
      obtain ⟨A1, n1, c1, hdv⟩ := hD2.slice
      obtain ⟨a0, a1, a2, a3, a4, a5, a6, a7, a8⟩ := hE2
      obtain ⟨pl, kd, tx, pg, sl, bf, af, im, dv, dl⟩ := e
      simp only at hdv a0 a1 a2 a3 a4 a5 a6 a7 a8
      subst hdv
      have HST := hid hstep
      have HL := hid hlen2
      clear hstep hlen2
      go_upto_region 6 with fail
      have hAB : Below wr.heap.size wr (wr.alloc (.cells #[.int .u64 pl, .int .i64 kd, .int .i64 tx, .int .i64 pg, .int .i64 sl, .string bf, .string af, .string im, .slice A1 n1 c1] 40)) := B_alloc (Below.refl _ _) _
      have hgb := heap_alloc_new wr (.cells #[.int .u64 pl, .int .i64 kd, .int .i64 tx, .int .i64 pg, .int .i64 sl, .string bf, .string af, .string im, .slice A1 n1 c1] 40)
      generalize wr.alloc (.cells #[.int .u64 pl, .int .i64 kd, .int .i64 tx, .int .i64 pg, .int .i64 sl, .string bf, .string af, .string im, .slice A1 n1 c1] 40) = W2 at hAB hgb ⊢
      have hP := hP.below hAB
      have hD := hD2.below hAB
      have hbl2 := B_call hbl hAB
      have hres2 := blk_keep hAB hres
      obtain ⟨B1, hB1⟩ : ∃ B1, B1 = wr.heap.size := ⟨_, rfl⟩
      rw [← hB1] at hgb ⊢
      clear hB1 hAB hD2 a0 a1 a2 a3 a4 a5 a6 a7 a8 hres hbl
      have HP := hid hP
      have HD := hid hD
      have HB := hid hbl2
      have HR := hid hres2
      clear hP hD hbl2 hres2
      go_cut [22] (fun s wx => s = .bool (decide (tx < 1 ∨ 3 < tx)) ∧ wx = W2)
      case first =>
        by_cases h1 : tx < 1
        · have d1 : decide (tx < 1) = true := by simpa using h1
          go_wp2_with fail
          go_meet
          exact ⟨by simp [h1], rfl⟩
        · have d1 : decide (tx < 1) = false := by simpa using h1
          by_cases h2 : 3 < tx
          · have d2 : decide (3 < tx) = true := by simpa using h2
            go_wp2_with fail
            go_meet
            exact ⟨by simp [h2], rfl⟩
          · have d2 : decide (3 < tx) = false := by simpa using h2
            go_wp2_with fail
            go_meet
            exact ⟨by simp [h1, h2], rfl⟩
      case rest =>
        obtain ⟨rfl, rfl⟩ := hcut
        obtain ⟨k, hk⟩ : ∃ k, k = slotOf tx := ⟨_, rfl⟩
        have hk4 : k < 4 := by rw [hk]; exact slotOf_lt tx
        go_upto_if 22 with fail
        go_cut [6] (fun s wx => s = .int .i64 (k : Int) ∧ wx = wc)
        case first =>
          by_cases h : tx < 1 ∨ 3 < tx
          · have d1 : decide (tx < 1 ∨ 3 < tx) = true := by simpa using h
            go_wp2_with fail
            go_meet
            exact ⟨by rw [hk, slotOf_out h]; rfl, rfl⟩
          · have d1 : decide (tx < 1 ∨ 3 < tx) = false := by simpa using h
            go_wp2_with fail
            go_meet
            exact ⟨by rw [hk, ← slotOf_in (by omega) (by omega)], rfl⟩
        case rest =>
          obtain ⟨rfl, rfl⟩ := hcut
          have x1 : wc.cell? ⟨B1, 1, none⟩ = some (.int .i64 kd) := cell_of_row wc _ 1 _ _ _ hgb
          have ck := HP.out.cell hk4
          have fk := HP.out.frozen (1 + k)
          obtain ⟨Ak, ck2, hVk⟩ := own_slice (HP.out.own k hk4)
          obtain ⟨nk, hnk⟩ : ∃ nk, nk = ((planOf (es.take i)).s k).l.length := ⟨_, rfl⟩
          rw [← hnk] at hVk
          have hnk2 : nk ≤ i := by rw [hnk]; exact HL.out k
          have HK := hid hk
          have HVK := hid hVk
          have HNK := hid hnk
          rw [hVk] at ck
          clear hk hVk hnk
          by_cases h7 : kd = 7
          · subst h7
            have x0 : wc.cell? ⟨B1, 0, none⟩ = some (.int .u64 pl) := cell_of_row wc _ 0 _ _ _ hgb
            have x2 : wc.cell? ⟨B1, 2, none⟩ = some (.int .i64 tx) := cell_of_row wc _ 2 _ _ _ hgb
            have x3 : wc.cell? ⟨B1, 3, none⟩ = some (.int .i64 pg) := cell_of_row wc _ 3 _ _ _ hgb
            have x4 : wc.cell? ⟨B1, 4, none⟩ = some (.int .i64 sl) := cell_of_row wc _ 4 _ _ _ hgb
            have x5 : wc.cell? ⟨B1, 5, none⟩ = some (.string bf) := cell_of_row wc _ 5 _ _ _ hgb
            have x6 : wc.cell? ⟨B1, 6, none⟩ = some (.string af) := cell_of_row wc _ 6 _ _ _ hgb
            have x7 : wc.cell? ⟨B1, 7, none⟩ = some (.string im) := cell_of_row wc _ 7 _ _ _ hgb
            have x8 : wc.cell? ⟨B1, 8, none⟩ = some (.slice A1 n1 c1) := cell_of_row wc _ 8 _ _ _ hgb
            go_wp2_with (go_at_call 16; (with_reducible refine (since_at pl 7 tx pg sl bf af im A1 n1 c1 dl _ HD.out).mono ?_); rintro r w1 ⟨rfl, hb1⟩; have hP1 := HP.out.below hb1; have g0 := hP1.from; have e0 := hP1.frozen 0)
            go_roundw
            case rel =>
              refine ⟨i + 1, V, by omega, by go_num, ?_, ?_, ?_⟩
              · rw [HST.out, Pln.step_mark _ _ rfl]
                exact hP1.putF _
              · exact B_set (B_call HB.out hb1) (Nat.le_succ _) _
              · exact (Below.heap_setCell _ _ _ _ (by show _ ≠ w.heap.size + 1; omega)).trans (blk_keep hb1 HR.out)
            case measure => simp [intOf]; omega
          · by_cases h56 : kd = 5 ∨ kd = 6
            · have cok := HP.out.opn hk4
              have fok := HP.out.frozen (5 + k)
              have hk0 : (k : Int) < 4 := by omega
              have hfin := HP.out.put hk4 (v := .slice none 0 0) (l := []) false (grown_refl _ _) (World.ownsRow_nil _ _ _ _) (.inl rfl)
              have HF := hid hfin
              clear hfin
              rcases h56 with rfl | rfl
              all_goals
                go_wp2_with fail
                go_roundw
                case rel =>
                  refine ⟨i + 1, fun j => if j = k then .slice none 0 0 else V j, by omega, by go_num, ?_, ?_, ?_⟩
                  · rw [HST.out, Pln.step_of _ _ h7]
                    refine HF.out.congr (fun _ _ => rfl) rfl fun j _ => ?_
                    dsimp only
                    rw [HK.out]
                    split
                    · rw [One.step_end (by simp)]
                    · rfl
                  · exact B_set (B_set HB.out (Nat.le_succ _) _) (Nat.le_succ _) _
                  · exact (Below.heap_setCell _ _ _ _ (by show _ ≠ w.heap.size + 1; omega)).trans ((Below.heap_setCell _ _ _ _ (by show _ ≠ w.heap.size + 1; omega)).trans HR.out)
                case measure => simp [intOf]; omega
            · by_cases h4 : kd = 4
              · subst h4
                by_cases hz : nk = 0
                · subst hz
                  go_wp2_with fail
                  go_roundw
                  case rel =>
                    refine ⟨i + 1, V, by omega, by go_num, ?_, HB.out, HR.out⟩
                    rw [HST.out, Pln.step_of _ _ h7]
                    refine HP.out.congr (fun _ _ => rfl) rfl fun j _ => ?_
                    dsimp only
                    split
                    · rename_i hj
                      rw [One.step_undo rfl, hj, ← HK.out]
                      have h0 := HNK.out
                      rw [show ((planOf (es.take i)).s k).l.dropLast = ((planOf (es.take i)).s k).l by rw [List.eq_nil_of_length_eq_zero h0.symm]; rfl]
                    · rfl
                  case measure => simp [intOf]; omega
                · obtain ⟨m, rfl⟩ : ∃ m, nk = m + 1 := ⟨nk - 1, by omega⟩
                  have hown := HP.out.own k hk4
                  rw [← HNK.out, HVK.out] at hown
                  obtain ⟨gk, cap2, hf, _, _⟩ := hown.form (by omega)
                  have hcap : m + 1 ≤ ck2 := by
                    rcases hown.2 with ⟨_, h0⟩ | ⟨_, _, _, hv, _, _, hle, _⟩
                    · omega
                    · injection hv with _ _ hv; omega
                  injection hf with hf _ hcc
                  subst hf hcc
                  have hne : ((planOf (es.take i)).s k).l ≠ [] := by
                    intro h0
                    have := HNK.out
                    rw [h0] at this; simp at this
                  have hdl : ((planOf (es.take i)).s k).l.dropLast.length = m := by rw [List.length_dropLast, ← HNK.out, Nat.add_sub_cancel]
                  have hpop : wc.ownsRow w.heap.size 42 3 (.slice (some ⟨gk, 0, none⟩) m ck2) ((planOf (es.take i)).s k).l.dropLast.length (chgs ((planOf (es.take i)).s k).l.dropLast) := by
                    rw [hdl]
                    rw [← List.dropLast_concat_getLast hne, chgs_snoc] at hown
                    exact ownsRow_pop (by rw [chgs_length, hdl]) hown
                  have HPOP := hid hpop
                  clear hown hpop hne hdl
                  have HC := hid hcap
                  have hd0 : decide ((0 : Int) < ((m + 1 : Nat) : Int)) = true := by simp
                  go_wp2_with fail
                  refine ⟨⟨i + 1, fun j => if j = k then .slice (some ⟨gk, 0, none⟩) m ck2 else V j, by omega, by go_num, ?_, ?_, ?_⟩, ?_⟩
                  · rw [HST.out, Pln.step_of _ _ h7]
                    refine (HP.out.putL hk4 (grown_refl _ _) HPOP.out (.inr (.inl (by rw [HVK.out]; rfl)))).congr (fun _ _ => rfl) rfl fun j _ => ?_
                    dsimp only
                    rw [HK.out]
                    split
                    · rename_i hj
                      rw [One.step_undo rfl, hj]
                    · rfl
                  · exact B_set HB.out (Nat.le_succ _) _
                  · exact (Below.heap_setCell _ _ _ _ (by show _ ≠ w.heap.size + 1; omega)).trans HR.out
                  · simp [intOf]; omega
              · by_cases h23 : kd = 2 ∨ kd = 3
                · have cok := HP.out.opn hk4
                  have fok := HP.out.frozen (5 + k)
                  have x3 : wc.cell? ⟨B1, 3, none⟩ = some (.int .i64 pg) := cell_of_row wc _ 3 _ _ _ hgb
                  have x4 : wc.cell? ⟨B1, 4, none⟩ = some (.int .i64 sl) := cell_of_row wc _ 4 _ _ _ hgb
                  have x5 : wc.cell? ⟨B1, 5, none⟩ = some (.string bf) := cell_of_row wc _ 5 _ _ _ hgb
                  have hown := HP.out.own k hk4
                  rw [← HNK.out, HVK.out] at hown
                  obtain ⟨xs, hxs⟩ : ∃ xs, xs = chgs ((planOf (es.take i)).s k).l := ⟨_, rfl⟩
                  rw [← hxs] at hown
                  have HXS := hid hxs
                  clear hxs
                  have hk0 : (0 : Int) ≤ (k : Int) := by omega
                  have hk1 : (k : Int) < 4 := by omega
                  have hne := HP.out.ne hk4
                  rw [HVK.out] at hne
                  have hlP := HP.out.lt
                  have hlB := World.block_lt_of_cell? _ _ x1
                  have hnB : (Value.slice Ak nk ck2).ownBlock ≠ some B1 := own_ne hown hgb (by decide)
                  have hbs := HB.out.size
                  have cka : (wc.alloc (.cells #[.int .i64 pg, .int .i64 sl, .string bf] 42)).cell? ⟨w.heap.size + 1, 1 + k, none⟩ = some (.slice Ak nk ck2) := cell_alloc ck
                  have hgB : w.heap.size + 1 ≠ B1 := by
                    intro h
                    have := HP.out.blk
                    rw [h, hgb] at this
                    injection this with this
                    injection this with _ this
                    exact absurd this (by decide)
                  rcases h23 with rfl | rfl
                  all_goals
                    go_wp2_with fail
                    refine wp_region_noPanic ?_
                    refine wp_region_held_drew (S := (fun w' => w'.cell? ⟨B1, 3, none⟩ = some (.int .i64 pg) ∧ w'.cell? ⟨B1, 4, none⟩ = some (.int .i64 sl) ∧ w'.cell? ⟨B1, 5, none⟩ = some (.string bf))) (by kernel_rfl) ⟨x3, x4, x5⟩ (fun hHeld => ?_)
                    refine wpAnyH_take (i := 0) (oi := _) (v := ?_) rfl (by kernel_rfl) (by kernel_rfl) (by kernel_rfl) (fun _ _ _ h => h) (Or.inl ⟨by rfl, ?_⟩) (by assumption) ?_
                    rotate_left
                    · (intro w hSw; (try dsimp only at hSw); go_simp; try with_reducible rfl)
                    try simp only [Act.put, List.setIfInBounds_toArray, List.set_cons_zero, List.set_cons_succ]
                    refine wpAnyH_take (i := 1) (oi := _) (v := ?_) rfl (by kernel_rfl) (by kernel_rfl) (by kernel_rfl) (fun _ _ _ h => h) (Or.inl ⟨by rfl, ?_⟩) (by assumption) ?_
                    rotate_left
                    · (intro w hSw; (try dsimp only at hSw); go_simp; try with_reducible rfl)
                    try simp only [Act.put, List.setIfInBounds_toArray, List.set_cons_zero, List.set_cons_succ]
                    refine wpAnyH_take (i := 2) (oi := _) (v := ?_) rfl (by kernel_rfl) (by kernel_rfl) (by kernel_rfl) (fun _ _ _ h => h) (Or.inl ⟨by rfl, ?_⟩) (by assumption) ?_
                    rotate_left
                    · (intro w hSw; (try dsimp only at hSw); go_simp; try with_reducible rfl)
                    try simp only [Act.put, List.setIfInBounds_toArray, List.set_cons_zero, List.set_cons_succ]
                    refine wpAnyH_take (i := 3) (oi := _) (v := ?_) rfl (by kernel_rfl) (by kernel_rfl) (by kernel_rfl) (fun _ _ _ h => h) (Or.inl ⟨by rfl, ?_⟩) (by assumption) ?_
                    rotate_left
                    · (intro w hSw; (try dsimp only at hSw); go_simp; try with_reducible rfl)
                    try simp only [Act.put, List.setIfInBounds_toArray, List.set_cons_zero, List.set_cons_succ]
                    refine wpAnyH_take (i := 4) (oi := _) (v := ?_) rfl (by kernel_rfl) (by kernel_rfl) (by kernel_rfl) (fun _ _ _ h => h) (Or.inl ⟨by rfl, ?_⟩) (by assumption) ?_
                    rotate_left
                    · (intro w hSw; (try dsimp only at hSw); go_simp; try with_reducible rfl)
                    try simp only [Act.put, List.setIfInBounds_toArray, List.set_cons_zero, List.set_cons_succ]
                    refine wpAnyH_take (i := 6) (oi := _) (v := ?_) rfl (by kernel_rfl) (by kernel_rfl) (by kernel_rfl) (fun _ _ _ h => h) (Or.inl ⟨by rfl, ?_⟩) (by assumption) ?_
                    rotate_left
                    · (intro w hSw; (try dsimp only at hSw); go_simp; try with_reducible rfl)
                    try simp only [Act.put, List.setIfInBounds_toArray, List.set_cons_zero, List.set_cons_succ]
                    refine wpAnyH_take (i := 7) (oi := _) (v := ?_) rfl (by kernel_rfl) (by kernel_rfl) (by kernel_rfl) (fun _ _ _ h => h) (Or.inl ⟨by rfl, ?_⟩) (by assumption) ?_
                    rotate_left
                    · (intro w hSw; (try dsimp only at hSw); go_simp; try with_reducible rfl)
                    try simp only [Act.put, List.setIfInBounds_toArray, List.set_cons_zero, List.set_cons_succ]
                    refine wpAnyH_take (i := 8) (oi := _) (v := ?_) rfl (by kernel_rfl) (by kernel_rfl) (by kernel_rfl) (fun _ _ _ h => h) (Or.inl ⟨by rfl, ?_⟩) (by assumption) ?_
                    rotate_left
                    · (intro w hSw; (try dsimp only at hSw); go_simp; try with_reducible rfl)
                    try simp only [Act.put, List.setIfInBounds_toArray, List.set_cons_zero, List.set_cons_succ]
                    refine wpAnyH_take (i := 9) (oi := _) (v := ?_) rfl (by kernel_rfl) (by kernel_rfl) (by kernel_rfl) (fun _ _ _ h => h) (Or.inl ⟨by rfl, ?_⟩) (by assumption) ?_
                    rotate_left
                    · (intro w hSw; (try dsimp only at hSw); go_simp; try with_reducible rfl)
                    try simp only [Act.put, List.setIfInBounds_toArray, List.set_cons_zero, List.set_cons_succ]
                    refine wpAnyH_take (i := 10) (oi := _) (v := ?_) rfl (by kernel_rfl) (by kernel_rfl) (by kernel_rfl) (fun _ _ _ h => h) (Or.inl ⟨by rfl, ?_⟩) (by assumption) ?_
                    rotate_left
                    · (intro w hSw; (try dsimp only at hSw); go_simp; try with_reducible rfl)
                    try simp only [Act.put, List.setIfInBounds_toArray, List.set_cons_zero, List.set_cons_succ]
                    refine wpAnyH_take (i := 11) (oi := _) (v := ?_) rfl (by kernel_rfl) (by kernel_rfl) (by kernel_rfl) (fun _ _ _ h => h) (Or.inl ⟨by rfl, ?_⟩) (by assumption) ?_
                    rotate_left
                    · (intro w hSw; (try dsimp only at hSw); go_simp; try with_reducible rfl)
                    try simp only [Act.put, List.setIfInBounds_toArray, List.set_cons_zero, List.set_cons_succ]
                    refine wpAnyH_take (i := 12) (oi := _) (v := ?_) rfl (by kernel_rfl) (by kernel_rfl) (by kernel_rfl) (fun _ _ _ h => h) (Or.inl ⟨by rfl, ?_⟩) (by assumption) ?_
                    rotate_left
                    · (intro w hSw; (try dsimp only at hSw); go_simp; try with_reducible rfl)
                    try simp only [Act.put, List.setIfInBounds_toArray, List.set_cons_zero, List.set_cons_succ]
                    refine wpAnyH_take (i := 13) (oi := _) (v := ?_) rfl (by kernel_rfl) (by kernel_rfl) (by kernel_rfl) (fun _ _ _ h => h) (Or.inl ⟨by rfl, ?_⟩) (by assumption) ?_
                    rotate_left
                    · (intro w hSw; (try dsimp only at hSw); go_simp; try with_reducible rfl)
                    try simp only [Act.put, List.setIfInBounds_toArray, List.set_cons_zero, List.set_cons_succ]
                    refine wpAnyH_take (i := 14) (oi := _) (v := ?_) rfl (by kernel_rfl) (by kernel_rfl) (by kernel_rfl) (fun _ _ _ h => h) (Or.inl ⟨by rfl, ?_⟩) (by assumption) ?_
                    rotate_left
                    · (intro w hSw; (try dsimp only at hSw); go_simp; try with_reducible rfl)
                    try simp only [Act.put, List.setIfInBounds_toArray, List.set_cons_zero, List.set_cons_succ]
                    refine wpAnyH_take (i := 15) (oi := _) (v := ?_) rfl (by kernel_rfl) (by kernel_rfl) (by kernel_rfl) (fun _ _ _ h => h) (Or.inl ⟨by rfl, ?_⟩) (by assumption) ?_
                    rotate_left
                    · (intro w hSw; (try dsimp only at hSw); go_simp; try with_reducible rfl)
                    try simp only [Act.put, List.setIfInBounds_toArray, List.set_cons_zero, List.set_cons_succ]
                    refine wpAnyH_take (i := 18) (oi := _) (v := ?_) rfl (by kernel_rfl) (by kernel_rfl) (by kernel_rfl) (fun _ _ _ h => h) (Or.inl ⟨by rfl, ?_⟩) (by assumption) ?_
                    rotate_left
                    · (intro w hSw; (try dsimp only at hSw); go_simp; try with_reducible rfl)
                    try simp only [Act.put, List.setIfInBounds_toArray, List.set_cons_zero, List.set_cons_succ]
                    refine wpAnyH_take (i := 21) (oi := _) (v := ?_) rfl (by kernel_rfl) (by kernel_rfl) (by kernel_rfl) (fun _ _ _ h => h) (Or.inl ⟨by rfl, ?_⟩) (by assumption) ?_
                    rotate_left
                    · (intro w hSw; (try dsimp only at hSw); go_simp; try with_reducible rfl)
                    try simp only [Act.put, List.setIfInBounds_toArray, List.set_cons_zero, List.set_cons_succ]
                    refine wpAnyH_ready (rs := [5, 16]) (by kernel_rfl) (by simp) ?_
                    refine AllReadyH.cons (o := _) rfl (fun K hK => ?_) ?_
                    · go_simp
                      refine hK.out _ _ ⟨x3, x4, x5⟩ (fun hHeld => ?_)
                      clear hK K
                      try simp only [Act.put, List.setIfInBounds_toArray, List.set_cons_zero, List.set_cons_succ]
                      refine wpAnyH_ready (rs := [16]) (by kernel_rfl) (by simp) ?_
                      refine AllReadyH.cons (o := _) rfl (fun K hK => ?_) AllReadyH.nil
                      go_simp
                      refine hK.out _ _ ⟨cell_alloc x3, cell_alloc x4, cell_alloc x5⟩ (fun hHeld => ?_)
                      clear hK K
                      try simp only [Act.put, List.setIfInBounds_toArray, List.set_cons_zero, List.set_cons_succ]
                      refine wpAnyH_ready (rs := [17]) (by kernel_rfl) (by simp) ?_
                      refine AllReadyH.cons (o := _) rfl (fun K hK => ?_) AllReadyH.nil
                      refine step_append_lies _ (by rfl) _ _ _ (by rfl) w.heap.size 42 i0 _ 3 32 Try.underlying28 hi hz0 hz1 hz2 rfl (by omega) (.slice Ak nk ck2) nk xs (by rfl) ((hown.alloc _).drew)
                        ⟨wc.heap.size, 0, none⟩ 1 1 [.int .i64 pg, .int .i64 sl, .string bf] (by rfl) (by rfl) (World.news_of_block (cs := #[.int .i64 pg, .int .i64 sl, .string bf]) (t := 42) (fr := (0, 0)) (heap_alloc_new wc _)) (by simp [Value.oneCell'])
                        (by omega) (by unfold maxLen; omega) (by omega) (by simp; omega) (wc.heap.size + 1) (by simp) ?_
                      intro gg cap w1 hown1 hgrow hat hlt
                      have hb1 : w1.heap[w.heap.size + 1]? = some (.cells (planCells (planOf (es.take i)) V) 32 (0, 0)) := (hgrow.block _ (by simp; omega) (Ne.symm hne)).trans (blk_alloc_drew HP.out.blk)
                      have z1 : w1.cell? ⟨w.heap.size + 1, 1 + k, none⟩ = some (.slice Ak nk ck2) := by
                        rw [hgrow.cell_far _ (by simp; omega) (Ne.symm hne)]
                        exact cell_alloc ck
                      have z2 : w1.cell? ⟨w.heap.size + 1, 5 + k, none⟩ = some (.bool ((planOf (es.take i)).s k).o) := by
                        rw [hgrow.cell_far _ (by simp; omega) (Ne.symm hne)]
                        exact cell_alloc cok
                      have y3 : w1.cell? ⟨B1, 3, none⟩ = some (.int .i64 pg) := by
                        rw [hgrow.cell_far _ (by simp; omega) (Ne.symm hnB)]
                        exact cell_alloc x3
                      have y4 : w1.cell? ⟨B1, 4, none⟩ = some (.int .i64 sl) := by
                        rw [hgrow.cell_far _ (by simp; omega) (Ne.symm hnB)]
                        exact cell_alloc x4
                      have y5 : w1.cell? ⟨B1, 5, none⟩ = some (.string bf) := by
                        rw [hgrow.cell_far _ (by simp; omega) (Ne.symm hnB)]
                        exact cell_alloc x5
                      have z3 := frozen_of_row w1 _ (1 + k) _ _ hb1
                      have z4 := frozen_of_row w1 _ (5 + k) _ _ hb1
                      refine hK.out _ _ ⟨y3, y4, y5⟩ (fun hHeld => ?_)
                      clear hK K
                      try simp only [Act.put, List.setIfInBounds_toArray, List.set_cons_zero, List.set_cons_succ]
                      refine wpAnyH_take (i := 19) (oi := _) (v := ?_) rfl (by kernel_rfl) (by kernel_rfl) (by kernel_rfl) (fun _ _ _ h => h) (Or.inl ⟨by rfl, ?_⟩) (by assumption) ?_
                      rotate_left
                      · (intro w hSw; (try dsimp only at hSw); go_simp; try with_reducible rfl)
                      try simp only [Act.put, List.setIfInBounds_toArray, List.set_cons_zero, List.set_cons_succ]
                      refine wpAnyH_ready (rs := [20]) (by kernel_rfl) (by simp) ?_
                      refine AllReadyH.cons (o := _) rfl (fun K hK => ?_) AllReadyH.nil
                      go_simp
                      refine hK.out _ _ ⟨cell_set hgB y3, cell_set hgB y4, cell_set hgB y5⟩ (fun hHeld => ?_)
                      clear hK K
                      try simp only [Act.put, List.setIfInBounds_toArray, List.set_cons_zero, List.set_cons_succ]
                      refine wpAnyH_take (i := 22) (oi := _) (v := ?_) rfl (by kernel_rfl) (by kernel_rfl) (by kernel_rfl) (fun _ _ _ h => h) (Or.inl ⟨by rfl, ?_⟩) (by assumption) ?_
                      rotate_left
                      · (intro w hSw; (try dsimp only at hSw); go_simp; try with_reducible rfl)
                      try simp only [Act.put, List.setIfInBounds_toArray, List.set_cons_zero, List.set_cons_succ]
                      refine wpAnyH_ready (rs := [23]) (by kernel_rfl) (by simp) ?_
                      refine AllReadyH.cons (o := _) rfl (fun K hK => ?_) AllReadyH.nil
                      go_simp
                      refine hK.out _ _ ⟨cell_set hgB (cell_set hgB y3), cell_set hgB (cell_set hgB y4), cell_set hgB (cell_set hgB y5)⟩ (fun hHeld => ?_)
                      clear hK K
                      try simp only [Act.put, List.setIfInBounds_toArray, List.set_cons_zero, List.set_cons_succ]
                      refine wpAnyH_done (by kernel_rfl) ?_ _
                      refine NoPanic.normal ?_
                      have HM := hid (plan_more HP.out hk4 HVK.out HNK.out HXS.out HB.out HR.out hgrow hown1 hat)
                      clear hgrow hown1 hat hHeld
                      go_wp2_with fail
                      refine ⟨⟨i + 1, fun j => if j = k then .slice (some ⟨gg, 0, none⟩) (nk + 1) cap else V j, by omega, by go_num, ?_, HM.out.2⟩, ?_⟩
                      · rw [HST.out, Pln.step_of _ _ h7]
                        refine HM.out.1.congr (fun _ _ => rfl) rfl fun j _ => ?_
                        dsimp only
                        rw [HK.out]
                        split
                        · rename_i hj
                          rw [One.step_more (by simp), hj]
                          rfl
                        · rfl
                      · simp [intOf]; omega
                    · refine AllReadyH.cons (o := _) rfl (fun K hK => ?_) AllReadyH.nil
                      go_simp
                      refine hK.out _ _ ⟨cell_alloc x3, cell_alloc x4, cell_alloc x5⟩ (fun hHeld => ?_)
                      clear hK K
                      try simp only [Act.put, List.setIfInBounds_toArray, List.set_cons_zero, List.set_cons_succ]
                      refine wpAnyH_ready (rs := [5]) (by kernel_rfl) (by simp) ?_
                      refine AllReadyH.cons (o := _) rfl (fun K hK => ?_) AllReadyH.nil
                      go_simp
                      refine hK.out _ _ ⟨cell_alloc x3, cell_alloc x4, cell_alloc x5⟩ (fun hHeld => ?_)
                      clear hK K
                      try simp only [Act.put, List.setIfInBounds_toArray, List.set_cons_zero, List.set_cons_succ]
                      refine wpAnyH_ready (rs := [17]) (by kernel_rfl) (by simp) ?_
                      refine AllReadyH.cons (o := _) rfl (fun K hK => ?_) AllReadyH.nil
                      refine step_append_lies _ (by rfl) _ _ _ (by rfl) w.heap.size 42 i0 _ 3 32 Try.underlying28 hi hz0 hz1 hz2 rfl (by omega) (.slice Ak nk ck2) nk xs (by rfl) ((hown.alloc _).drew)
                        ⟨wc.heap.size, 0, none⟩ 1 1 [.int .i64 pg, .int .i64 sl, .string bf] (by rfl) (by rfl) (World.news_of_block (cs := #[.int .i64 pg, .int .i64 sl, .string bf]) (t := 42) (fr := (0, 0)) (heap_alloc_new wc _)) (by simp [Value.oneCell'])
                        (by omega) (by unfold maxLen; omega) (by omega) (by simp; omega) (wc.heap.size + 1) (by simp) ?_
                      intro gg cap w1 hown1 hgrow hat hlt
                      have hb1 : w1.heap[w.heap.size + 1]? = some (.cells (planCells (planOf (es.take i)) V) 32 (0, 0)) := (hgrow.block _ (by simp; omega) (Ne.symm hne)).trans (blk_alloc_drew HP.out.blk)
                      have z1 : w1.cell? ⟨w.heap.size + 1, 1 + k, none⟩ = some (.slice Ak nk ck2) := by
                        rw [hgrow.cell_far _ (by simp; omega) (Ne.symm hne)]
                        exact cell_alloc ck
                      have z2 : w1.cell? ⟨w.heap.size + 1, 5 + k, none⟩ = some (.bool ((planOf (es.take i)).s k).o) := by
                        rw [hgrow.cell_far _ (by simp; omega) (Ne.symm hne)]
                        exact cell_alloc cok
                      have y3 : w1.cell? ⟨B1, 3, none⟩ = some (.int .i64 pg) := by
                        rw [hgrow.cell_far _ (by simp; omega) (Ne.symm hnB)]
                        exact cell_alloc x3
                      have y4 : w1.cell? ⟨B1, 4, none⟩ = some (.int .i64 sl) := by
                        rw [hgrow.cell_far _ (by simp; omega) (Ne.symm hnB)]
                        exact cell_alloc x4
                      have y5 : w1.cell? ⟨B1, 5, none⟩ = some (.string bf) := by
                        rw [hgrow.cell_far _ (by simp; omega) (Ne.symm hnB)]
                        exact cell_alloc x5
                      have z3 := frozen_of_row w1 _ (1 + k) _ _ hb1
                      have z4 := frozen_of_row w1 _ (5 + k) _ _ hb1
                      refine hK.out _ _ ⟨y3, y4, y5⟩ (fun hHeld => ?_)
                      clear hK K
                      try simp only [Act.put, List.setIfInBounds_toArray, List.set_cons_zero, List.set_cons_succ]
                      refine wpAnyH_take (i := 19) (oi := _) (v := ?_) rfl (by kernel_rfl) (by kernel_rfl) (by kernel_rfl) (fun _ _ _ h => h) (Or.inl ⟨by rfl, ?_⟩) (by assumption) ?_
                      rotate_left
                      · (intro w hSw; (try dsimp only at hSw); go_simp; try with_reducible rfl)
                      try simp only [Act.put, List.setIfInBounds_toArray, List.set_cons_zero, List.set_cons_succ]
                      refine wpAnyH_ready (rs := [20]) (by kernel_rfl) (by simp) ?_
                      refine AllReadyH.cons (o := _) rfl (fun K hK => ?_) AllReadyH.nil
                      go_simp
                      refine hK.out _ _ ⟨cell_set hgB y3, cell_set hgB y4, cell_set hgB y5⟩ (fun hHeld => ?_)
                      clear hK K
                      try simp only [Act.put, List.setIfInBounds_toArray, List.set_cons_zero, List.set_cons_succ]
                      refine wpAnyH_take (i := 22) (oi := _) (v := ?_) rfl (by kernel_rfl) (by kernel_rfl) (by kernel_rfl) (fun _ _ _ h => h) (Or.inl ⟨by rfl, ?_⟩) (by assumption) ?_
                      rotate_left
                      · (intro w hSw; (try dsimp only at hSw); go_simp; try with_reducible rfl)
                      try simp only [Act.put, List.setIfInBounds_toArray, List.set_cons_zero, List.set_cons_succ]
                      refine wpAnyH_ready (rs := [23]) (by kernel_rfl) (by simp) ?_
                      refine AllReadyH.cons (o := _) rfl (fun K hK => ?_) AllReadyH.nil
                      go_simp
                      refine hK.out _ _ ⟨cell_set hgB (cell_set hgB y3), cell_set hgB (cell_set hgB y4), cell_set hgB (cell_set hgB y5)⟩ (fun hHeld => ?_)
                      clear hK K
                      try simp only [Act.put, List.setIfInBounds_toArray, List.set_cons_zero, List.set_cons_succ]
                      refine wpAnyH_done (by kernel_rfl) ?_ _
                      refine NoPanic.normal ?_
                      have HM := hid (plan_more HP.out hk4 HVK.out HNK.out HXS.out HB.out HR.out hgrow hown1 hat)
                      clear hgrow hown1 hat hHeld
                      go_wp2_with fail
                      refine ⟨⟨i + 1, fun j => if j = k then .slice (some ⟨gg, 0, none⟩) (nk + 1) cap else V j, by omega, by go_num, ?_, HM.out.2⟩, ?_⟩
                      · rw [HST.out, Pln.step_of _ _ h7]
                        refine HM.out.1.congr (fun _ _ => rfl) rfl fun j _ => ?_
                        dsimp only
                        rw [HK.out]
                        split
                        · rename_i hj
                          rw [One.step_more (by simp), hj]
                          rfl
                        · rfl
                      · simp [intOf]; omega
                · have n2 : (kd == 2) = false := by simp; omega
                  have n3 : (kd == 3) = false := by simp; omega
                  have n4 : (kd == 4) = false := by simp; omega
                  have n5 : (kd == 5) = false := by simp; omega
                  have n6 : (kd == 6) = false := by simp; omega
                  have n7 : (kd == 7) = false := by simp; omega
                  go_wp2_with fail
                  go_roundw
                  case rel =>
                    refine ⟨i + 1, V, by omega, by go_num, ?_, HB.out, HR.out⟩
                    rw [HST.out, Pln.step_of _ _ h7]
                    refine HP.out.congr (fun _ _ => rfl) rfl fun j _ => ?_
                    dsimp only
                    rw [One.step_none h23 h4 h56]
                    split <;> rfl
                  case measure => simp [intOf]; omega
    · obtain rfl : i = n := by omega
      have c0 := hP.cell (i := 0) (by omega)
      have f0 := hP.frozen 1
      have c5 := hP.opn (i := 0) (by omega)
      have f5 := hP.frozen 5
      have hP2 := hP.put (k := 0) (w' := wr) (v := .slice none 0 0) (l := []) (by omega) false ⟨rfl, rfl, rfl, Nat.le_refl _, fun _ _ _ => rfl⟩ (World.ownsRow_nil _ _ _ _) (.inl rfl)
      simp only [Nat.add_zero] at c0 c5 hP2
      obtain ⟨A0, n0, hV0⟩ := own_slice (hP.own 0 (by omega))
      rw [hV0] at c0
      clear hV0
      have HP2 := hid hP2
      clear hP2
      go_upto_region 23 with fail
      have hP2 := HP2.out
      have hb2 : Below w.heap.size w ((wr.setCell ⟨w.heap.size + 1, 1, none⟩ (.slice none 0 0)).setCell ⟨w.heap.size + 1, 5, none⟩ (.bool false)) := B_set (B_set hbl (Nat.le_succ _) _) (Nat.le_succ _) _
      have hr2 : ((wr.setCell ⟨w.heap.size + 1, 1, none⟩ (.slice none 0 0)).setCell ⟨w.heap.size + 1, 5, none⟩ (.bool false)).heap[w.heap.size]? = some (.cells plan0 32 (0, 0)) :=
        (Below.heap_setCell _ _ _ _ (by show _ ≠ w.heap.size + 1; omega)).trans ((Below.heap_setCell _ _ _ _ (by show _ ≠ w.heap.size + 1; omega)).trans hres)
      have hT : es.take i = es := by rw [← HN.out, List.take_length]
      rw [hT] at hP2
      generalize ((wr.setCell ⟨w.heap.size + 1, 1, none⟩ (.slice none 0 0)).setCell ⟨w.heap.size + 1, 5, none⟩ (.bool false)) = W2 at hP2 hb2 hr2 ⊢
      clear HP2 hP c0 f0 c5 f5 hres hT hbl
      obtain ⟨A1, k1, hV1⟩ := own_slice (hP2.own 1 (by omega))
      obtain ⟨A2, k2, hV2⟩ := own_slice (hP2.own 2 (by omega))
      obtain ⟨A3, k3, hV3⟩ := own_slice (hP2.own 3 (by omega))
      have hown : ∀ i, 1 ≤ i → i < 4 → W2.ownsRow w.heap.size 42 3 (V i) ((planOf es).s i).l.length (chgs ((planOf es).s i).l) := by
        intro i h1 h4
        have := hP2.own i h4
        simpa only [if_neg (show i ≠ 0 by omega)] using this
      simp only [if_neg (show (1 : Nat) ≠ 0 by omega), if_neg (show (2 : Nat) ≠ 0 by omega), if_neg (show (3 : Nat) ≠ 0 by omega)] at hV1 hV2 hV3
      have hblk := hP2.blk
      have hcs : planCells ⟨(planOf es).fr, fun i => if i = 0 then ⟨[], false⟩ else (planOf es).s i⟩ (fun i => if i = 0 then .slice none 0 0 else V i) = #[.int .u64 (planOf es).fr, .slice none 0 0, .slice A1 ((planOf es).s 1).l.length k1, .slice A2 ((planOf es).s 2).l.length k2, .slice A3 ((planOf es).s 3).l.length k3, .bool false, .bool ((planOf es).s 1).o, .bool ((planOf es).s 2).o, .bool ((planOf es).s 3).o] := by
        unfold planCells
        simp [hV1, hV2, hV3]
      rw [hcs] at hblk
      have HCS := hid hcs
      have HOWN := hid hown
      clear hcs hown hV1 hV2 hV3 hP2
      have x0 : W2.cell? ⟨w.heap.size + 1, 0, none⟩ = some (.int .u64 (planOf es).fr) := cell_of_row W2 _ 0 _ _ _ hblk
      have r0 : W2.cell? ⟨w.heap.size, 0, none⟩ = some (.int .u64 0) := cell_of_row W2 _ 0 _ _ _ hr2
      have q0 : W2.frozen? ⟨w.heap.size, 0, none⟩ = false := frozen_of_row W2 _ 0 _ _ hr2
      have x1 : W2.cell? ⟨w.heap.size + 1, 1, none⟩ = some (.slice none 0 0) := cell_of_row W2 _ 1 _ _ _ hblk
      have r1 : W2.cell? ⟨w.heap.size, 1, none⟩ = some (.slice none 0 0) := cell_of_row W2 _ 1 _ _ _ hr2
      have q1 : W2.frozen? ⟨w.heap.size, 1, none⟩ = false := frozen_of_row W2 _ 1 _ _ hr2
      have x2 : W2.cell? ⟨w.heap.size + 1, 2, none⟩ = some (.slice A1 ((planOf es).s 1).l.length k1) := cell_of_row W2 _ 2 _ _ _ hblk
      have r2 : W2.cell? ⟨w.heap.size, 2, none⟩ = some (.slice none 0 0) := cell_of_row W2 _ 2 _ _ _ hr2
      have q2 : W2.frozen? ⟨w.heap.size, 2, none⟩ = false := frozen_of_row W2 _ 2 _ _ hr2
      have x3 : W2.cell? ⟨w.heap.size + 1, 3, none⟩ = some (.slice A2 ((planOf es).s 2).l.length k2) := cell_of_row W2 _ 3 _ _ _ hblk
      have r3 : W2.cell? ⟨w.heap.size, 3, none⟩ = some (.slice none 0 0) := cell_of_row W2 _ 3 _ _ _ hr2
      have q3 : W2.frozen? ⟨w.heap.size, 3, none⟩ = false := frozen_of_row W2 _ 3 _ _ hr2
      have x4 : W2.cell? ⟨w.heap.size + 1, 4, none⟩ = some (.slice A3 ((planOf es).s 3).l.length k3) := cell_of_row W2 _ 4 _ _ _ hblk
      have r4 : W2.cell? ⟨w.heap.size, 4, none⟩ = some (.slice none 0 0) := cell_of_row W2 _ 4 _ _ _ hr2
      have q4 : W2.frozen? ⟨w.heap.size, 4, none⟩ = false := frozen_of_row W2 _ 4 _ _ hr2
      have x5 : W2.cell? ⟨w.heap.size + 1, 5, none⟩ = some (.bool false) := cell_of_row W2 _ 5 _ _ _ hblk
      have r5 : W2.cell? ⟨w.heap.size, 5, none⟩ = some (.bool false) := cell_of_row W2 _ 5 _ _ _ hr2
      have q5 : W2.frozen? ⟨w.heap.size, 5, none⟩ = false := frozen_of_row W2 _ 5 _ _ hr2
      have x6 : W2.cell? ⟨w.heap.size + 1, 6, none⟩ = some (.bool ((planOf es).s 1).o) := cell_of_row W2 _ 6 _ _ _ hblk
      have r6 : W2.cell? ⟨w.heap.size, 6, none⟩ = some (.bool false) := cell_of_row W2 _ 6 _ _ _ hr2
      have q6 : W2.frozen? ⟨w.heap.size, 6, none⟩ = false := frozen_of_row W2 _ 6 _ _ hr2
      have x7 : W2.cell? ⟨w.heap.size + 1, 7, none⟩ = some (.bool ((planOf es).s 2).o) := cell_of_row W2 _ 7 _ _ _ hblk
      have r7 : W2.cell? ⟨w.heap.size, 7, none⟩ = some (.bool false) := cell_of_row W2 _ 7 _ _ _ hr2
      have q7 : W2.frozen? ⟨w.heap.size, 7, none⟩ = false := frozen_of_row W2 _ 7 _ _ hr2
      have x8 : W2.cell? ⟨w.heap.size + 1, 8, none⟩ = some (.bool ((planOf es).s 3).o) := cell_of_row W2 _ 8 _ _ _ hblk
      have r8 : W2.cell? ⟨w.heap.size, 8, none⟩ = some (.bool false) := cell_of_row W2 _ 8 _ _ _ hr2
      have q8 : W2.frozen? ⟨w.heap.size, 8, none⟩ = false := frozen_of_row W2 _ 8 _ _ hr2
      have HH := hid (heap_set9 (b0 := (.int .u64 (planOf es).fr)) (b1 := (.slice none 0 0)) (b2 := (.slice A1 ((planOf es).s 1).l.length k1)) (b3 := (.slice A2 ((planOf es).s 2).l.length k2)) (b4 := (.slice A3 ((planOf es).s 3).l.length k3)) (b5 := (.bool false)) (b6 := (.bool ((planOf es).s 1).o)) (b7 := (.bool ((planOf es).s 2).o)) (b8 := (.bool ((planOf es).s 3).o)) hr2)
      have HB := hid hb2
      have HR := hid hr2
      clear hblk hr2 hb2
      go_wp2_with fail
      refine bodyPost_ret (results_cell_row rfl _ _ w.heap.size 32 _ _ _ rfl HH.out Try.underlying32 rfl size32) rfl ?_
      refine ⟨⟨V, by rw [HCS.out], fun i h1 h4 => ?_⟩, ?_⟩
      · exact own_kept9 (HOWN.out i h1 h4) (own_ne (HOWN.out i h1 h4) HR.out (by decide)) _ _ _ _ _ _ _ _ _
      · exact B_set (B_set (B_set (B_set (B_set (B_set (B_set (B_set (B_set HB.out (Nat.le_refl _) _) (Nat.le_refl _) _) (Nat.le_refl _) _) (Nat.le_refl _) _) (Nat.le_refl _) _) (Nat.le_refl _) _) (Nat.le_refl _) _) (Nat.le_refl _) _) (Nat.le_refl _) _

end Go.Proofs.Ytcolblmhopjgpaa
