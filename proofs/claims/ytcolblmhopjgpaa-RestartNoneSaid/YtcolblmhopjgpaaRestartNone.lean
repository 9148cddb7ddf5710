/-
  RestartNone walked.
-/
import Derived.Test.YtcolblmhopjgpaaRst11
namespace Go.Proofs.Ytcolblmhopjgpaa
open Go.RowKit

theorem rows_nil (w : World) : RowsAt w none [] := fun i hi => by simp at hi
theorem txn4 (t : Int) : slotOf (wrap64 (4 + bits .and .i64 t 3)) = 0 := by
  have h := and_mask t 2 (by omega)
  simp only [show ((2 ^ 2 - 1 : Nat) : Int) = 3 from rfl, show (2 : Int) ^ 2 = 4 from rfl] at h
  generalize bits .and .i64 t 3 = x at h
  apply slotOf_out
  right
  unfold wrap64; omega

set_option maxRecDepth 100000 in
set_option maxHeartbeats 3200000 in
theorem none_law (A : Option Addr) (len cap : Nat) (w : World) (hlen : len ≤ 9223372036854775807) (hs : SeedsIn w A len) :
    Calls Try.prog 7 #[.slice A len cap] w fun r w' => r = .returned (.bool true) ∧ Below w.heap.size w w' := by
  obtain ⟨i0, hi, hz0, hz1, hz2⟩ := info_parts info40
  have HS := hid hs
  have HLEN := hid hlen
  clear hs hlen
  go_enter Try.func7, Try.ntmps7
  go_upto_region 5 with (first
    | (go_at_call 9; (with_reducible refine (fit_any _).mono ?_); rintro r wa ⟨rfl, hba⟩)
    | (go_at_call 10; (with_reducible refine (light_res A len cap _ HLEN.out (HS.out.below hba)).mono ?_); rintro r wb ⟨⟨q, rfl, hq⟩, hbb⟩; rcases q with _ | _))
  · go_ret
    exact ⟨rfl, B_call hba hbb⟩
  · have hb := B_call hba hbb
    have hs2 := HS.out.below hb
    have hq2 : len ≤ 100 := by simpa using hq
    clear hba hbb hq
    have HB := hid hb
    have HS2 := hid hs2
    have HQ := hid hq2
    clear hb hs2 hq2
    go_wp2_with (go_at_call 11; (with_reducible refine (entries_at A len cap _ HQ.out HS2.out).mono ?_); rintro r w4 ⟨⟨A1, m, c1, es, rfl, hl, hE, _⟩, hbc⟩)
    have hbW := B_call HB.out hbc
    have hR4 := hE.rows
    have hem := hE.len
    have HBW := hid hbW
    have HR4 := hid hR4
    have HEM := hid hem
    clear hE hbc hbW hR4 hem HS2 HS HQ HB
    go_loopw [3, 17] (fun v u wr => ∃ (k j : Nat) (own : List Ent), k ≤ m ∧ j ≤ k ∧ u = .int .i64 k ∧ EntsAt w4.heap.size wr v j own ∧ (∀ e ∈ own, e.kd ≠ 7 ∧ (e.kd = 1 ∨ slotOf e.tx = 0)) ∧ Below w4.heap.size w4 wr) (fun _ u _ => ((m : Int) - intOf u).toNat)
    case atStart => exact ⟨0, 0, [], by omega, by omega, rfl, EntsAt.nil _ _, (fun e he => by cases he), Below.refl _ _⟩
    case round =>
      obtain ⟨i, j, own, hi', hj, rfl, hO, hown, hbl⟩ := hrel
      by_cases hlt : i < m
      · obtain ⟨b, off, hA1, hEt, hD⟩ := HR4.out i (by rw [HEM.out]; exact hlt)
        subst hA1
        have hD2 := hD.below hbl
        obtain ⟨e, he⟩ : ∃ e, e = es[i]'(by rw [HEM.out]; exact hlt) := ⟨_, rfl⟩
        rw [← he] at hEt hD2
        clear he hD
        obtain ⟨A2, n2, c2, hdv⟩ := hD2.slice
        obtain ⟨a0, a1, a2, a3, a4, a5, a6, a7, a8⟩ := hEt.below hbl
        clear hEt
        obtain ⟨pl, kd, tx, pg, sl, bf, af, im, dv, dl⟩ := e
        simp only at hdv a0 a1 a2 a3 a4 a5 a6 a7 a8
        subst hdv
        have HO := hid hO
        have HOWN := hid hown
        have HD2 := hid hD2
        have HBL := hid hbl
        clear hO hown hD2 hbl
        go_upto_region 9 with fail
        have hAB : Below wr.heap.size wr (wr.alloc (.cells #[.int .u64 pl, .int .i64 kd, .int .i64 tx, .int .i64 pg, .int .i64 sl, .string bf, .string af, .string im, .slice A2 n2 c2] 40)) := B_alloc (Below.refl _ _) _
        have hgb := heap_alloc_new wr (.cells #[.int .u64 pl, .int .i64 kd, .int .i64 tx, .int .i64 pg, .int .i64 sl, .string bf, .string af, .string im, .slice A2 n2 c2] 40)
        generalize wr.alloc (.cells #[.int .u64 pl, .int .i64 kd, .int .i64 tx, .int .i64 pg, .int .i64 sl, .string bf, .string af, .string im, .slice A2 n2 c2] 40) = W2 at hAB hgb ⊢
        obtain ⟨B1, hB1⟩ : ∃ B1, B1 = wr.heap.size := ⟨_, rfl⟩
        have HB1 := hid hB1
        rw [← hB1] at hgb ⊢
        have HAB := hid hAB
        clear hB1 hAB a0 a1 a2 a3 a4 a5 a6 a7 a8
        have x1 : W2.cell? ⟨B1, 1, none⟩ = some (.int .i64 kd) := cell_of_row W2 _ 1 _ _ _ hgb
        by_cases h7 : kd = 7
        · subst h7
          go_wp2_with fail
          go_roundw
          case rel => exact ⟨i + 1, j, own, by omega, by omega, by go_num, HO.out.below HAB.out, HOWN.out, B_call HBL.out HAB.out⟩
          case measure => simp [intOf]; omega
        · have hd7 : (kd == 7) = false := by simpa using h7
          go_upto_if 28 with fail
          go_cut [] (fun wx => ∃ t2 : Int, Hid (kd = 1 ∨ slotOf t2 = 0) ∧ Hid (wx.heap[B1]? = some (.cells #[.int .u64 pl, .int .i64 kd, .int .i64 t2, .int .i64 pg, .int .i64 sl, .string bf, .string af, .string im, .slice A2 n2 c2] 40 (0, 0))) ∧ Hid (Below wr.heap.size wr wx))
          case first =>
            by_cases h1 : kd = 1
            · subst h1
              go_wp2_with fail
              go_meet
              exact ⟨tx, hid (.inl (by trivial)), hid hgb, HAB⟩
            · have hd1 : (kd == 1) = false := by simpa using h1
              have x2 : W2.cell? ⟨B1, 2, none⟩ = some (.int .i64 tx) := cell_of_row W2 _ 2 _ _ _ hgb
              have f2 : W2.frozen? ⟨B1, 2, none⟩ = false := frozen_of_row W2 _ 2 _ _ hgb
              have hset := heap_setCell_same W2 B1 2 _ 40 (.int .i64 (wrap64 (4 + bits .and .i64 tx 3))) hgb
              have HSET := hid hset
              clear hset
              go_wp2_with fail
              go_meet
              exact ⟨wrap64 (4 + bits .and .i64 tx 3), hid (.inr (txn4 tx)), hid HSET.out, hid (B_set HAB.out (p := ⟨B1, 2, none⟩) (Nat.le_of_eq HB1.out.symm) _)⟩
          case rest =>
            obtain ⟨t2, ht2, hgb2, hB2⟩ := hcut
            have y0 : wc.cell? ⟨B1, 0, none⟩ = some (.int .u64 pl) := cell_of_row wc _ 0 _ _ _ hgb2.out
            have y1 : wc.cell? ⟨B1, 1, none⟩ = some (.int .i64 kd) := cell_of_row wc _ 1 _ _ _ hgb2.out
            have y2 : wc.cell? ⟨B1, 2, none⟩ = some (.int .i64 t2) := cell_of_row wc _ 2 _ _ _ hgb2.out
            have y3 : wc.cell? ⟨B1, 3, none⟩ = some (.int .i64 pg) := cell_of_row wc _ 3 _ _ _ hgb2.out
            have y4 : wc.cell? ⟨B1, 4, none⟩ = some (.int .i64 sl) := cell_of_row wc _ 4 _ _ _ hgb2.out
            have y5 : wc.cell? ⟨B1, 5, none⟩ = some (.string bf) := cell_of_row wc _ 5 _ _ _ hgb2.out
            have y6 : wc.cell? ⟨B1, 6, none⟩ = some (.string af) := cell_of_row wc _ 6 _ _ _ hgb2.out
            have y7 : wc.cell? ⟨B1, 7, none⟩ = some (.string im) := cell_of_row wc _ 7 _ _ _ hgb2.out
            have y8 : wc.cell? ⟨B1, 8, none⟩ = some (.slice A2 n2 c2) := cell_of_row wc _ 8 _ _ _ hgb2.out
            obtain ⟨A5, c5, hv5⟩ := HO.out.slice
            have hO2 := HO.out.below hB2.out
            have hsz := (B_call HBL.out hB2.out).size
            have hd3 := HD2.out.below hB2.out
            subst hv5
            go_wp2_with (at_builtin; go_loud (refine wpList_append_lies _ rfl _ _ 25 (by rfl) w4.heap.size 40 i0 _ 9 112 Try.underlying25 hi hz0 hz1 hz2 rfl (by omega) (.slice A5 j c5) j (rowOf own) (by rfl) (hO2.own.alloc _) ⟨wc.heap.size, 0, none⟩ 1 1 [.int .u64 pl, .int .i64 kd, .int .i64 t2, .int .i64 pg, .int .i64 sl, .string bf, .string af, .string im, .slice A2 n2 c2] (by rfl) (by rfl) (World.news_of_block (heap_alloc_new wc _)) (by simp [Value.oneCell']) (by omega) (by unfold maxLen; omega) (by omega) (by simp; omega) _ rfl ?_); intro gg cap1 w5 hown5 hgrow hat hlt5)
            have hE5 := (hO2.below (B_alloc (Below.refl _ _) _)).push hgrow (e := ⟨pl, kd, t2, pg, sl, bf, af, im, .slice A2 n2 c2, dl⟩) hown5 rfl (hd3.below (B_alloc (Below.refl _ _) _))
            have hb5 : Below w4.heap.size w4 w5 := (hO2.below (B_alloc (Below.refl _ _) (.cells #[.int .u64 pl, .int .i64 kd, .int .i64 t2, .int .i64 pg, .int .i64 sl, .string bf, .string af, .string im, .slice A2 n2 c2] 40))).stays (Nat.le_refl _) (B_alloc (B_call HBL.out hB2.out) _) hgrow
            clear hown5 hgrow hat
            refine ⟨⟨i + 1, j + 1, _, by omega, by omega, by go_num, hE5, ?_, hb5⟩, ?_⟩
            · intro e' he'
              rcases List.mem_append.1 he' with he' | he'
              · exact HOWN.out e' he'
              · obtain rfl := List.mem_singleton.1 he'
                exact ⟨h7, ht2.out⟩
            · simp [intOf]; omega
      · obtain rfl : i = m := by omega
        obtain ⟨A5, c5, rfl⟩ := hO.slice
        have HO := hid hO
        have HOWN := hid hown
        have HBL := hid hbl
        clear hO hown hbl
        go_wp2_with (first
          | (go_at_call 12; (with_reducible refine (analyse_at none 0 0 [] _ (by simp) (by omega) (rows_nil _)).mono ?_); rintro r w6 ⟨⟨p, B, c, hp, rfl, _⟩, hb6⟩)
          | (go_at_call 12; (with_reducible refine (analyse_at A5 j c5 own _ HO.out.len (by omega) (HO.out.rows.below hb6)).mono ?_); rintro r w7 ⟨⟨q, D, d, hq, rfl, _⟩, hb7⟩))
        have hbF := B_alloc (B_alloc (B_call (B_call (B_call HBW.out HBL.out) hb6) hb7) (.cells #[.int .u64 p.fr, .slice (B 0) (p.s 0).l.length (c 0), .slice (B 1) (p.s 1).l.length (c 1), .slice (B 2) (p.s 2).l.length (c 2), .slice (B 3) (p.s 3).l.length (c 3), .bool (p.s 0).o, .bool (p.s 1).o, .bool (p.s 2).o, .bool (p.s 3).o] 32)) (.cells #[.int .u64 q.fr, .slice (D 0) (q.s 0).l.length (d 0), .slice (D 1) (q.s 1).l.length (d 1), .slice (D 2) (q.s 2).l.length (d 2), .slice (D 3) (q.s 3).l.length (d 3), .bool (q.s 0).o, .bool (q.s 1).o, .bool (q.s 2).o, .bool (q.s 3).o] 32)
        have hin1 : ((w7.alloc (.cells #[.int .u64 p.fr, .slice (B 0) (p.s 0).l.length (c 0), .slice (B 1) (p.s 1).l.length (c 1), .slice (B 2) (p.s 2).l.length (c 2), .slice (B 3) (p.s 3).l.length (c 3), .bool (p.s 0).o, .bool (p.s 1).o, .bool (p.s 2).o, .bool (p.s 3).o] 32)).alloc (.cells #[.int .u64 q.fr, .slice (D 0) (q.s 0).l.length (d 0), .slice (D 1) (q.s 1).l.length (d 1), .slice (D 2) (q.s 2).l.length (d 2), .slice (D 3) (q.s 3).l.length (d 3), .bool (q.s 0).o, .bool (q.s 1).o, .bool (q.s 2).o, .bool (q.s 3).o] 32)).heap[w7.heap.size]? = some (.cells (pvals p B c) 32 (0, 0)) := blk_alloc (plan_made w7 p B c)
        have hin2 : ((w7.alloc (.cells #[.int .u64 p.fr, .slice (B 0) (p.s 0).l.length (c 0), .slice (B 1) (p.s 1).l.length (c 1), .slice (B 2) (p.s 2).l.length (c 2), .slice (B 3) (p.s 3).l.length (c 3), .bool (p.s 0).o, .bool (p.s 1).o, .bool (p.s 2).o, .bool (p.s 3).o] 32)).alloc (.cells #[.int .u64 q.fr, .slice (D 0) (q.s 0).l.length (d 0), .slice (D 1) (q.s 1).l.length (d 1), .slice (D 2) (q.s 2).l.length (d 2), .slice (D 3) (q.s 3).l.length (d 3), .bool (q.s 0).o, .bool (q.s 1).o, .bool (q.s 2).o, .bool (q.s 3).o] 32)).heap[w7.heap.size + 1]? = some (.cells (pvals q D d) 32 (0, 0)) := new_at _ _ _
        obtain ⟨P, hP⟩ : ∃ P, P = w7.heap.size := ⟨_, rfl⟩
        rw [← hP] at hin1 hin2 ⊢
        generalize (w7.alloc (.cells #[.int .u64 p.fr, .slice (B 0) (p.s 0).l.length (c 0), .slice (B 1) (p.s 1).l.length (c 1), .slice (B 2) (p.s 2).l.length (c 2), .slice (B 3) (p.s 3).l.length (c 3), .bool (p.s 0).o, .bool (p.s 1).o, .bool (p.s 2).o, .bool (p.s 3).o] 32)).alloc (.cells #[.int .u64 q.fr, .slice (D 0) (q.s 0).l.length (d 0), .slice (D 1) (q.s 1).l.length (d 1), .slice (D 2) (q.s 2).l.length (d 2), .slice (D 3) (q.s 3).l.length (d 3), .bool (q.s 0).o, .bool (q.s 1).o, .bool (q.s 2).o, .bool (q.s 3).o] 32) = w8 at hbF hin1 hin2 ⊢
        have hp0 := none_anal [] (fun e he => by cases he)
        have hq0 := none_anal own HOWN.out
        rw [← hp.out] at hp0
        rw [← hq.out] at hq0
        have HIN1 := hid hin1
        have HIN2 := hid hin2
        have HP0 := hid hp0
        have HQ0 := hid hq0
        have HBF := hid hbF
        clear hP hin1 hin2 hp0 hq0 hp hq hbF hb6 hb7 HOWN HO HBL HBW
        go_loopw [44] (fun u wr => ∃ k : Nat, k ≤ 4 ∧ u = .int .i64 k ∧ wr.heap = w8.heap ∧ Below w.heap.size w wr) (fun u _ => ((4 : Int) - intOf u).toNat)
        case atStart => exact ⟨0, by omega, rfl, rfl, HBF.out⟩
        case round =>
          obtain ⟨k, hk, rfl, hw8, hb8⟩ := hrel
          have hi1 : wr.heap[P]? = _ := (congrArg (fun h => h[P]?) hw8).trans HIN1.out
          have hi2 : wr.heap[P + 1]? = _ := (congrArg (fun h => h[P + 1]?) hw8).trans HIN2.out
          have HI1 := hid hi1
          have HI2 := hid hi2
          have HW8 := hid hw8
          have HB8 := hid hb8
          clear hi1 hi2 hw8 hb8
          by_cases hlt4 : k < 4
          · have hk0 : (0 : Int) ≤ (k : Int) := by omega
            have hk4 : (k : Int) < 4 := by omega
            have e1 := plan_cell HI1.out hlt4
            have e2 := plan_open HI1.out hlt4
            have e3 := plan_cell HI2.out hlt4
            have e4 := plan_open HI2.out hlt4
            rw [HP0.out.2 k] at e1 e2
            rw [HQ0.out.2 k] at e3 e4
            simp only [List.length_nil] at e1 e3
            go_upto_region 18 with fail
            go_quiet (fail)
            go_wp2_with fail
            go_roundw
            case rel => exact ⟨k + 1, by omega, by go_num, HW8.out, below_drewN HB8.out _⟩
            case measure => simp [intOf]; omega
          · obtain rfl : k = 4 := by omega
            have e1 := plan_from HI1.out
            have e2 := plan_from HI2.out
            rw [HP0.out.1] at e1
            rw [HQ0.out.1] at e2
            go_wp2_with fail
            go_ret
            exact ⟨rfl, HB8.out⟩

end Go.Proofs.Ytcolblmhopjgpaa
