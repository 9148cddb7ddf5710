/-
  RestartParts walked.
-/
import Derived.Test.YtcolblmhopjgpaaRst11
namespace Go.Proofs.Ytcolblmhopjgpaa
open Go.RowKit

theorem and1 (n : Int) : ∃ k : Nat, 1 ≤ k ∧ k < 3 ∧ wrap64 (bits .and .i64 n 1 + 1) = (k : Int) := by
  have h := and_mask n 1 (by omega)
  simp only [show ((2 ^ 1 - 1 : Nat) : Int) = 1 from rfl, show (2 : Int) ^ 1 = 2 from rfl] at h
  generalize bits .and .i64 n 1 = x at h
  refine ⟨(x + 1).toNat, by omega, by omega, ?_⟩
  unfold wrap64; omega
theorem filter_take (es : List Ent) (f : Ent → Bool) (i : Nat) (hi : i < es.length) : (es.take (i + 1)).filter f = (es.take i).filter f ++ (if f es[i] = true then [es[i]] else []) := by
  rw [List.take_add_one, List.getElem?_eq_getElem hi, List.filter_append]
  congr 1
  by_cases h : f es[i] = true <;> simp [h]
theorem PlanIn.heap {w w' : World} {P : Nat} {p : Pln} {A : Nat → Option Addr} {c : Nat → Nat} (h : PlanIn w P p A c) (b : w'.heap = w.heap) : PlanIn w' P p A c := by
  refine ⟨by rw [b]; exact h.blk, fun i hi j hj => ?_⟩
  obtain ⟨g, h1, h2, h3, h4⟩ := h.chg i hi j hj
  have hc : ∀ a, w'.cell? a = w.cell? a := fun a => World.cell?_of_block (by rw [b])
  exact ⟨g, h1, (hc _).trans h2, (hc _).trans h3, (hc _).trans h4⟩

set_option maxRecDepth 100000 in
set_option maxHeartbeats 3200000 in
theorem parts_law (A : Option Addr) (len cap : Nat) (n : Int) (w : World) (hlen : len ≤ 9223372036854775807) (hs : SeedsIn w A len) :
    Calls Try.prog 4 #[.slice A len cap, .int .i64 n] w fun r w' => r = .returned (.bool true) ∧ Below w.heap.size w w' := by
  obtain ⟨i0, hi, hz0, hz1, hz2⟩ := info_parts info40
  obtain ⟨k, hk1, hk3, hkn⟩ := and1 n
  have HKN := hid hkn
  have HS := hid hs
  have HLEN := hid hlen
  clear hs hlen hkn
  go_enter Try.func4, Try.ntmps4
  go_upto_region 6 with (first
    | (go_at_call 9; (with_reducible refine (fit_any _).mono ?_); rintro r wa ⟨rfl, hba⟩)
    | (go_at_call 10; (with_reducible refine (light_res A len cap _ HLEN.out (HS.out.below hba)).mono ?_); rintro r wb ⟨⟨q, rfl, hq⟩, hbb⟩; rcases q with _ | _))
  · go_ret
    exact ⟨rfl, B_call hba hbb⟩
  · have hb := B_call hba hbb
    have hs2 := HS.out.below hb
    have hq2 : len ≤ 100 := by simpa using hq
    rw [HKN.out]
    clear hba hbb hq
    have HB := hid hb
    have HS2 := hid hs2
    have HQ := hid hq2
    clear hb hs2 hq2
    go_wp2_with (go_at_call 11; (with_reducible refine (entries_at A len cap _ HQ.out HS2.out).mono ?_); rintro r w4 ⟨⟨A1, m, c1, es, rfl, hl, hE, _⟩, hbc⟩)
    have hbW := B_call HB.out hbc
    have hR4 := hE.rows
    have hem := hE.len
    have HBW := hid hbW
    have HR4 := hid hR4
    have HEM := hid hem
    clear hE hbc hbW hR4 hem HS2 HS HQ HB
    go_loopw [6, 24] (fun v u wr => ∃ (i j : Nat) (own : List Ent), i ≤ m ∧ j ≤ i ∧ u = .int .i64 i ∧ EntsAt w4.heap.size wr v j own ∧ own = (es.take i).filter (fun e => decide (e.tx = (k : Int))) ∧ Below w4.heap.size w4 wr) (fun _ u _ => ((m : Int) - intOf u).toNat)
    case atStart => exact ⟨0, 0, [], by omega, by omega, rfl, EntsAt.nil _ _, by simp, Below.refl _ _⟩
    case round =>
      obtain ⟨i, j, own, hi', hj, rfl, hO, hown, hbl⟩ := hrel
      by_cases hlt : i < m
      · obtain ⟨b, off, hA1, hEt, hD⟩ := HR4.out i (by rw [HEM.out]; exact hlt)
        subst hA1
        have hD2 := hD.below hbl
        have hft := filter_take es (fun e => decide (e.tx = (k : Int))) i (by rw [HEM.out]; exact hlt)
        rw [← hown] at hft
        obtain ⟨e, he⟩ : ∃ e, e = es[i]'(by rw [HEM.out]; exact hlt) := ⟨_, rfl⟩
        rw [← he] at hEt hD2 hft
        clear he hD
        obtain ⟨A2, n2, c2, hdv⟩ := hD2.slice
        obtain ⟨a0, a1, a2, a3, a4, a5, a6, a7, a8⟩ := hEt.below hbl
        clear hEt
        obtain ⟨pl, kd, tx, pg, sl, bf, af, im, dv, dl⟩ := e
        simp only at hdv a0 a1 a2 a3 a4 a5 a6 a7 a8
        subst hdv
        have HO := hid hO
        have HFT := hid hft
        have HD2 := hid hD2
        have HBL := hid hbl
        clear hO hft hown hD2 hbl
        go_upto_region 11 with fail
        have hAB : Below wr.heap.size wr (wr.alloc (.cells #[.int .u64 pl, .int .i64 kd, .int .i64 tx, .int .i64 pg, .int .i64 sl, .string bf, .string af, .string im, .slice A2 n2 c2] 40)) := B_alloc (Below.refl _ _) _
        have hgb := heap_alloc_new wr (.cells #[.int .u64 pl, .int .i64 kd, .int .i64 tx, .int .i64 pg, .int .i64 sl, .string bf, .string af, .string im, .slice A2 n2 c2] 40)
        generalize wr.alloc (.cells #[.int .u64 pl, .int .i64 kd, .int .i64 tx, .int .i64 pg, .int .i64 sl, .string bf, .string af, .string im, .slice A2 n2 c2] 40) = wc at hAB hgb ⊢
        obtain ⟨B1, hB1⟩ : ∃ B1, B1 = wr.heap.size := ⟨_, rfl⟩
        rw [← hB1] at hgb ⊢
        have HAB := hid hAB
        clear hB1 hAB a0 a1 a2 a3 a4 a5 a6 a7 a8
        have y2 : wc.cell? ⟨B1, 2, none⟩ = some (.int .i64 tx) := cell_of_row wc _ 2 _ _ _ hgb
        by_cases ht : tx = (k : Int)
        · subst ht
          have hfo := HFT.out
          rw [if_pos (by simp)] at hfo
          have HFO := hid hfo
          clear hfo
          have y0 : wc.cell? ⟨B1, 0, none⟩ = some (.int .u64 pl) := cell_of_row wc _ 0 _ _ _ hgb
          have y1 : wc.cell? ⟨B1, 1, none⟩ = some (.int .i64 kd) := cell_of_row wc _ 1 _ _ _ hgb
          have y3 : wc.cell? ⟨B1, 3, none⟩ = some (.int .i64 pg) := cell_of_row wc _ 3 _ _ _ hgb
          have y4 : wc.cell? ⟨B1, 4, none⟩ = some (.int .i64 sl) := cell_of_row wc _ 4 _ _ _ hgb
          have y5 : wc.cell? ⟨B1, 5, none⟩ = some (.string bf) := cell_of_row wc _ 5 _ _ _ hgb
          have y6 : wc.cell? ⟨B1, 6, none⟩ = some (.string af) := cell_of_row wc _ 6 _ _ _ hgb
          have y7 : wc.cell? ⟨B1, 7, none⟩ = some (.string im) := cell_of_row wc _ 7 _ _ _ hgb
          have y8 : wc.cell? ⟨B1, 8, none⟩ = some (.slice A2 n2 c2) := cell_of_row wc _ 8 _ _ _ hgb
          obtain ⟨A5, c5, hv5⟩ := HO.out.slice
          have hO2 := HO.out.below HAB.out
          have hsz := (B_call HBL.out HAB.out).size
          have hd3 := HD2.out.below HAB.out
          subst hv5
          go_wp2_with (at_builtin; go_loud (refine wpList_append_lies _ rfl _ _ 25 (by rfl) w4.heap.size 40 i0 _ 9 112 Try.underlying25 hi hz0 hz1 hz2 rfl (by omega) (.slice A5 j c5) j (rowOf own) (by rfl) (hO2.own.alloc _) ⟨wc.heap.size, 0, none⟩ 1 1 [.int .u64 pl, .int .i64 kd, .int .i64 k, .int .i64 pg, .int .i64 sl, .string bf, .string af, .string im, .slice A2 n2 c2] (by rfl) (by rfl) (World.news_of_block (heap_alloc_new wc _)) (by simp [Value.oneCell']) (by omega) (by unfold maxLen; omega) (by omega) (by simp; omega) _ rfl ?_); intro gg cap1 w5 hown5 hgrow hat hlt5)
          have hE5 := (hO2.below (B_alloc (Below.refl _ _) _)).push hgrow (e := ⟨pl, kd, k, pg, sl, bf, af, im, .slice A2 n2 c2, dl⟩) hown5 rfl (hd3.below (B_alloc (Below.refl _ _) _))
          have hb5 : Below w4.heap.size w4 w5 := (hO2.below (B_alloc (Below.refl _ _) (.cells #[.int .u64 pl, .int .i64 kd, .int .i64 k, .int .i64 pg, .int .i64 sl, .string bf, .string af, .string im, .slice A2 n2 c2] 40))).stays (Nat.le_refl _) (B_alloc (B_call HBL.out HAB.out) _) hgrow
          clear hown5 hgrow hat
          refine ⟨⟨i + 1, j + 1, _, by omega, by omega, by go_num, hE5, HFO.out.symm, hb5⟩, ?_⟩
          simp [intOf]; omega
        · have htd : (tx == (k : Int)) = false := by simpa using ht
          have hfo := HFT.out
          rw [if_neg (by simpa using ht), List.append_nil] at hfo
          have HFO := hid hfo
          clear hfo
          go_wp2_with fail
          go_roundw
          case rel => exact ⟨i + 1, j, own, by omega, by omega, by go_num, HO.out.below HAB.out, HFO.out.symm, B_call HBL.out HAB.out⟩
          case measure => simp [intOf]; omega
      · obtain rfl : i = m := by omega
        obtain ⟨A5, c5, rfl⟩ := hO.slice
        have hown2 : own = es.filter (fun e => decide (e.tx = (k : Int))) := by rw [hown, ← HEM.out, List.take_length]
        have HO := hid hO
        have HOWN := hid hown2
        have HBL := hid hbl
        clear hO hown hown2 hbl
        go_wp2_with (first
          | (go_at_call 12; (with_reducible refine (analyse_at A1 i c1 es _ HEM.out (by omega) (HR4.out.below HBL.out)).mono ?_); rintro r w6 ⟨⟨p, B, c, hp, rfl, hB⟩, hb6⟩)
          | (go_at_call 12; (with_reducible refine (analyse_at A5 j c5 own _ HO.out.len (by omega) (HO.out.rows.below hb6)).mono ?_); rintro r w7 ⟨⟨q, D, d, hq, rfl, hD⟩, hb7⟩))
        have hbF := B_alloc (B_alloc (B_call (B_call (B_call HBW.out HBL.out) hb6) hb7) (.cells #[.int .u64 p.fr, .slice (B 0) (p.s 0).l.length (c 0), .slice (B 1) (p.s 1).l.length (c 1), .slice (B 2) (p.s 2).l.length (c 2), .slice (B 3) (p.s 3).l.length (c 3), .bool (p.s 0).o, .bool (p.s 1).o, .bool (p.s 2).o, .bool (p.s 3).o] 32)) (.cells #[.int .u64 q.fr, .slice (D 0) (q.s 0).l.length (d 0), .slice (D 1) (q.s 1).l.length (d 1), .slice (D 2) (q.s 2).l.length (d 2), .slice (D 3) (q.s 3).l.length (d 3), .bool (q.s 0).o, .bool (q.s 1).o, .bool (q.s 2).o, .bool (q.s 3).o] 32)
        have hin1 : PlanIn ((w7.alloc (.cells #[.int .u64 p.fr, .slice (B 0) (p.s 0).l.length (c 0), .slice (B 1) (p.s 1).l.length (c 1), .slice (B 2) (p.s 2).l.length (c 2), .slice (B 3) (p.s 3).l.length (c 3), .bool (p.s 0).o, .bool (p.s 1).o, .bool (p.s 2).o, .bool (p.s 3).o] 32)).alloc (.cells #[.int .u64 q.fr, .slice (D 0) (q.s 0).l.length (d 0), .slice (D 1) (q.s 1).l.length (d 1), .slice (D 2) (q.s 2).l.length (d 2), .slice (D 3) (q.s 3).l.length (d 3), .bool (q.s 0).o, .bool (q.s 1).o, .bool (q.s 2).o, .bool (q.s 3).o] 32)) w7.heap.size p B c := (PlanIn.made (c := c) (fun i hi => (hB.out i hi).below hb7)).below (B_alloc (Below.refl _ _) _)
        have hin2 : PlanIn ((w7.alloc (.cells #[.int .u64 p.fr, .slice (B 0) (p.s 0).l.length (c 0), .slice (B 1) (p.s 1).l.length (c 1), .slice (B 2) (p.s 2).l.length (c 2), .slice (B 3) (p.s 3).l.length (c 3), .bool (p.s 0).o, .bool (p.s 1).o, .bool (p.s 2).o, .bool (p.s 3).o] 32)).alloc (.cells #[.int .u64 q.fr, .slice (D 0) (q.s 0).l.length (d 0), .slice (D 1) (q.s 1).l.length (d 1), .slice (D 2) (q.s 2).l.length (d 2), .slice (D 3) (q.s 3).l.length (d 3), .bool (q.s 0).o, .bool (q.s 1).o, .bool (q.s 2).o, .bool (q.s 3).o] 32)) (w7.heap.size + 1) q D d := ⟨new_at _ _ _, fun i hi => ((hD.out i hi).below (B_alloc (Below.refl _ _) _)).below (B_alloc (Below.refl _ _) _)⟩
        obtain ⟨P, hP⟩ : ∃ P, P = w7.heap.size := ⟨_, rfl⟩
        rw [← hP] at hin1 hin2 ⊢
        generalize (w7.alloc (.cells #[.int .u64 p.fr, .slice (B 0) (p.s 0).l.length (c 0), .slice (B 1) (p.s 1).l.length (c 1), .slice (B 2) (p.s 2).l.length (c 2), .slice (B 3) (p.s 3).l.length (c 3), .bool (p.s 0).o, .bool (p.s 1).o, .bool (p.s 2).o, .bool (p.s 3).o] 32)).alloc (.cells #[.int .u64 q.fr, .slice (D 0) (q.s 0).l.length (d 0), .slice (D 1) (q.s 1).l.length (d 1), .slice (D 2) (q.s 2).l.length (d 2), .slice (D 3) (q.s 3).l.length (d 3), .bool (q.s 0).o, .bool (q.s 1).o, .bool (q.s 2).o, .bool (q.s 3).o] 32) = w8 at hbF hin1 hin2 ⊢
        have hpq : q.s k = p.s k := by
          rw [hp.out, hq.out, HOWN.out]
          exact (parts_anal k hk1 (by omega) es).symm
        obtain ⟨k3, hk3e⟩ : ∃ k3 : Nat, k3 = 3 - k := ⟨_, rfl⟩
        have hother : q.s k3 = ⟨[], false⟩ := by
          rw [hq.out, HOWN.out]
          exact other_anal k k3 hk1 (by omega) (by omega) es
        have hsub : IntKind.i64.wrap ((3 : Int) - (k : Int)) = (k3 : Int) := by rw [IntKind.wrap_i64]; omega
        have hsub2 : (3 : Int) - (k : Int) = (k3 : Int) := by omega
        have hka : (0 : Int) ≤ (k : Int) := by omega
        have hkb : (k : Int) < 4 := by omega
        have hkc : (0 : Int) ≤ (k3 : Int) := by omega
        have hkd : (k3 : Int) < 4 := by omega
        obtain ⟨o, ho⟩ : ∃ o, o = (p.s k).o := ⟨_, rfl⟩
        obtain ⟨L, hL⟩ : ∃ L, L = (p.s k).l.length := ⟨_, rfl⟩
        have hLb : L ≤ 100 := by
          rw [hL, hp.out]
          show (if k = 0 then _ else (planOf es).s k).l.length ≤ 100
          rw [if_neg (by omega)]
          exact Nat.le_trans (planOf_len es k) (by rw [HEM.out]; omega)
        have e1 := plan_cell hin1.blk (i := k) (by omega)
        have e2 := plan_open hin1.blk (i := k) (by omega)
        have e3 := plan_cell hin2.blk (i := k) (by omega)
        have e4 := plan_open hin2.blk (i := k) (by omega)
        have e5 := plan_open hin2.blk (i := k3) (by omega)
        rw [hpq, ← hL] at e3
        rw [hpq, ← ho] at e4
        rw [hother] at e5
        rw [← hL] at e1
        rw [← ho] at e2
        have HIN1 := hid hin1
        have HIN2 := hid hin2
        have HPQ := hid hpq
        have HL := hid hL
        have HBF := hid hbF
        clear hP hin1 hin2 hpq hother ho hL hk3e hp hq hbF hb6 hb7 HOWN HO HBL HBW hB hD
        go_quiet (fail)
        generalize hw9 : w8.drewN _ = w9
        have hh9 : w9.heap = w8.heap := by rw [← hw9]; rfl
        have hb9 : Below w.heap.size w w9 := by rw [← hw9]; exact below_drewN HBF.out _
        clear hw9 e1 e2 e3 e4 e5
        have e1 := plan_cell (HIN1.out.heap hh9).blk (i := k) (by omega)
        rw [← HL.out] at e1
        have HH9 := hid hh9
        have HB9 := hid hb9
        clear hh9 hb9
        go_wp2_with fail
        go_loopw [76] (fun u wr => ∃ i2 : Nat, i2 ≤ L ∧ u = .int .i64 i2 ∧ wr.heap = w8.heap ∧ Below w.heap.size w wr) (fun u _ => ((L : Int) - intOf u).toNat)
        case atStart => exact ⟨0, by omega, rfl, HH9.out, HB9.out⟩
        case round =>
          obtain ⟨i2, hi2, rfl, hh, hbb⟩ := hrel
          have hpi1 := HIN1.out.heap hh
          have hpi2 := HIN2.out.heap hh
          have HHH := hid hh
          have HBB := hid hbb
          clear hh hbb e1
          by_cases hlt2 : i2 < L
          · have f1 := plan_cell hpi1.blk (i := k) (by omega)
            have f2 := plan_cell hpi2.blk (i := k) (by omega)
            have f3 := hpi1.chg k (by omega)
            have f4 := hpi2.chg k (by omega)
            rw [HPQ.out] at f2 f4
            rw [← HL.out] at f1 f2
            obtain ⟨g1, hg1, c0, c1, c2⟩ := f3 i2 (by rw [← HL.out]; exact hlt2)
            obtain ⟨g2, hg2, d0, d1, d2⟩ := f4 i2 (by rw [← HL.out]; exact hlt2)
            rw [hg1] at f1
            rw [hg2] at f2
            generalize ((p.s k).l[i2]'(by rw [← HL.out]; exact hlt2)) = ch at c0 c1 c2 d0 d1 d2
            clear f3 f4 hg1 hg2 hpi1 hpi2
            have hia : (0 : Int) ≤ (i2 : Int) := by omega
            have hib : (i2 : Int) < (L : Int) := by omega
            go_upto_region 20 with fail
            go_quiet (fail)
            go_wp2_with fail
            refine ⟨⟨i2 + 1, by omega, by go_num, HHH.out, below_drewN HBB.out _⟩, ?_⟩
            simp [intOf]; omega
          · obtain rfl : i2 = L := by omega
            go_wp2_with fail
            go_ret
            exact ⟨rfl, HBB.out⟩

end Go.Proofs.Ytcolblmhopjgpaa
