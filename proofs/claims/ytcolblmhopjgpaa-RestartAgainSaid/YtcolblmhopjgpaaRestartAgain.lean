/-
  RestartAgain walked.
-/
import Derived.Test.YtcolblmhopjgpaaRst10
namespace Go.Proofs.Ytcolblmhopjgpaa
open Go.RowKit

theorem loop_length (b : ByteArray) : ∀ (n i : Nat) (r : List UInt8), b.size - i = n → (ByteArray.toList.loop b i r).length = r.length + n
  | 0, i, r, h => by
    unfold ByteArray.toList.loop
    rw [if_neg (by omega)]
    simp
  | n + 1, i, r, h => by
    unfold ByteArray.toList.loop
    rw [if_pos (by omega), loop_length b n (i + 1) _ (by omega)]
    simp; omega
theorem toList_empty (b : ByteArray) : b.toList.isEmpty = decide (b.size = 0) := by
  have h := loop_length b b.size 0 [] (by omega)
  have h2 : b.toList.length = b.size := by simpa [ByteArray.toList] using h
  rw [← h2]
  cases b.toList <;> simp

theorem again_at (fr : Int) (v0 v1 v2 v3 : Value) (o0 o1 o2 o3 : Bool) (pl kd tx pg sl : Int) (bf af im : ByteArray) (A : Option Addr) (n c : Nat) (mark : Int) (torn : Bool) (w : World) :
    Calls Try.prog 13 #[.agg #[.int .u64 fr, v0, v1, v2, v3, .bool o0, .bool o1, .bool o2, .bool o3], .agg #[.int .u64 pl, .int .i64 kd, .int .i64 tx, .int .i64 pg, .int .i64 sl, .string bf, .string af, .string im, .slice A n c], .int .u64 mark, .bool torn] w fun r w' =>
      r = .returned (.bool (againB fr ⟨pl, kd, tx, pg, sl, bf, af, im, .slice A n c, []⟩ mark torn)) ∧ Below w.heap.size w w' :=
  again_any fr v0 v1 v2 v3 o0 o1 o2 o3 ⟨pl, kd, tx, pg, sl, bf, af, im, .slice A n c, []⟩ mark torn w

set_option maxRecDepth 100000 in
set_option maxHeartbeats 3200000 in
theorem again_law (A : Option Addr) (len cap : Nat) (mark : Int) (torn : Bool) (w : World) (hlen : len ≤ 9223372036854775807) (hs : SeedsIn w A len) :
    Calls Try.prog 8 #[.slice A len cap, .int .u64 mark, .bool torn] w fun r w' => r = .returned (.bool true) ∧ Below w.heap.size w w' := by
  have HS := hid hs
  have HLEN := hid hlen
  clear hs hlen
  go_enter Try.func8, Try.ntmps8
  go_upto_region 5 with (first
    | (go_at_call 9; (with_reducible refine (fit_any _).mono ?_); rintro r wa ⟨rfl, hba⟩)
    | (go_at_call 10; (with_reducible refine (light_res A len cap _ HLEN.out (HS.out.below hba)).mono ?_); rintro r wb ⟨⟨q, rfl, hq⟩, hbb⟩; rcases q with _ | _))
  · go_ret
    exact ⟨rfl, B_call hba hbb⟩
  · have hb := B_call hba hbb
    have hs2 := HS.out.below hb
    have hq2 : len ≤ 100 := by simpa using hq
    clear hba hbb hq
    have HB := hid hb
    have HS2 := hid hs2
    have HQ := hid hq2
    clear hb hs2 hq2
    go_upto_region 7 with (first
      | (go_at_call 11; (with_reducible refine (entries_at A len cap _ HQ.out HS2.out).mono ?_); rintro r wc ⟨⟨A1, m, c1, es, rfl, hl, hE, _⟩, hbc⟩)
      | (go_at_call 12; (refine (analyse_at A1 m c1 es _ hE.len (by omega) hE.rows).mono ?_); rintro r w3 ⟨⟨p, B, c, hp, rfl, hB⟩, hb3⟩))
    have hin := (PlanIn.made (c := c) hB.out).blk
    have hbW := B_alloc (B_call (B_call HB.out hbc) hb3) (.cells #[.int .u64 p.fr, .slice (B 0) (p.s 0).l.length (c 0), .slice (B 1) (p.s 1).l.length (c 1), .slice (B 2) (p.s 2).l.length (c 2), .slice (B 3) (p.s 3).l.length (c 3), .bool (p.s 0).o, .bool (p.s 1).o, .bool (p.s 2).o, .bool (p.s 3).o] 32)
    have hR4 := (hE.rows.below hb3).below (B_alloc (Below.refl _ _) (.cells #[.int .u64 p.fr, .slice (B 0) (p.s 0).l.length (c 0), .slice (B 1) (p.s 1).l.length (c 1), .slice (B 2) (p.s 2).l.length (c 2), .slice (B 3) (p.s 3).l.length (c 3), .bool (p.s 0).o, .bool (p.s 1).o, .bool (p.s 2).o, .bool (p.s 3).o] 32))
    have hem := hE.len
    obtain ⟨P, hP⟩ : ∃ P, P = w3.heap.size := ⟨_, rfl⟩
    rw [← hP] at hin ⊢
    generalize w3.alloc (.cells #[.int .u64 p.fr, .slice (B 0) (p.s 0).l.length (c 0), .slice (B 1) (p.s 1).l.length (c 1), .slice (B 2) (p.s 2).l.length (c 2), .slice (B 3) (p.s 3).l.length (c 3), .bool (p.s 0).o, .bool (p.s 1).o, .bool (p.s 2).o, .bool (p.s 3).o] 32) = w4 at hin hbW hR4 ⊢
    have HBW := hid hbW
    have HR4 := hid hR4
    have HEM := hid hem
    have HIN := hid hin
    clear hP hp hB hb3 hE hbc hbW hR4 hem hin HS2 HS HQ HB
    go_wp2_with fail
    generalize bits .and .u64 mark 1023 = mk
    go_loopw [25] (fun u wr => ∃ k : Nat, k ≤ m ∧ u = .int .i64 k ∧ Below w4.heap.size w4 wr) (fun u _ => ((m : Int) - intOf u).toNat)
    case atStart => exact ⟨0, by omega, rfl, Below.refl _ _⟩
    case round =>
      obtain ⟨i, hi, rfl, hbl⟩ := hrel
      by_cases hlt : i < m
      · obtain ⟨b, off, hA1, hEt, hD⟩ := HR4.out i (by rw [HEM.out]; exact hlt)
        subst hA1
        have hD2 := hD
        obtain ⟨e, he⟩ : ∃ e, e = es[i]'(by rw [HEM.out]; exact hlt) := ⟨_, rfl⟩
        rw [← he] at hEt hD2
        clear he hD
        obtain ⟨A2, n2, c2, hdv⟩ := hD2.slice
        clear hD2
        obtain ⟨a0, a1, a2, a3, a4, a5, a6, a7, a8⟩ := hEt.below hbl
        clear hEt
        obtain ⟨pl, kd, tx, pg, sl, bf, af, im, dv, dl⟩ := e
        simp only at hdv a0 a1 a2 a3 a4 a5 a6 a7 a8
        subst hdv
        go_upto_region 11 with fail
        have hAB : Below wr.heap.size wr (wr.alloc (.cells #[.int .u64 pl, .int .i64 kd, .int .i64 tx, .int .i64 pg, .int .i64 sl, .string bf, .string af, .string im, .slice A2 n2 c2] 40)) := B_alloc (Below.refl _ _) _
        have hgb := heap_alloc_new wr (.cells #[.int .u64 pl, .int .i64 kd, .int .i64 tx, .int .i64 pg, .int .i64 sl, .string bf, .string af, .string im, .slice A2 n2 c2] 40)
        generalize wr.alloc (.cells #[.int .u64 pl, .int .i64 kd, .int .i64 tx, .int .i64 pg, .int .i64 sl, .string bf, .string af, .string im, .slice A2 n2 c2] 40) = W2 at hAB hgb ⊢
        have hb5 := B_call hbl hAB
        obtain ⟨B1, hB1⟩ : ∃ B1, B1 = wr.heap.size := ⟨_, rfl⟩
        rw [← hB1] at hgb ⊢
        clear hB1 hAB a0 a1 a2 a3 a4 a5 a6 a7 a8 hbl
        have x0 : W2.cell? ⟨B1, 0, none⟩ = some (.int .u64 pl) := cell_of_row W2 _ 0 _ _ _ hgb
        have x1 : W2.cell? ⟨B1, 1, none⟩ = some (.int .i64 kd) := cell_of_row W2 _ 1 _ _ _ hgb
        have hin5 := blk_keep hb5 HIN.out
        have y0 : W2.cell? ⟨P, 0, none⟩ = some (.int .u64 p.fr) := cell_of_row W2 _ 0 _ _ _ hin5
        have HB5 := hid hb5
        have HGB := hid hgb
        have HIN5 := hid hin5
        clear hb5 hgb hin5
        go_cut [11] (fun s wx => s = .bool ((decide (kd = 3) || decide (kd = 4)) && decide (p.fr ≤ pl)) ∧ wx = W2)
        case first =>
          by_cases h3 : kd = 3
          · subst h3
            by_cases hf : p.fr ≤ pl
            · have hd : decide (p.fr ≤ pl) = true := by simpa using hf
              go_wp2_with fail
              go_meet
              exact ⟨by simp [hf], rfl⟩
            · have hd : decide (p.fr ≤ pl) = false := by simpa using hf
              go_wp2_with fail
              go_meet
              exact ⟨by simp [hf], rfl⟩
          · have hd3 : (kd == 3) = false := by simpa using h3
            by_cases h4 : kd = 4
            · subst h4
              by_cases hf : p.fr ≤ pl
              · have hd : decide (p.fr ≤ pl) = true := by simpa using hf
                go_wp2_with fail
                go_meet
                exact ⟨by simp [hf], rfl⟩
              · have hd : decide (p.fr ≤ pl) = false := by simpa using hf
                go_wp2_with fail
                go_meet
                exact ⟨by simp [hf], rfl⟩
            · have hd4 : (kd == 4) = false := by simpa using h4
              go_wp2_with fail
              go_meet
              exact ⟨by simp [h3, h4], rfl⟩
        case rest =>
          obtain ⟨rfl, rfl⟩ := hcut
          obtain ⟨q1, hq1⟩ : ∃ q1, q1 = ((decide (kd = 3) || decide (kd = 4)) && decide (p.fr ≤ pl)) := ⟨_, rfl⟩
          rw [← hq1]
          obtain ⟨ag, hag⟩ : ∃ ag, ag = againB p.fr ⟨pl, kd, tx, pg, sl, bf, af, im, .slice A2 n2 c2, []⟩ mk torn := ⟨_, rfl⟩
          have HAG := hid hag
          have HQ1 := hid hq1
          clear hag hq1
          go_upto_if 46 with fail
          go_cut [11] (fun s wx => s = .bool ag ∧ wx = wc)
          case first =>
            have hag : ag = (q1 && (if torn = true then !decide (im.size = 0) else decide (mk < pl))) := by rw [HAG.out, HQ1.out, ← toList_empty]; rfl
            have HAG2 := hid hag
            clear hag
            rcases torn with _ | _
            · rcases q1 with _ | _
              · go_wp2_with fail
                go_meet
                exact ⟨by rw [HAG2.out]; rfl, rfl⟩
              · by_cases hm : mk < pl
                · have hd : decide (mk < pl) = true := by simpa using hm
                  go_wp2_with fail
                  go_meet
                  exact ⟨by rw [HAG2.out]; simp [hm], rfl⟩
                · have hd : decide (mk < pl) = false := by simpa using hm
                  go_wp2_with fail
                  go_meet
                  exact ⟨by rw [HAG2.out]; simp [hm], rfl⟩
            · have x7 : wc.cell? ⟨B1, 7, none⟩ = some (.string im) := cell_of_row wc _ 7 _ _ _ HGB.out
              rcases q1 with _ | _
              · go_wp2_with fail
                go_meet
                exact ⟨by rw [HAG2.out]; rfl, rfl⟩
              · by_cases hm : im.size = 0
                · have hd : decide ((0 : Int) < (im.size : Int)) = false := decide_eq_false (by omega)
                  go_wp2_with fail
                  go_meet
                  exact ⟨by rw [HAG2.out, decide_eq_true hm]; rfl, rfl⟩
                · have hd : decide ((0 : Int) < (im.size : Int)) = true := decide_eq_true (by omega)
                  go_wp2_with fail
                  go_meet
                  exact ⟨by rw [HAG2.out, decide_eq_false hm, decide_eq_true (show 0 < im.size by omega)]; simp, rfl⟩
          case rest =>
            obtain ⟨rfl, rfl⟩ := hcut
            have x2 : wc.cell? ⟨B1, 2, none⟩ = some (.int .i64 tx) := cell_of_row wc _ 2 _ _ _ HGB.out
            have x3 : wc.cell? ⟨B1, 3, none⟩ = some (.int .i64 pg) := cell_of_row wc _ 3 _ _ _ HGB.out
            have x4 : wc.cell? ⟨B1, 4, none⟩ = some (.int .i64 sl) := cell_of_row wc _ 4 _ _ _ HGB.out
            have x5 : wc.cell? ⟨B1, 5, none⟩ = some (.string bf) := cell_of_row wc _ 5 _ _ _ HGB.out
            have x6 : wc.cell? ⟨B1, 6, none⟩ = some (.string af) := cell_of_row wc _ 6 _ _ _ HGB.out
            have x7 : wc.cell? ⟨B1, 7, none⟩ = some (.string im) := cell_of_row wc _ 7 _ _ _ HGB.out
            have x8 : wc.cell? ⟨B1, 8, none⟩ = some (.slice A2 n2 c2) := cell_of_row wc _ 8 _ _ _ HGB.out
            have y1 : wc.cell? ⟨P, 1, none⟩ = some (.slice (B 0) (p.s 0).l.length (c 0)) := cell_of_row wc _ 1 _ _ _ HIN5.out
            have y2 : wc.cell? ⟨P, 2, none⟩ = some (.slice (B 1) (p.s 1).l.length (c 1)) := cell_of_row wc _ 2 _ _ _ HIN5.out
            have y3 : wc.cell? ⟨P, 3, none⟩ = some (.slice (B 2) (p.s 2).l.length (c 2)) := cell_of_row wc _ 3 _ _ _ HIN5.out
            have y4 : wc.cell? ⟨P, 4, none⟩ = some (.slice (B 3) (p.s 3).l.length (c 3)) := cell_of_row wc _ 4 _ _ _ HIN5.out
            have y5 : wc.cell? ⟨P, 5, none⟩ = some (.bool (p.s 0).o) := cell_of_row wc _ 5 _ _ _ HIN5.out
            have y6 : wc.cell? ⟨P, 6, none⟩ = some (.bool (p.s 1).o) := cell_of_row wc _ 6 _ _ _ HIN5.out
            have y7 : wc.cell? ⟨P, 7, none⟩ = some (.bool (p.s 2).o) := cell_of_row wc _ 7 _ _ _ HIN5.out
            have y8 : wc.cell? ⟨P, 8, none⟩ = some (.bool (p.s 3).o) := cell_of_row wc _ 8 _ _ _ HIN5.out
            go_wp2_with (go_at_call 13; (refine (again_at _ _ _ _ _ _ _ _ _ pl kd tx pg sl bf af im A2 n2 c2 mk torn _).mono ?_); rintro r w6 ⟨rfl, hb6⟩; rw [← HAG.out])
            go_roundw
            case rel => exact ⟨i + 1, by omega, by go_num, B_call HB5.out hb6⟩
            case measure => simp [intOf]; omega
      · obtain rfl : i = m := by omega
        have hinr := blk_keep hbl HIN.out
        have hbr := B_call HBW.out hbl
        have y0 : wr.cell? ⟨P, 0, none⟩ = some (.int .u64 p.fr) := cell_of_row wr _ 0 _ _ _ hinr
        have y1 : wr.cell? ⟨P, 1, none⟩ = some (.slice (B 0) (p.s 0).l.length (c 0)) := cell_of_row wr _ 1 _ _ _ hinr
        have y2 : wr.cell? ⟨P, 2, none⟩ = some (.slice (B 1) (p.s 1).l.length (c 1)) := cell_of_row wr _ 2 _ _ _ hinr
        have y3 : wr.cell? ⟨P, 3, none⟩ = some (.slice (B 2) (p.s 2).l.length (c 2)) := cell_of_row wr _ 3 _ _ _ hinr
        have y4 : wr.cell? ⟨P, 4, none⟩ = some (.slice (B 3) (p.s 3).l.length (c 3)) := cell_of_row wr _ 4 _ _ _ hinr
        have y5 : wr.cell? ⟨P, 5, none⟩ = some (.bool (p.s 0).o) := cell_of_row wr _ 5 _ _ _ hinr
        have y6 : wr.cell? ⟨P, 6, none⟩ = some (.bool (p.s 1).o) := cell_of_row wr _ 6 _ _ _ hinr
        have y7 : wr.cell? ⟨P, 7, none⟩ = some (.bool (p.s 2).o) := cell_of_row wr _ 7 _ _ _ hinr
        have y8 : wr.cell? ⟨P, 8, none⟩ = some (.bool (p.s 3).o) := cell_of_row wr _ 8 _ _ _ hinr
        clear hbl
        have HBR := hid hbr
        clear hbr hinr
        go_wp2_with (go_at_call 13; (refine (again_at _ _ _ _ _ _ _ _ _ 1152921504606846976 5 0 0 0 ⟨#[]⟩ ⟨#[]⟩ ⟨#[]⟩ none 0 0 0 torn _).mono ?_); rintro r w6 ⟨rfl, hb6⟩; rw [show againB p.fr ⟨1152921504606846976, 5, 0, 0, 0, ⟨#[]⟩, ⟨#[]⟩, ⟨#[]⟩, .slice none 0 0, []⟩ 0 torn = false by simp [againB]])
        go_ret
        exact ⟨rfl, B_call HBR.out hb6⟩

end Go.Proofs.Ytcolblmhopjgpaa
