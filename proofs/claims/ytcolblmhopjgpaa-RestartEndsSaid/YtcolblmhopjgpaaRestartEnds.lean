/-
  RestartEnds walked.
-/
import Derived.Test.YtcolblmhopjgpaaRst10
namespace Go.Proofs.Ytcolblmhopjgpaa
open Go.RowKit

set_option maxRecDepth 100000 in
set_option maxHeartbeats 3200000 in
theorem ends_any (A : Option Addr) (len cap : Nat) (n : Int) (e : Bool) (w : World) (hlen : len ≤ 9223372036854775807) (hs : SeedsIn w A len) :
    Calls Try.prog 5 #[.slice A len cap, .int .i64 n, .bool e] w fun r w' => r = .returned (.bool true) ∧ Below w.heap.size w w' := by
  obtain ⟨i0, hi, hz0, hz1, hz2⟩ := info_parts info40
  obtain ⟨k, hk1, hk4, hk⟩ := mod3 n
  have HK := hid hk
  have HS := hid hs
  have HLEN := hid hlen
  clear hs hlen hk
  go_enter Try.func5, Try.ntmps5
  go_upto_region 6 with (first
    | (go_at_call 9; (with_reducible refine (fit_any _).mono ?_); rintro r wa ⟨rfl, hba⟩)
    | (go_at_call 10; (with_reducible refine (light_res A len cap _ HLEN.out (HS.out.below hba)).mono ?_); rintro r wb ⟨⟨q, rfl, hq⟩, hbb⟩; rcases q with _ | _))
  · go_ret
    exact ⟨rfl, B_call hba hbb⟩
  · have hb := B_call hba hbb
    have hs2 := HS.out.below hb
    have hq2 : len ≤ 100 := by simpa using hq
    rw [HK.out]
    clear hba hbb hq
    have HB := hid hb
    have HS2 := hid hs2
    have HQ := hid hq2
    clear hb hs2 hq2
    go_upto_if 23 with (go_at_call 11; (with_reducible refine (entries_at A len cap _ HQ.out HS2.out).mono ?_); rintro r wc ⟨⟨A1, m, c1, es, rfl, hl, hE, _⟩, hbc⟩)
    go_cut [8] (fun s wx => ∃ kd : Int, s = .int .i64 kd ∧ (kd = 5 ∨ kd = 6) ∧ wx = wc)
    case first =>
      rcases e with _ | _
      · go_wp2_with fail
        go_meet
        exact ⟨5, rfl, .inl rfl, rfl⟩
      · go_wp2_with fail
        go_meet
        exact ⟨6, rfl, .inr rfl, rfl⟩
    case rest =>
      rename World => wd
      obtain ⟨kd, rfl, h56, rfl⟩ := hcut
      have hk1' : (0 : Int) ≤ (k : Int) := by omega
      have hk4' : (k : Int) < 4 := by omega
      have hBd := HB.out
      have hbs := hbc.size
      go_upto_region 11 with (at_builtin; go_loud (refine wpList_append_lies _ rfl _ _ 25 (by rfl) wb.heap.size 40 i0 _ 9 112 Try.underlying25 hi hz0 hz1 hz2 rfl (by omega) (.slice A1 m c1) m (rowOf es) (by rfl) (hE.own.alloc _) ⟨wd.heap.size, 0, none⟩ 1 1 [.int .u64 5000, .int .i64 kd, .int .i64 k, .int .i64 0, .int .i64 0, .string ⟨#[]⟩, .string ⟨#[]⟩, .string ⟨#[]⟩, .slice none 0 0] (by rfl) (by rfl) (World.news_of_block (heap_alloc_new wd _)) (by simp [Value.oneCell']) (by omega) (by unfold maxLen; omega) (by omega) (by simp; omega) _ rfl ?_); intro gg cap1 w2 hown2 hgrow hat hlt2)
      have hE2 := (hE.below (B_alloc (Below.refl _ _) _)).push hgrow (e := ⟨5000, kd, k, 0, 0, ⟨#[]⟩, ⟨#[]⟩, ⟨#[]⟩, .slice none 0 0, []⟩) hown2 rfl (.inl ⟨rfl, rfl⟩)
      have hb2 : Below w.heap.size w w2 := (hE.below (B_alloc (Below.refl _ _) (.cells #[.int .u64 5000, .int .i64 kd, .int .i64 k, .int .i64 0, .int .i64 0, .string ⟨#[]⟩, .string ⟨#[]⟩, .string ⟨#[]⟩, .slice none 0 0] 40))).stays hBd.size (B_alloc (B_call hBd hbc) _) hgrow
      have HE2 := hid hE2
      have HB2 := hid hb2
      have hws2 : wb.heap.size ≤ w2.heap.size := Nat.le_trans hbs (Nat.le_trans (by simp) hgrow.size)
      clear hown2 hgrow hat hE2 hb2 hE hbc
      go_upto_region 12 with (go_at_call 12; (refine (analyse_at _ (m + 1) cap1 _ _ HE2.out.len (by omega) HE2.out.rows).mono ?_); rintro r w3 ⟨⟨p, B, c, hp, rfl, hB⟩, hb3⟩)
      have hsl : k = slotOf (k : Int) := by unfold slotOf; rw [if_neg (by omega)]; omega
      have hp1 : p.s k = ⟨[], false⟩ := by rw [hp.out]; exact anal_end es ⟨5000, kd, k, 0, 0, ⟨#[]⟩, ⟨#[]⟩, ⟨#[]⟩, .slice none 0 0, []⟩ k hsl h56
      have hin := (PlanIn.made (c := c) hB.out).blk
      have hbW := B_alloc (B_call HB2.out hb3) (.cells #[.int .u64 p.fr, .slice (B 0) (p.s 0).l.length (c 0), .slice (B 1) (p.s 1).l.length (c 1), .slice (B 2) (p.s 2).l.length (c 2), .slice (B 3) (p.s 3).l.length (c 3), .bool (p.s 0).o, .bool (p.s 1).o, .bool (p.s 2).o, .bool (p.s 3).o] 32)
      have hbX := B_alloc hb3 (.cells #[.int .u64 p.fr, .slice (B 0) (p.s 0).l.length (c 0), .slice (B 1) (p.s 1).l.length (c 1), .slice (B 2) (p.s 2).l.length (c 2), .slice (B 3) (p.s 3).l.length (c 3), .bool (p.s 0).o, .bool (p.s 1).o, .bool (p.s 2).o, .bool (p.s 3).o] 32)
      obtain ⟨P, hP⟩ : ∃ P, P = w3.heap.size := ⟨_, rfl⟩
      rw [← hP] at hin ⊢
      generalize w3.alloc (.cells #[.int .u64 p.fr, .slice (B 0) (p.s 0).l.length (c 0), .slice (B 1) (p.s 1).l.length (c 1), .slice (B 2) (p.s 2).l.length (c 2), .slice (B 3) (p.s 3).l.length (c 3), .bool (p.s 0).o, .bool (p.s 1).o, .bool (p.s 2).o, .bool (p.s 3).o] 32) = w4 at hin hbW hbX ⊢
      have hE4 := HE2.out.below hbX
      have hle := HB2.out.size
      have hlt4 := (hE4.own.lt)
      have HIN := hid hin
      have HBW := hid hbW
      have hsz4 := hbW.size
      have hwb : wb.heap.size ≤ w4.heap.size := Nat.le_trans hws2 hbX.size
      have HSL := hid hsl
      have HP1 := hid hp1
      clear hin hbW hbX hP hp hB hb3 HB2 HE2 hlt4 hle hsl hp1
      go_upto_region 13 with (first
        | (at_builtin; go_loud (refine wpList_append_lies _ rfl _ _ 25 (by rfl) wb.heap.size 40 i0 _ 9 112 Try.underlying25 hi hz0 hz1 hz2 rfl (by omega) (.slice (some ⟨gg, 0, none⟩) (m + 1) cap1) (m + 1) (rowOf (es ++ [⟨5000, kd, k, 0, 0, ⟨#[]⟩, ⟨#[]⟩, ⟨#[]⟩, .slice none 0 0, []⟩])) (by rfl) (hE4.own.alloc _) ⟨w4.heap.size, 0, none⟩ 1 1 [.int .u64 5010, .int .i64 3, .int .i64 k, .int .i64 0, .int .i64 4, .string ⟨#[]⟩, .string ⟨#[]⟩, .string ⟨#[]⟩, .slice none 0 0] (by rfl) (by rfl) (World.news_of_block (heap_alloc_new w4 _)) (by simp [Value.oneCell']) (by omega) (by unfold maxLen; omega) (by omega) (by simp; omega) _ rfl ?_); intro g5 cap5 w5 hown5 hgrow5 hat5 hlt5)
        | (go_at_call 12; (refine (analyse_at _ (m + 1 + 1) cap5 _ _ ((hE4.below (B_alloc (Below.refl _ _) _)).push hgrow5 (e := ⟨5010, 3, k, 0, 4, ⟨#[]⟩, ⟨#[]⟩, ⟨#[]⟩, .slice none 0 0, []⟩) hown5 rfl (.inl ⟨rfl, rfl⟩)).len (by omega) ((hE4.below (B_alloc (Below.refl _ _) _)).push hgrow5 (e := ⟨5010, 3, k, 0, 4, ⟨#[]⟩, ⟨#[]⟩, ⟨#[]⟩, .slice none 0 0, []⟩) hown5 rfl (.inl ⟨rfl, rfl⟩)).rows).mono ?_); rintro r w6 ⟨⟨q, D, d, hq, rfl, hD⟩, hb6⟩))
      have hq1 : q.s k = ⟨[⟨0, 4, ⟨#[]⟩⟩], true⟩ := by
        rw [hq.out]
        exact anal_end_more es ⟨5000, kd, k, 0, 0, ⟨#[]⟩, ⟨#[]⟩, ⟨#[]⟩, .slice none 0 0, []⟩ ⟨5010, 3, k, 0, 4, ⟨#[]⟩, ⟨#[]⟩, ⟨#[]⟩, .slice none 0 0, []⟩ k (by omega) HSL.out h56 HSL.out rfl
      have hb5 := (hE4.below (B_alloc (Below.refl _ _) (.cells #[.int .u64 5010, .int .i64 3, .int .i64 k, .int .i64 0, .int .i64 4, .string ⟨#[]⟩, .string ⟨#[]⟩, .string ⟨#[]⟩, .slice none 0 0] 40))).stays hBd.size (B_alloc HBW.out _) hgrow5
      have hblk5 := (hE4.below (B_alloc (Below.refl _ _) (.cells #[.int .u64 5010, .int .i64 3, .int .i64 k, .int .i64 0, .int .i64 4, .string ⟨#[]⟩, .string ⟨#[]⟩, .string ⟨#[]⟩, .slice none 0 0] 40))).blk hgrow5 (blk_alloc HIN.out) (by decide)
      have hin2 := PlanIn.made (c := d) hD.out
      have hblk7 := blk_keep (B_alloc hb6 (.cells #[.int .u64 q.fr, .slice (D 0) (q.s 0).l.length (d 0), .slice (D 1) (q.s 1).l.length (d 1), .slice (D 2) (q.s 2).l.length (d 2), .slice (D 3) (q.s 3).l.length (d 3), .bool (q.s 0).o, .bool (q.s 1).o, .bool (q.s 2).o, .bool (q.s 3).o] 32)) hblk5
      have hb7 := B_alloc (B_call hb5 hb6) (.cells #[.int .u64 q.fr, .slice (D 0) (q.s 0).l.length (d 0), .slice (D 1) (q.s 1).l.length (d 1), .slice (D 2) (q.s 2).l.length (d 2), .slice (D 3) (q.s 3).l.length (d 3), .bool (q.s 0).o, .bool (q.s 1).o, .bool (q.s 2).o, .bool (q.s 3).o] 32)
      obtain ⟨P2, hP2⟩ : ∃ P2, P2 = w6.heap.size := ⟨_, rfl⟩
      rw [← hP2] at hin2 ⊢
      generalize w6.alloc (.cells #[.int .u64 q.fr, .slice (D 0) (q.s 0).l.length (d 0), .slice (D 1) (q.s 1).l.length (d 1), .slice (D 2) (q.s 2).l.length (d 2), .slice (D 3) (q.s 3).l.length (d 3), .bool (q.s 0).o, .bool (q.s 1).o, .bool (q.s 2).o, .bool (q.s 3).o] 32) = w7 at hin2 hblk7 hb7 ⊢
      have e1 := plan_open hblk7 hk4
      have e2 := plan_cell hblk7 hk4
      have e3 := plan_open hin2.blk hk4
      have e4 := plan_cell hin2.blk hk4
      have e5 := hin2.chg k hk4
      rw [HP1.out] at e1 e2
      rw [hq1] at e3 e4 e5
      obtain ⟨g, hg, _, e6, _⟩ := e5 0 (by decide)
      rw [hg] at e4
      simp only [List.length_cons, List.length_nil, Nat.reduceAdd, Nat.zero_mul, List.getElem_cons_zero] at e2 e4 e6
      have HB7 := hid hb7
      clear hP2 hq1 hq hD hb5 hblk5 hin2 hblk7 hb7 hb6 hg hE4 HP1 HSL hgrow5 hat5 hlt5 hown5 e5
      go_wp2_with fail
      go_ret
      exact ⟨rfl, HB7.out⟩

end Go.Proofs.Ytcolblmhopjgpaa
