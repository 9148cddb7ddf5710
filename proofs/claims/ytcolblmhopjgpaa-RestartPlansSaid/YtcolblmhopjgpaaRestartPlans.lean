/-
  RestartPlans walked.
-/
import Derived.Test.YtcolblmhopjgpaaRst12
namespace Go.Proofs.Ytcolblmhopjgpaa
open Go.RowKit

theorem plan_heap {w w' : World} {P : Nat} {p : Pln} {A : Nat → Option Addr} {c : Nat → Nat} (h : PlanIn w P p A c) (b : w'.heap = w.heap) : PlanIn w' P p A c := by
  refine ⟨by rw [b]; exact h.blk, fun i hi j hj => ?_⟩
  obtain ⟨g, h1, h2, h3, h4⟩ := h.chg i hi j hj
  have hc : ∀ a, w'.cell? a = w.cell? a := fun a => World.cell?_of_block (by rw [b])
  exact ⟨g, h1, (hc _).trans h2, (hc _).trans h3, (hc _).trans h4⟩
theorem own_less {w : World} {B n c : Nat} {A : Option Addr} {l : List Chg} (h : w.ownsRow B 42 3 (.slice A n c) n (chgs l)) (hn : n = l.length) : w.ownsRow B 42 3 (.slice A (n - 1) c) l.dropLast.length (chgs l.dropLast) := by
  subst hn
  by_cases h0 : l = []
  · subst h0; exact h
  · have hne : 0 < l.length := List.length_pos_iff.2 h0
    obtain ⟨g, cap, hf, _, _⟩ := h.form hne
    injection hf with hf _ hc
    subst hf
    have hdl : l.length = l.dropLast.length + 1 := by rw [List.length_dropLast]; omega
    have hc2 := h
    rw [← List.dropLast_concat_getLast h0, chgs_snoc] at hc2
    rw [show (l.dropLast ++ [l.getLast h0]).length = l.dropLast.length + 1 by simp] at hc2
    have := ownsRow_pop (by rw [chgs_length]) hc2
    rw [hdl, Nat.add_sub_cancel]
    exact this

set_option maxRecDepth 100000 in
set_option maxHeartbeats 6400000 in
theorem plans_law (A : Option Addr) (len cap : Nat) (w : World) (hlen : len ≤ 9223372036854775807) (hs : SeedsIn w A len) :
    Calls Try.prog 3 #[.slice A len cap] w fun r w' => r = .returned (.bool true) ∧ Below w.heap.size w w' := by
  obtain ⟨i0, hi, hz0, hz1, hz2⟩ := info_parts info42
  have HS := hid hs
  have HLEN := hid hlen
  clear hs hlen
  go_enter Try.func3, Try.ntmps3
  go_upto_region 5 with (first
    | (go_at_call 9; (with_reducible refine (fit_any _).mono ?_); rintro r wa ⟨rfl, hba⟩)
    | (go_at_call 10; (with_reducible refine (light_res A len cap _ HLEN.out (HS.out.below hba)).mono ?_); rintro r wb ⟨⟨q, rfl, hq⟩, hbb⟩; rcases q with _ | _))
  · go_ret
    exact ⟨rfl, B_call hba hbb⟩
  · have hb := B_call hba hbb
    have hs2 := HS.out.below hb
    have hq2 : len ≤ 100 := by simpa using hq
    clear hba hbb hq
    have HB := hid hb
    have HS2 := hid hs2
    have HQ := hid hq2
    clear hb hs2 hq2
    go_upto_region 7 with (first
      | (go_at_call 11; (with_reducible refine (entries_at A len cap _ HQ.out HS2.out).mono ?_); rintro r w2 ⟨⟨A1, m, c1, es, rfl, hl, hE, htx⟩, hbc⟩)
      | (go_at_call 12; (with_reducible refine (analyse_at A1 m c1 es _ hE.len (by omega) hE.rows).mono ?_); rintro r w3 ⟨⟨p, B, c, hp, rfl, hB⟩, hb3⟩))
    have hin := PlanIn.made (c := c) hB.out
    have hbW := B_alloc (B_call (B_call HB.out hbc) hb3) (.cells #[.int .u64 p.fr, .slice (B 0) (p.s 0).l.length (c 0), .slice (B 1) (p.s 1).l.length (c 1), .slice (B 2) (p.s 2).l.length (c 2), .slice (B 3) (p.s 3).l.length (c 3), .bool (p.s 0).o, .bool (p.s 1).o, .bool (p.s 2).o, .bool (p.s 3).o] 32)
    have hR4 := (hE.rows.below hb3).below (B_alloc (Below.refl _ _) (.cells #[.int .u64 p.fr, .slice (B 0) (p.s 0).l.length (c 0), .slice (B 1) (p.s 1).l.length (c 1), .slice (B 2) (p.s 2).l.length (c 2), .slice (B 3) (p.s 3).l.length (c 3), .bool (p.s 0).o, .bool (p.s 1).o, .bool (p.s 2).o, .bool (p.s 3).o] 32))
    have hem := hE.len
    obtain ⟨P, hP⟩ : ∃ P, P = w3.heap.size := ⟨_, rfl⟩
    rw [← hP] at hin ⊢
    generalize w3.alloc (.cells #[.int .u64 p.fr, .slice (B 0) (p.s 0).l.length (c 0), .slice (B 1) (p.s 1).l.length (c 1), .slice (B 2) (p.s 2).l.length (c 2), .slice (B 3) (p.s 3).l.length (c 3), .bool (p.s 0).o, .bool (p.s 1).o, .bool (p.s 2).o, .bool (p.s 3).o] 32) = w4 at hin hbW hR4 ⊢
    have HBW := hid hbW
    have HR4 := hid hR4
    have HEM := hid hem
    have HIN := hid hin
    have HP := hid hp.out
    have HTX := hid htx
    clear hP hp hB hb3 hE hbc hbW hR4 hem hin HS2 HS HQ HB htx
    go_wp2_with fail
    have hbX : Below w4.heap.size w4 ((w4.alloc (.cells #[.slice none 0 0, .slice none 0 0, .slice none 0 0, .slice none 0 0, .slice none 0 0, .slice none 0 0, .slice none 0 0, .slice none 0 0] 34)).alloc (.cells #[.bool false, .bool false, .bool false, .bool false, .bool false, .bool false, .bool false, .bool false] 35)) := B_alloc (B_alloc (Below.refl _ _) _) _
    have hLi : ListAt w4.heap.size ((w4.alloc (.cells #[.slice none 0 0, .slice none 0 0, .slice none 0 0, .slice none 0 0, .slice none 0 0, .slice none 0 0, .slice none 0 0, .slice none 0 0] 34)).alloc (.cells #[.bool false, .bool false, .bool false, .bool false, .bool false, .bool false, .bool false, .bool false] 35)) w4.heap.size (w4.heap.size + 1) (fun _ => .slice none 0 0) (fun n => oneOf (es.take 0) n) :=
      ⟨blk_alloc (heap_alloc_new w4 _), new_at _ _ _, fun _ _ => World.ownsRow_nil _ _ _ _, fun _ _ _ _ _ => .inl rfl⟩
    obtain ⟨L, hL⟩ : ∃ L, L = w4.heap.size := ⟨_, rfl⟩
    rw [← hL]
    rw [show ListAt w4.heap.size ((w4.alloc (.cells #[.slice none 0 0, .slice none 0 0, .slice none 0 0, .slice none 0 0, .slice none 0 0, .slice none 0 0, .slice none 0 0, .slice none 0 0] 34)).alloc (.cells #[.bool false, .bool false, .bool false, .bool false, .bool false, .bool false, .bool false, .bool false] 35)) w4.heap.size (w4.heap.size + 1) = ListAt w4.heap.size ((w4.alloc (.cells #[.slice none 0 0, .slice none 0 0, .slice none 0 0, .slice none 0 0, .slice none 0 0, .slice none 0 0, .slice none 0 0, .slice none 0 0] 34)).alloc (.cells #[.bool false, .bool false, .bool false, .bool false, .bool false, .bool false, .bool false, .bool false] 35)) L (L + 1) by rw [hL]] at hLi
    generalize (w4.alloc (.cells #[.slice none 0 0, .slice none 0 0, .slice none 0 0, .slice none 0 0, .slice none 0 0, .slice none 0 0, .slice none 0 0, .slice none 0 0] 34)).alloc (.cells #[.bool false, .bool false, .bool false, .bool false, .bool false, .bool false, .bool false, .bool false] 35) = w5 at hbX hLi ⊢
    have HL := hid hL
    clear hL
    go_loopw [5, 25] (fun f u wr => ∃ (i : Nat) (V : Nat → Value), i ≤ m ∧ u = .int .i64 i ∧ f = .int .u64 (planOf (es.take i)).fr ∧ ListAt w4.heap.size wr L (L + 1) V (fun n => oneOf (es.take i) n) ∧ Below w4.heap.size w4 wr) (fun _ u _ => ((m : Int) - intOf u).toNat)
    case atStart => exact ⟨0, _, by omega, rfl, rfl, hLi, hbX⟩
    case round =>
      clear hLi hbX
      obtain ⟨i, V, hi', rfl, rfl, hLA, hbl⟩ := hrel
      by_cases hlt : i < m
      · obtain ⟨b, off, hA1, hEt, hD⟩ := HR4.out i (by rw [HEM.out]; exact hlt)
        subst hA1
        have hD2 := hD.below hbl
        have hstep := planOf_take es i (by rw [HEM.out]; exact hlt)
        have hone := oneOf_take es i (by rw [HEM.out]; exact hlt)
        have hlen2 := fun n => oneOf_len (es.take i) n
        rw [List.length_take, HEM.out, Nat.min_eq_left (by omega)] at hlen2
        obtain ⟨ht0, ht8⟩ := HTX.out (es[i]'(by rw [HEM.out]; exact hlt)) (List.getElem_mem _)
        obtain ⟨e, he⟩ : ∃ e, e = es[i]'(by rw [HEM.out]; exact hlt) := ⟨_, rfl⟩
        rw [← he] at hEt hD2 hstep hone ht0 ht8
        clear he hD
        obtain ⟨A2, c2, hdv, hdl, hpl⟩ := hD2.places
        clear hD2
        obtain ⟨a0, a1, a2, a3, a4, a5, a6, a7, a8⟩ := hEt.below hbl
        clear hEt
        obtain ⟨pl, kd, tx, pg, sl, bf, af, im, dv, dl⟩ := e
        simp only at hdv hdl hpl a0 a1 a2 a3 a4 a5 a6 a7 a8 ht0 ht8
        subst hdv
        obtain ⟨k, hk⟩ : ∃ k : Nat, tx = (k : Int) := ⟨tx.toNat, by omega⟩
        subst hk
        have hk8 : k < 8 := by omega
        obtain ⟨n2, hn2⟩ : ∃ n2, n2 = dl.length := ⟨_, rfl⟩
        rw [← hn2] at hdl hpl a8 hstep hone
        have HST := hid hstep
        have HONE := hid hone
        have HLEN2 := hid hlen2
        have HPL := hid hpl
        have HN2 := hid hn2
        clear hstep hone hlen2 hpl hn2 ht0 ht8
        go_upto_region 13 with fail
        have hAB : Below wr.heap.size wr (wr.alloc (.cells #[.int .u64 pl, .int .i64 kd, .int .i64 k, .int .i64 pg, .int .i64 sl, .string bf, .string af, .string im, .slice A2 n2 c2] 40)) := B_alloc (Below.refl _ _) _
        have hgb := heap_alloc_new wr (.cells #[.int .u64 pl, .int .i64 kd, .int .i64 k, .int .i64 pg, .int .i64 sl, .string bf, .string af, .string im, .slice A2 n2 c2] 40)
        generalize wr.alloc (.cells #[.int .u64 pl, .int .i64 kd, .int .i64 k, .int .i64 pg, .int .i64 sl, .string bf, .string af, .string im, .slice A2 n2 c2] 40) = wc at hAB hgb ⊢
        have HLA := hid (hLA.below hAB)
        have HB := hid (B_call hbl hAB)
        have hpl2 : ∀ x, x < n2 → ∃ g off, A2 = some ⟨g, off, none⟩ ∧ wc.cell? ⟨g, off + x, none⟩ = some (.int .u64 (dl.getD x 0)) := fun x hx => by
          obtain ⟨g, off, h1, h2⟩ := HPL.out x hx
          exact ⟨g, off, h1, cell_below hAB h2⟩
        have HPL2 := hid hpl2
        obtain ⟨B1, hB1⟩ : ∃ B1, B1 = wr.heap.size := ⟨_, rfl⟩
        rw [← hB1] at hgb ⊢
        clear hB1 hAB a0 a1 a2 a3 a4 a5 a6 a7 a8 hbl hLA hpl2 HPL
        have x1 : wc.cell? ⟨B1, 1, none⟩ = some (.int .i64 kd) := cell_of_row wc _ 1 _ _ _ hgb
        have x2 : wc.cell? ⟨B1, 2, none⟩ = some (.int .i64 k) := cell_of_row wc _ 2 _ _ _ hgb
        have ck := HLA.out.cell hk8
        have fk := frozen_of_row wc L k _ _ HLA.out.lb
        obtain ⟨Ak, ck2, hVk⟩ := own_slice (HLA.out.own k hk8)
        obtain ⟨nk, hnk⟩ : ∃ nk, nk = (oneOf (es.take i) k).l.length := ⟨_, rfl⟩
        rw [← hnk] at hVk
        have hnk2 : nk ≤ i := by rw [hnk]; exact HLEN2.out k
        have HVK := hid hVk
        have HNK := hid hnk
        rw [hVk] at ck
        clear hVk hnk
        have hk0 : (0 : Int) ≤ (k : Int) := by omega
        have hk8' : (k : Int) < 8 := by omega
        have hLB : L ≠ B1 := block_ne HLA.out.lb hgb (by decide)
        have hOB : L + 1 ≠ B1 := block_ne HLA.out.ob hgb (by decide)
        have hLs := HL.out
        by_cases h7 : kd = 7
        · subst h7
          have x0 : wc.cell? ⟨B1, 0, none⟩ = some (.int .u64 pl) := cell_of_row wc _ 0 _ _ _ hgb
          have x8 : wc.cell? ⟨B1, 8, none⟩ = some (.slice A2 n2 c2) := cell_of_row wc _ 8 _ _ _ hgb
          clear hLs
          go_wp2_with fail
          go_loopw [5, 99] (fun f u w2 => ∃ x : Nat, x ≤ n2 ∧ u = .int .i64 x ∧ f = .int .u64 (leastOf pl (dl.take x)) ∧ w2 = wc) (fun _ u _ => ((n2 : Int) - intOf u).toNat)
          case atStart => exact ⟨0, by omega, rfl, rfl, rfl⟩
          case round =>
            obtain ⟨x, hx, rfl, rfl, rfl⟩ := hrel
            by_cases hxl : x < n2
            · obtain ⟨g, off2, hA2, hc⟩ := HPL2.out x hxl
              subst hA2
              have hls := leastOf_take pl dl x (by rw [← HN2.out]; exact hxl)
              generalize dl.getD x 0 = d at hc hls
              generalize hlk : leastOf pl (dl.take x) = lk at hls ⊢
              clear hlk
              unfold maxLen at hdl
              by_cases hp : 0 < d
              · have hdp : decide (0 < d) = true := by simpa using hp
                rw [if_pos hp] at hls
                by_cases hp2 : d < lk
                · have hdp2 : decide (d < lk) = true := by simpa using hp2
                  rw [if_pos hp2] at hls
                  have HLS := hid hls
                  clear hls
                  go_wp2_with fail
                  go_roundw
                  case rel => exact ⟨x + 1, by omega, by go_num, by rw [HLS.out], by trivial⟩
                  case measure => simp [intOf]; omega
                · have hdp2 : decide (d < lk) = false := by simpa using hp2
                  rw [if_neg hp2] at hls
                  have HLS := hid hls
                  clear hls
                  go_wp2_with fail
                  go_roundw
                  case rel => exact ⟨x + 1, by omega, by go_num, by rw [HLS.out], by trivial⟩
                  case measure => simp [intOf]; omega
              · have hdp : decide (0 < d) = false := by simpa using hp
                rw [if_neg hp] at hls
                have HLS := hid hls
                clear hls
                go_wp2_with fail
                go_roundw
                case rel => exact ⟨x + 1, by omega, by go_num, by rw [HLS.out], by trivial⟩
                case measure => simp [intOf]; omega
            · obtain rfl : x = n2 := by omega
              have htd : dl.take x = dl := by rw [HN2.out, List.take_length]
              rw [htd]
              go_wp2_with fail
              go_roundw
              case rel =>
                refine ⟨i + 1, V, by omega, by go_num, ?_, HLA.out.congr (fun _ _ => rfl) (fun j _ => ?_), HB.out⟩
                · rw [HST.out, step_fr, if_pos rfl]
                · try dsimp only
                  rw [HONE.out]
                  split
                  · exact step_seven rfl
                  · rfl
              case measure => simp [intOf]; omega
        · by_cases h56 : kd = 5 ∨ kd = 6
          · have cok := HLA.out.opn hk8
            have fok := frozen_of_row wc (L + 1) k _ _ HLA.out.ob
            have hfin := HLA.out.put hk8 (v := .slice none 0 0) (l := []) false (grown_refl _ _) (World.ownsRow_nil _ _ _ _) (.inl rfl)
            have HF := hid hfin
            clear hfin
            rcases h56 with rfl | rfl
            all_goals
              clear hLs
              go_wp2_with fail
              go_region_held3 (fun w' => w'.cell? ⟨B1, 2, none⟩ = some (.int .i64 k))
                (first
                  | exact x2
                  | exact cell_set hLB x2
                  | exact cell_set hOB (cell_set hLB x2))
                (fail)
              go_wp2_with fail
              refine ⟨⟨i + 1, fun j => if j = k then .slice none 0 0 else V j, by omega, by go_num, ?_, (HF.out.congr (fun _ _ => rfl) (fun j _ => ?_)).heap rfl rfl rfl rfl, (B_set (B_set HB.out (p := ⟨L, k, none⟩) (Nat.le_of_eq HL.out.symm) _) (p := ⟨L + 1, k, none⟩) (Nat.le_trans (Nat.le_of_eq HL.out.symm) (Nat.le_succ _)) _).drew⟩, ?_⟩
              · rw [HST.out, step_fr, if_neg h7]
              · try dsimp only
                rw [HONE.out]
                by_cases hjk : j = k
                · subst hjk
                  rw [if_pos rfl, if_pos rfl, One.step_end (by simp)]
                · rw [if_neg (show ¬ ((k : Nat) : Int) = ((j : Nat) : Int) by omega), if_neg hjk]
              · simp [intOf]; omega
          · by_cases h4 : kd = 4
            · subst h4
              have hown := HLA.out.own k hk8
              rw [← HNK.out, HVK.out] at hown
              have hless : wc.ownsRow w4.heap.size 42 3 (.slice Ak (nk - 1) ck2) (oneOf (es.take i) k).l.dropLast.length (chgs (oneOf (es.take i) k).l.dropLast) := own_less hown HNK.out
              have hfin := HLA.out.putL hk8 (grown_refl _ _) hless (.inr (.inl (by rw [HVK.out]; cases Ak <;> rfl)))
              have HF := hid hfin
              have hcap : nk ≤ ck2 := by
                rcases hown.2 with ⟨_, h0⟩ | ⟨_, _, _, hv, _, _, hle, _⟩
                · omega
                · injection hv with _ _ hv; omega
              clear hLs hfin hless hown
              by_cases hz : nk = 0
              · subst hz
                simp only [Nat.zero_sub] at HF
                have hw0 : IntKind.i64.wrap (-1) = -1 := by decide
                go_wp2_with fail
                refine wp_region_noPanic ?_
                refine wp_region_held_drew (S := (fun w' => w'.cell? ⟨B1, 2, none⟩ = some (.int .i64 k))) (by kernel_rfl) x2 (fun hHeld => ?_)
                refine wpAnyH_take (i := 0) (oi := _) (v := ?_) rfl (by kernel_rfl) (by kernel_rfl) (by kernel_rfl) (fun _ _ _ h => h) (Or.inl ⟨by rfl, ?_⟩) (by assumption) ?_
                rotate_left
                · (intro w hSw; (try dsimp only at hSw); go_simp; try with_reducible rfl)
                try simp only [Act.put]
                refine wpAnyH_take (i := 1) (oi := _) (v := ?_) rfl (by kernel_rfl) (by kernel_rfl) (by kernel_rfl) (fun _ _ _ h => h) (Or.inl ⟨by rfl, ?_⟩) (by assumption) ?_
                rotate_left
                · (intro w hSw; (try dsimp only at hSw); go_simp; try with_reducible rfl)
                try simp only [Act.put]
                refine wpAnyH_take (i := 2) (oi := _) (v := ?_) rfl (by kernel_rfl) (by kernel_rfl) (by kernel_rfl) (fun _ _ _ h => h) (Or.inl ⟨by rfl, ?_⟩) (by assumption) ?_
                rotate_left
                · (intro w hSw; (try dsimp only at hSw); go_simp; try with_reducible rfl)
                try simp only [Act.put]
                refine wpAnyH_take (i := 3) (oi := _) (v := ?_) rfl (by kernel_rfl) (by kernel_rfl) (by kernel_rfl) (fun _ _ _ h => h) (Or.inl ⟨by rfl, ?_⟩) (by assumption) ?_
                rotate_left
                · (intro w hSw; (try dsimp only at hSw); go_simp; try with_reducible rfl)
                try simp only [Act.put]
                refine wpAnyH_take (i := 4) (oi := _) (v := ?_) rfl (by kernel_rfl) (by kernel_rfl) (by kernel_rfl) (fun _ _ _ h => h) (Or.inl ⟨by rfl, ?_⟩) (by assumption) ?_
                rotate_left
                · (intro w hSw; (try dsimp only at hSw); go_simp; try with_reducible rfl)
                try simp only [Act.put]
                refine wpAnyH_take (i := 5) (oi := _) (v := ?_) rfl (by kernel_rfl) (by kernel_rfl) (by kernel_rfl) (fun _ _ _ h => h) (Or.inl ⟨by rfl, ?_⟩) (by assumption) ?_
                rotate_left
                · (intro w hSw; (try dsimp only at hSw); go_simp; try with_reducible rfl)
                try simp only [Act.put]
                refine wpAnyH_take (i := 6) (oi := _) (v := ?_) rfl (by kernel_rfl) (by kernel_rfl) (by kernel_rfl) (fun _ _ _ h => h) (Or.inl ⟨by rfl, ?_⟩) (by assumption) ?_
                rotate_left
                · (intro w hSw; (try dsimp only at hSw); go_simp; try with_reducible rfl)
                try simp only [Act.put]
                refine wpAnyH_take (i := 8) (oi := _) (v := ?_) rfl (by kernel_rfl) (by kernel_rfl) (by kernel_rfl) (fun _ _ _ h => h) (Or.inl ⟨by rfl, ?_⟩) (by assumption) ?_
                rotate_left
                · (intro w hSw; (try dsimp only at hSw); go_simp; try with_reducible rfl)
                try simp only [Act.put]
                refine wpAnyH_take (i := 9) (oi := _) (v := ?_) rfl (by kernel_rfl) (by kernel_rfl) (by kernel_rfl) (fun _ _ _ h => h) (Or.inl ⟨by rfl, ?_⟩) (by assumption) ?_
                rotate_left
                · (intro w hSw; (try dsimp only at hSw); go_simp; try with_reducible rfl)
                try simp only [Act.put]
                refine wpAnyH_take (i := 10) (oi := _) (v := ?_) rfl (by kernel_rfl) (by kernel_rfl) (by kernel_rfl) (fun _ _ _ h => h) (Or.inl ⟨by rfl, ?_⟩) (by assumption) ?_
                rotate_left
                · (intro w hSw; (try dsimp only at hSw); go_simp; try with_reducible rfl)
                try simp only [Act.put]
                refine wpAnyH_take (i := 11) (oi := _) (v := ?_) rfl (by kernel_rfl) (by kernel_rfl) (by kernel_rfl) (fun _ _ _ h => h) (Or.inl ⟨by rfl, ?_⟩) (by assumption) ?_
                rotate_left
                · (intro w hSw; (try dsimp only at hSw); go_simp; try with_reducible rfl)
                try simp only [Act.put]
                refine wpAnyH_ready (rs := [7, 12]) (by kernel_rfl) (by simp) ?_
                refine AllReadyH.cons (o := _) rfl (fun K hK => ?_) ?_
                · go_simp
                  refine hK.out _ _ x2 (fun hHeld => ?_)
                  clear hK K
                  try simp only [Act.put, List.setIfInBounds_toArray, List.set_cons_zero, List.set_cons_succ]
                  refine wpAnyH_ready (rs := [12]) (by kernel_rfl) (by simp) ?_
                  refine AllReadyH.cons (o := _) rfl (fun K hK => ?_) AllReadyH.nil
                  go_simp
                  refine hK.out _ _ x2 (fun hHeld => ?_)
                  clear hK K
                  try simp only [Act.put, List.setIfInBounds_toArray, List.set_cons_zero, List.set_cons_succ]
                  refine wpAnyH_take (i := 13) (oi := _) (v := ?_) rfl (by kernel_rfl) (by kernel_rfl) (by kernel_rfl) (fun _ _ _ h => h) (Or.inl ⟨by rfl, ?_⟩) (by assumption) ?_
                  rotate_left
                  · (intro w hSw; (try dsimp only at hSw); go_simp; try with_reducible rfl)
                  try simp only [Act.put]
                  refine wpAnyH_take (i := 14) (oi := _) (v := ?_) rfl (by kernel_rfl) (by kernel_rfl) (by kernel_rfl) (fun _ _ _ h => h) (Or.inl ⟨by rfl, ?_⟩) (by assumption) ?_
                  rotate_left
                  · (intro w hSw; (try dsimp only at hSw); go_simp; try with_reducible rfl)
                  try simp only [Act.put]
                  refine wpAnyH_ready (rs := [15]) (by kernel_rfl) (by simp) ?_
                  refine AllReadyH.cons (o := _) rfl (fun K hK => ?_) AllReadyH.nil
                  go_simp
                  refine hK.out _ _ x2 (fun hHeld => ?_)
                  clear hK K
                  try simp only [Act.put, List.setIfInBounds_toArray, List.set_cons_zero, List.set_cons_succ]
                  refine wpAnyH_take (i := 16) (oi := _) (v := ?_) rfl (by kernel_rfl) (by kernel_rfl) (by kernel_rfl) (fun _ _ _ h => h) (Or.inl ⟨by rfl, ?_⟩) (by assumption) ?_
                  rotate_left
                  · (intro w hSw; (try dsimp only at hSw); go_simp; try with_reducible rfl)
                  try simp only [Act.put]
                  refine wpAnyH_take (i := 17) (oi := _) (v := ?_) rfl (by kernel_rfl) (by kernel_rfl) (by kernel_rfl) (fun _ _ _ h => h) (Or.inl ⟨by rfl, ?_⟩) (by assumption) ?_
                  rotate_left
                  · (intro w hSw; (try dsimp only at hSw); go_simp; try with_reducible rfl)
                  try simp only [Act.put]
                  refine wpAnyH_ready (rs := [18]) (by kernel_rfl) (by simp) ?_
                  refine AllReadyH.cons (o := _) rfl (fun K hK => ?_) AllReadyH.nil
                  go_simp
                  refine hK.out _ _ (cell_set hLB x2) (fun hHeld => ?_)
                  clear hK K
                  try simp only [Act.put, List.setIfInBounds_toArray, List.set_cons_zero, List.set_cons_succ]
                  refine wpAnyH_done (by kernel_rfl) ?_ _
                  refine NoPanic.normal ?_
                  go_wp2_with fail
                  refine ⟨⟨i + 1, fun j => if j = k then .slice Ak 0 ck2 else V j, by omega, by go_num, ?_, (HF.out.congr (fun _ _ => rfl) (fun j _ => ?_)).heap rfl rfl rfl rfl, (B_set HB.out (p := ⟨L, k, none⟩) (Nat.le_of_eq HL.out.symm) _).drew⟩, ?_⟩
                  · rw [HST.out, step_fr, if_neg h7]
                  · try dsimp only
                    rw [HONE.out]
                    by_cases hjk : j = k
                    · subst hjk
                      rw [if_pos rfl, if_pos rfl, One.step_undo rfl]
                    · rw [if_neg (show ¬ ((k : Nat) : Int) = ((j : Nat) : Int) by omega), if_neg hjk]
                  · simp [intOf]; omega
                · refine AllReadyH.cons (o := _) rfl (fun K hK => ?_) AllReadyH.nil
                  go_simp
                  refine hK.out _ _ x2 (fun hHeld => ?_)
                  clear hK K
                  try simp only [Act.put, List.setIfInBounds_toArray, List.set_cons_zero, List.set_cons_succ]
                  refine wpAnyH_take (i := 13) (oi := _) (v := ?_) rfl (by kernel_rfl) (by kernel_rfl) (by kernel_rfl) (fun _ _ _ h => h) (Or.inl ⟨by rfl, ?_⟩) (by assumption) ?_
                  rotate_left
                  · (intro w hSw; (try dsimp only at hSw); go_simp; try with_reducible rfl)
                  try simp only [Act.put]
                  refine wpAnyH_take (i := 14) (oi := _) (v := ?_) rfl (by kernel_rfl) (by kernel_rfl) (by kernel_rfl) (fun _ _ _ h => h) (Or.inl ⟨by rfl, ?_⟩) (by assumption) ?_
                  rotate_left
                  · (intro w hSw; (try dsimp only at hSw); go_simp; try with_reducible rfl)
                  try simp only [Act.put]
                  refine wpAnyH_ready (rs := [7, 15]) (by kernel_rfl) (by simp) ?_
                  refine AllReadyH.cons (o := _) rfl (fun K hK => ?_) ?_
                  · go_simp
                    refine hK.out _ _ x2 (fun hHeld => ?_)
                    clear hK K
                    try simp only [Act.put, List.setIfInBounds_toArray, List.set_cons_zero, List.set_cons_succ]
                    refine wpAnyH_ready (rs := [15]) (by kernel_rfl) (by simp) ?_
                    refine AllReadyH.cons (o := _) rfl (fun K hK => ?_) AllReadyH.nil
                    go_simp
                    refine hK.out _ _ x2 (fun hHeld => ?_)
                    clear hK K
                    try simp only [Act.put, List.setIfInBounds_toArray, List.set_cons_zero, List.set_cons_succ]
                    refine wpAnyH_take (i := 16) (oi := _) (v := ?_) rfl (by kernel_rfl) (by kernel_rfl) (by kernel_rfl) (fun _ _ _ h => h) (Or.inl ⟨by rfl, ?_⟩) (by assumption) ?_
                    rotate_left
                    · (intro w hSw; (try dsimp only at hSw); go_simp; try with_reducible rfl)
                    try simp only [Act.put]
                    refine wpAnyH_take (i := 17) (oi := _) (v := ?_) rfl (by kernel_rfl) (by kernel_rfl) (by kernel_rfl) (fun _ _ _ h => h) (Or.inl ⟨by rfl, ?_⟩) (by assumption) ?_
                    rotate_left
                    · (intro w hSw; (try dsimp only at hSw); go_simp; try with_reducible rfl)
                    try simp only [Act.put]
                    refine wpAnyH_ready (rs := [18]) (by kernel_rfl) (by simp) ?_
                    refine AllReadyH.cons (o := _) rfl (fun K hK => ?_) AllReadyH.nil
                    go_simp
                    refine hK.out _ _ (cell_set hLB x2) (fun hHeld => ?_)
                    clear hK K
                    try simp only [Act.put, List.setIfInBounds_toArray, List.set_cons_zero, List.set_cons_succ]
                    refine wpAnyH_done (by kernel_rfl) ?_ _
                    refine NoPanic.normal ?_
                    go_wp2_with fail
                    refine ⟨⟨i + 1, fun j => if j = k then .slice Ak 0 ck2 else V j, by omega, by go_num, ?_, (HF.out.congr (fun _ _ => rfl) (fun j _ => ?_)).heap rfl rfl rfl rfl, (B_set HB.out (p := ⟨L, k, none⟩) (Nat.le_of_eq HL.out.symm) _).drew⟩, ?_⟩
                    · rw [HST.out, step_fr, if_neg h7]
                    · try dsimp only
                      rw [HONE.out]
                      by_cases hjk : j = k
                      · subst hjk
                        rw [if_pos rfl, if_pos rfl, One.step_undo rfl]
                      · rw [if_neg (show ¬ ((k : Nat) : Int) = ((j : Nat) : Int) by omega), if_neg hjk]
                    · simp [intOf]; omega
                  · refine AllReadyH.cons (o := _) rfl (fun K hK => ?_) AllReadyH.nil
                    go_simp
                    refine hK.out _ _ x2 (fun hHeld => ?_)
                    clear hK K
                    try simp only [Act.put, List.setIfInBounds_toArray, List.set_cons_zero, List.set_cons_succ]
                    refine wpAnyH_ready (rs := [7]) (by kernel_rfl) (by simp) ?_
                    refine AllReadyH.cons (o := _) rfl (fun K hK => ?_) AllReadyH.nil
                    go_simp
                    refine hK.out _ _ x2 (fun hHeld => ?_)
                    clear hK K
                    try simp only [Act.put, List.setIfInBounds_toArray, List.set_cons_zero, List.set_cons_succ]
                    refine wpAnyH_take (i := 16) (oi := _) (v := ?_) rfl (by kernel_rfl) (by kernel_rfl) (by kernel_rfl) (fun _ _ _ h => h) (Or.inl ⟨by rfl, ?_⟩) (by assumption) ?_
                    rotate_left
                    · (intro w hSw; (try dsimp only at hSw); go_simp; try with_reducible rfl)
                    try simp only [Act.put]
                    refine wpAnyH_take (i := 17) (oi := _) (v := ?_) rfl (by kernel_rfl) (by kernel_rfl) (by kernel_rfl) (fun _ _ _ h => h) (Or.inl ⟨by rfl, ?_⟩) (by assumption) ?_
                    rotate_left
                    · (intro w hSw; (try dsimp only at hSw); go_simp; try with_reducible rfl)
                    try simp only [Act.put]
                    refine wpAnyH_ready (rs := [18]) (by kernel_rfl) (by simp) ?_
                    refine AllReadyH.cons (o := _) rfl (fun K hK => ?_) AllReadyH.nil
                    go_simp
                    refine hK.out _ _ (cell_set hLB x2) (fun hHeld => ?_)
                    clear hK K
                    try simp only [Act.put, List.setIfInBounds_toArray, List.set_cons_zero, List.set_cons_succ]
                    refine wpAnyH_done (by kernel_rfl) ?_ _
                    refine NoPanic.normal ?_
                    go_wp2_with fail
                    refine ⟨⟨i + 1, fun j => if j = k then .slice Ak 0 ck2 else V j, by omega, by go_num, ?_, (HF.out.congr (fun _ _ => rfl) (fun j _ => ?_)).heap rfl rfl rfl rfl, (B_set HB.out (p := ⟨L, k, none⟩) (Nat.le_of_eq HL.out.symm) _).drew⟩, ?_⟩
                    · rw [HST.out, step_fr, if_neg h7]
                    · try dsimp only
                      rw [HONE.out]
                      by_cases hjk : j = k
                      · subst hjk
                        rw [if_pos rfl, if_pos rfl, One.step_undo rfl]
                      · rw [if_neg (show ¬ ((k : Nat) : Int) = ((j : Nat) : Int) by omega), if_neg hjk]
                    · simp [intOf]; omega
              · obtain ⟨m', rfl⟩ : ∃ m', nk = m' + 1 := ⟨nk - 1, by omega⟩
                simp only [Nat.add_sub_cancel] at HF
                have hw1 : IntKind.i64.wrap (((m' + 1 : Nat) : Int) - 1) = (m' : Int) := by rw [IntKind.wrap_i64]; omega
                have hw2 : IntKind.i64.wrap ((m' : Int) + 1 - 1) = (m' : Int) := by rw [IntKind.wrap_i64]; omega
                have hw3 : IntKind.i64.wrap (m' : Int) = (m' : Int) := by rw [IntKind.wrap_i64]; omega
                have hm0 : (0 : Int) ≤ (m' : Int) := by omega
                have hm1 : ((m' : Int) < 0) = False := by simp
                have hm2 : (m' : Int) ≤ (ck2 : Int) := by omega
                go_wp2_with fail
                refine wp_region_noPanic ?_
                refine wp_region_held_drew (S := (fun w' => w'.cell? ⟨B1, 2, none⟩ = some (.int .i64 k))) (by kernel_rfl) x2 (fun hHeld => ?_)
                refine wpAnyH_take (i := 0) (oi := _) (v := ?_) rfl (by kernel_rfl) (by kernel_rfl) (by kernel_rfl) (fun _ _ _ h => h) (Or.inl ⟨by rfl, ?_⟩) (by assumption) ?_
                rotate_left
                · (intro w hSw; (try dsimp only at hSw); go_simp; try with_reducible rfl)
                try simp only [Act.put]
                refine wpAnyH_take (i := 1) (oi := _) (v := ?_) rfl (by kernel_rfl) (by kernel_rfl) (by kernel_rfl) (fun _ _ _ h => h) (Or.inl ⟨by rfl, ?_⟩) (by assumption) ?_
                rotate_left
                · (intro w hSw; (try dsimp only at hSw); go_simp; try with_reducible rfl)
                try simp only [Act.put]
                refine wpAnyH_take (i := 2) (oi := _) (v := ?_) rfl (by kernel_rfl) (by kernel_rfl) (by kernel_rfl) (fun _ _ _ h => h) (Or.inl ⟨by rfl, ?_⟩) (by assumption) ?_
                rotate_left
                · (intro w hSw; (try dsimp only at hSw); go_simp; try with_reducible rfl)
                try simp only [Act.put]
                refine wpAnyH_take (i := 3) (oi := _) (v := ?_) rfl (by kernel_rfl) (by kernel_rfl) (by kernel_rfl) (fun _ _ _ h => h) (Or.inl ⟨by rfl, ?_⟩) (by assumption) ?_
                rotate_left
                · (intro w hSw; (try dsimp only at hSw); go_simp; try with_reducible rfl)
                try simp only [Act.put]
                refine wpAnyH_take (i := 4) (oi := _) (v := ?_) rfl (by kernel_rfl) (by kernel_rfl) (by kernel_rfl) (fun _ _ _ h => h) (Or.inl ⟨by rfl, ?_⟩) (by assumption) ?_
                rotate_left
                · (intro w hSw; (try dsimp only at hSw); go_simp; try with_reducible rfl)
                try simp only [Act.put]
                refine wpAnyH_take (i := 5) (oi := _) (v := ?_) rfl (by kernel_rfl) (by kernel_rfl) (by kernel_rfl) (fun _ _ _ h => h) (Or.inl ⟨by rfl, ?_⟩) (by assumption) ?_
                rotate_left
                · (intro w hSw; (try dsimp only at hSw); go_simp; try with_reducible rfl)
                try simp only [Act.put]
                refine wpAnyH_take (i := 6) (oi := _) (v := ?_) rfl (by kernel_rfl) (by kernel_rfl) (by kernel_rfl) (fun _ _ _ h => h) (Or.inl ⟨by rfl, ?_⟩) (by assumption) ?_
                rotate_left
                · (intro w hSw; (try dsimp only at hSw); go_simp; try with_reducible rfl)
                try simp only [Act.put]
                refine wpAnyH_take (i := 8) (oi := _) (v := ?_) rfl (by kernel_rfl) (by kernel_rfl) (by kernel_rfl) (fun _ _ _ h => h) (Or.inl ⟨by rfl, ?_⟩) (by assumption) ?_
                rotate_left
                · (intro w hSw; (try dsimp only at hSw); go_simp; try with_reducible rfl)
                try simp only [Act.put]
                refine wpAnyH_take (i := 9) (oi := _) (v := ?_) rfl (by kernel_rfl) (by kernel_rfl) (by kernel_rfl) (fun _ _ _ h => h) (Or.inl ⟨by rfl, ?_⟩) (by assumption) ?_
                rotate_left
                · (intro w hSw; (try dsimp only at hSw); go_simp; try with_reducible rfl)
                try simp only [Act.put]
                refine wpAnyH_take (i := 10) (oi := _) (v := ?_) rfl (by kernel_rfl) (by kernel_rfl) (by kernel_rfl) (fun _ _ _ h => h) (Or.inl ⟨by rfl, ?_⟩) (by assumption) ?_
                rotate_left
                · (intro w hSw; (try dsimp only at hSw); go_simp; try with_reducible rfl)
                try simp only [Act.put]
                refine wpAnyH_take (i := 11) (oi := _) (v := ?_) rfl (by kernel_rfl) (by kernel_rfl) (by kernel_rfl) (fun _ _ _ h => h) (Or.inl ⟨by rfl, ?_⟩) (by assumption) ?_
                rotate_left
                · (intro w hSw; (try dsimp only at hSw); go_simp; try with_reducible rfl)
                try simp only [Act.put]
                refine wpAnyH_ready (rs := [7, 12]) (by kernel_rfl) (by simp) ?_
                refine AllReadyH.cons (o := _) rfl (fun K hK => ?_) ?_
                · go_simp
                  refine hK.out _ _ x2 (fun hHeld => ?_)
                  clear hK K
                  try simp only [Act.put, List.setIfInBounds_toArray, List.set_cons_zero, List.set_cons_succ]
                  refine wpAnyH_ready (rs := [12]) (by kernel_rfl) (by simp) ?_
                  refine AllReadyH.cons (o := _) rfl (fun K hK => ?_) AllReadyH.nil
                  go_simp
                  refine hK.out _ _ x2 (fun hHeld => ?_)
                  clear hK K
                  try simp only [Act.put, List.setIfInBounds_toArray, List.set_cons_zero, List.set_cons_succ]
                  refine wpAnyH_take (i := 13) (oi := _) (v := ?_) rfl (by kernel_rfl) (by kernel_rfl) (by kernel_rfl) (fun _ _ _ h => h) (Or.inl ⟨by rfl, ?_⟩) (by assumption) ?_
                  rotate_left
                  · (intro w hSw; (try dsimp only at hSw); go_simp; try with_reducible rfl)
                  try simp only [Act.put]
                  refine wpAnyH_take (i := 14) (oi := _) (v := ?_) rfl (by kernel_rfl) (by kernel_rfl) (by kernel_rfl) (fun _ _ _ h => h) (Or.inl ⟨by rfl, ?_⟩) (by assumption) ?_
                  rotate_left
                  · (intro w hSw; (try dsimp only at hSw); go_simp; try with_reducible rfl)
                  try simp only [Act.put]
                  refine wpAnyH_ready (rs := [15]) (by kernel_rfl) (by simp) ?_
                  refine AllReadyH.cons (o := _) rfl (fun K hK => ?_) AllReadyH.nil
                  go_simp
                  refine hK.out _ _ x2 (fun hHeld => ?_)
                  clear hK K
                  try simp only [Act.put, List.setIfInBounds_toArray, List.set_cons_zero, List.set_cons_succ]
                  refine wpAnyH_take (i := 16) (oi := _) (v := ?_) rfl (by kernel_rfl) (by kernel_rfl) (by kernel_rfl) (fun _ _ _ h => h) (Or.inl ⟨by rfl, ?_⟩) (by assumption) ?_
                  rotate_left
                  · (intro w hSw; (try dsimp only at hSw); go_simp; try with_reducible rfl)
                  try simp only [Act.put]
                  refine wpAnyH_take (i := 17) (oi := _) (v := ?_) rfl (by kernel_rfl) (by kernel_rfl) (by kernel_rfl) (fun _ _ _ h => h) (Or.inl ⟨by rfl, ?_⟩) (by assumption) ?_
                  rotate_left
                  · (intro w hSw; (try dsimp only at hSw); go_simp; try with_reducible rfl)
                  try simp only [Act.put]
                  refine wpAnyH_ready (rs := [18]) (by kernel_rfl) (by simp) ?_
                  refine AllReadyH.cons (o := _) rfl (fun K hK => ?_) AllReadyH.nil
                  go_simp
                  refine hK.out _ _ (cell_set hLB x2) (fun hHeld => ?_)
                  clear hK K
                  try simp only [Act.put, List.setIfInBounds_toArray, List.set_cons_zero, List.set_cons_succ]
                  refine wpAnyH_done (by kernel_rfl) ?_ _
                  refine NoPanic.normal ?_
                  go_wp2_with fail
                  refine ⟨⟨i + 1, fun j => if j = k then .slice Ak m' ck2 else V j, by omega, by go_num, ?_, (HF.out.congr (fun _ _ => rfl) (fun j _ => ?_)).heap rfl rfl rfl rfl, (B_set HB.out (p := ⟨L, k, none⟩) (Nat.le_of_eq HL.out.symm) _).drew⟩, ?_⟩
                  · rw [HST.out, step_fr, if_neg h7]
                  · try dsimp only
                    rw [HONE.out]
                    by_cases hjk : j = k
                    · subst hjk
                      rw [if_pos rfl, if_pos rfl, One.step_undo rfl]
                    · rw [if_neg (show ¬ ((k : Nat) : Int) = ((j : Nat) : Int) by omega), if_neg hjk]
                  · simp [intOf]; omega
                · refine AllReadyH.cons (o := _) rfl (fun K hK => ?_) AllReadyH.nil
                  go_simp
                  refine hK.out _ _ x2 (fun hHeld => ?_)
                  clear hK K
                  try simp only [Act.put, List.setIfInBounds_toArray, List.set_cons_zero, List.set_cons_succ]
                  refine wpAnyH_take (i := 13) (oi := _) (v := ?_) rfl (by kernel_rfl) (by kernel_rfl) (by kernel_rfl) (fun _ _ _ h => h) (Or.inl ⟨by rfl, ?_⟩) (by assumption) ?_
                  rotate_left
                  · (intro w hSw; (try dsimp only at hSw); go_simp; try with_reducible rfl)
                  try simp only [Act.put]
                  refine wpAnyH_take (i := 14) (oi := _) (v := ?_) rfl (by kernel_rfl) (by kernel_rfl) (by kernel_rfl) (fun _ _ _ h => h) (Or.inl ⟨by rfl, ?_⟩) (by assumption) ?_
                  rotate_left
                  · (intro w hSw; (try dsimp only at hSw); go_simp; try with_reducible rfl)
                  try simp only [Act.put]
                  refine wpAnyH_ready (rs := [7, 15]) (by kernel_rfl) (by simp) ?_
                  refine AllReadyH.cons (o := _) rfl (fun K hK => ?_) ?_
                  · go_simp
                    refine hK.out _ _ x2 (fun hHeld => ?_)
                    clear hK K
                    try simp only [Act.put, List.setIfInBounds_toArray, List.set_cons_zero, List.set_cons_succ]
                    refine wpAnyH_ready (rs := [15]) (by kernel_rfl) (by simp) ?_
                    refine AllReadyH.cons (o := _) rfl (fun K hK => ?_) AllReadyH.nil
                    go_simp
                    refine hK.out _ _ x2 (fun hHeld => ?_)
                    clear hK K
                    try simp only [Act.put, List.setIfInBounds_toArray, List.set_cons_zero, List.set_cons_succ]
                    refine wpAnyH_take (i := 16) (oi := _) (v := ?_) rfl (by kernel_rfl) (by kernel_rfl) (by kernel_rfl) (fun _ _ _ h => h) (Or.inl ⟨by rfl, ?_⟩) (by assumption) ?_
                    rotate_left
                    · (intro w hSw; (try dsimp only at hSw); go_simp; try with_reducible rfl)
                    try simp only [Act.put]
                    refine wpAnyH_take (i := 17) (oi := _) (v := ?_) rfl (by kernel_rfl) (by kernel_rfl) (by kernel_rfl) (fun _ _ _ h => h) (Or.inl ⟨by rfl, ?_⟩) (by assumption) ?_
                    rotate_left
                    · (intro w hSw; (try dsimp only at hSw); go_simp; try with_reducible rfl)
                    try simp only [Act.put]
                    refine wpAnyH_ready (rs := [18]) (by kernel_rfl) (by simp) ?_
                    refine AllReadyH.cons (o := _) rfl (fun K hK => ?_) AllReadyH.nil
                    go_simp
                    refine hK.out _ _ (cell_set hLB x2) (fun hHeld => ?_)
                    clear hK K
                    try simp only [Act.put, List.setIfInBounds_toArray, List.set_cons_zero, List.set_cons_succ]
                    refine wpAnyH_done (by kernel_rfl) ?_ _
                    refine NoPanic.normal ?_
                    go_wp2_with fail
                    refine ⟨⟨i + 1, fun j => if j = k then .slice Ak m' ck2 else V j, by omega, by go_num, ?_, (HF.out.congr (fun _ _ => rfl) (fun j _ => ?_)).heap rfl rfl rfl rfl, (B_set HB.out (p := ⟨L, k, none⟩) (Nat.le_of_eq HL.out.symm) _).drew⟩, ?_⟩
                    · rw [HST.out, step_fr, if_neg h7]
                    · try dsimp only
                      rw [HONE.out]
                      by_cases hjk : j = k
                      · subst hjk
                        rw [if_pos rfl, if_pos rfl, One.step_undo rfl]
                      · rw [if_neg (show ¬ ((k : Nat) : Int) = ((j : Nat) : Int) by omega), if_neg hjk]
                    · simp [intOf]; omega
                  · refine AllReadyH.cons (o := _) rfl (fun K hK => ?_) AllReadyH.nil
                    go_simp
                    refine hK.out _ _ x2 (fun hHeld => ?_)
                    clear hK K
                    try simp only [Act.put, List.setIfInBounds_toArray, List.set_cons_zero, List.set_cons_succ]
                    refine wpAnyH_ready (rs := [7]) (by kernel_rfl) (by simp) ?_
                    refine AllReadyH.cons (o := _) rfl (fun K hK => ?_) AllReadyH.nil
                    go_simp
                    refine hK.out _ _ x2 (fun hHeld => ?_)
                    clear hK K
                    try simp only [Act.put, List.setIfInBounds_toArray, List.set_cons_zero, List.set_cons_succ]
                    refine wpAnyH_take (i := 16) (oi := _) (v := ?_) rfl (by kernel_rfl) (by kernel_rfl) (by kernel_rfl) (fun _ _ _ h => h) (Or.inl ⟨by rfl, ?_⟩) (by assumption) ?_
                    rotate_left
                    · (intro w hSw; (try dsimp only at hSw); go_simp; try with_reducible rfl)
                    try simp only [Act.put]
                    refine wpAnyH_take (i := 17) (oi := _) (v := ?_) rfl (by kernel_rfl) (by kernel_rfl) (by kernel_rfl) (fun _ _ _ h => h) (Or.inl ⟨by rfl, ?_⟩) (by assumption) ?_
                    rotate_left
                    · (intro w hSw; (try dsimp only at hSw); go_simp; try with_reducible rfl)
                    try simp only [Act.put]
                    refine wpAnyH_ready (rs := [18]) (by kernel_rfl) (by simp) ?_
                    refine AllReadyH.cons (o := _) rfl (fun K hK => ?_) AllReadyH.nil
                    go_simp
                    refine hK.out _ _ (cell_set hLB x2) (fun hHeld => ?_)
                    clear hK K
                    try simp only [Act.put, List.setIfInBounds_toArray, List.set_cons_zero, List.set_cons_succ]
                    refine wpAnyH_done (by kernel_rfl) ?_ _
                    refine NoPanic.normal ?_
                    go_wp2_with fail
                    refine ⟨⟨i + 1, fun j => if j = k then .slice Ak m' ck2 else V j, by omega, by go_num, ?_, (HF.out.congr (fun _ _ => rfl) (fun j _ => ?_)).heap rfl rfl rfl rfl, (B_set HB.out (p := ⟨L, k, none⟩) (Nat.le_of_eq HL.out.symm) _).drew⟩, ?_⟩
                    · rw [HST.out, step_fr, if_neg h7]
                    · try dsimp only
                      rw [HONE.out]
                      by_cases hjk : j = k
                      · subst hjk
                        rw [if_pos rfl, if_pos rfl, One.step_undo rfl]
                      · rw [if_neg (show ¬ ((k : Nat) : Int) = ((j : Nat) : Int) by omega), if_neg hjk]
                    · simp [intOf]; omega
            · by_cases h23 : kd = 2 ∨ kd = 3
              · have cok := HLA.out.opn hk8
                have fok := frozen_of_row wc (L + 1) k _ _ HLA.out.ob
                have x3 : wc.cell? ⟨B1, 3, none⟩ = some (.int .i64 pg) := cell_of_row wc _ 3 _ _ _ hgb
                have x4 : wc.cell? ⟨B1, 4, none⟩ = some (.int .i64 sl) := cell_of_row wc _ 4 _ _ _ hgb
                have x5 : wc.cell? ⟨B1, 5, none⟩ = some (.string bf) := cell_of_row wc _ 5 _ _ _ hgb
                have hown := HLA.out.own k hk8
                rw [← HNK.out, HVK.out] at hown
                obtain ⟨xs, hxs⟩ : ∃ xs, xs = chgs (oneOf (es.take i) k).l := ⟨_, rfl⟩
                rw [← hxs] at hown
                have HXS := hid hxs
                clear hxs
                have hneL := own_ne hown HLA.out.lb (by decide)
                have hneO := own_ne hown HLA.out.ob (by decide)
                have hnB : (Value.slice Ak nk ck2).ownBlock ≠ some B1 := own_ne hown hgb (by decide)
                have hlL := (Array.getElem?_eq_some_iff.1 HLA.out.lb).1
                have hlO := (Array.getElem?_eq_some_iff.1 HLA.out.ob).1
                have hlB := World.block_lt_of_cell? _ _ x1
                have hbs := HB.out.size
                have cka : (wc.alloc (.cells #[.int .i64 pg, .int .i64 sl, .string bf] 42)).cell? ⟨L, k, none⟩ = some (.slice Ak nk ck2) := cell_alloc ck
                rcases h23 with rfl | rfl
                all_goals
                  clear hLs
                  go_wp2_with fail
                  refine wp_region_noPanic ?_
                  refine wp_region_held_drew (S := (fun w' => w'.cell? ⟨B1, 2, none⟩ = some (.int .i64 k) ∧ w'.cell? ⟨B1, 3, none⟩ = some (.int .i64 pg) ∧ w'.cell? ⟨B1, 4, none⟩ = some (.int .i64 sl) ∧ w'.cell? ⟨B1, 5, none⟩ = some (.string bf))) (by kernel_rfl) ⟨x2, x3, x4, x5⟩ (fun hHeld => ?_)
                  refine wpAnyH_take (i := 0) (oi := _) (v := ?_) rfl (by kernel_rfl) (by kernel_rfl) (by kernel_rfl) (fun _ _ _ h => h) (Or.inl ⟨by rfl, ?_⟩) (by assumption) ?_
                  rotate_left
                  · (intro w hSw; (try dsimp only at hSw); go_simp; try with_reducible rfl)
                  try simp only [Act.put]
                  refine wpAnyH_take (i := 1) (oi := _) (v := ?_) rfl (by kernel_rfl) (by kernel_rfl) (by kernel_rfl) (fun _ _ _ h => h) (Or.inl ⟨by rfl, ?_⟩) (by assumption) ?_
                  rotate_left
                  · (intro w hSw; (try dsimp only at hSw); go_simp; try with_reducible rfl)
                  try simp only [Act.put]
                  refine wpAnyH_take (i := 2) (oi := _) (v := ?_) rfl (by kernel_rfl) (by kernel_rfl) (by kernel_rfl) (fun _ _ _ h => h) (Or.inl ⟨by rfl, ?_⟩) (by assumption) ?_
                  rotate_left
                  · (intro w hSw; (try dsimp only at hSw); go_simp; try with_reducible rfl)
                  try simp only [Act.put]
                  refine wpAnyH_take (i := 3) (oi := _) (v := ?_) rfl (by kernel_rfl) (by kernel_rfl) (by kernel_rfl) (fun _ _ _ h => h) (Or.inl ⟨by rfl, ?_⟩) (by assumption) ?_
                  rotate_left
                  · (intro w hSw; (try dsimp only at hSw); go_simp; try with_reducible rfl)
                  try simp only [Act.put]
                  refine wpAnyH_take (i := 4) (oi := _) (v := ?_) rfl (by kernel_rfl) (by kernel_rfl) (by kernel_rfl) (fun _ _ _ h => h) (Or.inl ⟨by rfl, ?_⟩) (by assumption) ?_
                  rotate_left
                  · (intro w hSw; (try dsimp only at hSw); go_simp; try with_reducible rfl)
                  try simp only [Act.put]
                  refine wpAnyH_take (i := 5) (oi := _) (v := ?_) rfl (by kernel_rfl) (by kernel_rfl) (by kernel_rfl) (fun _ _ _ h => h) (Or.inl ⟨by rfl, ?_⟩) (by assumption) ?_
                  rotate_left
                  · (intro w hSw; (try dsimp only at hSw); go_simp; try with_reducible rfl)
                  try simp only [Act.put]
                  refine wpAnyH_take (i := 6) (oi := _) (v := ?_) rfl (by kernel_rfl) (by kernel_rfl) (by kernel_rfl) (fun _ _ _ h => h) (Or.inl ⟨by rfl, ?_⟩) (by assumption) ?_
                  rotate_left
                  · (intro w hSw; (try dsimp only at hSw); go_simp; try with_reducible rfl)
                  try simp only [Act.put]
                  refine wpAnyH_take (i := 7) (oi := _) (v := ?_) rfl (by kernel_rfl) (by kernel_rfl) (by kernel_rfl) (fun _ _ _ h => h) (Or.inl ⟨by rfl, ?_⟩) (by assumption) ?_
                  rotate_left
                  · (intro w hSw; (try dsimp only at hSw); go_simp; try with_reducible rfl)
                  try simp only [Act.put]
                  refine wpAnyH_take (i := 8) (oi := _) (v := ?_) rfl (by kernel_rfl) (by kernel_rfl) (by kernel_rfl) (fun _ _ _ h => h) (Or.inl ⟨by rfl, ?_⟩) (by assumption) ?_
                  rotate_left
                  · (intro w hSw; (try dsimp only at hSw); go_simp; try with_reducible rfl)
                  try simp only [Act.put]
                  refine wpAnyH_take (i := 9) (oi := _) (v := ?_) rfl (by kernel_rfl) (by kernel_rfl) (by kernel_rfl) (fun _ _ _ h => h) (Or.inl ⟨by rfl, ?_⟩) (by assumption) ?_
                  rotate_left
                  · (intro w hSw; (try dsimp only at hSw); go_simp; try with_reducible rfl)
                  try simp only [Act.put]
                  refine wpAnyH_take (i := 11) (oi := _) (v := ?_) rfl (by kernel_rfl) (by kernel_rfl) (by kernel_rfl) (fun _ _ _ h => h) (Or.inl ⟨by rfl, ?_⟩) (by assumption) ?_
                  rotate_left
                  · (intro w hSw; (try dsimp only at hSw); go_simp; try with_reducible rfl)
                  try simp only [Act.put]
                  refine wpAnyH_take (i := 12) (oi := _) (v := ?_) rfl (by kernel_rfl) (by kernel_rfl) (by kernel_rfl) (fun _ _ _ h => h) (Or.inl ⟨by rfl, ?_⟩) (by assumption) ?_
                  rotate_left
                  · (intro w hSw; (try dsimp only at hSw); go_simp; try with_reducible rfl)
                  try simp only [Act.put]
                  refine wpAnyH_take (i := 13) (oi := _) (v := ?_) rfl (by kernel_rfl) (by kernel_rfl) (by kernel_rfl) (fun _ _ _ h => h) (Or.inl ⟨by rfl, ?_⟩) (by assumption) ?_
                  rotate_left
                  · (intro w hSw; (try dsimp only at hSw); go_simp; try with_reducible rfl)
                  try simp only [Act.put]
                  refine wpAnyH_take (i := 14) (oi := _) (v := ?_) rfl (by kernel_rfl) (by kernel_rfl) (by kernel_rfl) (fun _ _ _ h => h) (Or.inl ⟨by rfl, ?_⟩) (by assumption) ?_
                  rotate_left
                  · (intro w hSw; (try dsimp only at hSw); go_simp; try with_reducible rfl)
                  try simp only [Act.put]
                  refine wpAnyH_take (i := 15) (oi := _) (v := ?_) rfl (by kernel_rfl) (by kernel_rfl) (by kernel_rfl) (fun _ _ _ h => h) (Or.inl ⟨by rfl, ?_⟩) (by assumption) ?_
                  rotate_left
                  · (intro w hSw; (try dsimp only at hSw); go_simp; try with_reducible rfl)
                  try simp only [Act.put]
                  refine wpAnyH_take (i := 16) (oi := _) (v := ?_) rfl (by kernel_rfl) (by kernel_rfl) (by kernel_rfl) (fun _ _ _ h => h) (Or.inl ⟨by rfl, ?_⟩) (by assumption) ?_
                  rotate_left
                  · (intro w hSw; (try dsimp only at hSw); go_simp; try with_reducible rfl)
                  try simp only [Act.put]
                  refine wpAnyH_take (i := 17) (oi := _) (v := ?_) rfl (by kernel_rfl) (by kernel_rfl) (by kernel_rfl) (fun _ _ _ h => h) (Or.inl ⟨by rfl, ?_⟩) (by assumption) ?_
                  rotate_left
                  · (intro w hSw; (try dsimp only at hSw); go_simp; try with_reducible rfl)
                  try simp only [Act.put]
                  refine wpAnyH_take (i := 18) (oi := _) (v := ?_) rfl (by kernel_rfl) (by kernel_rfl) (by kernel_rfl) (fun _ _ _ h => h) (Or.inl ⟨by rfl, ?_⟩) (by assumption) ?_
                  rotate_left
                  · (intro w hSw; (try dsimp only at hSw); go_simp; try with_reducible rfl)
                  try simp only [Act.put]
                  refine wpAnyH_take (i := 19) (oi := _) (v := ?_) rfl (by kernel_rfl) (by kernel_rfl) (by kernel_rfl) (fun _ _ _ h => h) (Or.inl ⟨by rfl, ?_⟩) (by assumption) ?_
                  rotate_left
                  · (intro w hSw; (try dsimp only at hSw); go_simp; try with_reducible rfl)
                  try simp only [Act.put]
                  refine wpAnyH_take (i := 20) (oi := _) (v := ?_) rfl (by kernel_rfl) (by kernel_rfl) (by kernel_rfl) (fun _ _ _ h => h) (Or.inl ⟨by rfl, ?_⟩) (by assumption) ?_
                  rotate_left
                  · (intro w hSw; (try dsimp only at hSw); go_simp; try with_reducible rfl)
                  try simp only [Act.put]
                  refine wpAnyH_ready (rs := [10, 21]) (by kernel_rfl) (by simp) ?_
                  refine AllReadyH.cons (o := _) rfl (fun K hK => ?_) ?_
                  · go_simp
                    refine hK.out _ _ ⟨x2, x3, x4, x5⟩ (fun hHeld => ?_)
                    clear hK K
                    try simp only [Act.put, List.setIfInBounds_toArray, List.set_cons_zero, List.set_cons_succ]
                    refine wpAnyH_ready (rs := [21]) (by kernel_rfl) (by simp) ?_
                    refine AllReadyH.cons (o := _) rfl (fun K hK => ?_) AllReadyH.nil
                    go_simp
                    refine hK.out _ _ ⟨cell_alloc x2, cell_alloc x3, cell_alloc x4, cell_alloc x5⟩ (fun hHeld => ?_)
                    clear hK K
                    try simp only [Act.put, List.setIfInBounds_toArray, List.set_cons_zero, List.set_cons_succ]
                    refine wpAnyH_ready (rs := [22]) (by kernel_rfl) (by simp) ?_
                    refine AllReadyH.cons (o := _) rfl (fun K hK => ?_) AllReadyH.nil
                    refine step_append_lies _ (by rfl) _ _ _ (by rfl) w4.heap.size 42 i0 _ 3 32 Try.underlying28 hi hz0 hz1 hz2 rfl (by omega) (.slice Ak nk ck2) nk xs (by rfl) ((hown.alloc _).drew)
                      ⟨wc.heap.size, 0, none⟩ 1 1 [.int .i64 pg, .int .i64 sl, .string bf] (by rfl) (by rfl) (World.news_of_block (cs := #[.int .i64 pg, .int .i64 sl, .string bf]) (t := 42) (fr := (0, 0)) (heap_alloc_new wc _)) (by simp [Value.oneCell'])
                      (by omega) (by unfold maxLen; omega) (by omega) (by simp; omega) (wc.heap.size + 1) (by simp) ?_
                    intro gg cap w6 hown1 hgrow hat hlt6
                    have hl6 : w6.heap[L]? = _ := (hgrow.block _ (by simp; omega) (Ne.symm hneL)).trans (blk_alloc_drew HLA.out.lb)
                    have ho6 : w6.heap[L + 1]? = _ := (hgrow.block _ (by simp; omega) (Ne.symm hneO)).trans (blk_alloc_drew HLA.out.ob)
                    have z1 : w6.cell? ⟨L, k, none⟩ = some (.slice Ak nk ck2) := by
                      rw [hgrow.cell_far _ (by simp; omega) (Ne.symm hneL)]
                      exact cell_alloc ck
                    have z2 : w6.cell? ⟨L + 1, k, none⟩ = some (.bool (oneOf (es.take i) k).o) := by
                      rw [hgrow.cell_far _ (by simp; omega) (Ne.symm hneO)]
                      exact cell_alloc cok
                    have y2 : w6.cell? ⟨B1, 2, none⟩ = some (.int .i64 k) := by
                      rw [hgrow.cell_far _ (by simp; omega) (Ne.symm hnB)]
                      exact cell_alloc x2
                    have y3 : w6.cell? ⟨B1, 3, none⟩ = some (.int .i64 pg) := by
                      rw [hgrow.cell_far _ (by simp; omega) (Ne.symm hnB)]
                      exact cell_alloc x3
                    have y4 : w6.cell? ⟨B1, 4, none⟩ = some (.int .i64 sl) := by
                      rw [hgrow.cell_far _ (by simp; omega) (Ne.symm hnB)]
                      exact cell_alloc x4
                    have y5 : w6.cell? ⟨B1, 5, none⟩ = some (.string bf) := by
                      rw [hgrow.cell_far _ (by simp; omega) (Ne.symm hnB)]
                      exact cell_alloc x5
                    have z3 := frozen_of_row w6 L k _ _ hl6
                    have z4 := frozen_of_row w6 (L + 1) k _ _ ho6
                    refine hK.out _ _ ⟨y2, y3, y4, y5⟩ (fun hHeld => ?_)
                    clear hK K
                    try simp only [Act.put, List.setIfInBounds_toArray]
                    refine wpAnyH_take (i := 23) (oi := _) (v := ?_) rfl (by kernel_rfl) (by kernel_rfl) (by kernel_rfl) (fun _ _ _ h => h) (Or.inl ⟨by rfl, ?_⟩) (by assumption) ?_
                    rotate_left
                    · (intro w hSw; (try dsimp only at hSw); go_simp; try with_reducible rfl)
                    try simp only [Act.put]
                    refine wpAnyH_ready (rs := [24]) (by kernel_rfl) (by simp) ?_
                    refine AllReadyH.cons (o := _) rfl (fun K hK => ?_) AllReadyH.nil
                    go_simp
                    refine hK.out _ _ ⟨cell_set hLB y2, cell_set hLB y3, cell_set hLB y4, cell_set hLB y5⟩ (fun hHeld => ?_)
                    clear hK K
                    try simp only [Act.put, List.setIfInBounds_toArray, List.set_cons_zero, List.set_cons_succ]
                    refine wpAnyH_take (i := 25) (oi := _) (v := ?_) rfl (by kernel_rfl) (by kernel_rfl) (by kernel_rfl) (fun _ _ _ h => h) (Or.inl ⟨by rfl, ?_⟩) (by assumption) ?_
                    rotate_left
                    · (intro w hSw; (try dsimp only at hSw); go_simp; try with_reducible rfl)
                    try simp only [Act.put]
                    refine wpAnyH_ready (rs := [26]) (by kernel_rfl) (by simp) ?_
                    refine AllReadyH.cons (o := _) rfl (fun K hK => ?_) AllReadyH.nil
                    go_simp
                    refine hK.out _ _ ⟨cell_set hOB (cell_set hLB y2), cell_set hOB (cell_set hLB y3), cell_set hOB (cell_set hLB y4), cell_set hOB (cell_set hLB y5)⟩ (fun hHeld => ?_)
                    clear hK K
                    try simp only [Act.put, List.setIfInBounds_toArray, List.set_cons_zero, List.set_cons_succ]
                    refine wpAnyH_done (by kernel_rfl) ?_ _
                    refine NoPanic.normal ?_
                    have HM := hid (list_more HLA.out hk8 HVK.out HNK.out HXS.out HB.out (Nat.le_of_eq HL.out.symm) (Nat.le_trans (Nat.le_of_eq HL.out.symm) (Nat.le_succ _)) hgrow hown1 hat)
                    clear hgrow hown1 hat hHeld
                    go_wp2_with fail
                    refine ⟨⟨i + 1, fun j => if j = k then .slice (some ⟨gg, 0, none⟩) (nk + 1) cap else V j, by omega, by go_num, ?_, HM.out.1.congr (fun _ _ => rfl) (fun j _ => ?_), HM.out.2⟩, ?_⟩
                    · rw [HST.out, step_fr, if_neg h7]
                    · try dsimp only
                      rw [HONE.out]
                      by_cases hjk : j = k
                      · subst hjk
                        rw [if_pos rfl, if_pos rfl, One.step_more (by simp)]
                        rfl
                      · rw [if_neg (show ¬ ((k : Nat) : Int) = ((j : Nat) : Int) by omega), if_neg hjk]
                    · simp [intOf]; omega
                  · refine AllReadyH.cons (o := _) rfl (fun K hK => ?_) AllReadyH.nil
                    go_simp
                    refine hK.out _ _ ⟨cell_alloc x2, cell_alloc x3, cell_alloc x4, cell_alloc x5⟩ (fun hHeld => ?_)
                    clear hK K
                    try simp only [Act.put, List.setIfInBounds_toArray, List.set_cons_zero, List.set_cons_succ]
                    refine wpAnyH_ready (rs := [10]) (by kernel_rfl) (by simp) ?_
                    refine AllReadyH.cons (o := _) rfl (fun K hK => ?_) AllReadyH.nil
                    go_simp
                    refine hK.out _ _ ⟨cell_alloc x2, cell_alloc x3, cell_alloc x4, cell_alloc x5⟩ (fun hHeld => ?_)
                    clear hK K
                    try simp only [Act.put, List.setIfInBounds_toArray, List.set_cons_zero, List.set_cons_succ]
                    refine wpAnyH_ready (rs := [22]) (by kernel_rfl) (by simp) ?_
                    refine AllReadyH.cons (o := _) rfl (fun K hK => ?_) AllReadyH.nil
                    refine step_append_lies _ (by rfl) _ _ _ (by rfl) w4.heap.size 42 i0 _ 3 32 Try.underlying28 hi hz0 hz1 hz2 rfl (by omega) (.slice Ak nk ck2) nk xs (by rfl) ((hown.alloc _).drew)
                      ⟨wc.heap.size, 0, none⟩ 1 1 [.int .i64 pg, .int .i64 sl, .string bf] (by rfl) (by rfl) (World.news_of_block (cs := #[.int .i64 pg, .int .i64 sl, .string bf]) (t := 42) (fr := (0, 0)) (heap_alloc_new wc _)) (by simp [Value.oneCell'])
                      (by omega) (by unfold maxLen; omega) (by omega) (by simp; omega) (wc.heap.size + 1) (by simp) ?_
                    intro gg cap w6 hown1 hgrow hat hlt6
                    have hl6 : w6.heap[L]? = _ := (hgrow.block _ (by simp; omega) (Ne.symm hneL)).trans (blk_alloc_drew HLA.out.lb)
                    have ho6 : w6.heap[L + 1]? = _ := (hgrow.block _ (by simp; omega) (Ne.symm hneO)).trans (blk_alloc_drew HLA.out.ob)
                    have z1 : w6.cell? ⟨L, k, none⟩ = some (.slice Ak nk ck2) := by
                      rw [hgrow.cell_far _ (by simp; omega) (Ne.symm hneL)]
                      exact cell_alloc ck
                    have z2 : w6.cell? ⟨L + 1, k, none⟩ = some (.bool (oneOf (es.take i) k).o) := by
                      rw [hgrow.cell_far _ (by simp; omega) (Ne.symm hneO)]
                      exact cell_alloc cok
                    have y2 : w6.cell? ⟨B1, 2, none⟩ = some (.int .i64 k) := by
                      rw [hgrow.cell_far _ (by simp; omega) (Ne.symm hnB)]
                      exact cell_alloc x2
                    have y3 : w6.cell? ⟨B1, 3, none⟩ = some (.int .i64 pg) := by
                      rw [hgrow.cell_far _ (by simp; omega) (Ne.symm hnB)]
                      exact cell_alloc x3
                    have y4 : w6.cell? ⟨B1, 4, none⟩ = some (.int .i64 sl) := by
                      rw [hgrow.cell_far _ (by simp; omega) (Ne.symm hnB)]
                      exact cell_alloc x4
                    have y5 : w6.cell? ⟨B1, 5, none⟩ = some (.string bf) := by
                      rw [hgrow.cell_far _ (by simp; omega) (Ne.symm hnB)]
                      exact cell_alloc x5
                    have z3 := frozen_of_row w6 L k _ _ hl6
                    have z4 := frozen_of_row w6 (L + 1) k _ _ ho6
                    refine hK.out _ _ ⟨y2, y3, y4, y5⟩ (fun hHeld => ?_)
                    clear hK K
                    try simp only [Act.put, List.setIfInBounds_toArray]
                    refine wpAnyH_take (i := 23) (oi := _) (v := ?_) rfl (by kernel_rfl) (by kernel_rfl) (by kernel_rfl) (fun _ _ _ h => h) (Or.inl ⟨by rfl, ?_⟩) (by assumption) ?_
                    rotate_left
                    · (intro w hSw; (try dsimp only at hSw); go_simp; try with_reducible rfl)
                    try simp only [Act.put]
                    refine wpAnyH_ready (rs := [24]) (by kernel_rfl) (by simp) ?_
                    refine AllReadyH.cons (o := _) rfl (fun K hK => ?_) AllReadyH.nil
                    go_simp
                    refine hK.out _ _ ⟨cell_set hLB y2, cell_set hLB y3, cell_set hLB y4, cell_set hLB y5⟩ (fun hHeld => ?_)
                    clear hK K
                    try simp only [Act.put, List.setIfInBounds_toArray, List.set_cons_zero, List.set_cons_succ]
                    refine wpAnyH_take (i := 25) (oi := _) (v := ?_) rfl (by kernel_rfl) (by kernel_rfl) (by kernel_rfl) (fun _ _ _ h => h) (Or.inl ⟨by rfl, ?_⟩) (by assumption) ?_
                    rotate_left
                    · (intro w hSw; (try dsimp only at hSw); go_simp; try with_reducible rfl)
                    try simp only [Act.put]
                    refine wpAnyH_ready (rs := [26]) (by kernel_rfl) (by simp) ?_
                    refine AllReadyH.cons (o := _) rfl (fun K hK => ?_) AllReadyH.nil
                    go_simp
                    refine hK.out _ _ ⟨cell_set hOB (cell_set hLB y2), cell_set hOB (cell_set hLB y3), cell_set hOB (cell_set hLB y4), cell_set hOB (cell_set hLB y5)⟩ (fun hHeld => ?_)
                    clear hK K
                    try simp only [Act.put, List.setIfInBounds_toArray, List.set_cons_zero, List.set_cons_succ]
                    refine wpAnyH_done (by kernel_rfl) ?_ _
                    refine NoPanic.normal ?_
                    have HM := hid (list_more HLA.out hk8 HVK.out HNK.out HXS.out HB.out (Nat.le_of_eq HL.out.symm) (Nat.le_trans (Nat.le_of_eq HL.out.symm) (Nat.le_succ _)) hgrow hown1 hat)
                    clear hgrow hown1 hat hHeld
                    go_wp2_with fail
                    refine ⟨⟨i + 1, fun j => if j = k then .slice (some ⟨gg, 0, none⟩) (nk + 1) cap else V j, by omega, by go_num, ?_, HM.out.1.congr (fun _ _ => rfl) (fun j _ => ?_), HM.out.2⟩, ?_⟩
                    · rw [HST.out, step_fr, if_neg h7]
                    · try dsimp only
                      rw [HONE.out]
                      by_cases hjk : j = k
                      · subst hjk
                        rw [if_pos rfl, if_pos rfl, One.step_more (by simp)]
                        rfl
                      · rw [if_neg (show ¬ ((k : Nat) : Int) = ((j : Nat) : Int) by omega), if_neg hjk]
                    · simp [intOf]; omega
              · have n2 : (kd == 2) = false := by simp; omega
                have n3 : (kd == 3) = false := by simp; omega
                have n4 : (kd == 4) = false := by simp; omega
                have n5 : (kd == 5) = false := by simp; omega
                have n6 : (kd == 6) = false := by simp; omega
                have n7 : (kd == 7) = false := by simp; omega
                clear hLs
                go_wp2_with fail
                go_roundw
                case rel =>
                  refine ⟨i + 1, V, by omega, by go_num, ?_, HLA.out.congr (fun _ _ => rfl) (fun j _ => ?_), HB.out⟩
                  · rw [HST.out, step_fr, if_neg h7]
                  · try dsimp only
                    rw [HONE.out]
                    split
                    · exact One.step_none h23 h4 h56
                    · rfl
                case measure => simp [intOf]; omega
      · obtain rfl : i = m := by omega
        have htk : es.take i = es := by rw [← HEM.out, List.take_length]
        rw [htk] at hLA ⊢
        have hpi := HIN.out.below hbl
        have hbF := B_call HBW.out hbl
        have HLA := hid hLA
        have HPI := hid hpi
        have HBF := hid hbF
        clear hLA hpi hbF hbl htk HR4 HIN HBW HTX
        generalize hfrm : (planOf es).fr = frm
        have hpf : p.fr = frm := by rw [HP.out]; exact hfrm
        have HPF := hid hpf
        clear hfrm hpf
        go_wp2_with fail
        go_loopw [12] (fun u wx => ∃ n : Nat, 1 ≤ n ∧ n ≤ 4 ∧ u = .int .i64 n ∧ PlanIn wx P p B c ∧ ListAt w4.heap.size wx L (L + 1) V (fun n => oneOf es n) ∧ Below w.heap.size w wx) (fun u _ => ((4 : Int) - intOf u).toNat)
        case atStart => exact ⟨1, by omega, by omega, rfl, HPI.out, HLA.out, HBF.out⟩
        case round =>
          clear HLA HPI HBF
          obtain ⟨n, hn1, hn4, rfl, hpi, hla, hbb⟩ := hrel
          by_cases hlt4 : n < 4
          · have hps : p.s n = oneOf es n := by rw [HP.out]; exact one_plan n hn1 hlt4 es
            have hLb : (oneOf es n).l.length ≤ 100 := Nat.le_trans (oneOf_len es n) (by rw [HEM.out]; omega)
            obtain ⟨on, hon⟩ : ∃ on, on = (oneOf es n) := ⟨_, rfl⟩
            have e1 := plan_cell hpi.blk hlt4
            have e2 := plan_open hpi.blk hlt4
            have f0 := hla.cell (i := n) (by omega)
            have f2 := hla.opn (i := n) (by omega)
            obtain ⟨An, cn, hVn, _⟩ := ChgAt.of_own (hla.own n (by omega))
            rw [hps, ← hon] at e1 e2
            rw [hVn] at f0
            simp only [← hon] at f0 f2 hLb
            obtain ⟨o, ho⟩ : ∃ o, o = on.o := ⟨_, rfl⟩
            obtain ⟨Ln, hLn⟩ : ∃ Ln, Ln = on.l.length := ⟨_, rfl⟩
            rw [← ho] at e2 f2
            rw [← hLn] at e1 f0 hLb
            have hn0 : (0 : Int) ≤ (n : Int) := by omega
            have hnb4 : (n : Int) < 4 := by omega
            have hnb8 : (n : Int) < 8 := by omega
            have hnb3 : (n : Int) ≤ 3 := by omega
            have hd3 : decide ((n : Int) ≤ 3) = true := by simpa using hnb3
            have HPI := hid hpi
            have HLA := hid hla
            have HBB := hid hbb
            have HPS := hid hps
            have HON := hid hon
            have HLN := hid hLn
            have HVN := hid hVn
            clear hpi hla hbb hps hon hLn hVn ho
            go_upto_region 34 with fail
            go_quiet (fail)
            generalize hwx : World.drewN _ _ = wx2
            have hpi2 : PlanIn wx2 P p B c := by rw [← hwx]; exact plan_heap HPI.out rfl
            have hla2 : ListAt w4.heap.size wx2 L (L + 1) V (fun n => oneOf es n) := by rw [← hwx]; exact HLA.out.heap rfl rfl rfl rfl
            have hbb2 : Below w.heap.size w wx2 := by rw [← hwx]; exact below_drewN HBB.out _
            clear hwx e1 e2 f0 f2 HPI HLA HBB
            have f0 := hla2.cell (i := n) (by omega)
            rw [HVN.out] at f0
            simp only [← HON.out] at f0
            rw [← HLN.out] at f0
            have HPI2 := hid hpi2
            have HLA2 := hid hla2
            have HBB2 := hid hbb2
            clear hpi2 hla2 hbb2
            go_wp2_with fail
            go_loopw [141] (fun u wx => ∃ x : Nat, x ≤ Ln ∧ u = .int .i64 x ∧ PlanIn wx P p B c ∧ ListAt w4.heap.size wx L (L + 1) V (fun n => oneOf es n) ∧ Below w.heap.size w wx) (fun u _ => ((Ln : Int) - intOf u).toNat)
            case atStart => exact ⟨0, by omega, rfl, HPI2.out, HLA2.out, HBB2.out⟩
            case round =>
              clear HPI2 HLA2 HBB2 f0
              obtain ⟨x, hx, rfl, hpi, hla, hbb⟩ := hrel
              have HPI := hid hpi
              have HLA := hid hla
              have HBB := hid hbb
              clear hpi hla hbb
              by_cases hxl : x < Ln
              · have e1 := plan_cell HPI.out.blk hlt4
                have f0 := HLA.out.cell (i := n) (by omega)
                obtain ⟨An', cn', hVn', hch2⟩ := ChgAt.of_own (HLA.out.own n (by omega))
                have hch1 := HPI.out.chg n hlt4
                rw [HVN.out] at hVn'
                injection hVn' with hA' _ hc'
                subst hA' hc'
                rw [HPS.out] at e1 hch1
                rw [HVN.out] at f0
                simp only [← HON.out] at e1 f0 hch1 hch2
                rw [← HLN.out] at e1 f0
                obtain ⟨g1, hg1, c0, c1', c2⟩ := hch1 x (by rw [← HLN.out]; exact hxl)
                obtain ⟨g2, hg2, d0, d1, d2⟩ := hch2 x (by rw [← HLN.out]; exact hxl)
                rw [hg1] at e1
                rw [hg2] at f0
                generalize (on.l[x]'(by rw [← HLN.out]; exact hxl)) = ch at c0 c1' c2 d0 d1 d2
                clear hch1 hch2 hg1 hg2
                have hxa : (0 : Int) ≤ (x : Int) := by omega
                have hxb : (x : Int) < (Ln : Int) := by omega
                go_upto_region 39 with fail
                go_quiet (fail)
                go_wp2_with fail
                refine ⟨⟨x + 1, by omega, by go_num, plan_heap HPI.out rfl, HLA.out.heap rfl rfl rfl rfl, below_drewN HBB.out _⟩, ?_⟩
                simp [intOf]; omega
              · obtain rfl : x = Ln := by omega
                go_wp2_with fail
                go_roundw
                case rel => exact ⟨n + 1, by omega, by omega, by go_num, HPI.out, HLA.out, HBB.out⟩
                case measure => simp [intOf]; omega
          · obtain rfl : n = 4 := by omega
            have e0 := plan_from hpi.blk
            have e1 := plan_cell hpi.blk (i := 0) (by omega)
            have e2 := plan_open hpi.blk (i := 0) (by omega)
            have hp0 : p.s 0 = ⟨[], false⟩ := by rw [HP.out]; rfl
            rw [hp0] at e1 e2
            rw [HPF.out] at e0
            simp only [Nat.add_zero, List.length_nil] at e1 e2
            have HBB := hid hbb
            clear hpi hla hbb hp0
            go_wp2_with fail
            go_ret
            exact ⟨rfl, HBB.out⟩

end Go.Proofs.Ytcolblmhopjgpaa
