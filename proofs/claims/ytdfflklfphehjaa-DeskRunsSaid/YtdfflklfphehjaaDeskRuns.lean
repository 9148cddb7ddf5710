/-
  DeskRuns' walk: call by call handles are there, each with its transaction, a few at most, no number twice.
-/
import Derived.Test.YtdfflklfphehjaaDeskMany
namespace Go.Proofs.Ytdfflklfphehjaa
open Go.RowKit Go.Maps

/-- The desk and the law's own map hold the same. -/
structure D1 (w0 w : World) (s : Nat) (E : Int) (n : Nat) (l : List (Int × Int)) : Prop where
  d : DeskAt w (s + 1) s E n l
  m : MapAt w inum iok inum (s + 2) l
  b : Below w0.heap.size w0 w
  sl : w0.heap.size ≤ s
  z : s + 2 < w.heap.size
  six : l.length ≤ 6

theorem D1.alloc {w0 w : World} {s : Nat} {E : Int} {n : Nat} {l : List (Int × Int)} (h : D1 w0 w s E n l) (o : Obj) : D1 w0 (w.alloc o) s E n l := by
  have t : Turns (fun _ => False) w (w.alloc o) := (Turns.refl _ _).alloc o
  have hz := h.z
  exact ⟨h.d.turns t (fun h => h) (fun h => h), h.m.alloc o, h.b.alloc h.b.size o, h.sl, by simp; omega, h.six⟩
theorem D1.turns {w0 w w' : World} {s : Nat} {E : Int} {n n' : Nat} {l l' : List (Int × Int)} (h : D1 w0 w s E n l) {S : Nat → Prop} (t : Turns S w w') (hS : ∀ i, S i → i = s + 1 ∨ i = s ∨ i = s + 2)
    (d : DeskAt w' (s + 1) s E n' l') (m : MapAt w' inum iok inum (s + 2) l') (h6 : l'.length ≤ 6) : D1 w0 w' s E n' l' := by
  have hs := h.sl
  exact ⟨d, m, h.b.trans (t.below h.b.size (by intro z hz hS'; rcases hS z hS' with rfl | rfl | rfl <;> omega)), h.sl, Nat.lt_of_lt_of_le h.z t.size, h6⟩

theorem Turns.cell {S : Nat → Prop} {w w' : World} (t : Turns S w w') {p : Addr} (hp : p.block < w.heap.size) (hS : ¬ S p.block) : w'.cell? p = w.cell? p := World.cell?_of_block (w := w) (t.block p.block hp hS)

theorem mapped {w w' : World} {b : Nat} (t : w.mapTurned w' b) : Turns (fun i => i = b) w w' := (Turns.refl _ _).turned t (.inr rfl)
theorem D1.mapFirst {w0 w w3 w4 : World} {s : Nat} {E : Int} {n n' : Nat} {l l' : List (Int × Int)} (h : D1 w0 w s E n l) (t3 : w.mapTurned w3 (s + 2)) (t4 : Turns (fun i => i = s + 1 ∨ i = s) w3 w4)
    (d : DeskAt w4 (s + 1) s E n' l') (m : MapAt w3 inum iok inum (s + 2) l') (h6 : l'.length ≤ 6) : D1 w0 w4 s E n' l' :=
  h.turns (S := fun i => i = s + 1 ∨ i = s ∨ i = s + 2) (((mapped t3).mono (fun i _ h => .inr (.inr h))).trans (t4.mono (fun i _ h => h.elim .inl (fun h => .inr (.inl h))))) (fun i h => h) d (m.turns t4 (by omega)) h6
theorem D1.deskFirst {w0 w w3 w4 : World} {s : Nat} {E : Int} {n : Nat} {l l' : List (Int × Int)} (h : D1 w0 w s E n l) (t3 : Turns (fun i => i = s) w w3) (t4 : w3.mapTurned w4 (s + 2))
    (d : DeskAt w3 (s + 1) s E n l') (m : MapAt w4 inum iok inum (s + 2) l') (h6 : l'.length ≤ 6) : D1 w0 w4 s E n l' :=
  h.turns (S := fun i => i = s + 1 ∨ i = s ∨ i = s + 2) ((t3.mono (fun i _ h => .inr (.inl h))).trans ((mapped t4).mono (fun i _ h => .inr (.inr h)))) (fun i h => h) (d.turns (mapped t4) (by omega) (by omega)) m h6

set_option maxHeartbeats 2000000 in
set_option maxRecDepth 100000 in
theorem runs_any (a : Int) (b off len cap : Nat) (c : Nat → Nat → Int) (w : World) (hb : 0 < len → b < w.heap.size) (hlen : len ≤ 9223372036854775807)
    (hc : ∀ i, i < len → ∀ j, j < 3 → w.cell? ⟨b, off + i * 3 + j, none⟩ = some (.int .i64 (c i j))) :
    Calls Try.prog 6 #[.int .i64 a, .slice (some ⟨b, off, none⟩) len cap] w fun e w' => e = .returned (.bool true) ∧ Below w.heap.size w w' := by
  have ha := and_mask a 40 (by omega)
  simp only [show ((2 ^ 40 - 1 : Nat) : Int) = 1099511627775 from rfl, show (2 : Int) ^ 40 = 1099511627776 from rfl] at ha
  obtain ⟨E, hE⟩ : ∃ E, bits .and .i64 a 1099511627775 = E := ⟨_, rfl⟩
  rw [hE] at ha
  have hmm := @run_makeMap Try.prog
  by_cases h200 : 200 < len
  · go_enter Try.func6, Try.ntmps6
    go_wp2_with (first
      | (go_at_call 8; refine (fit_any _).mono ?_; rintro e w1 ⟨rfl, b1⟩))
    go_ret
    exact ⟨rfl, b1⟩
  · go_enter Try.func6, Try.ntmps6
    go_wp2_with (first
      | (go_at_call 8; refine (fit_any _).mono ?_; rintro e w1 ⟨rfl, b1⟩)
      | (go_at_call 9; refine (new_any E _).mono ?_; rintro e w2 ⟨rfl, h2, b2, s2⟩))
    have hal : Turns (fun _ => False) w2 (w2.alloc (.map #[] 0)) := (Turns.refl _ _).alloc _
    have hm3 : MapAt (w2.alloc (.map #[] 0)) inum iok inum (w1.heap.size + 2) ([] : List (Int × Int)) := by
      have := MapAt.made (K := Int) (V := Int) w2 inum iok inum
      rw [s2] at this; exact this
    have hS0 : D1 w (w2.alloc (.map #[] 0)) w1.heap.size E 0 [] :=
      ⟨h2.turns hal (fun h => h) (fun h => h), hm3, (b1.trans (b2.mono b1.size)).alloc (by have := b1.size; omega) _, b1.size, by simp; omega, by simp⟩
    obtain ⟨s, hs⟩ : ∃ s, s = w1.heap.size := ⟨_, rfl⟩
    rw [← hs] at hS0 ⊢
    clear h2 b1 b2 s2 hs hE hm3 hal hmm
    go_loopw [7, 28] (fun u i wr => ∃ (k n : Nat) (l : List (Int × Int)), k ≤ len ∧ i = .int .i64 k ∧ n ≤ k ∧ u = .int .i64 n ∧ D1 w wr s E n l) (fun _ i _ => ((len : Int) - intOf i).toNat)
    case atStart => exact ⟨0, 0, [], by omega, rfl, by omega, rfl, hS0⟩
    case round =>
      clear hS0
      obtain ⟨k, n, l, hk, rfl, hnk, rfl, hS⟩ := hrel
      by_cases hlt : k < len
      · have hc0 := (hS.b.cell (p := ⟨b, off + k * 3 + 0, none⟩) (hb (by omega))).trans (hc k hlt 0 (by omega))
        have hc1 := (hS.b.cell (p := ⟨b, off + k * 3 + 1, none⟩) (hb (by omega))).trans (hc k hlt 1 (by omega))
        have hc2 := (hS.b.cell (p := ⟨b, off + k * 3 + 2, none⟩) (hb (by omega))).trans (hc k hlt 2 (by omega))
        obtain ⟨c0, e0⟩ : ∃ x, x = c k 0 := ⟨_, rfl⟩
        obtain ⟨c1, e1⟩ : ∃ x, x = c k 1 := ⟨_, rfl⟩
        obtain ⟨c2, e2⟩ : ∃ x, x = c k 2 := ⟨_, rfl⟩
        rw [← e0] at hc0
        rw [← e1] at hc1
        rw [← e2] at hc2
        simp only [Nat.add_zero] at hc0
        clear e0 e1 e2
        clear hc
        have hM := and_mask c1 5 (by omega)
        simp only [show ((2 ^ 5 - 1 : Nat) : Int) = 31 from rfl, show (2 : Int) ^ 5 = 32 from rfl] at hM
        obtain ⟨M, eM⟩ : ∃ M, bits .and .i64 c1 31 = M := ⟨_, rfl⟩
        rw [eM] at hM
        have hA := hS.alloc (.cells #[.int .i64 c0, .int .i64 c1, .int .i64 c2] 34)
        have hz : s + 2 < wr.heap.size := hS.z
        have hm0 := hA.m
        have hd0 := hA.d
        clear hS
        have hH : iok (E * 1048576 + M) := iok_of (by omega)
        have hE0 : 0 ≤ E ∧ E < 8796093022208 := by omega
        have hn0 : 0 ≤ (n : Int) ∧ (n : Int) < 1048575 := by omega
        by_cases hq0 : (wrap64 (c0.tmod 3 + 3)).tmod 3 = 0
        · have hk0 : ((wrap64 (c0.tmod 3 + 3)).tmod 3 == 0) = true := by simpa using hq0
          clear hq0
          by_cases hl6 : l.length < 6
          · have h6 : decide ((l.length : Int) < 6) = true := by simp; omega
            go_wp2_with (first
              | (at_lookup; refine wpList_lookup_ok_al _ rfl _ _ 32 3 rfl ienc Try.underlying32 0 (zero3 _) rfl hm0 (E * 1048576 + M) rfl hH ?_; simp only [inum])
              | (at_len; refine wpList_len_al _ rfl _ 32 3 rfl Try.underlying32 rfl hm0 ?_)
              | (at_mapUpdate; refine wpList_update_al _ rfl _ _ _ 32 3 rfl ienc Try.underlying32 rfl hm0 (E * 1048576 + ((n : Int) + 1)) rfl (iok_of (by omega)) 0 rfl ?_; intro w3 h3 t3)
              | (go_at_call 10; (with_reducible refine (open_more _ _ _ _ _ _ (hd0.turns (mapped t3) (by omega) (by omega)) hl6 hE0 hn0).mono ?_); rintro e w4 ⟨rfl, h4, t4⟩)
              | (at_lookup; refine wpList_lookup_ok_al _ rfl _ _ 32 3 rfl ienc Try.underlying32 0 (zero3 _) rfl (h3.turns t4 (by omega)) (E * 1048576 + M) rfl hH ?_; simp only [inum])
              | (at_len; refine wpList_len_al _ rfl _ 32 3 rfl Try.underlying32 rfl (h3.turns t4 (by omega)) ?_)
              | (go_at_call 12; (with_reducible refine (has_any _ _ _ _ _ _ hH _ (h4)).mono ?_); rintro e w' ⟨rfl, rfl⟩)
              | (go_at_call 15; (with_reducible refine (txn_any _ _ _ _ _ _ hH _ (h4)).mono ?_); rintro e w' ⟨rfl, rfl⟩)
              | (go_at_call 13; (with_reducible refine (len_any _ _ _ _ _ _ (h4)).mono ?_); rintro e w' ⟨rfl, rfl⟩))
            have hN := hA.mapFirst t3 t4 (n' := n + 1) h4 h3 (by have := length_aput_le l (E * 1048576 + ((n : Int) + 1)) 0; omega)
            clear hA hm0 hd0 h3 t3 h4 t4
            go_roundw
            case rel => exact ⟨k + 1, n + 1, _, by omega, by go_num, by omega, by go_num, hN⟩
            case measure => simp [intOf]; omega
          · have h6 : decide ((l.length : Int) < 6) = false := by simp; omega
            have hl7 : l.length = 6 := by have := hA.six; omega
            have Hl7 := hid hl7
            clear hl6 hl7
            go_wp2_with (first
              | (at_lookup; refine wpList_lookup_ok_al _ rfl _ _ 32 3 rfl ienc Try.underlying32 0 (zero3 _) rfl hm0 (E * 1048576 + M) rfl hH ?_; simp only [inum])
              | (go_at_call 10; (with_reducible refine (open_full _ _ _ _ _ _ hd0 Hl7.out).mono ?_); rintro e w4 ⟨rfl, rfl⟩)
              | (at_lookup; refine wpList_lookup_ok_al _ rfl _ _ 32 3 rfl ienc Try.underlying32 0 (zero3 _) rfl (hm0) (E * 1048576 + M) rfl hH ?_; simp only [inum])
              | (at_len; refine wpList_len_al _ rfl _ 32 3 rfl Try.underlying32 rfl (hm0) ?_)
              | (go_at_call 12; (with_reducible refine (has_any _ _ _ _ _ _ hH _ (hd0)).mono ?_); rintro e w' ⟨rfl, rfl⟩)
              | (go_at_call 15; (with_reducible refine (txn_any _ _ _ _ _ _ hH _ (hd0)).mono ?_); rintro e w' ⟨rfl, rfl⟩)
              | (go_at_call 13; (with_reducible refine (len_any _ _ _ _ _ _ (hd0)).mono ?_); rintro e w' ⟨rfl, rfl⟩))
            have hN := hA
            clear hA hm0 hd0
            go_roundw
            case rel => exact ⟨k + 1, n, _, by omega, by go_num, by omega, rfl, hN⟩
            case measure => simp [intOf]; omega
        by_cases hq1 : (wrap64 (c0.tmod 3 + 3)).tmod 3 = 1
        · have hk0 : ((wrap64 (c0.tmod 3 + 3)).tmod 3 == 0) = false := by simpa using hq0
          have hk1 : ((wrap64 (c0.tmod 3 + 3)).tmod 3 == 1) = true := by simpa using hq1
          clear hq0 hq1
          by_cases hh : ahas l (E * 1048576 + M) = true
          · have Hh := hid hh
            clear hh
            by_cases h0 : (aget l (E * 1048576 + M)).getD 0 = 0
            · have H0 := hid h0
              clear h0
              go_wp2_with (first
                | (at_lookup; refine wpList_lookup_ok_al _ rfl _ _ 32 3 rfl ienc Try.underlying32 0 (zero3 _) rfl hm0 (E * 1048576 + M) rfl hH ?_; rw [Hh.out, H0.out]; simp only [inum])
                | (go_at_call 11; (with_reducible refine (shut_free _ _ _ _ _ _ hH _ hd0 Hh.out H0.out).mono ?_); rintro e w3 ⟨rfl, h3, t3⟩)
                | (at_delete; refine wpList_delete_al _ rfl _ _ 32 3 rfl ienc Try.underlying32 rfl (hm0.turns t3 (by omega)) (E * 1048576 + M) rfl hH ?_; intro w4 h4 t4)
                | (at_lookup; refine wpList_lookup_ok_al _ rfl _ _ 32 3 rfl ienc Try.underlying32 0 (zero3 _) rfl (h4) (E * 1048576 + M) rfl hH ?_; simp only [inum])
                | (at_len; refine wpList_len_al _ rfl _ 32 3 rfl Try.underlying32 rfl (h4) ?_)
                | (go_at_call 12; (with_reducible refine (has_any _ _ _ _ _ _ hH _ (h3.turns (mapped t4) (by omega) (by omega))).mono ?_); rintro e w' ⟨rfl, rfl⟩)
                | (go_at_call 15; (with_reducible refine (txn_any _ _ _ _ _ _ hH _ (h3.turns (mapped t4) (by omega) (by omega))).mono ?_); rintro e w' ⟨rfl, rfl⟩)
                | (go_at_call 13; (with_reducible refine (len_any _ _ _ _ _ _ (h3.turns (mapped t4) (by omega) (by omega))).mono ?_); rintro e w' ⟨rfl, rfl⟩))
              have hN := hA.deskFirst t3 t4 h3 h4 (by have := length_adel_le l (E * 1048576 + M); have := hA.six; omega)
              clear hA hm0 hd0 h3 t3 h4 t4
              go_roundw
              case rel => exact ⟨k + 1, n, _, by omega, by go_num, by omega, rfl, hN⟩
              case measure => simp [intOf]; omega
            · have H0 := hid h0
              have hb0 : (((aget l (E * 1048576 + M)).getD 0) == 0) = false := by simpa using h0
              clear h0
              go_wp2_with (first
                | (at_lookup; refine wpList_lookup_ok_al _ rfl _ _ 32 3 rfl ienc Try.underlying32 0 (zero3 _) rfl hm0 (E * 1048576 + M) rfl hH ?_; rw [Hh.out]; simp only [inum])
                | (go_at_call 11; (with_reducible refine (shut_busy _ _ _ _ _ _ hH _ hd0 Hh.out H0.out).mono ?_); rintro e w3 ⟨rfl, rfl⟩)
                | (at_lookup; refine wpList_lookup_ok_al _ rfl _ _ 32 3 rfl ienc Try.underlying32 0 (zero3 _) rfl (hm0) (E * 1048576 + M) rfl hH ?_; simp only [inum])
                | (at_len; refine wpList_len_al _ rfl _ 32 3 rfl Try.underlying32 rfl (hm0) ?_)
                | (go_at_call 12; (with_reducible refine (has_any _ _ _ _ _ _ hH _ (hd0)).mono ?_); rintro e w' ⟨rfl, rfl⟩)
                | (go_at_call 15; (with_reducible refine (txn_any _ _ _ _ _ _ hH _ (hd0)).mono ?_); rintro e w' ⟨rfl, rfl⟩)
                | (go_at_call 13; (with_reducible refine (len_any _ _ _ _ _ _ (hd0)).mono ?_); rintro e w' ⟨rfl, rfl⟩))
              have hN := hA
              clear hA hm0 hd0
              go_roundw
              case rel => exact ⟨k + 1, n, _, by omega, by go_num, by omega, rfl, hN⟩
              case measure => simp [intOf]; omega
          · have hh' : ahas l (E * 1048576 + M) = false := by simpa using hh
            have Hh := hid hh'
            clear hh hh'
            go_wp2_with (first
              | (at_lookup; refine wpList_lookup_ok_al _ rfl _ _ 32 3 rfl ienc Try.underlying32 0 (zero3 _) rfl hm0 (E * 1048576 + M) rfl hH ?_; rw [Hh.out]; simp only [inum])
              | (go_at_call 11; (with_reducible refine (shut_miss _ _ _ _ _ _ hH _ hd0 Hh.out).mono ?_); rintro e w3 ⟨rfl, rfl⟩)
              | (at_lookup; refine wpList_lookup_ok_al _ rfl _ _ 32 3 rfl ienc Try.underlying32 0 (zero3 _) rfl (hm0) (E * 1048576 + M) rfl hH ?_; simp only [inum])
              | (at_len; refine wpList_len_al _ rfl _ 32 3 rfl Try.underlying32 rfl (hm0) ?_)
              | (go_at_call 12; (with_reducible refine (has_any _ _ _ _ _ _ hH _ (hd0)).mono ?_); rintro e w' ⟨rfl, rfl⟩; rw [Hh.out])
              | (go_at_call 15; (with_reducible refine (txn_any _ _ _ _ _ _ hH _ (hd0)).mono ?_); rintro e w' ⟨rfl, rfl⟩)
              | (go_at_call 13; (with_reducible refine (len_any _ _ _ _ _ _ (hd0)).mono ?_); rintro e w' ⟨rfl, rfl⟩))
            have hN := hA
            clear hA hm0 hd0
            go_roundw
            case rel => exact ⟨k + 1, n, _, by omega, by go_num, by omega, rfl, hN⟩
            case measure => simp [intOf]; omega
        · have hk0 : ((wrap64 (c0.tmod 3 + 3)).tmod 3 == 0) = false := by simpa using hq0
          have hk1 : ((wrap64 (c0.tmod 3 + 3)).tmod 3 == 1) = false := by simpa using hq1
          clear hq0 hq1
          obtain ⟨V, eV⟩ : ∃ V, bits .and .i64 c2 3 = V := ⟨_, rfl⟩
          by_cases hh : ahas l (E * 1048576 + M) = true
          · have Hh := hid hh
            clear hh
            go_wp2_with (first
              | (at_lookup; refine wpList_lookup_ok_al _ rfl _ _ 32 3 rfl ienc Try.underlying32 0 (zero3 _) rfl hm0 (E * 1048576 + M) rfl hH ?_; rw [Hh.out]; simp only [inum])
              | (go_at_call 14; (with_reducible refine (set_hit _ _ _ _ _ _ V hH _ hd0 Hh.out).mono ?_); rintro e w3 ⟨rfl, h3, t3⟩; have hc3 : w3.cell? ⟨wr.heap.size, 2, none⟩ = some (.int .i64 c2) := (t3.cell (by simp) (by have := hz; simp; omega)).trans (by simp))
              | (at_mapUpdate; refine wpList_update_al _ rfl _ _ _ 32 3 rfl ienc Try.underlying32 rfl (hm0.turns t3 (by omega)) (E * 1048576 + M) rfl hH V rfl ?_; intro w4 h4 t4)
              | (at_lookup; refine wpList_lookup_ok_al _ rfl _ _ 32 3 rfl ienc Try.underlying32 0 (zero3 _) rfl (h4) (E * 1048576 + M) rfl hH ?_; simp only [inum])
              | (at_len; refine wpList_len_al _ rfl _ 32 3 rfl Try.underlying32 rfl (h4) ?_)
              | (go_at_call 12; (with_reducible refine (has_any _ _ _ _ _ _ hH _ (h3.turns (mapped t4) (by omega) (by omega))).mono ?_); rintro e w' ⟨rfl, rfl⟩)
              | (go_at_call 15; (with_reducible refine (txn_any _ _ _ _ _ _ hH _ (h3.turns (mapped t4) (by omega) (by omega))).mono ?_); rintro e w' ⟨rfl, rfl⟩)
              | (go_at_call 13; (with_reducible refine (len_any _ _ _ _ _ _ (h3.turns (mapped t4) (by omega) (by omega))).mono ?_); rintro e w' ⟨rfl, rfl⟩))
            have hN := hA.deskFirst t3 t4 h3 h4 (by have := length_aput l (E * 1048576 + M) V; rw [if_pos Hh.out] at this; have := hA.six; omega)
            clear hA hm0 hd0 h3 t3 h4 t4
            go_roundw
            case rel => exact ⟨k + 1, n, _, by omega, by go_num, by omega, rfl, hN⟩
            case measure => simp [intOf]; omega
          · have hh' : ahas l (E * 1048576 + M) = false := by simpa using hh
            have Hh := hid hh'
            clear hh hh'
            go_wp2_with (first
              | (at_lookup; refine wpList_lookup_ok_al _ rfl _ _ 32 3 rfl ienc Try.underlying32 0 (zero3 _) rfl hm0 (E * 1048576 + M) rfl hH ?_; rw [Hh.out]; simp only [inum])
              | (go_at_call 14; (with_reducible refine (set_miss _ _ _ _ _ _ V hH _ hd0 Hh.out).mono ?_); rintro e w3 ⟨rfl, rfl⟩)
              | (at_lookup; refine wpList_lookup_ok_al _ rfl _ _ 32 3 rfl ienc Try.underlying32 0 (zero3 _) rfl (hm0) (E * 1048576 + M) rfl hH ?_; simp only [inum])
              | (at_len; refine wpList_len_al _ rfl _ 32 3 rfl Try.underlying32 rfl (hm0) ?_)
              | (go_at_call 12; (with_reducible refine (has_any _ _ _ _ _ _ hH _ (hd0)).mono ?_); rintro e w' ⟨rfl, rfl⟩; rw [Hh.out])
              | (go_at_call 15; (with_reducible refine (txn_any _ _ _ _ _ _ hH _ (hd0)).mono ?_); rintro e w' ⟨rfl, rfl⟩)
              | (go_at_call 13; (with_reducible refine (len_any _ _ _ _ _ _ (hd0)).mono ?_); rintro e w' ⟨rfl, rfl⟩))
            have hN := hA
            clear hA hm0 hd0
            go_roundw
            case rel => exact ⟨k + 1, n, _, by omega, by go_num, by omega, rfl, hN⟩
            case measure => simp [intOf]; omega
      · clear hc
        go_wp2_with (first
          | (go_at_call 14; refine (set_nil _ _ _).mono ?_; rintro e w' ⟨rfl, rfl⟩)
          | (go_at_call 10; refine (open_nil _).mono ?_; rintro e w' ⟨rfl, rfl⟩)
          | (go_at_call 12; refine (has_nil _ _).mono ?_; rintro e w' ⟨rfl, rfl⟩)
          | (go_at_call 15; refine (txn_nil _ _).mono ?_; rintro e w' ⟨rfl, rfl⟩)
          | (go_at_call 11; refine (shut_nil _ _).mono ?_; rintro e w' ⟨rfl, rfl⟩)
          | (go_at_call 13; refine (len_nil _).mono ?_; rintro e w' ⟨rfl, rfl⟩))
        go_ret
        exact ⟨rfl, hS.b⟩

set_option maxRecDepth 100000 in
theorem runs_none (a : Int) (A : Option Addr) (cap : Nat) (w : World) :
    Calls Try.prog 6 #[.int .i64 a, .slice A 0 cap] w fun e w' => e = .returned (.bool true) ∧ Below w.heap.size w w' := by
  have ha := and_mask a 40 (by omega)
  simp only [show ((2 ^ 40 - 1 : Nat) : Int) = 1099511627775 from rfl, show (2 : Int) ^ 40 = 1099511627776 from rfl] at ha
  obtain ⟨E, hE⟩ : ∃ E, bits .and .i64 a 1099511627775 = E := ⟨_, rfl⟩
  rw [hE] at ha
  have hmm := @run_makeMap Try.prog
  go_enter Try.func6, Try.ntmps6
  go_wp2_with (first
    | (go_at_call 8; refine (fit_any _).mono ?_; rintro e w1 ⟨rfl, b1⟩)
    | (go_at_call 9; refine (new_any E _).mono ?_; rintro e w2 ⟨rfl, h2, b2, s2⟩))
  refine wp_loop_rounds 1 ?_
  rw [rounds_succ]
  go_wp2_with (first
    | (go_at_call 14; refine (set_nil _ _ _).mono ?_; rintro e w' ⟨rfl, rfl⟩)
    | (go_at_call 10; refine (open_nil _).mono ?_; rintro e w' ⟨rfl, rfl⟩)
    | (go_at_call 12; refine (has_nil _ _).mono ?_; rintro e w' ⟨rfl, rfl⟩)
    | (go_at_call 15; refine (txn_nil _ _).mono ?_; rintro e w' ⟨rfl, rfl⟩)
    | (go_at_call 11; refine (shut_nil _ _).mono ?_; rintro e w' ⟨rfl, rfl⟩)
    | (go_at_call 13; refine (len_nil _).mono ?_; rintro e w' ⟨rfl, rfl⟩))
  go_ret
  exact ⟨rfl, (b1.trans (b2.mono b1.size)).alloc (by have := b1.size; omega) _⟩

end Go.Proofs.Ytdfflklfphehjaa
