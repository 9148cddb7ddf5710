/-
  DeskApart's walk: no handle is given twice, and handles of unlike epochs are unlike.
-/
import Derived.Test.YtdfflklfphehjaaDesk1
namespace Go.Proofs.Ytdfflklfphehjaa
open Go.RowKit Go.Maps

def bval (x : Bool) : Value := .bool x
theorem zero4 (w : World) : (zeroValue 4).run Try.prog w = .ok (bval false) w := by kernel_rfl

/-- what has been seen behind k handles of an epoch -/
def seenAt (a : Int) (k : Nat) : List (Int × Bool) := (List.range k).map fun i : Nat => (a * 1048576 + ((i : Int) + 1), true)

theorem seen_has (a : Int) (k : Nat) (x : Int) : ahas (seenAt a k) x = true ↔ ∃ i : Nat, i < k ∧ a * 1048576 + ((i : Int) + 1) = x := by
  rw [ahas_true]; unfold seenAt
  constructor
  · rintro ⟨p, hp, rfl⟩
    obtain ⟨i, hi, rfl⟩ := List.mem_map.1 hp
    exact ⟨i, List.mem_range.1 hi, rfl⟩
  · rintro ⟨i, hi, rfl⟩
    exact ⟨_, List.mem_map.2 ⟨i, List.mem_range.2 hi, rfl⟩, rfl⟩
theorem seen_get (a : Int) (k : Nat) (x : Int) : (aget (seenAt a k) x).getD false = ahas (seenAt a k) x := by
  rw [ahas_eq]
  cases h : aget (seenAt a k) x with
  | none => rfl
  | some v =>
    have := mem_of_aget h
    unfold seenAt at this
    obtain ⟨i, _, hi⟩ := List.mem_map.1 this
    injection hi with _ hv
    subst hv; rfl
theorem seen_new (a : Int) (k : Nat) : ahas (seenAt a k) (a * 1048576 + ((k : Int) + 1)) = false := by
  cases h : ahas (seenAt a k) (a * 1048576 + ((k : Int) + 1)) with
  | false => rfl
  | true => obtain ⟨i, hi, e⟩ := (seen_has _ _ _).1 h; omega
theorem seen_step (a : Int) (k : Nat) : aput (seenAt a k) (a * 1048576 + ((k : Int) + 1)) true = seenAt a (k + 1) := by
  rw [aput_new _ (seen_new a k)]; unfold seenAt; rw [List.range_succ, List.map_append]; rfl
theorem seen_other (a b : Int) (n k : Nat) (hk : k < n) (hn : n ≤ 63) : ahas (seenAt a n) (b * 1048576 + ((k : Int) + 1)) = decide (a = b) := by
  by_cases h : a = b
  · subst h; rw [decide_eq_true rfl]; exact (seen_has _ _ _).2 ⟨k, hk, rfl⟩
  · rw [decide_eq_false h]
    cases h2 : ahas (seenAt a n) (b * 1048576 + ((k : Int) + 1)) with
    | false => rfl
    | true => obtain ⟨i, hi, e⟩ := (seen_has _ _ _).1 h2; omega

/-- Open and Shut at once. -/
theorem adel_aput_nil (x : Int) (v : Int) : adel (aput ([] : List (Int × Int)) x v) x = [] := by simp [aput, adel, ahas]

structure S1 (w0 w : World) (s : Nat) (a b : Int) (i j k : Nat) : Prop where
  x : DeskAt w (s + 1) s a i []
  y : DeskAt w (s + 2 + 1) (s + 2) b j []
  m : MapAt w inum iok bval (s + 2 + 2) (seenAt a k)
  b : Below w0.heap.size w0 w
  s : w0.heap.size ≤ s

theorem S1.step {w0 w w2 w3 w4 : World} {s : Nat} {a b : Int} {j k : Nat} (h : S1 w0 w s a b k j k) (t2 : Turns (fun i => i = s + 1 ∨ i = s) w w2) (t3 : Turns (fun i => i = s) w2 w3)
    (h3 : DeskAt w3 (s + 1) s a ((k : Int) + 1) (adel (aput [] (a * 1048576 + ((k : Int) + 1)) 0) (a * 1048576 + ((k : Int) + 1)))) (t4 : w3.mapTurned w4 (s + 2 + 2)) (h4 : MapAt w4 inum iok bval (s + 2 + 2) (aput (seenAt a k) (a * 1048576 + ((k : Int) + 1)) true)) :
    S1 w0 w4 s a b (k + 1) j (k + 1) := by
  have t4' := (Turns.refl (fun i => i = s + 2 + 2) w3).turned t4 (.inr rfl)
  have hs := h.s
  rw [adel_aput_nil] at h3
  rw [seen_step] at h4
  refine ⟨h3.turns t4' (by omega) (by omega), ((h.y.turns t2 (by omega) (by omega)).turns t3 (by omega) (by omega)).turns t4' (by omega) (by omega), h4, ?_, hs⟩
  have b2 := t2.below (B := w0.heap.size) h.b.size (by rintro z hz (rfl | rfl) <;> omega)
  have b3 := t3.below (B := w0.heap.size) (Nat.le_trans h.b.size t2.size) (by rintro z hz rfl; omega)
  have b4 := t4'.below (B := w0.heap.size) (Nat.le_trans (Nat.le_trans h.b.size t2.size) t3.size) (by rintro z hz rfl; omega)
  exact ((h.b.trans b2).trans b3).trans b4

theorem S1.stepY {w0 w w2 w3 : World} {s : Nat} {a b : Int} {n k : Nat} (h : S1 w0 w s a b n k n) (t2 : Turns (fun i => i = s + 2 + 1 ∨ i = s + 2) w w2) (t3 : Turns (fun i => i = s + 2) w2 w3)
    (h3 : DeskAt w3 (s + 2 + 1) (s + 2) b ((k : Int) + 1) (adel (aput [] (b * 1048576 + ((k : Int) + 1)) 0) (b * 1048576 + ((k : Int) + 1)))) :
    S1 w0 w3 s a b n (k + 1) n := by
  have hs := h.s
  rw [adel_aput_nil] at h3
  refine ⟨(h.x.turns t2 (by omega) (by omega)).turns t3 (by omega) (by omega), h3, (h.m.turns t2 (by omega)).turns t3 (by omega), ?_, hs⟩
  have b2 := t2.below (B := w0.heap.size) h.b.size (by rintro z hz (rfl | rfl) <;> omega)
  have b3 := t3.below (B := w0.heap.size) (Nat.le_trans h.b.size t2.size) (by rintro z hz rfl; omega)
  exact (h.b.trans b2).trans b3

theorem S1.turns {w0 w w' : World} {s : Nat} {a b : Int} {i j k : Nat} (h : S1 w0 w s a b i j k) (t : Turns (fun z => z = s + 1 ∨ z = s) w w') : Below w0.heap.size w0 w' :=
  h.b.trans (t.below h.b.size (by have := h.s; rintro z hz (rfl | rfl) <;> omega))

set_option maxRecDepth 100000 in
theorem apart_any (a b n : Int) (w : World) : Calls Try.prog 3 #[.int .i64 a, .int .i64 b, .int .i64 n] w fun e w' => e = .returned (.bool true) ∧ Below w.heap.size w w' := by
  have ha := and_mask a 24 (by omega)
  have hb := and_mask b 24 (by omega)
  have hn := and_mask n 6 (by omega)
  simp only [show ((2 ^ 24 - 1 : Nat) : Int) = 16777215 from rfl, show ((2 ^ 6 - 1 : Nat) : Int) = 63 from rfl, show (2 : Int) ^ 24 = 16777216 from rfl, show (2 : Int) ^ 6 = 64 from rfl] at ha hb hn
  obtain ⟨A, hA⟩ : ∃ A, bits .and .i64 a 16777215 = A := ⟨_, rfl⟩
  obtain ⟨B, hB⟩ : ∃ B, bits .and .i64 b 16777215 = B := ⟨_, rfl⟩
  obtain ⟨N, hN⟩ : ∃ N, bits .and .i64 n 63 = N := ⟨_, rfl⟩
  rw [hA] at ha
  rw [hB] at hb
  rw [hN] at hn
  have hmm := @run_makeMap Try.prog
  go_enter Try.func3, Try.ntmps3
  go_wp2_with (first
    | (go_at_call 8; refine (fit_any _).mono ?_; rintro e w1 ⟨rfl, b1⟩)
    | (go_at_call 9; refine (new_any A _).mono ?_; rintro e w2 ⟨rfl, h2, b2, s2⟩)
    | (go_at_call 9; refine (new_any B _).mono ?_; rintro e w3 ⟨rfl, h3, b3, s3⟩))
  have h3' : DeskAt w3 (w1.heap.size + 2 + 1) (w1.heap.size + 2) B 0 [] := by rw [← s2]; exact h3
  have hs1 : w.heap.size ≤ w1.heap.size := b1.size
  have h2' : DeskAt w3 (w1.heap.size + 1) w1.heap.size A 0 [] := h2.below b3 (by omega) (by omega)
  have hm3 : MapAt (w3.alloc (.map #[] 0)) inum iok bval (w1.heap.size + 2 + 2) (seenAt A 0) := by
    have := MapAt.made (K := Int) (V := Bool) w3 inum iok bval
    rw [s3, s2] at this; exact this
  have hal : Turns (fun _ => False) w3 (w3.alloc (.map #[] 0)) := (Turns.refl _ _).alloc _
  have hS0 : S1 w (w3.alloc (.map #[] 0)) w1.heap.size A B 0 0 0 :=
    ⟨h2'.turns hal (fun h => h) (fun h => h), h3'.turns hal (fun h => h) (fun h => h), hm3, ((b1.trans (b2.mono hs1)).trans (b3.mono (by omega))).alloc (by omega) _, hs1⟩
  obtain ⟨s, hs⟩ : ∃ s, s = w1.heap.size := ⟨_, rfl⟩
  rw [← hs] at hS0 ⊢
  clear h3' h2' hm3 hal h3 h2 b3 b2 b1 s3 s2 hs1 hs hA hB hN hmm
  go_loopw [26] (fun i wr => ∃ k : Nat, (k : Int) ≤ N ∧ i = .int .i64 k ∧ S1 w wr s A B k 0 k) (fun i _ => (N - intOf i).toNat)
  case atStart => exact ⟨0, by omega, rfl, hS0⟩
  case round =>
    clear hS0
    obtain ⟨k, hk, rfl, hS⟩ := hrel
    by_cases hlt : (k : Int) < N
    · have hz : (A * 1048576 + ((k : Int) + 1) == 0) = false := by simp; omega
      have hfree : ahas (aput ([] : List (Int × Int)) (A * 1048576 + ((k : Int) + 1)) 0) (A * 1048576 + ((k : Int) + 1)) = true := by rw [ahas_aput]; simp
      have hzero : (aget (aput ([] : List (Int × Int)) (A * 1048576 + ((k : Int) + 1)) 0) (A * 1048576 + ((k : Int) + 1))).getD 0 = 0 := by rw [aget_aput]; simp
      have Hf := hid hfree
      have Hz := hid hzero
      clear hfree hzero
      go_wp2_with (first
        | (go_at_call 10; refine (open_more _ _ _ _ _ _ hS.x (by simp) ⟨by omega, by omega⟩ ⟨by omega, by omega⟩).mono ?_; rintro e w2 ⟨rfl, h2, t2⟩)
        | (at_lookup; refine wpList_lookup_al _ rfl _ _ 25 4 rfl ienc Try.underlying25 false (zero4 _) rfl (hS.m.turns t2 (by omega)) (A * 1048576 + ((k : Int) + 1)) rfl (iok_of (by omega)) ?_; rw [seen_get, seen_new]; simp only [bval])
        | (go_at_call 11; refine (shut_free _ _ _ _ _ _ (iok_of (by omega)) _ h2 Hf.out Hz.out).mono ?_; rintro e w3 ⟨rfl, h3, t3⟩)
        | (at_mapUpdate; refine wpList_update_al _ rfl _ _ _ 25 4 rfl ienc Try.underlying25 rfl ((hS.m.turns t2 (by omega)).turns t3 (by omega)) (A * 1048576 + ((k : Int) + 1)) rfl (iok_of (by omega)) true rfl ?_; intro w4 h4 t4))
      have hN := hS.step t2 t3 h3 t4 h4
      clear hS t2 t3 h3 t4 h4 h2
      go_roundw
      case rel => exact ⟨k + 1, by omega, by go_num, hN⟩
      case measure => simp [intOf]; omega
    · obtain rfl : N = (k : Int) := by omega
      clear hlt hk
      obtain ⟨n', hn'⟩ : ∃ n' : Nat, n' = k := ⟨_, rfl⟩
      go_wp2
      rw [← hn'] at hS hn ⊢
      clear hn'
      go_loopw [47] (fun i wr => ∃ k : Nat, (k : Int) ≤ n' ∧ i = .int .i64 k ∧ S1 w wr s A B n' k n') (fun i _ => ((n' : Int) - intOf i).toNat)
      case atStart => exact ⟨0, by omega, rfl, hS⟩
      case round =>
        clear hS
        obtain ⟨k, hk, rfl, hS⟩ := hrel
        by_cases hlt : (k : Int) < n'
        · by_cases hAB : A = B
          · subst hAB
            have hz : (A * 1048576 + ((k : Int) + 1) == 0) = false := by simp; omega
            have Hf := hid (show ahas (aput ([] : List (Int × Int)) (A * 1048576 + ((k : Int) + 1)) 0) (A * 1048576 + ((k : Int) + 1)) = true by rw [ahas_aput]; simp)
            have Hz := hid (show (aget (aput ([] : List (Int × Int)) (A * 1048576 + ((k : Int) + 1)) 0) (A * 1048576 + ((k : Int) + 1))).getD 0 = 0 by rw [aget_aput]; simp)
            have Hn := hid (show ahas ([] : List (Int × Int)) (A * 1048576 + ((k : Int) + 1)) = false from rfl)
            have Hs := hid (show ahas (seenAt A n') (A * 1048576 + ((k : Int) + 1)) = true by rw [seen_other A A n' k (by omega) (by omega)]; simp)
            go_wp2_with (first
              | (go_at_call 10; refine (open_more _ _ _ _ _ _ hS.y (by simp) ⟨by omega, by omega⟩ ⟨by omega, by omega⟩).mono ?_; rintro e w2 ⟨rfl, h2, t2⟩)
              | (at_lookup; refine wpList_lookup_al _ rfl _ _ 25 4 rfl ienc Try.underlying25 false (zero4 _) rfl (hS.m.turns t2 (by omega)) (A * 1048576 + ((k : Int) + 1)) rfl (iok_of (by omega)) ?_; rw [seen_get, Hs.out]; simp only [bval])
              | (go_at_call 11; refine (shut_free _ _ _ _ _ _ (iok_of (by omega)) _ h2 Hf.out Hz.out).mono ?_; rintro e w3 ⟨rfl, h3, t3⟩)
              | (go_at_call 12; refine (has_any _ _ _ _ _ _ (iok_of (by omega)) _ ((hS.x.turns t2 (by omega) (by omega)).turns t3 (by omega) (by omega))).mono ?_; rintro e w' ⟨rfl, rfl⟩; rw [Hn.out]))
            have hN := hS.stepY t2 t3 h3
            clear hS t2 t3 h3 h2
            go_roundw
            case rel => exact ⟨k + 1, by omega, by go_num, hN⟩
            case measure => simp [intOf]; omega
          · skip
            have hz : (B * 1048576 + ((k : Int) + 1) == 0) = false := by simp; omega
            have Hf := hid (show ahas (aput ([] : List (Int × Int)) (B * 1048576 + ((k : Int) + 1)) 0) (B * 1048576 + ((k : Int) + 1)) = true by rw [ahas_aput]; simp)
            have Hz := hid (show (aget (aput ([] : List (Int × Int)) (B * 1048576 + ((k : Int) + 1)) 0) (B * 1048576 + ((k : Int) + 1))).getD 0 = 0 by rw [aget_aput]; simp)
            have Hn := hid (show ahas ([] : List (Int × Int)) (B * 1048576 + ((k : Int) + 1)) = false from rfl)
            have Hs := hid (show ahas (seenAt A n') (B * 1048576 + ((k : Int) + 1)) = false by rw [seen_other A B n' k (by omega) (by omega)]; simp; exact hAB)
            have hAB2 : (A == B) = false := by simp; exact hAB
            go_wp2_with (first
              | (go_at_call 10; refine (open_more _ _ _ _ _ _ hS.y (by simp) ⟨by omega, by omega⟩ ⟨by omega, by omega⟩).mono ?_; rintro e w2 ⟨rfl, h2, t2⟩)
              | (at_lookup; refine wpList_lookup_al _ rfl _ _ 25 4 rfl ienc Try.underlying25 false (zero4 _) rfl (hS.m.turns t2 (by omega)) (B * 1048576 + ((k : Int) + 1)) rfl (iok_of (by omega)) ?_; rw [seen_get, Hs.out]; simp only [bval])
              | (go_at_call 11; refine (shut_free _ _ _ _ _ _ (iok_of (by omega)) _ h2 Hf.out Hz.out).mono ?_; rintro e w3 ⟨rfl, h3, t3⟩)
              | (go_at_call 12; refine (has_any _ _ _ _ _ _ (iok_of (by omega)) _ ((hS.x.turns t2 (by omega) (by omega)).turns t3 (by omega) (by omega))).mono ?_; rintro e w' ⟨rfl, rfl⟩; rw [Hn.out]))
            have hN := hS.stepY t2 t3 h3
            clear hS t2 t3 h3 h2
            go_roundw
            case rel => exact ⟨k + 1, by omega, by go_num, hN⟩
            case measure => simp [intOf]; omega
        · go_wp2
          go_ret
          exact ⟨rfl, hS.b⟩

end Go.Proofs.Ytdfflklfphehjaa
