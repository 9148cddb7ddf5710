/-
  DeskMany's walk: a few handles are there at once, and no more; one that is shut makes room for another number.
-/
import Derived.Test.YtdfflklfphehjaaDesk1
namespace Go.Proofs.Ytdfflklfphehjaa
open Go.RowKit Go.Maps

/-- c handles of an epoch behind the first s -/
def Lst (E : Int) (s c : Nat) : List (Int × Int) := (List.range c).map fun j : Nat => (E * 1048576 + (((s + j : Nat) : Int) + 1), 0)

theorem lst_length (E : Int) (s c : Nat) : (Lst E s c).length = c := by simp [Lst]
theorem lst_has (E : Int) (s c : Nat) (x : Int) : ahas (Lst E s c) x = true ↔ ∃ j : Nat, j < c ∧ E * 1048576 + (((s + j : Nat) : Int) + 1) = x := by
  rw [ahas_true]; unfold Lst
  constructor
  · rintro ⟨p, hp, rfl⟩
    obtain ⟨i, hi, rfl⟩ := List.mem_map.1 hp
    exact ⟨i, List.mem_range.1 hi, rfl⟩
  · rintro ⟨i, hi, rfl⟩
    exact ⟨_, List.mem_map.2 ⟨i, List.mem_range.2 hi, rfl⟩, rfl⟩
theorem lst_get (E : Int) (s c : Nat) (x : Int) : (aget (Lst E s c) x).getD 0 = 0 := by
  cases h : aget (Lst E s c) x with
  | none => rfl
  | some v =>
    have := mem_of_aget h
    unfold Lst at this
    obtain ⟨i, _, hi⟩ := List.mem_map.1 this
    injection hi with _ hv
    subst hv; rfl
theorem lst_more (E : Int) (s c : Nat) (x : Int) (hx : x = E * 1048576 + (((s + c : Nat) : Int) + 1)) : aput (Lst E s c) x 0 = Lst E s (c + 1) := by
  subst hx
  have h : ahas (Lst E s c) (E * 1048576 + (((s + c : Nat) : Int) + 1)) = false := by
    cases h : ahas (Lst E s c) (E * 1048576 + (((s + c : Nat) : Int) + 1)) with
    | false => rfl
    | true => obtain ⟨i, hi, e⟩ := (lst_has _ _ _ _).1 h; omega
  rw [aput_new _ h]; unfold Lst; rw [List.range_succ, List.map_append]; rfl
theorem lst_less (E : Int) (s c : Nat) (x : Int) (hx : x = E * 1048576 + (((s : Nat) : Int) + 1)) : adel (Lst E s (c + 1)) x = Lst E (s + 1) c := by
  subst hx
  have e : Lst E s (c + 1) = (E * 1048576 + (((s : Nat) : Int) + 1), 0) :: Lst E (s + 1) c := by
    unfold Lst
    rw [List.range_succ_eq_map, List.map_cons, List.map_map]
    congr 1
    refine List.map_congr_left fun j _ => ?_
    simp only [Function.comp]
    congr 2
    omega
  rw [e]
  have h : ahas (Lst E (s + 1) c) (E * 1048576 + (((s : Nat) : Int) + 1)) = false := by
    cases h : ahas (Lst E (s + 1) c) (E * 1048576 + (((s : Nat) : Int) + 1)) with
    | false => rfl
    | true => obtain ⟨i, hi, e⟩ := (lst_has _ _ _ _).1 h; omega
  unfold adel
  rw [List.filter_cons]
  simp only [decide_true, Bool.not_true, Bool.false_eq_true, if_false]
  exact adel_none h

structure M1 (w0 w : World) (s : Nat) (E nx : Int) (l : List (Int × Int)) : Prop where
  d : DeskAt w (s + 1) s E nx l
  b : Below w0.heap.size w0 w
  s : w0.heap.size ≤ s
theorem M1.turns {w0 w w' : World} {s : Nat} {E nx nx' : Int} {l l' l'' : List (Int × Int)} (h : M1 w0 w s E nx l) {S : Nat → Prop} (t : Turns S w w') (hS : ∀ i, S i → i = s + 1 ∨ i = s) (d : DeskAt w' (s + 1) s E nx' l') (e : l' = l'') : M1 w0 w' s E nx' l'' := by
  have hs := h.s
  subst e
  exact ⟨d, h.b.trans (t.below h.b.size (by intro z hz hS'; rcases hS z hS' with rfl | rfl <;> omega)), hs⟩

set_option maxRecDepth 100000 in
theorem many_any (a n : Int) (w : World) : Calls Try.prog 4 #[.int .i64 a, .int .i64 n] w fun e w' => e = .returned (.bool true) ∧ Below w.heap.size w w' := by
  have ha := and_mask a 16 (by omega)
  have hn := and_mask n 4 (by omega)
  simp only [show ((2 ^ 16 - 1 : Nat) : Int) = 65535 from rfl, show ((2 ^ 4 - 1 : Nat) : Int) = 15 from rfl, show (2 : Int) ^ 16 = 65536 from rfl, show (2 : Int) ^ 4 = 16 from rfl] at ha hn
  obtain ⟨E, hE⟩ : ∃ E, bits .and .i64 a 65535 = E := ⟨_, rfl⟩
  obtain ⟨N, hN⟩ : ∃ N, bits .and .i64 n 15 = N := ⟨_, rfl⟩
  rw [hE] at ha
  rw [hN] at hn
  go_enter Try.func4, Try.ntmps4
  go_wp2_with (first
    | (go_at_call 8; refine (fit_any _).mono ?_; rintro e w1 ⟨rfl, b1⟩)
    | (go_at_call 9; refine (new_any E _).mono ?_; rintro e w2 ⟨rfl, h2, b2, s2⟩))
  have hS0 : M1 w w2 w1.heap.size E 0 (Lst E 0 0) := ⟨h2, b1.trans (b2.mono b1.size), b1.size⟩
  obtain ⟨s, hs⟩ : ∃ s, s = w1.heap.size := ⟨_, rfl⟩
  rw [← hs] at hS0 ⊢
  obtain ⟨n', hn'⟩ := Int.eq_ofNat_of_zero_le hn.1
  have hn2 : n' < 16 := by omega
  rw [hn'] at hN ⊢
  clear h2 b1 b2 s2 hs hE hN hn hn'
  go_loopw [19] (fun i wr => ∃ k : Nat, k ≤ 6 + n' ∧ i = .int .i64 k ∧ M1 w wr s E ((min k 6 : Nat) : Int) (Lst E 0 (min k 6))) (fun i _ => (6 + (n' : Int) - intOf i).toNat)
  case atStart => exact ⟨0, by omega, rfl, hS0⟩
  case round =>
    clear hS0
    obtain ⟨k, hk, rfl, hS⟩ := hrel
    by_cases hlt : k < 6 + n'
    · by_cases h6 : k < 6
      · rw [show min k 6 = k from by omega] at hS
        have hz : (E * 1048576 + ((k : Int) + 1) != 0) = true := by simp; omega
        have hd : decide ((k : Int) < 6) = true := by simp; omega
        go_wp2_with (first
          | (go_at_call 10; refine (open_more _ _ _ _ _ _ hS.d (by rw [lst_length]; omega) ⟨by omega, by omega⟩ ⟨by omega, by omega⟩).mono ?_; rintro e w2 ⟨rfl, h2, t2⟩))
        have hN := hS.turns t2 (fun i h => h) h2 (lst_more E 0 k _ (by simp))
        clear hS h2 t2
        go_roundw
        case rel => exact ⟨k + 1, by omega, by go_num, by rw [show min (k + 1) 6 = k + 1 from by omega]; exact hN⟩
        case measure => simp [intOf]; omega
      · rw [show min k 6 = 6 from by omega] at hS
        have hd : decide ((k : Int) < 6) = false := by simp; omega
        go_wp2_with (first
          | (go_at_call 10; refine (open_full _ _ _ _ _ _ hS.d (lst_length _ _ _)).mono ?_; rintro e w2 ⟨rfl, rfl⟩))
        go_roundw
        case rel => exact ⟨k + 1, by omega, by go_num, by rw [show min (k + 1) 6 = 6 from by omega]; exact hS⟩
        case measure => simp [intOf]; omega
    · rw [show min k 6 = 6 from by omega] at hS
      clear hk
      go_wp2
      clear hlt
      go_loopw [31] (fun i wr => ∃ k : Nat, k ≤ n' ∧ i = .int .i64 k ∧ M1 w wr s E (6 + (k : Int)) (Lst E k 6)) (fun i _ => ((n' : Int) - intOf i).toNat)
      case atStart => exact ⟨0, by omega, rfl, hS⟩
      case round =>
        clear hS
        obtain ⟨k, hk, rfl, hS⟩ := hrel
        by_cases hlt : k < n'
        · have Hh := hid ((lst_has E k 6 (E * 1048576 + (k : Int) + 1)).2 ⟨0, by omega, by simp; omega⟩)
          have hq : (E * 1048576 + (6 + (k : Int) + 1) != E * 1048576 + 6 + (k : Int) + 1) = false := by simp; omega
          go_wp2_with (first
            | (go_at_call 11; refine (shut_free _ _ _ _ _ _ (iok_of (by omega)) _ hS.d Hh.out (lst_get _ _ _ _)).mono ?_; rintro e w2 ⟨rfl, h2, t2⟩; rw [lst_less E k 5 _ (by omega)] at h2)
            | (go_at_call 10; refine (open_more _ _ _ _ _ _ h2 (by rw [lst_length]; omega) ⟨by omega, by omega⟩ ⟨by omega, by omega⟩).mono ?_; rintro e w3 ⟨rfl, h3, t3⟩; rw [lst_more E (k + 1) 5 _ (by omega)] at h3)
            | (go_at_call 13; refine (len_any _ _ _ _ _ _ h3).mono ?_; rintro e w2 ⟨rfl, rfl⟩; rw [lst_length])
            | (go_at_call 10; refine (open_full _ _ _ _ _ _ h3 (lst_length _ _ _)).mono ?_; rintro e w2 ⟨rfl, rfl⟩))
          have hN := (hS.turns t2 (fun i h => Or.inr h) h2 rfl).turns t3 (fun i h => h) h3 rfl
          clear hS h2 h3 t2 t3
          go_roundw
          case rel => exact ⟨k + 1, by omega, by go_num, by rw [show 6 + ((k + 1 : Nat) : Int) = 6 + (k : Int) + 1 from by omega]; exact hN⟩
          case measure => simp [intOf]; omega
        · go_wp2
          go_ret
          exact ⟨rfl, hS.b⟩

end Go.Proofs.Ytdfflklfphehjaa
