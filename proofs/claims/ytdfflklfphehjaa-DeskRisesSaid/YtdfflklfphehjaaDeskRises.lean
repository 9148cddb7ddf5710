/-
  DeskRises' walk: handles rise; a desk of a later epoch gives greater ones.
-/
import Derived.Test.YtdfflklfphehjaaDesk1
namespace Go.Proofs.Ytdfflklfphehjaa
open Go.RowKit Go.Maps

theorem adel_aput_nil' (x : Int) (v : Int) : adel (aput ([] : List (Int × Int)) x v) x = [] := by simp [aput, adel, ahas]

structure R1 (w0 w : World) (s : Nat) (E : Int) (k : Nat) : Prop where
  d : DeskAt w (s + 1) s E k []
  e : DeskAt w (s + 2 + 1) (s + 2) (E + 1) 0 []
  b : Below w0.heap.size w0 w
  s : w0.heap.size ≤ s

theorem R1.step {w0 w w2 w3 : World} {s : Nat} {E : Int} {k : Nat} (h : R1 w0 w s E k) (t2 : Turns (fun i => i = s + 1 ∨ i = s) w w2) (t3 : Turns (fun i => i = s) w2 w3)
    (h3 : DeskAt w3 (s + 1) s E ((k : Int) + 1) (adel (aput [] (E * 1048576 + ((k : Int) + 1)) 0) (E * 1048576 + ((k : Int) + 1)))) : R1 w0 w3 s E (k + 1) := by
  have hs := h.s
  rw [adel_aput_nil'] at h3
  refine ⟨h3, (h.e.turns t2 (by omega) (by omega)).turns t3 (by omega) (by omega), ?_, hs⟩
  have b2 := t2.below (B := w0.heap.size) h.b.size (by rintro z hz (rfl | rfl) <;> omega)
  have b3 := t3.below (B := w0.heap.size) (Nat.le_trans h.b.size t2.size) (by rintro z hz rfl; omega)
  exact (h.b.trans b2).trans b3

/-- the last handle behind k -/
def lastAt (E : Int) (k : Nat) : Int := if k = 0 then 0 else E * 1048576 + k

set_option maxRecDepth 100000 in
theorem rises_any (a n : Int) (w : World) : Calls Try.prog 5 #[.int .i64 a, .int .i64 n] w fun e w' => e = .returned (.bool true) ∧ Below w.heap.size w w' := by
  have ha := and_mask a 24 (by omega)
  have hn := and_mask n 6 (by omega)
  simp only [show ((2 ^ 24 - 1 : Nat) : Int) = 16777215 from rfl, show ((2 ^ 6 - 1 : Nat) : Int) = 63 from rfl, show (2 : Int) ^ 24 = 16777216 from rfl, show (2 : Int) ^ 6 = 64 from rfl] at ha hn
  obtain ⟨E, hE⟩ : ∃ E, bits .and .i64 a 16777215 = E := ⟨_, rfl⟩
  obtain ⟨N, hN⟩ : ∃ N, bits .and .i64 n 63 = N := ⟨_, rfl⟩
  rw [hE] at ha
  rw [hN] at hn
  go_enter Try.func5, Try.ntmps5
  go_wp2_with (first
    | (go_at_call 8; refine (fit_any _).mono ?_; rintro e w1 ⟨rfl, b1⟩)
    | (go_at_call 9; refine (new_any E _).mono ?_; rintro e w2 ⟨rfl, h2, b2, s2⟩)
    | (go_at_call 9; refine (new_any (E + 1) _).mono ?_; rintro e w3 ⟨rfl, h3, b3, s3⟩))
  have h3' : DeskAt w3 (w1.heap.size + 2 + 1) (w1.heap.size + 2) (E + 1) 0 [] := by rw [← s2]; exact h3
  have hS0 : R1 w w3 w1.heap.size E 0 := ⟨h2.below b3 (by omega) (by omega), h3', (b1.trans (b2.mono b1.size)).trans (b3.mono (by have := b1.size; omega)), b1.size⟩
  obtain ⟨s, hs⟩ : ∃ s, s = w1.heap.size := ⟨_, rfl⟩
  rw [← hs] at hS0 ⊢
  obtain ⟨n', hn'⟩ := Int.eq_ofNat_of_zero_le hn.1
  have hn2 : n' < 64 := by omega
  rw [hn'] at hN ⊢
  clear h3' h2 h3 b1 b2 b3 s2 s3 hs hE hN hn hn'
  go_loopw [7, 21] (fun u i wr => ∃ k : Nat, k ≤ n' ∧ i = .int .i64 k ∧ u = .int .i64 (lastAt E k) ∧ R1 w wr s E k) (fun _ i _ => ((n' : Int) - intOf i).toNat)
  case atStart => exact ⟨0, by omega, rfl, rfl, hS0⟩
  case round =>
    clear hS0
    obtain ⟨k, hk, rfl, rfl, hS⟩ := hrel
    have hlast : lastAt E k ≤ E * 1048576 + k ∧ 0 ≤ lastAt E k := by unfold lastAt; split <;> omega
    have HL := hid (show lastAt E (k + 1) = E * 1048576 + ((k : Int) + 1) by unfold lastAt; rw [if_neg (by omega)]; omega)
    have hlast2 : 0 < k → lastAt E k = E * 1048576 + k := fun h => by unfold lastAt; rw [if_neg (by omega)]
    obtain ⟨L, hL⟩ : ∃ L, L = lastAt E k := ⟨_, rfl⟩
    rw [← hL] at hlast hlast2 ⊢
    by_cases hlt : k < n'
    · clear hlast2
      have Hf := hid (show ahas (aput ([] : List (Int × Int)) (E * 1048576 + ((k : Int) + 1)) 0) (E * 1048576 + ((k : Int) + 1)) = true by rw [ahas_aput]; simp)
      have Hz := hid (show (aget (aput ([] : List (Int × Int)) (E * 1048576 + ((k : Int) + 1)) 0) (E * 1048576 + ((k : Int) + 1))).getD 0 = 0 by rw [aget_aput]; simp)
      have hle : decide (E * 1048576 + ((k : Int) + 1) ≤ L) = false := by simp; omega
      have hsh : ((E * 1048576 + ((k : Int) + 1)) / 1048576 != E) = false := by simp; omega
      have HLL := hid hL
      clear hL
      go_wp2_with (first
        | (go_at_call 10; refine (open_more _ _ _ _ _ _ hS.d (by simp) ⟨by omega, by omega⟩ ⟨by omega, by omega⟩).mono ?_; rintro e w2 ⟨rfl, h2, t2⟩)
        | (go_at_call 11; refine (shut_free _ _ _ _ _ _ (iok_of (by omega)) _ h2 Hf.out Hz.out).mono ?_; rintro e w3 ⟨rfl, h3, t3⟩))
      have hN := hS.step t2 t3 h3
      clear hS t2 t3 h3 h2
      go_roundw
      case rel => exact ⟨k + 1, by omega, by go_num, by rw [HL.out], hN⟩
      case measure => simp [intOf]; omega
    · have hk2 : k = n' := by omega
      have Hn := hid (show ahas ([] : List (Int × Int)) L = false from rfl)
      have Hn2 := hid (show ahas (aput ([] : List (Int × Int)) ((E + 1) * 1048576 + (0 + 1)) 0) L = false by
        rw [ahas_aput, ahas_nil]; simp
        omega)
      have HLL := hid hL
      have hgt : decide (L < (E + 1) * 1048576 + (0 + 1)) = true := by simp; omega
      have hgt2 : decide (L < (E + 1) * 1048576 + 1) = true := by simp; omega
      have Ho := hid (open_more (s + 2 + 1) (s + 2) (E + 1) 0 [] wr hS.e (by simp) (by omega) (by omega))
      clear hL hlast2
      go_wp2_with (first
        | (go_at_call 10; refine Ho.out.mono ?_; rintro e w2 ⟨rfl, h2, t2⟩)
        | (go_at_call 13; refine (len_any _ _ _ _ _ _ (hS.d.turns t2 (by omega) (by omega))).mono ?_; rintro e w' ⟨rfl, rfl⟩)
        | (go_at_call 12; (with_reducible refine (has_any _ _ _ _ _ _ (iok_of (by omega)) _ (hS.d.turns t2 (by omega) (by omega))).mono ?_); rintro e w' ⟨rfl, rfl⟩; rw [Hn.out])
        | (go_at_call 12; refine (has_any _ _ _ _ _ _ (iok_of (by omega)) _ h2).mono ?_; rintro e w' ⟨rfl, rfl⟩; rw [Hn2.out]))
      go_ret
      have hs := hS.s
      exact ⟨rfl, hS.b.trans (t2.below hS.b.size (by rintro z hz (rfl | rfl) <;> omega))⟩

end Go.Proofs.Ytdfflklfphehjaa
