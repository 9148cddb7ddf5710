/-
  LockScans' walk: who reads a whole table bars all who would change any key of it, old or new, and is barred by them.
-/
import Derived.Test.YticbmpgcndoncaaLock12
namespace Go.Proofs.Yticbmpgcndoncaa
open Go.RowKit Go.Maps
set_option linter.unusedSimpArgs false

set_option maxRecDepth 100000 in
set_option maxHeartbeats 800000 in
theorem scans_first (t : Int) (key : ByteArray) (hT : iok t) (hK : key.size ≤ maxLen) (h100 : ¬ 100 < key.size) (w : World) : Calls Try.prog 7 #[.int .i64 t, .string key, .bool true] w fun e w' => e = .returned (.bool true) ∧ Below w.heap.size w w' := by
  obtain ⟨M1, eM1⟩ : ∃ M : Lk, M = [(tname t, [(1, 1)])] := ⟨_, rfl⟩
  obtain ⟨M2, eM2⟩ : ∃ M : Lk, M = [(tname t, [(1, 1)]), ((t, key, false), [(2, 1)])] := ⟨_, rfl⟩
  obtain ⟨M3, eM3⟩ : ∃ M : Lk, M = [((t, key, false), [(2, 1)])] := ⟨_, rfl⟩
  obtain ⟨M4, eM4⟩ : ∃ M : Lk, M = [((t, key, false), [(2, 3)]), (tname t, [(2, 2)])] := ⟨_, rfl⟩
  have WM1 : WF M1 := by rw [eM1]; intro p hp; simp at hp; subst hp; exact ⟨by simp, by simp [Apart], by simp⟩
  have WM2 : WF M2 := by rw [eM2]; intro p hp; simp at hp; rcases hp with rfl | rfl <;> exact ⟨by simp, by simp [Apart], by simp⟩
  have WM3 : WF M3 := by rw [eM3]; intro p hp; simp at hp; subst hp; exact ⟨by simp, by simp [Apart], by simp⟩
  have WM4 : WF M4 := by rw [eM4]; intro p hp; simp at hp; rcases hp with rfl | rfl <;> exact ⟨by simp, by simp [Apart], by simp⟩
  have E0 := hid (show takeB [] 1 (tname t) 1 = true by simp [kB, kS, keyB, keyS, takeB, takeS, takeM, dropM, heldBy, wants, barred, both, fits, aget, aput, ahas, adel, tname])
  have S0 := hid (show takeS [] 1 (tname t) 1 = M1 by unfold takeS; rw [if_pos E0.out, eM1]; simp [takeM, heldBy, wants, both, aget, aput, ahas, tname])
  have E1 := hid (show kB M1 2 t key true = false by rw [eM1]; simp [kB, kS, keyB, keyS, takeB, takeS, takeM, dropM, heldBy, wants, barred, both, fits, aget, aput, ahas, adel, tname])
  have S1 := hid (show kS M1 2 t key true = M1 by unfold kS keyS; rw [if_pos rfl, if_neg (by have := E1.out; unfold kB at this; rw [if_pos rfl] at this; rw [this]; decide)])
  have E2 := hid (show (M1.length : Int) = 1 by rw [eM1]; rfl)
  have E3 := hid (show kB M1 2 t key false = true by rw [eM1]; simp [kB, kS, keyB, keyS, takeB, takeS, takeM, dropM, heldBy, wants, barred, both, fits, aget, aput, ahas, adel, tname])
  have S3 := hid (show kS M1 2 t key false = M2 by unfold kS takeS; rw [if_neg (by decide), if_pos (by have := E3.out; unfold kB at this; rw [if_neg (by decide)] at this; exact this)]; rw [eM1, eM2]; simp [takeM, heldBy, wants, both, aget, aput, ahas, tname])
  have S4 := hid (show dropM M2 1 = M3 by rw [eM2, eM3]; simp [dropM, adel, tname])
  have E5 := hid (show kB M3 2 t key true = true by rw [eM3]; simp [kB, kS, keyB, keyS, takeB, takeS, takeM, dropM, heldBy, wants, barred, both, fits, aget, aput, ahas, adel, tname])
  have S5 := hid (show kS M3 2 t key true = M4 by unfold kS keyS; rw [if_pos rfl, if_pos (by have := E5.out; unfold kB at this; rw [if_pos rfl] at this; exact this)]; rw [eM3, eM4]; simp [takeM, heldBy, wants, both, aget, aput, ahas, tname])
  have E6 := hid (show takeB M4 1 (tname t) 1 = false by rw [eM4]; simp [kB, kS, keyB, keyS, takeB, takeS, takeM, dropM, heldBy, wants, barred, both, fits, aget, aput, ahas, adel, tname])
  have S6 := hid (show takeS M4 1 (tname t) 1 = M4 by unfold takeS; rw [E6.out]; rfl)
  have VM1 := hid WM1
  have VM2 := hid WM2
  have VM3 := hid WM3
  have VM4 := hid WM4
  clear eM1 eM2 eM3 eM4 WM1 WM2 WM3 WM4
  have hlt : decide ((100 : Int) < (key.size : Int)) = false := by simp; omega
  go_enter Try.func7, Try.ntmps7
  go_wp2_with (first
    | (go_at_call 8; refine (fit_any _).mono ?_; rintro e w1 ⟨rfl, b1⟩)
    | (go_at_call 9; refine (new_any _).mono ?_; rintro e w2 ⟨rfl, hn, bn, sn⟩; have h0 := LawAt.new b1 hn bn)
    | (go_at_call 11; (with_reducible refine (law_table _ _ _ _ 1 t hT (iok_of (by omega)) h0 E0.out S0.out).mono ?_); rintro e w' ⟨rfl, h1⟩)
    | (go_at_call 10; (with_reducible refine (law_key _ _ _ _ 2 t (key) true hT hK (iok_of (by omega)) h1 VM1.out E1.out S1.out).mono ?_); rintro e w' ⟨rfl, h2⟩)
    | (go_at_call 12; (with_reducible refine (law_len _ _ _ _ h2 E2.out).mono ?_); rintro e w' ⟨rfl, rfl⟩)
    | (go_at_call 10; (with_reducible refine (law_key _ _ _ _ 2 t (key) false hT hK (iok_of (by omega)) h2 VM1.out E3.out S3.out).mono ?_); rintro e w' ⟨rfl, h4⟩)
    | (go_at_call 13; (with_reducible refine (law_drop _ _ _ _ 1 (iok_of (by omega)) h4 S4.out).mono ?_); rintro e w' ⟨rfl, h5⟩)
    | (go_at_call 10; (with_reducible refine (law_key _ _ _ _ 2 t (key) true hT hK (iok_of (by omega)) h5 VM3.out E5.out S5.out).mono ?_); rintro e w' ⟨rfl, h6⟩)
    | (go_at_call 11; (with_reducible refine (law_table _ _ _ _ 1 t hT (iok_of (by omega)) h6 E6.out S6.out).mono ?_); rintro e w' ⟨rfl, h7⟩))
  go_ret
  exact ⟨rfl, h7.b⟩

set_option maxRecDepth 100000 in
set_option maxHeartbeats 800000 in
theorem scans_later (t : Int) (key : ByteArray) (hT : iok t) (hK : key.size ≤ maxLen) (h100 : ¬ 100 < key.size) (w : World) : Calls Try.prog 7 #[.int .i64 t, .string key, .bool false] w fun e w' => e = .returned (.bool true) ∧ Below w.heap.size w w' := by
  obtain ⟨kx, ekx⟩ : ∃ k : ByteArray, k = key ++ ⟨#[120]⟩ := ⟨_, rfl⟩
  obtain ⟨ky, eky⟩ : ∃ k : ByteArray, k = key ++ ⟨#[121]⟩ := ⟨_, rfl⟩
  have hx : ¬ kx = key := by intro e; have := congrArg ByteArray.size e; rw [ekx, ByteArray.size_append, show (⟨#[120]⟩ : ByteArray).size = 1 from rfl] at this; omega
  have hx' : ¬ key = kx := fun e => hx e.symm
  obtain ⟨N1, eN1⟩ : ∃ M : Lk, M = [(tname t, [(2, 2)]), ((t, key, false), [(2, 3)])] := ⟨_, rfl⟩
  obtain ⟨N2, eN2⟩ : ∃ M : Lk, M = [(tname t, [(2, 2)]), ((t, key, false), [(2, 3)]), ((t, kx, false), [(1, 1)])] := ⟨_, rfl⟩
  obtain ⟨N3, eN3⟩ : ∃ M : Lk, M = [((t, kx, false), [(1, 1)])] := ⟨_, rfl⟩
  obtain ⟨N4, eN4⟩ : ∃ M : Lk, M = [((t, kx, false), [(1, 1)]), (tname t, [(1, 1)])] := ⟨_, rfl⟩
  obtain ⟨N5, eN5⟩ : ∃ M : Lk, M = [((t, kx, false), [(1, 1)]), (tname t, [(1, 3)]), ((t, key, false), [(1, 3)])] := ⟨_, rfl⟩
  have WN1 : WF N1 := by rw [eN1]; intro p hp; simp at hp; rcases hp with rfl | rfl <;> exact ⟨by simp, by simp [Apart], by simp⟩
  have WN2 : WF N2 := by rw [eN2]; intro p hp; simp at hp; rcases hp with rfl | rfl | rfl <;> exact ⟨by simp, by simp [Apart], by simp⟩
  have WN3 : WF N3 := by rw [eN3]; intro p hp; simp at hp; subst hp; exact ⟨by simp, by simp [Apart], by simp⟩
  have WN4 : WF N4 := by rw [eN4]; intro p hp; simp at hp; rcases hp with rfl | rfl <;> exact ⟨by simp, by simp [Apart], by simp⟩
  have WN5 : WF N5 := by rw [eN5]; intro p hp; simp at hp; rcases hp with rfl | rfl | rfl <;> exact ⟨by simp, by simp [Apart], by simp⟩
  have E0 := hid (show kB [] 2 t key true = true by simp [kB, kS, keyB, keyS, takeB, takeS, takeM, dropM, heldBy, wants, barred, both, fits, aget, aput, ahas, adel, tname, hx, hx'])
  have S0 := hid (show kS [] 2 t key true = N1 by unfold kS keyS; rw [if_pos rfl, if_pos (by have := E0.out; unfold kB at this; rw [if_pos rfl] at this; exact this)]; rw [eN1]; simp [takeM, heldBy, wants, both, aget, aput, ahas, tname, hx, hx'])
  have E1 := hid (show takeB N1 1 (tname t) 1 = false by rw [eN1]; simp [kB, kS, keyB, keyS, takeB, takeS, takeM, dropM, heldBy, wants, barred, both, fits, aget, aput, ahas, adel, tname, hx, hx'])
  have S1 := hid (show takeS N1 1 (tname t) 1 = N1 by unfold takeS; rw [E1.out]; rfl)
  have E2 := hid (show kB N1 1 t key false = false by rw [eN1]; simp [kB, kS, keyB, keyS, takeB, takeS, takeM, dropM, heldBy, wants, barred, both, fits, aget, aput, ahas, adel, tname, hx, hx'])
  have S2 := hid (show kS N1 1 t key false = N1 by unfold kS takeS; rw [if_neg (by decide), if_neg (by have := E2.out; unfold kB at this; rw [if_neg (by decide)] at this; rw [this]; decide)])
  have E3 := hid (show kB N1 1 t kx false = true by rw [eN1]; simp [kB, kS, keyB, keyS, takeB, takeS, takeM, dropM, heldBy, wants, barred, both, fits, aget, aput, ahas, adel, tname, hx, hx'])
  have S3 := hid (show kS N1 1 t kx false = N2 by unfold kS takeS; rw [if_neg (by decide), if_pos (by have := E3.out; unfold kB at this; rw [if_neg (by decide)] at this; exact this)]; rw [eN1, eN2]; simp [takeM, heldBy, wants, both, aget, aput, ahas, tname, hx, hx'])
  have S4 := hid (show dropM N2 2 = N3 by rw [eN2, eN3]; simp [dropM, adel, tname])
  have E5 := hid (show takeB N3 1 (tname t) 1 = true by rw [eN3]; simp [kB, kS, keyB, keyS, takeB, takeS, takeM, dropM, heldBy, wants, barred, both, fits, aget, aput, ahas, adel, tname, hx, hx'])
  have S5 := hid (show takeS N3 1 (tname t) 1 = N4 by unfold takeS; rw [if_pos E5.out, eN3, eN4]; simp [takeM, heldBy, wants, both, aget, aput, ahas, tname, hx, hx'])
  have E6 := hid (show kB N4 1 t key true = true by rw [eN4]; simp [kB, kS, keyB, keyS, takeB, takeS, takeM, dropM, heldBy, wants, barred, both, fits, aget, aput, ahas, adel, tname, hx, hx'])
  have S6 := hid (show kS N4 1 t key true = N5 by unfold kS keyS; rw [if_pos rfl, if_pos (by have := E6.out; unfold kB at this; rw [if_pos rfl] at this; exact this)]; rw [eN4, eN5]; simp [takeM, heldBy, wants, both, aget, aput, ahas, tname, hx, hx'])
  have E7 := hid (show kB N5 2 t ky true = false by rw [eN5]; simp [kB, kS, keyB, keyS, takeB, takeS, takeM, dropM, heldBy, wants, barred, both, fits, aget, aput, ahas, adel, tname, hx, hx'])
  have S7 := hid (show kS N5 2 t ky true = N5 by unfold kS keyS; rw [if_pos rfl, if_neg (by have := E7.out; unfold kB at this; rw [if_pos rfl] at this; rw [this]; decide)])
  have E8 := hid (show takeB N5 2 (tname t) 1 = false by rw [eN5]; simp [kB, kS, keyB, keyS, takeB, takeS, takeM, dropM, heldBy, wants, barred, both, fits, aget, aput, ahas, adel, tname, hx, hx'])
  have S8 := hid (show takeS N5 2 (tname t) 1 = N5 by unfold takeS; rw [E8.out]; rfl)
  have VN1 := hid WN1
  have VN2 := hid WN2
  have VN3 := hid WN3
  have VN4 := hid WN4
  have VN5 := hid WN5
  clear eN1 eN2 eN3 eN4 eN5 WN1 WN2 WN3 WN4 WN5
  have hlt : decide ((100 : Int) < (key.size : Int)) = false := by simp; omega
  subst ekx
  subst eky
  clear hx hx'
  have hX : (key ++ (⟨#[120]⟩ : ByteArray)).size ≤ maxLen := by rw [ByteArray.size_append]; show key.size + 1 ≤ maxLen; unfold maxLen; omega
  have hY : (key ++ (⟨#[121]⟩ : ByteArray)).size ≤ maxLen := by rw [ByteArray.size_append]; show key.size + 1 ≤ maxLen; unfold maxLen; omega
  go_enter Try.func7, Try.ntmps7
  go_wp2_with (first
    | (go_at_call 8; refine (fit_any _).mono ?_; rintro e w1 ⟨rfl, b1⟩)
    | (go_at_call 9; refine (new_any _).mono ?_; rintro e w2 ⟨rfl, hn, bn, sn⟩; have h0 := LawAt.new b1 hn bn)
    | (go_at_call 10; (with_reducible refine (law_key _ _ _ _ 2 t (key) true hT hK (iok_of (by omega)) h0 WF.nil E0.out S0.out).mono ?_); rintro e w' ⟨rfl, h1⟩)
    | (go_at_call 11; (with_reducible refine (law_table _ _ _ _ 1 t hT (iok_of (by omega)) h1 E1.out S1.out).mono ?_); rintro e w' ⟨rfl, h2⟩)
    | (go_at_call 10; (with_reducible refine (law_key _ _ _ _ 1 t (key) false hT hK (iok_of (by omega)) h2 VN1.out E2.out S2.out).mono ?_); rintro e w' ⟨rfl, h3⟩)
    | (go_at_call 10; (with_reducible refine (law_key _ _ _ _ 1 t (key ++ ⟨#[120]⟩) false hT hX (iok_of (by omega)) h3 VN1.out E3.out S3.out).mono ?_); rintro e w' ⟨rfl, h4⟩)
    | (go_at_call 13; (with_reducible refine (law_drop _ _ _ _ 2 (iok_of (by omega)) h4 S4.out).mono ?_); rintro e w' ⟨rfl, h5⟩)
    | (go_at_call 11; (with_reducible refine (law_table _ _ _ _ 1 t hT (iok_of (by omega)) h5 E5.out S5.out).mono ?_); rintro e w' ⟨rfl, h6⟩)
    | (go_at_call 10; (with_reducible refine (law_key _ _ _ _ 1 t (key) true hT hK (iok_of (by omega)) h6 VN4.out E6.out S6.out).mono ?_); rintro e w' ⟨rfl, h7⟩)
    | (go_at_call 10; (with_reducible refine (law_key _ _ _ _ 2 t (key ++ ⟨#[121]⟩) true hT hY (iok_of (by omega)) h7 VN5.out E7.out S7.out).mono ?_); rintro e w' ⟨rfl, h8⟩)
    | (go_at_call 11; (with_reducible refine (law_table _ _ _ _ 2 t hT (iok_of (by omega)) h8 E8.out S8.out).mono ?_); rintro e w' ⟨rfl, h9⟩))
  go_ret
  exact ⟨rfl, h9.b⟩

set_option maxRecDepth 100000 in
theorem scans_long (t : Int) (key : ByteArray) (f : Bool) (h100 : 100 < key.size) (w : World) : Calls Try.prog 7 #[.int .i64 t, .string key, .bool f] w fun e w' => e = .returned (.bool true) ∧ Below w.heap.size w w' := by
  have hlt : decide ((100 : Int) < (key.size : Int)) = true := by simp; omega
  go_enter Try.func7, Try.ntmps7
  go_wp2_with (first
    | (go_at_call 8; refine (fit_any _).mono ?_; rintro e w1 ⟨rfl, b1⟩))
  go_ret
  exact ⟨rfl, b1⟩

theorem scans_any (t : Int) (key : ByteArray) (f : Bool) (hT : iok t) (hK : key.size ≤ maxLen) (w : World) : Calls Try.prog 7 #[.int .i64 t, .string key, .bool f] w fun e w' => e = .returned (.bool true) ∧ Below w.heap.size w w' := by
  by_cases h : 100 < key.size
  · exact scans_long t key f h w
  · cases f with
    | true => exact scans_first t key hT hK h w
    | false => exact scans_later t key hT hK h w

end Go.Proofs.Yticbmpgcndoncaa
