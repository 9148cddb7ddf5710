/-
  LockReads' walk: any number read one key, and one table; none of them can change it while another one reads.
-/
import Derived.Test.YticbmpgcndoncaaLock12
namespace Go.Proofs.Yticbmpgcndoncaa
open Go.RowKit Go.Maps
set_option linter.unusedSimpArgs false

theorem and_mask (a : Int) (k : Nat) (hk : k < 63) : 0 ≤ bits .and .i64 a ((2 ^ k - 1 : Nat) : Int) ∧ bits .and .i64 a ((2 ^ k - 1 : Nat) : Int) < 2 ^ k := by
  have hp : 2 ^ k ≤ 2 ^ 62 := Nat.pow_le_pow_right (by omega) (by omega)
  have hof : ∀ a : Nat, a < 9223372036854775808 → (BitVec.ofInt 64 (a : Int)).toNat = a := fun a ha => by
    rw [BitVec.ofInt_natCast, BitVec.toNat_ofNat]; exact Nat.mod_eq_of_lt (by omega)
  have hx : (BitVec.ofInt 64 a &&& BitVec.ofInt 64 ((2 ^ k - 1 : Nat) : Int)).toNat < 2 ^ k := by
    rw [BitVec.toNat_and, hof _ (by omega), Nat.and_two_pow_sub_one_eq_mod]
    exact Nat.mod_lt _ (Nat.two_pow_pos k)
  have e : bits .and .i64 a ((2 ^ k - 1 : Nat) : Int) = IntKind.i64.wrap ((BitVec.ofInt 64 a &&& BitVec.ofInt 64 ((2 ^ k - 1 : Nat) : Int)).toNat : Int) := rfl
  rw [e, IntKind.wrap_i64]
  generalize (BitVec.ofInt 64 a &&& BitVec.ofInt 64 ((2 ^ k - 1 : Nat) : Int)).toNat = q at hx
  have h2 : ((2 ^ k : Nat) : Int) = (2 : Int) ^ k := by simp
  rw [← h2]
  omega

/-- readers from a on, as many as b -/
def rds (a b : Nat) : Hold := (List.range b).map fun j : Nat => (((a + j : Nat) : Int), 1)
theorem rds_has (a b : Nat) (x : Int) : ahas (rds a b) x = true ↔ ∃ j : Nat, j < b ∧ ((a + j : Nat) : Int) = x := by
  rw [ahas_true]; unfold rds
  constructor
  · rintro ⟨p, hp, rfl⟩
    obtain ⟨i, hi, rfl⟩ := List.mem_map.1 hp
    exact ⟨i, List.mem_range.1 hi, rfl⟩
  · rintro ⟨i, hi, rfl⟩
    exact ⟨_, List.mem_map.2 ⟨i, List.mem_range.2 hi, rfl⟩, rfl⟩
theorem rds_mem {a b : Nat} {p : Int × Int} (h : p ∈ rds a b) : ∃ j : Nat, j < b ∧ p = (((a + j : Nat) : Int), 1) := by
  unfold rds at h
  obtain ⟨i, hi, rfl⟩ := List.mem_map.1 h
  exact ⟨i, List.mem_range.1 hi, rfl⟩
theorem rds_apart (a b : Nat) : Apart (rds a b) := by
  rw [apart_iff]; unfold rds; rw [List.map_map]
  unfold List.Nodup
  rw [List.pairwise_map]
  exact (List.nodup_range (n := b)).imp fun h e => h (by simp only [Function.comp] at e; omega)
theorem rds_more (a b : Nat) : aput (rds a b) ((a + b : Nat) : Int) 1 = rds a (b + 1) := by
  have h : ahas (rds a b) ((a + b : Nat) : Int) = false := by
    cases h : ahas (rds a b) ((a + b : Nat) : Int) with
    | false => rfl
    | true => obtain ⟨i, hi, e⟩ := (rds_has _ _ _).1 h; omega
  rw [aput_new _ h]; unfold rds; rw [List.range_succ, List.map_append]; rfl
theorem rds_less (a b : Nat) : adel (rds a (b + 1)) ((a : Nat) : Int) = rds (a + 1) b := by
  have e : rds a (b + 1) = (((a : Nat) : Int), 1) :: rds (a + 1) b := by
    unfold rds
    rw [List.range_succ_eq_map, List.map_cons, List.map_map]
    congr 1
    refine List.map_congr_left fun j _ => ?_
    simp only [Function.comp]
    congr 1
    omega
  have h : ahas (rds (a + 1) b) ((a : Nat) : Int) = false := by
    cases h : ahas (rds (a + 1) b) ((a : Nat) : Int) with
    | false => rfl
    | true => obtain ⟨i, hi, e⟩ := (rds_has _ _ _).1 h; omega
  rw [e]; unfold adel; rw [List.filter_cons]
  simp only [decide_true, Bool.not_true, Bool.false_eq_true, if_false]
  exact adel_none h
theorem rds_get {a b : Nat} {x : Int} (h : ahas (rds a b) x = true) : aget (rds a b) x = some 1 := by
  obtain ⟨j, hj, rfl⟩ := (rds_has _ _ _).1 h
  exact aget_mem (rds_apart a b) (p := (((a + j : Nat) : Int), 1)) (List.mem_map.2 ⟨j, List.mem_range.2 hj, rfl⟩)

/-- who reads: the key, and the table -/
def Rd (t : Int) (k : ByteArray) (a b : Nat) : Lk := if b = 0 then [] else [((t, k, false), rds a b), (tname t, rds a b)]
/-- between the two calls of a round -/
def Rh (t : Int) (k : ByteArray) (b : Nat) : Lk := if b = 0 then [((t, k, false), rds 0 1)] else [((t, k, false), rds 0 (b + 1)), (tname t, rds 0 b)]

theorem name_ne (t : Int) (k : ByteArray) : ¬ (t, k, false) = tname t := by unfold tname; simp
theorem heldBy_key (t : Int) (k : ByteArray) (a b : Nat) : heldBy (Rd t k a b) (t, k, false) = rds a b := by
  unfold Rd heldBy; split
  · rename_i h; subst h; rfl
  · rw [aget_cons, if_pos rfl]; rfl
theorem heldBy_table (t : Int) (k : ByteArray) (a b : Nat) : heldBy (Rd t k a b) (tname t) = rds a b := by
  unfold Rd heldBy; split
  · rename_i h; subst h; rfl
  · rw [aget_cons, if_neg (name_ne t k), aget_cons, if_pos rfl]; rfl
theorem rds_wf {a b : Nat} (hb : b ≠ 0) : rds a b ≠ [] ∧ Apart (rds a b) ∧ ∀ q ∈ rds a b, q.2 ≠ 0 := by
  refine ⟨fun e => ?_, rds_apart a b, fun q hq => ?_⟩
  · have := congrArg List.length e; simp [rds] at this; exact hb this
  · obtain ⟨j, _, rfl⟩ := rds_mem hq; show (1 : Int) ≠ 0; decide
theorem Rd_wf (t : Int) (k : ByteArray) (a b : Nat) : WF (Rd t k a b) := by
  unfold Rd; split
  · exact WF.nil
  · rename_i hb
    intro p hp; simp at hp; rcases hp with rfl | rfl <;> exact rds_wf hb
theorem Rh_wf (t : Int) (k : ByteArray) (b : Nat) : WF (Rh t k b) := by
  unfold Rh; split
  · intro p hp; simp at hp; subst hp; exact rds_wf (by decide)
  · rename_i hb
    intro p hp; simp at hp; rcases hp with rfl | rfl
    · exact rds_wf (by omega)
    · exact rds_wf hb

theorem free_rds (a b : Nat) (who : Int) : barred (rds a b) who 1 = false := by
  cases h : barred (rds a b) who 1 with
  | false => rfl
  | true =>
    obtain ⟨p, hp, _, hf⟩ := (barred_iff _ _ _).1 h
    obtain ⟨j, _, rfl⟩ := rds_mem hp
    cases hf
theorem new_rds (b : Nat) : aget (rds 0 b) ((b : Nat) : Int) = none := by
  refine aget_none ?_
  cases h : ahas (rds 0 b) ((b : Nat) : Int) with
  | false => rfl
  | true => obtain ⟨i, hi, e⟩ := (rds_has _ _ _).1 h; omega

theorem reads_key (t : Int) (k : ByteArray) (b : Nat) : kB (Rd t k 0 b) b t k false = true ∧ kS (Rd t k 0 b) b t k false = Rh t k b := by
  have hw : wants (Rd t k 0 b) b (t, k, false) 1 = 1 := by unfold wants; rw [heldBy_key, new_rds]; rfl
  have hB : takeB (Rd t k 0 b) b (t, k, false) 1 = true := by unfold takeB; rw [hw, heldBy_key, free_rds]; rfl
  refine ⟨hB, ?_⟩
  unfold kS takeS
  rw [if_neg (by decide), if_pos hB]
  unfold takeM
  have := rds_more 0 b
  rw [Nat.zero_add] at this
  rw [hw, heldBy_key, this]
  unfold Rd Rh
  by_cases h0 : b = 0
  · subst h0; rfl
  · rw [if_neg h0, if_neg h0]
    simp [aput, ahas, tname]
theorem reads_table (t : Int) (k : ByteArray) (b : Nat) : takeB (Rh t k b) b (tname t) 1 = true ∧ takeS (Rh t k b) b (tname t) 1 = Rd t k 0 (b + 1) := by
  have hh : heldBy (Rh t k b) (tname t) = rds 0 b := by
    unfold Rh heldBy; split
    · rename_i h; subst h; rw [aget_cons, if_neg (name_ne t k), aget_nil]; rfl
    · rw [aget_cons, if_neg (name_ne t k), aget_cons, if_pos rfl]; rfl
  have hw : wants (Rh t k b) b (tname t) 1 = 1 := by unfold wants; rw [hh, new_rds]; rfl
  have hB : takeB (Rh t k b) b (tname t) 1 = true := by unfold takeB; rw [hw, hh, free_rds]; rfl
  refine ⟨hB, ?_⟩
  unfold takeS
  rw [if_pos hB]
  unfold takeM
  have := rds_more 0 b
  rw [Nat.zero_add] at this
  rw [hw, hh, this]
  unfold Rd Rh
  rw [if_neg (show ¬ b + 1 = 0 by omega)]
  by_cases h0 : b = 0
  · subst h0; simp [aput, ahas, tname]
  · rw [if_neg h0]; simp [aput, ahas, tname]
theorem reads_bar (t : Int) (k k' : ByteArray) (n i : Nat) (hi : i < n) (h2 : 2 ≤ n) : kB (Rd t k 0 n) i t k' true = false ∧ kS (Rd t k 0 n) i t k' true = Rd t k 0 n := by
  have hhas : ahas (rds 0 n) ((i : Nat) : Int) = true := (rds_has _ _ _).2 ⟨i, hi, by simp⟩
  have hw : wants (Rd t k 0 n) i (tname t) 2 = 3 := by unfold wants; rw [heldBy_table, rds_get hhas]; rfl
  have hbar : barred (rds 0 n) i 3 = true := by
    refine (barred_iff _ _ _).2 ?_
    by_cases h0 : i = 0
    · exact ⟨_, List.mem_map.2 ⟨1, List.mem_range.2 (by omega), rfl⟩, by simp; omega, by rfl⟩
    · exact ⟨_, List.mem_map.2 ⟨0, List.mem_range.2 (by omega), rfl⟩, by simp; omega, by rfl⟩
  have hB : takeB (Rd t k 0 n) i (tname t) 2 = false := by unfold takeB; rw [hw, heldBy_table, hbar]; rfl
  have hK : keyB (Rd t k 0 n) i t k' = false := by unfold keyB; rw [hB]; rfl
  exact ⟨hK, by unfold kS keyS; rw [if_pos rfl, if_neg (by rw [hK]; decide)]⟩
theorem reads_drop (t : Int) (k : ByteArray) (a b : Nat) : dropM (Rd t k a (b + 1)) a = Rd t k (a + 1) b := by
  unfold Rd
  rw [if_neg (by omega)]
  unfold dropM
  simp only [List.map_cons, List.map_nil, rds_less]
  by_cases h0 : b = 0
  · subst h0; simp [rds]
  · rw [if_neg h0]
    have : (rds (a + 1) b).isEmpty = false := by
      cases h : rds (a + 1) b with
      | nil => exact absurd h (rds_wf h0).1
      | cons _ _ => rfl
    simp [this]

def Rf (t : Int) (k : ByteArray) (o : Int) : Lk := [((t, k, false), [(o, 3)]), (tname t, [(o, 3)])]
theorem Rf_wf (t : Int) (k : ByteArray) (o : Int) : WF (Rf t k o) := by
  unfold Rf; intro p hp; simp at hp; rcases hp with rfl | rfl <;> exact ⟨by simp, by simp [Apart], by simp⟩
theorem reads_last (t : Int) (k : ByteArray) (a : Nat) : kB (Rd t k a 1) a t k true = true ∧ kS (Rd t k a 1) a t k true = Rf t k a := by
  have hR : Rd t k a 1 = [((t, k, false), [((a : Int), 1)]), (tname t, [((a : Int), 1)])] := by unfold Rd rds; rw [if_neg (by decide)]; rfl
  rw [hR]
  have hK : keyB [((t, k, false), [((a : Int), 1)]), (tname t, [((a : Int), 1)])] a t k = true := by
    simp [keyB, takeB, takeM, heldBy, wants, barred, both, fits, aget, aput, ahas, tname]
  refine ⟨hK, ?_⟩
  unfold kS keyS Rf
  rw [if_pos rfl, if_pos hK]
  simp [takeM, heldBy, wants, both, aget, aput, ahas, tname]
theorem reads_not (t : Int) (k : ByteArray) (o : Int) (ho : ¬ o = 0) : kB (Rf t k o) 0 t k false = false ∧ kS (Rf t k o) 0 t k false = Rf t k o ∧ takeB (Rf t k o) 0 (tname t) 1 = false ∧ takeS (Rf t k o) 0 (tname t) 1 = Rf t k o := by
  have h1 : takeB (Rf t k o) 0 (t, k, false) 1 = false := by simp [Rf, takeB, heldBy, wants, barred, both, fits, aget, tname, ho]
  have h2 : takeB (Rf t k o) 0 (tname t) 1 = false := by simp [Rf, takeB, heldBy, wants, barred, both, fits, aget, tname, ho]
  exact ⟨h1, by unfold kS takeS; rw [if_neg (by decide), if_neg (by rw [h1]; decide)], h2, by unfold takeS; rw [if_neg (by rw [h2]; decide)]⟩

set_option maxRecDepth 100000 in
theorem reads_long (n t : Int) (key : ByteArray) (h100 : 100 < key.size) (w : World) : Calls Try.prog 6 #[.int .i64 n, .int .i64 t, .string key] w fun e w' => e = .returned (.bool true) ∧ Below w.heap.size w w' := by
  have hlt : decide ((100 : Int) < (key.size : Int)) = true := by simp; omega
  go_enter Try.func6, Try.ntmps6
  go_wp2_with (first
    | (go_at_call 8; refine (fit_any _).mono ?_; rintro e w1 ⟨rfl, b1⟩))
  go_ret
  exact ⟨rfl, b1⟩

set_option maxRecDepth 100000 in
set_option maxHeartbeats 800000 in
theorem reads_any' (n t : Int) (key : ByteArray) (hT : iok t) (hK : key.size ≤ maxLen) (h100 : ¬ 100 < key.size) (w : World) : Calls Try.prog 6 #[.int .i64 n, .int .i64 t, .string key] w fun e w' => e = .returned (.bool true) ∧ Below w.heap.size w w' := by
  have hlt : decide ((100 : Int) < (key.size : Int)) = false := by simp; omega
  have hn := and_mask n 3 (by omega)
  simp only [show ((2 ^ 3 - 1 : Nat) : Int) = 7 from rfl, show (2 : Int) ^ 3 = 8 from rfl] at hn
  obtain ⟨N, hN⟩ : ∃ N, bits .and .i64 n 7 = N := ⟨_, rfl⟩
  rw [hN] at hn
  have hX : (key ++ (⟨#[97]⟩ : ByteArray)).size ≤ maxLen := by rw [ByteArray.size_append]; show key.size + 1 ≤ maxLen; unfold maxLen; omega
  go_enter Try.func6, Try.ntmps6
  go_wp2_with (first
    | (go_at_call 8; refine (fit_any _).mono ?_; rintro e w1 ⟨rfl, b1⟩)
    | (go_at_call 9; refine (new_any _).mono ?_; rintro e w2 ⟨rfl, hl, bn, sn⟩; have h0 := LawAt.new b1 hl bn))
  have hS0 : LawAt w w2 w1.heap.size (Rd t key 0 0) := h0
  obtain ⟨s, hs⟩ : ∃ s, s = w1.heap.size := ⟨_, rfl⟩
  rw [← hs] at hS0 ⊢
  obtain ⟨m, hm⟩ := Int.eq_ofNat_of_zero_le hn.1
  have hm8 : m < 8 := by omega
  rw [hm]
  clear h0 hl bn sn b1 hs hN hlt hn hm
  go_loopw [21] (fun u wr => ∃ i : Nat, i ≤ m + 2 ∧ u = .int .i64 i ∧ LawAt w wr s (Rd t key 0 i)) (fun u _ => ((m : Int) + 2 - intOf u).toNat)
  case atStart => exact ⟨0, by omega, rfl, hS0⟩
  case round =>
    clear hS0
    obtain ⟨i, hi, rfl, hS⟩ := hrel
    by_cases hlt : i < m + 2
    · have E1 := hid (reads_key t key i)
      have E2 := hid (reads_table t key i)
      have W1 := hid (Rd_wf t key 0 i)
      go_wp2_with (first
        | (go_at_call 10; (with_reducible refine (law_key _ _ _ _ i t key false hT hK (iok_of (by omega)) hS W1.out E1.out.1 E1.out.2).mono ?_); rintro e w3 ⟨rfl, h3⟩)
        | (go_at_call 11; (with_reducible refine (law_table _ _ _ _ i t hT (iok_of (by omega)) h3 E2.out.1 E2.out.2).mono ?_); rintro e w4 ⟨rfl, h4⟩))
      clear hS h3
      go_roundw
      case rel => exact ⟨i + 1, by omega, by go_num, h4⟩
      case measure => simp [intOf]; omega
    · obtain rfl : i = m + 2 := by omega
      clear hi hlt
      have ec : ((m + 2 : Nat) : Int) = (m : Int) + 2 := by omega
      rw [ec]
      clear ec
      go_wp2
      go_loopw [39] (fun u wr => ∃ i : Nat, i ≤ m + 2 ∧ u = .int .i64 i ∧ LawAt w wr s (Rd t key 0 (m + 2))) (fun u _ => ((m : Int) + 2 - intOf u).toNat)
      case atStart => exact ⟨0, by omega, rfl, hS⟩
      case round =>
        clear hS
        obtain ⟨i, hi, rfl, hS⟩ := hrel
        by_cases hlt : i < m + 2
        · have E1 := hid (reads_bar t key key (m + 2) i hlt (by omega))
          have E2 := hid (reads_bar t key (key ++ ⟨#[97]⟩) (m + 2) i hlt (by omega))
          have W1 := hid (Rd_wf t key 0 (m + 2))
          go_wp2_with (first
            | (go_at_call 10; (with_reducible refine (law_key _ _ _ _ i t key true hT hK (iok_of (by omega)) hS W1.out E1.out.1 E1.out.2).mono ?_); rintro e w3 ⟨rfl, h3⟩)
            | (go_at_call 10; (with_reducible refine (law_key _ _ _ _ i t (key ++ ⟨#[97]⟩) true hT hX (iok_of (by omega)) h3 W1.out E2.out.1 E2.out.2).mono ?_); rintro e w4 ⟨rfl, h4⟩))
          clear hS h3
          go_roundw
          case rel => exact ⟨i + 1, by omega, by go_num, h4⟩
          case measure => simp [intOf]; omega
        · obtain rfl : i = m + 2 := by omega
          clear hi hlt
          have ec : ((m + 2 : Nat) : Int) = (m : Int) + 2 := by omega
          rw [ec]
          clear ec
          go_wp2
          go_loopw [58] (fun u wr => ∃ i : Nat, i ≤ m + 1 ∧ u = .int .i64 i ∧ LawAt w wr s (Rd t key i (m + 2 - i))) (fun u _ => ((m : Int) + 2 - intOf u).toNat)
          case atStart => exact ⟨0, by omega, rfl, hS⟩
          case round =>
            clear hS
            obtain ⟨i, hi, rfl, hS⟩ := hrel
            by_cases hlt : i < m + 1
            · have E1 := hid (show dropM (Rd t key i (m + 2 - i)) i = Rd t key (i + 1) (m + 2 - (i + 1)) by
                have := reads_drop t key i (m + 2 - (i + 1))
                rw [show m + 2 - (i + 1) + 1 = m + 2 - i by omega] at this
                exact this)
              go_wp2_with (first
                | (go_at_call 13; (with_reducible refine (law_drop _ _ _ _ i (iok_of (by omega)) hS E1.out).mono ?_); rintro e w3 ⟨rfl, h3⟩))
              clear hS
              go_roundw
              case rel => exact ⟨i + 1, by omega, by go_num, h3⟩
              case measure => simp [intOf]; omega
            · obtain rfl : i = m + 1 := by omega
              clear hi hlt
              rw [show m + 2 - (m + 1) = 1 by omega] at hS
              have E1 := hid (reads_last t key (m + 1))
              have E2 := hid (reads_not t key ((m + 1 : Nat) : Int) (by omega))
              have W1 := hid (Rd_wf t key (m + 1) 1)
              have W2 := hid (Rf_wf t key ((m + 1 : Nat) : Int))
              have L2 := hid (show ((Rf t key ((m + 1 : Nat) : Int)).length : Int) = 2 from rfl)
              have ec : ((m + 1 : Nat) : Int) = (m : Int) + 2 - 1 := by omega
              rw [ec] at E1 E2 W2 L2
              rw [show ((m + 1 : Nat) : Int) = (m : Int) + 1 by omega]
              clear ec
              go_wp2_with (first
                | (go_at_call 10; (with_reducible refine (law_key _ _ _ _ _ t key true hT hK (iok_of (by omega)) hS W1.out E1.out.1 E1.out.2).mono ?_); rintro e w3 ⟨rfl, h3⟩)
                | (go_at_call 10; (with_reducible refine (law_key _ _ _ _ 0 t key false hT hK (iok_of (by omega)) h3 W2.out E2.out.1 E2.out.2.1).mono ?_); rintro e w4 ⟨rfl, h4⟩)
                | (go_at_call 11; (with_reducible refine (law_table _ _ _ _ 0 t hT (iok_of (by omega)) h4 E2.out.2.2.1 E2.out.2.2.2).mono ?_); rintro e w5 ⟨rfl, h5⟩)
                | (go_at_call 12; (with_reducible refine (law_len _ _ _ _ h5 L2.out).mono ?_); rintro e w6 ⟨rfl, rfl⟩))
              go_ret
              exact ⟨rfl, h5.b⟩

theorem reads_any (n t : Int) (key : ByteArray) (_hn : iok n) (hT : iok t) (hK : key.size ≤ maxLen) (w : World) : Calls Try.prog 6 #[.int .i64 n, .int .i64 t, .string key] w fun e w' => e = .returned (.bool true) ∧ Below w.heap.size w w' := by
  by_cases h : 100 < key.size
  · exact reads_long n t key h w
  · exact reads_any' n t key hT hK h w

end Go.Proofs.Yticbmpgcndoncaa
