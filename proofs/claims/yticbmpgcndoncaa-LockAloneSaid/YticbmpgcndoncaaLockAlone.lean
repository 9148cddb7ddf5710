/-
  LockAlone's walk: somebody alone is barred by nothing; once all is dropped nothing is held.
-/
import Derived.Test.YticbmpgcndoncaaLockTwice
namespace Go.Proofs.Yticbmpgcndoncaa
open Go.RowKit Go.Maps

/-- nobody but 7 holds anything -/
def Only (M : Lk) : Prop := ∀ p ∈ M, ∀ q ∈ p.2, q.1 = 7
theorem Only.held {M : Lk} (h : Only M) (n : Nm) : ∀ q ∈ heldBy M n, q.1 = 7 := by
  unfold heldBy
  cases hg : aget M n with
  | none => intro q hq; cases hq
  | some l => exact h _ (mem_of_aget hg)
theorem Only.take {M : Lk} (h : Only M) (n : Nm) (m : Int) : takeB M 7 n m = true := by
  have : barred (heldBy M n) 7 (wants M 7 n m) = false := by
    cases hb : barred (heldBy M n) 7 (wants M 7 n m) with
    | false => rfl
    | true => obtain ⟨p, hp, h1, _⟩ := (barred_iff _ _ _).1 hb; exact absurd (h.held n p hp) h1
  unfold takeB; rw [this]; rfl
theorem Only.takeM {M : Lk} (h : Only M) (n : Nm) (m : Int) : Only (takeM M 7 n m) := by
  have hk : ∀ q ∈ aput (heldBy M n) 7 (wants M 7 n m), q.1 = 7 := by
    intro q hq
    unfold aput at hq
    split at hq
    · obtain ⟨q', hq', rfl⟩ := List.mem_map.1 hq
      split
      · rfl
      · exact h.held n q' hq'
    · rcases List.mem_append.1 hq with hq | hq
      · exact h.held n q hq
      · simp at hq; rw [hq]
  intro p hp
  unfold Go.Proofs.Yticbmpgcndoncaa.takeM aput at hp
  split at hp
  · obtain ⟨q, hq, rfl⟩ := List.mem_map.1 hp
    split
    · exact hk
    · exact h q hq
  · rcases List.mem_append.1 hp with hp | hp
    · exact h p hp
    · simp at hp; rw [hp]; exact hk
theorem takeM_some (M : Lk) (who : Int) (n : Nm) (m : Int) : takeM M who n m ≠ [] := by
  intro e
  have : ahas (takeM M who n m) n = true := by unfold takeM; rw [ahas_aput]; simp
  rw [e] at this; cases this
theorem Only.key {M : Lk} (h : Only M) (hW : WF M) (t : Int) (k : ByteArray) (c : Bool) : kB M 7 t k c = true ∧ Only (kS M 7 t k c) ∧ kS M 7 t k c ≠ [] ∧ WF (kS M 7 t k c) := by
  refine ⟨?_, ?_, ?_, hW.kS _ _ _ _⟩
  all_goals cases c
  · exact h.take _ _
  · show keyB M 7 t k = true
    unfold keyB; rw [h.take, (h.takeM _ _).take]; rfl
  · unfold kS takeS; rw [if_neg (by decide), if_pos (h.take _ _)]; exact h.takeM _ _
  · have hk : keyB M 7 t k = true := by unfold keyB; rw [h.take, (h.takeM _ _).take]; rfl
    unfold kS keyS; rw [if_pos rfl, if_pos hk]; exact (h.takeM _ _).takeM _ _
  · unfold kS takeS; rw [if_neg (by decide), if_pos (h.take _ _)]; exact takeM_some _ _ _ _
  · have hk : keyB M 7 t k = true := by unfold keyB; rw [h.take, (h.takeM _ _).take]; rfl
    unfold kS keyS; rw [if_pos rfl, if_pos hk]; exact takeM_some _ _ _ _
theorem Only.table {M : Lk} (h : Only M) (hW : WF M) (t : Int) : takeB M 7 (tname t) 1 = true ∧ Only (takeS M 7 (tname t) 1) ∧ takeS M 7 (tname t) 1 ≠ [] ∧ WF (takeS M 7 (tname t) 1) := by
  have e : takeS M 7 (tname t) 1 = Go.Proofs.Yticbmpgcndoncaa.takeM M 7 (tname t) 1 := by unfold takeS; rw [if_pos (h.take _ _)]
  rw [e]
  exact ⟨h.take _ _, h.takeM _ _, takeM_some _ _ _ _, hW.takeM _ _ (by decide)⟩
theorem Only.drop8 {M : Lk} (h : Only M) (hW : WF M) : dropM M 8 = M := by
  have e1 : (M.map fun p => (p.1, adel p.2 8)) = M := by
    conv => rhs; rw [← List.map_id M]
    refine List.map_congr_left fun p hp => ?_
    have : adel p.2 8 = p.2 := adel_none (ahas_false.2 fun q hq e => by rw [h p hp q hq] at e; exact absurd e (by decide))
    rw [this]; rfl
  unfold dropM
  rw [e1, List.filter_eq_self]
  intro p hp
  have := (hW p hp).1
  cases hl : p.2 with
  | nil => exact absurd hl this
  | cons _ _ => rfl
theorem Only.drop7 {M : Lk} (h : Only M) : dropM M 7 = [] := by
  unfold dropM
  rw [List.filter_eq_nil_iff]
  intro p hp
  obtain ⟨q, hq, rfl⟩ := List.mem_map.1 hp
  have : adel q.2 7 = [] := by
    unfold adel
    rw [List.filter_eq_nil_iff]
    intro r hr; simp [h q hq r hr]
  simp [this]

set_option maxRecDepth 100000 in
set_option maxHeartbeats 1600000 in
theorem alone_any (b off len cap : Nat) (w : World) (hl0 : 0 < len) (hb : b < w.heap.size) (hlen : len ≤ 9223372036854775807) (hc : Handed w b off len) :
    Calls Try.prog 5 #[.slice (some ⟨b, off, none⟩) len cap] w fun e w' => e = .returned (.bool true) ∧ Below w.heap.size w w' := by
  by_cases h100 : 100 < len
  · go_enter Try.func5, Try.ntmps5
    go_wp2_with (first
      | (go_at_call 8; refine (fit_any _).mono ?_; rintro e w1 ⟨rfl, b1⟩))
    go_ret
    exact ⟨rfl, b1⟩
  · have HC := hid hc
    clear hc
    go_enter Try.func5, Try.ntmps5
    go_wp2_with (first
      | (go_at_call 8; refine (fit_any _).mono ?_; rintro e w1 ⟨rfl, b1⟩)
      | (go_at_call 9; refine (new_any _).mono ?_; rintro e w2 ⟨rfl, hl, bn, sn⟩; have h0 := LawAt.new b1 hl bn))
    have hS0 : LawAt w w2 w1.heap.size [] := h0
    obtain ⟨s, hs⟩ : ∃ s, s = w1.heap.size := ⟨_, rfl⟩
    rw [← hs] at hS0 ⊢
    clear h0 hl bn sn b1 hs
    go_loopw [15] (fun u wr => ∃ (k : Nat) (M : Lk), k ≤ len ∧ u = .int .i64 k ∧ WF M ∧ Only M ∧ (0 < k → M ≠ []) ∧ LawAt w wr s M) (fun u _ => ((len : Int) - intOf u).toNat)
    case atStart => exact ⟨0, [], by omega, rfl, WF.nil, (fun p hp => by cases hp), (fun h => by omega), hS0⟩
    case round =>
      clear hS0
      obtain ⟨i, M, hi, rfl, hW, hOn, hne, hS⟩ := hrel
      by_cases hlt : i < len
      · obtain ⟨kd, who, t, k, hcell, hkd, hT, hK⟩ := HC.out i hlt
        have hcr : CallAt wr b (off + i * 4) kd who t k := hcell.block (hS.b.block b hb)
        obtain ⟨a0, a1, a2, a3⟩ := hcr
        clear hcell hne
        by_cases h100 : 100 < k.size
        · have hd : decide ((100 : Int) < (k.size : Int)) = true := by simp; omega
          go_wp2
          go_ret
          exact ⟨rfl, hS.b.alloc hS.b.size _⟩
        · have hd : decide ((100 : Int) < (k.size : Int)) = false := by simp; omega
          obtain ⟨c, hcc⟩ : ∃ c : Bool, (bits .and .i64 kd 1 == 1) = c := ⟨_, rfl⟩
          obtain ⟨d, hdd⟩ : ∃ d : Bool, (bits .and .i64 kd 2 == 2) = d := ⟨_, rfl⟩
          have hbox := hS.box (.cells #[.int .i64 kd, .int .i64 who, .int .i64 t, .string k] 33)
          have hbx := boxed wr kd who t k
          obtain ⟨M1, hM1⟩ : ∃ M1, kS M 7 t k c = M1 := ⟨_, rfl⟩
          have hkey := hOn.key hW t k c
          rw [hM1] at hkey
          have htab := hkey.2.1.table hkey.2.2.2 t
          obtain ⟨M2, hM2⟩ : ∃ M2, takeS M1 7 (tname t) 1 = M2 := ⟨_, rfl⟩
          rw [hM2] at htab
          have HW := hid hW
          have KEY := hid hkey
          have TAB := hid htab
          have E1 := hid hM1
          have E2 := hid hM2
          clear hW hOn hkey htab hM1 hM2
          cases d with
          | true =>
            go_wp2_with fail
            obtain ⟨X, hX⟩ : ∃ X, X = wr.heap.size := ⟨_, rfl⟩
            rw [← hX] at hbox hbx ⊢
            generalize wr.alloc (.cells #[.int .i64 kd, .int .i64 who, .int .i64 t, .string k] 33) = W at hbox hbx ⊢
            clear a0 a1 a2 a3 hX hS
            go_wp2_with (first
              | (go_at_call 10; (with_reducible refine (law_keyK _ _ _ _ _ 7 t k c hT hK (iok_of (by omega)) hbox HW.out KEY.out.1 E1.out).mono ?_); rintro e w3 ⟨rfl, h3, x3⟩; obtain ⟨p0, p1, p2, p3⟩ := CallAt.of_box (x3.trans hbx))
              | (go_at_call 11; (with_reducible refine (law_table _ _ _ _ 7 t hT (iok_of (by omega)) h3.law TAB.out.1 E2.out).mono ?_); rintro e w4 ⟨rfl, h4⟩))
            clear hbox hbx h3 x3 p0 p1 p2 p3
            go_roundw
            case rel => exact ⟨i + 1, M2, by omega, by go_num, TAB.out.2.2.2, TAB.out.2.1, fun _ => TAB.out.2.2.1, h4⟩
            case measure => simp [intOf]; omega
          | false =>
            go_wp2_with fail
            obtain ⟨X, hX⟩ : ∃ X, X = wr.heap.size := ⟨_, rfl⟩
            rw [← hX] at hbox hbx ⊢
            generalize wr.alloc (.cells #[.int .i64 kd, .int .i64 who, .int .i64 t, .string k] 33) = W at hbox hbx ⊢
            clear a0 a1 a2 a3 hX hS
            go_wp2_with (first
              | (go_at_call 10; (with_reducible refine (law_keyK _ _ _ _ _ 7 t k c hT hK (iok_of (by omega)) hbox HW.out KEY.out.1 E1.out).mono ?_); rintro e w3 ⟨rfl, h3, x3⟩; obtain ⟨p0, p1, p2, p3⟩ := CallAt.of_box (x3.trans hbx)))
            have hN := h3.law
            clear hbox hbx h3 x3 p0 p1 p2 p3
            go_roundw
            case rel => exact ⟨i + 1, M1, by omega, by go_num, KEY.out.2.2.2, KEY.out.2.1, fun _ => KEY.out.2.2.1, hN⟩
            case measure => simp [intOf]; omega
      · obtain rfl : i = len := by omega
        have hML : ((M.length : Int) == 0) = false := by
          simpa using hne hl0
        have hL0 : ((i : Int) == 0) = false := by simp; omega
        have D8 := hid (hOn.drop8 hW)
        have D7 := hid hOn.drop7
        obtain ⟨n, hn⟩ : ∃ n : Int, (M.length : Int) = n := ⟨_, rfl⟩
        rw [hn] at hML
        have LN := hid hn
        have L0 := hid (show (([] : Lk).length : Int) = 0 from rfl)
        clear hW hOn hne hn hlt hi
        go_wp2_with (first
          | (go_at_call 13; (with_reducible refine (law_drop _ _ _ _ 8 (iok_of (by omega)) hS D8.out).mono ?_); rintro e w3 ⟨rfl, h3⟩)
          | (go_at_call 12; (with_reducible refine (law_len _ _ _ _ h3 LN.out).mono ?_); rintro e w' ⟨rfl, rfl⟩)
          | (go_at_call 13; (with_reducible refine (law_drop _ _ _ _ 7 (iok_of (by omega)) h3 D7.out).mono ?_); rintro e w4 ⟨rfl, h4⟩)
          | (go_at_call 13; (with_reducible refine (drop_nil _ _).mono ?_); rintro e w' ⟨rfl, rfl⟩)
          | (go_at_call 12; (with_reducible refine (law_len _ _ _ _ h4 L0.out).mono ?_); rintro e w' ⟨rfl, rfl⟩)
          | (go_at_call 10; (with_reducible refine (key_nil _ _ _ _ _).mono ?_); rintro e w' ⟨rfl, rfl⟩)
          | (go_at_call 11; (with_reducible refine (table_nil _ _ _).mono ?_); rintro e w' ⟨rfl, rfl⟩)
          | (go_at_call 12; (with_reducible refine (len_nil _).mono ?_); rintro e w' ⟨rfl, rfl⟩))
        go_ret
        exact ⟨rfl, h4.b⟩

set_option maxRecDepth 100000 in
theorem alone_none (A : Option Addr) (cap : Nat) (w : World) :
    Calls Try.prog 5 #[.slice A 0 cap] w fun e w' => e = .returned (.bool true) ∧ Below w.heap.size w w' := by
  have L0 := hid (show (([] : Lk).length : Int) = 0 from rfl)
  have D8 := hid (show dropM [] 8 = [] from rfl)
  have D7 := hid (show dropM [] 7 = [] from rfl)
  go_enter Try.func5, Try.ntmps5
  go_wp2_with (first
    | (go_at_call 8; refine (fit_any _).mono ?_; rintro e w1 ⟨rfl, b1⟩)
    | (go_at_call 9; refine (new_any _).mono ?_; rintro e w2 ⟨rfl, hl, bn, sn⟩; have h0 := LawAt.new b1 hl bn))
  refine wp_loop_rounds 1 ?_
  rw [rounds_succ]
  go_wp2_with (first
    | (go_at_call 13; (with_reducible refine (law_drop _ _ _ _ 8 (iok_of (by omega)) h0 D8.out).mono ?_); rintro e w3 ⟨rfl, h3⟩)
    | (go_at_call 12; (with_reducible refine (law_len _ _ _ _ h3 L0.out).mono ?_); rintro e w' ⟨rfl, rfl⟩)
    | (go_at_call 13; (with_reducible refine (law_drop _ _ _ _ 7 (iok_of (by omega)) h3 D7.out).mono ?_); rintro e w4 ⟨rfl, h4⟩)
    | (go_at_call 13; (with_reducible refine (drop_nil _ _).mono ?_); rintro e w' ⟨rfl, rfl⟩)
    | (go_at_call 12; (with_reducible refine (law_len _ _ _ _ h4 L0.out).mono ?_); rintro e w' ⟨rfl, rfl⟩)
    | (go_at_call 10; (with_reducible refine (key_nil _ _ _ _ _).mono ?_); rintro e w' ⟨rfl, rfl⟩)
    | (go_at_call 11; (with_reducible refine (table_nil _ _ _).mono ?_); rintro e w' ⟨rfl, rfl⟩)
    | (go_at_call 12; (with_reducible refine (len_nil _).mono ?_); rintro e w' ⟨rfl, rfl⟩))
  go_ret
  exact ⟨rfl, h4.b⟩

end Go.Proofs.Yticbmpgcndoncaa
