/-
  DeskTxns' walk: a handle with a transaction stays till it has none.
-/
import Derived.Test.YtdfflklfphehjaaDeskMany
namespace Go.Proofs.Ytdfflklfphehjaa
open Go.RowKit Go.Maps

theorem adel_map_put (l : List (Int × Int)) (x v : Int) : adel (l.map fun p => if p.1 = x then (x, v) else p) x = adel l x := by
  unfold adel
  induction l with
  | nil => rfl
  | cons p l ih =>
    rw [List.map_cons, List.filter_cons, List.filter_cons, ih]
    by_cases h : p.1 = x <;> simp [h]
theorem adel_aput (l : List (Int × Int)) (x v : Int) : adel (aput l x v) x = adel l x := by
  unfold aput
  by_cases h : ahas l x = true
  · rw [if_pos h, adel_map_put]
  · rw [if_neg h]; unfold adel; rw [List.filter_append]; simp

/-- the handles' values -/
def hands (k : Nat) : List Value := (List.range k).map fun j : Nat => .int .i64 (5 * 1048576 + ((j : Int) + 1))
theorem hands_succ (k : Nat) (x : Int) (hx : x = 5 * 1048576 + ((k : Int) + 1)) : hands k ++ [.int .i64 x] = hands (k + 1) := by
  subst hx; unfold hands; rw [List.range_succ, List.map_append]; rfl
theorem hands_at (n j : Nat) (h : j < n) : (hands n)[j]? = some (.int .i64 (5 * 1048576 + ((j : Int) + 1))) := by
  unfold hands; rw [List.getElem?_map, List.getElem?_range h]; rfl

theorem info3 : (Try.prog.info? 3).map (fun i => (i.zero, i.size, i.bytes)) = some (some (.int .i64 0), 1, 8) := by kernel_rfl

structure T1 (w0 w : World) (s : Nat) (nx : Int) (l : List (Int × Int)) (v : Value) (k : Nat) : Prop where
  d : M1 w0 w s 5 nx l
  r : w.ownsRow (s + 2) 3 1 v k (hands k)
  z : s + 2 ≤ w.heap.size

theorem own_ne {w : World} {s : Nat} {v : Value} {k : Nat} {xs : List Value} (r : w.ownsRow (s + 2) 3 1 v k xs) {row : Option Nat} (h : row = some s ∨ row = some (s + 1)) : v.ownBlock = none ∨ v.ownBlock ≠ row := by
  cases hv : v.ownBlock with
  | none => exact .inl rfl
  | some g =>
    have := (r.lt g hv).1
    refine .inr fun e => ?_
    rcases h with rfl | rfl <;> injection e with e <;> omega

theorem own_turns {w w' : World} {s : Nat} {v : Value} {k : Nat} {xs : List Value} (r : w.ownsRow (s + 2) 3 1 v k xs) {S : Nat → Prop} (t : Turns S w w') (hS : ∀ i, S i → i = s + 1 ∨ i = s) : w'.ownsRow (s + 2) 3 1 v k xs := by
  refine ⟨r.1, ?_⟩
  rcases r.2 with hn | ⟨g, cap, cur, rfl, hb, hg, rest⟩
  · exact .inl hn
  · exact .inr ⟨g, cap, cur, rfl, hb, (t.block g (Array.getElem?_eq_some_iff.1 hg).1 (fun h => by rcases hS g h with h | h <;> omega)).trans hg, rest⟩

theorem turns_grown {a c : World} {row : Option Nat} (hg : a.grownBy c row) : Turns (fun i => some i = row) a c := ⟨hg.os, hg.tape, hg.output, hg.size, fun i hi hn => hg.block i hi hn⟩

theorem T1.next {w0 w w2 w3 : World} {s k : Nat} {v v1 : Value} {o : Obj} (h : T1 w0 w s k (Lst 5 0 k) v k) (t2 : Turns (fun i => i = s + 1 ∨ i = s) w w2)
    (h2 : DeskAt w2 (s + 1) s 5 ((k : Int) + 1) (aput (Lst 5 0 k) (5 * 1048576 + ((k : Int) + 1)) 0)) (hown : w3.ownsRow (s + 2) 3 1 v1 (k + 1) (hands k ++ [.int .i64 (5242880 + ((k : Int) + 1))]))
    (hg : (w2.alloc o).grownBy w3 v.ownBlock) : T1 w0 w3 s ((k + 1 : Nat) : Int) (Lst 5 0 (k + 1)) v1 (k + 1) := by
  rw [hands_succ k _ (by omega)] at hown
  rw [lst_more 5 0 k _ (by simp)] at h2
  have t3 : Turns (fun i => some i = v.ownBlock) w2 w3 := ((Turns.refl _ _).alloc o).trans (turns_grown hg)
  have n0 : ¬ some (s + 1) = v.ownBlock := fun e => by have := (h.r.lt _ e.symm).1; omega
  have n1 : ¬ some s = v.ownBlock := fun e => by have := (h.r.lt _ e.symm).1; omega
  have hs := h.d.s
  refine ⟨⟨h2.turns t3 n0 n1, ?_, hs⟩, hown, Nat.le_trans (Nat.le_trans h.z t2.size) t3.size⟩
  have b2 := t2.below (B := w0.heap.size) h.d.b.size (by rintro z hz (rfl | rfl) <;> omega)
  have b3 := t3.below (B := w0.heap.size) (Nat.le_trans h.d.b.size t2.size) (by intro z hz e; have := (h.r.lt _ e.symm).1; omega)
  exact (h.d.b.trans b2).trans b3

set_option maxRecDepth 100000 in
theorem txns_any (a b : Int) (w : World) : Calls Try.prog 7 #[.int .i64 a, .int .i64 b] w fun e w' => e = .returned (.bool true) ∧ Below w.heap.size w w' := by
  have ha := and_mask a 2 (by omega)
  have hb := and_mask b 2 (by omega)
  simp only [show ((2 ^ 2 - 1 : Nat) : Int) = 3 from rfl, show (2 : Int) ^ 2 = 4 from rfl] at ha hb
  obtain ⟨A, hA⟩ : ∃ A, bits .and .i64 a 3 = A := ⟨_, rfl⟩
  obtain ⟨X, hX⟩ : ∃ X, bits .and .i64 b 3 = X := ⟨_, rfl⟩
  rw [hA] at ha
  rw [hX] at hb
  obtain ⟨i0, hi0, hz0, hz1, hz2⟩ := info_parts info3
  go_enter Try.func7, Try.ntmps7
  go_wp2_with (first
    | (go_at_call 8; refine (fit_any _).mono ?_; rintro e w1 ⟨rfl, b1⟩)
    | (go_at_call 9; refine (new_any 5 _).mono ?_; rintro e w2 ⟨rfl, h2, b2, s2⟩))
  have hS0 : T1 w w2 w1.heap.size 0 (Lst 5 0 0) (.slice none 0 0) 0 := ⟨⟨h2, b1.trans (b2.mono b1.size), b1.size⟩, ⟨rfl, .inl ⟨rfl, rfl⟩⟩, by omega⟩
  obtain ⟨s, hs⟩ : ∃ s, s = w1.heap.size := ⟨_, rfl⟩
  rw [← hs] at hS0 ⊢
  obtain ⟨n', hn'⟩ := Int.eq_ofNat_of_zero_le ha.1
  have hn2 : n' < 4 := by omega
  rw [hn'] at hA ⊢
  clear h2 b1 b2 s2 hs hA hX ha hn'
  go_loopw [6, 19] (fun v i wr => ∃ k : Nat, k ≤ n' + 1 ∧ i = .int .i64 k ∧ T1 w wr s k (Lst 5 0 k) v k) (fun _ i _ => ((n' : Int) + 1 - intOf i).toNat)
  case atStart => exact ⟨0, by omega, rfl, hS0⟩
  case round =>
    clear hS0
    obtain ⟨k, hk, rfl, hS⟩ := hrel
    by_cases hlt : k < n' + 1
    · go_wp2_with (first
        | (go_at_call 10; refine (open_more _ _ _ _ _ _ hS.d.d (by rw [lst_length]; omega) ⟨by omega, by omega⟩ ⟨by omega, by omega⟩).mono ?_; rintro e w2 ⟨rfl, h2, t2⟩)
        | (at_builtin; refine wpList_append_own _ rfl _ _ 39 rfl (s + 2) 3 i0 (.int .i64 0) 1 8 Try.underlying39 hi0 hz0 hz1 hz2 rfl (by decide) _ _ _ rfl ((own_turns hS.r t2 (fun i h => h)).alloc _) ⟨w2.heap.size, 0, none⟩ 1 1 [.int .i64 (5 * 1048576 + ((k : Int) + 1))] rfl rfl ?c1 ?c2 ?c3 ?c4 ?c5 ?_))
      case c1 => exact cell_one_new _ _ _
      case c2 => simp [Value.oneCell']
      case c3 => unfold maxLen; omega
      case c4 => omega
      case c5 => have := hS.z; have := t2.size; simp; omega
      intro v1 w3 hown hg _
      have hN := hS.next t2 h2 hown hg
      clear hS t2 h2 hown hg
      go_wp2
      go_roundw
      case rel => exact ⟨k + 1, by omega, by go_num, hN⟩
      case measure => simp [intOf]; omega
    · obtain rfl : k = n' + 1 := by omega
      clear hk hlt
      obtain ⟨g, cap, rfl⟩ : ∃ g cap, u6 = .slice (some ⟨g, 0, none⟩) (n' + 1) cap := by
        rcases hS.r.2 with ⟨_, h0⟩ | ⟨g, cap, _, e, _⟩
        · omega
        · exact ⟨g, cap, e⟩
      have ec : ((n' + 1 : Nat) : Int) = (n' : Int) + 1 := by omega
      rw [ec]
      clear ec
      go_wp2
      go_loopw [29] (fun i wr => ∃ k : Nat, k ≤ n' + 1 ∧ i = .int .i64 k ∧ T1 w wr s ((n' + 1 : Nat) : Int) (Lst 5 k (n' + 1 - k)) (.slice (some ⟨g, 0, none⟩) (n' + 1) cap) (n' + 1)) (fun i _ => ((n' : Int) + 1 - intOf i).toNat)
      case atStart => exact ⟨0, by omega, rfl, hS⟩
      case round =>
        clear hS
        obtain ⟨k, hk, rfl, hS⟩ := hrel
        by_cases hlt : k < n' + 1
        · obtain ⟨c, hc⟩ : ∃ c, n' + 1 - k = c + 1 := ⟨n' - k, by omega⟩
          rw [hc] at hS
          have hcell : wr.cell? ⟨g, k, none⟩ = some (.int .i64 (5242880 + ((k : Int) + 1))) := by
            rw [hS.r.cellAt k (by omega), hands_at _ _ hlt]
            congr 2
          obtain ⟨l0, hl0⟩ : ∃ l0, l0 = Lst 5 k (c + 1) := ⟨_, rfl⟩
          obtain ⟨H, hH⟩ : ∃ H : Int, H = 5242880 + ((k : Int) + 1) := ⟨_, rfl⟩
          obtain ⟨l1, hl1⟩ : ∃ l1, l1 = aput l0 H (X + 1) := ⟨_, rfl⟩
          obtain ⟨l2, hl2⟩ : ∃ l2, l2 = aput l1 H 0 := ⟨_, rfl⟩
          have hh0 : ahas l0 H = true := by rw [hl0]; exact (lst_has _ _ _ _).2 ⟨0, by omega, by simp; omega⟩
          have hh1 : ahas l1 H = true := by rw [hl1, ahas_aput]; simp
          have hg1 : (aget l1 H).getD 0 = X + 1 := by rw [hl1, aget_aput, if_pos rfl]; rfl
          have hh2 : ahas l2 H = true := by rw [hl2, ahas_aput]; simp
          have hg2 : (aget l2 H).getD 0 = 0 := by rw [hl2, aget_aput, if_pos rfl]; rfl
          have hlen : (l1.length : Int) = (n' : Int) + 1 - k := by rw [hl1, length_aput, if_pos hh0, hl0, lst_length]; omega
          have hdel : adel l2 H = Lst 5 (k + 1) c := by rw [hl2, adel_aput, hl1, adel_aput, hl0]; exact lst_less 5 k c H (by omega)
          have hh3 : ahas (adel l2 H) H = false := by rw [ahas_adel]; simp
          have hg3 : (aget (adel l2 H) H).getD 0 = 0 := by rw [aget_adel, if_pos rfl]; rfl
          have hHb : 0 ≤ H ∧ H < 9000000 := by omega
          have hiok : iok H := iok_of (by omega)
          have hX1 : (X + 1 != X + 1) = false := by simp
          rw [← hl0] at hS
          rw [← hH] at hcell
          have hd := hS.d.d
          have Hl1 := hid hl1
          have Hl2 := hid hl2
          have Hh0 := hid hh0
          have Hh1 := hid hh1
          have Hg1 := hid hg1
          have Hh2 := hid hh2
          have Hg2 := hid hg2
          have Hlen := hid hlen
          have Hdel := hid hdel
          have Hh3 := hid hh3
          have Hg3 := hid hg3
          have HH := hid hH
          have Hc := hid hc
          clear hl0 hH hl1 hl2 hh0 hh1 hg1 hh2 hg2 hlen hdel hh3 hg3 hc
          go_wp2_with (first
            | (go_at_call 14; (with_reducible refine (set_hit _ _ _ _ _ _ (X + 1) hiok _ hd Hh0.out).mono ?_); rintro e w1 ⟨rfl, h1, t1⟩; rw [← Hl1.out] at h1)
            | (go_at_call 11; (with_reducible refine (shut_busy _ _ _ _ _ _ hiok _ h1 Hh1.out (by rw [Hg1.out]; omega)).mono ?_); rintro e w' ⟨rfl, rfl⟩)
            | (go_at_call 15; (with_reducible refine (txn_any _ _ _ _ _ _ hiok _ h1).mono ?_); rintro e w' ⟨rfl, rfl⟩; rw [Hg1.out])
            | (go_at_call 12; (with_reducible refine (has_any _ _ _ _ _ _ hiok _ h1).mono ?_); rintro e w' ⟨rfl, rfl⟩; rw [Hh1.out])
            | (go_at_call 13; (with_reducible refine (len_any _ _ _ _ _ _ h1).mono ?_); rintro e w' ⟨rfl, rfl⟩; rw [Hlen.out])
            | (go_at_call 14; (with_reducible refine (set_hit _ _ _ _ _ _ 0 hiok _ h1 Hh1.out).mono ?_); rintro e w2 ⟨rfl, h2, t2⟩; rw [← Hl2.out] at h2)
            | (go_at_call 15; (with_reducible refine (txn_any _ _ _ _ _ _ hiok _ h2).mono ?_); rintro e w' ⟨rfl, rfl⟩; rw [Hg2.out])
            | (go_at_call 11; (with_reducible refine (shut_free _ _ _ _ _ _ hiok _ h2 Hh2.out Hg2.out).mono ?_); rintro e w3 ⟨rfl, h3, t3⟩)
            | (go_at_call 12; (with_reducible refine (has_any _ _ _ _ _ _ hiok _ h3).mono ?_); rintro e w' ⟨rfl, rfl⟩; rw [Hh3.out])
            | (go_at_call 11; (with_reducible refine (shut_miss _ _ _ _ _ _ hiok _ h3 Hh3.out).mono ?_); rintro e w' ⟨rfl, rfl⟩)
            | (go_at_call 14; (with_reducible refine (set_miss _ _ _ _ _ _ 9 hiok _ h3 Hh3.out).mono ?_); rintro e w' ⟨rfl, rfl⟩)
            | (go_at_call 15; (with_reducible refine (txn_any _ _ _ _ _ _ hiok _ h3).mono ?_); rintro e w' ⟨rfl, rfl⟩; rw [Hg3.out]))
          have hT : T1 w w3 s ((n' + 1 : Nat) : Int) (Lst 5 (k + 1) (n' + 1 - (k + 1))) (.slice (some ⟨g, 0, none⟩) (n' + 1) cap) (n' + 1) := by
            have e : n' + 1 - (k + 1) = c := by have := Hc.out; omega
            rw [e, ← Hdel.out]
            exact ⟨((hS.d.turns t1 (fun i h => Or.inr h) h1 rfl).turns t2 (fun i h => Or.inr h) h2 rfl).turns t3 (fun i h => Or.inr h) h3 rfl,
              own_turns (own_turns (own_turns hS.r t1 (fun i h => Or.inr h)) t2 (fun i h => Or.inr h)) t3 (fun i h => Or.inr h), Nat.le_trans (Nat.le_trans (Nat.le_trans hS.z t1.size) t2.size) t3.size⟩
          clear hS hd h1 t1 h2 t2 h3 t3 hcell
          go_roundw
          case rel => exact ⟨k + 1, by omega, by go_num, hT⟩
          case measure => simp [intOf]; omega
        · have hlen : (Lst 5 k (n' + 1 - k)).length = 0 := by rw [lst_length]; omega
          have Hl := hid hlen
          have hd := hS.d.d
          clear hlen
          go_wp2_with (first
            | (go_at_call 13; (with_reducible refine (len_any _ _ _ _ _ _ hd).mono ?_); rintro e w' ⟨rfl, rfl⟩; rw [Hl.out]))
          go_ret
          exact ⟨rfl, hS.d.b⟩

end Go.Proofs.Ytdfflklfphehjaa
