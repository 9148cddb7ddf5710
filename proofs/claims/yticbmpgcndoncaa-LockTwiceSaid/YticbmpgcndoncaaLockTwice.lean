/-
  LockTwice's walk: who asks again for what it has gets it again, and nothing more is held by that.
-/
import Derived.Test.YticbmpgcndoncaaLock13
import Derived.Test.YticbmpgcndoncaaLockReads
namespace Go.Proofs.Yticbmpgcndoncaa
open Go.RowKit Go.Maps

/-- a call's cells: kind, who, table, key -/
structure CallAt (w : World) (b off : Nat) (kd who t : Int) (k : ByteArray) : Prop where
  c0 : w.cell? ⟨b, off, none⟩ = some (.int .i64 kd)
  c1 : w.cell? ⟨b, off + 1, none⟩ = some (.int .i64 who)
  c2 : w.cell? ⟨b, off + 2, none⟩ = some (.int .i64 t)
  c3 : w.cell? ⟨b, off + 3, none⟩ = some (.string k)
theorem CallAt.block {w w' : World} {b off : Nat} {kd who t : Int} {k : ByteArray} (h : CallAt w b off kd who t k) (e : w'.heap[b]? = w.heap[b]?) : CallAt w' b off kd who t k :=
  ⟨(show w'.cell? ⟨b, off, none⟩ = w.cell? ⟨b, off, none⟩ from World.cell?_of_block (w := w) e).trans h.c0, (show w'.cell? ⟨b, off + 1, none⟩ = w.cell? ⟨b, off + 1, none⟩ from World.cell?_of_block (w := w) e).trans h.c1,
   (show w'.cell? ⟨b, off + 2, none⟩ = w.cell? ⟨b, off + 2, none⟩ from World.cell?_of_block (w := w) e).trans h.c2, (show w'.cell? ⟨b, off + 3, none⟩ = w.cell? ⟨b, off + 3, none⟩ from World.cell?_of_block (w := w) e).trans h.c3⟩
theorem CallAt.of_box {w : World} {X : Nat} {kd who t : Int} {k : ByteArray} (h : w.heap[X]? = some (.cells #[.int .i64 kd, .int .i64 who, .int .i64 t, .string k] 33 (0, 0))) : CallAt w X 0 kd who t k :=
  ⟨cell_of_row w X 0 _ _ _ h, cell_of_row w X 1 _ _ _ h, cell_of_row w X 2 _ _ _ h, cell_of_row w X 3 _ _ _ h⟩
theorem kS_not {M : Lk} {who t : Int} {k : ByteArray} {c : Bool} (h : kB M who t k c = false) : kS M who t k c = M := by
  cases c with
  | true => have h' : keyB M who t k = false := h; unfold kS keyS; rw [if_pos rfl, if_neg (by rw [h']; decide)]
  | false => have h' : takeB M who (t, k, false) 1 = false := h; unfold kS takeS; rw [if_neg (by decide), if_neg (by rw [h']; decide)]
theorem boxed (w : World) (kd who t : Int) (k : ByteArray) : (w.alloc (.cells #[.int .i64 kd, .int .i64 who, .int .i64 t, .string k] 33)).heap[w.heap.size]? = some (.cells #[.int .i64 kd, .int .i64 who, .int .i64 t, .string k] 33 (0, 0)) := heap_alloc_new w _

/-- what the law is handed -/
def Handed (w : World) (b off len : Nat) : Prop := ∀ i, i < len → ∃ kd who t k, CallAt w b (off + i * 4) kd who t k ∧ iok kd ∧ iok t ∧ k.size ≤ maxLen

set_option maxRecDepth 100000 in
set_option maxHeartbeats 1600000 in
theorem twice_any (b off len cap : Nat) (w : World) (hb : 0 < len → b < w.heap.size) (hlen : len ≤ 9223372036854775807) (hc : Handed w b off len) :
    Calls Try.prog 4 #[.slice (some ⟨b, off, none⟩) len cap] w fun e w' => e = .returned (.bool true) ∧ Below w.heap.size w w' := by
  by_cases h60 : 60 < len
  · go_enter Try.func4, Try.ntmps4
    go_wp2_with (first
      | (go_at_call 8; refine (fit_any _).mono ?_; rintro e w1 ⟨rfl, b1⟩))
    go_ret
    exact ⟨rfl, b1⟩
  · have HC := hid hc
    clear hc
    go_enter Try.func4, Try.ntmps4
    go_wp2_with (first
      | (go_at_call 8; refine (fit_any _).mono ?_; rintro e w1 ⟨rfl, b1⟩)
      | (go_at_call 9; refine (new_any _).mono ?_; rintro e w2 ⟨rfl, hl, bn, sn⟩; have h0 := LawAt.new b1 hl bn))
    have hS0 : LawAt w w2 w1.heap.size [] := h0
    obtain ⟨s, hs⟩ : ∃ s, s = w1.heap.size := ⟨_, rfl⟩
    rw [← hs] at hS0 ⊢
    clear h0 hl bn sn b1 hs
    go_loopw [17] (fun u wr => ∃ (k : Nat) (M : Lk), k ≤ len ∧ u = .int .i64 k ∧ WF M ∧ LawAt w wr s M) (fun u _ => ((len : Int) - intOf u).toNat)
    case atStart => exact ⟨0, [], by omega, rfl, WF.nil, hS0⟩
    case round =>
      clear hS0
      obtain ⟨i, M, hi, rfl, hW, hS⟩ := hrel
      by_cases hlt : i < len
      · obtain ⟨kd, who, t, k, hcell, hkd, hT, hK⟩ := HC.out i hlt
        have hcr : CallAt wr b (off + i * 4) kd who t k := hcell.block (hS.b.block b (hb (by omega)))
        obtain ⟨a0, a1, a2, a3⟩ := hcr
        clear hcell
        by_cases h100 : 100 < k.size
        · have hd : decide ((100 : Int) < (k.size : Int)) = true := by simp; omega
          go_wp2
          go_ret
          exact ⟨rfl, hS.b.alloc hS.b.size _⟩
        · have hd : decide ((100 : Int) < (k.size : Int)) = false := by simp; omega
          have hm2 := and_mask who 2 (by omega)
          simp only [show ((2 ^ 2 - 1 : Nat) : Int) = 3 from rfl, show (2 : Int) ^ 2 = 4 from rfl] at hm2
          obtain ⟨O, hO⟩ : ∃ O, bits .and .i64 who 3 = O := ⟨_, rfl⟩
          rw [hO] at hm2
          obtain ⟨c, hcc⟩ : ∃ c : Bool, (bits .and .i64 kd 1 == 1) = c := ⟨_, rfl⟩
          have hbox := hS.box (.cells #[.int .i64 kd, .int .i64 who, .int .i64 t, .string k] 33)
          have hbx := boxed wr kd who t k
          have HA := hid hS.l.apartM
          have HW := hid hW
          go_wp2_with fail
          obtain ⟨X, hX⟩ : ∃ X, X = wr.heap.size := ⟨_, rfl⟩
          rw [← hX] at hbox hbx ⊢
          generalize wr.alloc (.cells #[.int .i64 kd, .int .i64 who, .int .i64 t, .string k] 33) = W at hbox hbx ⊢
          have hOk : iok O := iok_of (by omega)
          clear a0 a1 a2 a3 hX hS hW hcc hO
          cases hr : kB M O t k c with
          | false =>
            have E1 := hid (kS_not hr)
            have R1 := hid hr
            clear hr
            go_wp2_with (first
              | (go_at_call 10; (with_reducible refine (law_keyK _ _ _ _ _ O t k c hT hK hOk hbox HW.out R1.out E1.out).mono ?_); rintro e w3 ⟨rfl, h3, x3⟩))
            have hN := h3.law
            clear hbox hbx h3 x3
            go_roundw
            case rel => exact ⟨i + 1, M, by omega, by go_num, HW.out, hN⟩
            case measure => simp [intOf]; omega
          | true =>
            obtain ⟨M1, hM1⟩ : ∃ M1, kS M O t k c = M1 := ⟨_, rfl⟩
            have TW := hid (twice HA.out HW.out hr hM1)
            have HW1 := hid (show WF M1 from hM1 ▸ HW.out.kS O t k c)
            have R1 := hid hr
            have E1 := hid hM1
            obtain ⟨n1, hn1⟩ : ∃ n1 : Int, (M1.length : Int) = n1 := ⟨_, rfl⟩
            have L1 := hid hn1
            clear hr hM1 hn1
            go_wp2_with (first
              | (go_at_call 10; (with_reducible refine (law_keyK _ _ _ _ _ O t k c hT hK hOk hbox HW.out R1.out E1.out).mono ?_); rintro e w3 ⟨rfl, h3, x3⟩; obtain ⟨p0, p1, p2, p3⟩ := CallAt.of_box (x3.trans hbx))
              | (go_at_call 12; (with_reducible refine (law_lenK _ _ _ _ _ h3 L1.out).mono ?_); rintro e w' ⟨rfl, rfl⟩)
              | (go_at_call 10; (with_reducible refine (law_keyK _ _ _ _ _ O t k c hT hK hOk h3 HW1.out TW.out.1 TW.out.2.1).mono ?_); rintro e w4 ⟨rfl, h4, x4⟩; obtain ⟨q0, q1, q2, q3⟩ := CallAt.of_box (x4.trans (x3.trans hbx)))
              | (go_at_call 10; (with_reducible refine (law_keyK _ _ _ _ _ O t k false hT hK hOk h4 HW1.out TW.out.2.2.1 TW.out.2.2.2).mono ?_); rintro e w5 ⟨rfl, h5, x5⟩)
              | (go_at_call 12; (with_reducible refine (law_lenK _ _ _ _ _ h5 L1.out).mono ?_); rintro e w' ⟨rfl, rfl⟩))
            have hN := h5.law
            clear hbox hbx h3 x3 h4 x4 h5 x5 p0 p1 p2 p3 q0 q1 q2 q3
            go_roundw
            case rel => exact ⟨i + 1, M1, by omega, by go_num, HW1.out, hN⟩
            case measure => simp [intOf]; omega
      · go_wp2
        go_ret
        exact ⟨rfl, hS.b⟩

set_option maxRecDepth 100000 in
theorem twice_none (A : Option Addr) (cap : Nat) (w : World) :
    Calls Try.prog 4 #[.slice A 0 cap] w fun e w' => e = .returned (.bool true) ∧ Below w.heap.size w w' := by
  go_enter Try.func4, Try.ntmps4
  go_wp2_with (first
    | (go_at_call 8; refine (fit_any _).mono ?_; rintro e w1 ⟨rfl, b1⟩)
    | (go_at_call 9; refine (new_any _).mono ?_; rintro e w2 ⟨rfl, hl, bn, sn⟩; have h0 := LawAt.new b1 hl bn))
  refine wp_loop_rounds 1 ?_
  rw [rounds_succ]
  go_wp2
  go_ret
  exact ⟨rfl, h0.b⟩

end Go.Proofs.Yticbmpgcndoncaa
