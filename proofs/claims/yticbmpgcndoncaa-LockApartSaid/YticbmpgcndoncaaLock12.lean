/-
  Contracts at the laws' own values; the example; what the laws owe in memory.
-/
import Derived.Test.YticbmpgcndoncaaLock11
namespace Go.Proofs.Yticbmpgcndoncaa
open Go.RowKit Go.Maps

theorem table_all (B b bm : Nat) (M : Lk) (who t : Int) (hn : iok t) (hw : iok who) (w : World) (h : LocksAt w B b bm M) :
    Calls Try.prog 11 #[.pointer (some ⟨b, 0, none⟩), .int .i64 who, .int .i64 t] w fun e w' =>
      e = .returned (.bool (takeB M who (tname t) 1)) ∧ LocksAt w' B b bm (takeS M who (tname t) 1) ∧ Turns (fun i => i = bm ∨ B ≤ i) w w' := table_any B b bm M who t hn hw w h

/-- The locks of a law: in blocks of its own. -/
structure LawAt (w0 w : World) (s : Nat) (M : Lk) : Prop where
  l : LocksAt w (s + 2) (s + 1) s M
  b : Below w0.heap.size w0 w
  s : w0.heap.size ≤ s
theorem LawAt.next {w0 w w' : World} {s : Nat} {M M' : Lk} (h : LawAt w0 w s M) (h' : LocksAt w' (s + 2) (s + 1) s M') (t : Turns (fun i => i = s ∨ s + 2 ≤ i) w w') : LawAt w0 w' s M' := by
  have hs := h.s
  exact ⟨h', h.b.trans (t.below h.b.size (by rintro i hi (e | e) <;> omega)), hs⟩
theorem LawAt.new {w0 w w' : World} (hb : Below w0.heap.size w0 w) (h : LocksAt w' (w.heap.size + 2) (w.heap.size + 1) w.heap.size []) (b : Below w.heap.size w w') : LawAt w0 w' w.heap.size [] :=
  ⟨h, hb.trans (b.mono hb.size), hb.size⟩

/-- One call of a law's locks: its answer and what is held then. -/
theorem law_key (w0 w : World) (s : Nat) (M : Lk) (who t : Int) (k : ByteArray) (c : Bool) (hn : iok t) (hk : k.size ≤ maxLen) (hw : iok who) (h : LawAt w0 w s M) (hW : WF M) {r : Bool} (hr : kB M who t k c = r) {M' : Lk} (hM : kS M who t k c = M') :
    Calls Try.prog 10 #[.pointer (some ⟨s + 1, 0, none⟩), .int .i64 who, .int .i64 t, .string k, .bool c] w fun e w' => e = .returned (.bool r) ∧ LawAt w0 w' s M' := by
  refine (key_all _ _ _ M who t k c hn hk hw w h.l hW).mono ?_
  rintro e w' ⟨rfl, h', t'⟩
  rw [hr]; rw [hM] at h'
  exact ⟨rfl, h.next h' t'⟩
theorem law_table (w0 w : World) (s : Nat) (M : Lk) (who t : Int) (hn : iok t) (hw : iok who) (h : LawAt w0 w s M) {r : Bool} (hr : takeB M who (tname t) 1 = r) {M' : Lk} (hM : takeS M who (tname t) 1 = M') :
    Calls Try.prog 11 #[.pointer (some ⟨s + 1, 0, none⟩), .int .i64 who, .int .i64 t] w fun e w' => e = .returned (.bool r) ∧ LawAt w0 w' s M' := by
  refine (table_all _ _ _ M who t hn hw w h.l).mono ?_
  rintro e w' ⟨rfl, h', t'⟩
  rw [hr]; rw [hM] at h'
  exact ⟨rfl, h.next h' t'⟩
theorem law_drop (w0 w : World) (s : Nat) (M : Lk) (who : Int) (hw : iok who) (h : LawAt w0 w s M) {M' : Lk} (hM : dropM M who = M') :
    Calls Try.prog 13 #[.pointer (some ⟨s + 1, 0, none⟩), .int .i64 who] w fun e w' => e = .returned (.tuple #[]) ∧ LawAt w0 w' s M' := by
  refine (drop_any _ _ _ M who hw w h.l).mono ?_
  rintro e w' ⟨rfl, h', t'⟩
  rw [hM] at h'
  exact ⟨rfl, h.next h' t'⟩
theorem law_len (w0 w : World) (s : Nat) (M : Lk) (h : LawAt w0 w s M) {n : Int} (hn : (M.length : Int) = n) :
    Calls Try.prog 12 #[.pointer (some ⟨s + 1, 0, none⟩)] w fun e w' => e = .returned (.int .i64 n) ∧ w = w' := by
  rw [← hn]; exact len_any _ _ _ M w h.l

set_option maxRecDepth 100000 in
theorem fit_any (w : World) : Calls Try.prog 8 #[] w fun e w' => e = .returned (.bool true) ∧ Below w.heap.size w w' := by
  obtain ⟨ka, hka⟩ : ∃ ka : ByteArray, ka = ⟨#[97]⟩ := ⟨_, rfl⟩
  obtain ⟨kb, hkb⟩ : ∃ kb : ByteArray, kb = ⟨#[98]⟩ := ⟨_, rfl⟩
  have hs1 : ka.size ≤ maxLen := by rw [hka]; decide
  have hs2 : kb.size ≤ maxLen := by rw [hkb]; decide
  have hne : ka ≠ kb := by rw [hka, hkb]; decide
  obtain ⟨M1, hM1⟩ : ∃ M1, M1 = kS [] 1 0 ka true := ⟨_, rfl⟩
  obtain ⟨M2, hM2⟩ : ∃ M2, M2 = kS M1 2 0 kb true := ⟨_, rfl⟩
  have e1 : M1 = [(tname 0, [(1, 2)]), ((0, ka, false), [(1, 3)])] := by rw [hM1]; simp [kS, keyS, keyB, takeB, takeM, heldBy, wants, barred, both, aget, aput, ahas, tname]
  have r1 : kB [] 1 0 ka true = true := by simp [kB, keyB, takeB, takeM, heldBy, wants, barred, both, aget, aput, ahas, tname]
  have r2 : takeB M1 2 (tname 0) 1 = false := by rw [e1]; simp [takeB, heldBy, wants, barred, both, fits, aget, tname]
  have s2 : takeS M1 2 (tname 0) 1 = M1 := by unfold takeS; rw [r2]; rfl
  have r3 : kB M1 2 0 kb true = true := by rw [e1]; simp [kB, keyB, takeB, takeM, heldBy, wants, barred, both, fits, aget, aput, ahas, tname, hne]
  have e2 : M2 = [(tname 0, [(1, 2), (2, 2)]), ((0, ka, false), [(1, 3)]), ((0, kb, false), [(2, 3)])] := by
    rw [hM2]; unfold kS keyS; rw [if_pos rfl, if_pos (show keyB M1 2 0 kb = true from r3), e1]; simp [takeM, heldBy, wants, both, aget, aput, ahas, tname, hne]
  have w1 : WF M1 := by rw [hM1]; exact WF.nil.kS _ _ _ _
  have R1 := hid r1
  have R2 := hid r2
  have T2 := hid s2
  have R3 := hid r3
  have L2 := hid (show (M2.length : Int) = 3 by rw [e2]; rfl)
  have W1 := hid w1
  have H1 := hid hM1
  have H2 := hid hM2
  clear e1 e2 r1 r2 s2 r3 w1 hM1 hM2 hne
  rw [hka] at hs1 R1 H1
  rw [hkb] at hs2 R3 H2
  have Q1 := hid hs1
  have Q2 := hid hs2
  clear hka hkb hs1 hs2
  go_enter Try.func8, Try.ntmps8
  go_wp2_with (first
    | (go_at_call 9; refine (new_any _).mono ?_; rintro e w1 ⟨rfl, h1, b1, s1⟩; have h0 := LawAt.new (Below.refl _ _) h1 b1)
    | (go_at_call 10; (with_reducible refine (law_key _ _ _ _ 1 0 ⟨#[97]⟩ true (iok_of (by omega)) Q1.out (iok_of (by omega)) h0 WF.nil R1.out H1.out.symm).mono ?_); rintro e w2 ⟨rfl, h2⟩)
    | (go_at_call 11; (with_reducible refine (law_table _ _ _ _ 2 0 (iok_of (by omega)) (iok_of (by omega)) h2 R2.out T2.out).mono ?_); rintro e w3 ⟨rfl, h3⟩)
    | (go_at_call 10; (with_reducible refine (law_key _ _ _ _ 2 0 ⟨#[98]⟩ true (iok_of (by omega)) Q2.out (iok_of (by omega)) h3 W1.out R3.out H2.out.symm).mono ?_); rintro e w4 ⟨rfl, h4⟩)
    | (go_at_call 12; (with_reducible refine (law_len _ _ _ _ h4 L2.out).mono ?_); rintro e w5 ⟨rfl, rfl⟩))
  go_ret
  exact ⟨rfl, h4.b⟩

end Go.Proofs.Yticbmpgcndoncaa
