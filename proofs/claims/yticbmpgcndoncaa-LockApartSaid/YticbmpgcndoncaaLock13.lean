/-
  Calls of a law's locks beside a block of the law's own; what is asked twice is granted twice.
-/
import Derived.Test.YticbmpgcndoncaaLock12
namespace Go.Proofs.Yticbmpgcndoncaa
open Go.RowKit Go.Maps

structure LawK (w0 w : World) (s : Nat) (M : Lk) (X : Nat) : Prop where
  l : ∃ T, LocksT w (s + 2) (s + 1) s T ∧ modelOf T = M ∧ Off T X
  b : Below w0.heap.size w0 w
  sl : w0.heap.size ≤ s
  x : X ≠ s ∧ X < w.heap.size
theorem LawK.law {w0 w : World} {s : Nat} {M : Lk} {X : Nat} (h : LawK w0 w s M X) : LawAt w0 w s M := by
  obtain ⟨T, hT, e, _⟩ := h.l; exact ⟨⟨T, hT, e.symm⟩, h.b, h.sl⟩
theorem LawAt.box {w0 w : World} {s : Nat} {M : Lk} (h : LawAt w0 w s M) (o : Obj) : LawK w0 (w.alloc o) s M w.heap.size := by
  obtain ⟨T, hT, e⟩ := h.l
  refine ⟨⟨T, hT.below ((Below.refl _ _).alloc (Nat.le_refl _) o), e.symm, fun p hp => ?_⟩, h.b.alloc h.b.size o, h.s, ?_, by simp⟩
  · have := (hT.inner p hp).lt; omega
  · have := hT.outer.lt; omega
theorem LawAt.drewN {w0 w : World} {s : Nat} {M : Lk} (h : LawAt w0 w s M) (n : Nat) : LawAt w0 (w.drewN n) s M := by
  obtain ⟨T, hT, e⟩ := h.l
  exact ⟨⟨T, hT.below ⟨rfl, rfl, rfl, Nat.le_refl _, fun _ _ => rfl⟩, e⟩, h.b.trans ⟨rfl, rfl, rfl, Nat.le_refl _, fun _ _ => rfl⟩, h.s⟩

theorem law_keyK (w0 w : World) (s X : Nat) (M : Lk) (who t : Int) (k : ByteArray) (c : Bool) (hn : iok t) (hk : k.size ≤ maxLen) (hw : iok who) (h : LawK w0 w s M X) (hW : WF M) {r : Bool} (hr : kB M who t k c = r) {M' : Lk} (hM : kS M who t k c = M') :
    Calls Try.prog 10 #[.pointer (some ⟨s + 1, 0, none⟩), .int .i64 who, .int .i64 t, .string k, .bool c] w fun e w' => e = .returned (.bool r) ∧ LawK w0 w' s M' X ∧ w'.heap[X]? = w.heap[X]? := by
  obtain ⟨T, hT, rfl, ho⟩ := h.l
  have fin : ∀ (e : Ending) (w' : World), (e = .returned (.bool (kB (modelOf T) who t k c)) ∧ ∃ T', LocksT w' (s + 2) (s + 1) s T' ∧ modelOf T' = kS (modelOf T) who t k c ∧ Turns (fun i => i = s ∨ s + 2 ≤ i) w w' ∧ Keeps w w' s T T') →
      e = .returned (.bool r) ∧ LawK w0 w' s M' X ∧ w'.heap[X]? = w.heap[X]? := by
    rintro e w' ⟨rfl, T', h', e', t', k'⟩
    obtain ⟨k1, k2⟩ := k' X h.x.2 h.x.1 ho
    have hs := h.sl
    rw [hr]; rw [hM] at e'
    exact ⟨rfl, ⟨⟨T', h', e', k2⟩, h.b.trans (t'.below h.b.size (by rintro i hi (e | e) <;> omega)), h.sl, h.x.1, Nat.lt_of_lt_of_le h.x.2 t'.size⟩, k1⟩
  cases c with
  | true => exact (key_T _ _ _ T who t k hn hk hw w hT hW).mono fin
  | false => exact (read_T _ _ _ T who t k hn hk hw w hT).mono fin

theorem law_lenK (w0 w : World) (s X : Nat) (M : Lk) (h : LawK w0 w s M X) {n : Int} (hn : (M.length : Int) = n) :
    Calls Try.prog 12 #[.pointer (some ⟨s + 1, 0, none⟩)] w fun e w' => e = .returned (.int .i64 n) ∧ w = w' := law_len w0 w s M h.law hn

theorem kn_ne (t : Int) (k : ByteArray) : ¬ (t, k, false) = tname t := by unfold tname; simp

theorem twice_read {M : Lk} (hA : Apart M) (hW : WF M) {who t : Int} {k : ByteArray} (hb : takeB M who (t, k, false) 1 = true) :
    takeB (takeM M who (t, k, false) 1) who (t, k, false) 1 = true ∧ takeM (takeM M who (t, k, false) 1) who (t, k, false) 1 = takeM M who (t, k, false) 1 := by
  have hW1 := hW.takeM who (t, k, false) (mode := 1) (by decide)
  have h1 : hm (takeM M who (t, k, false) 1) (t, k, false) who = both (hm M (t, k, false) who) 1 := by rw [hm_takeM, if_pos ⟨rfl, rfl⟩]
  refine ⟨(takeB_iff hW1 _ _ _).2 fun o ho hne => ?_, take_again (apart_takeM hA _ _ _) hW1 (by rw [h1, both_again _ _ (by decide)]) (by rw [h1]; exact both_ne (by decide))⟩
  have h2 : hm (takeM M who (t, k, false) 1) (t, k, false) o = hm M (t, k, false) o := by rw [hm_takeM, if_neg (fun e => ho e.2)]
  rw [h1, both_again _ _ (by decide), h2]
  exact (takeB_iff hW _ _ _).1 hb o ho (by rw [← h2]; exact hne)

theorem twice_change {M : Lk} (hA : Apart M) (hW : WF M) {who t : Int} {k : ByteArray} (hb : keyB M who t k = true) :
    let M1 := takeM (takeM M who (tname t) 2) who (t, k, false) 3
    keyB M1 who t k = true ∧ takeM (takeM M1 who (tname t) 2) who (t, k, false) 3 = M1 ∧ takeB M1 who (t, k, false) 1 = true ∧ takeM M1 who (t, k, false) 1 = M1 := by
  intro M1
  unfold keyB at hb
  obtain ⟨hb1, hb2⟩ := (Bool.and_eq_true _ _).mp hb
  have hW' := hW.takeM who (tname t) (mode := 2) (by decide)
  have hW1 : WF M1 := hW'.takeM who (t, k, false) (mode := 3) (by decide)
  have hA1 : Apart M1 := apart_takeM (apart_takeM hA _ _ _) _ _ _
  have ht : ∀ o, hm M1 (tname t) o = if o = who then both (hm M (tname t) who) 2 else hm M (tname t) o := by
    intro o
    show hm (takeM (takeM M who (tname t) 2) who (t, k, false) 3) (tname t) o = _
    rw [hm_takeM, if_neg (fun e => kn_ne t k e.1.symm), hm_takeM]
    by_cases e : o = who
    · rw [if_pos e, if_pos ⟨rfl, e⟩]
    · rw [if_neg e, if_neg (fun h => e h.2)]
  have hkw : hm M1 (t, k, false) who = 3 := by
    show hm (takeM (takeM M who (tname t) 2) who (t, k, false) 3) (t, k, false) who = _
    rw [hm_takeM, if_pos ⟨rfl, rfl⟩, both_three]
  have hko : ∀ o, o ≠ who → hm M1 (t, k, false) o = 0 := by
    intro o ho
    show hm (takeM (takeM M who (tname t) 2) who (t, k, false) 3) (t, k, false) o = _
    rw [hm_takeM, if_neg (fun e => ho e.2)]
    by_cases hz : hm (takeM M who (tname t) 2) (t, k, false) o = 0
    · exact hz
    · have := (takeB_iff hW' _ _ _).1 hb2 o ho hz
      rw [both_three, fits_three] at this; cases this
  have hT : takeB M1 who (tname t) 2 = true := by
    refine (takeB_iff hW1 _ _ _).2 fun o ho hne => ?_
    have h1 := ht who
    rw [if_pos rfl] at h1
    have h2 := ht o
    rw [if_neg ho] at h2
    rw [h1, both_again _ _ (by decide), h2]
    exact (takeB_iff hW _ _ _).1 hb1 o ho (by rw [← h2]; exact hne)
  have hTs : takeM M1 who (tname t) 2 = M1 := by
    have h1 := ht who
    rw [if_pos rfl] at h1
    exact take_again hA1 hW1 (by rw [h1, both_again _ _ (by decide)]) (by rw [h1]; exact both_ne (by decide))
  have hK : ∀ m : Int, both 3 m = 3 → takeB M1 who (t, k, false) m = true ∧ takeM M1 who (t, k, false) m = M1 := by
    intro m hm3
    refine ⟨(takeB_iff hW1 _ _ _).2 fun o ho hne => absurd (hko o ho) hne, take_again hA1 hW1 (by rw [hkw, hm3]) (by rw [hkw]; decide)⟩
  have h3 := hK 3 (by decide)
  have h4 := hK 1 (by decide)
  refine ⟨?_, by rw [hTs]; exact h3.2, h4.1, h4.2⟩
  unfold keyB
  rw [hT, hTs, h3.1]; rfl

theorem twice {M : Lk} (hA : Apart M) (hW : WF M) {who t : Int} {k : ByteArray} {c : Bool} (hb : kB M who t k c = true) {M1 : Lk} (e : kS M who t k c = M1) :
    kB M1 who t k c = true ∧ kS M1 who t k c = M1 ∧ kB M1 who t k false = true ∧ kS M1 who t k false = M1 := by
  subst e
  cases c with
  | true =>
    have hb' : keyB M who t k = true := hb
    have e1 : kS M who t k true = takeM (takeM M who (tname t) 2) who (t, k, false) 3 := by unfold kS keyS; rw [if_pos rfl, if_pos hb']
    rw [e1]
    obtain ⟨h1, h2, h3, h4⟩ := twice_change hA hW hb'
    refine ⟨h1, ?_, h3, ?_⟩
    · unfold kS keyS; rw [if_pos rfl, if_pos h1]; exact h2
    · unfold kS takeS; rw [if_neg (by decide), if_pos h3]; exact h4
  | false =>
    have hb' : takeB M who (t, k, false) 1 = true := hb
    have e1 : kS M who t k false = takeM M who (t, k, false) 1 := by unfold kS takeS; rw [if_neg (by decide), if_pos hb']
    rw [e1]
    obtain ⟨h1, h2⟩ := twice_read hA hW hb'
    have e2 : kS (takeM M who (t, k, false) 1) who t k false = takeM M who (t, k, false) 1 := by unfold kS takeS; rw [if_neg (by decide), if_pos h1]; exact h2
    exact ⟨h1, e2, h1, e2⟩

end Go.Proofs.Yticbmpgcndoncaa
