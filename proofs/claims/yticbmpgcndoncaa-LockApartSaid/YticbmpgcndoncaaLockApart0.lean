/-
  LockApart's model: who holds what after the keys so far; calls of a law's locks beside two blocks of the law's own.
-/
import Derived.Test.YticbmpgcndoncaaLock13
namespace Go.Proofs.Yticbmpgcndoncaa
open Go.RowKit Go.Maps

def hmA (A : List (ByteArray × Int)) (t : Int) (n : Nm) (o : Int) : Int :=
  if n = tname t then (if A.any (fun p => decide (p.2 = o)) = true then 2 else 0) else if n.1 = t ∧ n.2.2 = false ∧ aget A n.2.1 = some o then 3 else 0
theorem hmA_t (A : List (ByteArray × Int)) (t o : Int) : hmA A t (tname t) o = if A.any (fun p => decide (p.2 = o)) = true then 2 else 0 := by unfold hmA; rw [if_pos rfl]
theorem hmA_k (A : List (ByteArray × Int)) (t : Int) (k : ByteArray) (o : Int) : hmA A t (t, k, false) o = if aget A k = some o then 3 else 0 := by
  unfold hmA; rw [if_neg (kn_ne t k)]; simp

/-- after the first i keys -/
structure Apt (M : Lk) (A : List (ByteArray × Int)) (t i : Int) : Prop where
  wf : WF M
  a : Apart A
  v : ∀ p ∈ A, 0 ≤ p.2 ∧ p.2 < i
  h : ∀ n o, hm M n o = hmA A t n o
/-- in the second loop -/
structure Apt2 (M : Lk) (A : List (ByteArray × Int)) (t : Int) : Prop where
  wf : WF M
  a : Apart A
  v : ∀ p ∈ A, 0 ≤ p.2 ∧ p.2 < 99
  h : ∀ n o, n.1 = t → hm M n o = hmA A t n o
  u : ∀ n o, n.1 = t + 1 → o ≠ 99 → hm M n o = 0

theorem Apt.nil (t : Int) : Apt [] [] t 0 := ⟨WF.nil, List.Pairwise.nil, (fun _ h => by cases h), fun n o => by
  have h0 : hm [] n o = 0 := rfl
  have h1 : aget ([] : List (ByteArray × Int)) n.2.1 = none := rfl
  unfold hmA; rw [h0, h1]; simp⟩
theorem Apt.two {M : Lk} {A : List (ByteArray × Int)} {t i : Int} (h : Apt M A t i) (hi : i ≤ 99) : Apt2 M A t := by
  refine ⟨h.wf, h.a, fun p hp => ?_, fun n o _ => h.h n o, fun n o hn _ => ?_⟩
  · have := h.v p hp; omega
  · rw [h.h]
    unfold hmA
    rw [if_neg (fun e => by rw [e] at hn; have : (tname t).1 = t := rfl; omega), if_neg (fun e => by omega)]
theorem Apt.free {M : Lk} {A : List (ByteArray × Int)} {t i : Int} (h : Apt M A t i) : hm M (tname t) i = 0 := by
  rw [h.h, hmA_t, if_neg]
  intro e
  obtain ⟨p, hp, hd⟩ := List.any_eq_true.1 e
  have := (h.v p hp).2
  have := of_decide_eq_true hd
  omega
theorem two_or (A : List (ByteArray × Int)) (t o : Int) (h : hmA A t (tname t) o ≠ 0) : hmA A t (tname t) o = 2 := by
  rw [hmA_t] at h ⊢
  split at h
  · rename_i e; rw [if_pos e]
  · exact absurd rfl h
theorem Apt.ask {M : Lk} {A : List (ByteArray × Int)} {t i : Int} (h : Apt M A t i) : takeB M i (tname t) 2 = true := by
  refine (takeB_iff h.wf _ _ _).2 fun o _ hne => ?_
  rw [h.free, both_zero]
  rw [h.h] at hne ⊢
  rw [two_or A t o hne]
  decide
theorem Apt.wf1 {M : Lk} {A : List (ByteArray × Int)} {t i : Int} (h : Apt M A t i) : WF (takeM M i (tname t) 2) := h.wf.takeM _ _ (by decide)
theorem Apt.hm1 {M : Lk} {A : List (ByteArray × Int)} {t i : Int} (h : Apt M A t i) (k : ByteArray) (o : Int) : hm (takeM M i (tname t) 2) (t, k, false) o = if aget A k = some o then 3 else 0 := by
  rw [hm_takeM, if_neg (fun e => kn_ne t k e.1), h.h, hmA_k]

theorem Apt.old {M : Lk} {A : List (ByteArray × Int)} {t i : Int} (h : Apt M A t i) {k : ByteArray} (hk : ahas A k = true) : kB M i t k true = false ∧ kS M i t k true = M ∧ Apt M A t (i + 1) := by
  have e : keyB M i t k = false := by
    obtain ⟨p, hp, e⟩ := ahas_true.1 hk
    obtain ⟨k', o⟩ := p
    simp only at e
    subst e
    have h1 := h.hm1 k' o
    rw [if_pos (aget_mem h.a hp)] at h1
    have ho : o ≠ i := fun e => by have := (h.v _ hp).2; simp only at this; omega
    unfold keyB
    rw [h.ask, takeB_false h.wf1 (o := o) ho (by rw [h1]; decide) (by rw [both_three, fits_three])]; rfl
  refine ⟨e, ?_, ⟨h.wf, h.a, fun p hp => ?_, h.h⟩⟩
  · unfold kS keyS; rw [if_pos rfl, if_neg (by rw [e]; decide)]
  · have := h.v p hp; omega

theorem Apt.new {M : Lk} {A : List (ByteArray × Int)} {t i : Int} (h : Apt M A t i) (hi : 0 ≤ i) {k : ByteArray} (hk : ahas A k = false) : kB M i t k true = true ∧ Apt (kS M i t k true) (aput A k i) t (i + 1) := by
  have hno : ∀ o, ¬ aget A k = some o := fun o hm => by rw [aget_none hk] at hm; cases hm
  have e : keyB M i t k = true := by
    unfold keyB
    rw [h.ask, (takeB_iff h.wf1 _ _ _).2 (fun o _ hne => by rw [h.hm1, if_neg (hno o)] at hne; exact absurd rfl hne)]; rfl
  refine ⟨e, ?_⟩
  have eS : kS M i t k true = takeM (takeM M i (tname t) 2) i (t, k, false) 3 := by unfold kS keyS; rw [if_pos rfl, if_pos e]
  rw [eS]
  refine ⟨h.wf1.takeM _ _ (by decide), h.a.aput k i, fun p hp => ?_, fun n o => ?_⟩
  · rw [aput_new i hk] at hp
    rcases List.mem_append.1 hp with hp | hp
    · have := h.v p hp; omega
    · simp at hp; rw [hp]; simp only; omega
  · rw [hm_takeM, h.hm1, if_neg (hno i), both_zero, hm_takeM, h.free, both_zero, h.h]
    by_cases hn : n = tname t
    · rw [if_neg (fun e => kn_ne t k (by rw [← e.1, hn])), hn, hmA_t, hmA_t]
      by_cases ho : o = i
      · rw [if_pos ⟨rfl, ho⟩, aput_new i hk, if_pos (by simp [ho])]
      · rw [if_neg (fun e => ho e.2), aput_new i hk]
        have : (A ++ [(k, i)]).any (fun p => decide (p.2 = o)) = A.any (fun p => decide (p.2 = o)) := by simp [List.any_append, Ne.symm ho]
        rw [this]
    · rw [if_neg (fun e : n = tname t ∧ o = i => hn e.1)]
      unfold hmA
      rw [if_neg hn, if_neg hn]
      obtain ⟨n1, n2, n3⟩ := n
      simp only [Prod.mk.injEq, aget_aput]
      by_cases hk2 : n2 = k
      · subst hk2
        have h0 : ¬ (n1 = t ∧ n3 = false ∧ aget A n2 = some o) := fun e => hno o e.2.2
        rw [if_pos rfl, if_neg h0]
        by_cases h1 : (n1 = t ∧ n2 = n2 ∧ n3 = false) ∧ o = i
        · rw [if_pos h1, if_pos ⟨h1.1.1, h1.1.2.2, by rw [h1.2]⟩]
        · rw [if_neg h1, if_neg (fun e => h1 ⟨⟨e.1, rfl, e.2.1⟩, by injection e.2.2 with e; exact e.symm⟩)]
      · rw [if_neg (fun e => hk2 e.1.2.1), if_neg hk2]

theorem Apt2.own {M : Lk} {A : List (ByteArray × Int)} {t : Int} (hA : Apart M) (h : Apt2 M A t) {k : ByteArray} {o : Int} (hp : (k, o) ∈ A) :
    kB M o t k true = true ∧ kS M o t k true = M ∧ kB M o t k false = true ∧ kS M o t k false = M := by
  have h2 : hm M (tname t) o = 2 := by
    rw [h.h _ _ rfl, hmA_t, if_pos (List.any_eq_true.2 ⟨_, hp, by simp⟩)]
  have h3 : hm M (t, k, false) o = 3 := by rw [h.h _ _ rfl, hmA_k, if_pos (aget_mem h.a hp)]
  have hz : ∀ o', o' ≠ o → hm M (t, k, false) o' = 0 := by
    intro o' ho
    rw [h.h _ _ rfl, hmA_k, if_neg]
    intro e2
    have e1 := aget_mem h.a hp
    simp only at e1
    rw [e1] at e2
    injection e2 with e2
    exact ho e2.symm
  have b1 : takeB M o (tname t) 2 = true := by
    refine (takeB_iff h.wf _ _ _).2 fun o' _ hne => ?_
    rw [h2, both_same]
    rw [h.h _ _ rfl] at hne ⊢
    rw [two_or A t o' hne]
    decide
  have m1 : takeM M o (tname t) 2 = M := take_again hA h.wf (by rw [h2, both_same]) (by rw [h2]; decide)
  have b2 : ∀ m, takeB M o (t, k, false) m = true := fun m => (takeB_iff h.wf _ _ _).2 fun o' ho hne => absurd (hz o' ho) hne
  have m2 : ∀ m, both 3 m = 3 → takeM M o (t, k, false) m = M := fun m hm => take_again hA h.wf (by rw [h3, hm]) (by rw [h3]; decide)
  have e : keyB M o t k = true := by unfold keyB; rw [b1, m1, b2]; rfl
  refine ⟨e, ?_, b2 1, ?_⟩
  · unfold kS keyS; rw [if_pos rfl, if_pos e, m1, m2 3 (by decide)]
  · unfold kS takeS; rw [if_neg (by decide), if_pos (b2 1), m2 1 (by decide)]

theorem Apt2.other {M : Lk} {A : List (ByteArray × Int)} {t : Int} (h : Apt2 M A t) (k : ByteArray) : kB M 99 (t + 1) k true = true ∧ Apt2 (kS M 99 (t + 1) k true) A t := by
  have hw1 : WF (takeM M 99 (tname (t + 1)) 2) := h.wf.takeM _ _ (by decide)
  have e : keyB M 99 (t + 1) k = true := by
    unfold keyB
    rw [(takeB_iff h.wf _ _ _).2 (fun o ho hne => absurd (h.u _ _ rfl ho) hne), (takeB_iff hw1 _ _ _).2 (fun o ho hne => ?_)]
    · rfl
    · rw [hm_takeM, if_neg (fun e => ho e.2), h.u _ _ rfl ho] at hne
      exact absurd rfl hne
  have eS : kS M 99 (t + 1) k true = takeM (takeM M 99 (tname (t + 1)) 2) 99 (t + 1, k, false) 3 := by unfold kS keyS; rw [if_pos rfl, if_pos e]
  refine ⟨e, ?_⟩
  rw [eS]
  refine ⟨hw1.takeM _ _ (by decide), h.a, h.v, fun n o hn => ?_, fun n o hn ho => ?_⟩
  · rw [hm_takeM, if_neg (fun e => by have := congrArg Prod.fst e.1; simp only at this; omega), hm_takeM, if_neg (fun e => by have := congrArg Prod.fst e.1; unfold tname at this; simp only at this; omega), h.h n o hn]
  · rw [hm_takeM, if_neg (fun e => ho e.2), hm_takeM, if_neg (fun e => ho e.2), h.u n o hn ho]

theorem Apt2.last {M : Lk} {A : List (ByteArray × Int)} {t : Int} (h : Apt2 M A t) (hne : A ≠ []) : takeB M 99 (tname t) 1 = false ∧ takeS M 99 (tname t) 1 = M ∧ takeB M 99 (tname (t + 1)) 1 = true := by
  have e : takeB M 99 (tname t) 1 = false := by
    cases hA : A with
    | nil => exact absurd hA hne
    | cons p r =>
      have hp : p ∈ A := by rw [hA]; simp
      have hv := (h.v p hp).2
      have h2 : hm M (tname t) p.2 = 2 := by rw [h.h _ _ rfl, hmA_t, if_pos (List.any_eq_true.2 ⟨_, hp, by simp⟩)]
      have h0 : hm M (tname t) 99 = 0 := by
        rw [h.h _ _ rfl, hmA_t, if_neg]
        intro e
        obtain ⟨q, hq, hd⟩ := List.any_eq_true.1 e
        have := (h.v q hq).2
        have := of_decide_eq_true hd
        omega
      exact takeB_false h.wf (o := p.2) (by omega) (by rw [h2]; decide) (by rw [h0, both_zero, h2]; decide)
  refine ⟨e, ?_, (takeB_iff h.wf _ _ _).2 fun o ho hne => absurd (h.u _ _ rfl ho) hne⟩
  unfold takeS; rw [if_neg (by rw [e]; decide)]

/-! ### two blocks kept -/
structure LawK2 (w0 w : World) (s : Nat) (M : Lk) (X Y : Nat) : Prop where
  l : ∃ T, LocksT w (s + 2) (s + 1) s T ∧ modelOf T = M ∧ Off T X ∧ Off T Y
  b : Below w0.heap.size w0 w
  sl : w0.heap.size ≤ s
  x : s + 2 ≤ X ∧ X < w.heap.size
  y : s + 2 ≤ Y ∧ Y < w.heap.size
theorem LawK2.law {w0 w : World} {s : Nat} {M : Lk} {X Y : Nat} (h : LawK2 w0 w s M X Y) : LawAt w0 w s M := by
  obtain ⟨T, hT, e, _⟩ := h.l; exact ⟨⟨T, hT, e.symm⟩, h.b, h.sl⟩
theorem LawK.two {w0 w : World} {s : Nat} {M : Lk} {X : Nat} (h : LawK w0 w s M X) (hX : s + 2 ≤ X) : LawK2 w0 w s M X X := by
  obtain ⟨T, hT, e, ho⟩ := h.l; exact ⟨⟨T, hT, e, ho, ho⟩, h.b, h.sl, ⟨hX, h.x.2⟩, ⟨hX, h.x.2⟩⟩
theorem LawK2.turns {w0 w w' : World} {s : Nat} {M : Lk} {X Y : Nat} {S : Nat → Prop} (h : LawK2 w0 w s M X Y) (t : Turns S w w') (hS : ∀ i, S i → i = X ∨ i = Y) : LawK2 w0 w' s M X Y := by
  obtain ⟨T, hT, e, ox, oy⟩ := h.l
  have hx := h.x
  have hy := h.y
  have hs := h.sl
  have n1 : ¬ S (s + 1) := fun c => by rcases hS _ c with e | e <;> omega
  have n0 : ¬ S s := fun c => by rcases hS _ c with e | e <;> omega
  refine ⟨⟨T, ⟨(t.block _ (Array.getElem?_eq_some_iff.1 hT.blk).1 n1).trans hT.blk, hT.outer.turns t n0, fun p hp => (hT.inner p hp).turns t (fun c => ?_), hT.base, hT.apart, hT.low, hT.blow, Nat.le_trans hT.size t.size⟩, e, ox, oy⟩,
    h.b.trans (t.below h.b.size (fun i hi c => by rcases hS _ c with e | e <;> omega)), hs, ⟨hx.1, Nat.lt_of_lt_of_le hx.2 t.size⟩, ⟨hy.1, Nat.lt_of_lt_of_le hy.2 t.size⟩⟩
  rcases hS _ c with e | e
  · exact ox p hp e
  · exact oy p hp e
theorem LawK2.fresh {w0 w w' : World} {s : Nat} {M : Lk} {X Y : Nat} (h : LawK2 w0 w s M X Y) (t : Turns (fun _ => False) w w') (hsz : w'.heap.size = w.heap.size + 1) : LawK2 w0 w' s M X w.heap.size := by
  have h1 := h.turns t (fun _ h => h.elim)
  obtain ⟨T, hT, e, ox, _⟩ := h.l
  obtain ⟨T1, hT1, e1, ox1, _⟩ := h1.l
  have hx := h.x
  have n1 : (fun _ : Nat => False) (s + 1) → False := fun h => h
  refine ⟨⟨T, ⟨(t.block _ (Array.getElem?_eq_some_iff.1 hT.blk).1 (fun h => h)).trans hT.blk, hT.outer.turns t (fun h => h), fun p hp => (hT.inner p hp).turns t (fun h => h), hT.base, hT.apart, hT.low, hT.blow, Nat.le_trans hT.size t.size⟩, e, ox, fun p hp => ?_⟩, h1.b, h1.sl, h1.x, ⟨by omega, by omega⟩⟩
  have := (hT.inner p hp).lt; omega

theorem law_key2 (w0 w : World) (s X Y : Nat) (M : Lk) (who t : Int) (k : ByteArray) (c : Bool) (hn : iok t) (hk : k.size ≤ maxLen) (hw : iok who) (h : LawK2 w0 w s M X Y) (hW : WF M) {r : Bool} (hr : kB M who t k c = r) {M' : Lk} (hM : kS M who t k c = M') :
    Calls Try.prog 10 #[.pointer (some ⟨s + 1, 0, none⟩), .int .i64 who, .int .i64 t, .string k, .bool c] w fun e w' => e = .returned (.bool r) ∧ LawK2 w0 w' s M' X Y ∧ w'.heap[X]? = w.heap[X]? ∧ w'.heap[Y]? = w.heap[Y]? := by
  obtain ⟨T, hT, rfl, ox, oy⟩ := h.l
  have fin : ∀ (e : Ending) (w' : World), (e = .returned (.bool (kB (modelOf T) who t k c)) ∧ ∃ T', LocksT w' (s + 2) (s + 1) s T' ∧ modelOf T' = kS (modelOf T) who t k c ∧ Turns (fun i => i = s ∨ s + 2 ≤ i) w w' ∧ Keeps w w' s T T') →
      e = .returned (.bool r) ∧ LawK2 w0 w' s M' X Y ∧ w'.heap[X]? = w.heap[X]? ∧ w'.heap[Y]? = w.heap[Y]? := by
    rintro e w' ⟨rfl, T', h', e', t', k'⟩
    have hx := h.x
    have hy := h.y
    obtain ⟨k1, k2⟩ := k' X hx.2 (by omega) ox
    obtain ⟨k3, k4⟩ := k' Y hy.2 (by omega) oy
    have hs := h.sl
    rw [hr]; rw [hM] at e'
    exact ⟨rfl, ⟨⟨T', h', e', k2, k4⟩, h.b.trans (t'.below h.b.size (by rintro i hi (e | e) <;> omega)), h.sl, ⟨hx.1, Nat.lt_of_lt_of_le hx.2 t'.size⟩, ⟨hy.1, Nat.lt_of_lt_of_le hy.2 t'.size⟩⟩, k1, k3⟩
  cases c with
  | true => exact (key_T _ _ _ T who t k hn hk hw w hT hW).mono fin
  | false => exact (read_T _ _ _ T who t k hn hk hw w hT).mono fin

end Go.Proofs.Yticbmpgcndoncaa
