/-
  'Key' in the model's words; 'Drop' walked.
-/
import Derived.Test.YticbmpgcndoncaaLock8
namespace Go.Proofs.Yticbmpgcndoncaa
open Go.RowKit Go.Maps

theorem key_T (B b bm : Nat) (T : Tb) (who t : Int) (k : ByteArray) (hn : iok t) (hk : k.size ≤ maxLen) (hw : iok who) (w : World) (hT : LocksT w B b bm T) (hW : WF (modelOf T)) :
    Calls Try.prog 10 #[.pointer (some ⟨b, 0, none⟩), .int .i64 who, .int .i64 t, .string k, .bool true] w fun e w' =>
      e = .returned (.bool (keyB (modelOf T) who t k)) ∧ ∃ T', LocksT w' B b bm T' ∧ modelOf T' = keyS (modelOf T) who t k ∧ Turns (fun i => i = bm ∨ B ≤ i) w w' ∧ Keeps w w' bm T T' := by
  cases hr1 : takeB (modelOf T) who (tname t) 2 with
  | false =>
    have e1 : keyB (modelOf T) who t k = false := by unfold keyB; rw [hr1]; rfl
    have e2 : keyS (modelOf T) who t k = modelOf T := by unfold keyS; rw [e1]; rfl
    rw [e1, e2]
    refine (key_c1 B b bm T who t k hn hk hw w hT hr1).mono ?_
    rintro e w' ⟨rfl, T', h', e', t', k'⟩
    exact ⟨rfl, T', h', e', t', k'⟩
  | true =>
    cases hr2 : takeB (takeM (modelOf T) who (tname t) 2) who (t, k, false) 3 with
    | true =>
      have e1 : keyB (modelOf T) who t k = true := by unfold keyB; rw [hr1, hr2]; rfl
      have e2 : keyS (modelOf T) who t k = takeM (takeM (modelOf T) who (tname t) 2) who (t, k, false) 3 := by unfold keyS; rw [e1]; rfl
      rw [e1, e2]
      refine (key_c2 B b bm T who t k hn hk hw w hT hr1 hr2).mono ?_
      rintro e w' ⟨rfl, T', h', e', t', k'⟩
      exact ⟨rfl, T', h', e', t', k'⟩
    | false =>
      have e1 : keyB (modelOf T) who t k = false := by unfold keyB; rw [hr1, hr2]; rfl
      have e2 : keyS (modelOf T) who t k = modelOf T := by unfold keyS; rw [e1]; rfl
      rw [e1, e2]
      by_cases h0 : (aget (heldBy (modelOf T) (tname t)) who).getD 0 = 0
      · by_cases he : adel (aput (heldBy (modelOf T) (tname t)) who (wants (modelOf T) who (tname t) 2)) who = []
        · refine (key_c3 B b bm T who t k hn hk hw w hT hr1 hr2 h0 hW he).mono ?_
          rintro e w' ⟨rfl, T', h', e', t', k'⟩
          exact ⟨rfl, T', h', e', t', k'⟩
        · refine (key_c4 B b bm T who t k hn hk hw w hT hr1 hr2 h0 hW he).mono ?_
          rintro e w' ⟨rfl, T', h', e', t', k'⟩
          exact ⟨rfl, T', h', e', t', k'⟩
      · refine (key_c5 B b bm T who t k hn hk hw w hT hr1 hr2 h0 hW).mono ?_
        rintro e w' ⟨rfl, T', h', e', t', k'⟩
        exact ⟨rfl, T', h', e', t', k'⟩

theorem key_any (B b bm : Nat) (M : Lk) (who t : Int) (k : ByteArray) (hn : iok t) (hk : k.size ≤ maxLen) (hw : iok who) (w : World) (h : LocksAt w B b bm M) (hW : WF M) :
    Calls Try.prog 10 #[.pointer (some ⟨b, 0, none⟩), .int .i64 who, .int .i64 t, .string k, .bool true] w fun e w' =>
      e = .returned (.bool (keyB M who t k)) ∧ LocksAt w' B b bm (keyS M who t k) ∧ Turns (fun i => i = bm ∨ B ≤ i) w w' := by
  obtain ⟨T, hT, rfl⟩ := h
  refine (key_T B b bm T who t k hn hk hw w hT hW).mono ?_
  rintro e w' ⟨rfl, T', h', e', t', _⟩
  exact ⟨rfl, ⟨T', h', e'.symm⟩, t'⟩

/-! ### Drop -/
def proc (who : Int) (L : Nm → Bool) (T : Tb) : Tb := (T.map fun p => if L p.1 = true then p else (p.1, (p.2.1, adel p.2.2 who))).filter fun p => L p.1 || !p.2.2.isEmpty

theorem proc_key (who : Int) (L : Nm → Bool) (p : Nm × (Nat × Hold)) : (if L p.1 = true then p else (p.1, (p.2.1, adel p.2.2 who))).1 = p.1 := by split <;> rfl
theorem proc_nil (who : Int) (L : Nm → Bool) : proc who L [] = [] := rfl
theorem proc_cons (who : Int) (L : Nm → Bool) (p : Nm × (Nat × Hold)) (T : Tb) : proc who L (p :: T) = (if L p.1 = true then [p] else if (adel p.2.2 who).isEmpty = true then [] else [(p.1, (p.2.1, adel p.2.2 who))]) ++ proc who L T := by
  unfold proc
  rw [List.map_cons, List.filter_cons]
  by_cases h : L p.1 = true
  · simp [h]
  · have h' : L p.1 = false := by simpa using h
    by_cases h2 : (adel p.2.2 who).isEmpty = true
    · simp [h', h2]
    · simp [h', h2]
theorem proc_all (who : Int) (T : Tb) (L : Nm → Bool) (h : ∀ p ∈ T, L p.1 = true) : proc who L T = T := by
  induction T with
  | nil => rfl
  | cons p T ih => rw [proc_cons, if_pos (h p (by simp)), ih (fun q hq => h q (List.mem_cons_of_mem _ hq))]; rfl
theorem proc_congr (who : Int) (T : Tb) (L L' : Nm → Bool) (h : ∀ p ∈ T, L p.1 = L' p.1) : proc who L T = proc who L' T := by
  induction T with
  | nil => rfl
  | cons p T ih => rw [proc_cons, proc_cons, h p (by simp), ih (fun q hq => h q (List.mem_cons_of_mem _ hq))]
theorem proc_none (who : Int) (T : Tb) : modelOf (proc who (fun _ => false) T) = dropM (modelOf T) who := by
  unfold modelOf dropM proc
  rw [List.map_map, List.filter_map, List.filter_map, List.map_map]
  rfl
theorem proc_has (who : Int) (T : Tb) (L : Nm → Bool) (n : Nm) (h : ahas T n = false) : ahas (proc who L T) n = false := by
  rw [ahas_false] at h ⊢
  intro p hp
  unfold proc at hp
  obtain ⟨q, hq, rfl⟩ := List.mem_map.1 (List.mem_filter.1 hp).1
  rw [proc_key]; exact h q hq
theorem proc_get (who : Int) {T : Tb} (hA : Apart T) (L : Nm → Bool) {n : Nm} {v : Nat × Hold} (hg : aget T n = some v) (hL : L n = true) : aget (proc who L T) n = some v := by
  induction T with
  | nil => cases hg
  | cons p T ih =>
    rw [aget_cons] at hg
    rw [proc_cons, aget_append]
    by_cases e : p.1 = n
    · rw [if_pos e] at hg
      rw [e, if_pos hL, ahas_cons, decide_eq_true e, aget_cons, if_pos e]
      simpa using hg
    · rw [if_neg e] at hg
      have hh : ahas (if L p.1 = true then [p] else if (adel p.2.2 who).isEmpty = true then [] else [(p.1, (p.2.1, adel p.2.2 who))]) n = false := by
        split
        · rw [ahas_cons, decide_eq_false e]; rfl
        · split
          · rfl
          · rw [ahas_cons, decide_eq_false e]; rfl
      rw [hh]
      simp only [Bool.false_eq_true, if_false]
      exact ih (List.pairwise_cons.1 hA).2 hg

/-- One name more is gone through. -/
theorem proc_step (who : Int) {T : Tb} (hA : Apart T) (L : Nm → Bool) {n : Nm} {bi : Nat} {l : Hold} (hg : aget T n = some (bi, l)) (hL : L n = true) :
    (if (adel l who).isEmpty = true then adel (aput (proc who L T) n (bi, adel l who)) n else aput (proc who L T) n (bi, adel l who)) = proc who (fun x => L x && !decide (x = n)) T := by
  have hget := proc_get who hA L hg hL
  have hh : ahas (proc who L T) n = true := by rw [ahas_eq, hget]; rfl
  rw [adel_aput]
  have e1 : aput (proc who L T) n (bi, adel l who) = (proc who L T).map fun p => if p.1 = n then (n, (bi, adel l who)) else p := by
    unfold aput; rw [if_pos hh]
  rw [e1]
  clear hh hget e1
  induction T with
  | nil => cases hg
  | cons p T ih =>
    obtain ⟨hp1, hA'⟩ := List.pairwise_cons.1 hA
    rw [aget_cons] at hg
    by_cases e : p.1 = n
    · rw [if_pos e] at hg
      injection hg with hg
      have hno : ∀ q ∈ T, q.1 ≠ n := fun q hq e2 => hp1 q hq (by rw [e, e2])
      have hrest : proc who (fun x => L x && !decide (x = n)) T = proc who L T := proc_congr who T _ _ fun q hq => by simp [hno q hq]
      have hnoP : ∀ q ∈ proc who L T, q.1 ≠ n := fun q hq => ahas_false.1 (proc_has who T L n (ahas_false.2 hno)) q hq
      have hmap : (proc who L T).map (fun p => if p.1 = n then (n, (bi, adel l who)) else p) = proc who L T := by
        conv => rhs; rw [← List.map_id (proc who L T)]
        refine List.map_congr_left fun q hq => ?_
        rw [if_neg (hnoP q hq)]; rfl
      have hdel : adel (proc who L T) n = proc who L T := adel_none (ahas_false.2 hnoP)
      rw [proc_cons, proc_cons, hrest, e, if_pos hL]
      simp only [hL, decide_true, Bool.not_true, Bool.and_false, Bool.false_eq_true, if_false, hg]
      by_cases he : (adel l who).isEmpty = true
      · rw [if_pos he, if_pos he]
        unfold adel at hdel ⊢
        rw [List.filter_append, hdel]
        simp [e]
      · rw [if_neg he, if_neg he, List.map_append, hmap]
        simp [e]
    · rw [if_neg e] at hg
      have ih' := ih hA' hg
      rw [proc_cons, proc_cons, ← ih']
      have hLp : (L p.1 && !decide (p.1 = n)) = L p.1 := by simp [e]
      rw [hLp]
      have hhead : ∀ q ∈ (if L p.1 = true then [p] else if (adel p.2.2 who).isEmpty = true then [] else [(p.1, (p.2.1, adel p.2.2 who))]), q.1 ≠ n := by
        intro q hq
        split at hq
        · simp at hq; rw [hq]; exact e
        · split at hq
          · cases hq
          · simp at hq; rw [hq]; exact e
      by_cases he : (adel l who).isEmpty = true
      · rw [if_pos he, if_pos he]
        unfold adel
        rw [List.filter_append]
        congr 1
        rw [List.filter_eq_self]
        intro q hq; simp [hhead q hq]
      · rw [if_neg he, if_neg he, List.map_append]
        congr 1
        generalize (if L p.1 = true then [p] else if (adel p.2.2 who).isEmpty = true then [] else [(p.1, (p.2.1, adel p.2.2 who))]) = Z at hhead
        conv => rhs; rw [← List.map_id Z]
        refine List.map_congr_left fun q hq => ?_
        rw [if_neg (hhead q hq)]; rfl

end Go.Proofs.Yticbmpgcndoncaa
