/-
  What plans of lists are, purely.
-/
import Derived.Test.YtcolblmhopjgpaaRst10
namespace Go.Proofs.Ytcolblmhopjgpaa
open Go.RowKit

theorem step_s (p : Pln) (e : Ent) (k : Nat) : (p.step e).s k = if e.kd = 7 then p.s k else if k = slotOf e.tx then (p.s k).step e else p.s k := by
  unfold Pln.step; split <;> rfl
theorem step_fr (p : Pln) (e : Ent) : (p.step e).fr = if e.kd = 7 then leastOf e.pl e.dl else p.fr := by
  unfold Pln.step; split <;> rfl

theorem none_fold : ∀ (es : List Ent) (p : Pln), (∀ e ∈ es, e.kd ≠ 7 ∧ (e.kd = 1 ∨ slotOf e.tx = 0)) → (p.fr = 0 ∧ ∀ k, k ≠ 0 → p.s k = ⟨[], false⟩) → (es.foldl Pln.step p).fr = 0 ∧ ∀ k, k ≠ 0 → (es.foldl Pln.step p).s k = ⟨[], false⟩
  | [], _, _, hp => hp
  | e :: es, p, h, hp => by
    refine none_fold es (p.step e) (fun x hx => h x (List.mem_cons_of_mem _ hx)) ?_
    obtain ⟨h7, h1⟩ := h e List.mem_cons_self
    refine ⟨by rw [step_fr, if_neg h7]; exact hp.1, fun k hk => ?_⟩
    rw [step_s, if_neg h7, hp.2 k hk]
    rcases h1 with h1 | h1
    · split
      · exact One.step_none (by omega) (by omega) (by omega)
      · rfl
    · rw [if_neg (by omega)]
theorem none_anal (es : List Ent) (h : ∀ e ∈ es, e.kd ≠ 7 ∧ (e.kd = 1 ∨ slotOf e.tx = 0)) : (anal es).fr = 0 ∧ ∀ k, (anal es).s k = ⟨[], false⟩ := by
  obtain ⟨h1, h2⟩ := none_fold es pln0 h ⟨rfl, fun _ _ => rfl⟩
  refine ⟨h1, fun k => ?_⟩
  show (if k = 0 then _ else (planOf es).s k) = _
  split
  · rfl
  · exact h2 k (by assumption)

theorem slot_iff (t : Int) (k : Nat) (h1 : 1 ≤ k) (h4 : k < 4) : k = slotOf t ↔ t = k := by
  unfold slotOf
  split <;> omega
theorem parts_fold (k : Nat) (h1 : 1 ≤ k) (h4 : k < 4) : ∀ (es : List Ent) (p q : Pln), p.s k = q.s k → (es.foldl Pln.step p).s k = ((es.filter fun e => decide (e.tx = (k : Int))).foldl Pln.step q).s k
  | [], _, _, h => h
  | e :: es, p, q, h => by
    by_cases ht : e.tx = (k : Int)
    · rw [List.filter_cons_of_pos (by simpa using ht)]
      exact parts_fold k h1 h4 es _ _ (by rw [step_s, step_s, h])
    · rw [List.filter_cons_of_neg (by simpa using ht)]
      refine parts_fold k h1 h4 es _ _ ?_
      rw [step_s, ← h]
      split
      · rfl
      · rw [if_neg (fun hk => ht ((slot_iff e.tx k h1 h4).1 hk))]
theorem parts_anal (k : Nat) (h1 : 1 ≤ k) (h4 : k < 4) (es : List Ent) : (anal es).s k = (anal (es.filter fun e => decide (e.tx = (k : Int)))).s k := by
  show (if k = 0 then _ else (planOf es).s k) = (if k = 0 then _ else (planOf _).s k)
  rw [if_neg (by omega), if_neg (by omega)]
  exact parts_fold k h1 h4 es pln0 pln0 rfl
theorem other_fold (k j : Nat) (h1 : 1 ≤ k) (h4 : k < 4) (hj : j ≠ k) : ∀ (es : List Ent) (p : Pln), (∀ e ∈ es, e.tx = (k : Int)) → p.s j = ⟨[], false⟩ → (es.foldl Pln.step p).s j = ⟨[], false⟩
  | [], _, _, h => h
  | e :: es, p, he, h => by
    refine other_fold k j h1 h4 hj es _ (fun x hx => he x (List.mem_cons_of_mem _ hx)) ?_
    have ht := (slot_iff e.tx k h1 h4).2 (he e List.mem_cons_self)
    rw [step_s, h, ← ht, if_neg hj]
    split <;> rfl
theorem other_anal (k j : Nat) (h1 : 1 ≤ k) (h4 : k < 4) (hj : j ≠ k) (es : List Ent) : (anal (es.filter fun e => decide (e.tx = (k : Int)))).s j = ⟨[], false⟩ := by
  show (if j = 0 then _ else (planOf _).s j) = _
  split
  · rfl
  · exact other_fold k j h1 h4 hj _ pln0 (fun e he => by simpa using (List.mem_filter.1 he).2) rfl

theorem marks_fold : ∀ (es : List Ent) (p : Pln), (∀ e ∈ es, e.kd ≠ 7) → (es.foldl Pln.step p).fr = p.fr
  | [], _, _ => rfl
  | e :: es, p, h => by
    rw [List.foldl_cons, marks_fold es _ fun x hx => h x (List.mem_cons_of_mem _ hx), step_fr, if_neg (h e List.mem_cons_self)]
theorem marks_none (es : List Ent) (h : ∀ e ∈ es, e.kd ≠ 7) : (anal es).fr = 0 := marks_fold es pln0 h
theorem marks_last (es : List Ent) (e : Ent) (h : e.kd = 7) : (anal (es ++ [e])).fr = leastOf e.pl e.dl := by
  show (planOf _).fr = _
  rw [planOf_snoc, step_fr, if_pos h]

end Go.Proofs.Ytcolblmhopjgpaa
