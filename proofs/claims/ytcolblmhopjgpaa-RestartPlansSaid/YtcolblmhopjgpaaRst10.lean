/-
  Lists of entries that a law makes.
-/
import Derived.Test.YtcolblmhopjgpaaRst9
namespace Go.Proofs.Ytcolblmhopjgpaa
open Go.RowKit

structure EntsAt (B : Nat) (w : World) (v : Value) (n : Nat) (es : List Ent) : Prop where
  len : es.length = n
  own : w.ownsRow B 40 9 v n (rowOf es)
  dirt : ∀ e ∈ es, DirtyAt w e
theorem EntsAt.nil (B : Nat) (w : World) : EntsAt B w (.slice none 0 0) 0 [] := ⟨rfl, World.ownsRow_nil _ _ _ _, fun e he => by cases he⟩
theorem EntsAt.below {B n : Nat} {w w' : World} {v : Value} {es : List Ent} (h : EntsAt B w v n es) (b : Below w.heap.size w w') : EntsAt B w' v n es :=
  ⟨h.len, own_below h.own b, fun e he => (h.dirt e he).below b⟩
theorem EntsAt.slice {B n : Nat} {w : World} {v : Value} {es : List Ent} (h : EntsAt B w v n es) : ∃ A c, v = .slice A n c := own_slice h.own
theorem EntsAt.rows {B n c : Nat} {w : World} {A : Option Addr} {es : List Ent} (h : EntsAt B w (.slice A n c) n es) : RowsAt w A es := RowsAt.of_own h.own h.len h.dirt
theorem EntsAt.push {B n : Nat} {w w' : World} {v v' : Value} {es : List Ent} (h : EntsAt B w v n es) (hg : w.grownBy w' v.ownBlock) {e : Ent} {xs : List Value} (hown : w'.ownsRow B 40 9 v' (n + 1) xs) (hxs : xs = rowOf es ++ e.cells) (hd : DirtyAt w e) : EntsAt B w' v' (n + 1) (es ++ [e]) := by
  subst hxs
  refine ⟨by simp [h.len], ?_, fun e' he' => ?_⟩
  · have : rowOf (es ++ [e]) = rowOf es ++ e.cells := by unfold rowOf; rw [List.flatMap_append]; simp
    rw [this]; exact hown
  · rcases List.mem_append.1 he' with he' | he'
    · exact (h.dirt _ he').grown h.own hg
    · obtain rfl := List.mem_singleton.1 he'
      exact hd.grown h.own hg
/-- what an append onto entries leaves as it was -/
theorem EntsAt.blk {B n : Nat} {w w' : World} {v : Value} {es : List Ent} (h : EntsAt B w v n es) (hg : w.grownBy w' v.ownBlock) {P : Nat} {cs : Array Value} {t : TypeId} (hP : w.heap[P]? = some (.cells cs t (0, 0))) (ht : t ≠ 40) : w'.heap[P]? = some (.cells cs t (0, 0)) :=
  (hg.block P (Array.getElem?_eq_some_iff.1 hP).1 (Ne.symm (own_ne h.own hP ht))).trans hP
theorem EntsAt.stays {B n : Nat} {w0 w w' : World} {v : Value} {es : List Ent} (h : EntsAt B w v n es) (hB : w0.heap.size ≤ B) (hb : Below w0.heap.size w0 w) (hg : w.grownBy w' v.ownBlock) : Below w0.heap.size w0 w' :=
  hb.grown hg hb.size fun j hj => Nat.le_trans hB (h.own.lt j hj).1

theorem entries_at (A : Option Addr) (len cap : Nat) (w : World) (hlen : len ≤ 100) (hc : SeedsIn w A len) :
    Calls Try.prog 11 #[.slice A len cap] w fun r w' => (∃ (A1 : Option Addr) (n c1 : Nat) (es : List Ent), r = .returned (.slice A1 n c1) ∧ n ≤ 100 ∧ EntsAt w.heap.size w' (.slice A1 n c1) n es ∧ ∀ e ∈ es, 0 ≤ e.tx ∧ e.tx < 8) ∧ Below w.heap.size w w' := by
  refine (entries_res A len cap w hlen hc).mono ?_
  rintro r w' ⟨⟨A1, c1, es, rfl, hl, hown, hrow, htx⟩, hb⟩
  refine ⟨⟨A1, es.length, c1, es, rfl, hl, ⟨rfl, hown, fun e he => ?_⟩, htx⟩, hb⟩
  obtain ⟨i, hi, rfl⟩ := List.getElem_of_mem he
  obtain ⟨_, _, _, _, h⟩ := hrow i hi
  exact h

theorem anal_end (es : List Ent) (e : Ent) (k : Nat) (hk : k = slotOf e.tx) (h : e.kd = 5 ∨ e.kd = 6) : ((anal (es ++ [e])).s k) = ⟨[], false⟩ := by
  unfold anal
  dsimp only
  split
  · rfl
  · rw [planOf_snoc, Pln.step_of _ _ (by omega)]
    dsimp only
    rw [if_pos hk, One.step_end h]
theorem anal_end_more (es : List Ent) (e u : Ent) (k : Nat) (h0 : k ≠ 0) (hk : k = slotOf e.tx) (h : e.kd = 5 ∨ e.kd = 6) (hu : k = slotOf u.tx) (h3 : u.kd = 3) : ((anal (es ++ [e] ++ [u])).s k) = ⟨[u.chg], true⟩ := by
  unfold anal
  dsimp only
  rw [if_neg h0, planOf_snoc, Pln.step_of _ _ (by omega)]
  dsimp only
  rw [if_pos hu, One.step_more (.inr h3), planOf_snoc, Pln.step_of _ _ (by omega)]
  dsimp only
  rw [if_pos hk, One.step_end h]
  rfl

theorem mod3 (n : Int) : ∃ k : Nat, 1 ≤ k ∧ k < 4 ∧ wrap64 ((wrap64 (n.tmod 3 + 3)).tmod 3 + 1) = (k : Int) := by
  have h1 := Int.tmod_lt_of_pos n (show (0 : Int) < 3 by omega)
  have h2 : -3 < n.tmod 3 := by
    have := Int.lt_tmod_of_pos n (show (0 : Int) < 3 by omega)
    omega
  generalize n.tmod 3 = a at h1 h2
  have hw : wrap64 (a + 3) = a + 3 := by unfold wrap64; omega
  rw [hw]
  have h3 : 0 ≤ (a + 3).tmod 3 := Int.tmod_nonneg 3 (by omega)
  have h4 := Int.tmod_lt_of_pos (a + 3) (show (0 : Int) < 3 by omega)
  generalize (a + 3).tmod 3 = b at h3 h4
  refine ⟨(b + 1).toNat, by omega, by omega, ?_⟩
  unfold wrap64; omega

end Go.Proofs.Ytcolblmhopjgpaa
