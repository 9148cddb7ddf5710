/-
  Where a plan lies while it is made.
-/
import Derived.Test.YtcolblmhopjgpaaRst6
import Derived.WalkSmall
namespace Go.Proofs.Ytcolblmhopjgpaa
open Go.RowKit

def chgs (l : List Chg) : List Value := l.flatMap Chg.cells
def planCells (p : Pln) (V : Nat → Value) : Array Value := #[.int .u64 p.fr, V 0, V 1, V 2, V 3, .bool (p.s 0).o, .bool (p.s 1).o, .bool (p.s 2).o, .bool (p.s 3).o]

structure PlanAt (B : Nat) (w : World) (g : Nat) (V : Nat → Value) (p : Pln) : Prop where
  blk : w.heap[g]? = some (.cells (planCells p V) 32 (0, 0))
  own : ∀ i, i < 4 → w.ownsRow B 42 3 (V i) (p.s i).l.length (chgs (p.s i).l)
  apart : ∀ i j, i < 4 → j < 4 → i ≠ j → (V i).ownBlock = none ∨ (V i).ownBlock ≠ (V j).ownBlock

theorem own_ne {w : World} {B : Nat} {v : Value} {n : Nat} {xs : List Value} {e : TypeId} {s : Nat} (h : w.ownsRow B e s v n xs) {g : Nat} {cs : Array Value} {t : TypeId} (hg : w.heap[g]? = some (.cells cs t (0, 0))) (ht : t ≠ e) : v.ownBlock ≠ some g := by
  intro hb
  rcases h.2 with ⟨rfl, _⟩ | ⟨g', cap, cur, rfl, _, hh, _⟩
  · simp [Value.ownBlock] at hb
  · have : g' = g := by simpa [Value.ownBlock] using hb
    subst this
    rw [hg] at hh
    injection hh with hh
    injection hh with _ hh
    exact ht hh
theorem own_set {w : World} {B : Nat} {v : Value} {n : Nat} {xs : List Value} {e : TypeId} {s : Nat} (h : w.ownsRow B e s v n xs) {g : Nat} {cs : Array Value} {t : TypeId} (hg : w.heap[g]? = some (.cells cs t (0, 0))) (ht : t ≠ e) (o : Nat) (u : Value) : (w.setCell ⟨g, o, none⟩ u).ownsRow B e s v n xs :=
  h.kept (row := some g) ⟨rfl, rfl, rfl, by simp, fun k _ hk => heap_setCell_other w ⟨g, o, none⟩ k u (fun e => hk (by simp [e]))⟩ (.inr (own_ne h hg ht))
theorem own_slice {w : World} {B : Nat} {v : Value} {n : Nat} {xs : List Value} {e : TypeId} {s : Nat} (h : w.ownsRow B e s v n xs) : ∃ A c, v = .slice A n c := by
  rcases h.2 with ⟨rfl, rfl⟩ | ⟨g', cap, cur, rfl, _⟩
  · exact ⟨_, _, rfl⟩
  · exact ⟨_, _, rfl⟩

section
variable {B : Nat} {w w' : World} {g : Nat} {V : Nat → Value} {p : Pln}
theorem PlanAt.lt (h : PlanAt B w g V p) : g < w.heap.size := (Array.getElem?_eq_some_iff.1 h.blk).1
theorem PlanAt.ne (h : PlanAt B w g V p) {i : Nat} (hi : i < 4) : (V i).ownBlock ≠ some g := own_ne (h.own i hi) h.blk (by decide)
theorem PlanAt.below (h : PlanAt B w g V p) (b : Below w.heap.size w w') : PlanAt B w' g V p :=
  ⟨blk_keep b h.blk, fun i hi => own_below (h.own i hi) b, h.apart⟩
theorem PlanAt.cell (h : PlanAt B w g V p) {i : Nat} (hi : i < 4) : w.cell? ⟨g, 1 + i, none⟩ = some (V i) := by
  rw [cell_of_row w g _ _ _ _ h.blk]
  match i, hi with
  | 0, _ => rfl
  | 1, _ => rfl
  | 2, _ => rfl
  | 3, _ => rfl
theorem PlanAt.opn (h : PlanAt B w g V p) {i : Nat} (hi : i < 4) : w.cell? ⟨g, 5 + i, none⟩ = some (.bool (p.s i).o) := by
  rw [cell_of_row w g _ _ _ _ h.blk]
  match i, hi with
  | 0, _ => rfl
  | 1, _ => rfl
  | 2, _ => rfl
  | 3, _ => rfl
theorem PlanAt.from (h : PlanAt B w g V p) : w.cell? ⟨g, 0, none⟩ = some (.int .u64 p.fr) := cell_of_row w g _ _ _ _ h.blk
theorem PlanAt.frozen (h : PlanAt B w g V p) (i : Nat) : w.frozen? ⟨g, i, none⟩ = false := frozen_of_row w g i _ _ h.blk
theorem PlanAt.congr {V' : Nat → Value} {p' : Pln} (h : PlanAt B w g V p) (hV : ∀ i, i < 4 → V' i = V i) (hf : p'.fr = p.fr) (hp : ∀ i, i < 4 → p'.s i = p.s i) : PlanAt B w g V' p' := by
  refine ⟨?_, ?_, ?_⟩
  · rw [h.blk]; unfold planCells
    rw [hf, hV 0 (by omega), hV 1 (by omega), hV 2 (by omega), hV 3 (by omega), hp 0 (by omega), hp 1 (by omega), hp 2 (by omega), hp 3 (by omega)]
  · intro i hi; rw [hV i hi, hp i hi]; exact h.own i hi
  · intro i j hi hj hij; rw [hV i hi, hV j hj]; exact h.apart i j hi hj hij
/-- another list for one number -/
theorem PlanAt.putL (h : PlanAt B w g V p) {k : Nat} (hk : k < 4) {v : Value} {l : List Chg} (hgr : w.grownBy w' (V k).ownBlock) (hv : w'.ownsRow B 42 3 v l.length (chgs l))
    (hap : v.ownBlock = none ∨ v.ownBlock = (V k).ownBlock ∨ ∃ gg, v.ownBlock = some gg ∧ w.heap.size ≤ gg) :
    PlanAt B (w'.setCell ⟨g, 1 + k, none⟩ v) g (fun i => if i = k then v else V i) ⟨p.fr, fun i => if i = k then ⟨l, (p.s k).o⟩ else p.s i⟩ := by
  have hb : w'.heap[g]? = some (.cells (planCells p V) 32 (0, 0)) := (hgr.block g h.lt (Ne.symm (h.ne hk))).trans h.blk
  have hvi : ∀ i, i < 4 → i ≠ k → v.ownBlock = none ∨ v.ownBlock ≠ (V i).ownBlock := by
    intro i hi hne
    rcases hap with hap | hap | ⟨gg, hap, hge⟩
    · exact .inl hap
    · rw [hap]
      exact h.apart k i hk hi (Ne.symm hne)
    · right
      rw [hap]
      intro e
      have := (h.own i hi).lt gg e.symm
      omega
  refine ⟨?_, ?_, ?_⟩
  · rw [heap_setCell_same w' g _ _ _ _ hb]
    match k, hk with
    | 0, _ => rfl
    | 1, _ => rfl
    | 2, _ => rfl
    | 3, _ => rfl
  · intro i hi
    try dsimp only
    by_cases hik : i = k
    · rw [if_pos hik, if_pos hik]
      exact own_set hv hb (by decide) _ _
    · rw [if_neg hik, if_neg hik]
      refine own_set ((h.own i hi).kept hgr ?_) hb (by decide) _ _
      exact h.apart i k hi hk hik
  · intro i j hi hj hij
    try dsimp only
    by_cases hik : i = k
    · have hjk : j ≠ k := fun e => hij (hik.trans e.symm)
      rw [if_pos hik, if_neg hjk]
      exact hvi j hj hjk
    · rw [if_neg hik]
      by_cases hjk : j = k
      · rw [if_pos hjk]
        rcases hvi i hi hik with hn | hn
        · rw [hn]
          cases hVi : (V i).ownBlock with
          | none => exact .inl rfl
          | some x => exact .inr (by simp)
        · exact .inr (Ne.symm hn)
      · rw [if_neg hjk]
        exact h.apart i j hi hj hij
/-- a number is open, or not -/
theorem PlanAt.putO (h : PlanAt B w g V p) {k : Nat} (hk : k < 4) (o : Bool) :
    PlanAt B (w.setCell ⟨g, 5 + k, none⟩ (.bool o)) g V ⟨p.fr, fun i => if i = k then ⟨(p.s k).l, o⟩ else p.s i⟩ := by
  refine ⟨?_, ?_, h.apart⟩
  · rw [heap_setCell_same w g _ _ _ _ h.blk]
    match k, hk with
    | 0, _ => rfl
    | 1, _ => rfl
    | 2, _ => rfl
    | 3, _ => rfl
  · intro i hi
    have := own_set (h.own i hi) h.blk (by decide) (5 + k) (.bool o)
    by_cases hik : i = k
    · subst hik; simpa using this
    · simpa [if_neg hik] using this
theorem PlanAt.putF (h : PlanAt B w g V p) (x : Int) : PlanAt B (w.setCell ⟨g, 0, none⟩ (.int .u64 x)) g V ⟨x, p.s⟩ := by
  refine ⟨?_, fun i hi => own_set (h.own i hi) h.blk (by decide) _ _, h.apart⟩
  rw [heap_setCell_same w g _ _ _ _ h.blk]
  rfl
/-- both at once -/
theorem PlanAt.put (h : PlanAt B w g V p) {k : Nat} (hk : k < 4) {v : Value} {l : List Chg} (o : Bool) (hgr : w.grownBy w' (V k).ownBlock) (hv : w'.ownsRow B 42 3 v l.length (chgs l))
    (hap : v.ownBlock = none ∨ v.ownBlock = (V k).ownBlock ∨ ∃ gg, v.ownBlock = some gg ∧ w.heap.size ≤ gg) :
    PlanAt B ((w'.setCell ⟨g, 1 + k, none⟩ v).setCell ⟨g, 5 + k, none⟩ (.bool o)) g (fun i => if i = k then v else V i) ⟨p.fr, fun i => if i = k then ⟨l, o⟩ else p.s i⟩ := by
  refine ((h.putL hk hgr hv hap).putO hk o).congr (fun _ _ => rfl) rfl fun i _ => ?_
  by_cases hik : i = k <;> simp [hik]
end

theorem planOf_snoc (es : List Ent) (e : Ent) : planOf (es ++ [e]) = (planOf es).step e := by
  unfold planOf; rw [List.foldl_append]; rfl
theorem planOf_take (es : List Ent) (i : Nat) (hi : i < es.length) : planOf (es.take (i + 1)) = (planOf (es.take i)).step es[i] := by
  rw [← planOf_snoc, List.take_add_one, List.getElem?_eq_getElem hi]; rfl
theorem One.step_len (s : One) (e : Ent) : (s.step e).l.length ≤ s.l.length + 1 := by
  unfold One.step
  split
  · simp
  · split
    · simp; omega
    · split
      · simp
      · omega
theorem planOf_len (es : List Ent) (k : Nat) : ((planOf es).s k).l.length ≤ es.length := by
  obtain ⟨n, hn⟩ : ∃ n, n = es.length := ⟨_, rfl⟩
  induction n generalizing es with
  | zero =>
    obtain rfl : es = [] := List.eq_nil_of_length_eq_zero hn.symm
    simp [planOf, pln0]
  | succ n ih =>
    have hd := List.dropLast_concat_getLast (l := es) (by intro h; subst h; simp at hn)
    rw [← hd, planOf_snoc]
    have := ih es.dropLast (by simp; omega)
    have hl : (es.dropLast ++ [es.getLast (by intro h; subst h; simp at hn)]).length = es.dropLast.length + 1 := by simp
    rw [hl]
    unfold Pln.step
    split
    · dsimp only; omega
    · dsimp only
      split
      · exact Nat.le_trans (One.step_len _ _) (by omega)
      · omega

/-- entries: where they lie -/
def EntAt (w : World) (b o : Nat) (e : Ent) : Prop :=
  w.cell? ⟨b, o, none⟩ = some (.int .u64 e.pl) ∧ w.cell? ⟨b, o + 1, none⟩ = some (.int .i64 e.kd) ∧ w.cell? ⟨b, o + 2, none⟩ = some (.int .i64 e.tx) ∧ w.cell? ⟨b, o + 3, none⟩ = some (.int .i64 e.pg) ∧ w.cell? ⟨b, o + 4, none⟩ = some (.int .i64 e.sl) ∧
  w.cell? ⟨b, o + 5, none⟩ = some (.string e.bf) ∧ w.cell? ⟨b, o + 6, none⟩ = some (.string e.af) ∧ w.cell? ⟨b, o + 7, none⟩ = some (.string e.im) ∧ w.cell? ⟨b, o + 8, none⟩ = some e.dv
theorem EntAt.below {w w' : World} {b o : Nat} {e : Ent} (h : EntAt w b o e) (k : Below w.heap.size w w') : EntAt w' b o e := by
  obtain ⟨h0, h1, h2, h3, h4, h5, h6, h7, h8⟩ := h
  exact ⟨cell_below k h0, cell_below k h1, cell_below k h2, cell_below k h3, cell_below k h4, cell_below k h5, cell_below k h6, cell_below k h7, cell_below k h8⟩
def RowsAt (w : World) (A : Option Addr) (es : List Ent) : Prop := ∀ i (h : i < es.length), ∃ b off, A = some ⟨b, off, none⟩ ∧ EntAt w b (off + i * 9) es[i] ∧ DirtyAt w es[i]
theorem RowsAt.below {w w' : World} {A : Option Addr} {es : List Ent} (h : RowsAt w A es) (k : Below w.heap.size w w') : RowsAt w' A es := by
  intro i hi
  obtain ⟨b, off, h1, h2, h3⟩ := h i hi
  exact ⟨b, off, h1, h2.below k, h3.below k⟩

theorem rowOf_length (es : List Ent) : (rowOf es).length = es.length * 9 := by
  induction es with
  | nil => rfl
  | cons e es ih =>
    show (Ent.cells e ++ rowOf es).length = _
    rw [List.length_append, ih]; simp [Ent.cells]; omega
theorem rowOf_at (es : List Ent) : ∀ (i : Nat) (h : i < es.length) (j : Nat), j < 9 → (rowOf es)[i * 9 + j]? = (es[i]).cells[j]? := by
  induction es with
  | nil => intro i h; simp at h
  | cons e es ih =>
    intro i h j hj
    show (Ent.cells e ++ rowOf es)[_]? = _
    cases i with
    | zero => rw [List.getElem?_append_left (by simp [Ent.cells]; omega)]; simp
    | succ i =>
      rw [List.getElem?_append_right (by simp [Ent.cells]; omega)]
      have := ih i (by simpa using h) j hj
      rw [show (i + 1) * 9 + j - (Ent.cells e).length = i * 9 + j by simp [Ent.cells]; omega, this]
      rfl
/-- from a row that is owned -/
theorem RowsAt.of_own {w : World} {B n c : Nat} {A : Option Addr} {es : List Ent} (h : w.ownsRow B 40 9 (.slice A n c) n (rowOf es)) (hn : es.length = n) (hd : ∀ e ∈ es, DirtyAt w e) : RowsAt w A es := by
  subst hn
  intro i hi
  rcases h.2 with ⟨_, h0⟩ | ⟨g, cap, cur, hv, _⟩
  · omega
  · injection hv with hA _ hc
    subst hA hc
    have := fun j (hj : j < 9) => (h.cellAt (i * 9 + j) (by omega)).trans (rowOf_at es i hi j hj)
    refine ⟨g, 0, rfl, ?_, hd _ (List.getElem_mem hi)⟩
    rw [Nat.zero_add]
    exact ⟨this 0 (by omega), this 1 (by omega), this 2 (by omega), this 3 (by omega), this 4 (by omega), this 5 (by omega), this 6 (by omega), this 7 (by omega), this 8 (by omega)⟩

end Go.Proofs.Ytcolblmhopjgpaa
