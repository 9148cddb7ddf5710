/-
  The law's own lists, where they lie.
-/
import Derived.Test.YtcolblmhopjgpaaRst11
namespace Go.Proofs.Ytcolblmhopjgpaa
open Go.RowKit

/-- of one number what entries make -/
def oneOf (es : List Ent) (n : Nat) : One := es.foldl (fun s e => if e.tx = (n : Int) then s.step e else s) ⟨[], false⟩
theorem oneOf_snoc (es : List Ent) (e : Ent) (n : Nat) : oneOf (es ++ [e]) n = if e.tx = (n : Int) then (oneOf es n).step e else oneOf es n := by
  unfold oneOf; rw [List.foldl_append]; rfl
theorem oneOf_take (es : List Ent) (i : Nat) (hi : i < es.length) (n : Nat) : oneOf (es.take (i + 1)) n = if es[i].tx = (n : Int) then (oneOf (es.take i) n).step es[i] else oneOf (es.take i) n := by
  rw [← oneOf_snoc, List.take_add_one, List.getElem?_eq_getElem hi]; rfl
theorem step_seven {s : One} {e : Ent} (h : e.kd = 7) : s.step e = s := One.step_none (by omega) (by omega) (by omega)
theorem one_fold (n : Nat) (h1 : 1 ≤ n) (h4 : n < 4) : ∀ (es : List Ent) (p : Pln) (s : One), p.s n = s → (es.foldl Pln.step p).s n = es.foldl (fun s e => if e.tx = (n : Int) then s.step e else s) s
  | [], _, _, h => h
  | e :: es, p, s, h => by
    rw [List.foldl_cons, List.foldl_cons]
    refine one_fold n h1 h4 es _ _ ?_
    rw [step_s, h]
    by_cases ht : e.tx = (n : Int)
    · rw [if_pos ht, if_pos ((slot_iff e.tx n h1 h4).2 ht)]
      split
      · exact (step_seven (by assumption)).symm
      · rfl
    · rw [if_neg ht, if_neg (fun h => ht ((slot_iff e.tx n h1 h4).1 h))]
      split <;> rfl
theorem one_plan (n : Nat) (h1 : 1 ≤ n) (h4 : n < 4) (es : List Ent) : (anal es).s n = oneOf es n := by
  show (if n = 0 then _ else (planOf es).s n) = _
  rw [if_neg (by omega)]
  exact one_fold n h1 h4 es pln0 _ rfl
theorem one_len_fold (n : Nat) : ∀ (es : List Ent) (s : One), (es.foldl (fun s e => if e.tx = (n : Int) then s.step e else s) s).l.length ≤ s.l.length + es.length
  | [], _ => by simp
  | e :: es, s => by
    rw [List.foldl_cons]
    refine Nat.le_trans (one_len_fold n es _) ?_
    have := One.step_len s e
    simp only [List.length_cons]
    split <;> omega
theorem oneOf_len (es : List Ent) (n : Nat) : (oneOf es n).l.length ≤ es.length := by
  have := one_len_fold n es ⟨[], false⟩
  simpa [oneOf] using this

structure ListAt (B : Nat) (w : World) (L O : Nat) (V : Nat → Value) (s : Nat → One) : Prop where
  lb : w.heap[L]? = some (.cells #[V 0, V 1, V 2, V 3, V 4, V 5, V 6, V 7] 34 (0, 0))
  ob : w.heap[O]? = some (.cells #[.bool (s 0).o, .bool (s 1).o, .bool (s 2).o, .bool (s 3).o, .bool (s 4).o, .bool (s 5).o, .bool (s 6).o, .bool (s 7).o] 35 (0, 0))
  own : ∀ i, i < 8 → w.ownsRow B 42 3 (V i) (s i).l.length (chgs (s i).l)
  apart : ∀ i j, i < 8 → j < 8 → i ≠ j → (V i).ownBlock = none ∨ (V i).ownBlock ≠ (V j).ownBlock

theorem block_ne {w : World} {a b : Nat} {cs ds : Array Value} {t u : TypeId} (ha : w.heap[a]? = some (.cells cs t (0, 0))) (hb : w.heap[b]? = some (.cells ds u (0, 0))) (h : t ≠ u) : a ≠ b := by
  rintro rfl
  rw [ha] at hb
  injection hb with hb
  injection hb with _ hb
  exact h hb

section
variable {B : Nat} {w w' : World} {L O : Nat} {V : Nat → Value} {s : Nat → One}
theorem ListAt.below (h : ListAt B w L O V s) (b : Below w.heap.size w w') : ListAt B w' L O V s :=
  ⟨blk_keep b h.lb, blk_keep b h.ob, fun i hi => own_below (h.own i hi) b, h.apart⟩
theorem ListAt.heap (h : ListAt B w L O V s) (b : w'.heap = w.heap) (ho : w'.os = w.os) (ht : w'.tape = w.tape) (hu : w'.output = w.output) : ListAt B w' L O V s :=
  ⟨by rw [b]; exact h.lb, by rw [b]; exact h.ob, fun i hi => (h.own i hi).kept (row := none) ⟨ho, ht, hu, by rw [b]; exact Nat.le_refl _, fun k _ _ => by rw [b]⟩ (by cases (V i).ownBlock <;> simp), h.apart⟩
theorem ListAt.cell (h : ListAt B w L O V s) {i : Nat} (hi : i < 8) : w.cell? ⟨L, i, none⟩ = some (V i) := by
  rw [cell_of_row w L _ _ _ _ h.lb]
  match i, hi with
  | 0, _ => rfl
  | 1, _ => rfl
  | 2, _ => rfl
  | 3, _ => rfl
  | 4, _ => rfl
  | 5, _ => rfl
  | 6, _ => rfl
  | 7, _ => rfl
theorem ListAt.opn (h : ListAt B w L O V s) {i : Nat} (hi : i < 8) : w.cell? ⟨O, i, none⟩ = some (.bool (s i).o) := by
  rw [cell_of_row w O _ _ _ _ h.ob]
  match i, hi with
  | 0, _ => rfl
  | 1, _ => rfl
  | 2, _ => rfl
  | 3, _ => rfl
  | 4, _ => rfl
  | 5, _ => rfl
  | 6, _ => rfl
  | 7, _ => rfl
theorem ListAt.congr {V' : Nat → Value} {s' : Nat → One} (h : ListAt B w L O V s) (hV : ∀ i, i < 8 → V' i = V i) (hp : ∀ i, i < 8 → s' i = s i) : ListAt B w L O V' s' := by
  refine ⟨?_, ?_, ?_, ?_⟩
  · rw [h.lb, hV 0 (by omega), hV 1 (by omega), hV 2 (by omega), hV 3 (by omega), hV 4 (by omega), hV 5 (by omega), hV 6 (by omega), hV 7 (by omega)]
  · rw [h.ob, hp 0 (by omega), hp 1 (by omega), hp 2 (by omega), hp 3 (by omega), hp 4 (by omega), hp 5 (by omega), hp 6 (by omega), hp 7 (by omega)]
  · intro i hi; rw [hV i hi, hp i hi]; exact h.own i hi
  · intro i j hi hj hij; rw [hV i hi, hV j hj]; exact h.apart i j hi hj hij
theorem ListAt.putL (h : ListAt B w L O V s) {k : Nat} (hk : k < 8) {v : Value} {l : List Chg} (hgr : w.grownBy w' (V k).ownBlock) (hv : w'.ownsRow B 42 3 v l.length (chgs l))
    (hap : v.ownBlock = none ∨ v.ownBlock = (V k).ownBlock ∨ ∃ gg, v.ownBlock = some gg ∧ w.heap.size ≤ gg) :
    ListAt B (w'.setCell ⟨L, k, none⟩ v) L O (fun i => if i = k then v else V i) (fun i => if i = k then ⟨l, (s k).o⟩ else s i) := by
  have hlb : w'.heap[L]? = _ := (hgr.block L (Array.getElem?_eq_some_iff.1 h.lb).1 (Ne.symm (own_ne (h.own k hk) h.lb (by decide)))).trans h.lb
  have hob : w'.heap[O]? = _ := (hgr.block O (Array.getElem?_eq_some_iff.1 h.ob).1 (Ne.symm (own_ne (h.own k hk) h.ob (by decide)))).trans h.ob
  have hne := block_ne hlb hob (by decide)
  have hvi : ∀ i, i < 8 → i ≠ k → v.ownBlock = none ∨ v.ownBlock ≠ (V i).ownBlock := by
    intro i hi hne
    rcases hap with hap | hap | ⟨gg, hap, hge⟩
    · exact .inl hap
    · rw [hap]
      exact h.apart k i hk hi (Ne.symm hne)
    · right
      rw [hap]
      intro e
      have := (h.own i hi).lt gg e.symm
      omega
  refine ⟨?_, ?_, ?_, ?_⟩
  · rw [heap_setCell_same w' L _ _ _ _ hlb]
    match k, hk with
    | 0, _ => rfl
    | 1, _ => rfl
    | 2, _ => rfl
    | 3, _ => rfl
    | 4, _ => rfl
    | 5, _ => rfl
    | 6, _ => rfl
    | 7, _ => rfl
  · refine (Below.heap_setCell w' _ _ _ (Ne.symm hne)).trans (hob.trans ?_)
    match k, hk with
    | 0, _ => rfl
    | 1, _ => rfl
    | 2, _ => rfl
    | 3, _ => rfl
    | 4, _ => rfl
    | 5, _ => rfl
    | 6, _ => rfl
    | 7, _ => rfl
  · intro i hi
    by_cases hik : i = k
    · subst hik
      have := own_set hv hlb (by decide) i v
      simpa using this
    · have := own_set ((h.own i hi).kept hgr (h.apart i k hi hk hik)) hlb (by decide) k v
      simpa [if_neg hik] using this
  · intro i j hi hj hij
    try dsimp only
    by_cases hik : i = k
    · have hjk : j ≠ k := fun e => hij (hik.trans e.symm)
      rw [if_pos hik, if_neg hjk]
      exact hvi j hj hjk
    · rw [if_neg hik]
      by_cases hjk : j = k
      · rw [if_pos hjk]
        rcases hvi i hi hik with hn | hn
        · rw [hn]
          cases hVi : (V i).ownBlock with
          | none => exact .inl rfl
          | some x => exact .inr (by simp)
        · exact .inr (Ne.symm hn)
      · rw [if_neg hjk]
        exact h.apart i j hi hj hij
theorem ListAt.putO (h : ListAt B w L O V s) {k : Nat} (hk : k < 8) (o : Bool) : ListAt B (w.setCell ⟨O, k, none⟩ (.bool o)) L O V (fun i => if i = k then ⟨(s k).l, o⟩ else s i) := by
  have hne := block_ne h.lb h.ob (by decide)
  refine ⟨(Below.heap_setCell w _ _ _ hne).trans h.lb, ?_, ?_, h.apart⟩
  · rw [heap_setCell_same w O _ _ _ _ h.ob]
    match k, hk with
    | 0, _ => rfl
    | 1, _ => rfl
    | 2, _ => rfl
    | 3, _ => rfl
    | 4, _ => rfl
    | 5, _ => rfl
    | 6, _ => rfl
    | 7, _ => rfl
  · intro i hi
    have := own_set (h.own i hi) h.ob (by decide) k (.bool o)
    by_cases hik : i = k
    · subst hik; simpa using this
    · simpa [if_neg hik] using this
theorem ListAt.put (h : ListAt B w L O V s) {k : Nat} (hk : k < 8) {v : Value} {l : List Chg} (o : Bool) (hgr : w.grownBy w' (V k).ownBlock) (hv : w'.ownsRow B 42 3 v l.length (chgs l))
    (hap : v.ownBlock = none ∨ v.ownBlock = (V k).ownBlock ∨ ∃ gg, v.ownBlock = some gg ∧ w.heap.size ≤ gg) :
    ListAt B ((w'.setCell ⟨L, k, none⟩ v).setCell ⟨O, k, none⟩ (.bool o)) L O (fun i => if i = k then v else V i) (fun i => if i = k then ⟨l, o⟩ else s i) := by
  refine ((h.putL hk hgr hv hap).putO hk o).congr (fun _ _ => rfl) fun i _ => ?_
  by_cases hik : i = k <;> simp [hik]
end

/-- an append onto one of the lists -/
theorem list_more {w w1 : World} {w0 : World} {V : Nat → Value} {s : Nat → One} {L O k nk ck2 gg cap : Nat} {Ak : Option Addr} {pg sl : Int} {bf : ByteArray} {xs : List Value} {o : Obj} (HP : ListAt w0.heap.size w L O V s) (hk : k < 8)
    (hV : V k = .slice Ak nk ck2) (hn : nk = (s k).l.length) (hxs : xs = chgs (s k).l) (HB : Below w0.heap.size w0 w) (hL : w0.heap.size ≤ L) (hO : w0.heap.size ≤ O)
    (hgrow : (w.alloc o).drew.grownBy w1 (Value.slice Ak nk ck2).ownBlock)
    (hown1 : w1.ownsRow w0.heap.size 42 3 (.slice (some ⟨gg, 0, none⟩) (nk + 1) cap) (nk + 1) (xs ++ [.int .i64 pg, .int .i64 sl, .string bf])) (hat : (Value.slice Ak nk ck2).ownBlock = some gg ∨ gg = w.heap.size + 1) :
    ListAt w0.heap.size ((w1.setCell ⟨L, k, none⟩ (.slice (some ⟨gg, 0, none⟩) (nk + 1) cap)).setCell ⟨O, k, none⟩ (.bool true)) L O
      (fun i => if i = k then .slice (some ⟨gg, 0, none⟩) (nk + 1) cap else V i) (fun i => if i = k then ⟨(s k).l ++ [⟨pg, sl, bf⟩], true⟩ else s i) ∧
    Below w0.heap.size w0 ((w1.setCell ⟨L, k, none⟩ (.slice (some ⟨gg, 0, none⟩) (nk + 1) cap)).setCell ⟨O, k, none⟩ (.bool true)) := by
  have hown := HP.own k hk
  rw [hV, ← hn] at hown
  have hgr : w.grownBy w1 (V k).ownBlock := by
    rw [hV]
    exact ⟨hgrow.os, hgrow.tape, hgrow.output, Nat.le_trans (by simp) hgrow.size, fun j hj hne => (hgrow.block j (by simp; omega) hne).trans (Below.heap_alloc w o j hj)⟩
  have hbW : Below w0.heap.size w0 (w.alloc o).drew := (B_alloc HB o).drew
  have hb1 : Below w0.heap.size w0 w1 := hbW.grown hgrow hbW.size fun j hj => (hown.lt j hj).1
  refine ⟨HP.put hk true hgr ?_ ?_, B_set (B_set hb1 (p := ⟨L, k, none⟩) hL _) (p := ⟨O, k, none⟩) hO _⟩
  · rw [List.length_append, ← hn, chgs_snoc, ← hxs]
    exact hown1
  · rcases hat with hat | hat
    · exact .inr (.inl (by rw [hV]; exact hat.symm))
    · exact .inr (.inr ⟨gg, rfl, by omega⟩)

/-- an entry's places, as a loop reads them -/
theorem DirtyAt.places {w : World} {e : Ent} (h : DirtyAt w e) : ∃ A c, e.dv = .slice A e.dl.length c ∧ e.dl.length ≤ maxLen ∧ ∀ i, i < e.dl.length → ∃ g off, A = some ⟨g, off, none⟩ ∧ w.cell? ⟨g, off + i, none⟩ = some (.int .u64 (e.dl.getD i 0)) := by
  rcases h with ⟨h1, h2⟩ | ⟨g, off, cap, cs, t, h1, _, _, _, h4, h5, h6⟩
  · rw [h2]
    exact ⟨none, 0, h1, by unfold maxLen; simp, fun i hi => by simp at hi⟩
  · exact ⟨_, _, h1, h5, fun i hi => ⟨g, off, rfl, (cell_of_row w g (off + i) _ _ _ h4).trans (h6 i hi)⟩⟩

end Go.Proofs.Ytcolblmhopjgpaa
