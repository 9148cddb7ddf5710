/-
  Locks as a model: 'take', 'Table', 'Len', 'New' by contracts in its words.
-/
import Derived.Test.YticbmpgcndoncaaLock4
namespace Go.Proofs.Yticbmpgcndoncaa
open Go.RowKit Go.Maps

def takeB (M : Lk) (who : Int) (n : Nm) (mode : Int) : Bool := !barred (heldBy M n) who (wants M who n mode)
def takeS (M : Lk) (who : Int) (n : Nm) (mode : Int) : Lk := if takeB M who n mode = true then takeM M who n mode else M

theorem empty_le : ByteArray.empty.size ≤ maxLen := by decide
theorem modelOf_aput (T : Tb) (n : Nm) (bi : Nat) (l : Hold) : modelOf (aput T n (bi, l)) = aput (modelOf T) n l := (aput_map (fun q : Nat × Hold => q.2) T n (bi, l)).symm
theorem modelOf_adel (T : Tb) (n : Nm) : modelOf (adel T n) = adel (modelOf T) n := (adel_map (fun q : Nat × Hold => q.2) T n).symm

theorem LocksAt.below {w w' : World} {B b bm : Nat} {M : Lk} (h : LocksAt w B b bm M) (k : Below w.heap.size w w') : LocksAt w' B b bm M := by
  obtain ⟨T, h, e⟩ := h; exact ⟨T, h.below k, e⟩
theorem LocksAt.blk {w : World} {B b bm : Nat} {M : Lk} (h : LocksAt w B b bm M) : w.heap[b]? = some (.cells #[.map (some bm)] 41 (0, 0)) := by
  obtain ⟨T, h, e⟩ := h; exact h.blk

/-- the blocks of the holders' maps -/
def Off (T : Tb) (i : Nat) : Prop := ∀ p ∈ T, p.2.1 ≠ i
def OfT (bm : Nat) (T : Tb) (i : Nat) : Prop := i = bm ∨ ∃ p ∈ T, p.2.1 = i

theorem take_T (B b bm : Nat) (T : Tb) (who mode : Int) (n : Nm) (hn : nok n) (hw : iok who) (w : World) (hT : LocksT w B b bm T) :
    Calls Try.prog 14 #[.pointer (some ⟨b, 0, none⟩), .int .i64 who, nval n, .int .i64 mode] w fun e w' =>
      e = .returned (.bool (takeB (modelOf T) who n mode)) ∧ ∃ T', LocksT w' B b bm T' ∧ modelOf T' = takeS (modelOf T) who n mode ∧ Turns (OfT bm T) w w' ∧ ∀ i, i < w.heap.size → Off T i → Off T' i := by
  cases hg : aget T n with
  | none =>
    refine (take_none B b bm T who mode n hg hn hw w hT).mono ?_
    rintro e w' ⟨bi, rfl, hbi, h', t'⟩
    have e1 : takeB (modelOf T) who n mode = true := by unfold takeB; rw [heldBy_none hg]; rfl
    have e2 : wants (modelOf T) who n mode = both 0 mode := by unfold wants; rw [heldBy_none hg]; rfl
    refine ⟨by rw [e1], _, h', ?_, t'.mono fun i _ e => .inl e, ?_⟩
    · unfold takeS takeM
      rw [if_pos e1, modelOf_aput, heldBy_none hg, e2]; rfl
    · intro i hi ho p hp
      rw [aput_new _ (by rw [ahas_eq, hg]; rfl)] at hp
      rcases List.mem_append.1 hp with hp | hp
      · exact ho p hp
      · simp at hp; subst hp
        show bi ≠ i
        omega
  | some q =>
    obtain ⟨bi, l⟩ := q
    have hmem := mem_of_aget hg
    refine (take_some B b bm T who mode n bi l hg hn hw w hT).mono ?_
    have e2 : wants (modelOf T) who n mode = both ((aget l who).getD 0) mode := by unfold wants; rw [heldBy_some hg]
    rintro e w' (⟨hb, rfl, hB⟩ | ⟨hb, rfl, h', t'⟩)
    · have e1 : takeB (modelOf T) who n mode = false := by unfold takeB; rw [heldBy_some hg, e2, hb]; rfl
      refine ⟨by rw [e1], T, hT.below hB, ?_, Turns.of_below hB, fun i _ h => h⟩
      unfold takeS; rw [e1]; rfl
    · have e1 : takeB (modelOf T) who n mode = true := by unfold takeB; rw [heldBy_some hg, e2, hb]; rfl
      refine ⟨by rw [e1], _, h', ?_, t'.mono fun i _ e => .inr ⟨_, hmem, e.symm⟩, ?_⟩
      · unfold takeS takeM
        rw [if_pos e1, modelOf_aput, heldBy_some hg, e2]
      · intro i hi ho p hp
        unfold aput at hp
        rw [if_pos (by rw [ahas_eq, hg]; rfl)] at hp
        obtain ⟨q, hq, rfl⟩ := List.mem_map.1 hp
        by_cases e : q.1 = n
        · rw [if_pos e]; exact ho (n, (bi, l)) hmem
        · rw [if_neg e]; exact ho q hq

theorem LocksT.ofT {w : World} {B b bm : Nat} {T : Tb} (h : LocksT w B b bm T) {i : Nat} (hi : OfT bm T i) : i = bm ∨ B ≤ i := by
  rcases hi with h1 | ⟨p, hp, rfl⟩
  · exact .inl h1
  · exact .inr (h.base p hp)

/-- A block that is none of the locks' own is as it was, and stays none. -/
def Keeps (w w' : World) (bm : Nat) (T T' : Tb) : Prop := ∀ X, X < w.heap.size → X ≠ bm → Off T X → w'.heap[X]? = w.heap[X]? ∧ Off T' X
theorem Keeps.below {w w' : World} {bm : Nat} {T : Tb} (k : Below w.heap.size w w') : Keeps w w' bm T T := fun X hX _ ho => ⟨k.block X hX, ho⟩
theorem Keeps.take {w w' : World} {bm : Nat} {T T' : Tb} (t : Turns (OfT bm T) w w') (o : ∀ i, i < w.heap.size → Off T i → Off T' i) : Keeps w w' bm T T' :=
  fun X hX hb ho => ⟨t.block X hX (by rintro (h | ⟨p, hp, h⟩); exact hb h; exact ho p hp h), o X hX ho⟩
theorem Keeps.trans {w w' w'' : World} {bm : Nat} {T T' T'' : Tb} (h : Keeps w w' bm T T') (k : Keeps w' w'' bm T' T'') (hs : w.heap.size ≤ w'.heap.size) : Keeps w w'' bm T T'' :=
  fun X hX hb ho => by
    obtain ⟨h1, h2⟩ := h X hX hb ho
    obtain ⟨k1, k2⟩ := k X (Nat.lt_of_lt_of_le hX hs) hb h2
    exact ⟨k1.trans h1, k2⟩
theorem Keeps.change {w w' : World} {bm bi : Nat} {T : Tb} {n : Nm} {l l' : Hold} (hg : aget T n = some (bi, l)) (t : Turns (fun i => i = bi) w w') : Keeps w w' bm T (aput T n (bi, l')) :=
  fun X hX _ ho => by
    have hb : X ≠ bi := fun e => ho _ (mem_of_aget hg) e.symm
    refine ⟨t.block X hX hb, fun p hp => ?_⟩
    unfold aput at hp
    rw [if_pos (by rw [ahas_eq, hg]; rfl)] at hp
    obtain ⟨q, hq, rfl⟩ := List.mem_map.1 hp
    by_cases e : q.1 = n
    · rw [if_pos e]; exact fun e => hb e.symm
    · rw [if_neg e]; exact ho q hq
theorem Keeps.drop {w w' : World} {bm : Nat} {T : Tb} (n : Nm) (t : Turns (fun i => i = bm) w w') : Keeps w w' bm T (adel T n) :=
  fun X hX hb ho => ⟨t.block X hX hb, fun p hp => ho p (List.filter_sublist.subset hp)⟩

theorem take_any (B b bm : Nat) (M : Lk) (who mode : Int) (n : Nm) (hn : nok n) (hw : iok who) (w : World) (h : LocksAt w B b bm M) :
    Calls Try.prog 14 #[.pointer (some ⟨b, 0, none⟩), .int .i64 who, nval n, .int .i64 mode] w fun e w' =>
      e = .returned (.bool (takeB M who n mode)) ∧ LocksAt w' B b bm (takeS M who n mode) ∧ Turns (fun i => i = bm ∨ B ≤ i) w w' := by
  obtain ⟨T, hT, rfl⟩ := h
  refine (take_T B b bm T who mode n hn hw w hT).mono ?_
  rintro e w' ⟨rfl, T', h', e', t', _⟩
  exact ⟨rfl, ⟨T', h', e'.symm⟩, t'.mono fun i _ hi => hT.ofT hi⟩

set_option maxRecDepth 100000 in
theorem table_any (B b bm : Nat) (M : Lk) (who t : Int) (hn : iok t) (hw : iok who) (w : World) (h : LocksAt w B b bm M) :
    Calls Try.prog 11 #[.pointer (some ⟨b, 0, none⟩), .int .i64 who, .int .i64 t] w fun e w' =>
      e = .returned (.bool (takeB M who (t, ByteArray.empty, true) 1)) ∧ LocksAt w' B b bm (takeS M who (t, ByteArray.empty, true) 1) ∧ Turns (fun i => i = bm ∨ B ≤ i) w w' := by
  have hc := take_any B b bm M who 1 (t, ByteArray.empty, true) ⟨hn, empty_le⟩ hw w h
  unfold nval at hc
  obtain ⟨r, hr⟩ : ∃ r, r = takeB M who (t, ByteArray.empty, true) 1 := ⟨_, rfl⟩
  rw [← hr] at hc ⊢
  have HC := hid hc
  clear hc h hr
  go_enter Try.func11, Try.ntmps11
  go_wp2_with (first
    | (go_at_call 14; refine HC.out.mono ?_; rintro e w1 ⟨rfl, h1, t1⟩))
  go_ret
  exact ⟨rfl, h1, t1⟩

set_option maxRecDepth 100000 in
theorem table_nil (who t : Int) (w : World) : Calls Try.prog 11 #[.pointer none, .int .i64 who, .int .i64 t] w fun e w' => e = .returned (.bool false) ∧ w = w' := by
  go_enter Try.func11, Try.ntmps11
  go_wp2
  go_ret
  exact ⟨rfl, rfl⟩

set_option maxRecDepth 100000 in
theorem len_any (B b bm : Nat) (M : Lk) (w : World) (h : LocksAt w B b bm M) :
    Calls Try.prog 12 #[.pointer (some ⟨b, 0, none⟩)] w fun e w' => e = .returned (.int .i64 M.length) ∧ w = w' := by
  have c0 : w.cell? ⟨b, 0, none⟩ = some (.map (some bm)) := cell_of_row w b 0 _ _ _ h.blk
  obtain ⟨T, hT, rfl⟩ := h
  have hm := hT.outer
  have hl : (modelOf T).length = (T.map fun p => (p.1, (fun q : Nat × Hold => some q.1) p.2)).length := by simp [modelOf]
  rw [hl]
  clear hl hT
  go_enter Try.func12, Try.ntmps12
  go_wp2_with (first
    | (at_len; refine wpList_len_al _ rfl _ 39 45 rfl Try.underlying39 rfl hm ?_))
  go_ret
  exact ⟨rfl, rfl⟩

set_option maxRecDepth 100000 in
theorem len_nil (w : World) : Calls Try.prog 12 #[.pointer none] w fun e w' => e = .returned (.int .i64 0) ∧ w = w' := by
  go_enter Try.func12, Try.ntmps12
  go_wp2
  go_ret
  exact ⟨rfl, rfl⟩

set_option maxRecDepth 100000 in
theorem new_any (w : World) :
    Calls Try.prog 9 #[] w fun e w' => e = .returned (.pointer (some ⟨w.heap.size + 1, 0, none⟩)) ∧ LocksAt w' (w.heap.size + 2) (w.heap.size + 1) w.heap.size [] ∧ Below w.heap.size w w' ∧ w'.heap.size = w.heap.size + 2 := by
  have hmm := @run_makeMap Try.prog
  go_enter Try.func9, Try.ntmps9
  go_wp2
  go_ret
  exact ⟨rfl, ⟨[], ⟨by simpa using heap_alloc_new (w.alloc (.map #[] 0)) _, (MapAt.made w _ _ _).alloc _, by simp, by simp, List.Pairwise.nil, by omega, by omega, by simp⟩, rfl⟩, ((Below.refl _ _).alloc (Nat.le_refl _) _).alloc (by simp) _, by simp⟩

/-- Raise the mark below which no holder's map lies, while nothing is held. -/
theorem LocksAt.raise {w : World} {B B' b bm : Nat} (h : LocksAt w B b bm []) (hB : B ≤ B') (hs : B' ≤ w.heap.size) : LocksAt w B' b bm [] := by
  obtain ⟨T, hT, e⟩ := h
  have hT0 : T = [] := by unfold modelOf at e; exact List.map_eq_nil_iff.1 e.symm
  subst hT0
  exact ⟨[], ⟨hT.blk, hT.outer, by simp, by simp, List.Pairwise.nil, Nat.lt_of_lt_of_le hT.low hB, Nat.lt_of_lt_of_le hT.blow hB, hs⟩, rfl⟩

end Go.Proofs.Yticbmpgcndoncaa
