/-
  Where locks lie in memory; 'take' by contracts.
-/
import Derived.Test.YticbmpgcndoncaaLock1
namespace Go.Proofs.Yticbmpgcndoncaa
open Go.RowKit Go.Maps

theorem aget_map {K V V' : Type} [DecidableEq K] (g : V → V') (l : List (K × V)) (x : K) : aget (l.map fun p => (p.1, g p.2)) x = (aget l x).map g := by
  induction l with
  | nil => rfl
  | cons p l ih => rw [List.map_cons, aget_cons, aget_cons, ih]; by_cases h : p.1 = x <;> simp [h]
theorem ahas_map {K V V' : Type} [DecidableEq K] (g : V → V') (l : List (K × V)) (x : K) : ahas (l.map fun p => (p.1, g p.2)) x = ahas l x := by
  rw [ahas_eq, ahas_eq, aget_map]; cases aget l x <;> rfl
theorem aput_map {K V V' : Type} [DecidableEq K] (g : V → V') (l : List (K × V)) (x : K) (v : V) : aput (l.map fun p => (p.1, g p.2)) x (g v) = (aput l x v).map fun p => (p.1, g p.2) := by
  unfold aput
  rw [ahas_map]
  by_cases h : ahas l x = true
  · rw [if_pos h, if_pos h, List.map_map, List.map_map]
    refine List.map_congr_left fun p _ => ?_
    simp only [Function.comp]
    by_cases h2 : p.1 = x <;> simp [h2]
  · rw [if_neg h, if_neg h, List.map_append]; rfl
theorem adel_map {K V V' : Type} [DecidableEq K] (g : V → V') (l : List (K × V)) (x : K) : adel (l.map fun p => (p.1, g p.2)) x = (adel l x).map fun p => (p.1, g p.2) := by
  unfold adel; rw [List.filter_map]; rfl

abbrev Tb := List (Nm × (Nat × Hold))
structure LocksT (w : World) (B b bm : Nat) (T : Tb) : Prop where
  blk : w.heap[b]? = some (.cells #[.map (some bm)] 41 (0, 0))
  outer : MapAt w nval nok oval bm (T.map fun p => (p.1, (fun q : Nat × Hold => some q.1) p.2))
  inner : ∀ p ∈ T, MapAt w inum iok inum p.2.1 p.2.2
  base : ∀ p ∈ T, B ≤ p.2.1
  apart : T.Pairwise fun p q => p.2.1 ≠ q.2.1
  low : bm < B
  blow : b < B
  size : B ≤ w.heap.size
def modelOf (T : Tb) : Lk := T.map fun p => (p.1, (fun q : Nat × Hold => q.2) p.2)
def LocksAt (w : World) (B b bm : Nat) (M : Lk) : Prop := ∃ T, LocksT w B b bm T ∧ M = modelOf T

section
variable {w w' : World} {B b bm : Nat} {T : Tb}
theorem LocksT.ne (h : LocksT w B b bm T) : bm ≠ b := by
  rintro rfl
  obtain ⟨es, clock, hb, _⟩ := h.outer
  rw [h.blk] at hb; cases hb
theorem LocksT.below (h : LocksT w B b bm T) (k : Below w.heap.size w w') : LocksT w' B b bm T :=
  ⟨(k.block b (Array.getElem?_eq_some_iff.1 h.blk).1).trans h.blk, h.outer.below k h.outer.lt, fun p hp => (h.inner p hp).below k (h.inner p hp).lt, h.base, h.apart, h.low, h.blow, Nat.le_trans h.size k.size⟩
theorem LocksT.apartT (h : LocksT w B b bm T) : Apart T := by
  have := h.outer.apart
  unfold Apart at this ⊢
  rw [List.pairwise_map] at this
  exact this
theorem LocksT.get (h : LocksT w B b bm T) {n : Nm} {bi : Nat} {l : Hold} (hg : aget T n = some (bi, l)) : MapAt w inum iok inum bi l ∧ B ≤ bi :=
  ⟨h.inner _ (mem_of_aget hg), h.base _ (mem_of_aget hg)⟩
theorem modelOf_get (T : Tb) (n : Nm) : aget (modelOf T) n = (aget T n).map fun q => q.2 := aget_map _ T n
theorem heldBy_some {T : Tb} {n : Nm} {bi : Nat} {l : Hold} (hg : aget T n = some (bi, l)) : heldBy (modelOf T) n = l := by
  unfold heldBy; rw [modelOf_get, hg]; rfl
theorem heldBy_none {T : Tb} {n : Nm} (hg : aget T n = none) : heldBy (modelOf T) n = [] := by
  unfold heldBy; rw [modelOf_get, hg]; rfl

/-- One holder more, or another mode, where the name is there. -/
theorem LocksT.change (h : LocksT w B b bm T) {n : Nm} {bi : Nat} {l l' : Hold} (hg : aget T n = some (bi, l)) (t : Turns (fun i => i = bi) w w') (hm : MapAt w' inum iok inum bi l') : LocksT w' B b bm (aput T n (bi, l')) := by
  have hin := h.get hg
  have hbm : ¬ bm = bi := by have := h.low; omega
  have hbb : ¬ b = bi := by have := h.blow; omega
  have hh : ahas T n = true := by rw [ahas_eq, hg]; rfl
  have hout : MapAt w' nval nok oval bm (T.map fun p => (p.1, (fun q : Nat × Hold => some q.1) p.2)) := h.outer.turns t hbm
  have hsame : (aput T n (bi, l')).map (fun p => (p.1, (fun q : Nat × Hold => some q.1) p.2)) = T.map fun p => (p.1, (fun q : Nat × Hold => some q.1) p.2) := by
    unfold aput
    rw [if_pos hh, List.map_map]
    refine List.map_congr_left fun p hp => ?_
    simp only [Function.comp]
    by_cases e : p.1 = n
    · have : p = (n, (bi, l)) := by
        have h1 := aget_mem h.apartT hp
        rw [e, hg] at h1
        injection h1 with h1
        obtain ⟨p1, p2⟩ := p
        simp only at e h1
        rw [e, ← h1]
      rw [if_pos e, this]
    · rw [if_neg e]
  have hmem : ∀ p ∈ aput T n (bi, l'), p = (n, (bi, l')) ∨ (p ∈ T ∧ p.1 ≠ n) := by
    intro p hp
    unfold aput at hp
    rw [if_pos hh] at hp
    obtain ⟨q, hq, rfl⟩ := List.mem_map.1 hp
    by_cases e : q.1 = n
    · rw [if_pos e]; exact .inl rfl
    · rw [if_neg e]; exact .inr ⟨hq, e⟩
  have hblk : ∀ p ∈ T, p.1 ≠ n → p.2.1 ≠ bi := by
    intro p hp hne e
    have h1 : (n, (bi, l)) ∈ T := mem_of_aget hg
    have hpw := h.apart
    have key : ∀ {L : Tb}, L.Pairwise (fun p q => p.2.1 ≠ q.2.1) → ∀ x ∈ L, ∀ y ∈ L, x.2.1 = y.2.1 → x = y := by
      intro L hL
      induction L with
      | nil => intro x hx; cases hx
      | cons z L ih =>
        obtain ⟨hz, hL'⟩ := List.pairwise_cons.1 hL
        intro x hx y hy hxy
        rcases List.mem_cons.1 hx with rfl | hx' <;> rcases List.mem_cons.1 hy with rfl | hy'
        · rfl
        · exact absurd hxy (hz y hy')
        · exact absurd hxy.symm (hz x hx')
        · exact ih hL' x hx' y hy' hxy
    have := key hpw p hp _ h1 e
    exact hne (by rw [this])
  refine ⟨(t.block b (Array.getElem?_eq_some_iff.1 h.blk).1 hbb).trans h.blk, by rw [hsame]; exact hout, ?_, ?_, ?_, h.low, h.blow, Nat.le_trans h.size t.size⟩
  · intro p hp
    rcases hmem p hp with rfl | ⟨hp', hne⟩
    · exact hm
    · exact (h.inner p hp').turns t (hblk p hp' hne)
  · intro p hp
    rcases hmem p hp with rfl | ⟨hp', _⟩
    · exact hin.2
    · exact h.base p hp'
  · have e2 : (aput T n (bi, l')).map (fun p => p.2.1) = T.map fun p => p.2.1 := by
      have := congrArg (List.map fun q : Nm × Option Nat => q.2) hsame
      rw [List.map_map, List.map_map] at this
      have h3 : ((aput T n (bi, l')).map (fun p => p.2.1)).map some = (T.map fun p => p.2.1).map some := by
        rw [List.map_map, List.map_map]; exact this
      exact (List.map_inj_right (fun x y h => by injection h)).1 h3
    have h1 : (T.map fun p => p.2.1).Nodup := by unfold List.Nodup; rw [List.pairwise_map]; exact h.apart
    rw [← e2] at h1
    unfold List.Nodup at h1
    rw [List.pairwise_map] at h1
    exact h1

/-- A name more. -/
theorem LocksT.more (h : LocksT w B b bm T) {n : Nm} (hn : ahas T n = false) {bi : Nat} {l : Hold} (hbi : w.heap.size ≤ bi) (t : Turns (fun i => i = bm) w w') (hm : MapAt w' inum iok inum bi l)
    (hout : MapAt w' nval nok oval bm (aput (T.map fun p => (p.1, (fun q : Nat × Hold => some q.1) p.2)) n (some bi))) : LocksT w' B b bm (aput T n (bi, l)) := by
  have hbb : ¬ b = bm := fun e => h.ne e.symm
  have hlt : ∀ p ∈ T, p.2.1 < w.heap.size := fun p hp => (h.inner p hp).lt
  have hbs := h.size
  refine ⟨(t.block b (Array.getElem?_eq_some_iff.1 h.blk).1 hbb).trans h.blk, ?_, ?_, ?_, ?_, h.low, h.blow, Nat.le_trans h.size t.size⟩
  · rw [← aput_map (fun q : Nat × Hold => some q.1)]; exact hout
  · intro p hp
    rw [aput_new _ hn] at hp
    rcases List.mem_append.1 hp with hp | hp
    · exact (h.inner p hp).turns t (by have := h.base p hp; have := h.low; omega)
    · simp at hp; subst hp; exact hm
  · intro p hp
    rw [aput_new _ hn] at hp
    rcases List.mem_append.1 hp with hp | hp
    · exact h.base p hp
    · simp at hp; subst hp; show B ≤ bi; omega
  · rw [aput_new _ hn]
    refine List.pairwise_append.2 ⟨h.apart, by simp, ?_⟩
    intro p hp q hq
    simp at hq; subst hq
    have := hlt p hp
    show p.2.1 ≠ bi
    omega
end

theorem RngAt.left_eq {K V : Type} {f : K → Value} {ok : K → Prop} {g : V → Value} {w : World} {b r : Nat} {l left : List (K × V)} (h : RngAt w f ok g b r l left) : w.rangeLeft b r = left.length := by
  obtain ⟨es, clock, since, seen, c0, hb, _, _, _, hr, _, _, _, hl, _⟩ := h
  have := congrArg List.length hl
  simp only [List.length_map, Array.length_toList] at this
  simp only [World.rangeLeft, hb, hr]
  exact this
theorem length_adel_lt {K V : Type} [DecidableEq K] {l : List (K × V)} {p : K × V} (h : p ∈ l) : (adel l p.1).length < l.length := by
  unfold adel
  exact List.length_filter_lt_length_iff_exists.2 ⟨p, h, by simp⟩

end Go.Proofs.Yticbmpgcndoncaa
