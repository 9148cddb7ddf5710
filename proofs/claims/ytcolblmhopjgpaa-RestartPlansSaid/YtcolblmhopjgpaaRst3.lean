/-
  A seed's record.
-/
import Derived.Test.YtcolblmhopjgpaaRst2
import Derived.Deep.RegionHeld3
import Derived.Deep.DeepCutAuto
import Derived.Laws.CopyOwn
namespace Go.Proofs.Ytcolblmhopjgpaa
open Go.RowKit

/-- a step that keeps what lay below -/
theorem B_alloc {a w : World} (h : Below a.heap.size a w) (o : Obj) : Below a.heap.size a (w.alloc o) := h.alloc h.size o
theorem B_set {a w : World} (h : Below a.heap.size a w) {p : Addr} (hp : a.heap.size ≤ p.block) (u : Value) : Below a.heap.size a (w.setCell p u) := h.setCell hp u
theorem B_call {a w w' : World} (h : Below a.heap.size a w) (k : Below w.heap.size w w') : Below a.heap.size a w' := h.trans (k.mono h.size)

/-- a seed's cells -/
structure SeedV where
  kd : Int
  tx : Int
  pg : Int
  sl : Int
  bf : Int
  af : Int
  im : Int
  A : Option Addr
  len : Nat
  cap : Nat
def SeedV.val (s : SeedV) : Value := .agg #[.int .i64 s.kd, .int .i64 s.tx, .int .i64 s.pg, .int .i64 s.sl, .int .u8 s.bf, .int .u8 s.af, .int .u8 s.im, .slice s.A s.len s.cap]
/-- its list of places can be read -/
def SeedV.ok (w : World) (s : SeedV) : Prop := s.len ≤ maxLen ∧ (s.len = 0 ∨ ∃ g off, s.A = some ⟨g, off, none⟩ ∧ g < w.heap.size ∧ ∀ i, i < s.len → ∃ x : Int, w.cell? ⟨g, off + i, none⟩ = some (.int .u64 x))

def recVal (e : Ent) : Value := .agg #[.int .i64 e.kd, .int .i64 e.tx, .int .i64 e.pg, .int .i64 e.sl, .string e.bf, .string e.af, .string e.im, e.dv]

def recCells (e : Ent) : Array Value := #[.int .i64 e.kd, .int .i64 e.tx, .int .i64 e.pg, .int .i64 e.sl, .string e.bf, .string e.af, .string e.im, e.dv]
def seedCells (s : SeedV) : Array Value := #[.int .i64 s.kd, .int .i64 s.tx, .int .i64 s.pg, .int .i64 s.sl, .int .u8 s.bf, .int .u8 s.af, .int .u8 s.im, .slice s.A s.len s.cap]
def recZero : Array Value := #[.int .i64 0, .int .i64 0, .int .i64 0, .int .i64 0, .string ⟨#[]⟩, .string ⟨#[]⟩, .string ⟨#[]⟩, .slice none 0 0]

theorem cell_swap {w : World} {o o' : Obj} {p : Addr} {v : Value} (h : (w.alloc o).cell? p = some v) (hp : p.block ≠ w.heap.size) : (w.alloc o').cell? p = some v := by
  have h1 := World.block_lt_of_cell? _ _ h
  have h2 : p.block < w.heap.size := by simp at h1; omega
  rw [World.cell?_alloc_lt _ _ _ h2] at h ⊢; exact h

theorem cell_alloc {w : World} {o : Obj} {p : Addr} {v : Value} (h : w.cell? p = some v) : (w.alloc o).cell? p = some v := by
  rw [World.cell?_alloc_lt _ _ _ (World.block_lt_of_cell? _ _ h)]; exact h
theorem cell_alloc_drew {w : World} {o : Obj} {p : Addr} {v : Value} (h : w.drew.cell? p = some v) : (w.alloc o).drew.cell? p = some v := cell_alloc (w := w) h
theorem cell_drew {w : World} {p : Addr} {v : Value} (h : w.cell? p = some v) : w.drew.cell? p = some v := h
theorem blk_keep {w w' : World} {k : Nat} {o : Obj} (b : Below w.heap.size w w') (h : w.heap[k]? = some o) : w'.heap[k]? = some o := (b.block k (Array.getElem?_eq_some_iff.1 h).1).trans h
theorem cell_below {w w' : World} {p : Addr} {v : Value} (b : Below w.heap.size w w') (h : w.cell? p = some v) : w'.cell? p = some v := (b.cell (World.block_lt_of_cell? _ _ h)).trans h
theorem cell_set {w : World} {b o b' o' : Nat} {u v : Value} (hq : b ≠ b') (h : w.cell? ⟨b', o', none⟩ = some v) : (w.setCell ⟨b, o, none⟩ u).cell? ⟨b', o', none⟩ = some v := (World.cell?_setCell_far w _ _ u hq).trans h

/-- while a record is made: where it lies -/
structure RecAt (w0 w : World) (s : SeedV) (X : Nat) : Prop where
  b : Below w0.heap.size w0 w
  box : w.heap[w0.heap.size]? = some (.cells (seedCells s) 51 (0, 0))
  res : w.heap[w0.heap.size + 1]? = some (.cells recZero 38 (0, 0))
  x : w0.heap.size + 1 < X
  e : ∃ e : Ent, w.heap[X]? = some (.cells (recCells e) 38 (0, 0)) ∧ DirtyAt w e

theorem blk_alloc {w : World} {k : Nat} {o o' : Obj} (h : w.heap[k]? = some o) : (w.alloc o').heap[k]? = some o := (Below.heap_alloc w o' k (Array.getElem?_eq_some_iff.1 h).1).trans h
theorem blk_alloc_drew {w : World} {k : Nat} {o o' : Obj} (h : w.heap[k]? = some o) : (w.alloc o').drew.heap[k]? = some o := blk_alloc h
theorem RecAt.made {w0 w : World} {s : SeedV} (b : Below w0.heap.size w0 w) (hb : w.heap[w0.heap.size]? = some (.cells (seedCells s) 51 (0, 0))) (hr : w.heap[w0.heap.size + 1]? = some (.cells recZero 38 (0, 0))) (e : Ent) (he : e.dv = .slice none 0 0 ∧ e.dl = []) :
    RecAt w0 (w.alloc (.cells (recCells e) 38)) s w.heap.size :=
  ⟨B_alloc b _, blk_alloc hb, blk_alloc hr, (Array.getElem?_eq_some_iff.1 hr).1, e, heap_alloc_new w _, .inl he⟩
theorem heap_set8 {w : World} {X : Nat} {a0 a1 a2 a3 a4 a5 a6 a7 b0 b1 b2 b3 b4 b5 b6 b7 : Value} (h : w.heap[X]? = some (.cells #[a0, a1, a2, a3, a4, a5, a6, a7] 38 (0, 0))) :
    ((((((((w.setCell ⟨X, 0, none⟩ b0).setCell ⟨X, 1, none⟩ b1).setCell ⟨X, 2, none⟩ b2).setCell ⟨X, 3, none⟩ b3).setCell ⟨X, 4, none⟩ b4).setCell ⟨X, 5, none⟩ b5).setCell ⟨X, 6, none⟩ b6).setCell ⟨X, 7, none⟩ b7).heap[X]? = some (.cells #[b0, b1, b2, b3, b4, b5, b6, b7] 38 (0, 0)) := by
  have h0 : (w.setCell ⟨X, 0, none⟩ b0).heap[X]? = some (.cells #[b0, a1, a2, a3, a4, a5, a6, a7] 38 (0, 0)) := by
    have := heap_setCell_same w X 0 _ 38 b0 h
    simpa using this
  generalize w.setCell ⟨X, 0, none⟩ b0 = w1 at h0 ⊢
  have h1 : (w1.setCell ⟨X, 1, none⟩ b1).heap[X]? = some (.cells #[b0, b1, a2, a3, a4, a5, a6, a7] 38 (0, 0)) := by
    have := heap_setCell_same w1 X 1 _ 38 b1 h0
    simpa using this
  generalize w1.setCell ⟨X, 1, none⟩ b1 = w2 at h1 ⊢
  have h2 : (w2.setCell ⟨X, 2, none⟩ b2).heap[X]? = some (.cells #[b0, b1, b2, a3, a4, a5, a6, a7] 38 (0, 0)) := by
    have := heap_setCell_same w2 X 2 _ 38 b2 h1
    simpa using this
  generalize w2.setCell ⟨X, 2, none⟩ b2 = w3 at h2 ⊢
  have h3 : (w3.setCell ⟨X, 3, none⟩ b3).heap[X]? = some (.cells #[b0, b1, b2, b3, a4, a5, a6, a7] 38 (0, 0)) := by
    have := heap_setCell_same w3 X 3 _ 38 b3 h2
    simpa using this
  generalize w3.setCell ⟨X, 3, none⟩ b3 = w4 at h3 ⊢
  have h4 : (w4.setCell ⟨X, 4, none⟩ b4).heap[X]? = some (.cells #[b0, b1, b2, b3, b4, a5, a6, a7] 38 (0, 0)) := by
    have := heap_setCell_same w4 X 4 _ 38 b4 h3
    simpa using this
  generalize w4.setCell ⟨X, 4, none⟩ b4 = w5 at h4 ⊢
  have h5 : (w5.setCell ⟨X, 5, none⟩ b5).heap[X]? = some (.cells #[b0, b1, b2, b3, b4, b5, a6, a7] 38 (0, 0)) := by
    have := heap_setCell_same w5 X 5 _ 38 b5 h4
    simpa using this
  generalize w5.setCell ⟨X, 5, none⟩ b5 = w6 at h5 ⊢
  have h6 : (w6.setCell ⟨X, 6, none⟩ b6).heap[X]? = some (.cells #[b0, b1, b2, b3, b4, b5, b6, a7] 38 (0, 0)) := by
    have := heap_setCell_same w6 X 6 _ 38 b6 h5
    simpa using this
  generalize w6.setCell ⟨X, 6, none⟩ b6 = w7 at h6 ⊢
  have h7 : (w7.setCell ⟨X, 7, none⟩ b7).heap[X]? = some (.cells #[b0, b1, b2, b3, b4, b5, b6, b7] 38 (0, 0)) := by
    have := heap_setCell_same w7 X 7 _ 38 b7 h6
    simpa using this
  exact h7
theorem RecAt.put {w0 w : World} {s : SeedV} {X : Nat} (b : Below w0.heap.size w0 w) (hb : w.heap[w0.heap.size]? = some (.cells (seedCells s) 51 (0, 0))) (hr : w.heap[w0.heap.size + 1]? = some (.cells recZero 38 (0, 0))) (hx : w.heap[X]? = some (.cells recZero 38 (0, 0))) (hX : w0.heap.size + 1 < X)
    (k t p l : Int) (x y z : ByteArray) :
    RecAt w0 ((((((((w.setCell ⟨X, 0, none⟩ (.int .i64 k)).setCell ⟨X, 1, none⟩ (.int .i64 t)).setCell ⟨X, 2, none⟩ (.int .i64 p)).setCell ⟨X, 3, none⟩ (.int .i64 l)).setCell ⟨X, 4, none⟩ (.string x)).setCell ⟨X, 5, none⟩ (.string y)).setCell ⟨X, 6, none⟩ (.string z)).setCell ⟨X, 7, none⟩ (.slice none 0 0)) s X := by
  have far : ∀ (W : World) (j k : Nat) (u : Value) (o : Obj), j ≠ X → W.heap[j]? = some o → (W.setCell ⟨X, k, none⟩ u).heap[j]? = some o := fun W j k u o hj h => (Below.heap_setCell W _ u j hj).trans h
  have n0 : w0.heap.size ≠ X := by omega
  have n1 : w0.heap.size + 1 ≠ X := by omega
  have g : w0.heap.size ≤ X := by omega
  refine ⟨B_set (B_set (B_set (B_set (B_set (B_set (B_set (B_set b g _) g _) g _) g _) g _) g _) g _) g _, ?_, ?_, hX, ⟨0, k, t, p, l, x, y, z, .slice none 0 0, []⟩, heap_set8 hx, .inl ⟨rfl, rfl⟩⟩
  · exact far _ _ _ _ _ n0 (far _ _ _ _ _ n0 (far _ _ _ _ _ n0 (far _ _ _ _ _ n0 (far _ _ _ _ _ n0 (far _ _ _ _ _ n0 (far _ _ _ _ _ n0 (far _ _ _ _ _ n0 hb)))))))
  · exact far _ _ _ _ _ n1 (far _ _ _ _ _ n1 (far _ _ _ _ _ n1 (far _ _ _ _ _ n1 (far _ _ _ _ _ n1 (far _ _ _ _ _ n1 (far _ _ _ _ _ n1 (far _ _ _ _ _ n1 hr)))))))

theorem info27 : (Try.prog.info? 27).map (fun i => (i.zero, i.size, i.bytes)) = some (some (.int .u64 0), 1, 8) := by kernel_rfl
theorem size27 : (Try.prog.info? 27).map (·.size) = some 1 := by kernel_rfl
theorem u64s_made (w : World) : ∃ W, (Instr.makeSlice 36 (.int .i64 6) (.int .i64 6)).run Try.prog w = .ok (.slice (some ⟨w.heap.size, 0, none⟩) 6 6) W ∧ Nums W .u64 27 w.heap.size (List.replicate 6 0) ∧ Below w.heap.size w W := by
  obtain ⟨i, hi, hz0, hz1, hz2⟩ := info_parts info27
  have := run_make (P := Try.prog) w 36 27 i _ Try.underlying36 hi hz0 .i64 .i64 6 6 (by omega) (Int.le_refl _) (by rw [hz2]; omega) (by omega)
  rw [hz1] at this
  refine ⟨_, this, ?_, (Below.refl _ _).alloc (Nat.le_refl _) _⟩
  simpa [Value.cells] using Nums.made w .u64 27 6
/-- the first numbers of a list of places, as they lie -/
theorem read_u64 {w : World} {g off : Nat} : ∀ (n : Nat), (∀ i, i < n → ∃ x : Int, w.cell? ⟨g, off + i, none⟩ = some (.int .u64 x)) → ∃ xs : List Int, xs.length = n ∧ ∀ j v, (xs.map (Value.int .u64))[j]? = some v → w.cell? ((⟨g, off, none⟩ : Addr).add j) = some v
  | 0, _ => ⟨[], rfl, fun j v h => by simp at h⟩
  | n + 1, h => by
    obtain ⟨xs, hl, hx⟩ := read_u64 n (fun i hi => h i (by omega))
    obtain ⟨x, hc⟩ := h n (by omega)
    refine ⟨xs ++ [x], by simp [hl], fun j v hj => ?_⟩
    by_cases hlt : j < n
    · refine hx j v ?_
      rw [List.map_append, List.getElem?_append_left (by simp [hl, hlt])] at hj
      exact hj
    · have : j = n := by
        have := (List.getElem?_eq_some_iff.1 hj).1
        simp [hl] at this; omega
      subst this
      rw [List.map_append, List.getElem?_append_right (by simp [hl])] at hj
      simp [hl] at hj
      rw [Addr.add_lit, hc, hj]
theorem copy_u64 {w : World} {g sg off n c : Nat} {xs : List Int} (hg : Nums w .u64 27 g (List.replicate 6 0)) (hl : xs.length = Nat.min n 6)
    (hx : ∀ j v, (xs.map (Value.int .u64))[j]? = some v → w.cell? ((⟨sg, off, none⟩ : Addr).add j) = some v) :
    ∃ w', (Builtin.copy_ #[36, 36] 3 #[.slice (some ⟨g, 0, none⟩) 6 6, .slice (some ⟨sg, off, none⟩) n c]).run Try.prog w = .ok (goInt xs.length) w' ∧ Nums w' .u64 27 g (xs ++ List.replicate (6 - xs.length) 0) ∧ Below g w w' := by
  have h6 : xs.length ≤ 6 := by rw [hl]; exact Nat.min_le_right _ _
  have := run_copy_row (P := Try.prog) w 36 36 3 27 g 0 6 6 ⟨sg, off, none⟩ n c _ 27 (xs.map (Value.int .u64)) Try.underlying36 size27 hg (by simp [hl]) hx (by simp; omega) (by simp [Value.oneCell'])
  rw [List.length_map] at this
  refine ⟨_, this, ?_, below_setRow (Below.refl _ _) (Nat.le_refl _) _⟩
  unfold Nums
  rw [setRow_heap w g _ _ 27 _ hg]
  simp
  show List.drop xs.length (List.replicate 6 (Value.int .u64 0)) = _
  rw [List.drop_replicate]

theorem DirtyAt.slice {w : World} {e : Ent} (h : DirtyAt w e) : ∃ A n c, e.dv = .slice A n c := by
  rcases h with h | ⟨_, _, _, _, _, h, _⟩
  · exact ⟨_, _, _, h.1⟩
  · exact ⟨_, _, _, h⟩
theorem size38 : (Try.prog.info? 38).map (·.size) = some 8 := by kernel_rfl
theorem rec_fin {w0 w : World} (b : Below w0.heap.size w0 w) (hr : w.heap[w0.heap.size + 1]? = some (.cells recZero 38 (0, 0))) {e : Ent} (hd : DirtyAt w e) (v0 v1 v2 v3 v4 v5 v6 v7 : Value) :
    DirtyAt ((((((((w.setCell ⟨w0.heap.size + 1, 0, none⟩ v0).setCell ⟨w0.heap.size + 1, 1, none⟩ v1).setCell ⟨w0.heap.size + 1, 2, none⟩ v2).setCell ⟨w0.heap.size + 1, 3, none⟩ v3).setCell ⟨w0.heap.size + 1, 4, none⟩ v4).setCell ⟨w0.heap.size + 1, 5, none⟩ v5).setCell ⟨w0.heap.size + 1, 6, none⟩ v6).setCell ⟨w0.heap.size + 1, 7, none⟩ v7) e ∧
    Below w0.heap.size w0 ((((((((w.setCell ⟨w0.heap.size + 1, 0, none⟩ v0).setCell ⟨w0.heap.size + 1, 1, none⟩ v1).setCell ⟨w0.heap.size + 1, 2, none⟩ v2).setCell ⟨w0.heap.size + 1, 3, none⟩ v3).setCell ⟨w0.heap.size + 1, 4, none⟩ v4).setCell ⟨w0.heap.size + 1, 5, none⟩ v5).setCell ⟨w0.heap.size + 1, 6, none⟩ v6).setCell ⟨w0.heap.size + 1, 7, none⟩ v7) := by
  have far : ∀ (W : World) (j k : Nat) (u : Value), j ≠ w0.heap.size + 1 → (W.setCell ⟨w0.heap.size + 1, k, none⟩ u).heap[j]? = W.heap[j]? := fun W j k u hj => Below.heap_setCell W _ u j hj
  have g : w0.heap.size ≤ w0.heap.size + 1 := Nat.le_succ _
  refine ⟨hd.of fun j cs t h38 _ _ h => ?_, B_set (B_set (B_set (B_set (B_set (B_set (B_set (B_set b g _) g _) g _) g _) g _) g _) g _) g _⟩
  have hj : j ≠ w0.heap.size + 1 := by
    rintro rfl
    rw [hr] at h
    injection h with h
    injection h with _ h
    exact h38 h.symm
  rw [far _ _ _ _ hj, far _ _ _ _ hj, far _ _ _ _ hj, far _ _ _ _ hj, far _ _ _ _ hj, far _ _ _ _ hj, far _ _ _ _ hj, far _ _ _ _ hj]

set_option maxRecDepth 100000 in
set_option maxHeartbeats 3200000 in
theorem record_any (s : SeedV) (w : World) (hs : s.ok w) : Calls Try.prog 15 #[s.val] w fun r w' => ∃ e : Ent, r = .returned (recVal e) ∧ DirtyAt w' e ∧ Below w.heap.size w w' := by
  go_enter Try.func15, Try.ntmps15
  unfold SeedV.val
  go_upto_region 1 with fail
  go_cut [3] (fun s3 wx => ∃ X : Nat, s3 = .pointer (some ⟨X, 0, none⟩) ∧ RecAt w wx s X)
  case first =>
    obtain ⟨B0, hB0⟩ : ∃ B0, B0 = w.heap.size := ⟨_, rfl⟩
    generalize hW : (w.alloc _).alloc _ = W
    have hb : Below w.heap.size w W := by rw [← hW]; exact B_alloc (B_alloc (Below.refl _ _) _) _
    have hbox : W.heap[B0]? = some (.cells (seedCells s) 51 (0, 0)) := by
      rw [hB0, ← hW, Below.heap_alloc _ _ _ (by simp), heap_alloc_new]; rfl
    have hres : W.heap[B0 + 1]? = some (.cells recZero 38 (0, 0)) := by
      rw [hB0, ← hW]
      have := heap_alloc_new (w.alloc (.cells (seedCells s) 51)) (.cells recZero 38)
      rw [show (w.alloc (.cells (seedCells s) 51)).heap.size = w.heap.size + 1 by simp] at this
      exact this
    have hsz : W.heap.size = B0 + 2 := by rw [hB0, ← hW]; simp
    rw [← hB0]
    have a0 : W.cell? ⟨B0, 0, none⟩ = some (.int .i64 s.kd) := cell_of_row W B0 0 _ _ _ hbox
    have a1 : W.cell? ⟨B0, 1, none⟩ = some (.int .i64 s.tx) := cell_of_row W B0 1 _ _ _ hbox
    have a2 : W.cell? ⟨B0, 2, none⟩ = some (.int .i64 s.pg) := cell_of_row W B0 2 _ _ _ hbox
    have a3 : W.cell? ⟨B0, 3, none⟩ = some (.int .i64 s.sl) := cell_of_row W B0 3 _ _ _ hbox
    have a4 : W.cell? ⟨B0, 4, none⟩ = some (.int .u8 s.bf) := cell_of_row W B0 4 _ _ _ hbox
    have a5 : W.cell? ⟨B0, 5, none⟩ = some (.int .u8 s.af) := cell_of_row W B0 5 _ _ _ hbox
    have d0 : W.drew.cell? ⟨B0, 0, none⟩ = some (.int .i64 s.kd) := a0
    have d1 : W.drew.cell? ⟨B0, 1, none⟩ = some (.int .i64 s.tx) := a1
    have d2 : W.drew.cell? ⟨B0, 2, none⟩ = some (.int .i64 s.pg) := a2
    have d3 : W.drew.cell? ⟨B0, 3, none⟩ = some (.int .i64 s.sl) := a3
    have d4 : W.drew.cell? ⟨B0, 4, none⟩ = some (.int .u8 s.bf) := a4
    have d5 : W.drew.cell? ⟨B0, 5, none⟩ = some (.int .u8 s.af) := a5
    have hboxd : W.drew.heap[B0]? = some (.cells (seedCells s) 51 (0, 0)) := hbox
    have hresd : W.drew.heap[B0 + 1]? = some (.cells recZero 38 (0, 0)) := hres
    have hbd : Below w.heap.size w W.drew := hb.drew
    have HB0 := hid hB0
    have HSZ := hid hsz
    clear hW hB0 hs hsz
    go_region_held3 (fun w' => w'.cell? ⟨B0, 0, none⟩ = some (.int .i64 s.kd) ∧ w'.cell? ⟨B0, 1, none⟩ = some (.int .i64 s.tx) ∧ w'.cell? ⟨B0, 2, none⟩ = some (.int .i64 s.pg) ∧ w'.cell? ⟨B0, 3, none⟩ = some (.int .i64 s.sl) ∧ w'.cell? ⟨B0, 4, none⟩ = some (.int .u8 s.bf) ∧ w'.cell? ⟨B0, 5, none⟩ = some (.int .u8 s.af))
      (first
        | (go_split_ands
           try dsimp only
           (repeat' apply And.intro) <;> first
             | with_reducible assumption
             | (iterate 8 (with_reducible apply cell_set; · (have := HSZ.out; omega))
                with_reducible assumption)
             | (with_reducible apply cell_below hcell; with_reducible assumption)
             | (with_reducible apply cell_swap (by with_reducible assumption); dsimp only; omega)
             | (with_reducible apply cell_alloc; with_reducible assumption)
             | (with_reducible apply cell_alloc_drew; with_reducible assumption))
        | (fail))
      (first
        | (go_at_call 17; (with_reducible refine (cell_any s.bf _).mono ?_); rintro e w1 ⟨⟨s1, rfl⟩, hcell⟩
           have hsz1 : B0 + 2 ≤ w1.heap.size := Nat.le_trans (by first | exact Nat.le_of_eq HSZ.out.symm | (have := HSZ.out; simp; omega) | omega) hcell.size
           have hbox1 : w1.heap[B0]? = some (.cells (seedCells s) 51 (0, 0)) := by
             with_reducible refine blk_keep hcell ?_
             first | with_reducible assumption | (with_reducible refine blk_alloc_drew ?_; with_reducible assumption) | (with_reducible refine blk_alloc ?_; with_reducible assumption)
           have hres1 : w1.heap[B0 + 1]? = some (.cells recZero 38 (0, 0)) := by
             with_reducible refine blk_keep hcell ?_
             first | with_reducible assumption | (with_reducible refine blk_alloc_drew ?_; with_reducible assumption) | (with_reducible refine blk_alloc ?_; with_reducible assumption)
           have hb1 : Below w.heap.size w w1 := by
             with_reducible refine B_call ?_ hcell
             first | with_reducible assumption | (with_reducible refine Below.drew (B_alloc ?_ _); with_reducible assumption) | (with_reducible refine B_alloc ?_ _; with_reducible assumption)
           try (
             have hnew := (hcell.block _ (Nat.lt_of_lt_of_eq (Nat.lt_succ_self _) (World.size_alloc _ _).symm)).trans (heap_alloc_new _ _)
             try simp only [heap_drew] at hnew
             have n0 := (cell_of_row w1 _ 0 _ _ _ hnew).trans (show _ = some (Value.int .i64 0) from rfl)
             have f0 := frozen_of_row w1 _ 0 _ _ hnew
             have n1 := (cell_of_row w1 _ 1 _ _ _ hnew).trans (show _ = some (Value.int .i64 0) from rfl)
             have f1 := frozen_of_row w1 _ 1 _ _ hnew
             have n2 := (cell_of_row w1 _ 2 _ _ _ hnew).trans (show _ = some (Value.int .i64 0) from rfl)
             have f2 := frozen_of_row w1 _ 2 _ _ hnew
             have n3 := (cell_of_row w1 _ 3 _ _ _ hnew).trans (show _ = some (Value.int .i64 0) from rfl)
             have f3 := frozen_of_row w1 _ 3 _ _ hnew
             have n4 := (cell_of_row w1 _ 4 _ _ _ hnew).trans (show _ = some (Value.string ⟨#[]⟩) from rfl)
             have f4 := frozen_of_row w1 _ 4 _ _ hnew
             have n5 := (cell_of_row w1 _ 5 _ _ _ hnew).trans (show _ = some (Value.string ⟨#[]⟩) from rfl)
             have f5 := frozen_of_row w1 _ 5 _ _ hnew
             have n6 := (cell_of_row w1 _ 6 _ _ _ hnew).trans (show _ = some (Value.string ⟨#[]⟩) from rfl)
             have f6 := frozen_of_row w1 _ 6 _ _ hnew
             have n7 := (cell_of_row w1 _ 7 _ _ _ hnew).trans (show _ = some (Value.slice none 0 0) from rfl)
             have f7 := frozen_of_row w1 _ 7 _ _ hnew)
           try (
             have hnew : w1.heap[W.heap.size]? = some (.cells recZero 38 (0, 0)) := (hcell.block W.heap.size (by show _ < (W.alloc _).heap.size; simp)).trans (heap_alloc_new W _)
             have n0 := (cell_of_row w1 _ 0 _ _ _ hnew).trans (show _ = some (Value.int .i64 0) from rfl)
             have f0 := frozen_of_row w1 _ 0 _ _ hnew
             have n1 := (cell_of_row w1 _ 1 _ _ _ hnew).trans (show _ = some (Value.int .i64 0) from rfl)
             have f1 := frozen_of_row w1 _ 1 _ _ hnew
             have n2 := (cell_of_row w1 _ 2 _ _ _ hnew).trans (show _ = some (Value.int .i64 0) from rfl)
             have f2 := frozen_of_row w1 _ 2 _ _ hnew
             have n3 := (cell_of_row w1 _ 3 _ _ _ hnew).trans (show _ = some (Value.int .i64 0) from rfl)
             have f3 := frozen_of_row w1 _ 3 _ _ hnew
             have n4 := (cell_of_row w1 _ 4 _ _ _ hnew).trans (show _ = some (Value.string ⟨#[]⟩) from rfl)
             have f4 := frozen_of_row w1 _ 4 _ _ hnew
             have n5 := (cell_of_row w1 _ 5 _ _ _ hnew).trans (show _ = some (Value.string ⟨#[]⟩) from rfl)
             have f5 := frozen_of_row w1 _ 5 _ _ hnew
             have n6 := (cell_of_row w1 _ 6 _ _ _ hnew).trans (show _ = some (Value.string ⟨#[]⟩) from rfl)
             have f6 := frozen_of_row w1 _ 6 _ _ hnew
             have n7 := (cell_of_row w1 _ 7 _ _ _ hnew).trans (show _ = some (Value.slice none 0 0) from rfl)
             have f7 := frozen_of_row w1 _ 7 _ _ hnew)
           try (
             have hnew : w1.heap[W.heap.size]? = some (.cells recZero 38 (0, 0)) := blk_keep hcell (by with_reducible assumption)
             have n0 := (cell_of_row w1 _ 0 _ _ _ hnew).trans (show _ = some (Value.int .i64 0) from rfl)
             have f0 := frozen_of_row w1 _ 0 _ _ hnew
             have n1 := (cell_of_row w1 _ 1 _ _ _ hnew).trans (show _ = some (Value.int .i64 0) from rfl)
             have f1 := frozen_of_row w1 _ 1 _ _ hnew
             have n2 := (cell_of_row w1 _ 2 _ _ _ hnew).trans (show _ = some (Value.int .i64 0) from rfl)
             have f2 := frozen_of_row w1 _ 2 _ _ hnew
             have n3 := (cell_of_row w1 _ 3 _ _ _ hnew).trans (show _ = some (Value.int .i64 0) from rfl)
             have f3 := frozen_of_row w1 _ 3 _ _ hnew
             have n4 := (cell_of_row w1 _ 4 _ _ _ hnew).trans (show _ = some (Value.string ⟨#[]⟩) from rfl)
             have f4 := frozen_of_row w1 _ 4 _ _ hnew
             have n5 := (cell_of_row w1 _ 5 _ _ _ hnew).trans (show _ = some (Value.string ⟨#[]⟩) from rfl)
             have f5 := frozen_of_row w1 _ 5 _ _ hnew
             have n6 := (cell_of_row w1 _ 6 _ _ _ hnew).trans (show _ = some (Value.string ⟨#[]⟩) from rfl)
             have f6 := frozen_of_row w1 _ 6 _ _ hnew
             have n7 := (cell_of_row w1 _ 7 _ _ _ hnew).trans (show _ = some (Value.slice none 0 0) from rfl)
             have f7 := frozen_of_row w1 _ 7 _ _ hnew))
        | (go_at_call 17; (with_reducible refine (cell_any s.af _).mono ?_); rintro e w1 ⟨⟨s1, rfl⟩, hcell⟩
           have hsz1 : B0 + 2 ≤ w1.heap.size := Nat.le_trans (by first | exact Nat.le_of_eq HSZ.out.symm | (have := HSZ.out; simp; omega) | omega) hcell.size
           have hbox1 : w1.heap[B0]? = some (.cells (seedCells s) 51 (0, 0)) := by
             with_reducible refine blk_keep hcell ?_
             first | with_reducible assumption | (with_reducible refine blk_alloc_drew ?_; with_reducible assumption) | (with_reducible refine blk_alloc ?_; with_reducible assumption)
           have hres1 : w1.heap[B0 + 1]? = some (.cells recZero 38 (0, 0)) := by
             with_reducible refine blk_keep hcell ?_
             first | with_reducible assumption | (with_reducible refine blk_alloc_drew ?_; with_reducible assumption) | (with_reducible refine blk_alloc ?_; with_reducible assumption)
           have hb1 : Below w.heap.size w w1 := by
             with_reducible refine B_call ?_ hcell
             first | with_reducible assumption | (with_reducible refine Below.drew (B_alloc ?_ _); with_reducible assumption) | (with_reducible refine B_alloc ?_ _; with_reducible assumption)
           try (
             have hnew := (hcell.block _ (Nat.lt_of_lt_of_eq (Nat.lt_succ_self _) (World.size_alloc _ _).symm)).trans (heap_alloc_new _ _)
             try simp only [heap_drew] at hnew
             have n0 := (cell_of_row w1 _ 0 _ _ _ hnew).trans (show _ = some (Value.int .i64 0) from rfl)
             have f0 := frozen_of_row w1 _ 0 _ _ hnew
             have n1 := (cell_of_row w1 _ 1 _ _ _ hnew).trans (show _ = some (Value.int .i64 0) from rfl)
             have f1 := frozen_of_row w1 _ 1 _ _ hnew
             have n2 := (cell_of_row w1 _ 2 _ _ _ hnew).trans (show _ = some (Value.int .i64 0) from rfl)
             have f2 := frozen_of_row w1 _ 2 _ _ hnew
             have n3 := (cell_of_row w1 _ 3 _ _ _ hnew).trans (show _ = some (Value.int .i64 0) from rfl)
             have f3 := frozen_of_row w1 _ 3 _ _ hnew
             have n4 := (cell_of_row w1 _ 4 _ _ _ hnew).trans (show _ = some (Value.string ⟨#[]⟩) from rfl)
             have f4 := frozen_of_row w1 _ 4 _ _ hnew
             have n5 := (cell_of_row w1 _ 5 _ _ _ hnew).trans (show _ = some (Value.string ⟨#[]⟩) from rfl)
             have f5 := frozen_of_row w1 _ 5 _ _ hnew
             have n6 := (cell_of_row w1 _ 6 _ _ _ hnew).trans (show _ = some (Value.string ⟨#[]⟩) from rfl)
             have f6 := frozen_of_row w1 _ 6 _ _ hnew
             have n7 := (cell_of_row w1 _ 7 _ _ _ hnew).trans (show _ = some (Value.slice none 0 0) from rfl)
             have f7 := frozen_of_row w1 _ 7 _ _ hnew)
           try (
             have hnew : w1.heap[W.heap.size]? = some (.cells recZero 38 (0, 0)) := (hcell.block W.heap.size (by show _ < (W.alloc _).heap.size; simp)).trans (heap_alloc_new W _)
             have n0 := (cell_of_row w1 _ 0 _ _ _ hnew).trans (show _ = some (Value.int .i64 0) from rfl)
             have f0 := frozen_of_row w1 _ 0 _ _ hnew
             have n1 := (cell_of_row w1 _ 1 _ _ _ hnew).trans (show _ = some (Value.int .i64 0) from rfl)
             have f1 := frozen_of_row w1 _ 1 _ _ hnew
             have n2 := (cell_of_row w1 _ 2 _ _ _ hnew).trans (show _ = some (Value.int .i64 0) from rfl)
             have f2 := frozen_of_row w1 _ 2 _ _ hnew
             have n3 := (cell_of_row w1 _ 3 _ _ _ hnew).trans (show _ = some (Value.int .i64 0) from rfl)
             have f3 := frozen_of_row w1 _ 3 _ _ hnew
             have n4 := (cell_of_row w1 _ 4 _ _ _ hnew).trans (show _ = some (Value.string ⟨#[]⟩) from rfl)
             have f4 := frozen_of_row w1 _ 4 _ _ hnew
             have n5 := (cell_of_row w1 _ 5 _ _ _ hnew).trans (show _ = some (Value.string ⟨#[]⟩) from rfl)
             have f5 := frozen_of_row w1 _ 5 _ _ hnew
             have n6 := (cell_of_row w1 _ 6 _ _ _ hnew).trans (show _ = some (Value.string ⟨#[]⟩) from rfl)
             have f6 := frozen_of_row w1 _ 6 _ _ hnew
             have n7 := (cell_of_row w1 _ 7 _ _ _ hnew).trans (show _ = some (Value.slice none 0 0) from rfl)
             have f7 := frozen_of_row w1 _ 7 _ _ hnew)
           try (
             have hnew : w1.heap[W.heap.size]? = some (.cells recZero 38 (0, 0)) := blk_keep hcell (by with_reducible assumption)
             have n0 := (cell_of_row w1 _ 0 _ _ _ hnew).trans (show _ = some (Value.int .i64 0) from rfl)
             have f0 := frozen_of_row w1 _ 0 _ _ hnew
             have n1 := (cell_of_row w1 _ 1 _ _ _ hnew).trans (show _ = some (Value.int .i64 0) from rfl)
             have f1 := frozen_of_row w1 _ 1 _ _ hnew
             have n2 := (cell_of_row w1 _ 2 _ _ _ hnew).trans (show _ = some (Value.int .i64 0) from rfl)
             have f2 := frozen_of_row w1 _ 2 _ _ hnew
             have n3 := (cell_of_row w1 _ 3 _ _ _ hnew).trans (show _ = some (Value.int .i64 0) from rfl)
             have f3 := frozen_of_row w1 _ 3 _ _ hnew
             have n4 := (cell_of_row w1 _ 4 _ _ _ hnew).trans (show _ = some (Value.string ⟨#[]⟩) from rfl)
             have f4 := frozen_of_row w1 _ 4 _ _ hnew
             have n5 := (cell_of_row w1 _ 5 _ _ _ hnew).trans (show _ = some (Value.string ⟨#[]⟩) from rfl)
             have f5 := frozen_of_row w1 _ 5 _ _ hnew
             have n6 := (cell_of_row w1 _ 6 _ _ _ hnew).trans (show _ = some (Value.string ⟨#[]⟩) from rfl)
             have f6 := frozen_of_row w1 _ 6 _ _ hnew
             have n7 := (cell_of_row w1 _ 7 _ _ _ hnew).trans (show _ = some (Value.slice none 0 0) from rfl)
             have f7 := frozen_of_row w1 _ 7 _ _ hnew)))
    all_goals go_wp2_with fail
    all_goals obtain rfl := HB0.out
    all_goals go_meet
    · exact ⟨_, rfl, RecAt.made hb1 hbox1 hres1 ⟨0, _, _, _, _, _, _, _, _, []⟩ ⟨rfl, rfl⟩⟩
    · refine ⟨_, rfl, ?_⟩
      with_reducible refine RecAt.put hb1 hbox1 hres1 ?_ ?_ _ _ _ _ _ _ _
      · assumption
      · have := HSZ.out; omega
    · refine ⟨_, rfl, ?_⟩
      with_reducible refine RecAt.put hb1 hbox1 hres1 ?_ ?_ _ _ _ _ _ _ _
      · assumption
      · have := HSZ.out; omega
  case rest =>
    obtain ⟨X, rfl, hR⟩ := hcut
    have a6 : wc.cell? ⟨w.heap.size, 6, none⟩ = some (.int .u8 s.im) := cell_of_row wc _ 6 _ _ _ hR.box
    go_upto_if 33 with fail
    go_cut [] (fun wx => RecAt w wx s X)
    case first =>
      by_cases him : 0 < s.im
      · have hd : decide (0 < s.im) = true := by simpa using him
        obtain ⟨W, hrun, hN, hB⟩ := bytes_made wc 256 (by omega)
        simp only [Int.cast_ofNat_Int] at hrun
        obtain ⟨g, hg⟩ : ∃ g, g = wc.heap.size := ⟨_, rfl⟩
        rw [← hg] at hrun hN
        have HG := hid hg
        clear hg
        have c3 := hN.cell (i := 3) (by simp)
        have c200 := hN.cell (i := 200) (by simp)
        have f3 := hN.frozen 3
        have f200 := hN.frozen 200
        have a6' : W.cell? ⟨w.heap.size, 6, none⟩ = some (.int .u8 s.im) := cell_below hB a6
        have hlt : w.heap.size < g := by rw [HG.out]; exact World.block_lt_of_cell? _ _ a6
        go_wp2_with fail
        go_region_held3 (fun w' => w'.cell? ⟨w.heap.size, 6, none⟩ = some (.int .u8 s.im))
          (first
            | with_reducible assumption
            | exact a6'
            | (with_reducible apply cell_drew
               repeat (with_reducible apply cell_set; · omega)
               with_reducible assumption))
          (fail)
        obtain ⟨str, hstr⟩ := (show Nums ((W.setCell ⟨g, 3, none⟩ (.int .u8 s.im)).setCell ⟨g, 200, none⟩ (.int .u8 s.im)).drew .u8 5 g _ from ((hN.set 3 s.im).set 200 s.im)).str 256 (by simp)
        obtain ⟨e, he, hde⟩ := hR.e
        have hXg : X < g := by rw [HG.out]; exact (Array.getElem?_eq_some_iff.1 he).1
        have hBW : Below wc.heap.size wc ((W.setCell ⟨g, 3, none⟩ (.int .u8 s.im)).setCell ⟨g, 200, none⟩ (.int .u8 s.im)).drew :=
          (Below.setCell (Below.setCell hB (p := ⟨g, 3, none⟩) (Nat.le_of_eq HG.out.symm) _) (p := ⟨g, 200, none⟩) (Nat.le_of_eq HG.out.symm) _).drew
        generalize ((W.setCell ⟨g, 3, none⟩ (.int .u8 s.im)).setCell ⟨g, 200, none⟩ (.int .u8 s.im)).drew = W2 at hstr hBW ⊢
        have he2 : W2.heap[X]? = some (.cells (recCells e) 38 (0, 0)) := blk_keep hBW he
        have hcX : W2.cell? ⟨X, 6, none⟩ = some (.string e.im) := cell_of_row W2 _ 6 _ _ _ he2
        have hfX : W2.frozen? ⟨X, 6, none⟩ = false := frozen_of_row W2 _ 6 _ _ he2
        have hb2 := blk_keep hBW hR.box
        have hr2 := blk_keep hBW hR.res
        have hxb := hR.x
        have hB2 := B_call hR.b hBW
        have hde2 := hde.below hBW
        clear hde he a6' a6 hB hN hrun c3 c200 f3 f200 hR
        go_wp2_with fail
        go_meet
        refine ⟨B_set hB2 (p := ⟨X, 6, none⟩) (by show _ ≤ X; omega) _, (Below.heap_setCell W2 _ _ _ (by show _ ≠ X; omega)).trans hb2, (Below.heap_setCell W2 _ _ _ (by show _ ≠ X; omega)).trans hr2, hxb, ⟨e.pl, e.kd, e.tx, e.pg, e.sl, e.bf, e.af, str, e.dv, e.dl⟩, heap_setCell_same W2 X 6 _ _ _ he2, ?_⟩
        exact DirtyAt.of (e := ⟨e.pl, e.kd, e.tx, e.pg, e.sl, e.bf, e.af, str, e.dv, e.dl⟩) hde2 fun g cs t h38 _ _ h => Below.heap_setCell W2 _ _ _ (by
          show g ≠ X
          rintro rfl
          rw [he2] at h
          injection h with h
          injection h with _ h
          exact h38 h.symm)
      · have hd : decide (0 < s.im) = false := by simpa using him
        go_wp2_with fail
        go_meet
        exact hR
    case rest =>
      have b7 : wc.cell? ⟨w.heap.size, 7, none⟩ = some (.slice s.A s.len s.cap) := cell_of_row wc _ 7 _ _ _ hcut.box
      obtain ⟨e, he, hde⟩ := hcut.e
      have hr := hcut.res
      have hB := hcut.b
      have hxb := hcut.x
      by_cases hgo : e.kd = 7 ∧ 0 < s.len
      · obtain ⟨A1, n1, c1, hdv⟩ := hde.slice
        obtain ⟨pl, kd, tx, pg, sl, bf, af, im, dv, dl⟩ := e
        simp only at hdv hgo
        subst hdv
        obtain ⟨rfl, hlen⟩ := hgo
        have hl1 : decide ((0 : Int) < (s.len : Int)) = true := by simpa using hlen
        obtain ⟨W, hrun, hN, hBW⟩ := u64s_made wc
        obtain ⟨g, hg⟩ : ∃ g, g = wc.heap.size := ⟨_, rfl⟩
        rw [← hg] at hrun hN
        have HG := hid hg
        have hXg : X < g := by rw [hg]; exact (Array.getElem?_eq_some_iff.1 he).1
        clear hg
        obtain ⟨_, hsl⟩ := hs
        obtain ⟨sg, off, hA, hsg, hrd⟩ := hsl.resolve_left (by omega)
        have hWX : W.heap[X]? = some (.cells (recCells ⟨pl, 7, tx, pg, sl, bf, af, im, .slice A1 n1 c1, dl⟩) 38 (0, 0)) := blk_keep hBW he
        have y7 : W.cell? ⟨X, 7, none⟩ = some (.slice A1 n1 c1) := cell_of_row W _ 7 _ _ _ hWX
        have z7 : W.frozen? ⟨X, 7, none⟩ = false := frozen_of_row W _ 7 _ _ hWX
        have x0 : wc.cell? ⟨X, 0, none⟩ = some (.int .i64 7) := cell_of_row wc _ 0 _ _ _ he
        have hB3 := B_set (B_call hB hBW) (p := ⟨X, 7, none⟩) (by show _ ≤ X; omega) (.slice (some ⟨g, 0, none⟩) 6 6)
        have hne0 : w.heap.size ≠ X := by omega
        have hne1 : w.heap.size + 1 ≠ X := by omega
        have hneg : g ≠ X := by omega
        have hbx3 := (Below.heap_setCell W ⟨X, 7, none⟩ (.slice (some ⟨g, 0, none⟩) 6 6) _ hne0).trans (blk_keep hBW hcut.box)
        have hr3 := (Below.heap_setCell W ⟨X, 7, none⟩ (.slice (some ⟨g, 0, none⟩) 6 6) _ hne1).trans (blk_keep hBW hr)
        have hg3 := (Below.heap_setCell W ⟨X, 7, none⟩ (.slice (some ⟨g, 0, none⟩) 6 6) _ hneg).trans hN
        have hX3 : (W.setCell ⟨X, 7, none⟩ (.slice (some ⟨g, 0, none⟩) 6 6)).heap[X]? = some (.cells (recCells ⟨pl, 7, tx, pg, sl, bf, af, im, .slice (some ⟨g, 0, none⟩) 6 6, dl⟩) 38 (0, 0)) := heap_setCell_same W X 7 _ _ _ hWX
        have hb3 : (W.setCell ⟨X, 7, none⟩ (.slice (some ⟨g, 0, none⟩) 6 6)).cell? ⟨w.heap.size, 7, none⟩ = some (.slice s.A s.len s.cap) := cell_of_row _ _ 7 _ _ _ hbx3
        obtain ⟨xs, hxl, hxs⟩ := read_u64 (w := W.setCell ⟨X, 7, none⟩ (.slice (some ⟨g, 0, none⟩) 6 6)) (g := sg) (off := off) (Nat.min s.len 6) (fun i hi => by
          obtain ⟨x, hx⟩ := hrd i (Nat.lt_of_lt_of_le hi (Nat.min_le_left _ _))
          exact ⟨x, cell_below hB3 hx⟩)
        obtain ⟨W5, hcopy, hN5, hB5⟩ := copy_u64 (c := s.cap) hg3 hxl hxs
        have HX3 := hid hX3
        have HR3 := hid hr3
        have HB3 := hid hB3
        have HN5 := hid hN5
        have HB5 := hid hB5
        have HXL := hid hxl
        clear hxs hxl hg3 hX3 hr3 hB3 hbx3 hWX hcut hR hN hBW hrd he hde hr hB hN5 hB5
        go_upto_region 9 with fail
        have he5 := (HB5.out.block X hXg).trans HX3.out
        have hr5 := (HB5.out.block (w.heap.size + 1) (by omega)).trans HR3.out
        have hb5 : Below w.heap.size w W5 := HB3.out.trans (HB5.out.mono (by omega))
        have hl6 : (xs ++ List.replicate (6 - xs.length) 0).length = 6 := by
          have h6 : xs.length ≤ 6 := by rw [HXL.out]; exact Nat.min_le_right _ _
          rw [List.length_append, List.length_replicate]; omega
        have hd5 : DirtyAt W5 ⟨pl, 7, tx, pg, sl, bf, af, im, .slice (some ⟨g, 0, none⟩) 6 6, xs ++ List.replicate (6 - xs.length) 0⟩ := by
          refine .inr ⟨g, 0, 6, _, 27, ?_, by decide, by decide, by decide, HN5.out, ?_, fun i hi => ?_⟩
          · show Value.slice _ 6 6 = .slice _ (xs ++ List.replicate (6 - xs.length) 0).length 6
            rw [hl6]
          · show (xs ++ List.replicate (6 - xs.length) 0).length ≤ maxLen
            rw [hl6]; decide
          · have := HN5.out.cell hi
            rw [cell_of_row W5 g i _ _ _ HN5.out] at this
            rw [Nat.zero_add]; exact this
        have hfin := rec_fin hb5 hr5 hd5 (.int .i64 7) (.int .i64 tx) (.int .i64 pg) (.int .i64 sl) (.string bf) (.string af) (.string im) (.slice (some ⟨g, 0, none⟩) 6 6)
        have x0 : W5.cell? ⟨X, 0, none⟩ = some (.int .i64 7) := cell_of_row W5 _ 0 _ _ _ he5
        have r0 : W5.cell? ⟨w.heap.size + 1, 0, none⟩ = some (.int .i64 0) := cell_of_row W5 _ 0 _ _ _ hr5
        have q0 : W5.frozen? ⟨w.heap.size + 1, 0, none⟩ = false := frozen_of_row W5 _ 0 _ _ hr5
        have x1 : W5.cell? ⟨X, 1, none⟩ = some (.int .i64 tx) := cell_of_row W5 _ 1 _ _ _ he5
        have r1 : W5.cell? ⟨w.heap.size + 1, 1, none⟩ = some (.int .i64 0) := cell_of_row W5 _ 1 _ _ _ hr5
        have q1 : W5.frozen? ⟨w.heap.size + 1, 1, none⟩ = false := frozen_of_row W5 _ 1 _ _ hr5
        have x2 : W5.cell? ⟨X, 2, none⟩ = some (.int .i64 pg) := cell_of_row W5 _ 2 _ _ _ he5
        have r2 : W5.cell? ⟨w.heap.size + 1, 2, none⟩ = some (.int .i64 0) := cell_of_row W5 _ 2 _ _ _ hr5
        have q2 : W5.frozen? ⟨w.heap.size + 1, 2, none⟩ = false := frozen_of_row W5 _ 2 _ _ hr5
        have x3 : W5.cell? ⟨X, 3, none⟩ = some (.int .i64 sl) := cell_of_row W5 _ 3 _ _ _ he5
        have r3 : W5.cell? ⟨w.heap.size + 1, 3, none⟩ = some (.int .i64 0) := cell_of_row W5 _ 3 _ _ _ hr5
        have q3 : W5.frozen? ⟨w.heap.size + 1, 3, none⟩ = false := frozen_of_row W5 _ 3 _ _ hr5
        have x4 : W5.cell? ⟨X, 4, none⟩ = some (.string bf) := cell_of_row W5 _ 4 _ _ _ he5
        have r4 : W5.cell? ⟨w.heap.size + 1, 4, none⟩ = some (.string ⟨#[]⟩) := cell_of_row W5 _ 4 _ _ _ hr5
        have q4 : W5.frozen? ⟨w.heap.size + 1, 4, none⟩ = false := frozen_of_row W5 _ 4 _ _ hr5
        have x5 : W5.cell? ⟨X, 5, none⟩ = some (.string af) := cell_of_row W5 _ 5 _ _ _ he5
        have r5 : W5.cell? ⟨w.heap.size + 1, 5, none⟩ = some (.string ⟨#[]⟩) := cell_of_row W5 _ 5 _ _ _ hr5
        have q5 : W5.frozen? ⟨w.heap.size + 1, 5, none⟩ = false := frozen_of_row W5 _ 5 _ _ hr5
        have x6 : W5.cell? ⟨X, 6, none⟩ = some (.string im) := cell_of_row W5 _ 6 _ _ _ he5
        have r6 : W5.cell? ⟨w.heap.size + 1, 6, none⟩ = some (.string ⟨#[]⟩) := cell_of_row W5 _ 6 _ _ _ hr5
        have q6 : W5.frozen? ⟨w.heap.size + 1, 6, none⟩ = false := frozen_of_row W5 _ 6 _ _ hr5
        have x7 : W5.cell? ⟨X, 7, none⟩ = some (.slice (some ⟨g, 0, none⟩) 6 6) := cell_of_row W5 _ 7 _ _ _ he5
        have r7 : W5.cell? ⟨w.heap.size + 1, 7, none⟩ = some (.slice none 0 0) := cell_of_row W5 _ 7 _ _ _ hr5
        have q7 : W5.frozen? ⟨w.heap.size + 1, 7, none⟩ = false := frozen_of_row W5 _ 7 _ _ hr5
        have HF := hid hfin
        have HH := hid (heap_set8 (b0 := .int .i64 7) (b1 := .int .i64 tx) (b2 := .int .i64 pg) (b3 := .int .i64 sl) (b4 := .string bf) (b5 := .string af) (b6 := .string im) (b7 := (.slice (some ⟨g, 0, none⟩) 6 6)) hr5)
        clear hfin hd5 hl6 hb5 he5 hr5 hcopy hrun hA y7 z7 hb3
        go_wp2_with fail
        refine bodyPost_ret (results_cell_row rfl _ _ (w.heap.size + 1) 38 _ _ _ rfl HH.out Try.underlying38 rfl size38) rfl ?_
        exact ⟨⟨pl, 7, tx, pg, sl, bf, af, im, .slice (some ⟨g, 0, none⟩) 6 6, _⟩, rfl, HF.out⟩
      · obtain ⟨A1, n1, c1, hdv⟩ := hde.slice
        obtain ⟨pl, kd, tx, pg, sl, bf, af, im, dv, dl⟩ := e
        simp only at hdv hgo
        subst hdv
        have hfin := rec_fin hB hr hde (.int .i64 kd) (.int .i64 tx) (.int .i64 pg) (.int .i64 sl) (.string bf) (.string af) (.string im) (.slice A1 n1 c1)
        have x0 : wc.cell? ⟨X, 0, none⟩ = some (.int .i64 kd) := cell_of_row wc _ 0 _ _ _ he
        have r0 : wc.cell? ⟨w.heap.size + 1, 0, none⟩ = some (.int .i64 0) := cell_of_row wc _ 0 _ _ _ hr
        have q0 : wc.frozen? ⟨w.heap.size + 1, 0, none⟩ = false := frozen_of_row wc _ 0 _ _ hr
        have x1 : wc.cell? ⟨X, 1, none⟩ = some (.int .i64 tx) := cell_of_row wc _ 1 _ _ _ he
        have r1 : wc.cell? ⟨w.heap.size + 1, 1, none⟩ = some (.int .i64 0) := cell_of_row wc _ 1 _ _ _ hr
        have q1 : wc.frozen? ⟨w.heap.size + 1, 1, none⟩ = false := frozen_of_row wc _ 1 _ _ hr
        have x2 : wc.cell? ⟨X, 2, none⟩ = some (.int .i64 pg) := cell_of_row wc _ 2 _ _ _ he
        have r2 : wc.cell? ⟨w.heap.size + 1, 2, none⟩ = some (.int .i64 0) := cell_of_row wc _ 2 _ _ _ hr
        have q2 : wc.frozen? ⟨w.heap.size + 1, 2, none⟩ = false := frozen_of_row wc _ 2 _ _ hr
        have x3 : wc.cell? ⟨X, 3, none⟩ = some (.int .i64 sl) := cell_of_row wc _ 3 _ _ _ he
        have r3 : wc.cell? ⟨w.heap.size + 1, 3, none⟩ = some (.int .i64 0) := cell_of_row wc _ 3 _ _ _ hr
        have q3 : wc.frozen? ⟨w.heap.size + 1, 3, none⟩ = false := frozen_of_row wc _ 3 _ _ hr
        have x4 : wc.cell? ⟨X, 4, none⟩ = some (.string bf) := cell_of_row wc _ 4 _ _ _ he
        have r4 : wc.cell? ⟨w.heap.size + 1, 4, none⟩ = some (.string ⟨#[]⟩) := cell_of_row wc _ 4 _ _ _ hr
        have q4 : wc.frozen? ⟨w.heap.size + 1, 4, none⟩ = false := frozen_of_row wc _ 4 _ _ hr
        have x5 : wc.cell? ⟨X, 5, none⟩ = some (.string af) := cell_of_row wc _ 5 _ _ _ he
        have r5 : wc.cell? ⟨w.heap.size + 1, 5, none⟩ = some (.string ⟨#[]⟩) := cell_of_row wc _ 5 _ _ _ hr
        have q5 : wc.frozen? ⟨w.heap.size + 1, 5, none⟩ = false := frozen_of_row wc _ 5 _ _ hr
        have x6 : wc.cell? ⟨X, 6, none⟩ = some (.string im) := cell_of_row wc _ 6 _ _ _ he
        have r6 : wc.cell? ⟨w.heap.size + 1, 6, none⟩ = some (.string ⟨#[]⟩) := cell_of_row wc _ 6 _ _ _ hr
        have q6 : wc.frozen? ⟨w.heap.size + 1, 6, none⟩ = false := frozen_of_row wc _ 6 _ _ hr
        have x7 : wc.cell? ⟨X, 7, none⟩ = some (.slice A1 n1 c1) := cell_of_row wc _ 7 _ _ _ he
        have r7 : wc.cell? ⟨w.heap.size + 1, 7, none⟩ = some (.slice none 0 0) := cell_of_row wc _ 7 _ _ _ hr
        have q7 : wc.frozen? ⟨w.heap.size + 1, 7, none⟩ = false := frozen_of_row wc _ 7 _ _ hr
        have HF := hid hfin
        have HH := hid (heap_set8 (b0 := .int .i64 kd) (b1 := .int .i64 tx) (b2 := .int .i64 pg) (b3 := .int .i64 sl) (b4 := .string bf) (b5 := .string af) (b6 := .string im) (b7 := .slice A1 n1 c1) hr)
        clear hfin hR hcut he hde
        by_cases hk : kd = 7
        · have hl : s.len = 0 := by omega
          have hl1 : decide ((0 : Int) < (s.len : Int)) = false := by rw [hl]; rfl
          subst hk
          go_wp2_with fail
          refine bodyPost_ret (results_cell_row rfl _ _ (w.heap.size + 1) 38 _ _ _ rfl HH.out Try.underlying38 rfl size38) rfl ?_
          exact ⟨⟨pl, 7, tx, pg, sl, bf, af, im, .slice A1 n1 c1, dl⟩, rfl, HF.out⟩
        · have hk7 : (kd == 7) = false := by simpa using hk
          go_wp2_with fail
          refine bodyPost_ret (results_cell_row rfl _ _ (w.heap.size + 1) 38 _ _ _ rfl HH.out Try.underlying38 rfl size38) rfl ?_
          exact ⟨⟨pl, kd, tx, pg, sl, bf, af, im, .slice A1 n1 c1, dl⟩, rfl, HF.out⟩

end Go.Proofs.Ytcolblmhopjgpaa
