/-
  Blocks of numbers; cell walked.
-/
import Derived.Test.YtcolblmhopjgpaaRows
import Derived.WalkKit
import Derived.ProofKit
import Derived.Deep.QuietTactic
import Derived.BigQuiet
import Derived.BigRegion
import Derived.Deep.AppendLies
import Derived.Laws.BytesArg
import Derived.OwnWalk
namespace Go.Proofs.Ytcolblmhopjgpaa
open Go.RowKit

theorem hid {p : Prop} (h : p) : Hid p := h
def iok (x : Int) : Prop := (Lit.int .i64 x).wf = true

/-- a block of numbers -/
def Nums (w : World) (k : IntKind) (t : TypeId) (g : Nat) (xs : List Int) : Prop := w.heap[g]? = some (.cells (xs.map (Value.int k)).toArray t (0, 0))
theorem Nums.cell {w : World} {k : IntKind} {t : TypeId} {g : Nat} {xs : List Int} (h : Nums w k t g xs) {i : Nat} (hi : i < xs.length) : w.cell? ⟨g, i, none⟩ = some (.int k (xs.getD i 0)) := by
  rw [cell_of_row w g i _ _ _ h]
  simp [hi]
theorem Nums.frozen {w : World} {k : IntKind} {t : TypeId} {g : Nat} {xs : List Int} (h : Nums w k t g xs) (i : Nat) : w.frozen? ⟨g, i, none⟩ = false := frozen_of_row w g i _ _ h
theorem Nums.set {w : World} {k : IntKind} {t : TypeId} {g : Nat} {xs : List Int} (h : Nums w k t g xs) (i : Nat) (x : Int) : Nums (w.setCell ⟨g, i, none⟩ (.int k x)) k t g (xs.set i x) := by
  unfold Nums
  rw [heap_setCell_same w g i _ t _ h]
  simp
theorem Nums.lt {w : World} {k : IntKind} {t : TypeId} {g : Nat} {xs : List Int} (h : Nums w k t g xs) : g < w.heap.size := (Array.getElem?_eq_some_iff.1 h).1
theorem Nums.of_block {w w' : World} {k : IntKind} {t : TypeId} {g : Nat} {xs : List Int} (h : Nums w k t g xs) (e : w'.heap[g]? = w.heap[g]?) : Nums w' k t g xs := Eq.trans e h
theorem Nums.made (w : World) (k : IntKind) (t : TypeId) (n : Nat) : Nums (w.alloc (.cells (madeCells #[.int k 0] n) t)) k t w.heap.size (List.replicate n 0) := by
  unfold Nums
  rw [heap_alloc_new w _]
  congr 2
  unfold madeCells
  apply Array.ext
  · simp
  · intro i h1 h2
    simp [Nat.mod_one]
theorem info5 : (Try.prog.info? 5).map (fun i => (i.zero, i.size, i.bytes)) = some (some (.int .u8 0), 1, 1) := by kernel_rfl
theorem bytes_made (w : World) (n : Nat) (hn : n ≤ 1000) : ∃ W, (Instr.makeSlice 55 (.int .i64 n) (.int .i64 n)).run Try.prog w = .ok (.slice (some ⟨w.heap.size, 0, none⟩) n n) W ∧ Nums W .u8 5 w.heap.size (List.replicate n 0) ∧ Below w.heap.size w W := by
  obtain ⟨i, hi, hz0, hz1, hz2⟩ := info_parts info5
  have := run_make (P := Try.prog) w 55 5 i _ Try.underlying55 hi hz0 .i64 .i64 n n (by omega) (Int.le_refl _) (by rw [hz2]; omega) (by omega)
  rw [hz1] at this
  refine ⟨_, this, ?_, (Below.refl _ _).alloc (Nat.le_refl _) _⟩
  simpa [Value.cells] using Nums.made w .u8 5 n
theorem Nums.str {w : World} {g : Nat} {xs : List Int} (h : Nums w .u8 5 g xs) (n : Nat) (hn : xs.length = n) : ∃ s : ByteArray, (convert 55 9 (.slice (some ⟨g, 0, none⟩) n n)).run Try.prog w = .ok (.string s) w :=
  ⟨_, run_convert_bytes_arg (P := Try.prog) w 55 5 Try.underlying55 Try.underlying5 g 0 n n xs hn (fun i hi => by rw [Nat.zero_add]; exact h.cell (by omega)) 9 Try.underlying9⟩

set_option maxRecDepth 100000 in
theorem cell_any (n : Int) (w : World) : Calls Try.prog 17 #[.int .u8 n] w fun e w' => (∃ s : ByteArray, e = .returned (.string s)) ∧ Below w.heap.size w w' := by
  by_cases h : n = 0
  · have hd : (n == 0) = true := by simpa using h
    go_enter Try.func17, Try.ntmps17
    go_wp2
    go_ret
    exact ⟨⟨_, rfl⟩, Below.refl _ _⟩
  · have hd : (n == 0) = false := by simpa using h
    obtain ⟨W, hrun, hN, hB⟩ := bytes_made w 40 (by omega)
    simp only [Int.cast_ofNat_Int] at hrun
    have c0 := hN.cell (i := 0) (by simp)
    have c7 := hN.cell (i := 7) (by simp)
    have f0 := hN.frozen 0
    have f7 := hN.frozen 7
    obtain ⟨s, hs⟩ := ((hN.set 0 1).set 7 n).str 40 (by simp)
    have hB2 := (hB.setCell (p := ⟨w.heap.size, 0, none⟩) (Nat.le_refl _) (.int .u8 1)).setCell (p := ⟨w.heap.size, 7, none⟩) (Nat.le_refl _) (.int .u8 n)
    go_enter Try.func17, Try.ntmps17
    go_wp2
    go_ret
    exact ⟨⟨_, rfl⟩, hB2⟩

end Go.Proofs.Ytcolblmhopjgpaa
