/-
  An argument that is an array of six numbers, opened.
-/
import Derived.Test.YtcolblmhopjgpaaRstOpen
import Derived.OpenShut
namespace Go.Proofs.Ytcolblmhopjgpaa
open Go.RowKit Go.ChangeShapes Go.WideShapes Go.Deep

theorem six_open {H : Type} {enc : TypeId × Value → H} {W : World} {base b0 : Nat} {r : Reach} {spare : Nat → Bool} {held : Bool} {v : Value} {d : DataW H} {ps : List MemPlace} (hv : Value.okWide Try.prog W r b0 45 v)
    (h : DataW.Trod enc Try.prog W base spare held 45 v d ps) : ∃ x0 x1 x2 x3 x4 x5 : Int, v = .agg #[.int .u64 x0, .int .u64 x1, .int .u64 x2, .int .u64 x3, .int .u64 x4, .int .u64 x5] := by
  simp only [Value.okWide, Try.underlying45] at hv
  obtain ⟨cs, rfl, hsz, _⟩ := hv
  rw [show Program.cellsOf Try.prog 45 = 6 by kernel_rfl] at hsz
  obtain ⟨fuel, hf⟩ := h
  obtain ⟨xs, m, _, _, hlen, hxl, hx⟩ := DataW.trod_array Try.underlying45 hf
  rw [show Program.cellsOf Try.prog 27 = 1 by kernel_rfl] at hx
  obtain ⟨l⟩ := cs
  simp only [Value.cells, Array.toList] at hx
  match l, hsz with
  | [c0, c1, c2, c3, c4, c5], _ =>
  have key : ∀ (i : Nat) (c : Value), i < 6 → ([c0, c1, c2, c3, c4, c5].drop (i * 1)).take 1 = [c] → ∃ n : Int, c = .int .u64 n := by
    intro i c hi hc
    have h1 := hx i hi
    rw [hc] at h1
    have h2 : xs[i]? = some (xs[i]'(by omega)) := List.getElem?_eq_getElem (by omega)
    rw [h2] at h1
    obtain ⟨n, e, _, _⟩ := DataW.trod_int Try.underlying27 h1
    injection e with e _
    exact ⟨n, e⟩
  obtain ⟨x0, rfl⟩ := key 0 c0 (by omega) rfl
  obtain ⟨x1, rfl⟩ := key 1 c1 (by omega) rfl
  obtain ⟨x2, rfl⟩ := key 2 c2 (by omega) rfl
  obtain ⟨x3, rfl⟩ := key 3 c3 (by omega) rfl
  obtain ⟨x4, rfl⟩ := key 4 c4 (by omega) rfl
  obtain ⟨x5, rfl⟩ := key 5 c5 (by omega) rfl
  exact ⟨x0, x1, x2, x3, x4, x5, rfl⟩

end Go.Proofs.Ytcolblmhopjgpaa
