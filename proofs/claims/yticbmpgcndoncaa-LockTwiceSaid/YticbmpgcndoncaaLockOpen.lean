/-
  The law's argument, a slice of calls, opened to the cells of each call.
-/
import Derived.Test.YticbmpgcndoncaaLockTwice
import Derived.Test.YticbmpgcndoncaaOpen
namespace Go.Proofs.Yticbmpgcndoncaa
open Go.RowKit Go.ChangeShapes Go.WideShapes Go.ChangeAt Go.Deep
set_option linter.unusedVariables false

section
variable {H : Type} {enc : TypeId × Value → H}
/-- the cases: none handed, or the cells of each call lie as 'Handed' says, in a block that stands -/
theorem open_calls {W : World} {fuel : Nat} {A : Option Addr} {len cap : Nat} {x : DataW H × List MemPlace} (h : DataW.trod enc Try.prog W 0 (fun _ => true) true fuel 31 [.slice A len cap] = some x) (hlt : ∀ y ∈ x.2, y.block < W.heap.size) :
    len = 0 ∨ ∃ b off, A = some ⟨b, off, none⟩ ∧ 0 < len ∧ len ≤ maxLen ∧ b < W.heap.size ∧ Handed W b off len := by
  by_cases hl0 : len = 0
  · exact .inl hl0
  · refine .inr ?_
    rcases open_slice_fields (P := Try.prog) Try.underlying31 Try.underlying33 (by kernel_rfl) (by kernel_rfl) h with ⟨hcs, _⟩ | ⟨a, len', cap', m, D, Pl, hcs, _, hl, hm, hmm, hx, hi⟩
    · simp at hcs; omega
    · simp at hcs
      obtain ⟨rfl, rfl, rfl⟩ := hcs
      have hmle : len ≤ m := by rw [hmm]; split <;> omega
      have hnum : ∀ i, i < len → ∀ j, j < 3 → ∃ x : Int, W.cell? (a.add (i * 4 + j)) = some (.int .i64 x) ∧ iok x := by
        intro i hil j hj
        obtain ⟨ys, n, _, _, _, hfs⟩ := hi i (by omega)
        rcases j with _ | _ | _ | j
        · obtain ⟨v, y, hc, _, ht⟩ := hfs 0 _ rfl
          obtain ⟨x, e, _, hw⟩ := DataW.trod_int Try.underlying3 ht
          injection e with e _
          subst e
          exact ⟨x, hc, hw⟩
        · obtain ⟨v, y, hc, _, ht⟩ := hfs 1 _ rfl
          obtain ⟨x, e, _, hw⟩ := DataW.trod_int Try.underlying3 ht
          injection e with e _
          subst e
          exact ⟨x, hc, hw⟩
        · obtain ⟨v, y, hc, _, ht⟩ := hfs 2 _ rfl
          obtain ⟨x, e, _, hw⟩ := DataW.trod_int Try.underlying3 ht
          injection e with e _
          subst e
          exact ⟨x, hc, hw⟩
        · omega
      have hstr : ∀ i, i < len → ∃ k : ByteArray, W.cell? (a.add (i * 4 + 3)) = some (.string k) ∧ k.size ≤ maxLen := by
        intro i hil
        obtain ⟨ys, n, _, _, _, hfs⟩ := hi i (by omega)
        obtain ⟨v, y, hc, _, ht⟩ := hfs 3 _ rfl
        obtain ⟨x, e, _, hw⟩ := DataW.trod_string Try.underlying9 ht
        injection e with e _
        subst e
        exact ⟨x, hc, hw⟩
      obtain ⟨b, off, spot⟩ := a
      have hspot : spot = none := by
        obtain ⟨x, hc, _⟩ := hnum 0 (by omega) 0 (by omega)
        simpa [Addr.add] using World.cell?_spot hc
      subst hspot
      have hm0 : 0 < m * 4 := by omega
      refine ⟨b, off, rfl, by omega, by omega, hlt (.cell b off) (by rw [hx]; exact List.mem_append_left _ (MemPlace.mem_row.2 ⟨0, hm0, by simp⟩)), fun i hil => ?_⟩
      obtain ⟨x0, h0, i0⟩ := hnum i hil 0 (by omega)
      obtain ⟨x1, h1, i1⟩ := hnum i hil 1 (by omega)
      obtain ⟨x2, h2, i2⟩ := hnum i hil 2 (by omega)
      obtain ⟨k, h3, i3⟩ := hstr i hil
      have e : ∀ j, (⟨b, off, none⟩ : Addr).add (i * 4 + j) = ⟨b, off + i * 4 + j, none⟩ := fun j => by rw [Addr.add_lit, Nat.add_assoc]
      rw [e] at h0 h1 h2 h3
      exact ⟨x0, x1, x2, k, ⟨h0, h1, h2, h3⟩, i0, i2, i3⟩
end

end Go.Proofs.Yticbmpgcndoncaa
