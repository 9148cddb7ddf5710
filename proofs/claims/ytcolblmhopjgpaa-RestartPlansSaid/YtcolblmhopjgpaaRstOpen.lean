/-
  The seeds that a law is handed, opened.
-/
import Derived.Test.YtcolblmhopjgpaaRst9
import Derived.Test.YtcolblmhopjgpaaOpen
namespace Go.Proofs.Ytcolblmhopjgpaa
open Go.RowKit Go.ChangeShapes Go.WideShapes Go.Deep

theorem places_open {H : Type} {enc : TypeId × Value → H} {W : World} {base fuel : Nat} {spare : Nat → Bool} {held : Bool} {v : Value} {y : DataW H × List MemPlace} (h : DataW.trod enc Try.prog W base spare held fuel 36 [v] = some y) :
    ∃ A len cap, v = .slice A len cap ∧ len ≤ maxLen ∧ (len = 0 ∨ ∃ g off, A = some ⟨g, off, none⟩ ∧ g < W.heap.size ∧ ∀ i, i < len → ∃ x : Int, W.cell? ⟨g, off + i, none⟩ = some (.int .u64 x)) := by
  rcases open_slice (P := Try.prog) Try.underlying36 h with ⟨hcs, _⟩ | ⟨a, len, cap, m, n, D, Pl, hcs, _, hl, hm, hmm, _, hi⟩
  · injection hcs with hcs _
    exact ⟨_, _, _, hcs, by unfold maxLen; omega, .inl rfl⟩
  · injection hcs with hcs _
    refine ⟨_, _, _, hcs, by unfold maxLen at *; omega, ?_⟩
    have hmle : len ≤ m := by rw [hmm]; split <;> omega
    have hcell : ∀ i, i < len → ∃ x : Int, W.cell? (a.add i) = some (.int .u64 x) := by
      intro i hil
      obtain ⟨cs', hc, ht⟩ := hi i (by omega)
      rw [show Program.cellsOf Try.prog 27 = 1 by kernel_rfl, Nat.mul_one] at hc
      obtain ⟨_, hcl, hat⟩ := World.cells?_some hc
      obtain ⟨x, e, _, _⟩ := DataW.trod_int Try.underlying27 ht
      subst e
      have := hat 0 (by omega)
      exact ⟨x, by rw [Go.Deep.add_add] at this; simpa using this⟩
    by_cases h0 : len = 0
    · exact .inl h0
    · obtain ⟨b, off, spot⟩ := a
      have hspot : spot = none := by
        obtain ⟨x, hc⟩ := hcell 0 (by omega)
        simpa [Addr.add] using World.cell?_spot hc
      subst hspot
      have hcell2 : ∀ i, i < len → ∃ x : Int, W.cell? ⟨b, off + i, none⟩ = some (.int .u64 x) := by
        intro i hil
        obtain ⟨x, hc⟩ := hcell i hil
        rw [Addr.add_lit] at hc
        exact ⟨x, hc⟩
      obtain ⟨x, hc⟩ := hcell2 0 (by omega)
      exact .inr ⟨b, off, rfl, World.block_lt_of_cell? _ _ hc, hcell2⟩

theorem seeds_open {H : Type} {enc : TypeId × Value → H} {W : World} {base fuel : Nat} {spare : Nat → Bool} {held : Bool} {A : Option Addr} {len cap : Nat} {x : DataW H × List MemPlace} (h : DataW.trod enc Try.prog W base spare held fuel 22 [.slice A len cap] = some x) :
    len ≤ 9223372036854775807 ∧ SeedsIn W A len := by
  rcases open_slice_fields (P := Try.prog) Try.underlying22 Try.underlying51 (by kernel_rfl) (by kernel_rfl) h with ⟨hcs, _⟩ | ⟨a, len', cap', m, D, Pl, hcs, _, hl, hm, hmm, _, hi⟩
  · injection hcs with hcs _
    injection hcs with _ hl _
    exact ⟨by omega, .inl hl⟩
  · injection hcs with hcs _
    injection hcs with hA hl' hc'
    subst hA hl' hc'
    refine ⟨by unfold maxLen at *; omega, ?_⟩
    by_cases h0 : len = 0
    · exact .inl h0
    have hmle : len ≤ m := by rw [hmm]; split <;> omega
    have key : ∀ i, i < len → ∃ s : SeedV, (W.cell? (a.add (i * 8)) = some (.int .i64 s.kd) ∧ W.cell? (a.add (i * 8 + 1)) = some (.int .i64 s.tx) ∧ W.cell? (a.add (i * 8 + 2)) = some (.int .i64 s.pg) ∧ W.cell? (a.add (i * 8 + 3)) = some (.int .i64 s.sl) ∧
        W.cell? (a.add (i * 8 + 4)) = some (.int .u8 s.bf) ∧ W.cell? (a.add (i * 8 + 5)) = some (.int .u8 s.af) ∧ W.cell? (a.add (i * 8 + 6)) = some (.int .u8 s.im) ∧ W.cell? (a.add (i * 8 + 7)) = some (.slice s.A s.len s.cap)) ∧ s.ok W := by
      intro i hil
      obtain ⟨ys, n, _, _, _, hfs⟩ := hi i (by omega)
      obtain ⟨v0, y0, hc0, _, ht0⟩ := hfs 0 _ rfl
      obtain ⟨v1, y1, hc1, _, ht1⟩ := hfs 1 _ rfl
      obtain ⟨v2, y2, hc2, _, ht2⟩ := hfs 2 _ rfl
      obtain ⟨v3, y3, hc3, _, ht3⟩ := hfs 3 _ rfl
      obtain ⟨v4, y4, hc4, _, ht4⟩ := hfs 4 _ rfl
      obtain ⟨v5, y5, hc5, _, ht5⟩ := hfs 5 _ rfl
      obtain ⟨v6, y6, hc6, _, ht6⟩ := hfs 6 _ rfl
      obtain ⟨v7, y7, hc7, _, ht7⟩ := hfs 7 _ rfl
      obtain ⟨x0, e0, _, _⟩ := DataW.trod_int Try.underlying3 ht0
      obtain ⟨x1, e1, _, _⟩ := DataW.trod_int Try.underlying3 ht1
      obtain ⟨x2, e2, _, _⟩ := DataW.trod_int Try.underlying3 ht2
      obtain ⟨x3, e3, _, _⟩ := DataW.trod_int Try.underlying3 ht3
      obtain ⟨x4, e4, _, _⟩ := DataW.trod_int Try.underlying5 ht4
      obtain ⟨x5, e5, _, _⟩ := DataW.trod_int Try.underlying5 ht5
      obtain ⟨x6, e6, _, _⟩ := DataW.trod_int Try.underlying5 ht6
      obtain ⟨A7, l7, c7, e7, hl7, hs7⟩ := places_open ht7
      injection e0 with e0 _
      injection e1 with e1 _
      injection e2 with e2 _
      injection e3 with e3 _
      injection e4 with e4 _
      injection e5 with e5 _
      injection e6 with e6 _
      subst e0 e1 e2 e3 e4 e5 e6 e7
      exact ⟨⟨x0, x1, x2, x3, x4, x5, x6, A7, l7, c7⟩, ⟨hc0, hc1, hc2, hc3, hc4, hc5, hc6, hc7⟩, hl7, hs7⟩
    obtain ⟨b, off, spot⟩ := a
    have hspot : spot = none := by
      obtain ⟨s, ⟨hc, _⟩, _⟩ := key 0 (by omega)
      simpa [Addr.add] using World.cell?_spot hc
    subst hspot
    simp only [Addr.add_lit] at key
    have hlt : b < W.heap.size := by
      obtain ⟨s, ⟨hc, _⟩, _⟩ := key 0 (by omega)
      exact World.block_lt_of_cell? _ _ hc
    refine .inr ⟨b, off, rfl, hlt, fun i hil => ?_⟩
    obtain ⟨s, h, hok⟩ := key i hil
    simp only [← Nat.add_assoc] at h
    exact ⟨s, h, hok⟩

end Go.Proofs.Ytcolblmhopjgpaa
