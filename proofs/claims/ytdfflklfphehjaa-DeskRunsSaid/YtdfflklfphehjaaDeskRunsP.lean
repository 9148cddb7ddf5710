/-
  The statement 'DeskRuns' of the given rows, proved of every input: the law's walk, set into the row.
-/
import Derived.Test.YtdfflklfphehjaaDeskRuns
import Derived.Test.YtdfflklfphehjaaPost
import Derived.Test.YtdfflklfphehjaaOpen
namespace Go.Proofs.Ytdfflklfphehjaa.deskRuns
open Go.ChangeShapes Go.WideShapes Go.ChangeAt Go.RowKit
set_option linter.unusedVariables false

theorem own : ownKnob Try.prog.godebug = none := by kernel_rfl
theorem laidOut : laidOutB Try.prog = true := by kernel_rfl

/-- a cell's number -/
def numAt (W : World) (a : Addr) : Int := match W.cell? a with | some (.int _ x) => x | _ => 0

set_option maxRecDepth 100000 in
theorem lifted (os : Os) (started : os.Started) (H : Type) (enc : TypeId × Value → H) :
    ReturnsInHanded {} Try.checked os 6 .any (Rows.deskRunsSpec.pre6 enc Try.prog Try.f6 Rows.deskRunsRow.domain false) (Rows.deskRunsSpec.post enc Try.prog Try.f6 false true false false) := by
  refine returnsInHanded_of_change (C := Try.checked) own started (by kernel_rfl) Try.func6
    (ChangeSpec.witness6 (enc := enc) (C := Try.checked) false ⟨#[], #[.int .i64 0, .slice none 0 0], []⟩ 8 (by kernel_rfl) (by kernel_rfl) (by kernel_rfl) (by kernel_rfl)) ?_
  intro W base args ds gs before hval0 hW hcnd _
  have hval : ∀ (j : Nat) t v, Try.f6.params[j]? = some t → args[j]? = some v → Value.okWide Try.prog W .any base t v := hval0
  have hW' := hW
  obtain ⟨p, q, hA0, hV, rfl, hfz, hnd⟩ := hW
  have hA : DataW.TrodAll enc Try.prog W 0 (fun _ => true) true Try.f6.params.toList args.toList ds p := hA0
  rw [Try.params6] at hA hval
  obtain ⟨v0, vs0, d0, ds0, p0, q0, hargs, rfl, rfl, h0, r0⟩ := trodAll_cons hA
  obtain ⟨v1, vs1, d1, ds1, p1, q1, rfl, rfl, rfl, h1, r1⟩ := trodAll_cons r0
  obtain ⟨rfl, rfl, rfl⟩ := trodAll_nil r1
  obtain rfl : args = #[v0, v1] := by cases args; simp_all
  obtain ⟨rfl, rfl⟩ := trodVars_none hV
  obtain ⟨a0, rfl, rfl, rfl, w0⟩ := open_int Try.underlying3 (hval 0 3 v0 rfl rfl) h0
  obtain ⟨A, len, cap, rfl⟩ := okWide_slice Try.underlying31 (hval 1 31 v1 rfl rfl)
  have h1k := h1
  obtain ⟨fuel, hf⟩ := h1
  clear hA0 hval0
  simp only [List.append_nil, List.nil_append] at hW'
  have hlt : ∀ x ∈ p1, x.block < W.heap.size := fun x hx => by simpa using hW'.lt x hx
  have hwalk : Calls Try.prog 6 #[.int .i64 a0, .slice A len cap] W fun e w' => e = .returned (.bool true) ∧ Below W.heap.size W w' := by
    by_cases hl0 : len = 0
    · subst hl0; exact runs_none a0 A cap W
    · rcases open_slice_fields (P := Try.prog) Try.underlying31 Try.underlying34 (by kernel_rfl) (by kernel_rfl) hf with ⟨hcs, _⟩ | ⟨a, len', cap', m, D, Pl, hcs, _, hl, hm, hmm, hx, hi⟩
      · simp [Value.cells] at hcs; omega
      · simp [Value.cells] at hcs
        obtain ⟨rfl, rfl, rfl⟩ := hcs
        simp only [Prod.mk.injEq] at hx
        have hmle : len ≤ m := by rw [hmm]; split <;> omega
        have hcell : ∀ i, i < len → ∀ j, j < 3 → ∃ x : Int, W.cell? (a.add (i * 3 + j)) = some (.int .i64 x) := by
          intro i hil j hj
          obtain ⟨ys, n, _, _, _, hfs⟩ := hi i (by omega)
          rcases j with _ | _ | _ | j
          · obtain ⟨v, y, hc, _, ht⟩ := hfs 0 _ rfl
            obtain ⟨x, e, _, _⟩ := DataW.trod_int Try.underlying3 ht
            injection e with e _
            subst e
            exact ⟨x, hc⟩
          · obtain ⟨v, y, hc, _, ht⟩ := hfs 1 _ rfl
            obtain ⟨x, e, _, _⟩ := DataW.trod_int Try.underlying3 ht
            injection e with e _
            subst e
            exact ⟨x, hc⟩
          · obtain ⟨v, y, hc, _, ht⟩ := hfs 2 _ rfl
            obtain ⟨x, e, _, _⟩ := DataW.trod_int Try.underlying3 ht
            injection e with e _
            subst e
            exact ⟨x, hc⟩
          · omega
        obtain ⟨b, off, spot⟩ := a
        have hspot : spot = none := by
          obtain ⟨x, hc⟩ := hcell 0 (by omega) 0 (by omega)
          simpa [Addr.add] using World.cell?_spot hc
        subst hspot
        have hm0 : 0 < m * 3 := by omega
        have hbW : b < W.heap.size := hlt (.cell b off) (by rw [hx.2]; exact List.mem_append_left _ (MemPlace.mem_row.2 ⟨0, hm0, by simp⟩))
        refine runs_any a0 b off len cap (fun i j => numAt W ⟨b, off + i * 3 + j, none⟩) W (fun _ => hbW) (by unfold maxLen at hm; omega) ?_
        intro i hil j hj
        obtain ⟨x, hc⟩ := hcell i hil j hj
        have e : (⟨b, off, none⟩ : Addr).add (i * 3 + j) = ⟨b, off + i * 3 + j, none⟩ := by rw [Addr.add_lit, Nat.add_assoc]
        rw [e] at hc
        rw [hc]; simp only [numAt, hc]
  refine hwalk.mono fun e W' ⟨he, hg⟩ => ?_
  subst he
  exact ⟨_, rfl, post_of_below (pa := p1) (pv := []) hW' (fun _ _ _ => (trodAll_cons_mk (shut_bool Try.underlying4 _) trodAll_mk0))
    (fun sp hsp => by
      have := trodAll_cons_mk (shut_int (w := W') (spare := sp) (base := 0) (held := true) (enc := enc) Try.underlying3 w0) (trodAll_cons_mk (Below.stays laidOut (by kernel_rfl) (of_decide_eq_true (by kernel_rfl)) h1k hg hlt hsp) trodAll_mk0)
      simp only [List.nil_append, List.append_nil] at this
      exact this) (fun _ _ => rfl) (by simp) hg (ok_one (by kernel_rfl) rfl (okWide_bool_mk Try.underlying4 _))⟩

theorem over : Rows.deskRunsRow.holds Try.pinned (OpenSpec.ofChange Rows.deskRunsSpec) :=
  OpenClaim.holds_of_wide 6 Try.f6 rfl rfl rfl rfl rfl rfl rfl ⟨rfl, rfl, rfl, rfl, rfl⟩ rfl rfl rfl rfl rfl (by kernel_rfl) Try.func6 (by kernel_rfl)
    (of_decide_eq_true (by kernel_rfl)) (by unfold Func.isWrapper; first | (rw [if_pos (by decide +kernel)]; kernel_rfl) | (rw [if_neg (by decide +kernel)]; exact ⟨rfl, rfl⟩))
    (fun os started H enc _ => lifted os started H enc)

/-- The statement. -/
theorem proved : Rows.DeskRunsSaid :=
  over
#print axioms proved
end Go.Proofs.Ytdfflklfphehjaa.deskRuns
