/-
  The statement 'RestartMarks' of the given rows, proved of every input: the law's walk, set into the row.
-/
import Derived.Test.YtcolblmhopjgpaaRestartMarks
import Derived.Test.YtcolblmhopjgpaaPost
import Derived.Test.YtcolblmhopjgpaaRstOpen2
namespace Go.Proofs.Ytcolblmhopjgpaa.restartMarks
open Go.ChangeShapes Go.WideShapes Go.ChangeAt Go.RowKit
set_option linter.unusedVariables false

theorem own : ownKnob Try.prog.godebug = none := by kernel_rfl
theorem laidOut : laidOutB Try.prog = true := by kernel_rfl

set_option maxRecDepth 100000 in
theorem lifted (os : Os) (started : os.Started) (H : Type) (enc : TypeId × Value → H) :
    ReturnsInHanded {} Try.checked os 6 .any (Rows.restartMarksSpec.pre6 enc Try.prog Try.f6 Rows.restartMarksRow.domain false) (Rows.restartMarksSpec.post enc Try.prog Try.f6 false true false false) := by
  refine returnsInHanded_of_change (C := Try.checked) own started (by kernel_rfl) Try.func6
    (ChangeSpec.witness6 (enc := enc) (C := Try.checked) false ⟨#[], #[.slice none 0 0, .agg #[.int .u64 0, .int .u64 0, .int .u64 0, .int .u64 0, .int .u64 0, .int .u64 0]], []⟩ 8 (by kernel_rfl) (by kernel_rfl) (by kernel_rfl) (by kernel_rfl)) ?_
  intro W base args ds gs before hval0 hW hcnd _
  have hval : ∀ (j : Nat) t v, Try.f6.params[j]? = some t → args[j]? = some v → Value.okWide Try.prog W .any base t v := hval0
  have hW' := hW
  obtain ⟨p, q, hA0, hV, rfl, hfz, hnd⟩ := hW
  have hA : DataW.TrodAll enc Try.prog W 0 (fun _ => true) true Try.f6.params.toList args.toList ds p := hA0
  rw [Try.params6] at hA hval
  obtain ⟨v0, vs0, d0, ds0, p0, q0, hargs, rfl, rfl, h0, r0⟩ := trodAll_cons hA
  obtain ⟨v1, vs1, d1, ds1, p1, q1, rfl, rfl, rfl, h1, r1⟩ := trodAll_cons r0
  obtain ⟨rfl, rfl, rfl⟩ := trodAll_nil r1
  obtain rfl : args = #[v0, v1] := by cases args; simp_all
  obtain ⟨rfl, rfl⟩ := trodVars_none hV
  obtain ⟨A0, len, cap, rfl⟩ := okWide_slice Try.underlying22 (hval 0 22 v0 rfl rfl)
  have h0k := h0
  obtain ⟨fuel, hf⟩ := h0
  obtain ⟨hlen, hin⟩ := seeds_open hf
  have h1k := h1
  obtain ⟨x0, x1, x2, x3, x4, x5, rfl⟩ := six_open (hval 1 45 v1 rfl rfl) h1
  clear hA0 hval0
  simp only [List.append_nil, List.nil_append] at hW'
  have hlt : ∀ x ∈ p0, x.block < W.heap.size := fun x hx => by simpa using hW'.lt x (List.mem_append_left _ hx)
  have hlt2 : ∀ x ∈ p1, x.block < W.heap.size := fun x hx => by simpa using hW'.lt x (List.mem_append_right _ hx)
  have hwalk : Calls Try.prog 6 #[.slice A0 len cap, .agg #[.int .u64 x0, .int .u64 x1, .int .u64 x2, .int .u64 x3, .int .u64 x4, .int .u64 x5]] W fun e w' => e = .returned (.bool true) ∧ Below W.heap.size W w' := marks_law A0 len cap x0 x1 x2 x3 x4 x5 W hlen hin
  refine hwalk.mono fun e W' ⟨he, hg⟩ => ?_
  subst he
  exact ⟨_, rfl, post_of_below (pa := p0 ++ p1) (pv := []) hW' (fun _ _ _ => (trodAll_cons_mk (shut_bool Try.underlying4 _) trodAll_mk0))
    (fun sp hsp => by
      have hsp2 : ∀ x ∈ p1, sp x.block = true := fun x hx => hsp x (List.mem_append_right _ hx)
      replace hsp : ∀ x ∈ p0, sp x.block = true := fun x hx => hsp x (List.mem_append_left _ hx)
      have := (trodAll_cons_mk (Below.stays laidOut (by kernel_rfl) (of_decide_eq_true (by kernel_rfl)) h0k hg hlt hsp) (trodAll_cons_mk (Below.stays laidOut (by kernel_rfl) (of_decide_eq_true (by kernel_rfl)) h1k hg hlt2 hsp2) trodAll_mk0))
      simp only [List.nil_append, List.append_nil] at this
      exact this) (fun _ _ => rfl) (by simp) hg (ok_one (by kernel_rfl) rfl (okWide_bool_mk Try.underlying4 _))⟩

theorem over : Rows.restartMarksRow.holds Try.pinned (OpenSpec.ofChange Rows.restartMarksSpec) :=
  OpenClaim.holds_of_wide 6 Try.f6 rfl rfl rfl rfl rfl rfl rfl ⟨rfl, rfl, rfl, rfl, rfl⟩ rfl rfl rfl rfl rfl (by kernel_rfl) Try.func6 (by kernel_rfl)
    (of_decide_eq_true (by kernel_rfl)) (by unfold Func.isWrapper; first | (rw [if_pos (by decide +kernel)]; kernel_rfl) | (rw [if_neg (by decide +kernel)]; exact ⟨rfl, rfl⟩))
    (fun os started H enc _ => lifted os started H enc)

/-- The statement. -/
theorem proved : Rows.RestartMarksSaid :=
  over
#print axioms proved
end Go.Proofs.Ytcolblmhopjgpaa.restartMarks
