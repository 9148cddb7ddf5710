/-
  No cell of these rows narrows 'for every input' (looked for: loops, veiled, ifaces, maps, wideKeys, modest, calm, conditions, laid).
  DERIVED. THE GIVEN ROWS OF THIS SEAT. 6 by the template 'for every input the law returns true; each argument reads behind the call as it read before'; 0 by the template 'total and deterministic' (their statements: YtcolblmhopjgpaaTotals.lean).
  GIVEN WITH THE SEED: the statements are not yours to turn. If you find one false, say at which input.
  Laid BY PROGRAM, IN A SANDBOX (cutbox-rows.mjs): the forced cells as the released guide's own fill.sh prints them over the translation da7c37ef9de5aca7… (all of the seat's roots in one cut). By AI agents, Wed Nov 11 2026. No macro, syntax, notation, axiom, sorry.
-/
import Derived.Test.YtcolblmhopjgpaaChecked
import GoSem.Claim
import GoSem.ClaimJoined
import GoSem.ClaimMapViews
import Derived.JoinedTies
import Derived.KernelRfl
namespace Go.Proofs.Ytcolblmhopjgpaa
/- THE CELL 'sum', in the pinned program and in every row, IS THE sha256 OF THE DUMP (.gsa) THAT YtcolblmhopjgpaaProg.lean LOADS. Nothing in Lean hashes anything: it is a label: what it is worth is what the hold of that sum in a sandbox is worth. -/
noncomputable def Try.pinned : Pinned := { name := "ytcolblmhopjgpaa", sum := "da7c37ef9de5aca7f40c8c7e3c7d7476c1a23371d7d70a8040e3d80a096fc034", checked := Try.checked }
namespace Rows
def none {H : Type} : Left H := { results := [], args := [] }

/-- 'tenementlaw12.RestartPlans': WHATEVER THE INPUT: true; the input reads as it did. -/
def restartPlansSpec : ChangeSpec := { name := "restartPlans", fn := fun _ => fun
  | [d] => { results := [.lit (.bool true)], args := [d] }
  | _ => none }
def restartPlansRow : OpenClaim := { program := "ytcolblmhopjgpaa", sum := "da7c37ef9de5aca7f40c8c7e3c7d7476c1a23371d7d70a8040e3d80a096fc034", func := "tenement/tenementlaw12.RestartPlans", spec := "restartPlans", unfollowed := true, recurses := true, apart := false }
def RestartPlansSaid : Prop := restartPlansRow.holds Try.pinned (OpenSpec.ofChange restartPlansSpec)

/-- ITS FALSE NEIGHBOUR: 'it returns false'. Refute it at one input. -/
def restartPlansWrong : ChangeSpec := { name := "restartPlans", fn := fun _ => fun
  | [d] => { results := [.lit (.bool false)], args := [d] }
  | _ => none }
def RestartPlansWrongFalsely : Prop := restartPlansRow.holds Try.pinned (OpenSpec.ofChange restartPlansWrong)

/-- 'tenementlaw12.RestartParts': WHATEVER THE INPUT: true; the input reads as it did. -/
def restartPartsSpec : ChangeSpec := { name := "restartParts", fn := fun _ => fun
  | [d1, d2] => { results := [.lit (.bool true)], args := [d1, d2] }
  | _ => none }
def restartPartsRow : OpenClaim := { program := "ytcolblmhopjgpaa", sum := "da7c37ef9de5aca7f40c8c7e3c7d7476c1a23371d7d70a8040e3d80a096fc034", func := "tenement/tenementlaw12.RestartParts", spec := "restartParts", unfollowed := true, recurses := true, apart := false }
def RestartPartsSaid : Prop := restartPartsRow.holds Try.pinned (OpenSpec.ofChange restartPartsSpec)

/-- ITS FALSE NEIGHBOUR: 'it returns false'. Refute it at one input. -/
def restartPartsWrong : ChangeSpec := { name := "restartParts", fn := fun _ => fun
  | [d1, d2] => { results := [.lit (.bool false)], args := [d1, d2] }
  | _ => none }
def RestartPartsWrongFalsely : Prop := restartPartsRow.holds Try.pinned (OpenSpec.ofChange restartPartsWrong)

/-- 'tenementlaw12.RestartEnds': WHATEVER THE INPUT: true; the input reads as it did. -/
def restartEndsSpec : ChangeSpec := { name := "restartEnds", fn := fun _ => fun
  | [d1, d2, d3] => { results := [.lit (.bool true)], args := [d1, d2, d3] }
  | _ => none }
def restartEndsRow : OpenClaim := { program := "ytcolblmhopjgpaa", sum := "da7c37ef9de5aca7f40c8c7e3c7d7476c1a23371d7d70a8040e3d80a096fc034", func := "tenement/tenementlaw12.RestartEnds", spec := "restartEnds", unfollowed := true, recurses := true, apart := false }
def RestartEndsSaid : Prop := restartEndsRow.holds Try.pinned (OpenSpec.ofChange restartEndsSpec)

/-- ITS FALSE NEIGHBOUR: 'it returns false'. Refute it at one input. -/
def restartEndsWrong : ChangeSpec := { name := "restartEnds", fn := fun _ => fun
  | [d1, d2, d3] => { results := [.lit (.bool false)], args := [d1, d2, d3] }
  | _ => none }
def RestartEndsWrongFalsely : Prop := restartEndsRow.holds Try.pinned (OpenSpec.ofChange restartEndsWrong)

/-- 'tenementlaw12.RestartMarks': WHATEVER THE INPUT: true; the input reads as it did. -/
def restartMarksSpec : ChangeSpec := { name := "restartMarks", fn := fun _ => fun
  | [d1, d2] => { results := [.lit (.bool true)], args := [d1, d2] }
  | _ => none }
def restartMarksRow : OpenClaim := { program := "ytcolblmhopjgpaa", sum := "da7c37ef9de5aca7f40c8c7e3c7d7476c1a23371d7d70a8040e3d80a096fc034", func := "tenement/tenementlaw12.RestartMarks", spec := "restartMarks", unfollowed := true, recurses := true, apart := false }
def RestartMarksSaid : Prop := restartMarksRow.holds Try.pinned (OpenSpec.ofChange restartMarksSpec)

/-- ITS FALSE NEIGHBOUR: 'it returns false'. Refute it at one input. -/
def restartMarksWrong : ChangeSpec := { name := "restartMarks", fn := fun _ => fun
  | [d1, d2] => { results := [.lit (.bool false)], args := [d1, d2] }
  | _ => none }
def RestartMarksWrongFalsely : Prop := restartMarksRow.holds Try.pinned (OpenSpec.ofChange restartMarksWrong)

/-- 'tenementlaw12.RestartNone': WHATEVER THE INPUT: true; the input reads as it did. -/
def restartNoneSpec : ChangeSpec := { name := "restartNone", fn := fun _ => fun
  | [d] => { results := [.lit (.bool true)], args := [d] }
  | _ => none }
def restartNoneRow : OpenClaim := { program := "ytcolblmhopjgpaa", sum := "da7c37ef9de5aca7f40c8c7e3c7d7476c1a23371d7d70a8040e3d80a096fc034", func := "tenement/tenementlaw12.RestartNone", spec := "restartNone", unfollowed := true, recurses := true, apart := false }
def RestartNoneSaid : Prop := restartNoneRow.holds Try.pinned (OpenSpec.ofChange restartNoneSpec)

/-- ITS FALSE NEIGHBOUR: 'it returns false'. Refute it at one input. -/
def restartNoneWrong : ChangeSpec := { name := "restartNone", fn := fun _ => fun
  | [d] => { results := [.lit (.bool false)], args := [d] }
  | _ => none }
def RestartNoneWrongFalsely : Prop := restartNoneRow.holds Try.pinned (OpenSpec.ofChange restartNoneWrong)

/-- 'tenementlaw12.RestartAgain': WHATEVER THE INPUT: true; the input reads as it did. -/
def restartAgainSpec : ChangeSpec := { name := "restartAgain", fn := fun _ => fun
  | [d1, d2, d3] => { results := [.lit (.bool true)], args := [d1, d2, d3] }
  | _ => none }
def restartAgainRow : OpenClaim := { program := "ytcolblmhopjgpaa", sum := "da7c37ef9de5aca7f40c8c7e3c7d7476c1a23371d7d70a8040e3d80a096fc034", func := "tenement/tenementlaw12.RestartAgain", spec := "restartAgain", unfollowed := true, recurses := true, apart := false }
def RestartAgainSaid : Prop := restartAgainRow.holds Try.pinned (OpenSpec.ofChange restartAgainSpec)

/-- ITS FALSE NEIGHBOUR: 'it returns false'. Refute it at one input. -/
def restartAgainWrong : ChangeSpec := { name := "restartAgain", fn := fun _ => fun
  | [d1, d2, d3] => { results := [.lit (.bool false)], args := [d1, d2, d3] }
  | _ => none }
def RestartAgainWrongFalsely : Prop := restartAgainRow.holds Try.pinned (OpenSpec.ofChange restartAgainWrong)

/- THE SECOND FORM. 'bulk': how many values and letters a reading holds, each counted each time it is reached (what is shared counts as often as it is met; a slice's spare places count too). A statement '..UptoSaid' is the law's where the arguments, and the package variables that the reading takes, are together of bulk at most 1048576: NARROWER than '..Said'. Prove '..Said' where nothing that the law and all that it calls make is longer than what came in: it says more and counts as full. Else prove '..UptoSaid'. A law counts once. -/
mutual
def uptoBulk {H : Type} : DataW H → Nat
  | .lit (.string bytes) => bytes.length + 1
  | .lit _ => 1
  | .nil => 1
  | .ptr d => uptoBulk d + 1
  | .slice elems spare => uptoBulkAll elems + uptoBulkAll spare + 1
  | .agg parts => uptoBulkAll parts + 1
  | .iface _ d => uptoBulk d + 1
  | .map entries => uptoBulkEntries entries + 1
  | .held _ => 1
def uptoBulkAll {H : Type} : List (DataW H) → Nat
  | [] => 0
  | d :: r => uptoBulk d + uptoBulkAll r
def uptoBulkEntries {H : Type} : List (Lit × DataW H) → Nat
  | [] => 0
  | x :: r => uptoBulkEntry x + uptoBulkEntries r
def uptoBulkEntry {H : Type} : Lit × DataW H → Nat
  | (.string bytes, d) => bytes.length + uptoBulk d + 1
  | (_, d) => uptoBulk d + 1
 end
def uptoSmall : (H : Type) → List (DataW H) → Bool := fun _ ds => decide (uptoBulkAll ds ≤ 1048576)
def OpenSpec.upto (s : _root_.Go.ChangeSpec) : _root_.Go.OpenSpec := { _root_.Go.OpenSpec.ofChange s with cond := some uptoSmall }

/-- 'tenementlaw12.RestartPlans', WHERE WHAT IT READS IS OF BULK AT MOST 1048576: true; the input reads as it did. -/
def restartPlansUptoRow : OpenClaim := { program := "ytcolblmhopjgpaa", sum := "da7c37ef9de5aca7f40c8c7e3c7d7476c1a23371d7d70a8040e3d80a096fc034", func := "tenement/tenementlaw12.RestartPlans", spec := "restartPlans", unfollowed := true, recurses := true, apart := false, narrowed := true }
def RestartPlansUptoSaid : Prop := restartPlansUptoRow.holds Try.pinned (OpenSpec.upto restartPlansSpec)

/-- 'tenementlaw12.RestartParts', WHERE WHAT IT READS IS OF BULK AT MOST 1048576: true; the input reads as it did. -/
def restartPartsUptoRow : OpenClaim := { program := "ytcolblmhopjgpaa", sum := "da7c37ef9de5aca7f40c8c7e3c7d7476c1a23371d7d70a8040e3d80a096fc034", func := "tenement/tenementlaw12.RestartParts", spec := "restartParts", unfollowed := true, recurses := true, apart := false, narrowed := true }
def RestartPartsUptoSaid : Prop := restartPartsUptoRow.holds Try.pinned (OpenSpec.upto restartPartsSpec)

/-- 'tenementlaw12.RestartEnds', WHERE WHAT IT READS IS OF BULK AT MOST 1048576: true; the input reads as it did. -/
def restartEndsUptoRow : OpenClaim := { program := "ytcolblmhopjgpaa", sum := "da7c37ef9de5aca7f40c8c7e3c7d7476c1a23371d7d70a8040e3d80a096fc034", func := "tenement/tenementlaw12.RestartEnds", spec := "restartEnds", unfollowed := true, recurses := true, apart := false, narrowed := true }
def RestartEndsUptoSaid : Prop := restartEndsUptoRow.holds Try.pinned (OpenSpec.upto restartEndsSpec)

/-- 'tenementlaw12.RestartMarks', WHERE WHAT IT READS IS OF BULK AT MOST 1048576: true; the input reads as it did. -/
def restartMarksUptoRow : OpenClaim := { program := "ytcolblmhopjgpaa", sum := "da7c37ef9de5aca7f40c8c7e3c7d7476c1a23371d7d70a8040e3d80a096fc034", func := "tenement/tenementlaw12.RestartMarks", spec := "restartMarks", unfollowed := true, recurses := true, apart := false, narrowed := true }
def RestartMarksUptoSaid : Prop := restartMarksUptoRow.holds Try.pinned (OpenSpec.upto restartMarksSpec)

/-- 'tenementlaw12.RestartNone', WHERE WHAT IT READS IS OF BULK AT MOST 1048576: true; the input reads as it did. -/
def restartNoneUptoRow : OpenClaim := { program := "ytcolblmhopjgpaa", sum := "da7c37ef9de5aca7f40c8c7e3c7d7476c1a23371d7d70a8040e3d80a096fc034", func := "tenement/tenementlaw12.RestartNone", spec := "restartNone", unfollowed := true, recurses := true, apart := false, narrowed := true }
def RestartNoneUptoSaid : Prop := restartNoneUptoRow.holds Try.pinned (OpenSpec.upto restartNoneSpec)

/-- 'tenementlaw12.RestartAgain', WHERE WHAT IT READS IS OF BULK AT MOST 1048576: true; the input reads as it did. -/
def restartAgainUptoRow : OpenClaim := { program := "ytcolblmhopjgpaa", sum := "da7c37ef9de5aca7f40c8c7e3c7d7476c1a23371d7d70a8040e3d80a096fc034", func := "tenement/tenementlaw12.RestartAgain", spec := "restartAgain", unfollowed := true, recurses := true, apart := false, narrowed := true }
def RestartAgainUptoSaid : Prop := restartAgainUptoRow.holds Try.pinned (OpenSpec.upto restartAgainSpec)

end Rows
end Go.Proofs.Ytcolblmhopjgpaa
