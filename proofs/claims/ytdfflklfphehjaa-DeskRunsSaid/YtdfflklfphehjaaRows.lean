/-
  No cell of these rows narrows 'for every input' (looked for: loops, veiled, ifaces, maps, wideKeys, modest, calm, conditions, laid).
  DERIVED. THE GIVEN ROWS OF THIS SEAT. 5 by the template 'for every input the law returns true; each argument reads behind the call as it read before'; 0 by the template 'total and deterministic' (their statements: YtdfflklfphehjaaTotals.lean).
  GIVEN WITH THE SEED: the statements are not yours to turn. If you find one false, say at which input.
  Laid BY PROGRAM, IN A SANDBOX (cutbox-rows.mjs): the forced cells as the released guide's own fill.sh prints them over the translation 346501db37eeb640… (all of the seat's roots in one cut). By AI agents, Wed Nov 11 2026. No macro, syntax, notation, axiom, sorry.
-/
import Derived.Test.YtdfflklfphehjaaChecked
import GoSem.Claim
import GoSem.ClaimJoined
import GoSem.ClaimMapViews
import Derived.JoinedTies
import Derived.KernelRfl
namespace Go.Proofs.Ytdfflklfphehjaa
/- THE CELL 'sum', in the pinned program and in every row, IS THE sha256 OF THE DUMP (.gsa) THAT YtdfflklfphehjaaProg.lean LOADS. Nothing in Lean hashes anything: it is a label: what it is worth is what the hold of that sum in a sandbox is worth. -/
noncomputable def Try.pinned : Pinned := { name := "ytdfflklfphehjaa", sum := "346501db37eeb6400bbc51387e5231706562bc747e3a053b25ddc4125a42f3d1", checked := Try.checked }
namespace Rows
def none {H : Type} : Left H := { results := [], args := [] }

/-- 'tenementlaw16.DeskApart': WHATEVER THE INPUT: true; the input reads as it did. -/
def deskApartSpec : ChangeSpec := { name := "deskApart", fn := fun _ => fun
  | [d1, d2, d3] => { results := [.lit (.bool true)], args := [d1, d2, d3] }
  | _ => none }
def deskApartRow : OpenClaim := { program := "ytdfflklfphehjaa", sum := "346501db37eeb6400bbc51387e5231706562bc747e3a053b25ddc4125a42f3d1", func := "tenement/tenementlaw16.DeskApart", spec := "deskApart", apart := false }
def DeskApartSaid : Prop := deskApartRow.holds Try.pinned (OpenSpec.ofChange deskApartSpec)

/-- ITS FALSE NEIGHBOUR: 'it returns false'. Refute it at one input. -/
def deskApartWrong : ChangeSpec := { name := "deskApart", fn := fun _ => fun
  | [d1, d2, d3] => { results := [.lit (.bool false)], args := [d1, d2, d3] }
  | _ => none }
def DeskApartWrongFalsely : Prop := deskApartRow.holds Try.pinned (OpenSpec.ofChange deskApartWrong)

/-- 'tenementlaw16.DeskMany': WHATEVER THE INPUT: true; the input reads as it did. -/
def deskManySpec : ChangeSpec := { name := "deskMany", fn := fun _ => fun
  | [d1, d2] => { results := [.lit (.bool true)], args := [d1, d2] }
  | _ => none }
def deskManyRow : OpenClaim := { program := "ytdfflklfphehjaa", sum := "346501db37eeb6400bbc51387e5231706562bc747e3a053b25ddc4125a42f3d1", func := "tenement/tenementlaw16.DeskMany", spec := "deskMany", apart := false }
def DeskManySaid : Prop := deskManyRow.holds Try.pinned (OpenSpec.ofChange deskManySpec)

/-- ITS FALSE NEIGHBOUR: 'it returns false'. Refute it at one input. -/
def deskManyWrong : ChangeSpec := { name := "deskMany", fn := fun _ => fun
  | [d1, d2] => { results := [.lit (.bool false)], args := [d1, d2] }
  | _ => none }
def DeskManyWrongFalsely : Prop := deskManyRow.holds Try.pinned (OpenSpec.ofChange deskManyWrong)

/-- 'tenementlaw16.DeskRises': WHATEVER THE INPUT: true; the input reads as it did. -/
def deskRisesSpec : ChangeSpec := { name := "deskRises", fn := fun _ => fun
  | [d1, d2] => { results := [.lit (.bool true)], args := [d1, d2] }
  | _ => none }
def deskRisesRow : OpenClaim := { program := "ytdfflklfphehjaa", sum := "346501db37eeb6400bbc51387e5231706562bc747e3a053b25ddc4125a42f3d1", func := "tenement/tenementlaw16.DeskRises", spec := "deskRises", apart := false }
def DeskRisesSaid : Prop := deskRisesRow.holds Try.pinned (OpenSpec.ofChange deskRisesSpec)

/-- ITS FALSE NEIGHBOUR: 'it returns false'. Refute it at one input. -/
def deskRisesWrong : ChangeSpec := { name := "deskRises", fn := fun _ => fun
  | [d1, d2] => { results := [.lit (.bool false)], args := [d1, d2] }
  | _ => none }
def DeskRisesWrongFalsely : Prop := deskRisesRow.holds Try.pinned (OpenSpec.ofChange deskRisesWrong)

/-- 'tenementlaw16.DeskRuns': WHATEVER THE INPUT: true; the input reads as it did. -/
def deskRunsSpec : ChangeSpec := { name := "deskRuns", fn := fun _ => fun
  | [d1, d2] => { results := [.lit (.bool true)], args := [d1, d2] }
  | _ => none }
def deskRunsRow : OpenClaim := { program := "ytdfflklfphehjaa", sum := "346501db37eeb6400bbc51387e5231706562bc747e3a053b25ddc4125a42f3d1", func := "tenement/tenementlaw16.DeskRuns", spec := "deskRuns", apart := false }
def DeskRunsSaid : Prop := deskRunsRow.holds Try.pinned (OpenSpec.ofChange deskRunsSpec)

/-- ITS FALSE NEIGHBOUR: 'it returns false'. Refute it at one input. -/
def deskRunsWrong : ChangeSpec := { name := "deskRuns", fn := fun _ => fun
  | [d1, d2] => { results := [.lit (.bool false)], args := [d1, d2] }
  | _ => none }
def DeskRunsWrongFalsely : Prop := deskRunsRow.holds Try.pinned (OpenSpec.ofChange deskRunsWrong)

/-- 'tenementlaw16.DeskTxns': WHATEVER THE INPUT: true; the input reads as it did. -/
def deskTxnsSpec : ChangeSpec := { name := "deskTxns", fn := fun _ => fun
  | [d1, d2] => { results := [.lit (.bool true)], args := [d1, d2] }
  | _ => none }
def deskTxnsRow : OpenClaim := { program := "ytdfflklfphehjaa", sum := "346501db37eeb6400bbc51387e5231706562bc747e3a053b25ddc4125a42f3d1", func := "tenement/tenementlaw16.DeskTxns", spec := "deskTxns", apart := false }
def DeskTxnsSaid : Prop := deskTxnsRow.holds Try.pinned (OpenSpec.ofChange deskTxnsSpec)

/-- ITS FALSE NEIGHBOUR: 'it returns false'. Refute it at one input. -/
def deskTxnsWrong : ChangeSpec := { name := "deskTxns", fn := fun _ => fun
  | [d1, d2] => { results := [.lit (.bool false)], args := [d1, d2] }
  | _ => none }
def DeskTxnsWrongFalsely : Prop := deskTxnsRow.holds Try.pinned (OpenSpec.ofChange deskTxnsWrong)

/- THE SECOND FORM. 'bulk': how many values and letters a reading holds, each counted each time it is reached (what is shared counts as often as it is met; a slice's spare places count too). A statement '..UptoSaid' is the law's where the arguments, and the package variables that the reading takes, are together of bulk at most 1048576: NARROWER than '..Said'. Prove '..Said' where nothing that the law and all that it calls make is longer than what came in: it says more and counts as full. Else prove '..UptoSaid'. A law counts once. -/
mutual
def uptoBulk {H : Type} : DataW H → Nat
  | .lit (.string bytes) => bytes.length + 1
  | .lit _ => 1
  | .nil => 1
  | .ptr d => uptoBulk d + 1
  | .slice elems spare => uptoBulkAll elems + uptoBulkAll spare + 1
  | .agg parts => uptoBulkAll parts + 1
  | .iface _ d => uptoBulk d + 1
  | .map entries => uptoBulkEntries entries + 1
  | .held _ => 1
def uptoBulkAll {H : Type} : List (DataW H) → Nat
  | [] => 0
  | d :: r => uptoBulk d + uptoBulkAll r
def uptoBulkEntries {H : Type} : List (Lit × DataW H) → Nat
  | [] => 0
  | x :: r => uptoBulkEntry x + uptoBulkEntries r
def uptoBulkEntry {H : Type} : Lit × DataW H → Nat
  | (.string bytes, d) => bytes.length + uptoBulk d + 1
  | (_, d) => uptoBulk d + 1
 end
def uptoSmall : (H : Type) → List (DataW H) → Bool := fun _ ds => decide (uptoBulkAll ds ≤ 1048576)
def OpenSpec.upto (s : _root_.Go.ChangeSpec) : _root_.Go.OpenSpec := { _root_.Go.OpenSpec.ofChange s with cond := some uptoSmall }

/-- 'tenementlaw16.DeskApart', WHERE WHAT IT READS IS OF BULK AT MOST 1048576: true; the input reads as it did. -/
def deskApartUptoRow : OpenClaim := { program := "ytdfflklfphehjaa", sum := "346501db37eeb6400bbc51387e5231706562bc747e3a053b25ddc4125a42f3d1", func := "tenement/tenementlaw16.DeskApart", spec := "deskApart", apart := false, narrowed := true }
def DeskApartUptoSaid : Prop := deskApartUptoRow.holds Try.pinned (OpenSpec.upto deskApartSpec)

/-- 'tenementlaw16.DeskMany', WHERE WHAT IT READS IS OF BULK AT MOST 1048576: true; the input reads as it did. -/
def deskManyUptoRow : OpenClaim := { program := "ytdfflklfphehjaa", sum := "346501db37eeb6400bbc51387e5231706562bc747e3a053b25ddc4125a42f3d1", func := "tenement/tenementlaw16.DeskMany", spec := "deskMany", apart := false, narrowed := true }
def DeskManyUptoSaid : Prop := deskManyUptoRow.holds Try.pinned (OpenSpec.upto deskManySpec)

/-- 'tenementlaw16.DeskRises', WHERE WHAT IT READS IS OF BULK AT MOST 1048576: true; the input reads as it did. -/
def deskRisesUptoRow : OpenClaim := { program := "ytdfflklfphehjaa", sum := "346501db37eeb6400bbc51387e5231706562bc747e3a053b25ddc4125a42f3d1", func := "tenement/tenementlaw16.DeskRises", spec := "deskRises", apart := false, narrowed := true }
def DeskRisesUptoSaid : Prop := deskRisesUptoRow.holds Try.pinned (OpenSpec.upto deskRisesSpec)

/-- 'tenementlaw16.DeskRuns', WHERE WHAT IT READS IS OF BULK AT MOST 1048576: true; the input reads as it did. -/
def deskRunsUptoRow : OpenClaim := { program := "ytdfflklfphehjaa", sum := "346501db37eeb6400bbc51387e5231706562bc747e3a053b25ddc4125a42f3d1", func := "tenement/tenementlaw16.DeskRuns", spec := "deskRuns", apart := false, narrowed := true }
def DeskRunsUptoSaid : Prop := deskRunsUptoRow.holds Try.pinned (OpenSpec.upto deskRunsSpec)

/-- 'tenementlaw16.DeskTxns', WHERE WHAT IT READS IS OF BULK AT MOST 1048576: true; the input reads as it did. -/
def deskTxnsUptoRow : OpenClaim := { program := "ytdfflklfphehjaa", sum := "346501db37eeb6400bbc51387e5231706562bc747e3a053b25ddc4125a42f3d1", func := "tenement/tenementlaw16.DeskTxns", spec := "deskTxns", apart := false, narrowed := true }
def DeskTxnsUptoSaid : Prop := deskTxnsUptoRow.holds Try.pinned (OpenSpec.upto deskTxnsSpec)

end Rows
end Go.Proofs.Ytdfflklfphehjaa
