/-
  No cell of these rows narrows 'for every input' (looked for: loops, veiled, ifaces, maps, wideKeys, modest, calm, conditions, laid).
  DERIVED. THE GIVEN ROWS OF THIS SEAT. 5 by the template 'for every input the law returns true; each argument reads behind the call as it read before'; 0 by the template 'total and deterministic' (their statements: YticbmpgcndoncaaTotals.lean).
  GIVEN WITH THE SEED: the statements are not yours to turn. If you find one false, say at which input.
  Laid BY PROGRAM, IN A SANDBOX (cutbox-rows.mjs): the forced cells as the released guide's own fill.sh prints them over the translation 628630003e01a88b… (all of the seat's roots in one cut). By AI agents, Wed Nov 11 2026. No macro, syntax, notation, axiom, sorry.
-/
import Derived.Test.YticbmpgcndoncaaChecked
import GoSem.Claim
import GoSem.ClaimJoined
import GoSem.ClaimMapViews
import Derived.JoinedTies
import Derived.KernelRfl
namespace Go.Proofs.Yticbmpgcndoncaa
/- THE CELL 'sum', in the pinned program and in every row, IS THE sha256 OF THE DUMP (.gsa) THAT YticbmpgcndoncaaProg.lean LOADS. Nothing in Lean hashes anything: it is a label: what it is worth is what the hold of that sum in a sandbox is worth. -/
noncomputable def Try.pinned : Pinned := { name := "yticbmpgcndoncaa", sum := "628630003e01a88b6b79add6e4d0b6b1cc6d82a3ef83834528673ee2ba5546aa", checked := Try.checked }
namespace Rows
def none {H : Type} : Left H := { results := [], args := [] }

/-- 'tenementlaw10.LockApart': WHATEVER THE INPUT: true; the input reads as it did. -/
def lockApartSpec : ChangeSpec := { name := "lockApart", fn := fun _ => fun
  | [d1, d2] => { results := [.lit (.bool true)], args := [d1, d2] }
  | _ => none }
def lockApartRow : OpenClaim := { program := "yticbmpgcndoncaa", sum := "628630003e01a88b6b79add6e4d0b6b1cc6d82a3ef83834528673ee2ba5546aa", func := "tenement/tenementlaw10.LockApart", spec := "lockApart", plainKeys := false, apart := false }
def LockApartSaid : Prop := lockApartRow.holds Try.pinned (OpenSpec.ofChange lockApartSpec)

/-- ITS FALSE NEIGHBOUR: 'it returns false'. Refute it at one input. -/
def lockApartWrong : ChangeSpec := { name := "lockApart", fn := fun _ => fun
  | [d1, d2] => { results := [.lit (.bool false)], args := [d1, d2] }
  | _ => none }
def LockApartWrongFalsely : Prop := lockApartRow.holds Try.pinned (OpenSpec.ofChange lockApartWrong)

/-- 'tenementlaw10.LockTwice': WHATEVER THE INPUT: true; the input reads as it did. -/
def lockTwiceSpec : ChangeSpec := { name := "lockTwice", fn := fun _ => fun
  | [d] => { results := [.lit (.bool true)], args := [d] }
  | _ => none }
def lockTwiceRow : OpenClaim := { program := "yticbmpgcndoncaa", sum := "628630003e01a88b6b79add6e4d0b6b1cc6d82a3ef83834528673ee2ba5546aa", func := "tenement/tenementlaw10.LockTwice", spec := "lockTwice", plainKeys := false, apart := false }
def LockTwiceSaid : Prop := lockTwiceRow.holds Try.pinned (OpenSpec.ofChange lockTwiceSpec)

/-- ITS FALSE NEIGHBOUR: 'it returns false'. Refute it at one input. -/
def lockTwiceWrong : ChangeSpec := { name := "lockTwice", fn := fun _ => fun
  | [d] => { results := [.lit (.bool false)], args := [d] }
  | _ => none }
def LockTwiceWrongFalsely : Prop := lockTwiceRow.holds Try.pinned (OpenSpec.ofChange lockTwiceWrong)

/-- 'tenementlaw10.LockAlone': WHATEVER THE INPUT: true; the input reads as it did. -/
def lockAloneSpec : ChangeSpec := { name := "lockAlone", fn := fun _ => fun
  | [d] => { results := [.lit (.bool true)], args := [d] }
  | _ => none }
def lockAloneRow : OpenClaim := { program := "yticbmpgcndoncaa", sum := "628630003e01a88b6b79add6e4d0b6b1cc6d82a3ef83834528673ee2ba5546aa", func := "tenement/tenementlaw10.LockAlone", spec := "lockAlone", plainKeys := false, apart := false }
def LockAloneSaid : Prop := lockAloneRow.holds Try.pinned (OpenSpec.ofChange lockAloneSpec)

/-- ITS FALSE NEIGHBOUR: 'it returns false'. Refute it at one input. -/
def lockAloneWrong : ChangeSpec := { name := "lockAlone", fn := fun _ => fun
  | [d] => { results := [.lit (.bool false)], args := [d] }
  | _ => none }
def LockAloneWrongFalsely : Prop := lockAloneRow.holds Try.pinned (OpenSpec.ofChange lockAloneWrong)

/-- 'tenementlaw10.LockReads': WHATEVER THE INPUT: true; the input reads as it did. -/
def lockReadsSpec : ChangeSpec := { name := "lockReads", fn := fun _ => fun
  | [d1, d2, d3] => { results := [.lit (.bool true)], args := [d1, d2, d3] }
  | _ => none }
def lockReadsRow : OpenClaim := { program := "yticbmpgcndoncaa", sum := "628630003e01a88b6b79add6e4d0b6b1cc6d82a3ef83834528673ee2ba5546aa", func := "tenement/tenementlaw10.LockReads", spec := "lockReads", plainKeys := false, apart := false }
def LockReadsSaid : Prop := lockReadsRow.holds Try.pinned (OpenSpec.ofChange lockReadsSpec)

/-- ITS FALSE NEIGHBOUR: 'it returns false'. Refute it at one input. -/
def lockReadsWrong : ChangeSpec := { name := "lockReads", fn := fun _ => fun
  | [d1, d2, d3] => { results := [.lit (.bool false)], args := [d1, d2, d3] }
  | _ => none }
def LockReadsWrongFalsely : Prop := lockReadsRow.holds Try.pinned (OpenSpec.ofChange lockReadsWrong)

/-- 'tenementlaw10.LockScans': WHATEVER THE INPUT: true; the input reads as it did. -/
def lockScansSpec : ChangeSpec := { name := "lockScans", fn := fun _ => fun
  | [d1, d2, d3] => { results := [.lit (.bool true)], args := [d1, d2, d3] }
  | _ => none }
def lockScansRow : OpenClaim := { program := "yticbmpgcndoncaa", sum := "628630003e01a88b6b79add6e4d0b6b1cc6d82a3ef83834528673ee2ba5546aa", func := "tenement/tenementlaw10.LockScans", spec := "lockScans", plainKeys := false, apart := false }
def LockScansSaid : Prop := lockScansRow.holds Try.pinned (OpenSpec.ofChange lockScansSpec)

/-- ITS FALSE NEIGHBOUR: 'it returns false'. Refute it at one input. -/
def lockScansWrong : ChangeSpec := { name := "lockScans", fn := fun _ => fun
  | [d1, d2, d3] => { results := [.lit (.bool false)], args := [d1, d2, d3] }
  | _ => none }
def LockScansWrongFalsely : Prop := lockScansRow.holds Try.pinned (OpenSpec.ofChange lockScansWrong)

/- THE SECOND FORM. 'bulk': how many values and letters a reading holds, each counted each time it is reached (what is shared counts as often as it is met; a slice's spare places count too). A statement '..UptoSaid' is the law's where the arguments, and the package variables that the reading takes, are together of bulk at most 1048576: NARROWER than '..Said'. Prove '..Said' where nothing that the law and all that it calls make is longer than what came in: it says more and counts as full. Else prove '..UptoSaid'. A law counts once. -/
mutual
def uptoBulk {H : Type} : DataW H → Nat
  | .lit (.string bytes) => bytes.length + 1
  | .lit _ => 1
  | .nil => 1
  | .ptr d => uptoBulk d + 1
  | .slice elems spare => uptoBulkAll elems + uptoBulkAll spare + 1
  | .agg parts => uptoBulkAll parts + 1
  | .iface _ d => uptoBulk d + 1
  | .map entries => uptoBulkEntries entries + 1
  | .held _ => 1
def uptoBulkAll {H : Type} : List (DataW H) → Nat
  | [] => 0
  | d :: r => uptoBulk d + uptoBulkAll r
def uptoBulkEntries {H : Type} : List (Lit × DataW H) → Nat
  | [] => 0
  | x :: r => uptoBulkEntry x + uptoBulkEntries r
def uptoBulkEntry {H : Type} : Lit × DataW H → Nat
  | (.string bytes, d) => bytes.length + uptoBulk d + 1
  | (_, d) => uptoBulk d + 1
 end
def uptoSmall : (H : Type) → List (DataW H) → Bool := fun _ ds => decide (uptoBulkAll ds ≤ 1048576)
def OpenSpec.upto (s : _root_.Go.ChangeSpec) : _root_.Go.OpenSpec := { _root_.Go.OpenSpec.ofChange s with cond := some uptoSmall }

/-- 'tenementlaw10.LockApart', WHERE WHAT IT READS IS OF BULK AT MOST 1048576: true; the input reads as it did. -/
def lockApartUptoRow : OpenClaim := { program := "yticbmpgcndoncaa", sum := "628630003e01a88b6b79add6e4d0b6b1cc6d82a3ef83834528673ee2ba5546aa", func := "tenement/tenementlaw10.LockApart", spec := "lockApart", plainKeys := false, apart := false, narrowed := true }
def LockApartUptoSaid : Prop := lockApartUptoRow.holds Try.pinned (OpenSpec.upto lockApartSpec)

/-- 'tenementlaw10.LockTwice', WHERE WHAT IT READS IS OF BULK AT MOST 1048576: true; the input reads as it did. -/
def lockTwiceUptoRow : OpenClaim := { program := "yticbmpgcndoncaa", sum := "628630003e01a88b6b79add6e4d0b6b1cc6d82a3ef83834528673ee2ba5546aa", func := "tenement/tenementlaw10.LockTwice", spec := "lockTwice", plainKeys := false, apart := false, narrowed := true }
def LockTwiceUptoSaid : Prop := lockTwiceUptoRow.holds Try.pinned (OpenSpec.upto lockTwiceSpec)

/-- 'tenementlaw10.LockAlone', WHERE WHAT IT READS IS OF BULK AT MOST 1048576: true; the input reads as it did. -/
def lockAloneUptoRow : OpenClaim := { program := "yticbmpgcndoncaa", sum := "628630003e01a88b6b79add6e4d0b6b1cc6d82a3ef83834528673ee2ba5546aa", func := "tenement/tenementlaw10.LockAlone", spec := "lockAlone", plainKeys := false, apart := false, narrowed := true }
def LockAloneUptoSaid : Prop := lockAloneUptoRow.holds Try.pinned (OpenSpec.upto lockAloneSpec)

/-- 'tenementlaw10.LockReads', WHERE WHAT IT READS IS OF BULK AT MOST 1048576: true; the input reads as it did. -/
def lockReadsUptoRow : OpenClaim := { program := "yticbmpgcndoncaa", sum := "628630003e01a88b6b79add6e4d0b6b1cc6d82a3ef83834528673ee2ba5546aa", func := "tenement/tenementlaw10.LockReads", spec := "lockReads", plainKeys := false, apart := false, narrowed := true }
def LockReadsUptoSaid : Prop := lockReadsUptoRow.holds Try.pinned (OpenSpec.upto lockReadsSpec)

/-- 'tenementlaw10.LockScans', WHERE WHAT IT READS IS OF BULK AT MOST 1048576: true; the input reads as it did. -/
def lockScansUptoRow : OpenClaim := { program := "yticbmpgcndoncaa", sum := "628630003e01a88b6b79add6e4d0b6b1cc6d82a3ef83834528673ee2ba5546aa", func := "tenement/tenementlaw10.LockScans", spec := "lockScans", plainKeys := false, apart := false, narrowed := true }
def LockScansUptoSaid : Prop := lockScansUptoRow.holds Try.pinned (OpenSpec.upto lockScansSpec)

end Rows
end Go.Proofs.Yticbmpgcndoncaa
