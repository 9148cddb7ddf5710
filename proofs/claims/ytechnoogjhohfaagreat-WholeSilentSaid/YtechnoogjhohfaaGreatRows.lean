/-
  No cell of these rows narrows 'for every input' (looked for: loops, veiled, ifaces, maps, wideKeys, modest, calm, conditions, laid).
  DERIVED. THE GIVEN ROWS OF THIS SEAT. 4 by the template 'for every input the law returns true; each argument reads behind the call as it read before'; 0 by the template 'total and deterministic' (their statements: YtechnoogjhohfaaGreatTotals.lean).
  GIVEN WITH THE SEED: the statements are not yours to turn. If you find one false, say at which input.
  Laid BY PROGRAM, IN A SANDBOX (cutbox-rows.mjs): the forced cells as the released guide's own fill.sh prints them over the translation c1b2d2c187094db7… (all of the seat's roots in one cut). By AI agents, Wed Nov 11 2026. No macro, syntax, notation, axiom, sorry.
-/
import Derived.Test.YtechnoogjhohfaaGreatChecked
import GoSem.Claim
import GoSem.ClaimJoined
import GoSem.ClaimMapViews
import Derived.JoinedTies
import Derived.KernelRfl
namespace Go.Proofs.YtechnoogjhohfaaGreat
/- THE CELL 'sum', in the pinned program and in every row, IS THE sha256 OF THE DUMP (.gsa) THAT YtechnoogjhohfaaGreatProg.lean LOADS. Nothing in Lean hashes anything: it is a label: what it is worth is what the hold of that sum in a sandbox is worth. -/
noncomputable def Tryz.pinned : Pinned := { name := "ytechnoogjhohfaagreat", sum := "c1b2d2c187094db72122bad1ee60ba64de8f724c360f4962028c9d16852abb2e", checked := Tryz.checked }
namespace Rows
def none {H : Type} : Left H := { results := [], args := [] }

/-- 'tenementtop.WholeCommits': WHATEVER THE INPUT: true; the input reads as it did. -/
def wholeCommitsSpec : ChangeSpec := { name := "wholeCommits", fn := fun _ => fun
  | [d1, d2, d3] => { results := [.lit (.bool true)], args := [d1, d2, d3] }
  | _ => none }
def wholeCommitsRow : OpenClaim := { program := "ytechnoogjhohfaagreat", sum := "c1b2d2c187094db72122bad1ee60ba64de8f724c360f4962028c9d16852abb2e", func := "tenement/tenementtop.WholeCommits", spec := "wholeCommits", inPlace := ["slices.overlaps[tenement/index.Item]"], unfollowed := true, recurses := true, plainKeys := false, apart := false }
def WholeCommitsSaid : Prop := wholeCommitsRow.holds Tryz.pinned (OpenSpec.ofChange wholeCommitsSpec)

/-- ITS FALSE NEIGHBOUR: 'it returns false'. Refute it at one input. -/
def wholeCommitsWrong : ChangeSpec := { name := "wholeCommits", fn := fun _ => fun
  | [d1, d2, d3] => { results := [.lit (.bool false)], args := [d1, d2, d3] }
  | _ => none }
def WholeCommitsWrongFalsely : Prop := wholeCommitsRow.holds Tryz.pinned (OpenSpec.ofChange wholeCommitsWrong)

/-- 'tenementtop.WholeQuota': WHATEVER THE INPUT: true; the input reads as it did. -/
def wholeQuotaSpec : ChangeSpec := { name := "wholeQuota", fn := fun _ => fun
  | [d1, d2, d3] => { results := [.lit (.bool true)], args := [d1, d2, d3] }
  | _ => none }
def wholeQuotaRow : OpenClaim := { program := "ytechnoogjhohfaagreat", sum := "c1b2d2c187094db72122bad1ee60ba64de8f724c360f4962028c9d16852abb2e", func := "tenement/tenementtop.WholeQuota", spec := "wholeQuota", inPlace := ["slices.overlaps[tenement/index.Item]"], unfollowed := true, recurses := true, plainKeys := false, apart := false }
def WholeQuotaSaid : Prop := wholeQuotaRow.holds Tryz.pinned (OpenSpec.ofChange wholeQuotaSpec)

/-- ITS FALSE NEIGHBOUR: 'it returns false'. Refute it at one input. -/
def wholeQuotaWrong : ChangeSpec := { name := "wholeQuota", fn := fun _ => fun
  | [d1, d2, d3] => { results := [.lit (.bool false)], args := [d1, d2, d3] }
  | _ => none }
def WholeQuotaWrongFalsely : Prop := wholeQuotaRow.holds Tryz.pinned (OpenSpec.ofChange wholeQuotaWrong)

/-- 'tenementtop.WholeMoves': WHATEVER THE INPUT: true; the input reads as it did. -/
def wholeMovesSpec : ChangeSpec := { name := "wholeMoves", fn := fun _ => fun
  | [d1, d2] => { results := [.lit (.bool true)], args := [d1, d2] }
  | _ => none }
def wholeMovesRow : OpenClaim := { program := "ytechnoogjhohfaagreat", sum := "c1b2d2c187094db72122bad1ee60ba64de8f724c360f4962028c9d16852abb2e", func := "tenement/tenementtop.WholeMoves", spec := "wholeMoves", inPlace := ["slices.overlaps[tenement/index.Item]"], unfollowed := true, recurses := true, plainKeys := false, apart := false }
def WholeMovesSaid : Prop := wholeMovesRow.holds Tryz.pinned (OpenSpec.ofChange wholeMovesSpec)

/-- ITS FALSE NEIGHBOUR: 'it returns false'. Refute it at one input. -/
def wholeMovesWrong : ChangeSpec := { name := "wholeMoves", fn := fun _ => fun
  | [d1, d2] => { results := [.lit (.bool false)], args := [d1, d2] }
  | _ => none }
def WholeMovesWrongFalsely : Prop := wholeMovesRow.holds Tryz.pinned (OpenSpec.ofChange wholeMovesWrong)

/-- 'tenementtop.WholeSilent': WHATEVER THE INPUT: true; the input reads as it did. -/
def wholeSilentSpec : ChangeSpec := { name := "wholeSilent", fn := fun _ => fun
  | [d] => { results := [.lit (.bool true)], args := [d] }
  | _ => none }
def wholeSilentRow : OpenClaim := { program := "ytechnoogjhohfaagreat", sum := "c1b2d2c187094db72122bad1ee60ba64de8f724c360f4962028c9d16852abb2e", func := "tenement/tenementtop.WholeSilent", spec := "wholeSilent", inPlace := ["slices.overlaps[tenement/index.Item]"], unfollowed := true, recurses := true, plainKeys := false, apart := false }
def WholeSilentSaid : Prop := wholeSilentRow.holds Tryz.pinned (OpenSpec.ofChange wholeSilentSpec)

/-- ITS FALSE NEIGHBOUR: 'it returns false'. Refute it at one input. -/
def wholeSilentWrong : ChangeSpec := { name := "wholeSilent", fn := fun _ => fun
  | [d] => { results := [.lit (.bool false)], args := [d] }
  | _ => none }
def WholeSilentWrongFalsely : Prop := wholeSilentRow.holds Tryz.pinned (OpenSpec.ofChange wholeSilentWrong)

/- THE SECOND FORM. 'bulk': how many values and letters a reading holds, each counted each time it is reached (what is shared counts as often as it is met; a slice's spare places count too). A statement '..UptoSaid' is the law's where the arguments, and the package variables that the reading takes, are together of bulk at most 1048576: NARROWER than '..Said'. Prove '..Said' where nothing that the law and all that it calls make is longer than what came in: it says more and counts as full. Else prove '..UptoSaid'. A law counts once. -/
mutual
def uptoBulk {H : Type} : DataW H → Nat
  | .lit (.string bytes) => bytes.length + 1
  | .lit _ => 1
  | .nil => 1
  | .ptr d => uptoBulk d + 1
  | .slice elems spare => uptoBulkAll elems + uptoBulkAll spare + 1
  | .agg parts => uptoBulkAll parts + 1
  | .iface _ d => uptoBulk d + 1
  | .map entries => uptoBulkEntries entries + 1
  | .held _ => 1
def uptoBulkAll {H : Type} : List (DataW H) → Nat
  | [] => 0
  | d :: r => uptoBulk d + uptoBulkAll r
def uptoBulkEntries {H : Type} : List (Lit × DataW H) → Nat
  | [] => 0
  | x :: r => uptoBulkEntry x + uptoBulkEntries r
def uptoBulkEntry {H : Type} : Lit × DataW H → Nat
  | (.string bytes, d) => bytes.length + uptoBulk d + 1
  | (_, d) => uptoBulk d + 1
 end
def uptoSmall : (H : Type) → List (DataW H) → Bool := fun _ ds => decide (uptoBulkAll ds ≤ 1048576)
def OpenSpec.upto (s : _root_.Go.ChangeSpec) : _root_.Go.OpenSpec := { _root_.Go.OpenSpec.ofChange s with cond := some uptoSmall }

/-- 'tenementtop.WholeCommits', WHERE WHAT IT READS IS OF BULK AT MOST 1048576: true; the input reads as it did. -/
def wholeCommitsUptoRow : OpenClaim := { program := "ytechnoogjhohfaagreat", sum := "c1b2d2c187094db72122bad1ee60ba64de8f724c360f4962028c9d16852abb2e", func := "tenement/tenementtop.WholeCommits", spec := "wholeCommits", inPlace := ["slices.overlaps[tenement/index.Item]"], unfollowed := true, recurses := true, plainKeys := false, apart := false, narrowed := true }
def WholeCommitsUptoSaid : Prop := wholeCommitsUptoRow.holds Tryz.pinned (OpenSpec.upto wholeCommitsSpec)

/-- 'tenementtop.WholeQuota', WHERE WHAT IT READS IS OF BULK AT MOST 1048576: true; the input reads as it did. -/
def wholeQuotaUptoRow : OpenClaim := { program := "ytechnoogjhohfaagreat", sum := "c1b2d2c187094db72122bad1ee60ba64de8f724c360f4962028c9d16852abb2e", func := "tenement/tenementtop.WholeQuota", spec := "wholeQuota", inPlace := ["slices.overlaps[tenement/index.Item]"], unfollowed := true, recurses := true, plainKeys := false, apart := false, narrowed := true }
def WholeQuotaUptoSaid : Prop := wholeQuotaUptoRow.holds Tryz.pinned (OpenSpec.upto wholeQuotaSpec)

/-- 'tenementtop.WholeMoves', WHERE WHAT IT READS IS OF BULK AT MOST 1048576: true; the input reads as it did. -/
def wholeMovesUptoRow : OpenClaim := { program := "ytechnoogjhohfaagreat", sum := "c1b2d2c187094db72122bad1ee60ba64de8f724c360f4962028c9d16852abb2e", func := "tenement/tenementtop.WholeMoves", spec := "wholeMoves", inPlace := ["slices.overlaps[tenement/index.Item]"], unfollowed := true, recurses := true, plainKeys := false, apart := false, narrowed := true }
def WholeMovesUptoSaid : Prop := wholeMovesUptoRow.holds Tryz.pinned (OpenSpec.upto wholeMovesSpec)

/-- 'tenementtop.WholeSilent', WHERE WHAT IT READS IS OF BULK AT MOST 1048576: true; the input reads as it did. -/
def wholeSilentUptoRow : OpenClaim := { program := "ytechnoogjhohfaagreat", sum := "c1b2d2c187094db72122bad1ee60ba64de8f724c360f4962028c9d16852abb2e", func := "tenement/tenementtop.WholeSilent", spec := "wholeSilent", inPlace := ["slices.overlaps[tenement/index.Item]"], unfollowed := true, recurses := true, plainKeys := false, apart := false, narrowed := true }
def WholeSilentUptoSaid : Prop := wholeSilentUptoRow.holds Tryz.pinned (OpenSpec.upto wholeSilentSpec)

end Rows
end Go.Proofs.YtechnoogjhohfaaGreat
