/-
  Locks: names as keys, what is held as lists, and the functions of the package by contracts.
-/
import Derived.Test.YticbmpgcndoncaaRows
import Derived.Test.YticbmpgcndoncaaAL2
import Derived.WalkSpells
import Derived.WalkLawsBesides
import Derived.StillTailTactics
import Derived.DeepKeys4
namespace Go.Proofs.Yticbmpgcndoncaa
open Go.RowKit Go.Maps

abbrev Nm := Int × ByteArray × Bool
abbrev Hold := List (Int × Int)
def inum (x : Int) : Value := .int .i64 x
def iok (x : Int) : Prop := (Lit.int .i64 x).wf = true
theorem ienc : KEnc Try.prog 3 inum iok := ⟨int_keyed Try.underlying3, fun x hx => ⟨_, keyOf_int_mk Try.underlying3 hx⟩, fun x y h => by unfold inum at h; injection h⟩
theorem zero3 (w : World) : (zeroValue 3).run Try.prog w = .ok (inum 0) w := by kernel_rfl
theorem iok_of {x : Int} (h : -9223372036854775808 ≤ x ∧ x ≤ 9223372036854775807) : iok x := WalkArith.wf_i64 h

def nval (n : Nm) : Value := .agg #[.int .i64 n.1, .string n.2.1, .bool n.2.2]
def nok (n : Nm) : Prop := iok n.1 ∧ n.2.1.size ≤ maxLen
def oval (o : Option Nat) : Value := .map o
theorem laidOut : laidOutB Try.prog = true := by kernel_rfl
theorem row44 : 44 < Try.prog.types.size := of_decide_eq_true (by kernel_rfl)
theorem nkeyed : Keyed Try.prog 44 := Keyed.of_law (Go.deep_law_laid laidOut (m := 3) (by omega) row44 (by kernel_rfl) (by kernel_rfl))
theorem nlit_of {P : Program} {k a b c : TypeId} {fs : Array Field} {f0 f1 f2 : Field} (hk : P.underlying k = some (.struct fs)) (hfs : fs = #[f0, f1, f2]) (e0 : f0.type = a ∧ f0.offset = 0 ∧ (f0.name != "_") = true) (e1 : f1.type = b ∧ f1.offset = 1 ∧ (f1.name != "_") = true) (e2 : f2.type = c ∧ f2.offset = 2 ∧ (f2.name != "_") = true)
    (kt : P.keyType k = true) (hc : P.cellsOf k = 3) (ha : P.underlying a = some (.int .i64)) (hb : P.underlying b = some .string) (hcc : P.underlying c = some .bool) (ca : P.cellsOf a = 1) (cb : P.cellsOf b = 1) (cc : P.cellsOf c = 1) (hsz : ∃ m, P.types.size = m + 1)
    (n : Nm) (h1 : (Lit.int .i64 n.1).wf = true) (h2 : n.2.1.size ≤ maxLen) : ∃ l, keyOf P k (nval n) = some l := by
  obtain ⟨m, hm⟩ := hsz
  subst hfs
  obtain ⟨rfl, o0, n0⟩ := e0
  obtain ⟨rfl, o1, n1⟩ := e1
  obtain ⟨rfl, o2, n2⟩ := e2
  refine ⟨.string (keyBytes [.int .i64 n.1, .string n.2.1.data.toList, .bool n.2.2]), ?_⟩
  simp only [bne_iff_ne, ne_eq] at n0 n1 n2
  simp [keyOf, hk, kt, nval, Value.formed, hc, hm, Value.cells, Program.keyLits, ha, hb, hcc, ca, cb, cc, h1, h2, o0, o1, o2, n0, n1, n2]
theorem some_size : ∃ m, Try.prog.types.size = m + 1 := ⟨Try.prog.types.size - 1, by have := row44; omega⟩
theorem nlit (n : Nm) (h : nok n) : ∃ l, keyOf Try.prog 44 (nval n) = some l :=
  nlit_of Try.underlying44 rfl ⟨rfl, rfl, by decide⟩ ⟨rfl, rfl, by decide⟩ ⟨rfl, rfl, by decide⟩ (by kernel_rfl) (by kernel_rfl) Try.underlying3 Try.underlying9 Try.underlying4 (by kernel_rfl) (by kernel_rfl) (by kernel_rfl) some_size n h.1 h.2
theorem nenc : KEnc Try.prog 44 nval nok := ⟨nkeyed, nlit, fun x y h => by
  unfold nval at h
  obtain ⟨a, b, c⟩ := x
  obtain ⟨a', b', c'⟩ := y
  simp at h
  obtain ⟨rfl, rfl, rfl⟩ := h
  rfl⟩
theorem zero45 (w : World) : (zeroValue 45).run Try.prog w = .ok (oval none) w := by kernel_rfl

/-! ### the model -/
abbrev Lk := List (Nm × Hold)
def heldBy (M : Lk) (n : Nm) : Hold := (aget M n).getD []
def both (a b : Int) : Int := if a = 0 ∨ a = b then b else if b = 0 then a else 3
def fits (a b : Int) : Bool := decide (a = b) && !decide (a = 3)
def barred (h : Hold) (who want : Int) : Bool := h.any fun p => !decide (p.1 = who) && !fits want p.2
def wants (M : Lk) (who : Int) (n : Nm) (mode : Int) : Int := both ((aget (heldBy M n) who).getD 0) mode
def takeM (M : Lk) (who : Int) (n : Nm) (mode : Int) : Lk := aput M n (aput (heldBy M n) who (wants M who n mode))
def dropM (M : Lk) (who : Int) : Lk := (M.map fun p => (p.1, adel p.2 who)).filter fun p => !p.2.isEmpty

set_option maxRecDepth 100000 in
theorem both_any (a b : Int) (w : World) : Calls Try.prog 15 #[.int .i64 a, .int .i64 b] w fun e w' => e = .returned (.int .i64 (both a b)) ∧ w' = w := by
  by_cases h1 : a = 0
  · have h1' : (a == 0) = true := by simpa using h1
    have e : both a b = b := by unfold both; rw [if_pos (.inl h1)]
    rw [e]
    clear h1 e
    go_enter Try.func15, Try.ntmps15
    go_wp2
    go_ret
    exact ⟨rfl, rfl⟩
  · have h1' : (a == 0) = false := by simpa using h1
    by_cases h2 : a = b
    · have h2' : (a == b) = true := by simpa using h2
      have e : both a b = b := by unfold both; rw [if_pos (.inr h2)]
      rw [e]
      clear h1 h2 e
      go_enter Try.func15, Try.ntmps15
      go_wp2
      go_ret
      exact ⟨rfl, rfl⟩
    · have h2' : (a == b) = false := by simpa using h2
      by_cases h3 : b = 0
      · have h3' : (b == 0) = true := by simpa using h3
        have e : both a b = a := by unfold both; rw [if_neg (fun h => h.elim h1 h2), if_pos h3]
        rw [e]
        clear h1 h2 h3 e
        go_enter Try.func15, Try.ntmps15
        go_wp2
        go_ret
        exact ⟨rfl, rfl⟩
      · have h3' : (b == 0) = false := by simpa using h3
        have e : both a b = 3 := by unfold both; rw [if_neg (fun h => h.elim h1 h2), if_neg h3]
        rw [e]
        clear h1 h2 h3 e
        go_enter Try.func15, Try.ntmps15
        go_wp2
        go_ret
        exact ⟨rfl, rfl⟩

set_option maxRecDepth 100000 in
theorem fits_any (a b : Int) (w : World) : Calls Try.prog 16 #[.int .i64 a, .int .i64 b] w fun e w' => e = .returned (.bool (fits a b)) ∧ w = w' := by
  by_cases h1 : a = b
  · have h1' : (a == b) = true := by simpa using h1
    by_cases h2 : a = 3
    · have h2' : (a != 3) = false := by simpa using h2
      have e : fits a b = false := by unfold fits; rw [decide_eq_true h2]; simp
      rw [e]
      clear h1 h2 e
      go_enter Try.func16, Try.ntmps16
      go_wp2
      go_ret
      exact ⟨rfl, rfl⟩
    · have h2' : (a != 3) = true := by simpa using h2
      have e : fits a b = true := by unfold fits; rw [decide_eq_true h1, decide_eq_false h2]; rfl
      rw [e]
      clear h1 h2 e
      go_enter Try.func16, Try.ntmps16
      go_wp2
      go_ret
      exact ⟨rfl, rfl⟩
  · have h1' : (a == b) = false := by simpa using h1
    have e : fits a b = false := by unfold fits; rw [decide_eq_false h1]; rfl
    rw [e]
    clear h1 e
    go_enter Try.func16, Try.ntmps16
    go_wp2
    go_ret
    exact ⟨rfl, rfl⟩

end Go.Proofs.Yticbmpgcndoncaa
