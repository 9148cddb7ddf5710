/-
  The plan of entries, purely; entries of none.
-/
import Derived.Test.YtcolblmhopjgpaaRst5
namespace Go.Proofs.Ytcolblmhopjgpaa
open Go.RowKit

set_option maxRecDepth 100000 in
theorem entries_none (A : Option Addr) (cap : Nat) (w : World) :
    Calls Try.prog 11 #[.slice A 0 cap] w fun r w' => r = .returned (.slice none 0 0) ∧ Below w.heap.size w w' := by
  go_enter Try.func11, Try.ntmps11
  go_wp2
  refine wp_loop_rounds 1 ?_
  rw [rounds_succ]
  go_wp2
  go_ret
  exact ⟨rfl, Below.refl _ _⟩

/-- a change -/
structure Chg where
  pg : Int
  sl : Int
  bf : ByteArray
deriving DecidableEq
def Chg.cells (c : Chg) : List Value := [.int .i64 c.pg, .int .i64 c.sl, .string c.bf]
def Ent.chg (e : Ent) : Chg := ⟨e.pg, e.sl, e.bf⟩

/-- of one transaction: its changes, is it open -/
structure One where
  l : List Chg
  o : Bool
/-- what one entry of a transaction makes of it -/
def One.step (s : One) (e : Ent) : One :=
  if e.kd = 2 ∨ e.kd = 3 then ⟨s.l ++ [e.chg], true⟩ else if e.kd = 4 then ⟨s.l.dropLast, s.o⟩ else if e.kd = 5 ∨ e.kd = 6 then ⟨[], false⟩ else s
/-- the number that the plan takes an entry's transaction for -/
def slotOf (t : Int) : Nat := if t < 1 ∨ 3 < t then 0 else t.toNat
/-- a plan: from where, of each number what -/
structure Pln where
  fr : Int
  s : Nat → One
def Pln.step (p : Pln) (e : Ent) : Pln :=
  if e.kd = 7 then ⟨leastOf e.pl e.dl, p.s⟩ else ⟨p.fr, fun n => if n = slotOf e.tx then (p.s n).step e else p.s n⟩
def pln0 : Pln := ⟨0, fun _ => ⟨[], false⟩⟩
def planOf (es : List Ent) : Pln := es.foldl Pln.step pln0

end Go.Proofs.Ytcolblmhopjgpaa
