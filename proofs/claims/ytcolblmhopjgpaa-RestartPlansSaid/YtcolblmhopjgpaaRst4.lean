/-
  light walked.
-/
import Derived.Test.YtcolblmhopjgpaaRst3
namespace Go.Proofs.Ytcolblmhopjgpaa
open Go.RowKit

/-- the seeds that a law is handed: where they lie -/
def SeedAt (w : World) (b o : Nat) (s : SeedV) : Prop :=
  w.cell? ⟨b, o, none⟩ = some (.int .i64 s.kd) ∧ w.cell? ⟨b, o + 1, none⟩ = some (.int .i64 s.tx) ∧ w.cell? ⟨b, o + 2, none⟩ = some (.int .i64 s.pg) ∧ w.cell? ⟨b, o + 3, none⟩ = some (.int .i64 s.sl) ∧
  w.cell? ⟨b, o + 4, none⟩ = some (.int .u8 s.bf) ∧ w.cell? ⟨b, o + 5, none⟩ = some (.int .u8 s.af) ∧ w.cell? ⟨b, o + 6, none⟩ = some (.int .u8 s.im) ∧ w.cell? ⟨b, o + 7, none⟩ = some (.slice s.A s.len s.cap)
theorem SeedAt.below {w w' : World} {b o : Nat} {s : SeedV} (h : SeedAt w b o s) (k : Below w.heap.size w w') : SeedAt w' b o s := by
  obtain ⟨h0, h1, h2, h3, h4, h5, h6, h7⟩ := h
  exact ⟨cell_below k h0, cell_below k h1, cell_below k h2, cell_below k h3, cell_below k h4, cell_below k h5, cell_below k h6, cell_below k h7⟩
def Seeds (w : World) (b off n : Nat) : Prop := ∀ i, i < n → ∃ s : SeedV, SeedAt w b (off + i * 8) s ∧ s.ok w

set_option maxRecDepth 100000 in
set_option maxHeartbeats 1600000 in
theorem light_any (b off len cap : Nat) (w : World) (hlen : len ≤ 9223372036854775807) (hc : Seeds w b off len) :
    Calls Try.prog 10 #[.slice (some ⟨b, off, none⟩) len cap] w fun e w' => (∃ r : Bool, e = .returned (.bool r) ∧ (r = true → len ≤ 100)) ∧ Below w.heap.size w w' := by
  by_cases h100 : 100 < len
  · have hd : decide ((100 : Int) < (len : Int)) = true := by simp; omega
    go_enter Try.func10, Try.ntmps10
    go_wp2
    go_ret
    exact ⟨⟨false, rfl, fun h => by cases h⟩, Below.refl _ _⟩
  · have hd : decide ((100 : Int) < (len : Int)) = false := by simp; omega
    have HC := hid hc
    clear hc
    go_enter Try.func10, Try.ntmps10
    go_wp2
    go_loopw [10] (fun u wr => ∃ k : Nat, k ≤ len ∧ u = .int .i64 k ∧ Below w.heap.size w wr) (fun u _ => ((len : Int) - intOf u).toNat)
    case atStart => exact ⟨0, by omega, rfl, Below.refl _ _⟩
    case round =>
      obtain ⟨i, hi, rfl, hb⟩ := hrel
      by_cases hlt : i < len
      · obtain ⟨s, hs, _⟩ := HC.out i hlt
        obtain ⟨a0, a1, a2, a3, a4, a5, a6, a7⟩ := hs.below hb
        clear hs
        by_cases hl : 100 < s.len
        · have hd2 : decide ((100 : Int) < (s.len : Int)) = true := by simp; omega
          go_wp2
          go_ret
          exact ⟨⟨false, rfl, fun h => by cases h⟩, B_alloc hb _⟩
        · have hd2 : decide ((100 : Int) < (s.len : Int)) = false := by simp; omega
          go_wp2
          go_roundw
          case rel => exact ⟨i + 1, by omega, by go_num, B_alloc hb _⟩
          case measure => simp [intOf]; omega
      · obtain rfl : i = len := by omega
        go_wp2
        go_ret
        exact ⟨⟨true, rfl, fun _ => by omega⟩, hb⟩

set_option maxRecDepth 100000 in
theorem light_none (A : Option Addr) (cap : Nat) (w : World) :
    Calls Try.prog 10 #[.slice A 0 cap] w fun e w' => (∃ r : Bool, e = .returned (.bool r)) ∧ Below w.heap.size w w' := by
  go_enter Try.func10, Try.ntmps10
  go_wp2
  refine wp_loop_rounds 1 ?_
  rw [rounds_succ]
  go_wp2
  go_ret
  exact ⟨⟨true, rfl⟩, Below.refl _ _⟩

end Go.Proofs.Ytcolblmhopjgpaa
