/-
  Entries; since and Again walked.
-/
import Derived.Test.YtcolblmhopjgpaaRst1
namespace Go.Proofs.Ytcolblmhopjgpaa
open Go.RowKit

/-- An entry, and what its list of places holds. -/
structure Ent where
  pl : Int
  kd : Int
  tx : Int
  pg : Int
  sl : Int
  bf : ByteArray
  af : ByteArray
  im : ByteArray
  dv : Value
  dl : List Int
def Ent.cells (e : Ent) : List Value := [.int .u64 e.pl, .int .i64 e.kd, .int .i64 e.tx, .int .i64 e.pg, .int .i64 e.sl, .string e.bf, .string e.af, .string e.im, e.dv]
def Ent.val (e : Ent) : Value := .agg #[.int .u64 e.pl, .int .i64 e.kd, .int .i64 e.tx, .int .i64 e.pg, .int .i64 e.sl, .string e.bf, .string e.af, .string e.im, e.dv]

/-- where an entry's list of places lies -/
def DirtyAt (w : World) (e : Ent) : Prop :=
  (e.dv = .slice none 0 0 ∧ e.dl = []) ∨ ∃ g off cap cs t, e.dv = .slice (some ⟨g, off, none⟩) e.dl.length cap ∧ t ≠ 38 ∧ t ≠ 40 ∧ t ≠ 42 ∧ w.heap[g]? = some (.cells cs t (0, 0)) ∧ e.dl.length ≤ maxLen ∧ ∀ i, i < e.dl.length → cs[off + i]? = some (.int .u64 (e.dl.getD i 0))
theorem DirtyAt.below {w w' : World} {e : Ent} (h : DirtyAt w e) (b : Below w.heap.size w w') : DirtyAt w' e := by
  rcases h with h | ⟨g, off, cap, cs, t, h1, h0, h2, h3, h4, h5⟩
  · exact .inl h
  · exact .inr ⟨g, off, cap, cs, t, h1, h0, h2, h3, (b.block g (Array.getElem?_eq_some_iff.1 h4).1).trans h4, h5⟩
theorem DirtyAt.of {w w' : World} {e : Ent} (h : DirtyAt w e) (b : ∀ (g : Nat) (cs : Array Value) (t : TypeId), t ≠ 38 → t ≠ 40 → t ≠ 42 → w.heap[g]? = some (.cells cs t (0, 0)) → w'.heap[g]? = w.heap[g]?) : DirtyAt w' e := by
  rcases h with h | ⟨g, off, cap, cs, t, h1, h0, h2, h3, h4, h5⟩
  · exact .inl h
  · exact .inr ⟨g, off, cap, cs, t, h1, h0, h2, h3, (b g cs t h0 h2 h3 h4).trans h4, h5⟩

def leastOf (a : Int) (l : List Int) : Int := l.foldl (fun a d => if 0 < d then (if d < a then d else a) else a) a
theorem leastOf_take (a : Int) (l : List Int) (i : Nat) (hi : i < l.length) : leastOf a (l.take (i + 1)) = if 0 < l.getD i 0 then (if l.getD i 0 < leastOf a (l.take i) then l.getD i 0 else leastOf a (l.take i)) else leastOf a (l.take i) := by
  have e : l.take (i + 1) = l.take i ++ [l.getD i 0] := by
    rw [List.take_add_one, List.getD, List.getElem?_eq_getElem hi]; rfl
  unfold leastOf
  rw [e, List.foldl_append]; rfl

set_option maxRecDepth 100000 in
theorem since_any (e : Ent) (w : World) (hd : DirtyAt w e) : Calls Try.prog 16 #[e.val] w fun r w' => r = .returned (.int .u64 (leastOf e.pl e.dl)) ∧ Below w.heap.size w w' := by
  obtain ⟨pl, kd, tx, pg, sl, bf, af, im, dv, dl⟩ := e
  unfold Ent.val
  rcases hd with ⟨h1, h2⟩ | ⟨g, off, cap, cs, t, h1, h0, h2, h3, h4, h5, h6⟩
  · simp only at h1 h2
    subst h1 h2
    simp only
    go_enter Try.func16, Try.ntmps16
    go_wp2
    refine wp_loop_rounds 1 ?_
    rw [rounds_succ]
    go_wp2
    go_ret
    exact ⟨rfl, (Below.refl _ _).alloc (Nat.le_refl _) _⟩
  · simp only at h1 h5 h6
    subst h1
    simp only
    have hlt := (Array.getElem?_eq_some_iff.1 h4).1
    have H6 := hid h6
    clear h6
    go_enter Try.func16, Try.ntmps16
    go_wp2
    generalize hW : w.alloc _ = W
    have hb : Below w.heap.size w W := by rw [← hW]; exact (Below.refl _ _).alloc (Nat.le_refl _) _
    have h4' : W.heap[g]? = some (.cells cs t (0, 0)) := (hb.block g hlt).trans h4
    clear hW h4
    obtain ⟨n, hn⟩ : ∃ n, n = dl.length := ⟨_, rfl⟩
    have h5' : n ≤ 9223372036854775807 := by rw [hn]; exact h5
    have HN := hid hn
    rw [← hn] at H6 ⊢
    clear hn h5
    go_loopw [3, 12] (fun u v wr => ∃ k : Nat, k ≤ n ∧ u = .int .u64 (leastOf pl (dl.take k)) ∧ v = .int .i64 k ∧ wr = W) (fun _ v _ => ((n : Int) - intOf v).toNat)
    case atStart => exact ⟨0, by omega, rfl, rfl, rfl⟩
    case round =>
      obtain ⟨i, hi, rfl, rfl, rfl⟩ := hrel
      by_cases hlt2 : i < n
      · obtain ⟨d, hdd⟩ : ∃ d, d = dl.getD i 0 := ⟨_, rfl⟩
        have hc : wr.cell? ⟨g, off + i, none⟩ = some (.int .u64 d) := by
          rw [cell_of_row wr g (off + i) _ _ _ h4', H6.out i hlt2, hdd]
        have hls := leastOf_take pl dl i (by rw [← HN.out]; exact hlt2)
        rw [← hdd] at hls
        clear hdd
        by_cases hp : 0 < d
        · have hdp : decide (0 < d) = true := by simpa using hp
          rw [if_pos hp] at hls
          have HL := hid hls
          clear hls
          go_wp2
          go_roundw
          case rel => exact ⟨i + 1, by omega, by rw [HL.out], by go_num, by trivial⟩
          case measure => simp [intOf]; omega
        · have hdp : decide (0 < d) = false := by simpa using hp
          rw [if_neg hp] at hls
          have HL := hid hls
          clear hls
          go_wp2
          go_roundw
          case rel => exact ⟨i + 1, by omega, by rw [HL.out], by go_num, by trivial⟩
          case measure => simp [intOf]; omega
      · obtain rfl : i = n := by omega
        go_wp2
        go_ret
        have : dl.take i = dl := by rw [HN.out, List.take_length]
        rw [this]
        exact ⟨rfl, hb⟩

/-- 'Again': what it answers. -/
def againB (fr : Int) (e : Ent) (mark : Int) (torn : Bool) : Bool :=
  (decide (e.kd = 3) || decide (e.kd = 4)) && decide (fr ≤ e.pl) && (if torn = true then !e.im.toList.isEmpty else decide (mark < e.pl))

set_option maxRecDepth 100000 in
theorem again_any (fr : Int) (v0 v1 v2 v3 : Value) (o0 o1 o2 o3 : Bool) (e : Ent) (mark : Int) (torn : Bool) (w : World) :
    Calls Try.prog 13 #[.agg #[.int .u64 fr, v0, v1, v2, v3, .bool o0, .bool o1, .bool o2, .bool o3], e.val, .int .u64 mark, .bool torn] w fun r w' => r = .returned (.bool (againB fr e mark torn)) ∧ Below w.heap.size w w' := by
  obtain ⟨pl, kd, tx, pg, sl, bf, af, im, dv, dl⟩ := e
  obtain ⟨B, hB⟩ : ∃ B, againB fr ⟨pl, kd, tx, pg, sl, bf, af, im, dv, dl⟩ mark torn = B := ⟨_, rfl⟩
  rw [hB]
  have HB := hid hB
  clear hB
  unfold Ent.val
  simp only
  go_enter Try.func13, Try.ntmps13
  go_wp2
  all_goals
    go_ret
    refine ⟨?_, ((Below.refl _ _).alloc (Nat.le_refl _) _).alloc (by simp) _⟩
    have hb := HB.out
    unfold againB at hb
    rw [← hb]
    clear hb HB
    congr 2
    first
      | (simp; omega)
      | (simp [*]; done)
      | (simp [*]; omega)

end Go.Proofs.Ytcolblmhopjgpaa
