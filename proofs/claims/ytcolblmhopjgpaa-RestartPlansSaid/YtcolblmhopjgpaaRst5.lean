/-
  entries walked.
-/
import Derived.Test.YtcolblmhopjgpaaRst4
namespace Go.Proofs.Ytcolblmhopjgpaa
open Go.RowKit

theorem ofInt_i64 (a : Nat) (ha : a < 9223372036854775808) : (BitVec.ofInt 64 (a : Int)).toNat = a := by
  rw [BitVec.ofInt_natCast, BitVec.toNat_ofNat]; exact Nat.mod_eq_of_lt (by omega)
theorem and_mask (a : Int) (k : Nat) (hk : k < 63) : 0 ≤ bits .and .i64 a ((2 ^ k - 1 : Nat) : Int) ∧ bits .and .i64 a ((2 ^ k - 1 : Nat) : Int) < 2 ^ k := by
  have hp : 2 ^ k ≤ 2 ^ 62 := Nat.pow_le_pow_right (by omega) (by omega)
  have hx : (BitVec.ofInt 64 a &&& BitVec.ofInt 64 ((2 ^ k - 1 : Nat) : Int)).toNat < 2 ^ k := by
    rw [BitVec.toNat_and, ofInt_i64 _ (by omega), Nat.and_two_pow_sub_one_eq_mod]
    exact Nat.mod_lt _ (Nat.two_pow_pos k)
  have e : bits .and .i64 a ((2 ^ k - 1 : Nat) : Int) = IntKind.i64.wrap ((BitVec.ofInt 64 a &&& BitVec.ofInt 64 ((2 ^ k - 1 : Nat) : Int)).toNat : Int) := rfl
  rw [e, IntKind.wrap_i64]
  generalize (BitVec.ofInt 64 a &&& BitVec.ofInt 64 ((2 ^ k - 1 : Nat) : Int)).toNat = q at hx
  have h2 : ((2 ^ k : Nat) : Int) = (2 : Int) ^ k := by simp
  rw [← h2]
  omega

theorem record_at (kd tx pg sl bf af im : Int) (A : Option Addr) (len cap : Nat) (w : World) (hs : SeedV.ok w ⟨kd, tx, pg, sl, bf, af, im, A, len, cap⟩) :
    Calls Try.prog 15 #[.agg #[.int .i64 kd, .int .i64 tx, .int .i64 pg, .int .i64 sl, .int .u8 bf, .int .u8 af, .int .u8 im, .slice A len cap]] w fun r w' =>
      (∃ (k t p l : Int) (x y z : ByteArray) (A1 : Option Addr) (n1 c1 : Nat) (dl : List Int), r = .returned (.agg #[.int .i64 k, .int .i64 t, .int .i64 p, .int .i64 l, .string x, .string y, .string z, .slice A1 n1 c1]) ∧
        DirtyAt w' ⟨0, k, t, p, l, x, y, z, .slice A1 n1 c1, dl⟩) ∧ Below w.heap.size w w' := by
  refine (record_any ⟨kd, tx, pg, sl, bf, af, im, A, len, cap⟩ w hs).mono ?_
  rintro r w' ⟨e, rfl, hd, hb⟩
  obtain ⟨A1, n1, c1, hdv⟩ := hd.slice
  obtain ⟨pl, k, t, p, l, x, y, z, dv, dl⟩ := e
  simp only at hdv
  subst hdv
  exact ⟨⟨k, t, p, l, x, y, z, A1, n1, c1, dl, rfl, hd⟩, hb⟩

theorem SeedV.ok.below {w w' : World} {s : SeedV} (h : s.ok w) (k : Below w.heap.size w w') : s.ok w' := by
  obtain ⟨h1, h2⟩ := h
  refine ⟨h1, h2.imp_right ?_⟩
  rintro ⟨g, off, hA, hg, hx⟩
  refine ⟨g, off, hA, Nat.lt_of_lt_of_le hg k.size, fun i hi => ?_⟩
  obtain ⟨x, hc⟩ := hx i hi
  exact ⟨x, cell_below k hc⟩

theorem info40 : (Try.prog.info? 40).map (fun i => (i.zero, i.size, i.bytes)) = some (some (.agg #[.int .u64 0, .int .i64 0, .int .i64 0, .int .i64 0, .int .i64 0, .string ByteArray.empty, .string ByteArray.empty, .string ByteArray.empty, .slice none 0 0]), 9, 112) := by kernel_rfl

def rowOf (es : List Ent) : List Value := es.flatMap Ent.cells
theorem DirtyAt.grown {w w' : World} {e : Ent} (h : DirtyAt w e) {v : Value} {base n : Nat} {xs : List Value} (hown : w.ownsRow base 40 9 v n xs) (hg : w.grownBy w' v.ownBlock) : DirtyAt w' e := by
  refine h.of fun g cs t _ h40 _ hc => hg.block g (Array.getElem?_eq_some_iff.1 hc).1 ?_
  rcases hown.2 with ⟨rfl, _⟩ | ⟨g', cap, cur, rfl, _, hh, _⟩
  · simp [Value.ownBlock]
  · intro e
    have e : g = g' := by simpa [Value.ownBlock] using e
    subst e
    rw [hc] at hh
    injection hh with hh
    injection hh with _ hh
    exact h40 hh

theorem new_at (w : World) (o1 o2 : Obj) : ((w.alloc o1).alloc o2).heap[w.heap.size + 1]? = some o2 := by
  have := heap_alloc_new (w.alloc o1) o2
  rwa [World.size_alloc] at this
theorem own_below {w w' : World} {B : Nat} {e : TypeId} {k : Nat} {v : Value} {n : Nat} {xs : List Value} (h : w.ownsRow B e k v n xs) (hb : Below w.heap.size w w') : w'.ownsRow B e k v n xs :=
  h.kept (row := none) ⟨hb.os, hb.tape, hb.output, hb.size, fun j hj _ => hb.block j hj⟩ (by cases hv : v.ownBlock <;> simp)

set_option maxRecDepth 100000 in
set_option maxHeartbeats 3200000 in
theorem entries_any (b off len cap : Nat) (w : World) (hb : 0 < len → b < w.heap.size) (hlen : len ≤ 100) (hc : Seeds w b off len) :
    Calls Try.prog 11 #[.slice (some ⟨b, off, none⟩) len cap] w fun r w' => (∃ (v : Value) (es : List Ent), r = .returned v ∧ es.length = len ∧ w'.ownsRow w.heap.size 40 9 v len (rowOf es) ∧ ∀ e ∈ es, DirtyAt w' e ∧ 0 ≤ e.tx ∧ e.tx < 8) ∧ Below w.heap.size w w' := by
  obtain ⟨i0, hi, hz0, hz1, hz2⟩ := info_parts info40
  have HC := hid hc
  clear hc
  go_enter Try.func11, Try.ntmps11
  go_wp2
  go_loopw [3, 9] (fun v u wr => ∃ (k : Nat) (es : List Ent), k ≤ len ∧ u = .int .i64 k ∧ es.length = k ∧ wr.ownsRow w.heap.size 40 9 v k (rowOf es) ∧ (∀ e ∈ es, DirtyAt wr e ∧ 0 ≤ e.tx ∧ e.tx < 8) ∧ Below w.heap.size w wr) (fun _ u _ => ((len : Int) - intOf u).toNat)
  case atStart => exact ⟨0, [], by omega, rfl, rfl, ⟨rfl, .inl ⟨rfl, rfl⟩⟩, (fun e he => by cases he), Below.refl _ _⟩
  case round =>
    obtain ⟨i, es, hile, rfl, hel, hown, hes, hbl⟩ := hrel
    by_cases hlt : i < len
    · obtain ⟨s, hs, hok⟩ := HC.out i hlt
      obtain ⟨kd, tx, pg, sl, bf, af, im, A, n, c⟩ := s
      obtain ⟨a0, a1, a2, a3, a4, a5, a6, a7⟩ := hs.below hbl
      simp only at a0 a1 a2 a3 a4 a5 a6 a7
      have HOK := hid hok
      clear hs hok
      go_wp2_with (first
        | (go_at_call 15; (with_reducible refine (record_at kd tx pg sl bf af im A n c _ (HOK.out.below (B_alloc hbl _))).mono ?_); rintro r w1 ⟨⟨k, t, p, l, x, y, z, A1, n1, c1, dl, rfl, hd⟩, hb1⟩)
        | (at_builtin; go_loud (refine wpList_append_lies _ rfl _ _ 25 (by rfl) w.heap.size 40 i0 _ 9 112 Try.underlying25 hi hz0 hz1 hz2 rfl (by omega) u3 i (rowOf es) (by rfl) (own_below hown (B_alloc (B_alloc (B_call (B_alloc (Below.refl _ _) _) hb1) _) _)) ⟨w1.heap.size + 1, 0, none⟩ 1 1 [.int .u64 (10 * i + 5), .int .i64 k, .int .i64 (bits .and .i64 t 7), .int .i64 p, .int .i64 l, .string x, .string y, .string z, .slice A1 n1 c1] (by rfl) (by rfl) (World.news_of_block (new_at _ _ _)) (by simp [Value.oneCell']) (by omega) (by unfold maxLen; omega) (by omega) (Nat.le_trans hbl.size (B_alloc (B_alloc (B_call (B_alloc (Below.refl _ _) _) hb1) _) _).size) _ rfl ?_); intro gg cap1 w2 hown2 hgrow hat hlt2))
      have hB2 : Below wr.heap.size wr _ := B_alloc (B_alloc (B_call (B_alloc (Below.refl wr.heap.size wr) (.cells #[.int .i64 kd, .int .i64 tx, .int .i64 pg, .int .i64 sl, .int .u8 bf, .int .u8 af, .int .u8 im, .slice A n c] 51)) hb1) (.cells #[.int .i64 k, .int .i64 (bits .and .i64 t 7), .int .i64 p, .int .i64 l, .string x, .string y, .string z, .slice A1 n1 c1] 38))
        (.cells #[.int .u64 (10 * i + 5), .int .i64 k, .int .i64 (bits .and .i64 t 7), .int .i64 p, .int .i64 l, .string x, .string y, .string z, .slice A1 n1 c1] 40)
      have hown' := own_below hown hB2
      have hmk := and_mask t 3 (by omega)
      simp only [show ((2 ^ 3 - 1 : Nat) : Int) = 7 from rfl, show (2 : Int) ^ 3 = 8 from rfl] at hmk
      have hd2 : DirtyAt w2 ⟨10 * i + 5, k, bits .and .i64 t 7, p, l, x, y, z, .slice A1 n1 c1, dl⟩ := by
        have h1 : DirtyAt w1 ⟨10 * i + 5, k, bits .and .i64 t 7, p, l, x, y, z, .slice A1 n1 c1, dl⟩ := hd
        exact (h1.below (B_alloc (B_alloc (Below.refl _ _) _) _)).grown hown' hgrow
      have hes2 : ∀ e ∈ es ++ [⟨10 * i + 5, k, bits .and .i64 t 7, p, l, x, y, z, .slice A1 n1 c1, dl⟩], DirtyAt w2 e ∧ 0 ≤ e.tx ∧ e.tx < 8 := by
        intro e he
        rcases List.mem_append.1 he with he | he
        · exact ⟨((hes e he).1.below hB2).grown hown' hgrow, (hes e he).2⟩
        · simp at he; subst he; exact ⟨hd2, hmk⟩
      have hrow : rowOf (es ++ [⟨10 * i + 5, k, bits .and .i64 t 7, p, l, x, y, z, .slice A1 n1 c1, dl⟩]) = rowOf es ++ [.int .u64 (10 * i + 5), .int .i64 k, .int .i64 (bits .and .i64 t 7), .int .i64 p, .int .i64 l, .string x, .string y, .string z, .slice A1 n1 c1] := by
        unfold rowOf; rw [List.flatMap_append]; rfl
      have hbl2 : Below w.heap.size w w2 := (B_call hbl hB2).grown hgrow (B_call hbl hB2).size (by
        intro j hj
        rcases hown'.2 with ⟨e, _⟩ | ⟨g', _, _, e, hge, _⟩
        · rw [e] at hj; simp [Value.ownBlock] at hj
        · rw [e] at hj
          have : g' = j := by simpa [Value.ownBlock] using hj
          omega)
      refine ⟨⟨i + 1, _, by omega, by go_num, ?_, ?_, hes2, hbl2⟩, ?_⟩
      · simp [hel]
      · rw [hrow]; exact hown2
      · simp [intOf]; omega
    · obtain rfl : i = len := by omega
      go_wp2
      go_ret
      exact ⟨⟨_, es, rfl, hel, hown, hes⟩, hbl⟩

end Go.Proofs.Ytcolblmhopjgpaa
