/-
  The desk's functions, each by a contract over the block that it lies in and the block of its map.
-/
import Derived.Test.YtdfflklfphehjaaRows
import Derived.Test.YtdfflklfphehjaaAL
import Derived.WalkKit
import Derived.WalkSpells
import Derived.WalkLawsBesides
import Derived.Deep.QuietTactic
import Derived.BigQuiet
namespace Go.Proofs.Ytdfflklfphehjaa
open Go.RowKit Go.Maps

theorem hid {p : Prop} (h : p) : Hid p := h

/-- Nothing but the blocks of S has turned, of what was there. -/
structure Turns (S : Nat → Prop) (w w' : World) : Prop where
  os : w'.os = w.os
  tape : w'.tape = w.tape
  output : w'.output = w.output
  size : w.heap.size ≤ w'.heap.size
  block : ∀ i, i < w.heap.size → ¬ S i → w'.heap[i]? = w.heap[i]?

section
variable {S S' : Nat → Prop} {w w' w'' : World}
theorem Turns.refl (S : Nat → Prop) (w : World) : Turns S w w := ⟨rfl, rfl, rfl, Nat.le_refl _, fun _ _ _ => rfl⟩
theorem Turns.trans (h : Turns S w w') (k : Turns S w' w'') : Turns S w w'' :=
  ⟨k.os.trans h.os, k.tape.trans h.tape, k.output.trans h.output, Nat.le_trans h.size k.size, fun i hi hs => (k.block i (Nat.lt_of_lt_of_le hi h.size) hs).trans (h.block i hi hs)⟩
theorem Turns.mono (h : Turns S w w') (hs : ∀ i, i < w.heap.size → S i → S' i) : Turns S' w w' := ⟨h.os, h.tape, h.output, h.size, fun i hi hn => h.block i hi fun hS => hn (hs i hi hS)⟩
theorem Turns.drew (h : Turns S w w') : Turns S w w'.drew := ⟨h.os, h.tape, h.output, h.size, h.block⟩
theorem Turns.drewN (h : Turns S w w') (n : Nat) : Turns S w (w'.drewN n) := ⟨h.os, h.tape, h.output, h.size, h.block⟩
theorem Turns.alloc (h : Turns S w w') (o : Obj) : Turns S w (w'.alloc o) :=
  ⟨h.os, h.tape, h.output, Nat.le_trans h.size (by simp), fun i hi hs => (Below.heap_alloc w' o i (Nat.lt_of_lt_of_le hi h.size)).trans (h.block i hi hs)⟩
theorem Turns.setCell (h : Turns S w w') {p : Addr} (hp : w.heap.size ≤ p.block ∨ S p.block) (u : Value) : Turns S w (w'.setCell p u) :=
  ⟨h.os, h.tape, h.output, Nat.le_trans h.size (by simp [World.setCell]), fun i hi hs => (Below.heap_setCell w' p u i (by
    rintro rfl
    rcases hp with hp | hp
    · omega
    · exact hs hp)).trans (h.block i hi hs)⟩
theorem Turns.turned {b : Nat} (h : Turns S w w') (k : w'.mapTurned w'' b) (hb : w.heap.size ≤ b ∨ S b) : Turns S w w'' := by
  have hg := k.grown
  refine ⟨hg.os.trans h.os, hg.tape.trans h.tape, hg.output.trans h.output, Nat.le_trans h.size hg.size, fun i hi hs => (hg.block i (Nat.lt_of_lt_of_le hi h.size) (fun e => ?_)).trans (h.block i hi hs)⟩
  have e : i = b := by simpa using e
  subst e
  rcases hb with hb | hb
  · omega
  · exact hs hb
theorem Turns.below {B : Nat} (h : Turns S w w') (hB : B ≤ w.heap.size) (hS : ∀ i, i < B → ¬ S i) : Below B w w' :=
  ⟨h.os, h.tape, h.output, h.size, fun i hi => h.block i (by omega) (hS i hi)⟩
theorem Turns.of_below (h : Below w.heap.size w w') : Turns S w w' := ⟨h.os, h.tape, h.output, h.size, fun i hi _ => h.block i hi⟩
theorem MapAt.turns {K V : Type} {f : K → Value} {ok : K → Prop} {g : V → Value} {b : Nat} {l : List (K × V)} (h : MapAt w f ok g b l) (k : Turns S w w') (hb : ¬ S b) : MapAt w' f ok g b l := h.of_block (k.block b h.lt hb)
end

/-! ### whole numbers as keys and elements -/
def inum (x : Int) : Value := .int .i64 x
def iok (x : Int) : Prop := (Lit.int .i64 x).wf = true

theorem under3 : Try.prog.underlying 3 = some (.int .i64) := Try.underlying3
theorem ienc : KEnc Try.prog 3 inum iok := ⟨int_keyed under3, fun x hx => ⟨_, keyOf_int_mk under3 hx⟩, fun x y h => by unfold inum at h; injection h⟩
theorem zero3 (w : World) : (zeroValue 3).run Try.prog w = .ok (inum 0) w := by kernel_rfl
theorem iok_of {x : Int} (h : -9223372036854775808 ≤ x ∧ x ≤ 9223372036854775807) : iok x := WalkArith.wf_i64 h

theorem ofInt_i64 (a : Nat) (ha : a < 9223372036854775808) : (BitVec.ofInt 64 (a : Int)).toNat = a := by
  rw [BitVec.ofInt_natCast, BitVec.toNat_ofNat]; exact Nat.mod_eq_of_lt (by omega)
theorem i64_or_nat (a b : Nat) (ha : a < 9223372036854775808) (hb : b < 9223372036854775808) : bits .or .i64 (a : Int) (b : Int) = ((a ||| b : Nat) : Int) := by
  have hx : a ||| b < 2 ^ 63 := Nat.or_lt_two_pow (by omega) (by omega)
  show IntKind.i64.wrap ((BitVec.ofInt 64 (a : Int) ||| BitVec.ofInt 64 (b : Int)).toNat : Int) = _
  rw [BitVec.toNat_or, ofInt_i64 a ha, ofInt_i64 b hb, IntKind.wrap_i64]
  omega
theorem or_mega {ep nx : Int} (he : 0 ≤ ep ∧ ep < 8796093022208) (hn : 0 ≤ nx ∧ nx < 1048575) : bits .or .i64 (ep * 1048576) (nx + 1) = ep * 1048576 + (nx + 1) := by
  obtain ⟨e, rfl⟩ := Int.eq_ofNat_of_zero_le he.1
  obtain ⟨n, rfl⟩ := Int.eq_ofNat_of_zero_le hn.1
  have h := i64_or_nat (e * 1048576) (n + 1) (by omega) (by omega)
  have h2 : e * 1048576 ||| (n + 1) = e * 1048576 + (n + 1) := by
    have := Nat.two_pow_add_eq_or_of_lt (i := 20) (b := n + 1) (by omega) e
    have e3 : e * 1048576 = 2 ^ 20 * e := by omega
    rw [e3]; exact this.symm
  rw [h2] at h
  have e1 : ((e * 1048576 : Nat) : Int) = (e : Int) * 1048576 := by omega
  have e2 : ((n + 1 : Nat) : Int) = (n : Int) + 1 := by omega
  rw [e1, e2, Int.natCast_add, e1, e2] at h
  exact h

/-- The desk in block b, its map in block m. -/
structure DeskAt (w : World) (b m : Nat) (ep nx : Int) (l : List (Int × Int)) : Prop where
  blk : w.heap[b]? = some (.cells #[.int .i64 ep, .int .i64 nx, .map (some m)] 41 (0, 0))
  map : MapAt w inum iok inum m l

theorem DeskAt.ne {w : World} {b m : Nat} {ep nx : Int} {l : List (Int × Int)} (h : DeskAt w b m ep nx l) : m ≠ b := by
  rintro rfl
  obtain ⟨es, clock, hb, _⟩ := h.map
  rw [h.blk] at hb; cases hb

set_option maxRecDepth 100000 in
theorem has_any (b m : Nat) (ep nx : Int) (l : List (Int × Int)) (x : Int) (hx : iok x) (w : World) (h : DeskAt w b m ep nx l) :
    Calls Try.prog 12 #[.pointer (some ⟨b, 0, none⟩), .int .i64 x] w fun e w' => e = .returned (.bool (ahas l x)) ∧ w = w' := by
  have c2 : w.cell? ⟨b, 2, none⟩ = some (.map (some m)) := cell_of_row w b 2 _ _ _ h.blk
  have hm := h.map
  clear h
  go_enter Try.func12, Try.ntmps12
  go_wp2_with (first
    | (at_lookup; refine wpList_lookup_ok_al _ rfl _ _ 32 3 rfl ienc Try.underlying32 0 (zero3 _) rfl hm x rfl hx ?_))
  go_ret
  exact ⟨rfl, rfl⟩

set_option maxRecDepth 100000 in
theorem has_nil (x : Int) (w : World) : Calls Try.prog 12 #[.pointer none, .int .i64 x] w fun e w' => e = .returned (.bool false) ∧ w = w' := by
  go_enter Try.func12, Try.ntmps12
  go_wp2
  go_ret
  exact ⟨rfl, rfl⟩

set_option maxRecDepth 100000 in
theorem txn_any (b m : Nat) (ep nx : Int) (l : List (Int × Int)) (x : Int) (hx : iok x) (w : World) (h : DeskAt w b m ep nx l) :
    Calls Try.prog 15 #[.pointer (some ⟨b, 0, none⟩), .int .i64 x] w fun e w' => e = .returned (.int .i64 ((aget l x).getD 0)) ∧ w = w' := by
  have c2 : w.cell? ⟨b, 2, none⟩ = some (.map (some m)) := cell_of_row w b 2 _ _ _ h.blk
  have hm := h.map
  clear h
  go_enter Try.func15, Try.ntmps15
  go_wp2_with (first
    | (at_lookup; refine wpList_lookup_al _ rfl _ _ 32 3 rfl ienc Try.underlying32 0 (zero3 _) rfl hm x rfl hx ?_))
  go_ret
  exact ⟨rfl, rfl⟩

set_option maxRecDepth 100000 in
theorem txn_nil (x : Int) (w : World) : Calls Try.prog 15 #[.pointer none, .int .i64 x] w fun e w' => e = .returned (.int .i64 0) ∧ w = w' := by
  go_enter Try.func15, Try.ntmps15
  go_wp2
  go_ret
  exact ⟨rfl, rfl⟩

set_option maxRecDepth 100000 in
theorem len_any (b m : Nat) (ep nx : Int) (l : List (Int × Int)) (w : World) (h : DeskAt w b m ep nx l) :
    Calls Try.prog 13 #[.pointer (some ⟨b, 0, none⟩)] w fun e w' => e = .returned (.int .i64 l.length) ∧ w = w' := by
  have c2 : w.cell? ⟨b, 2, none⟩ = some (.map (some m)) := cell_of_row w b 2 _ _ _ h.blk
  have hm := h.map
  clear h
  go_enter Try.func13, Try.ntmps13
  go_wp2_with (first
    | (at_len; refine wpList_len_al _ rfl _ 32 3 rfl Try.underlying32 rfl hm ?_))
  go_ret
  exact ⟨rfl, rfl⟩

set_option maxRecDepth 100000 in
theorem len_nil (w : World) : Calls Try.prog 13 #[.pointer none] w fun e w' => e = .returned (.int .i64 0) ∧ w = w' := by
  go_enter Try.func13, Try.ntmps13
  go_wp2
  go_ret
  exact ⟨rfl, rfl⟩

set_option maxRecDepth 100000 in
theorem set_hit (b m : Nat) (ep nx : Int) (l : List (Int × Int)) (x y : Int) (hx : iok x) (w : World) (h : DeskAt w b m ep nx l) (hh : ahas l x = true) :
    Calls Try.prog 14 #[.pointer (some ⟨b, 0, none⟩), .int .i64 x, .int .i64 y] w fun e w' => e = .returned (.tuple #[]) ∧ DeskAt w' b m ep nx (aput l x y) ∧ Turns (· = m) w w' := by
  have c2 : w.cell? ⟨b, 2, none⟩ = some (.map (some m)) := cell_of_row w b 2 _ _ _ h.blk
  have hne := h.ne
  have hm := h.map
  have hb := h.blk
  have hH := hid h
  clear h
  have hc := has_any b m ep nx l x hx w hH.out
  rw [hh] at hc
  go_enter Try.func14, Try.ntmps14
  go_wp2_with (first
    | (go_at_call 12; refine hc.mono ?_; rintro e w' ⟨rfl, rfl⟩)
    | (at_mapUpdate; refine wpList_update_al _ rfl _ _ _ 32 3 rfl ienc Try.underlying32 rfl hm x rfl hx y rfl ?_; intro w1 h1 t1))
  go_end0
  refine ⟨rfl, ⟨?_, h1⟩, (Turns.refl _ _).turned t1 (.inr rfl)⟩
  have := ((Turns.refl (· = m) w).turned t1 (.inr rfl)).block b (Array.getElem?_eq_some_iff.1 hb).1 (fun e => hne e.symm)
  exact this.trans hb

set_option maxRecDepth 100000 in
theorem set_miss (b m : Nat) (ep nx : Int) (l : List (Int × Int)) (x y : Int) (hx : iok x) (w : World) (h : DeskAt w b m ep nx l) (hh : ahas l x = false) :
    Calls Try.prog 14 #[.pointer (some ⟨b, 0, none⟩), .int .i64 x, .int .i64 y] w fun e w' => e = .returned (.tuple #[]) ∧ w = w' := by
  have hc := has_any b m ep nx l x hx w h
  rw [hh] at hc
  clear h
  go_enter Try.func14, Try.ntmps14
  go_wp2_with (first
    | (go_at_call 12; refine hc.mono ?_; rintro e w' ⟨rfl, rfl⟩))
  go_end0
  exact ⟨rfl, rfl⟩

set_option maxRecDepth 100000 in
theorem set_nil (x y : Int) (w : World) :
    Calls Try.prog 14 #[.pointer none, .int .i64 x, .int .i64 y] w fun e w' => e = .returned (.tuple #[]) ∧ w = w' := by
  go_enter Try.func14, Try.ntmps14
  go_wp2_with (first
    | (go_at_call 12; refine (has_nil _ _).mono ?_; rintro e w' ⟨rfl, rfl⟩))
  go_end0
  exact ⟨rfl, rfl⟩

set_option maxRecDepth 100000 in
theorem shut_nil (x : Int) (w : World) :
    Calls Try.prog 11 #[.pointer none, .int .i64 x] w fun e w' => e = .returned (.bool false) ∧ w = w' := by
  go_enter Try.func11, Try.ntmps11
  go_wp2_with (first
    | (go_at_call 12; refine (has_nil _ _).mono ?_; rintro e w' ⟨rfl, rfl⟩))
  go_ret
  exact ⟨rfl, rfl⟩

set_option maxRecDepth 100000 in
theorem shut_miss (b m : Nat) (ep nx : Int) (l : List (Int × Int)) (x : Int) (hx : iok x) (w : World) (h : DeskAt w b m ep nx l) (hh : ahas l x = false) :
    Calls Try.prog 11 #[.pointer (some ⟨b, 0, none⟩), .int .i64 x] w fun e w' => e = .returned (.bool false) ∧ w = w' := by
  have hc := has_any b m ep nx l x hx w h
  rw [hh] at hc
  clear h
  go_enter Try.func11, Try.ntmps11
  go_wp2_with (first
    | (go_at_call 12; refine hc.mono ?_; rintro e w' ⟨rfl, rfl⟩))
  go_ret
  exact ⟨rfl, rfl⟩

set_option maxRecDepth 100000 in
theorem shut_busy (b m : Nat) (ep nx : Int) (l : List (Int × Int)) (x : Int) (hx : iok x) (w : World) (h : DeskAt w b m ep nx l) (hh : ahas l x = true) (h0 : (aget l x).getD 0 ≠ 0) :
    Calls Try.prog 11 #[.pointer (some ⟨b, 0, none⟩), .int .i64 x] w fun e w' => e = .returned (.bool false) ∧ w = w' := by
  have c2 : w.cell? ⟨b, 2, none⟩ = some (.map (some m)) := cell_of_row w b 2 _ _ _ h.blk
  have hc := has_any b m ep nx l x hx w h
  rw [hh] at hc
  have hm := h.map
  obtain ⟨v, hv⟩ : ∃ v, v = (aget l x).getD 0 := ⟨_, rfl⟩
  rw [← hv] at h0
  have hb : (v == 0) = false := by simpa using h0
  have hb2 : (v != 0) = true := by simpa using h0
  have HV := hid hv
  clear h hv h0 hh
  go_enter Try.func11, Try.ntmps11
  go_wp2_with (first
    | (go_at_call 12; refine hc.mono ?_; rintro e w' ⟨rfl, rfl⟩)
    | (at_lookup; refine wpList_lookup_al _ rfl _ _ 32 3 rfl ienc Try.underlying32 0 (zero3 _) rfl hm x rfl hx ?_; rw [← HV.out]; simp only [inum]))
  go_ret
  exact ⟨rfl, rfl⟩

set_option maxRecDepth 100000 in
theorem shut_free (b m : Nat) (ep nx : Int) (l : List (Int × Int)) (x : Int) (hx : iok x) (w : World) (h : DeskAt w b m ep nx l) (hh : ahas l x = true) (h0 : (aget l x).getD 0 = 0) :
    Calls Try.prog 11 #[.pointer (some ⟨b, 0, none⟩), .int .i64 x] w fun e w' => e = .returned (.bool true) ∧ DeskAt w' b m ep nx (adel l x) ∧ Turns (· = m) w w' := by
  have c2 : w.cell? ⟨b, 2, none⟩ = some (.map (some m)) := cell_of_row w b 2 _ _ _ h.blk
  have hc := has_any b m ep nx l x hx w h
  rw [hh] at hc
  have hm := h.map
  have hb := h.blk
  have hne := h.ne
  have H0 := hid h0
  clear h h0 hh
  go_enter Try.func11, Try.ntmps11
  go_wp2_with (first
    | (go_at_call 12; refine hc.mono ?_; rintro e w' ⟨rfl, rfl⟩)
    | (at_lookup; refine wpList_lookup_al _ rfl _ _ 32 3 rfl ienc Try.underlying32 0 (zero3 _) rfl hm x rfl hx ?_; rw [H0.out]; simp only [inum])
    | (at_delete; refine wpList_delete_al _ rfl _ _ 32 3 rfl ienc Try.underlying32 rfl hm x rfl hx ?_; intro w1 h1 t1))
  go_ret
  refine ⟨rfl, ⟨?_, h1⟩, (Turns.refl _ _).turned t1 (.inr rfl)⟩
  have := ((Turns.refl (· = m) w).turned t1 (.inr rfl)).block b (Array.getElem?_eq_some_iff.1 hb).1 (fun e => hne e.symm)
  exact this.trans hb

set_option maxRecDepth 100000 in
theorem new_any (ep : Int) (w : World) :
    Calls Try.prog 9 #[.int .i64 ep] w fun e w' => e = .returned (.pointer (some ⟨w.heap.size + 1, 0, none⟩)) ∧ DeskAt w' (w.heap.size + 1) w.heap.size ep 0 [] ∧ Below w.heap.size w w' ∧ w'.heap.size = w.heap.size + 2 := by
  have hmm := @run_makeMap Try.prog
  go_enter Try.func9, Try.ntmps9
  go_wp2
  go_ret
  exact ⟨rfl, ⟨by simpa using heap_alloc_new (w.alloc (.map #[] 0)) _, (MapAt.made w _ _ _).alloc _⟩, ((Below.refl _ _).alloc (Nat.le_refl _) _).alloc (by simp) _, by simp⟩

set_option maxRecDepth 100000 in
theorem open_nil (w : World) : Calls Try.prog 10 #[.pointer none] w fun e w' => e = .returned (.int .i64 0) ∧ w = w' := by
  go_enter Try.func10, Try.ntmps10
  go_wp2
  go_ret
  exact ⟨rfl, rfl⟩

set_option maxRecDepth 100000 in
theorem open_full (b m : Nat) (ep nx : Int) (l : List (Int × Int)) (w : World) (h : DeskAt w b m ep nx l) (h6 : l.length = 6) :
    Calls Try.prog 10 #[.pointer (some ⟨b, 0, none⟩)] w fun e w' => e = .returned (.int .i64 0) ∧ w = w' := by
  have c2 : w.cell? ⟨b, 2, none⟩ = some (.map (some m)) := cell_of_row w b 2 _ _ _ h.blk
  have hm := h.map
  have H6 := hid h6
  clear h h6
  go_enter Try.func10, Try.ntmps10
  go_wp2_with (first
    | (at_len; refine wpList_len_al _ rfl _ 32 3 rfl Try.underlying32 rfl hm ?_; rw [H6.out]))
  go_ret
  exact ⟨rfl, rfl⟩

set_option maxRecDepth 100000 in
theorem open_more (b m : Nat) (ep nx : Int) (l : List (Int × Int)) (w : World) (h : DeskAt w b m ep nx l) (h6 : l.length < 6) (he : 0 ≤ ep ∧ ep < 8796093022208) (hn : 0 ≤ nx ∧ nx < 1048575) :
    Calls Try.prog 10 #[.pointer (some ⟨b, 0, none⟩)] w fun e w' => e = .returned (.int .i64 (ep * 1048576 + (nx + 1))) ∧ DeskAt w' b m ep (nx + 1) (aput l (ep * 1048576 + (nx + 1)) 0) ∧ Turns (fun i => i = b ∨ i = m) w w' := by
  have c0 : w.cell? ⟨b, 0, none⟩ = some (.int .i64 ep) := cell_of_row w b 0 _ _ _ h.blk
  have c1 : w.cell? ⟨b, 1, none⟩ = some (.int .i64 nx) := cell_of_row w b 1 _ _ _ h.blk
  have c2 : w.cell? ⟨b, 2, none⟩ = some (.map (some m)) := cell_of_row w b 2 _ _ _ h.blk
  have f1 : w.frozen? ⟨b, 1, none⟩ = false := by simp [World.frozen?, h.blk]
  have hm := h.map
  have hl : ((l.length : Int) == 6) = false := by simp; omega
  have hne := h.ne
  have hb := h.blk
  have hm2 : ∀ n, MapAt ((w.setCell ⟨b, 1, none⟩ (.int .i64 (nx + 1))).drewN n) inum iok inum m l := fun n => hm.setCell (p := ⟨b, 1, none⟩) hne _
  have hor : bits .or .i64 (ep * 1048576) (nx + 1) = ep * 1048576 + (nx + 1) := or_mega he hn
  clear h h6
  go_enter Try.func10, Try.ntmps10
  go_wp2_with (first
    | (at_len; refine wpList_len_al _ rfl _ 32 3 rfl Try.underlying32 rfl hm ?_))
  go_quiet (fail)
  go_wp2_with (first
    | (at_mapUpdate; refine wpList_update_al _ rfl _ _ _ 32 3 rfl ienc Try.underlying32 rfl (hm2 _) (ep * 1048576 + (nx + 1)) rfl (iok_of (by omega)) 0 rfl ?_; intro w1 h1 t1))
  go_ret
  have hT := (((Turns.refl (fun i => i = b ∨ i = m) w).setCell (p := ⟨b, 1, none⟩) (.inr (.inl rfl)) (.int .i64 (nx + 1))).drewN nq)
  refine ⟨rfl, ⟨?_, h1⟩, hT.turned t1 (.inr (.inr rfl))⟩
  have h2 := ((Turns.refl (· = m) _).turned t1 (.inr rfl)).block b (by simpa [World.setCell] using (Array.getElem?_eq_some_iff.1 hb).1) (fun e => hne e.symm)
  rw [h2]
  simp [World.setCell, Array.getElem?_modify, hb]

theorem DeskAt.turns {S : Nat → Prop} {w w' : World} {b m : Nat} {ep nx : Int} {l : List (Int × Int)} (h : DeskAt w b m ep nx l) (k : Turns S w w') (hb : ¬ S b) (hm : ¬ S m) : DeskAt w' b m ep nx l :=
  ⟨(k.block b (Array.getElem?_eq_some_iff.1 h.blk).1 hb).trans h.blk, h.map.turns k hm⟩
theorem DeskAt.below {B : Nat} {w w' : World} {b m : Nat} {ep nx : Int} {l : List (Int × Int)} (h : DeskAt w b m ep nx l) (k : Below B w w') (hb : b < B) (hm : m < B) : DeskAt w' b m ep nx l :=
  ⟨(k.block b hb).trans h.blk, h.map.below k hm⟩
theorem DeskAt.lt {w : World} {b m : Nat} {ep nx : Int} {l : List (Int × Int)} (h : DeskAt w b m ep nx l) : b < w.heap.size := (Array.getElem?_eq_some_iff.1 h.blk).1

theorem and_mask (a : Int) (k : Nat) (hk : k < 63) : 0 ≤ bits .and .i64 a ((2 ^ k - 1 : Nat) : Int) ∧ bits .and .i64 a ((2 ^ k - 1 : Nat) : Int) < 2 ^ k := by
  have hp : 2 ^ k ≤ 2 ^ 62 := Nat.pow_le_pow_right (by omega) (by omega)
  have hx : (BitVec.ofInt 64 a &&& BitVec.ofInt 64 ((2 ^ k - 1 : Nat) : Int)).toNat < 2 ^ k := by
    rw [BitVec.toNat_and, ofInt_i64 _ (by omega), Nat.and_two_pow_sub_one_eq_mod]
    exact Nat.mod_lt _ (Nat.two_pow_pos k)
  have e : bits .and .i64 a ((2 ^ k - 1 : Nat) : Int) = IntKind.i64.wrap ((BitVec.ofInt 64 a &&& BitVec.ofInt 64 ((2 ^ k - 1 : Nat) : Int)).toNat : Int) := rfl
  rw [e, IntKind.wrap_i64]
  generalize (BitVec.ofInt 64 a &&& BitVec.ofInt 64 ((2 ^ k - 1 : Nat) : Int)).toNat = q at hx
  have h2 : ((2 ^ k : Nat) : Int) = (2 : Int) ^ k := by simp
  rw [← h2]
  omega

set_option maxRecDepth 100000 in
theorem fit_any (w : World) : Calls Try.prog 8 #[] w fun e w' => e = .returned (.bool true) ∧ Below w.heap.size w w' := by
  go_enter Try.func8, Try.ntmps8
  go_wp2_with (first
    | (go_at_call 9; refine (new_any 1 _).mono ?_; rintro e w1 ⟨rfl, h1, b1, s1⟩)
    | (go_at_call 10; refine (open_more _ _ _ _ _ _ h1 (by simp) (by omega) (by omega)).mono ?_; rintro e w2 ⟨rfl, h2, t2⟩)
    | (go_at_call 12; refine (has_any _ _ _ _ _ _ (iok_of (by omega)) _ h2).mono ?_; rintro e w' ⟨rfl, rfl⟩)
    | (go_at_call 15; refine (txn_any _ _ _ _ _ _ (iok_of (by omega)) _ h2).mono ?_; rintro e w' ⟨rfl, rfl⟩))
  go_ret
  refine ⟨rfl, b1.trans (t2.below (by omega) ?_)⟩
  rintro i hi (rfl | rfl) <;> omega

end Go.Proofs.Ytdfflklfphehjaa
