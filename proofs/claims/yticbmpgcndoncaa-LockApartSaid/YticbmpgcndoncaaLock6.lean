/-
  'Key' walked: to read; to change, in each of its ways.
-/
import Derived.Test.YticbmpgcndoncaaLock5
namespace Go.Proofs.Yticbmpgcndoncaa
open Go.RowKit Go.Maps

set_option maxRecDepth 100000 in
theorem key_nil (who t : Int) (k : ByteArray) (c : Bool) (w : World) : Calls Try.prog 10 #[.pointer none, .int .i64 who, .int .i64 t, .string k, .bool c] w fun e w' => e = .returned (.bool false) ∧ w = w' := by
  go_enter Try.func10, Try.ntmps10
  go_wp2
  go_ret
  exact ⟨rfl, rfl⟩

set_option maxRecDepth 100000 in
theorem read_T (B b bm : Nat) (T : Tb) (who t : Int) (k : ByteArray) (hn : iok t) (hk : k.size ≤ maxLen) (hw : iok who) (w : World) (h : LocksT w B b bm T) :
    Calls Try.prog 10 #[.pointer (some ⟨b, 0, none⟩), .int .i64 who, .int .i64 t, .string k, .bool false] w fun e w' =>
      e = .returned (.bool (takeB (modelOf T) who (t, k, false) 1)) ∧ ∃ T', LocksT w' B b bm T' ∧ modelOf T' = takeS (modelOf T) who (t, k, false) 1 ∧ Turns (fun i => i = bm ∨ B ≤ i) w w' ∧ Keeps w w' bm T T' := by
  have hc := take_T B b bm T who 1 (t, k, false) ⟨hn, hk⟩ hw w h
  unfold nval at hc
  obtain ⟨r, hr⟩ : ∃ r, r = takeB (modelOf T) who (t, k, false) 1 := ⟨_, rfl⟩
  rw [← hr] at hc ⊢
  have HC := hid hc
  have HH := hid h
  clear hc h hr
  go_enter Try.func10, Try.ntmps10
  go_wp2_with (first
    | (go_at_call 14; refine HC.out.mono ?_; rintro e w1 ⟨rfl, h1⟩))
  go_ret
  obtain ⟨T1, h1, e1, t1, o1⟩ := h1
  exact ⟨rfl, T1, h1, e1, t1.mono fun i _ hi => HH.out.ofT hi, Keeps.take t1 o1⟩
theorem key_read (B b bm : Nat) (M : Lk) (who t : Int) (k : ByteArray) (hn : iok t) (hk : k.size ≤ maxLen) (hw : iok who) (w : World) (h : LocksAt w B b bm M) :
    Calls Try.prog 10 #[.pointer (some ⟨b, 0, none⟩), .int .i64 who, .int .i64 t, .string k, .bool false] w fun e w' =>
      e = .returned (.bool (takeB M who (t, k, false) 1)) ∧ LocksAt w' B b bm (takeS M who (t, k, false) 1) ∧ Turns (fun i => i = bm ∨ B ≤ i) w w' := by
  obtain ⟨T, hT, rfl⟩ := h
  refine (read_T B b bm T who t k hn hk hw w hT).mono ?_
  rintro e w' ⟨rfl, T', h', e', t', _⟩
  exact ⟨rfl, ⟨T', h', e'.symm⟩, t'⟩

/-- the boxes of the two names -/
structure Boxes (w : World) (s : Nat) (t : Int) (k : ByteArray) : Prop where
  a : w.heap[s]? = some (.cells #[.int .i64 t, .string k, .bool false] 44 (0, 0))
  b : w.heap[s + 1]? = some (.cells #[.int .i64 t, .string ⟨#[]⟩, .bool true] 44 (0, 0))
theorem Boxes.turns {w w' : World} {s : Nat} {t : Int} {k : ByteArray} {S : Nat → Prop} (h : Boxes w s t k) (u : Turns S w w') (h0 : ¬ S s) (h1 : ¬ S (s + 1)) : Boxes w' s t k :=
  ⟨(u.block s (Array.getElem?_eq_some_iff.1 h.a).1 h0).trans h.a, (u.block (s + 1) (Array.getElem?_eq_some_iff.1 h.b).1 h1).trans h.b⟩

theorem lookup_outer {w : World} {B b bm : Nat} {T : Tb} (h : LocksT w B b bm T) (n : Nm) (hn : nok n) (W' : World) (hW : W'.heap[bm]? = w.heap[bm]?) :
    (Instr.lookup 39 (.map (some bm)) (nval n) false).run Try.prog W' = .ok (.map ((aget T n).map fun q => q.1)) W' := by
  have := (h.outer.of_block (w' := W') hW).lookup nenc Try.underlying39 (v0 := none) (zero45 _) hn false
  rw [aget_map (fun q : Nat × Hold => some q.1)] at this
  cases hg : aget T n with
  | none => rw [hg] at this; exact this
  | some q => rw [hg] at this; exact this

def tname (t : Int) : Nm := (t, ⟨#[]⟩, true)

theorem lookup_inner {w : World} {B b bm : Nat} {T : Tb} (h : LocksT w B b bm T) (n : Nm) (who : Int) (hw : iok who) (W' : World) (hW : W'.heap = w.heap) :
    (Instr.lookup 45 (.map ((aget T n).map fun q => q.1)) (.int .i64 who) false).run Try.prog W' = .ok (.int .i64 ((aget (heldBy (modelOf T) n) who).getD 0)) W' := by
  cases hg : aget T n with
  | none =>
    rw [heldBy_none hg]
    exact look_nil (w := W') false ienc.keyed Try.underlying45 (zero3 _) (keyOf_int_mk Try.underlying3 hw)
  | some q =>
    obtain ⟨bi, l⟩ := q
    rw [heldBy_some hg]
    exact ((h.get hg).1.of_block (w' := W') (by rw [hW])).lookup ienc Try.underlying45 (v0 := 0) (zero3 _) hw false

theorem LocksT.drop {w w' : World} {B b bm : Nat} {T : Tb} (h : LocksT w B b bm T) (n : Nm) (t : Turns (fun i => i = bm) w w')
    (hout : MapAt w' nval nok oval bm (adel (T.map fun p => (p.1, (fun q : Nat × Hold => some q.1) p.2)) n)) : LocksT w' B b bm (adel T n) := by
  have hbb : ¬ b = bm := fun e => h.ne e.symm
  have hsub : (adel T n).Sublist T := List.filter_sublist
  refine ⟨(t.block b (Array.getElem?_eq_some_iff.1 h.blk).1 hbb).trans h.blk, ?_, fun p hp => (h.inner p (hsub.subset hp)).turns t (by have := h.base p (hsub.subset hp); have := h.low; omega), fun p hp => h.base p (hsub.subset hp), h.apart.sublist hsub, h.low, h.blow, Nat.le_trans h.size t.size⟩
  rw [← adel_map (fun q : Nat × Hold => some q.1)]; exact hout

/-! ### the model's own laws -/
theorem aput_aput {K V : Type} [DecidableEq K] (l : List (K × V)) (x : K) (u v : V) : aput (aput l x u) x v = aput l x v := by
  have h : ahas (aput l x u) x = true := by rw [ahas_aput]; simp
  unfold aput at h ⊢
  by_cases e : ahas l x = true
  · simp only [if_pos e] at h ⊢
    rw [if_pos h, List.map_map]
    refine List.map_congr_left fun p _ => ?_
    simp only [Function.comp]
    by_cases e2 : p.1 = x <;> simp [e2]
  · simp only [if_neg e] at h ⊢
    rw [if_pos h, List.map_append]
    congr 1
    · conv => rhs; rw [← List.map_id l]
      refine List.map_congr_left fun p hp => ?_
      have := ahas_false.1 (by simpa using e) p hp
      rw [if_neg this]; rfl
    · simp
theorem aput_self {K V : Type} [DecidableEq K] {l : List (K × V)} (hl : Apart l) {x : K} {v : V} (h : aget l x = some v) : aput l x v = l := by
  have hh : ahas l x = true := by rw [ahas_eq, h]; rfl
  unfold aput
  rw [if_pos hh]
  conv => rhs; rw [← List.map_id l]
  refine List.map_congr_left fun p hp => ?_
  by_cases e : p.1 = x
  · have := aget_mem hl hp
    rw [e, h] at this
    injection this with this
    rw [if_pos e]
    obtain ⟨p1, p2⟩ := p
    simp only at e this
    rw [e, this]; rfl
  · rw [if_neg e]; rfl
theorem adel_aput {K V : Type} [DecidableEq K] (l : List (K × V)) (x : K) (v : V) : adel (aput l x v) x = adel l x := by
  unfold aput
  by_cases h : ahas l x = true
  · rw [if_pos h]
    unfold adel
    induction l with
    | nil => rfl
    | cons p l ih =>
      rw [List.map_cons, List.filter_cons, List.filter_cons]
      have ih' : (l.map fun p => if p.1 = x then (x, v) else p).filter (fun p => !decide (p.1 = x)) = l.filter fun p => !decide (p.1 = x) := by
        by_cases h2 : ahas l x = true
        · exact ih h2
        · have h3 := ahas_false.1 (by simpa using h2)
          congr 1
          conv => rhs; rw [← List.map_id l]
          refine List.map_congr_left fun p hp => ?_
          rw [if_neg (h3 p hp)]; rfl
      rw [ih']
      by_cases h1 : p.1 = x <;> simp [h1]
  · rw [if_neg h]; unfold adel; rw [List.filter_append]; simp

/-- nobody holds nothing -/
def WF (M : Lk) : Prop := ∀ p ∈ M, p.2 ≠ [] ∧ Apart p.2 ∧ ∀ q ∈ p.2, q.2 ≠ 0
theorem WF.nil : WF [] := by intro p hp; cases hp
theorem WF.held {M : Lk} (h : WF M) (n : Nm) : Apart (heldBy M n) ∧ (∀ q ∈ heldBy M n, q.2 ≠ 0) ∧ (heldBy M n = [] → aget M n = none) := by
  unfold heldBy
  cases hg : aget M n with
  | none => exact ⟨Apart.nil, (fun q hq => by cases hq), fun _ => rfl⟩
  | some l =>
    have := h _ (mem_of_aget hg)
    exact ⟨this.2.1, this.2.2, fun e => absurd e this.1⟩
theorem LocksT.apartM {w : World} {B b bm : Nat} {T : Tb} (h : LocksT w B b bm T) : Apart (modelOf T) := by
  have := h.apartT
  unfold Apart at this ⊢
  unfold modelOf
  rw [List.pairwise_map]; exact this

theorem restore_new {M : Lk} (hW : WF M) (n : Nm) (who want : Int) (h0 : (aget (heldBy M n) who).getD 0 = 0) (he : adel (aput (heldBy M n) who want) who = []) : adel (aput M n (aput (heldBy M n) who want)) n = M := by
  obtain ⟨ha, hz, hn⟩ := hW.held n
  have hno : ahas (heldBy M n) who = false := by
    cases hh : ahas (heldBy M n) who with
    | false => rfl
    | true =>
      rw [ahas_eq] at hh
      obtain ⟨v, hv⟩ := Option.isSome_iff_exists.1 hh
      rw [hv] at h0
      exact absurd h0 (hz _ (mem_of_aget hv))
  rw [adel_aput, adel_none hno] at he
  rw [adel_aput]
  exact adel_none (by rw [ahas_eq, hn he]; rfl)
theorem restore_old {M : Lk} (hA : Apart M) (hW : WF M) (n : Nm) (who want : Int) (h0 : (aget (heldBy M n) who).getD 0 = 0) (he : adel (aput (heldBy M n) who want) who ≠ []) : aput (aput M n (aput (heldBy M n) who want)) n (adel (aput (heldBy M n) who want) who) = M := by
  obtain ⟨ha, hz, hn⟩ := hW.held n
  have hno : ahas (heldBy M n) who = false := by
    cases hh : ahas (heldBy M n) who with
    | false => rfl
    | true =>
      rw [ahas_eq] at hh
      obtain ⟨v, hv⟩ := Option.isSome_iff_exists.1 hh
      rw [hv] at h0
      exact absurd h0 (hz _ (mem_of_aget hv))
  rw [adel_aput, adel_none hno] at he ⊢
  rw [aput_aput]
  refine aput_self hA ?_
  unfold heldBy at he ⊢
  cases hg : aget M n with
  | none => rw [hg] at he; exact absurd rfl he
  | some l => rfl
theorem restore_mode {M : Lk} (hA : Apart M) (hW : WF M) (n : Nm) (who want : Int) (h0 : (aget (heldBy M n) who).getD 0 ≠ 0) : aput (aput M n (aput (heldBy M n) who want)) n (aput (aput (heldBy M n) who want) who ((aget (heldBy M n) who).getD 0)) = M := by
  obtain ⟨ha, hz, hn⟩ := hW.held n
  rw [aput_aput, aput_aput]
  cases hv : aget (heldBy M n) who with
  | none => rw [hv] at h0; exact absurd rfl h0
  | some v =>
    rw [Option.getD_some, aput_self ha hv]
    refine aput_self hA ?_
    unfold heldBy at hv ⊢
    cases hg : aget M n with
    | none => rw [hg] at hv; cases hv
    | some l => rfl

/-- 'Key' to change: does it come through, and what is held then. -/
def keyB (M : Lk) (who t : Int) (k : ByteArray) : Bool := takeB M who (tname t) 2 && takeB (takeM M who (tname t) 2) who (t, k, false) 3
def keyS (M : Lk) (who t : Int) (k : ByteArray) : Lk := if keyB M who t k = true then takeM (takeM M who (tname t) 2) who (t, k, false) 3 else M

end Go.Proofs.Yticbmpgcndoncaa
