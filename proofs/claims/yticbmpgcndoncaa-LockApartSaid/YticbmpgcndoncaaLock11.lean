/-
  The model of locks: who holds what, name by name; what each call makes of it.
-/
import Derived.Test.YticbmpgcndoncaaLock10
namespace Go.Proofs.Yticbmpgcndoncaa
open Go.RowKit Go.Maps

/-- what somebody holds of a name: a mode; 0: nothing -/
def hm (M : Lk) (n : Nm) (o : Int) : Int := (aget (heldBy M n) o).getD 0

theorem both_ne {a b : Int} (hb : b ≠ 0) : both a b ≠ 0 := by
  unfold both
  by_cases h : a = 0 ∨ a = b
  · rw [if_pos h]; exact hb
  · rw [if_neg h, if_neg hb]; decide
theorem both_zero (b : Int) : both 0 b = b := by unfold both; rw [if_pos (.inl rfl)]
theorem both_same (b : Int) : both b b = b := by unfold both; rw [if_pos (.inr rfl)]
theorem both_three (a : Int) : both a 3 = 3 := by
  unfold both
  by_cases h : a = 0 ∨ a = 3
  · rw [if_pos h]
  · rw [if_neg h, if_neg (by decide)]
theorem both_again (a b : Int) (hb : b ≠ 0) : both (both a b) b = both a b := by
  unfold both
  by_cases h : a = 0 ∨ a = b
  · rw [if_pos h, if_pos (.inr rfl)]
  · rw [if_neg h, if_neg hb]
    by_cases h3 : (3 : Int) = b
    · rw [if_pos (.inr h3)]; exact h3.symm
    · rw [if_neg (fun e => e.elim (by decide) h3), if_neg hb]
theorem fits_three (b : Int) : fits 3 b = false := by unfold fits; simp

theorem heldBy_takeM (M : Lk) (who : Int) (n n' : Nm) (mode : Int) : heldBy (takeM M who n mode) n' = if n' = n then aput (heldBy M n) who (wants M who n mode) else heldBy M n' := by
  have e : heldBy (takeM M who n mode) n' = (aget (takeM M who n mode) n').getD [] := rfl
  rw [e, takeM, aget_aput]
  by_cases h : n' = n
  · rw [if_pos h, if_pos h]; rfl
  · rw [if_neg h, if_neg h]; rfl
theorem wants_hm (M : Lk) (who : Int) (n : Nm) (mode : Int) : wants M who n mode = both (hm M n who) mode := rfl
theorem hm_takeM (M : Lk) (who : Int) (n : Nm) (mode : Int) (n' : Nm) (o : Int) : hm (takeM M who n mode) n' o = if n' = n ∧ o = who then both (hm M n who) mode else hm M n' o := by
  have e : hm (takeM M who n mode) n' o = (aget (heldBy (takeM M who n mode) n') o).getD 0 := rfl
  rw [e, heldBy_takeM]
  by_cases h : n' = n
  · rw [if_pos h, aget_aput]
    by_cases h2 : o = who
    · rw [if_pos h2, if_pos ⟨h, h2⟩]; rfl
    · rw [if_neg h2, if_neg (fun e => h2 e.2)]; subst h; rfl
  · rw [if_neg h, if_neg (fun e => h e.1)]; rfl

theorem WF.takeM {M : Lk} (h : WF M) (who : Int) (n : Nm) {mode : Int} (hm0 : mode ≠ 0) : WF (takeM M who n mode) := by
  obtain ⟨ha, hz, _⟩ := h.held n
  have key : aput (heldBy M n) who (wants M who n mode) ≠ [] ∧ Apart (aput (heldBy M n) who (wants M who n mode)) ∧ ∀ q ∈ aput (heldBy M n) who (wants M who n mode), q.2 ≠ 0 := by
    refine ⟨?_, ha.aput _ _, ?_⟩
    · intro e
      have : ahas (aput (heldBy M n) who (wants M who n mode)) who = true := by rw [ahas_aput]; simp
      rw [e] at this; cases this
    · intro q hq
      unfold aput at hq
      split at hq
      · obtain ⟨q', hq', rfl⟩ := List.mem_map.1 hq
        by_cases e : q'.1 = who
        · rw [if_pos e]; exact both_ne hm0
        · rw [if_neg e]; exact hz _ hq'
      · rcases List.mem_append.1 hq with hq | hq
        · exact hz _ hq
        · simp at hq; rw [hq]; exact both_ne hm0
  intro p hp
  unfold Go.Proofs.Yticbmpgcndoncaa.takeM aput at hp
  split at hp
  · obtain ⟨q, hq, rfl⟩ := List.mem_map.1 hp
    by_cases e : q.1 = n
    · rw [if_pos e]; exact key
    · rw [if_neg e]; exact h _ hq
  · rcases List.mem_append.1 hp with hp | hp
    · exact h _ hp
    · simp at hp; rw [hp]; exact key
theorem WF.dropM {M : Lk} (h : WF M) (who : Int) : WF (dropM M who) := by
  intro p hp
  obtain ⟨hp1, hp2⟩ := List.mem_filter.1 hp
  obtain ⟨q, hq, rfl⟩ := List.mem_map.1 hp1
  refine ⟨fun e => ?_, (h q hq).2.1.adel _, fun r hr => (h q hq).2.2 r (List.filter_sublist.subset hr)⟩
  simp only at e
  rw [e] at hp2; cases hp2

theorem hm_ne {M : Lk} (h : WF M) {n : Nm} {o v : Int} : (o, v) ∈ heldBy M n ↔ hm M n o = v ∧ v ≠ 0 := by
  obtain ⟨ha, hz, _⟩ := h.held n
  constructor
  · intro hp
    refine ⟨?_, hz _ hp⟩
    have := aget_mem ha hp
    have e : hm M n o = (aget (heldBy M n) o).getD 0 := rfl
    rw [e, this]; rfl
  · rintro ⟨e, hv⟩
    have e2 : hm M n o = (aget (heldBy M n) o).getD 0 := rfl
    rw [e2] at e
    cases hg : aget (heldBy M n) o with
    | none => rw [hg] at e; exact absurd e.symm hv
    | some u => rw [hg] at e; have e3 : u = v := e; rw [← e3]; exact mem_of_aget hg

theorem takeB_iff {M : Lk} (h : WF M) (who : Int) (n : Nm) (mode : Int) : takeB M who n mode = true ↔ ∀ o, o ≠ who → hm M n o ≠ 0 → fits (both (hm M n who) mode) (hm M n o) = true := by
  have e : takeB M who n mode = !barred (heldBy M n) who (wants M who n mode) := rfl
  rw [e, Bool.not_eq_true', ← Bool.not_eq_true, barred_iff, wants_hm]
  constructor
  · intro hb o ho hne
    cases hf : fits (both (hm M n who) mode) (hm M n o) with
    | true => rfl
    | false => exact absurd ⟨(o, hm M n o), (hm_ne h).2 ⟨rfl, hne⟩, ho, hf⟩ hb
  · rintro hall ⟨⟨o, v⟩, hp, ho, hf⟩
    obtain ⟨e1, e2⟩ := (hm_ne h).1 hp
    have := hall o ho (by rw [e1]; exact e2)
    rw [e1] at this
    simp only at hf
    rw [hf] at this; cases this
theorem takeB_false {M : Lk} (h : WF M) {who : Int} {n : Nm} {mode o : Int} (ho : o ≠ who) (hne : hm M n o ≠ 0) (hf : fits (both (hm M n who) mode) (hm M n o) = false) : takeB M who n mode = false := by
  cases ht : takeB M who n mode with
  | false => rfl
  | true => have := (takeB_iff h who n mode).1 ht o ho hne; rw [hf] at this; cases this

theorem ahas_iff {M : Lk} (h : WF M) (n : Nm) : ahas M n = true ↔ ∃ o, hm M n o ≠ 0 := by
  constructor
  · intro hh
    rw [ahas_eq] at hh
    obtain ⟨l, hl⟩ := Option.isSome_iff_exists.1 hh
    have hw := h _ (mem_of_aget hl)
    have e : heldBy M n = l := by unfold heldBy; rw [hl]; rfl
    cases hl2 : l with
    | nil => exact absurd hl2 hw.1
    | cons p r =>
      refine ⟨p.1, ?_⟩
      have hp : (p.1, p.2) ∈ heldBy M n := by rw [e, hl2]; simp
      obtain ⟨e1, e2⟩ := (hm_ne h).1 hp
      rw [e1]; exact e2
  · rintro ⟨o, ho⟩
    have := (hm_ne h (n := n) (o := o)).2 ⟨rfl, ho⟩
    cases hg : aget M n with
    | none => unfold heldBy at this; rw [hg] at this; cases this
    | some l => rw [ahas_eq, hg]; rfl

/-- Asked again: granted again, and all is as it was. -/
theorem take_again {M : Lk} (hA : Apart M) (h : WF M) {who : Int} {n : Nm} {mode : Int} (e : both (hm M n who) mode = hm M n who) (hne : hm M n who ≠ 0) : takeM M who n mode = M := by
  obtain ⟨ha, hz, _⟩ := h.held n
  have hmem := (hm_ne h (n := n) (o := who)).2 ⟨rfl, hne⟩
  have h1 : aput (heldBy M n) who (wants M who n mode) = heldBy M n := aput_self ha (by rw [wants_hm, e]; exact aget_mem ha hmem)
  unfold takeM
  rw [h1]
  refine aput_self hA ?_
  have hh := (ahas_iff h n).2 ⟨who, hne⟩
  rw [ahas_eq] at hh
  obtain ⟨l, hl⟩ := Option.isSome_iff_exists.1 hh
  rw [hl]; congr 1; unfold heldBy; rw [hl]; rfl

/-- 'Key', to read or to change. -/
def kB (M : Lk) (who t : Int) (k : ByteArray) (c : Bool) : Bool := if c = true then keyB M who t k else takeB M who (t, k, false) 1
def kS (M : Lk) (who t : Int) (k : ByteArray) (c : Bool) : Lk := if c = true then keyS M who t k else takeS M who (t, k, false) 1

theorem key_all (B b bm : Nat) (M : Lk) (who t : Int) (k : ByteArray) (c : Bool) (hn : iok t) (hk : k.size ≤ maxLen) (hw : iok who) (w : World) (h : LocksAt w B b bm M) (hW : WF M) :
    Calls Try.prog 10 #[.pointer (some ⟨b, 0, none⟩), .int .i64 who, .int .i64 t, .string k, .bool c] w fun e w' =>
      e = .returned (.bool (kB M who t k c)) ∧ LocksAt w' B b bm (kS M who t k c) ∧ Turns (fun i => i = bm ∨ B ≤ i) w w' := by
  cases c with
  | true => exact key_any B b bm M who t k hn hk hw w h hW
  | false => exact key_read B b bm M who t k hn hk hw w h

theorem WF.takeS {M : Lk} (h : WF M) (who : Int) (n : Nm) {mode : Int} (hm0 : mode ≠ 0) : WF (takeS M who n mode) := by
  unfold Go.Proofs.Yticbmpgcndoncaa.takeS; split
  · exact h.takeM who n hm0
  · exact h
theorem WF.keyS {M : Lk} (h : WF M) (who t : Int) (k : ByteArray) : WF (keyS M who t k) := by
  unfold Go.Proofs.Yticbmpgcndoncaa.keyS; split
  · exact (h.takeM who _ (by decide)).takeM who _ (by decide)
  · exact h
theorem WF.kS {M : Lk} (h : WF M) (who t : Int) (k : ByteArray) (c : Bool) : WF (kS M who t k c) := by
  unfold Go.Proofs.Yticbmpgcndoncaa.kS; split
  · exact h.keyS who t k
  · exact h.takeS who _ (by decide)
theorem apart_takeM {M : Lk} (h : Apart M) (who : Int) (n : Nm) (mode : Int) : Apart (takeM M who n mode) := h.aput _ _
theorem LocksAt.apartM {w : World} {B b bm : Nat} {M : Lk} (h : LocksAt w B b bm M) : Apart M := by
  obtain ⟨T, h, rfl⟩ := h; exact h.apartM

end Go.Proofs.Yticbmpgcndoncaa
