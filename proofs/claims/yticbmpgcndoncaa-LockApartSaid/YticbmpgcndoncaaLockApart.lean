/-
  LockApart's walk: keys that are unlike, and tables that are, bar nobody from one another.
-/
import Derived.Test.YticbmpgcndoncaaLockApart0
import Derived.Test.YticbmpgcndoncaaLockReads
import Derived.StringKeys
namespace Go.Proofs.Yticbmpgcndoncaa
open Go.RowKit Go.Maps

def sk (k : ByteArray) : Value := .string k
def skok (k : ByteArray) : Prop := k.size ≤ maxLen
theorem senc : KEnc Try.prog 9 sk skok := ⟨string_keyed Try.underlying9, fun x hx => ⟨_, Go.WideMaps.keyOf_string_mk Try.underlying9 hx⟩, fun x y h => by unfold sk at h; injection h⟩

theorem RngAt.of_blocks {K V : Type} {f : K → Value} {ok : K → Prop} {g : V → Value} {w w' : World} {b r : Nat} {l left : List (K × V)} (h : RngAt w f ok g b r l left) (hb : w'.heap[b]? = w.heap[b]?) (hr : w'.heap[r]? = w.heap[r]?) : RngAt w' f ok g b r l left := by
  obtain ⟨es, clock, since, seen, c0, e1, e2, e3, e4, e5, rest⟩ := h
  exact ⟨es, clock, since, seen, c0, hb.trans e1, e2, e3, e4, hr.trans e5, rest⟩

/-- the keys that are handed -/
def Keyed (w : World) (b off len : Nat) : Prop := ∀ i, i < len → ∃ k : ByteArray, w.cell? ⟨b, off + i, none⟩ = some (.string k) ∧ k.size ≤ maxLen

structure ApartAt (w0 w : World) (s Y : Nat) (M : Lk) (A : List (ByteArray × Int)) : Prop where
  l : LawK2 w0 w s M (s + 2) Y
  m : MapAt w sk skok inum (s + 2) A

set_option maxRecDepth 100000 in
set_option maxHeartbeats 3200000 in
theorem apart_any (b off len cap : Nat) (t0 : Int) (w : World) (hl0 : 0 < len) (hb : b < w.heap.size) (hlen : len ≤ 9223372036854775807) (hc : Keyed w b off len) :
    Calls Try.prog 3 #[.slice (some ⟨b, off, none⟩) len cap, .int .i64 t0] w fun e w' => e = .returned (.bool true) ∧ Below w.heap.size w w' := by
  by_cases h30 : 30 < len
  · go_enter Try.func3, Try.ntmps3
    go_wp2_with (first
      | (go_at_call 8; refine (fit_any _).mono ?_; rintro e w1 ⟨rfl, b1⟩))
    go_ret
    exact ⟨rfl, b1⟩
  · have HC := hid hc
    clear hc
    have hmk := and_mask t0 16 (by omega)
    simp only [show ((2 ^ 16 - 1 : Nat) : Int) = 65535 from rfl, show (2 : Int) ^ 16 = 65536 from rfl] at hmk
    obtain ⟨t, ht⟩ : ∃ t, bits .and .i64 t0 65535 = t := ⟨_, rfl⟩
    rw [ht] at hmk
    have hmm := @run_makeMap Try.prog
    go_enter Try.func3, Try.ntmps3
    go_wp2_with (first
      | (go_at_call 8; refine (fit_any _).mono ?_; rintro e w1 ⟨rfl, b1⟩)
      | (go_at_call 9; refine (new_any _).mono ?_; rintro e w2 ⟨rfl, hl, bn, sn⟩; have h0 := LawAt.new b1 hl bn))
    have h1 := h0.box (.map #[] 0)
    have h2 := MapAt.made w2 sk skok inum
    rw [sn] at h1 h2
    obtain ⟨s, hs⟩ : ∃ s, s = w1.heap.size := ⟨_, rfl⟩
    rw [← hs] at h1 h2 ⊢
    have hS0 : ApartAt w (w2.alloc (.map #[] 0)) s (s + 2) [] [] := ⟨h1.two (Nat.le_refl _), h2⟩
    generalize w2.alloc (.map #[] 0) = w3 at hS0 ⊢
    have hP0 := Apt.nil t
    clear h0 h1 h2 hl bn sn b1 hs hmm ht
    have hT : iok t := iok_of (by omega)
    go_loopw [24] (fun u wr => ∃ (k : Nat) (M : Lk) (A : List (ByteArray × Int)), k ≤ len ∧ u = .int .i64 k ∧ ApartAt w wr s (s + 2) M A ∧ Apt M A t k ∧ (0 < k → A ≠ [])) (fun u _ => ((len : Int) - intOf u).toNat)
    case atStart => exact ⟨0, [], [], by omega, rfl, hS0, hP0, fun h => by omega⟩
    case round =>
      clear hS0 hP0
      obtain ⟨i, M, A, hi, rfl, hS, hP, hne⟩ := hrel
      by_cases hlt : i < len
      · obtain ⟨k, hcell, hK⟩ := HC.out i hlt
        have hcr : wr.cell? ⟨b, off + i, none⟩ = some (.string k) := (World.cell?_of_block (w := w) (hS.l.b.block b hb)).trans hcell
        clear hcell
        by_cases h100 : 100 < k.size
        · have hd : decide ((100 : Int) < (k.size : Int)) = true := by simp; omega
          go_wp2
          go_ret
          exact ⟨rfl, hS.l.b⟩
        · have hd : decide ((100 : Int) < (k.size : Int)) = false := by simp; omega
          cases hh : ahas A k with
          | true =>
            obtain ⟨o1, o2, o3⟩ := hP.old hh
            have HH := hid hh
            have HW := hid hP.wf
            have R := hid o1
            have E := hid o2
            clear hh o1 o2 hP
            go_wp2_with (first
              | (at_lookup; refine wpList_lookup_ok_al _ rfl _ _ 26 3 rfl senc Try.underlying26 0 (zero3 _) rfl hS.m k rfl hK ?_; rw [HH.out]; simp only [inum])
              | (go_at_call 10; (with_reducible refine (law_key2 _ _ _ _ _ _ i t k true hT hK (iok_of (by omega)) hS.l HW.out R.out E.out).mono ?_); rintro e w4 ⟨rfl, h4, x4, _⟩))
            have hN : ApartAt w w4 s (s + 2) M A := ⟨h4, hS.m.of_block x4⟩
            clear hcr h4 x4 hS
            go_roundw
            case rel => exact ⟨i + 1, M, A, by omega, by go_num, hN, by simpa using o3, fun _ e => by have := HH.out; rw [e] at this; cases this⟩
            case measure => simp [intOf]; omega
          | false =>
            obtain ⟨o1, o3⟩ := hP.new (by omega) hh
            obtain ⟨M1, hM1⟩ : ∃ M1, kS M i t k true = M1 := ⟨_, rfl⟩
            rw [hM1] at o3
            have HH := hid hh
            have HW := hid hP.wf
            have R := hid o1
            have E := hid hM1
            clear hh o1 hM1 hP
            go_wp2_with (first
              | (at_lookup; refine wpList_lookup_ok_al _ rfl _ _ 26 3 rfl senc Try.underlying26 0 (zero3 _) rfl hS.m k rfl hK ?_; rw [HH.out]; simp only [inum])
              | (go_at_call 10; (with_reducible refine (law_key2 _ _ _ _ _ _ i t k true hT hK (iok_of (by omega)) hS.l HW.out R.out E.out).mono ?_); rintro e w4 ⟨rfl, h4, x4, _⟩)
              | (at_mapUpdate; refine wpList_update_al _ rfl _ _ _ 26 3 rfl senc Try.underlying26 rfl (hS.m.of_block x4) k rfl hK (i : Int) rfl ?_; intro w5 h5 t5))
            have hN : ApartAt w w5 s (s + 2) M1 (aput A k i) := ⟨h4.turns (mapped t5) (fun _ e => .inl e), h5⟩
            clear hcr h4 x4 hS h5 t5
            go_roundw
            case rel => exact ⟨i + 1, M1, aput A k i, by omega, by go_num, hN, by simpa using o3, fun _ e => by have := ahas_aput A k k (i : Int); rw [e] at this; simp at this; cases this⟩
            case measure => simp [intOf]; omega
      · obtain rfl : i = len := by omega
        have hne := hne hl0
        have hP2 := hP.two (show (i : Int) ≤ 99 by omega)
        clear hP hi hlt
        go_wp2_with (first
          | (at_range; refine wpList_range_al _ rfl _ 26 3 rfl Try.underlying26 rfl hS.m ?_; intro w4 hr4 t4 s4))
        try go_frame
        have hL4 : LawK2 w w4 s M (s + 2) wr.heap.size := hS.l.fresh t4 s4
        obtain ⟨r, hr⟩ : ∃ r, r = wr.heap.size := ⟨_, rfl⟩
        rw [← hr] at hL4 hr4 ⊢
        clear hr t4 s4 hS
        have hT1 : iok (t + 1) := iok_of (by omega)
        go_loopw [11] (fun _ wr => ∃ M left, LawK2 w wr s M (s + 2) r ∧ Apt2 M A t ∧ RngAt wr sk skok inum (s + 2) r A left) (fun _ wr => wr.rangeLeft (s + 2) r)
        case atStart => exact ⟨M, A, hL4, hP2, hr4⟩
        case round =>
          clear hL4 hP2 hr4
          obtain ⟨M5, left, hL, hP, hrg⟩ := hrel
          go_wp2_with (first
            | (at_next; refine wpList_next_st _ rfl _ rfl senc.inj rfl hrg ?_ ?_))
          · intro _
            obtain ⟨l1, l2, l3⟩ := hP.last hne
            have L1 := hid l1
            have L2 := hid l2
            have L3 := hid l3
            have hn0 : ((i : Int) == 0) = false := by simp; omega
            clear l1 l2 l3 hP hrg
            go_wp2_with (first
              | (go_at_call 11; (with_reducible refine (law_table _ _ _ _ 99 t hT (iok_of (by omega)) hL.law L1.out L2.out).mono ?_); rintro e w6 ⟨rfl, h6⟩)
              | (go_at_call 11; (with_reducible refine (law_table _ _ _ _ 99 (t + 1) hT1 (iok_of (by omega)) h6 L3.out rfl).mono ?_); rintro e w7 ⟨rfl, h7⟩))
            go_ret
            exact ⟨rfl, h7.b⟩
          · intro kv vv w6 hst
            obtain ⟨⟨k, o⟩, hp, rfl, rfl, hr6, t6, s6, hen⟩ := hst
            have hpA : (k, o) ∈ A := hrg.sub.subset hp
            have hK : k.size ≤ maxLen := hrg.map.oks _ hpA
            have hov := hP.v _ hpA
            have hL6 := hL.turns t6 (fun _ e => .inr e)
            have hmeas : (adel left k).length < left.length := length_adel_lt hp
            have HM := hid (show wr.rangeLeft (s + 2) r = left.length from hrg.left_eq)
            obtain ⟨T, hT0, hTe, _⟩ := hL6.l
            have hAp : Apart M5 := by rw [← hTe]; exact hT0.apartM
            obtain ⟨o1, o2, o3, o4⟩ := hP.own hAp hpA
            obtain ⟨q1, q2⟩ := hP.other k
            obtain ⟨M7, hM7⟩ : ∃ M7, kS M5 99 (t + 1) k true = M7 := ⟨_, rfl⟩
            rw [hM7] at q2
            have R1 := hid o1
            have E1 := hid o2
            have R2 := hid o3
            have E2 := hid o4
            have R3 := hid q1
            have E3 := hid hM7
            have HW := hid hP.wf
            have hOk : iok o := iok_of (by simp only at hov; omega)
            clear hp hrg hL hP hpA hov hT0 hTe hAp o1 o2 o3 o4 q1 hM7 t6 s6
            unfold sk inum at hen ⊢
            simp only at hen ⊢
            go_wp2_with (first
              | (go_at_call 10; (with_reducible refine (law_key2 _ _ _ _ _ _ o t k true hT hK hOk hL6 HW.out R1.out E1.out).mono ?_); rintro e w7 ⟨rfl, h7, x7, y7⟩)
              | (go_at_call 10; (with_reducible refine (law_key2 _ _ _ _ _ _ o t k false hT hK hOk h7 HW.out R2.out E2.out).mono ?_); rintro e w8 ⟨rfl, h8, x8, y8⟩)
              | (go_at_call 10; (with_reducible refine (law_key2 _ _ _ _ _ _ 99 (t + 1) k true hT1 hK (iok_of (by omega)) h8 HW.out R3.out E3.out).mono ?_); rintro e w9 ⟨rfl, h9, x9, y9⟩))
            have hr9 : RngAt w9 sk skok inum (s + 2) r A (adel left k) := hr6.of_blocks (x9.trans (x8.trans x7)) (y9.trans (y8.trans y7))
            have hm9 := hr9.left_eq
            clear h7 x7 y7 h8 x8 y8 x9 y9 hr6 hen hL6
            go_roundw
            case rel => exact ⟨M7, adel left k, h9, q2, hr9⟩
            case measure => rw [hm9, HM.out]; exact hmeas

set_option maxRecDepth 100000 in
theorem apart_none (A : Option Addr) (cap : Nat) (t0 : Int) (w : World) :
    Calls Try.prog 3 #[.slice A 0 cap, .int .i64 t0] w fun e w' => e = .returned (.bool true) ∧ Below w.heap.size w w' := by
  obtain ⟨t, ht⟩ : ∃ t, bits .and .i64 t0 65535 = t := ⟨_, rfl⟩
  have hmm := @run_makeMap Try.prog
  go_enter Try.func3, Try.ntmps3
  go_wp2_with (first
    | (go_at_call 8; refine (fit_any _).mono ?_; rintro e w1 ⟨rfl, b1⟩)
    | (go_at_call 9; refine (new_any _).mono ?_; rintro e w2 ⟨rfl, hl, bn, sn⟩; have h0 := LawAt.new b1 hl bn))
  have h2 := MapAt.made w2 sk skok inum
  have h1 := h0.b.alloc h0.b.size (.map #[] 0)
  rw [sn] at h2
  generalize w2.alloc (.map #[] 0) = w3 at h1 h2 ⊢
  clear hmm ht h0 hl bn sn b1
  refine wp_loop_rounds 1 ?_
  rw [rounds_succ]
  go_wp2_with (first
    | (at_range; refine wpList_range_al _ rfl _ 26 3 rfl Try.underlying26 rfl h2 ?_; intro w4 hr4 t4 s4))
  try go_frame
  have hb4 : Below w.heap.size w w4 := h1.trans (t4.below h1.size (fun _ _ h => h))
  refine wp_loop_rounds 1 ?_
  rw [rounds_succ]
  go_wp2_with (first
    | (at_next; refine wpList_next_st _ rfl _ rfl senc.inj rfl hr4 ?_ ?_))
  · go_ret
    exact ⟨rfl, hb4⟩
  · intro kv vv w6 hst
    obtain ⟨p, hp, _⟩ := hst
    cases hp

end Go.Proofs.Yticbmpgcndoncaa
