/-
  'Drop' walked.
-/
import Derived.Test.YticbmpgcndoncaaLock9
namespace Go.Proofs.Yticbmpgcndoncaa
open Go.RowKit Go.Maps

def outerOf (T : Tb) : List (Nm × Option Nat) := T.map fun p => (p.1, (fun q : Nat × Hold => some q.1) p.2)
theorem outerOf_get (T : Tb) (n : Nm) : aget (outerOf T) n = (aget T n).map fun q => some q.1 := aget_map (fun q : Nat × Hold => some q.1) T n
theorem proc_block (who : Int) (L : Nm → Bool) (T : Tb) : ∀ p ∈ proc who L T, ∃ q ∈ T, q.2.1 = p.2.1 := by
  intro p hp
  unfold proc at hp
  obtain ⟨q, hq, rfl⟩ := List.mem_map.1 (List.mem_filter.1 hp).1
  refine ⟨q, hq, ?_⟩
  split <;> rfl
theorem outerOf_aput {T : Tb} (hA : Apart T) {n : Nm} {bi : Nat} {l l' : Hold} (hg : aget T n = some (bi, l)) : outerOf (aput T n (bi, l')) = outerOf T := by
  unfold outerOf
  rw [← aput_map (fun q : Nat × Hold => some q.1)]
  refine aput_self ?_ ?_
  · unfold Apart at hA ⊢; rw [List.pairwise_map]; exact hA
  · rw [aget_map (fun q : Nat × Hold => some q.1), hg]; rfl

def StepAt {K V : Type} [DecidableEq K] (P : Program) (f : K → Value) (ok : K → Prop) (g : V → Value) (b r : Nat) (l left : List (K × V)) (w : World) (kv vv : Value) (w' : World) : Prop :=
  ∃ p ∈ left, kv = f p.1 ∧ vv = g p.2 ∧ RngAt w' f ok g b r l (adel left p.1) ∧ Turns (fun i => i = r) w w' ∧ w'.heap.size = w.heap.size ∧ (Instr.entry (.pointer (some ⟨r, 0, none⟩))).run P w' = .ok (.tuple #[kv, vv]) w'
theorem wpList_next_st {P : Program} {K V : Type} [DecidableEq K] {f : K → Value} {ok : K → Prop} {g : V → Value} (w : World) {b r : Nat} {l left : List (K × V)} {ops : Array Oper} {rest : List Oper} {o : Oper} {a : Act} {Q : Exit → Act → World → Prop}
    (hw : Region.wanted o (yielded ops a.tmps) = true) (it : Operand) (hop : o.op = Op.next it false) (hinj : ∀ x y, f x = f y → x = y) (hit : a.eval it = .pointer (some ⟨r, 0, none⟩)) (h : RngAt w f ok g b r l left)
    (hDone : left = [] → wpList P ops Q rest (a.put o.dst (.tuple #[.bool false])) w)
    (hMore : ∀ (kv vv : Value) (w' : World), StepAt P f ok g b r l left w kv vv w' → wpList P ops Q rest (a.put o.dst (.tuple #[.bool true, kv, vv])) w') : wpList P ops Q (o :: rest) a w :=
  wpList_next_al w hw it hop hinj hit h hDone fun p hp _ h1 h2 h3 h4 => hMore _ _ _ ⟨p, hp, rfl, rfl, h1, h2, h3, h4⟩

set_option maxRecDepth 100000 in
theorem drop_nil (who : Int) (w : World) : Calls Try.prog 13 #[.pointer none, .int .i64 who] w fun e w' => e = .returned (.tuple #[]) ∧ w = w' := by
  go_enter Try.func13, Try.ntmps13
  go_wp2
  refine bodyPost_ret (results_none rfl _ _ _) rfl ?_
  exact ⟨rfl, rfl⟩

set_option maxRecDepth 100000 in
set_option maxHeartbeats 800000 in
theorem drop_T (B b bm : Nat) (T : Tb) (who : Int) (hw : iok who) (w : World) (h : LocksT w B b bm T) :
    Calls Try.prog 13 #[.pointer (some ⟨b, 0, none⟩), .int .i64 who] w fun e w' =>
      e = .returned (.tuple #[]) ∧ ∃ T', LocksT w' B b bm T' ∧ modelOf T' = dropM (modelOf T) who ∧ Turns (fun i => i = bm ∨ B ≤ i) w w' := by
  have c0 : w.cell? ⟨b, 0, none⟩ = some (.map (some bm)) := cell_of_row w b 0 _ _ _ h.blk
  have hm := h.outer
  have hsz := h.size
  have HLT := hid (show ∀ p ∈ T, p.2.1 < w.heap.size from fun p hp => (h.inner p hp).lt)
  have hbm := hm.lt
  have HA := hid h.apartT
  go_enter Try.func13, Try.ntmps13
  go_wp2_with (first
    | (at_range; refine wpList_range_al _ rfl _ 39 45 rfl Try.underlying39 rfl hm ?_; intro w1 hr1 t1 s1))
  try go_frame
  have h1 : LocksT w1 B b bm T := h.below (t1.below (Nat.le_refl _) (fun _ _ h => h))
  have ht1 : Turns (fun i => i = bm ∨ B ≤ i) w w1 := t1.mono fun i _ h => h.elim
  obtain ⟨r, hr⟩ : ∃ r, r = w.heap.size := ⟨_, rfl⟩
  rw [← hr] at hr1 HLT hsz hbm ⊢
  have hproc : T = proc who (fun x => ahas (outerOf T) x) T := (proc_all who T (fun x => ahas (outerOf T) x) fun p hp => ahas_true.2 ⟨_, List.mem_map.2 ⟨p, hp, rfl⟩, rfl⟩).symm
  have HS := hid s1
  have HH := hid h
  have HR := hid hr
  clear s1 t1 c0 hm h hr
  go_loopw [13] (fun _ wr => ∃ left Tc, LocksT wr B b bm Tc ∧ RngAt wr nval nok oval bm r (outerOf Tc) left ∧ Tc = proc who (fun x => ahas left x) T ∧ Turns (fun i => i = bm ∨ B ≤ i) w wr) (fun _ wr => wr.rangeLeft bm r)
  case atStart => exact ⟨outerOf T, T, h1, hr1, hproc, ht1⟩
  case round =>
    clear h1 hr1 ht1 hproc
    obtain ⟨left, Tc, hTc, hrg, hproc, htc⟩ := hrel
    have HP := hid hproc
    clear hproc
    go_wp2_with (first
      | (at_next; refine wpList_next_st _ rfl _ rfl nenc.inj rfl hrg ?_ ?_))
    · intro hleft
      go_wp2
      go_end0
      refine ⟨rfl, Tc, hTc, ?_, htc⟩
      rw [HP.out, hleft]
      exact proc_none who T
    · intro kv vv w4 hst
      obtain ⟨⟨n, o⟩, hp, rfl, rfl, hr4, t4, s4, hen⟩ := hst
      have hno : aget (outerOf Tc) n = some o := aget_mem hTc.outer.apart (hrg.sub.subset hp)
      have hnk : nok n := hTc.outer.oks _ (hrg.sub.subset hp)
      obtain ⟨bi, l, hg, rfl⟩ : ∃ bi l, aget Tc n = some (bi, l) ∧ o = some bi := by
        rw [outerOf_get] at hno
        cases hg : aget Tc n with
        | none => rw [hg] at hno; cases hno
        | some q => obtain ⟨b1, l1⟩ := q; rw [hg] at hno; injection hno with hno; exact ⟨b1, l1, rfl, hno.symm⟩
      have hnT : aget T n = some (bi, l) := by
        have hL : ahas left n = true := ahas_true.2 ⟨_, hp, rfl⟩
        cases hgT : aget T n with
        | none =>
          have := proc_has who T (fun x => ahas left x) n (by rw [ahas_eq, hgT]; rfl)
          rw [← HP.out, ahas_eq, hg] at this; cases this
        | some v =>
          have := proc_get who HA.out (fun x => ahas left x) hgT hL
          rw [← HP.out, hg] at this
          exact this.symm
      have hoffr : Off Tc r := by
        intro p hp e
        rw [HP.out] at hp
        obtain ⟨q, hq, e2⟩ := proc_block who _ T p hp
        have := HLT.out q hq
        omega
      have hbir : ¬ bi = r := hoffr _ (mem_of_aget hg)
      have hrb : ¬ b = r := by have := hTc.blow; omega
      have hrbm : ¬ bm = r := by omega
      have hTc4 : LocksT w4 B b bm Tc := ⟨(t4.block b (Array.getElem?_eq_some_iff.1 hTc.blk).1 hrb).trans hTc.blk, hTc.outer.turns t4 hrbm, fun p hp => (hTc.inner p hp).turns t4 (hoffr p hp), hTc.base, hTc.apart, hTc.low, hTc.blow, Nat.le_trans hTc.size t4.size⟩
      have htc4 : Turns (fun i => i = bm ∨ B ≤ i) w w4 := htc.trans (t4.mono fun i _ e => .inr (by rw [e]; exact hsz))
      obtain ⟨nt, nk, nw⟩ := n
      unfold nval oval at hen ⊢
      simp only at hen ⊢
      -- the box of the name
      have hB5 : Below w4.heap.size w4 (w4.alloc (.cells #[.int .i64 nt, .string nk, .bool nw] 44)) := (Below.refl _ _).alloc (Nat.le_refl _) _
      have hTc5 := hTc4.below hB5
      have hr5 : RngAt (w4.alloc (.cells #[.int .i64 nt, .string nk, .bool nw] 44)) nval nok oval bm r (outerOf Tc) (adel left (nt, nk, nw)) := hr4.turns (Turns.of_below (S := fun _ => False) hB5) (fun h => h) (fun h => h)
      have hbx5 : (w4.alloc (.cells #[.int .i64 nt, .string nk, .bool nw] 44)).heap[w4.heap.size]? = some (.cells #[.int .i64 nt, .string nk, .bool nw] 44 (0, 0)) := heap_alloc_new w4 _
      have hmeas : (adel left (nt, nk, nw)).length < left.length := length_adel_lt hp
      have hbis : ¬ w4.heap.size = bi := by have := (hTc4.get hg).1.lt; omega
      have htc5 : Turns (fun i => i = bm ∨ B ≤ i) w (w4.alloc (.cells #[.int .i64 nt, .string nk, .bool nw] 44)) := htc4.trans (Turns.of_below hB5)
      have HM := hid (show wr.rangeLeft bm r = left.length from hrg.left_eq)
      have HG := hid hg
      have HT := hid hnT
      have HNK := hid hnk
      have HLr := hid (show ahas left (nt, nk, nw) = true from ahas_true.2 ⟨_, hp, rfl⟩)
      have hin5 := hTc5.get hg
      have HB := hid hbis
      clear hp hr4 t4 s4 hno hnk hg hnT hoffr hTc hrg hTc4 htc4 htc hB5 hbis
      go_wp2_with (first
        | (at_delete; refine wpList_delete_al _ rfl _ _ 45 3 rfl ienc Try.underlying45 rfl hin5.1 who rfl hw ?_; intro w6 h6 t6)
        | (at_len; refine wpList_len_al _ rfl _ 45 3 rfl Try.underlying45 rfl h6 ?_))
      · have hemp : (adel l who).isEmpty = true := by
          have h0 : (((adel l who).length : Int) == 0) = true := by assumption
          have h1 : (adel l who).length = 0 := by simpa using h0
          rw [List.eq_nil_of_length_eq_zero h1]; rfl
        have hT6 := mapped t6
        have hA6 := hTc5.change HG.out hT6 h6
        have ho6 : outerOf (aput Tc (nt, nk, nw) (bi, adel l who)) = outerOf Tc := outerOf_aput hTc5.apartT HG.out
        have hbibm : ¬ bm = bi := by have := hTc5.low; have := hin5.2; omega
        have hr6 : RngAt w6 nval nok oval bm r (outerOf (aput Tc (nt, nk, nw) (bi, adel l who))) (adel left (nt, nk, nw)) := by rw [ho6]; exact hr5.turns hT6 hbibm (fun e => hbir e.symm)
        have htc6 : Turns (fun i => i = bm ∨ B ≤ i) w w6 := htc5.trans (hT6.mono fun i _ e => .inr (by rw [e]; exact hin5.2))
        have hbx6 := (hT6.block w4.heap.size (Array.getElem?_eq_some_iff.1 hbx5).1 HB.out).trans hbx5
        have HE := hid hemp
        clear hT6 ho6 hr5 hbx5 htc5 hin5 hTc5 h6 t6 hemp hen
        obtain ⟨c, hc⟩ : ∃ c, c = w4.heap.size := ⟨_, rfl⟩
        rw [← hc] at hbx6 ⊢
        clear hc
        have k0 : w6.cell? ⟨c, 0, none⟩ = some (.int .i64 nt) := cell_of_row w6 c 0 _ _ _ hbx6
        have k1 : w6.cell? ⟨c, 1, none⟩ = some (.string nk) := cell_of_row w6 c 1 _ _ _ hbx6
        have k2 : w6.cell? ⟨c, 2, none⟩ = some (.bool nw) := cell_of_row w6 c 2 _ _ _ hbx6
        have c0 : w6.cell? ⟨b, 0, none⟩ = some (.map (some bm)) := cell_of_row w6 b 0 _ _ _ hA6.blk
        go_still_tail 5, (by kernel_rfl)
        change wpList _ _ _ _ _ w6.drew
        refine wpList_delete_rng _ rfl _ _ 39 45 rfl nenc Try.underlying39 rfl (hr6.turns ((Turns.refl (fun _ => False) w6).drew) (fun h => h) (fun h => h)) (nt, nk, nw) rfl HNK.out ?_
        intro w8 hr8 t8
        try go_frame
        go_wp2
        have hT8 : Turns (fun i => i = bm) w6 w8 := ((Turns.refl _ _).drew).turned t8 (.inr rfl)
        have hA8 := hA6.drop (nt, nk, nw) hT8 hr8.map
        have hdd : adel (adel left (nt, nk, nw)) (nt, nk, nw) = adel left (nt, nk, nw) := adel_none (by rw [ahas_adel]; simp)
        have hod : adel (outerOf (aput Tc (nt, nk, nw) (bi, adel l who))) (nt, nk, nw) = outerOf (adel (aput Tc (nt, nk, nw) (bi, adel l who)) (nt, nk, nw)) := adel_map (fun q : Nat × Hold => some q.1) _ _
        rw [hdd, hod] at hr8
        have hpr : adel (aput Tc (nt, nk, nw) (bi, adel l who)) (nt, nk, nw) = proc who (fun x => ahas (adel left (nt, nk, nw)) x) T := by
          have := proc_step who HA.out (fun x => ahas left x) HT.out HLr.out
          rw [if_pos HE.out, ← HP.out] at this
          rw [this]
          exact proc_congr who T _ _ fun p _ => by rw [ahas_adel, Bool.and_comm]
        have hm8 := hr8.left_eq
        go_roundw
        case rel => exact ⟨adel left (nt, nk, nw), _, hA8, hr8, hpr, htc6.trans (hT8.mono fun i _ e => .inl e)⟩
        case measure => rw [hm8, HM.out]; exact hmeas
      · have hemp : ¬ (adel l who).isEmpty = true := by
          have h0 : (((adel l who).length : Int) == 0) = false := by assumption
          intro h1
          rw [List.isEmpty_iff.1 h1] at h0
          cases h0
        have hT6 := mapped t6
        have hA6 := hTc5.change HG.out hT6 h6
        have ho6 : outerOf (aput Tc (nt, nk, nw) (bi, adel l who)) = outerOf Tc := outerOf_aput hTc5.apartT HG.out
        have hbibm : ¬ bm = bi := by have := hTc5.low; have := hin5.2; omega
        have hr6 : RngAt w6 nval nok oval bm r (outerOf (aput Tc (nt, nk, nw) (bi, adel l who))) (adel left (nt, nk, nw)) := by rw [ho6]; exact hr5.turns hT6 hbibm (fun e => hbir e.symm)
        have htc6 : Turns (fun i => i = bm ∨ B ≤ i) w w6 := htc5.trans (hT6.mono fun i _ e => .inr (by rw [e]; exact hin5.2))
        have hpr : aput Tc (nt, nk, nw) (bi, adel l who) = proc who (fun x => ahas (adel left (nt, nk, nw)) x) T := by
          have := proc_step who HA.out (fun x => ahas left x) HT.out HLr.out
          rw [if_neg hemp, ← HP.out] at this
          rw [this]
          exact proc_congr who T _ _ fun p _ => by rw [ahas_adel, Bool.and_comm]
        have hm6 := hr6.left_eq
        go_roundw
        case rel => exact ⟨adel left (nt, nk, nw), _, hA6, hr6, hpr, htc6⟩
        case measure => rw [hm6, HM.out]; exact hmeas

theorem drop_any (B b bm : Nat) (M : Lk) (who : Int) (hw : iok who) (w : World) (h : LocksAt w B b bm M) :
    Calls Try.prog 13 #[.pointer (some ⟨b, 0, none⟩), .int .i64 who] w fun e w' => e = .returned (.tuple #[]) ∧ LocksAt w' B b bm (dropM M who) ∧ Turns (fun i => i = bm ∨ B ≤ i) w w' := by
  obtain ⟨T, hT, rfl⟩ := h
  refine (drop_T B b bm T who hw w hT).mono ?_
  rintro e w' ⟨rfl, T', h', e', t'⟩
  exact ⟨rfl, ⟨T', h', e'.symm⟩, t'⟩

end Go.Proofs.Yticbmpgcndoncaa
