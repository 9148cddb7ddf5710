/-
  RestartMarks walked.
-/
import Derived.Test.YtcolblmhopjgpaaRst11
namespace Go.Proofs.Ytcolblmhopjgpaa
open Go.RowKit

/-- entries of which one list of places may have been written over -/
theorem DirtyAt.again {w w' : World} {e : Ent} (h : DirtyAt w e) {D : Nat} {xs ys : List Int} (hl : ys.length = xs.length) (h1 : w.heap[D]? = some (.cells (xs.map (Value.int .u64)).toArray 45 (0, 0))) (h2 : w'.heap[D]? = some (.cells (ys.map (Value.int .u64)).toArray 45 (0, 0)))
    (h3 : ∀ g, g < w.heap.size → g ≠ D → w'.heap[g]? = w.heap[g]?) : ∃ dl, DirtyAt w' ⟨e.pl, e.kd, e.tx, e.pg, e.sl, e.bf, e.af, e.im, e.dv, dl⟩ := by
  rcases h with h | ⟨g, off, cap, cs, t, a1, a2, a3, a4, a5, a6, a7⟩
  · exact ⟨[], .inl ⟨h.1, rfl⟩⟩
  · by_cases hg : g = D
    · subst hg
      rw [h1] at a5
      injection a5 with a5
      injection a5 with a5 ht _
      subst a5 ht
      refine ⟨(List.range e.dl.length).map (fun i => ys.getD (off + i) 0), .inr ⟨g, off, cap, _, 45, by simpa using a1, by decide, by decide, by decide, h2, by simpa using a6, fun i hi => ?_⟩⟩
      have hi' : i < e.dl.length := by simpa using hi
      have := a7 i hi'
      have hlt : off + i < xs.length := by
        have := (Array.getElem?_eq_some_iff.1 this).1
        simpa using this
      simp [hi', hl, hlt]
    · exact ⟨e.dl, .inr ⟨g, off, cap, cs, t, a1, a2, a3, a4, (h3 g (Array.getElem?_eq_some_iff.1 a5).1 hg).trans a5, a6, a7⟩⟩
theorem EntsAt.again {B n : Nat} {w w' : World} {v : Value} {es : List Ent} (h : EntsAt B w v n es) {D : Nat} {xs ys : List Int} (hl : ys.length = xs.length) (h1 : w.heap[D]? = some (.cells (xs.map (Value.int .u64)).toArray 45 (0, 0))) (h2 : w'.heap[D]? = some (.cells (ys.map (Value.int .u64)).toArray 45 (0, 0)))
    (h3 : w.grownBy w' (some D)) (hk : ∀ e ∈ es, e.kd ≠ 7) : ∃ es', EntsAt B w' v n es' ∧ ∀ e ∈ es', e.kd ≠ 7 := by
  have hown := h.own.kept h3 (.inr (own_ne h.own h1 (by decide)))
  have key : ∀ l : List Ent, (∀ e ∈ l, DirtyAt w e ∧ e.kd ≠ 7) → ∃ l' : List Ent, l'.length = l.length ∧ rowOf l' = rowOf l ∧ ∀ e ∈ l', DirtyAt w' e ∧ e.kd ≠ 7 := by
    intro l
    induction l with
    | nil => intro _; exact ⟨[], rfl, rfl, fun e he => by cases he⟩
    | cons e l ih =>
      intro hl'
      obtain ⟨l', k1, k2, k3⟩ := ih fun x hx => hl' x (List.mem_cons_of_mem _ hx)
      obtain ⟨dl, hd⟩ := (hl' e List.mem_cons_self).1.again hl h1 h2 (fun g hg hne => h3.block g hg (by simpa using hne))
      refine ⟨⟨e.pl, e.kd, e.tx, e.pg, e.sl, e.bf, e.af, e.im, e.dv, dl⟩ :: l', by simp [k1], ?_, fun x hx => ?_⟩
      · show Ent.cells _ ++ rowOf l' = Ent.cells e ++ rowOf l
        rw [k2]; rfl
      · rcases List.mem_cons.1 hx with rfl | hx
        · exact ⟨hd, (hl' e List.mem_cons_self).2⟩
        · exact k3 x hx
  obtain ⟨l', k1, k2, k3⟩ := key es fun e he => ⟨h.dirt e he, hk e he⟩
  exact ⟨l', ⟨k1.trans h.len, by rw [k2]; exact hown, fun e he => (k3 e he).1⟩, fun e he => (k3 e he).2⟩

set_option maxRecDepth 100000 in
theorem slice_all {w : World} {B : Nat} {v : Value} {n : Nat} {xs : List Value} (h : w.ownsRow B 40 9 v n xs) : ∃ A c, v = .slice A n c ∧ (A = none → n = 0) ∧ (∀ b, A = some b → v.ownBlock = some b.block ∧ b = ⟨b.block, 0, none⟩) ∧
    ∀ W : World, (Instr.slice 25 (.slice A n c) none (some (.int .i64 n)) (some (.int .i64 n))).run Try.prog W = .ok (.slice A n n) W := by
  rcases h.2 with ⟨rfl, rfl⟩ | ⟨g, cap, cur, rfl, hb, hh, hle, hcm, hcs, htk⟩
  · refine ⟨none, 0, rfl, fun _ => rfl, (fun b hb => by cases hb), fun W => ?_⟩
    kernel_rfl
  · refine ⟨_, _, rfl, fun h => by (cases h), fun b hb => by (injection hb with hb; subst hb; exact ⟨rfl, rfl⟩), fun W => ?_⟩
    have h0 : (0 : Int) ≤ (n : Int) := by omega
    have h1 : (n : Int) ≤ (cap : Int) := by omega
    have h2 : n ≤ maxLen := by omega
    simp [Instr.slice, Instr.sliceBounds, Instr.sliceBound, go_sem, *]

set_option maxRecDepth 100000 in
theorem step_append_grows {P : Program} (w : World) {ops : Array Oper} {o : Oper} {a : Act} {K : Act → World → Prop} {Q : Exit → Act → World → Prop} {E : Prop} (hw : Region.wanted o (yielded ops a.tmps) = true) (s x : Operand) (t : TypeId)
    (hop : o.op = Op.call { callee := Callee.builtin Builtin.append, args := #[s, x], argTypes := #[t, t] })
    (e : TypeId) (i : TypeInfo) (z : Value) (size bytes : Nat) (h1 : P.underlying t = some (.slice e)) (h2 : P.info? e = some i) (h3 : i.zero = some z) (h4 : i.size = size) (h5 : i.bytes = bytes) (h6 : z.cells.size = size) (h7 : 0 < size)
    (ao : Option Addr) (n cap : Nat) (olds : List Value) (hs : a.eval s = .slice ao n cap) (hnone : ao = none → n = 0 ∧ cap = 0) (hlo : olds.length = n * size) (holds : ∀ b, ao = some b → ∀ j u, olds[j]? = some u → w.cell? (b.add j) = some u)
    (ad : Addr) (m c : Nat) (news : List Value) (hx : a.eval x = .slice (some ad) m c) (hn : news.length = m * size) (hc : ∀ j u, news[j]? = some u → w.cell? (ad.add j) = some u) (h1c : ∀ u ∈ news, u.oneCell' = true)
    (hfull : cap < n + m) (b1 : n + m ≤ maxLen) (b2 : (n + m) * bytes ≤ 140737488355328)
    (hK : ∀ v' w', w'.ownsRow w.heap.size e size v' (n + m) (olds ++ news) → w.grownBy w' none → K (a.put o.dst v') w') :
    if Region.wanted o (yielded ops a.tmps) = true then Oper.wp P o a w K Q else E := by
  rw [if_pos hw]
  cases ao with
  | some b =>
    obtain ⟨v', w', hrun, r1, r2⟩ := run_append_arg_grows (P := P) w t o.type e i z size bytes h1 h2 h3 h4 h5 h6 h7 b n cap olds hlo (holds b rfl) ad m c news hn hc hfull b1 b2
    unfold Oper.wp
    simp [execOp, hop, resolve, invoke, builtin, hs, hx, hrun, Result.andThen]
    exact hK v' w' r1 r2
  | none =>
    obtain ⟨rfl, rfl⟩ := hnone rfl
    obtain rfl : olds = [] := List.eq_nil_of_length_eq_zero (by simpa using hlo)
    obtain ⟨v', w', hrun, r1, r2, _⟩ := run_append_own (P := P) w w.heap.size t o.type e i z size bytes h1 h2 h3 h4 h5 h6 h7 (.slice none 0 0) 0 [] (World.ownsRow_nil w _ e size) ad m c news hn hc h1c b1 b2 (Nat.le_refl _)
    unfold Oper.wp
    simp [execOp, hop, resolve, invoke, builtin, hs, hx, hrun, Result.andThen]
    exact hK v' w' r1 r2

theorem old_keep {w w' : World} {S D : Nat} (k : Below w.heap.size w w') (h : w.cell? ⟨S + 1, 0, none⟩ = some (.int .u64 6000) ∧ w.cell? ⟨S + 1, 1, none⟩ = some (.int .i64 7) ∧ w.cell? ⟨S + 1, 2, none⟩ = some (.int .i64 0) ∧ w.cell? ⟨S + 1, 3, none⟩ = some (.int .i64 0) ∧ w.cell? ⟨S + 1, 4, none⟩ = some (.int .i64 0) ∧ w.cell? ⟨S + 1, 5, none⟩ = some (.string ⟨#[]⟩) ∧ w.cell? ⟨S + 1, 6, none⟩ = some (.string ⟨#[]⟩) ∧ w.cell? ⟨S + 1, 7, none⟩ = some (.string ⟨#[]⟩) ∧ w.cell? ⟨S + 1, 8, none⟩ = some (.slice (some ⟨S, 0, none⟩) 6 6) ∧ w.cell? ⟨S + 1 + 1, 0, none⟩ = some (.int .u64 7000) ∧ w.cell? ⟨S + 1 + 1, 1, none⟩ = some (.int .i64 7) ∧ w.cell? ⟨S + 1 + 1, 2, none⟩ = some (.int .i64 0) ∧ w.cell? ⟨S + 1 + 1, 3, none⟩ = some (.int .i64 0) ∧ w.cell? ⟨S + 1 + 1, 4, none⟩ = some (.int .i64 0) ∧ w.cell? ⟨S + 1 + 1, 5, none⟩ = some (.string ⟨#[]⟩) ∧ w.cell? ⟨S + 1 + 1, 6, none⟩ = some (.string ⟨#[]⟩) ∧ w.cell? ⟨S + 1 + 1, 7, none⟩ = some (.string ⟨#[]⟩) ∧ w.cell? ⟨S + 1 + 1, 8, none⟩ = some (.slice (some ⟨D, 0, none⟩) 6 6)) : w'.cell? ⟨S + 1, 0, none⟩ = some (.int .u64 6000) ∧ w'.cell? ⟨S + 1, 1, none⟩ = some (.int .i64 7) ∧ w'.cell? ⟨S + 1, 2, none⟩ = some (.int .i64 0) ∧ w'.cell? ⟨S + 1, 3, none⟩ = some (.int .i64 0) ∧ w'.cell? ⟨S + 1, 4, none⟩ = some (.int .i64 0) ∧ w'.cell? ⟨S + 1, 5, none⟩ = some (.string ⟨#[]⟩) ∧ w'.cell? ⟨S + 1, 6, none⟩ = some (.string ⟨#[]⟩) ∧ w'.cell? ⟨S + 1, 7, none⟩ = some (.string ⟨#[]⟩) ∧ w'.cell? ⟨S + 1, 8, none⟩ = some (.slice (some ⟨S, 0, none⟩) 6 6) ∧ w'.cell? ⟨S + 1 + 1, 0, none⟩ = some (.int .u64 7000) ∧ w'.cell? ⟨S + 1 + 1, 1, none⟩ = some (.int .i64 7) ∧ w'.cell? ⟨S + 1 + 1, 2, none⟩ = some (.int .i64 0) ∧ w'.cell? ⟨S + 1 + 1, 3, none⟩ = some (.int .i64 0) ∧ w'.cell? ⟨S + 1 + 1, 4, none⟩ = some (.int .i64 0) ∧ w'.cell? ⟨S + 1 + 1, 5, none⟩ = some (.string ⟨#[]⟩) ∧ w'.cell? ⟨S + 1 + 1, 6, none⟩ = some (.string ⟨#[]⟩) ∧ w'.cell? ⟨S + 1 + 1, 7, none⟩ = some (.string ⟨#[]⟩) ∧ w'.cell? ⟨S + 1 + 1, 8, none⟩ = some (.slice (some ⟨D, 0, none⟩) 6 6) := by
  obtain ⟨a0, a1, a2, a3, a4, a5, a6, a7, a8, a9, a10, a11, a12, a13, a14, a15, a16, a17⟩ := h
  exact ⟨cell_below k a0, cell_below k a1, cell_below k a2, cell_below k a3, cell_below k a4, cell_below k a5, cell_below k a6, cell_below k a7, cell_below k a8, cell_below k a9, cell_below k a10, cell_below k a11, cell_below k a12, cell_below k a13, cell_below k a14, cell_below k a15, cell_below k a16, cell_below k a17⟩
theorem EntsAt.two {B n : Nat} {w w' : World} {v v' : Value} {es : List Ent} (h : EntsAt B w v n es) (hb : Below w.heap.size w w') {e1 e2 : Ent} (d1 : DirtyAt w e1) (d2 : DirtyAt w e2) {B' : Nat} (hown : w'.ownsRow B' 40 9 v' (n + 2) (rowOf es ++ (e1.cells ++ e2.cells))) : EntsAt B' w' v' (n + 2) (es ++ [e1] ++ [e2]) := by
  refine ⟨by simp [h.len], ?_, fun e he => ?_⟩
  · have : rowOf (es ++ [e1] ++ [e2]) = rowOf es ++ (e1.cells ++ e2.cells) := by unfold rowOf; simp
    rw [this]; exact hown
  · rcases List.mem_append.1 he with he | he
    · rcases List.mem_append.1 he with he | he
      · exact (h.dirt e he).below hb
      · obtain rfl := List.mem_singleton.1 he; exact d1.below hb
    · obtain rfl := List.mem_singleton.1 he; exact d2.below hb
theorem below_grown {w w' : World} (h : w.grownBy w' none) : Below w.heap.size w w' := ⟨h.os, h.tape, h.output, h.size, fun k hk => h.block k hk (by simp)⟩
theorem own_at {w : World} {B n c : Nat} {A : Option Addr} {xs : List Value} (h : w.ownsRow B 40 9 (.slice A n c) n xs) : ∀ b, A = some b → ∀ j u, xs[j]? = some u → w.cell? (b.add j) = some u := by
  rintro b rfl
  rcases h.2 with ⟨h', _⟩ | ⟨g, cap, cur, hv, _⟩
  · cases h'
  · injection hv with hv _ _
    injection hv with hv
    subst hv
    exact h.cells (g := g) rfl

theorem index_0 (z0 z1 z2 z3 z4 z5 : Int) (w : World) : (Instr.index 45 (.agg #[.int .u64 z0, .int .u64 z1, .int .u64 z2, .int .u64 z3, .int .u64 z4, .int .u64 z5]) (.int .i64 0)).run Try.prog w = .ok (.int .u64 z0) w := by kernel_rfl
theorem index_1 (z0 z1 z2 z3 z4 z5 : Int) (w : World) : (Instr.index 45 (.agg #[.int .u64 z0, .int .u64 z1, .int .u64 z2, .int .u64 z3, .int .u64 z4, .int .u64 z5]) (.int .i64 1)).run Try.prog w = .ok (.int .u64 z1) w := by kernel_rfl
theorem index_2 (z0 z1 z2 z3 z4 z5 : Int) (w : World) : (Instr.index 45 (.agg #[.int .u64 z0, .int .u64 z1, .int .u64 z2, .int .u64 z3, .int .u64 z4, .int .u64 z5]) (.int .i64 2)).run Try.prog w = .ok (.int .u64 z2) w := by kernel_rfl
theorem index_3 (z0 z1 z2 z3 z4 z5 : Int) (w : World) : (Instr.index 45 (.agg #[.int .u64 z0, .int .u64 z1, .int .u64 z2, .int .u64 z3, .int .u64 z4, .int .u64 z5]) (.int .i64 3)).run Try.prog w = .ok (.int .u64 z3) w := by kernel_rfl
theorem index_4 (z0 z1 z2 z3 z4 z5 : Int) (w : World) : (Instr.index 45 (.agg #[.int .u64 z0, .int .u64 z1, .int .u64 z2, .int .u64 z3, .int .u64 z4, .int .u64 z5]) (.int .i64 4)).run Try.prog w = .ok (.int .u64 z4) w := by kernel_rfl
theorem index_5 (z0 z1 z2 z3 z4 z5 : Int) (w : World) : (Instr.index 45 (.agg #[.int .u64 z0, .int .u64 z1, .int .u64 z2, .int .u64 z3, .int .u64 z4, .int .u64 z5]) (.int .i64 5)).run Try.prog w = .ok (.int .u64 z5) w := by kernel_rfl
theorem field_from (fr : Int) (v1 v2 v3 v4 v5 v6 v7 v8 : Value) (w : World) : (Instr.field 32 (.agg #[.int .u64 fr, v1, v2, v3, v4, v5, v6, v7, v8]) 0).run Try.prog w = .ok (.int .u64 fr) w := by kernel_rfl

set_option maxRecDepth 100000 in
set_option maxHeartbeats 3200000 in
theorem marks_law (A : Option Addr) (len cap : Nat) (x0 x1 x2 x3 x4 x5 : Int) (w : World) (hlen : len ≤ 9223372036854775807) (hs : SeedsIn w A len) :
    Calls Try.prog 6 #[.slice A len cap, .agg #[.int .u64 x0, .int .u64 x1, .int .u64 x2, .int .u64 x3, .int .u64 x4, .int .u64 x5]] w fun r w' => r = .returned (.bool true) ∧ Below w.heap.size w w' := by
  obtain ⟨i0, hi, hz0, hz1, hz2⟩ := info_parts info40
  have HS := hid hs
  have HLEN := hid hlen
  clear hs hlen
  have hb0 : Below w.heap.size w (w.alloc (.cells #[.int .u64 x0, .int .u64 x1, .int .u64 x2, .int .u64 x3, .int .u64 x4, .int .u64 x5] 45)) := B_alloc (Below.refl _ _) _
  have HB0 := hid hb0
  clear hb0
  go_enter Try.func6, Try.ntmps6
  go_upto_region 5 with (first
    | (go_at_call 9; (with_reducible refine (fit_any _).mono ?_); rintro r wa ⟨rfl, hba⟩)
    | (go_at_call 10; (with_reducible refine (light_res A len cap _ HLEN.out (HS.out.below (B_call HB0.out hba))).mono ?_); rintro r wb ⟨⟨q, rfl, hq⟩, hbb⟩; rcases q with _ | _))
  · go_ret
    exact ⟨rfl, B_call (B_call HB0.out hba) hbb⟩
  · have hb := B_call (B_call HB0.out hba) hbb
    have hs2 := HS.out.below hb
    have hq2 : len ≤ 100 := by simpa using hq
    have hdb : wb.heap[w.heap.size]? = some (.cells ([x0, x1, x2, x3, x4, x5].map (Value.int .u64)).toArray 45 (0, 0)) := blk_keep hbb (blk_keep hba (heap_alloc_new w _))
    clear hba hbb hq
    have HB := hid hb
    have HS2 := hid hs2
    have HQ := hid hq2
    have HDB := hid hdb
    clear hb hs2 hq2 hdb
    go_wp2_with (go_at_call 11; (with_reducible refine (entries_at A len cap _ HQ.out HS2.out).mono ?_); rintro r w4 ⟨⟨A1, m, c1, es, rfl, hl, hE, _⟩, hbc⟩)
    have hbW := B_call HB.out hbc
    have hR4 := hE.rows
    have hem := hE.len
    have hdb4 := blk_keep hbc HDB.out
    have HBW := hid hbW
    have HR4 := hid hR4
    have HEM := hid hem
    have HDB4 := hid hdb4
    clear hE hbc hbW hR4 hem hdb4 HS2 HS HQ HB HDB
    go_loopw [5, 22] (fun v u wr => ∃ (i j : Nat) (own : List Ent), i ≤ m ∧ j ≤ i ∧ u = .int .i64 i ∧ EntsAt w4.heap.size wr v j own ∧ (∀ e ∈ own, e.kd ≠ 7) ∧ Below w4.heap.size w4 wr) (fun _ u _ => ((m : Int) - intOf u).toNat)
    case atStart => exact ⟨0, 0, [], by omega, by omega, rfl, EntsAt.nil _ _, (fun e he => by cases he), Below.refl _ _⟩
    case round =>
      obtain ⟨i, j, own, hi', hj, rfl, hO, hown, hbl⟩ := hrel
      by_cases hlt : i < m
      · obtain ⟨b, off, hA1, hEt, hD⟩ := HR4.out i (by rw [HEM.out]; exact hlt)
        subst hA1
        have hD2 := hD.below hbl
        obtain ⟨e, he⟩ : ∃ e, e = es[i]'(by rw [HEM.out]; exact hlt) := ⟨_, rfl⟩
        rw [← he] at hEt hD2
        clear he hD
        obtain ⟨A2, n2, c2, hdv⟩ := hD2.slice
        obtain ⟨a0, a1, a2, a3, a4, a5, a6, a7, a8⟩ := hEt.below hbl
        clear hEt
        obtain ⟨pl, kd, tx, pg, sl, bf, af, im, dv, dl⟩ := e
        simp only at hdv a0 a1 a2 a3 a4 a5 a6 a7 a8
        subst hdv
        have HO := hid hO
        have HOWN := hid hown
        have HD2 := hid hD2
        have HBL := hid hbl
        clear hO hown hD2 hbl
        go_upto_region 9 with fail
        have hAB : Below wr.heap.size wr (wr.alloc (.cells #[.int .u64 pl, .int .i64 kd, .int .i64 tx, .int .i64 pg, .int .i64 sl, .string bf, .string af, .string im, .slice A2 n2 c2] 40)) := B_alloc (Below.refl _ _) _
        have hgb := heap_alloc_new wr (.cells #[.int .u64 pl, .int .i64 kd, .int .i64 tx, .int .i64 pg, .int .i64 sl, .string bf, .string af, .string im, .slice A2 n2 c2] 40)
        generalize wr.alloc (.cells #[.int .u64 pl, .int .i64 kd, .int .i64 tx, .int .i64 pg, .int .i64 sl, .string bf, .string af, .string im, .slice A2 n2 c2] 40) = wc at hAB hgb ⊢
        obtain ⟨B1, hB1⟩ : ∃ B1, B1 = wr.heap.size := ⟨_, rfl⟩
        rw [← hB1] at hgb ⊢
        have HAB := hid hAB
        clear hB1 hAB a0 a1 a2 a3 a4 a5 a6 a7 a8
        have y1 : wc.cell? ⟨B1, 1, none⟩ = some (.int .i64 kd) := cell_of_row wc _ 1 _ _ _ hgb
        by_cases h7 : kd = 7
        · subst h7
          go_wp2_with fail
          go_roundw
          case rel => exact ⟨i + 1, j, own, by omega, by omega, by go_num, HO.out.below HAB.out, HOWN.out, B_call HBL.out HAB.out⟩
          case measure => simp [intOf]; omega
        · have hd7 : (kd == 7) = false := by simpa using h7
          have y0 : wc.cell? ⟨B1, 0, none⟩ = some (.int .u64 pl) := cell_of_row wc _ 0 _ _ _ hgb
          have y2 : wc.cell? ⟨B1, 2, none⟩ = some (.int .i64 tx) := cell_of_row wc _ 2 _ _ _ hgb
          have y3 : wc.cell? ⟨B1, 3, none⟩ = some (.int .i64 pg) := cell_of_row wc _ 3 _ _ _ hgb
          have y4 : wc.cell? ⟨B1, 4, none⟩ = some (.int .i64 sl) := cell_of_row wc _ 4 _ _ _ hgb
          have y5 : wc.cell? ⟨B1, 5, none⟩ = some (.string bf) := cell_of_row wc _ 5 _ _ _ hgb
          have y6 : wc.cell? ⟨B1, 6, none⟩ = some (.string af) := cell_of_row wc _ 6 _ _ _ hgb
          have y7 : wc.cell? ⟨B1, 7, none⟩ = some (.string im) := cell_of_row wc _ 7 _ _ _ hgb
          have y8 : wc.cell? ⟨B1, 8, none⟩ = some (.slice A2 n2 c2) := cell_of_row wc _ 8 _ _ _ hgb
          obtain ⟨A5, c5, hv5⟩ := HO.out.slice
          have hO2 := HO.out.below HAB.out
          have hsz := (B_call HBL.out HAB.out).size
          have hd3 := HD2.out.below HAB.out
          subst hv5
          go_wp2_with (at_builtin; go_loud (refine wpList_append_lies _ rfl _ _ 25 (by rfl) w4.heap.size 40 i0 _ 9 112 Try.underlying25 hi hz0 hz1 hz2 rfl (by omega) (.slice A5 j c5) j (rowOf own) (by rfl) (hO2.own.alloc _) ⟨wc.heap.size, 0, none⟩ 1 1 [.int .u64 pl, .int .i64 kd, .int .i64 tx, .int .i64 pg, .int .i64 sl, .string bf, .string af, .string im, .slice A2 n2 c2] (by rfl) (by rfl) (World.news_of_block (heap_alloc_new wc _)) (by simp [Value.oneCell']) (by omega) (by unfold maxLen; omega) (by omega) (by simp; omega) _ rfl ?_); intro gg cap1 w5 hown5 hgrow hat hlt5)
          have hE5 := (hO2.below (B_alloc (Below.refl _ _) _)).push hgrow (e := ⟨pl, kd, tx, pg, sl, bf, af, im, .slice A2 n2 c2, dl⟩) hown5 rfl (hd3.below (B_alloc (Below.refl _ _) _))
          have hb5 : Below w4.heap.size w4 w5 := (hO2.below (B_alloc (Below.refl _ _) (.cells #[.int .u64 pl, .int .i64 kd, .int .i64 tx, .int .i64 pg, .int .i64 sl, .string bf, .string af, .string im, .slice A2 n2 c2] 40))).stays (Nat.le_refl _) (B_alloc (B_call HBL.out HAB.out) _) hgrow
          clear hown5 hgrow hat
          refine ⟨⟨i + 1, j + 1, _, by omega, by omega, by go_num, hE5, ?_, hb5⟩, ?_⟩
          · intro e' he'
            rcases List.mem_append.1 he' with he' | he'
            · exact HOWN.out e' he'
            · obtain rfl := List.mem_singleton.1 he'
              exact h7
          · simp [intOf]; omega
      · obtain rfl : i = m := by omega
        obtain ⟨A5, c5, rfl⟩ := hO.slice
        have hdb5 := blk_keep hbl HDB4.out
        have hbF := B_call HBW.out hbl
        have HO := hid hO
        have HOWN := hid hown
        have HDB5 := hid hdb5
        have HBF := hid hbF
        clear hO hown hbl HR4 HDB4 HBW hdb5 hbF
        go_wp2_with fail
        rename World => w9
        obtain ⟨D, hD⟩ : ∃ D, D = w.heap.size := ⟨_, rfl⟩
        have HD := hid hD
        rw [← hD] at HDB5 ⊢
        clear hD
        go_loopw [35] (fun u wr => ∃ (k : Nat) (ys : List Int), k ≤ 6 ∧ u = .int .i64 k ∧ ys.length = 6 ∧ Nums wr .u64 45 D ys ∧ w9.grownBy wr (some D) ∧ Below w.heap.size w wr) (fun u _ => ((6 : Int) - intOf u).toNat)
        case atStart => exact ⟨0, _, by omega, rfl, rfl, HDB5.out, grown_refl _ _, HBF.out⟩
        case round =>
          obtain ⟨k, ys, hk, rfl, hys, hN, hgr, hbb⟩ := hrel
          by_cases hlt6 : k < 6
          · have c0 := hN.cell (i := k) (by omega)
            have f0 := hN.frozen k
            have hka : (0 : Int) ≤ (k : Int) := by omega
            have hkb : (k : Int) < 6 := by omega
            have HN := hid hN
            have HGR := hid hgr
            have HBB := hid hbb
            clear hN hgr hbb
            generalize hx : ys.getD k 0 = x at c0
            clear hx
            go_wp2_with fail
            refine ⟨⟨k + 1, ys.set k (bits .and .u64 x 4095), by omega, by go_num, by simpa using hys, HN.out.set _ _, ⟨HGR.out.os, HGR.out.tape, HGR.out.output, Nat.le_trans HGR.out.size (by simp), fun g hg hne => (heap_setCell_other _ _ _ _ (fun e => hne (by rw [e]))).trans (HGR.out.block g hg hne)⟩, B_set HBB.out (p := ⟨D, k, none⟩) (Nat.le_of_eq HD.out.symm) _⟩, ?_⟩
            simp [intOf]; omega
          · obtain rfl : k = 6 := by omega
            obtain ⟨own2, hO2, hk2⟩ := HO.out.again (xs := [x0, x1, x2, x3, x4, x5]) hys HDB5.out hN hgr HOWN.out
            match ys, hys with
            | [z0, z1, z2, z3, z4, z5], _ =>
            have HN := hid hN
            have HBB := hid hbb
            have HO2 := hid hO2
            have HK2 := hid hk2
            clear hN hgr hbb hO2 hk2 HO HOWN HDB5 HBF
            have hff := field_from
            go_upto_region 19 with (go_at_call 12; (with_reducible refine (analyse_at A5 j c5 own2 _ HO2.out.len (by omega) HO2.out.rows).mono ?_); rintro r w6 ⟨⟨p, B, c, hp, rfl, hB⟩, hb6⟩; have hfr : p.fr = 0 := by rw [hp.out]; exact marks_none _ HK2.out)
            clear hff hfr
            rename World => wy
            go_upto_region 21 with fail
            obtain ⟨S, hS⟩ : ∃ S, S = wy.heap.size := ⟨_, rfl⟩
            rw [← hS]
            have hbX : Below wy.heap.size wy (((wy.alloc (.cells #[.int .u64 1, .int .u64 1, .int .u64 1, .int .u64 1, .int .u64 1, .int .u64 1] 27)).alloc (.cells #[.int .u64 6000, .int .i64 7, .int .i64 0, .int .i64 0, .int .i64 0, .string ⟨#[]⟩, .string ⟨#[]⟩, .string ⟨#[]⟩, .slice (some ⟨S, 0, none⟩) 6 6] 40)).alloc (.cells #[.int .u64 7000, .int .i64 7, .int .i64 0, .int .i64 0, .int .i64 0, .string ⟨#[]⟩, .string ⟨#[]⟩, .string ⟨#[]⟩, .slice (some ⟨D, 0, none⟩) 6 6] 40)) := B_alloc (B_alloc (B_alloc (Below.refl _ _) _) _) _
            have h1 : (((wy.alloc (.cells #[.int .u64 1, .int .u64 1, .int .u64 1, .int .u64 1, .int .u64 1, .int .u64 1] 27)).alloc (.cells #[.int .u64 6000, .int .i64 7, .int .i64 0, .int .i64 0, .int .i64 0, .string ⟨#[]⟩, .string ⟨#[]⟩, .string ⟨#[]⟩, .slice (some ⟨S, 0, none⟩) 6 6] 40)).alloc (.cells #[.int .u64 7000, .int .i64 7, .int .i64 0, .int .i64 0, .int .i64 0, .string ⟨#[]⟩, .string ⟨#[]⟩, .string ⟨#[]⟩, .slice (some ⟨D, 0, none⟩) 6 6] 40)).heap[S]? = some (.cells ([1, 1, 1, 1, 1, 1].map (Value.int .u64)).toArray 27 (0, 0)) := by
              rw [hS]; exact blk_alloc (blk_alloc (heap_alloc_new wy _))
            have h2 : (((wy.alloc (.cells #[.int .u64 1, .int .u64 1, .int .u64 1, .int .u64 1, .int .u64 1, .int .u64 1] 27)).alloc (.cells #[.int .u64 6000, .int .i64 7, .int .i64 0, .int .i64 0, .int .i64 0, .string ⟨#[]⟩, .string ⟨#[]⟩, .string ⟨#[]⟩, .slice (some ⟨S, 0, none⟩) 6 6] 40)).alloc (.cells #[.int .u64 7000, .int .i64 7, .int .i64 0, .int .i64 0, .int .i64 0, .string ⟨#[]⟩, .string ⟨#[]⟩, .string ⟨#[]⟩, .slice (some ⟨D, 0, none⟩) 6 6] 40)).heap[S + 1]? = some (.cells #[.int .u64 6000, .int .i64 7, .int .i64 0, .int .i64 0, .int .i64 0, .string ⟨#[]⟩, .string ⟨#[]⟩, .string ⟨#[]⟩, .slice (some ⟨S, 0, none⟩) 6 6] 40 (0, 0)) := by
              have := heap_alloc_new (wy.alloc (.cells #[.int .u64 1, .int .u64 1, .int .u64 1, .int .u64 1, .int .u64 1, .int .u64 1] 27)) (.cells #[.int .u64 6000, .int .i64 7, .int .i64 0, .int .i64 0, .int .i64 0, .string ⟨#[]⟩, .string ⟨#[]⟩, .string ⟨#[]⟩, .slice (some ⟨S, 0, none⟩) 6 6] 40)
              rw [World.size_alloc, ← hS] at this
              exact blk_alloc this
            have h3 : (((wy.alloc (.cells #[.int .u64 1, .int .u64 1, .int .u64 1, .int .u64 1, .int .u64 1, .int .u64 1] 27)).alloc (.cells #[.int .u64 6000, .int .i64 7, .int .i64 0, .int .i64 0, .int .i64 0, .string ⟨#[]⟩, .string ⟨#[]⟩, .string ⟨#[]⟩, .slice (some ⟨S, 0, none⟩) 6 6] 40)).alloc (.cells #[.int .u64 7000, .int .i64 7, .int .i64 0, .int .i64 0, .int .i64 0, .string ⟨#[]⟩, .string ⟨#[]⟩, .string ⟨#[]⟩, .slice (some ⟨D, 0, none⟩) 6 6] 40)).heap[S + 1 + 1]? = some (.cells #[.int .u64 7000, .int .i64 7, .int .i64 0, .int .i64 0, .int .i64 0, .string ⟨#[]⟩, .string ⟨#[]⟩, .string ⟨#[]⟩, .slice (some ⟨D, 0, none⟩) 6 6] 40 (0, 0)) := by
              have := heap_alloc_new ((wy.alloc (.cells #[.int .u64 1, .int .u64 1, .int .u64 1, .int .u64 1, .int .u64 1, .int .u64 1] 27)).alloc (.cells #[.int .u64 6000, .int .i64 7, .int .i64 0, .int .i64 0, .int .i64 0, .string ⟨#[]⟩, .string ⟨#[]⟩, .string ⟨#[]⟩, .slice (some ⟨S, 0, none⟩) 6 6] 40)) (.cells #[.int .u64 7000, .int .i64 7, .int .i64 0, .int .i64 0, .int .i64 0, .string ⟨#[]⟩, .string ⟨#[]⟩, .string ⟨#[]⟩, .slice (some ⟨D, 0, none⟩) 6 6] 40)
              rw [World.size_alloc, World.size_alloc, ← hS] at this
              exact this
            generalize ((wy.alloc (.cells #[.int .u64 1, .int .u64 1, .int .u64 1, .int .u64 1, .int .u64 1, .int .u64 1] 27)).alloc (.cells #[.int .u64 6000, .int .i64 7, .int .i64 0, .int .i64 0, .int .i64 0, .string ⟨#[]⟩, .string ⟨#[]⟩, .string ⟨#[]⟩, .slice (some ⟨S, 0, none⟩) 6 6] 40)).alloc (.cells #[.int .u64 7000, .int .i64 7, .int .i64 0, .int .i64 0, .int .i64 0, .string ⟨#[]⟩, .string ⟨#[]⟩, .string ⟨#[]⟩, .slice (some ⟨D, 0, none⟩) 6 6] 40) = w13 at hbX h1 h2 h3 ⊢
            have hN := (HN.out.of_block (hb6.block _ HN.out.lt)).of_block (hbX.block _ (Nat.lt_of_lt_of_le HN.out.lt hb6.size))
            have hO3 := (HO2.out.below hb6).below hbX
            have hbF := B_call (B_call HBB.out hb6) hbX
            have hdo : DirtyAt w13 ⟨6000, 7, 0, 0, 0, ⟨#[]⟩, ⟨#[]⟩, ⟨#[]⟩, .slice (some ⟨S, 0, none⟩) 6 6, [1, 1, 1, 1, 1, 1]⟩ := by
              refine .inr ⟨S, 0, 6, _, 27, rfl, by decide, by decide, by decide, h1, (by show 6 ≤ maxLen; decide), fun i hi => ?_⟩
              have hi6 : i < 6 := hi
              match i, hi6 with
              | 0, _ => rfl
              | 1, _ => rfl
              | 2, _ => rfl
              | 3, _ => rfl
              | 4, _ => rfl
              | 5, _ => rfl
            have hdl : DirtyAt w13 ⟨7000, 7, 0, 0, 0, ⟨#[]⟩, ⟨#[]⟩, ⟨#[]⟩, .slice (some ⟨D, 0, none⟩) 6 6, [z0, z1, z2, z3, z4, z5]⟩ := by
              refine .inr ⟨D, 0, 6, _, 45, rfl, by decide, by decide, by decide, hN, (by show 6 ≤ maxLen; decide), fun i hi => ?_⟩
              have hi6 : i < 6 := hi
              match i, hi6 with
              | 0, _ => rfl
              | 1, _ => rfl
              | 2, _ => rfl
              | 3, _ => rfl
              | 4, _ => rfl
              | 5, _ => rfl
            have n0 : w13.cell? ⟨D, 0, none⟩ = some (.int .u64 z0) := hN.cell (i := 0) (by simp)
            have n1 : w13.cell? ⟨D, 1, none⟩ = some (.int .u64 z1) := hN.cell (i := 1) (by simp)
            have n2 : w13.cell? ⟨D, 2, none⟩ = some (.int .u64 z2) := hN.cell (i := 2) (by simp)
            have n3 : w13.cell? ⟨D, 3, none⟩ = some (.int .u64 z3) := hN.cell (i := 3) (by simp)
            have n4 : w13.cell? ⟨D, 4, none⟩ = some (.int .u64 z4) := hN.cell (i := 4) (by simp)
            have n5 : w13.cell? ⟨D, 5, none⟩ = some (.int .u64 z5) := hN.cell (i := 5) (by simp)
            have HH2 := hid h2
            have HH3 := hid h3
            have HO3 := hid hO3
            have HBF := hid hbF
            have HDO := hid hdo
            have HDL := hid hdl
            clear hS hbX h1 h2 h3 hN hO3 hbF hdo hdl hb6 hp hB HO2 HBB HN
            go_wp2_with fail
            go_loopw [11, 55] (fun v u wr => ∃ k : Nat, k ≤ 6 ∧ u = .int .i64 k ∧ v = .int .u64 (leastOf 7000 ([z0, z1, z2, z3, z4, z5].take k)) ∧ wr = w13) (fun _ u _ => ((6 : Int) - intOf u).toNat)
            case atStart => exact ⟨0, by omega, rfl, rfl, rfl⟩
            case round =>
              obtain ⟨k, hk, rfl, rfl, rfl⟩ := hrel
              by_cases hlt6 : k < 6
              · have hk6 : k = 0 ∨ k = 1 ∨ k = 2 ∨ k = 3 ∨ k = 4 ∨ k = 5 := by omega
                have hls := leastOf_take 7000 [z0, z1, z2, z3, z4, z5] k (by simpa using hlt6)
                rcases hk6 with rfl | rfl | rfl | rfl | rfl | rfl
                · have hdk : [z0, z1, z2, z3, z4, z5].getD 0 0 = z0 := rfl
                  have hix := index_0 z0 z1 z2 z3 z4 z5
                  rw [hdk] at hls
                  generalize leastOf 7000 ([z0, z1, z2, z3, z4, z5].take 0) = lk at hls ⊢
                  by_cases hp : 0 < z0
                  · have hdp : decide (0 < z0) = true := by simpa using hp
                    rw [if_pos hp] at hls
                    have HL := hid hls
                    clear hls hdk
                    go_wp2_with fail
                    go_roundw
                    case rel => exact ⟨1, by omega, by go_num, by rw [HL.out], by trivial⟩
                    case measure => simp [intOf]
                  · have hdp : decide (0 < z0) = false := by simpa using hp
                    rw [if_neg hp] at hls
                    have HL := hid hls
                    clear hls hdk
                    go_wp2_with fail
                    go_roundw
                    case rel => exact ⟨1, by omega, by go_num, by rw [HL.out], by trivial⟩
                    case measure => simp [intOf]
                · have hdk : [z0, z1, z2, z3, z4, z5].getD 1 0 = z1 := rfl
                  have hix := index_1 z0 z1 z2 z3 z4 z5
                  rw [hdk] at hls
                  generalize leastOf 7000 ([z0, z1, z2, z3, z4, z5].take 1) = lk at hls ⊢
                  by_cases hp : 0 < z1
                  · have hdp : decide (0 < z1) = true := by simpa using hp
                    rw [if_pos hp] at hls
                    have HL := hid hls
                    clear hls hdk
                    go_wp2_with fail
                    go_roundw
                    case rel => exact ⟨2, by omega, by go_num, by rw [HL.out], by trivial⟩
                    case measure => simp [intOf]
                  · have hdp : decide (0 < z1) = false := by simpa using hp
                    rw [if_neg hp] at hls
                    have HL := hid hls
                    clear hls hdk
                    go_wp2_with fail
                    go_roundw
                    case rel => exact ⟨2, by omega, by go_num, by rw [HL.out], by trivial⟩
                    case measure => simp [intOf]
                · have hdk : [z0, z1, z2, z3, z4, z5].getD 2 0 = z2 := rfl
                  have hix := index_2 z0 z1 z2 z3 z4 z5
                  rw [hdk] at hls
                  generalize leastOf 7000 ([z0, z1, z2, z3, z4, z5].take 2) = lk at hls ⊢
                  by_cases hp : 0 < z2
                  · have hdp : decide (0 < z2) = true := by simpa using hp
                    rw [if_pos hp] at hls
                    have HL := hid hls
                    clear hls hdk
                    go_wp2_with fail
                    go_roundw
                    case rel => exact ⟨3, by omega, by go_num, by rw [HL.out], by trivial⟩
                    case measure => simp [intOf]
                  · have hdp : decide (0 < z2) = false := by simpa using hp
                    rw [if_neg hp] at hls
                    have HL := hid hls
                    clear hls hdk
                    go_wp2_with fail
                    go_roundw
                    case rel => exact ⟨3, by omega, by go_num, by rw [HL.out], by trivial⟩
                    case measure => simp [intOf]
                · have hdk : [z0, z1, z2, z3, z4, z5].getD 3 0 = z3 := rfl
                  have hix := index_3 z0 z1 z2 z3 z4 z5
                  rw [hdk] at hls
                  generalize leastOf 7000 ([z0, z1, z2, z3, z4, z5].take 3) = lk at hls ⊢
                  by_cases hp : 0 < z3
                  · have hdp : decide (0 < z3) = true := by simpa using hp
                    rw [if_pos hp] at hls
                    have HL := hid hls
                    clear hls hdk
                    go_wp2_with fail
                    go_roundw
                    case rel => exact ⟨4, by omega, by go_num, by rw [HL.out], by trivial⟩
                    case measure => simp [intOf]
                  · have hdp : decide (0 < z3) = false := by simpa using hp
                    rw [if_neg hp] at hls
                    have HL := hid hls
                    clear hls hdk
                    go_wp2_with fail
                    go_roundw
                    case rel => exact ⟨4, by omega, by go_num, by rw [HL.out], by trivial⟩
                    case measure => simp [intOf]
                · have hdk : [z0, z1, z2, z3, z4, z5].getD 4 0 = z4 := rfl
                  have hix := index_4 z0 z1 z2 z3 z4 z5
                  rw [hdk] at hls
                  generalize leastOf 7000 ([z0, z1, z2, z3, z4, z5].take 4) = lk at hls ⊢
                  by_cases hp : 0 < z4
                  · have hdp : decide (0 < z4) = true := by simpa using hp
                    rw [if_pos hp] at hls
                    have HL := hid hls
                    clear hls hdk
                    go_wp2_with fail
                    go_roundw
                    case rel => exact ⟨5, by omega, by go_num, by rw [HL.out], by trivial⟩
                    case measure => simp [intOf]
                  · have hdp : decide (0 < z4) = false := by simpa using hp
                    rw [if_neg hp] at hls
                    have HL := hid hls
                    clear hls hdk
                    go_wp2_with fail
                    go_roundw
                    case rel => exact ⟨5, by omega, by go_num, by rw [HL.out], by trivial⟩
                    case measure => simp [intOf]
                · have hdk : [z0, z1, z2, z3, z4, z5].getD 5 0 = z5 := rfl
                  have hix := index_5 z0 z1 z2 z3 z4 z5
                  rw [hdk] at hls
                  generalize leastOf 7000 ([z0, z1, z2, z3, z4, z5].take 5) = lk at hls ⊢
                  by_cases hp : 0 < z5
                  · have hdp : decide (0 < z5) = true := by simpa using hp
                    rw [if_pos hp] at hls
                    have HL := hid hls
                    clear hls hdk
                    go_wp2_with fail
                    go_roundw
                    case rel => exact ⟨6, by omega, by go_num, by rw [HL.out], by trivial⟩
                    case measure => simp [intOf]
                  · have hdp : decide (0 < z5) = false := by simpa using hp
                    rw [if_neg hp] at hls
                    have HL := hid hls
                    clear hls hdk
                    go_wp2_with fail
                    go_roundw
                    case rel => exact ⟨6, by omega, by go_num, by rw [HL.out], by trivial⟩
                    case measure => simp [intOf]
              · obtain rfl : k = 6 := by omega
                have htk : [z0, z1, z2, z3, z4, z5].take 6 = [z0, z1, z2, z3, z4, z5] := rfl
                rw [htk]
                obtain ⟨lk, hlk⟩ : ∃ lk, lk = leastOf 7000 [z0, z1, z2, z3, z4, z5] := ⟨_, rfl⟩
                rw [← hlk]
                have HLK := hid hlk
                clear hlk htk
                go_upto_region 28 with fail
                have hS0 := And.intro (cell_of_row wr _ 0 _ _ _ HH2.out) (And.intro (cell_of_row wr _ 1 _ _ _ HH2.out) (And.intro (cell_of_row wr _ 2 _ _ _ HH2.out) (And.intro (cell_of_row wr _ 3 _ _ _ HH2.out) (And.intro (cell_of_row wr _ 4 _ _ _ HH2.out) (And.intro (cell_of_row wr _ 5 _ _ _ HH2.out) (And.intro (cell_of_row wr _ 6 _ _ _ HH2.out) (And.intro (cell_of_row wr _ 7 _ _ _ HH2.out) (And.intro (cell_of_row wr _ 8 _ _ _ HH2.out)
                  (And.intro (cell_of_row wr _ 0 _ _ _ HH3.out) (And.intro (cell_of_row wr _ 1 _ _ _ HH3.out) (And.intro (cell_of_row wr _ 2 _ _ _ HH3.out) (And.intro (cell_of_row wr _ 3 _ _ _ HH3.out) (And.intro (cell_of_row wr _ 4 _ _ _ HH3.out) (And.intro (cell_of_row wr _ 5 _ _ _ HH3.out) (And.intro (cell_of_row wr _ 6 _ _ _ HH3.out) (And.intro (cell_of_row wr _ 7 _ _ _ HH3.out) (cell_of_row wr _ 8 _ _ _ HH3.out)))))))))))))))))
                have hS1 : wr.cell? ⟨S + 1, 0, none⟩ = some (.int .u64 6000) ∧ wr.cell? ⟨S + 1, 1, none⟩ = some (.int .i64 7) ∧ wr.cell? ⟨S + 1, 2, none⟩ = some (.int .i64 0) ∧ wr.cell? ⟨S + 1, 3, none⟩ = some (.int .i64 0) ∧ wr.cell? ⟨S + 1, 4, none⟩ = some (.int .i64 0) ∧ wr.cell? ⟨S + 1, 5, none⟩ = some (.string ⟨#[]⟩) ∧ wr.cell? ⟨S + 1, 6, none⟩ = some (.string ⟨#[]⟩) ∧ wr.cell? ⟨S + 1, 7, none⟩ = some (.string ⟨#[]⟩) ∧ wr.cell? ⟨S + 1, 8, none⟩ = some (.slice (some ⟨S, 0, none⟩) 6 6) ∧ wr.cell? ⟨S + 1 + 1, 0, none⟩ = some (.int .u64 7000) ∧ wr.cell? ⟨S + 1 + 1, 1, none⟩ = some (.int .i64 7) ∧ wr.cell? ⟨S + 1 + 1, 2, none⟩ = some (.int .i64 0) ∧ wr.cell? ⟨S + 1 + 1, 3, none⟩ = some (.int .i64 0) ∧ wr.cell? ⟨S + 1 + 1, 4, none⟩ = some (.int .i64 0) ∧ wr.cell? ⟨S + 1 + 1, 5, none⟩ = some (.string ⟨#[]⟩) ∧ wr.cell? ⟨S + 1 + 1, 6, none⟩ = some (.string ⟨#[]⟩) ∧ wr.cell? ⟨S + 1 + 1, 7, none⟩ = some (.string ⟨#[]⟩) ∧ wr.cell? ⟨S + 1 + 1, 8, none⟩ = some (.slice (some ⟨D, 0, none⟩) 6 6) := hS0
                clear hS0
                obtain ⟨A6, c6, hv6, hA6, _, hsl⟩ := slice_all HO3.out.own
                injection hv6 with hv6 _ hc6
                subst hv6 hc6
                have hff := field_from
                have HS1 := hid hS1
                have HA6 := hid hA6
                clear hS1 hA6
                go_region_held3 (fun w' => w'.cell? ⟨S + 1, 0, none⟩ = some (.int .u64 6000) ∧ w'.cell? ⟨S + 1, 1, none⟩ = some (.int .i64 7) ∧ w'.cell? ⟨S + 1, 2, none⟩ = some (.int .i64 0) ∧ w'.cell? ⟨S + 1, 3, none⟩ = some (.int .i64 0) ∧ w'.cell? ⟨S + 1, 4, none⟩ = some (.int .i64 0) ∧ w'.cell? ⟨S + 1, 5, none⟩ = some (.string ⟨#[]⟩) ∧ w'.cell? ⟨S + 1, 6, none⟩ = some (.string ⟨#[]⟩) ∧ w'.cell? ⟨S + 1, 7, none⟩ = some (.string ⟨#[]⟩) ∧ w'.cell? ⟨S + 1, 8, none⟩ = some (.slice (some ⟨S, 0, none⟩) 6 6) ∧ w'.cell? ⟨S + 1 + 1, 0, none⟩ = some (.int .u64 7000) ∧ w'.cell? ⟨S + 1 + 1, 1, none⟩ = some (.int .i64 7) ∧ w'.cell? ⟨S + 1 + 1, 2, none⟩ = some (.int .i64 0) ∧ w'.cell? ⟨S + 1 + 1, 3, none⟩ = some (.int .i64 0) ∧ w'.cell? ⟨S + 1 + 1, 4, none⟩ = some (.int .i64 0) ∧ w'.cell? ⟨S + 1 + 1, 5, none⟩ = some (.string ⟨#[]⟩) ∧ w'.cell? ⟨S + 1 + 1, 6, none⟩ = some (.string ⟨#[]⟩) ∧ w'.cell? ⟨S + 1 + 1, 7, none⟩ = some (.string ⟨#[]⟩) ∧ w'.cell? ⟨S + 1 + 1, 8, none⟩ = some (.slice (some ⟨D, 0, none⟩) 6 6))
                  (first
                    | exact hS8
                    | exact hS7
                    | exact old_keep (B_alloc (Below.refl _ _) _) hS6
                    | exact hS6
                    | exact hS5
                    | exact old_keep (w := wr) (B_alloc (Below.refl _ _) _).drew HS1.out
                    | exact HS1.out)
                  (first
                    | (refine step_append_grows _ (by rfl) _ _ _ (by rfl) 40 i0 _ 9 112 Try.underlying25 hi hz0 hz1 hz2 rfl (by omega) A5 j j (rowOf own2) (by rfl) (fun h => ⟨HA6.out h, HA6.out h⟩) (by rw [rowOf_length, HO3.out.len]) (own_at hO6.own) ⟨w6.heap.size, 0, none⟩ 2 2 [.int .u64 7000, .int .i64 7, .int .i64 0, .int .i64 0, .int .i64 0, .string ⟨#[]⟩, .string ⟨#[]⟩, .string ⟨#[]⟩, .slice (some ⟨D, 0, none⟩) 6 6, .int .u64 6000, .int .i64 7, .int .i64 0, .int .i64 0, .int .i64 0, .string ⟨#[]⟩, .string ⟨#[]⟩, .string ⟨#[]⟩, .slice (some ⟨S, 0, none⟩) 6 6] (by rfl) (by rfl) (World.news_of_block (heap_alloc_new w6 _)) (by simp [Value.oneCell']) (by omega) (by unfold maxLen; omega) (by omega) ?_
                       intro v7 w7 hown7 hgr7
                       have hb7 := B_call (B_alloc (Below.refl _ _) (.cells #[.int .u64 7000, .int .i64 7, .int .i64 0, .int .i64 0, .int .i64 0, .string ⟨#[]⟩, .string ⟨#[]⟩, .string ⟨#[]⟩, .slice (some ⟨D, 0, none⟩) 6 6, .int .u64 6000, .int .i64 7, .int .i64 0, .int .i64 0, .int .i64 0, .string ⟨#[]⟩, .string ⟨#[]⟩, .string ⟨#[]⟩, .slice (some ⟨S, 0, none⟩) 6 6] 40)) (below_grown hgr7)
                       have hE7 := (HO3.out.below hb6').two hb7 (e1 := ⟨7000, 7, 0, 0, 0, ⟨#[]⟩, ⟨#[]⟩, ⟨#[]⟩, .slice (some ⟨D, 0, none⟩) 6 6, [z0, z1, z2, z3, z4, z5]⟩) (e2 := ⟨6000, 7, 0, 0, 0, ⟨#[]⟩, ⟨#[]⟩, ⟨#[]⟩, .slice (some ⟨S, 0, none⟩) 6 6, [1, 1, 1, 1, 1, 1]⟩) (HDL.out.below hb6') (HDO.out.below hb6') hown7
                       obtain ⟨A8, c8, rfl⟩ := own_slice hown7
                       have hS7 := old_keep hb7 hS6)
                    | (refine step_append_grows _ (by rfl) _ _ _ (by rfl) 40 i0 _ 9 112 Try.underlying25 hi hz0 hz1 hz2 rfl (by omega) A5 j j (rowOf own2) (by rfl) (fun h => ⟨HA6.out h, HA6.out h⟩) (by rw [rowOf_length, HO3.out.len]) (own_at (HO3.out.below (B_alloc (Below.refl _ _) _)).own) ⟨wr.heap.size, 0, none⟩ 2 2 [.int .u64 6000, .int .i64 7, .int .i64 0, .int .i64 0, .int .i64 0, .string ⟨#[]⟩, .string ⟨#[]⟩, .string ⟨#[]⟩, .slice (some ⟨S, 0, none⟩) 6 6, .int .u64 7000, .int .i64 7, .int .i64 0, .int .i64 0, .int .i64 0, .string ⟨#[]⟩, .string ⟨#[]⟩, .string ⟨#[]⟩, .slice (some ⟨D, 0, none⟩) 6 6] (by rfl) (by rfl) (World.news_of_block (heap_alloc_new wr _)) (by simp [Value.oneCell']) (by omega) (by unfold maxLen; omega) (by omega) ?_
                       intro v5 w5 hown5 hgr5
                       have hb5 := B_call (B_alloc (Below.refl wr.heap.size wr) (.cells #[.int .u64 6000, .int .i64 7, .int .i64 0, .int .i64 0, .int .i64 0, .string ⟨#[]⟩, .string ⟨#[]⟩, .string ⟨#[]⟩, .slice (some ⟨S, 0, none⟩) 6 6, .int .u64 7000, .int .i64 7, .int .i64 0, .int .i64 0, .int .i64 0, .string ⟨#[]⟩, .string ⟨#[]⟩, .string ⟨#[]⟩, .slice (some ⟨D, 0, none⟩) 6 6] 40)).drew (below_grown hgr5)
                       have hE5 := HO3.out.two hb5 (e1 := ⟨6000, 7, 0, 0, 0, ⟨#[]⟩, ⟨#[]⟩, ⟨#[]⟩, .slice (some ⟨S, 0, none⟩) 6 6, [1, 1, 1, 1, 1, 1]⟩) (e2 := ⟨7000, 7, 0, 0, 0, ⟨#[]⟩, ⟨#[]⟩, ⟨#[]⟩, .slice (some ⟨D, 0, none⟩) 6 6, [z0, z1, z2, z3, z4, z5]⟩) HDO.out HDL.out hown5
                       obtain ⟨A7, c7, rfl⟩ := own_slice hown5
                       have hS5 := old_keep hb5 HS1.out)
                    | (go_at_call 12
                       (with_reducible refine (analyse_at _ _ _ _ _ hE7.len (by omega) hE7.rows).mono ?_)
                       rintro r w8 ⟨⟨p2, B2, c2', hp2, rfl, _⟩, hb8⟩
                       have hfr2 : p2.fr = 1 := by rw [hp2.out]; exact marks_last _ ⟨6000, 7, 0, 0, 0, ⟨#[]⟩, ⟨#[]⟩, ⟨#[]⟩, .slice (some ⟨S, 0, none⟩) 6 6, [1, 1, 1, 1, 1, 1]⟩ rfl
                       have hS8 := old_keep hb8 hS7
                       rw [hfr2])
                    | (go_at_call 12
                       (with_reducible refine (analyse_at _ _ _ _ _ hE5.len (by omega) hE5.rows).mono ?_)
                       rintro r w6 ⟨⟨p1, B1, c1', hp1, rfl, _⟩, hb6⟩
                       have hfr1 : p1.fr = lk := by rw [hp1.out, HLK.out]; exact marks_last _ ⟨7000, 7, 0, 0, 0, ⟨#[]⟩, ⟨#[]⟩, ⟨#[]⟩, .slice (some ⟨D, 0, none⟩) 6 6, [z0, z1, z2, z3, z4, z5]⟩ rfl
                       have hb6' := B_call hb5 hb6
                       have hS6 := old_keep hb6 hS5
                       have hO6 := (HO3.out.below hb6').below (B_alloc (Below.refl _ _) (.cells #[.int .u64 7000, .int .i64 7, .int .i64 0, .int .i64 0, .int .i64 0, .string ⟨#[]⟩, .string ⟨#[]⟩, .string ⟨#[]⟩, .slice (some ⟨D, 0, none⟩) 6 6, .int .u64 6000, .int .i64 7, .int .i64 0, .int .i64 0, .int .i64 0, .string ⟨#[]⟩, .string ⟨#[]⟩, .string ⟨#[]⟩, .slice (some ⟨S, 0, none⟩) 6 6] 40))
                       rw [hfr1]))
                have hbE := B_call HBF.out (B_call (B_call hb6' hb7) hb8)
                have HBE := hid hbE
                go_wp2_with fail
                go_ret
                exact ⟨rfl, HBE.out⟩

end Go.Proofs.Ytcolblmhopjgpaa
