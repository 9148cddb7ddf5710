/-
  Analyse's and entries' answers, as the laws use them; the example.
-/
import Derived.Test.YtcolblmhopjgpaaRst8
namespace Go.Proofs.Ytcolblmhopjgpaa
open Go.RowKit

/-- the plan that Analyse hands back -/
def anal (es : List Ent) : Pln := ⟨(planOf es).fr, fun i => if i = 0 then ⟨[], false⟩ else (planOf es).s i⟩
/-- a list of changes, where it lies -/
def ChgAt (w : World) (A : Option Addr) (l : List Chg) : Prop := ∀ j (h : j < l.length), ∃ g, A = some ⟨g, 0, none⟩ ∧ w.cell? ⟨g, j * 3, none⟩ = some (.int .i64 l[j].pg) ∧ w.cell? ⟨g, j * 3 + 1, none⟩ = some (.int .i64 l[j].sl) ∧ w.cell? ⟨g, j * 3 + 2, none⟩ = some (.string l[j].bf)
theorem ChgAt.below {w w' : World} {A : Option Addr} {l : List Chg} (h : ChgAt w A l) (b : Below w.heap.size w w') : ChgAt w' A l := by
  intro j hj
  obtain ⟨g, h1, h2, h3, h4⟩ := h j hj
  exact ⟨g, h1, cell_below b h2, cell_below b h3, cell_below b h4⟩
theorem chgs_at (l : List Chg) : ∀ (i : Nat) (h : i < l.length) (j : Nat), j < 3 → (chgs l)[i * 3 + j]? = (l[i]).cells[j]? := by
  induction l with
  | nil => intro i h; simp at h
  | cons e es ih =>
    intro i h j hj
    show (Chg.cells e ++ chgs es)[_]? = _
    cases i with
    | zero => rw [List.getElem?_append_left (by simp [Chg.cells]; omega)]; simp
    | succ i =>
      rw [List.getElem?_append_right (by simp [Chg.cells]; omega)]
      have := ih i (by simpa using h) j hj
      rw [show (i + 1) * 3 + j - (Chg.cells e).length = i * 3 + j by simp [Chg.cells]; omega, this]
      rfl
theorem ChgAt.of_own {w : World} {B : Nat} {v : Value} {l : List Chg} (h : w.ownsRow B 42 3 v l.length (chgs l)) : ∃ A c, v = .slice A l.length c ∧ ChgAt w A l := by
  obtain ⟨A, c, rfl⟩ := own_slice h
  refine ⟨A, c, rfl, fun i hi => ?_⟩
  rcases h.2 with ⟨_, h0⟩ | ⟨g, cap, cur, hv, _⟩
  · omega
  · injection hv with hA _ hc
    subst hA hc
    have := fun j (hj : j < 3) => (h.cellAt (i * 3 + j) (by omega)).trans (chgs_at l i hi j hj)
    exact ⟨g, rfl, this 0 (by omega), this 1 (by omega), this 2 (by omega)⟩

theorem four {P : Nat → Option Addr → Nat → Prop} (h : ∀ i, i < 4 → ∃ A c, P i A c) : ∃ (A : Nat → Option Addr) (c : Nat → Nat), ∀ i, i < 4 → P i (A i) (c i) := by
  obtain ⟨A0, c0, h0⟩ := h 0 (by omega)
  obtain ⟨A1, c1, h1⟩ := h 1 (by omega)
  obtain ⟨A2, c2, h2⟩ := h 2 (by omega)
  obtain ⟨A3, c3, h3⟩ := h 3 (by omega)
  refine ⟨fun i => match i with | 0 => A0 | 1 => A1 | 2 => A2 | _ => A3, fun i => match i with | 0 => c0 | 1 => c1 | 2 => c2 | _ => c3, fun i hi => ?_⟩
  match i, hi with
  | 0, _ => exact h0
  | 1, _ => exact h1
  | 2, _ => exact h2
  | 3, _ => exact h3

def pvals (p : Pln) (A : Nat → Option Addr) (c : Nat → Nat) : Array Value :=
  #[.int .u64 p.fr, .slice (A 0) (p.s 0).l.length (c 0), .slice (A 1) (p.s 1).l.length (c 1), .slice (A 2) (p.s 2).l.length (c 2), .slice (A 3) (p.s 3).l.length (c 3), .bool (p.s 0).o, .bool (p.s 1).o, .bool (p.s 2).o, .bool (p.s 3).o]
theorem plan_cell {w : World} {P : Nat} {p : Pln} {A : Nat → Option Addr} {c : Nat → Nat} (h : w.heap[P]? = some (.cells (pvals p A c) 32 (0, 0))) {i : Nat} (hi : i < 4) : w.cell? ⟨P, 1 + i, none⟩ = some (.slice (A i) (p.s i).l.length (c i)) := by
  rw [cell_of_row w P _ _ _ _ h]
  match i, hi with
  | 0, _ => rfl
  | 1, _ => rfl
  | 2, _ => rfl
  | 3, _ => rfl
theorem plan_open {w : World} {P : Nat} {p : Pln} {A : Nat → Option Addr} {c : Nat → Nat} (h : w.heap[P]? = some (.cells (pvals p A c) 32 (0, 0))) {i : Nat} (hi : i < 4) : w.cell? ⟨P, 5 + i, none⟩ = some (.bool (p.s i).o) := by
  rw [cell_of_row w P _ _ _ _ h]
  match i, hi with
  | 0, _ => rfl
  | 1, _ => rfl
  | 2, _ => rfl
  | 3, _ => rfl
theorem plan_from {w : World} {P : Nat} {p : Pln} {A : Nat → Option Addr} {c : Nat → Nat} (h : w.heap[P]? = some (.cells (pvals p A c) 32 (0, 0))) : w.cell? ⟨P, 0, none⟩ = some (.int .u64 p.fr) := cell_of_row w P _ _ _ _ h

/-- Analyse -/
theorem analyse_res (A : Option Addr) (n cap : Nat) (es : List Ent) (w : World) (hn : es.length = n) (hlen : n ≤ 1000) (hrow : RowsAt w A es) :
    Calls Try.prog 12 #[.slice A n cap] w fun r w' => (∃ (B : Nat → Option Addr) (c : Nat → Nat), r = .returned (.agg (pvals (anal es) B c)) ∧ ∀ i, i < 4 → ChgAt w' (B i) ((anal es).s i).l) ∧ Below w.heap.size w w' := by
  refine (analyse_any A n cap es w hn hlen hrow).mono ?_
  rintro r w' ⟨⟨V, rfl, hV⟩, hb⟩
  refine ⟨?_, hb⟩
  have : ∀ i, i < 4 → ∃ A c, (if i = 0 then .slice none 0 0 else V i) = Value.slice A ((anal es).s i).l.length c ∧ ChgAt w' A ((anal es).s i).l := by
    intro i hi
    by_cases h0 : i = 0
    · subst h0
      exact ⟨none, 0, rfl, fun j hj => by simp [anal] at hj⟩
    · rw [if_neg h0]
      have hs : (anal es).s i = (planOf es).s i := if_neg h0
      rw [hs]
      exact ChgAt.of_own (hV i (by omega) hi)
  obtain ⟨B, c, h⟩ := four this
  refine ⟨B, c, ?_, fun i hi => (h i hi).2⟩
  have e : ∀ i, i < 4 → (fun i => if i = 0 then Value.slice none 0 0 else V i) i = Value.slice (B i) ((anal es).s i).l.length (c i) := fun i hi => (h i hi).1
  unfold planCells pvals
  rw [e 0 (by omega), e 1 (by omega), e 2 (by omega), e 3 (by omega)]
  rfl

/-- as a walk takes it -/
theorem analyse_at (A : Option Addr) (n cap : Nat) (es : List Ent) (w : World) (hn : es.length = n) (hlen : n ≤ 1000) (hrow : RowsAt w A es) :
    Calls Try.prog 12 #[.slice A n cap] w fun r w' => (∃ (p : Pln) (B : Nat → Option Addr) (c : Nat → Nat), Hid (p = anal es) ∧
      r = .returned (.agg #[.int .u64 p.fr, .slice (B 0) (p.s 0).l.length (c 0), .slice (B 1) (p.s 1).l.length (c 1), .slice (B 2) (p.s 2).l.length (c 2), .slice (B 3) (p.s 3).l.length (c 3), .bool (p.s 0).o, .bool (p.s 1).o, .bool (p.s 2).o, .bool (p.s 3).o]) ∧
      Hid (∀ i, i < 4 → ChgAt w' (B i) (p.s i).l)) ∧ Below w.heap.size w w' := by
  refine (analyse_res A n cap es w hn hlen hrow).mono ?_
  rintro r w' ⟨⟨B, c, rfl, h⟩, hb⟩
  exact ⟨⟨anal es, B, c, hid rfl, rfl, hid h⟩, hb⟩
theorem plan_made (w : World) (p : Pln) (A : Nat → Option Addr) (c : Nat → Nat) :
    (w.alloc (.cells #[.int .u64 p.fr, .slice (A 0) (p.s 0).l.length (c 0), .slice (A 1) (p.s 1).l.length (c 1), .slice (A 2) (p.s 2).l.length (c 2), .slice (A 3) (p.s 3).l.length (c 3), .bool (p.s 0).o, .bool (p.s 1).o, .bool (p.s 2).o, .bool (p.s 3).o] 32)).heap[w.heap.size]? = some (.cells (pvals p A c) 32 (0, 0)) := heap_alloc_new w _

/-- a plan in a variable -/
structure PlanIn (w : World) (P : Nat) (p : Pln) (A : Nat → Option Addr) (c : Nat → Nat) : Prop where
  blk : w.heap[P]? = some (.cells (pvals p A c) 32 (0, 0))
  chg : ∀ i, i < 4 → ChgAt w (A i) (p.s i).l
theorem PlanIn.below {w w' : World} {P : Nat} {p : Pln} {A : Nat → Option Addr} {c : Nat → Nat} (h : PlanIn w P p A c) (b : Below w.heap.size w w') : PlanIn w' P p A c :=
  ⟨blk_keep b h.blk, fun i hi => (h.chg i hi).below b⟩
theorem PlanIn.made {w : World} {p : Pln} {A : Nat → Option Addr} {c : Nat → Nat} (h : ∀ i, i < 4 → ChgAt w (A i) (p.s i).l) :
    PlanIn (w.alloc (.cells #[.int .u64 p.fr, .slice (A 0) (p.s 0).l.length (c 0), .slice (A 1) (p.s 1).l.length (c 1), .slice (A 2) (p.s 2).l.length (c 2), .slice (A 3) (p.s 3).l.length (c 3), .bool (p.s 0).o, .bool (p.s 1).o, .bool (p.s 2).o, .bool (p.s 3).o] 32)) w.heap.size p A c :=
  ⟨plan_made w p A c, fun i hi => (h i hi).below (B_alloc (Below.refl _ _) _)⟩

/-- the seeds that came in -/
def SeedsIn (w : World) (A : Option Addr) (len : Nat) : Prop := len = 0 ∨ ∃ b off, A = some ⟨b, off, none⟩ ∧ b < w.heap.size ∧ Seeds w b off len
theorem SeedsIn.below {w w' : World} {A : Option Addr} {len : Nat} (h : SeedsIn w A len) (k : Below w.heap.size w w') : SeedsIn w' A len := by
  rcases h with h | ⟨b, off, h1, h2, h3⟩
  · exact .inl h
  · refine .inr ⟨b, off, h1, Nat.lt_of_lt_of_le h2 k.size, fun i hi => ?_⟩
    obtain ⟨s, h4, h5⟩ := h3 i hi
    exact ⟨s, h4.below k, h5.below k⟩
theorem light_res (A : Option Addr) (len cap : Nat) (w : World) (hlen : len ≤ 9223372036854775807) (hc : SeedsIn w A len) :
    Calls Try.prog 10 #[.slice A len cap] w fun e w' => (∃ r : Bool, e = .returned (.bool r) ∧ (r = true → len ≤ 100)) ∧ Below w.heap.size w w' := by
  rcases hc with rfl | ⟨b, off, rfl, _, h⟩
  · refine (light_none A cap w).mono ?_
    rintro e w' ⟨⟨r, rfl⟩, hb⟩
    exact ⟨⟨r, rfl, fun _ => by omega⟩, hb⟩
  · exact light_any b off len cap w hlen h
theorem entries_res (A : Option Addr) (len cap : Nat) (w : World) (hlen : len ≤ 100) (hc : SeedsIn w A len) :
    Calls Try.prog 11 #[.slice A len cap] w fun r w' => (∃ (A1 : Option Addr) (c1 : Nat) (es : List Ent), r = .returned (.slice A1 es.length c1) ∧ es.length ≤ 100 ∧ w'.ownsRow w.heap.size 40 9 (.slice A1 es.length c1) es.length (rowOf es) ∧
      RowsAt w' A1 es ∧ ∀ e ∈ es, 0 ≤ e.tx ∧ e.tx < 8) ∧ Below w.heap.size w w' := by
  rcases hc with rfl | ⟨b, off, rfl, hlt, h⟩
  · refine (entries_none A cap w).mono ?_
    rintro r w' ⟨rfl, hb⟩
    exact ⟨⟨none, 0, [], rfl, by simp, World.ownsRow_nil _ _ _ _, fun i hi => by simp at hi, fun e he => by cases he⟩, hb⟩
  · refine (entries_any b off len cap w (fun _ => hlt) hlen h).mono ?_
    rintro r w' ⟨⟨v, es, rfl, hl, hown, hes⟩, hb⟩
    obtain ⟨A1, c1, rfl⟩ := own_slice hown
    subst hl
    exact ⟨⟨A1, c1, es, rfl, hlen, hown, RowsAt.of_own hown rfl fun e he => (hes e he).1, fun e he => (hes e he).2⟩, hb⟩

theorem size40 : (Try.prog.info? 40).map (·.size) = some 9 := by kernel_rfl
set_option maxRecDepth 100000 in
theorem fit1_any (kd sl : Int) (w : World) : Calls Try.prog 14 #[.int .i64 kd, .int .i64 sl] w fun r w' =>
    r = .returned (.agg #[.int .u64 9, .int .i64 kd, .int .i64 1, .int .i64 0, .int .i64 sl, .string ⟨#[]⟩, .string ⟨#[]⟩, .string ⟨#[]⟩, .slice none 0 0]) ∧ Below w.heap.size w w' := by
  go_enter Try.func14, Try.ntmps14
  go_wp2
  refine bodyPost_ret (results_cell_row rfl _ _ w.heap.size 40 _ _ _ rfl (heap_alloc_new w _) Try.underlying40 rfl size40) rfl ?_
  exact ⟨rfl, B_alloc (Below.refl _ _) _⟩

def fitE (kd sl : Int) : Ent := ⟨9, kd, 1, 0, sl, ⟨#[]⟩, ⟨#[]⟩, ⟨#[]⟩, .slice none 0 0, []⟩
theorem fit_plan : ((anal [fitE 3 2, fitE 3 3, fitE 4 3]).s 1) = ⟨[⟨0, 2, ⟨#[]⟩⟩], true⟩ := by rfl
theorem RowsAt.made (w : World) (t : TypeId) (es : List Ent) (hd : ∀ e ∈ es, e.dv = .slice none 0 0 ∧ e.dl = []) : RowsAt (w.alloc (.cells (rowOf es).toArray t)) (some ⟨w.heap.size, 0, none⟩) es := by
  intro i hi
  have hc := fun j (hj : j < 9) => (cell_of_row (w.alloc (.cells (rowOf es).toArray t)) w.heap.size (i * 9 + j) _ _ _ (heap_alloc_new w _)).trans ((List.getElem?_toArray ..).trans (rowOf_at es i hi j hj))
  refine ⟨w.heap.size, 0, rfl, ?_, .inl (hd _ (List.getElem_mem hi))⟩
  rw [Nat.zero_add]
  exact ⟨hc 0 (by omega), hc 1 (by omega), hc 2 (by omega), hc 3 (by omega), hc 4 (by omega), hc 5 (by omega), hc 6 (by omega), hc 7 (by omega), hc 8 (by omega)⟩

set_option maxRecDepth 100000 in
set_option maxHeartbeats 1600000 in
theorem fit_any (w : World) : Calls Try.prog 9 #[] w fun r w' => r = .returned (.bool true) ∧ Below w.heap.size w w' := by
  go_enter Try.func9, Try.ntmps9
  go_upto_region 3 with (first
    | (go_at_call 14; (with_reducible refine (fit1_any _ _ _).mono ?_); rintro r wa ⟨rfl, hba⟩)
    | (go_at_call 12; (refine (analyse_at _ 3 3 [fitE 3 2, fitE 3 3, fitE 4 3] _ rfl (by omega) (RowsAt.made _ 40 [fitE 3 2, fitE 3 3, fitE 4 3] (by simp [fitE]))).mono ?_); rintro r wb ⟨⟨p, B, c, hp, rfl, hB⟩, hbb⟩))
  have h1 : p.s 1 = ⟨[⟨0, 2, ⟨#[]⟩⟩], true⟩ := by rw [hp.out]; exact fit_plan
  have hin := PlanIn.made (c := c) hB.out
  have hbF := B_alloc (B_call (B_alloc (B_call (B_call (B_call (Below.refl w.heap.size w) (by assumption)) (by assumption)) (by assumption)) _) hbb) (.cells #[.int .u64 p.fr, .slice (B 0) (p.s 0).l.length (c 0), .slice (B 1) (p.s 1).l.length (c 1), .slice (B 2) (p.s 2).l.length (c 2), .slice (B 3) (p.s 3).l.length (c 3), .bool (p.s 0).o, .bool (p.s 1).o, .bool (p.s 2).o, .bool (p.s 3).o] 32)
  generalize wb.alloc (.cells #[.int .u64 p.fr, .slice (B 0) (p.s 0).l.length (c 0), .slice (B 1) (p.s 1).l.length (c 1), .slice (B 2) (p.s 2).l.length (c 2), .slice (B 3) (p.s 3).l.length (c 3), .bool (p.s 0).o, .bool (p.s 1).o, .bool (p.s 2).o, .bool (p.s 3).o] 32) = W2 at hin hbF ⊢
  obtain ⟨P, hP⟩ : ∃ P, P = wb.heap.size := ⟨_, rfl⟩
  rw [← hP] at hin ⊢
  have hBc := hin.chg 1 (by omega)
  have e1 := plan_open hin.blk (i := 1) (by omega)
  have e2 := plan_cell hin.blk (i := 1) (by omega)
  rw [h1] at hBc e1 e2
  obtain ⟨g, hg, _, e3, _⟩ := hBc 0 (by decide)
  rw [hg] at e2
  simp only [List.length_cons, List.length_nil, Nat.reduceAdd, Nat.zero_mul, List.getElem_cons_zero] at e1 e2 e3
  have HBF := hid hbF
  clear hP h1 hp hB hBc hbb hba hbF hin
  go_wp2
  go_ret
  exact ⟨rfl, HBF.out⟩

end Go.Proofs.Ytcolblmhopjgpaa
