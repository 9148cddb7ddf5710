import Derived.Deep.RegionHeld3
import Derived.Laws.BitsLemmas
import Derived.OrdersHeld
import Derived.RowKit
set_option maxRecDepth 100000
set_option maxHeartbeats 6400000
set_option linter.unusedVariables false
set_option linter.unusedSimpArgs false
-- PRINTED BY print.sh 35421559b90ae4d0a3588c463048766b98c2df88dd9212a6774a882060cdf62d: not written by this session
/-
  PRINTED WORDS, second file: A REGION THAT DRAWS ITS ORDER, WALKED BY HAND, where its last store writes what its own loads read ('x.f = append(x.f, f(i))'). Plain theorems; no macro, no elab. A claim may hold it (turn the namespace's name).
  A load may be taken first in every world that meets S; behind the operations of ds nothing is shown; sound because each of ds waits for what is taken (Region.gd). The kernel checks it.
  By an AI agent of Go's test side, Mon Nov 16 2026. No person has read it.
-/
namespace Go.Proofs.YtechnoogjhohfaaGreatW.PrintLast

section
variable {P : Program} {ops : Array Oper} {Q : Exit -> Act -> World -> Prop} {md : Region.Mode} {S : World -> Prop} {ds : List Nat}

/-- Operation d waits for operation i, by a chain of at most 'fuel' edges. -/
def Region.ci (h : Region.Mode) (ops : Array Oper) (i : Nat) : Nat -> Nat -> Bool
  | 0, _ => false
  | fuel + 1, d => match ops[d]? with
    | some o => o.after.any fun e => Region.binds h e && (e.on == i || Region.ci h ops i fuel e.on)
    | none => false

/-- What is listed is closed under the edges. -/
def Region.e7 (u : Region.Mode) (ops : Array Oper) (h : Array Bool) : Bool :=
  (List.range ops.size).all fun j => !h.getD j false || match ops[j]? with
    | some o => o.after.all fun e => !Region.binds u e || h.getD e.on false
    | none => true

/-- Each of ds that has not come up yet waits for number i. -/
def Region.gd (u : Region.Mode) (ops : Array Oper) (h : Array Bool) (ds : List Nat) (i : Nat) : Bool :=
  ds.all fun d => h.getD d true || Region.ci u ops i ops.size d

def uY (z : Region.Mode) (ops : Array Oper) (h : Array Bool) : Prop :=
  ∀ j u, ops[j]? = some u -> h.getD j false = true -> ∀ e ∈ u.after, Region.binds z e = true -> h.getD e.on false = true

theorem Region.fp {D : Array Bool} (h : Region.e7 md ops D = true) : uY md ops D := by intro j U z O e L hb;have R : j < ops.size := (Array.getElem?_eq_some_iff.1 z).1;have u := List.all_eq_true.1 h j (List.mem_range.2 R);simp only [O, z, Bool.not_true, Bool.false_or] at u;have E := Array.all_eq_true_iff_forall_mem.1 u e L;simpa [hb] using E

theorem uY.set {u : Array Bool} {i : Nat} (h : uY md ops u) (R : i ∈ Region.ready md ops u) : uY md ops (u.setIfInBounds i true) := by
  obtain ⟨_, oi, U, O⟩ := mem_ready.1 R;intro j L D E e z hb;by_cases hij : i = j
  · subst hij
    have : L = oi := Option.some.inj (D.symm.trans U);subst this;exact getD_set_true (O e z hb)
  · rw [getD_set_ne false hij] at E
    exact getD_set_true (h j L D E e z hb)

theorem Region.du {D : Array Bool} {i : Nat} (E : uY md ops D) : ∀ (fuel d : Nat), Region.ci md ops i fuel d = true -> D.getD d false = true -> D.getD i false = true
  | 0, _, h, _ => by simp [Region.ci] at h
  | fuel + 1, d, h, hl => by
    unfold Region.ci at h;cases ho : ops[d]? with
    | none => rw [ho] at h; simp at h
    | some o =>
      rw [ho] at h;obtain ⟨e, O, u⟩ := Array.any_eq_true'.1 h;simp only [Bool.and_eq_true, Bool.or_eq_true, beq_iff_eq] at u;have L := E d o ho hl e O u.1;rcases u.2 with z | z
      · rw [<- z]; exact L
      · exact Region.du E fuel e.on z L

/-- What waits for i cannot come up before i is listed. -/
theorem Region.el {h : Array Bool} {i d R : Nat} (Y : uY md ops h) (u : Region.ci md ops i R d = true) (O : h.getD i true = false) : d ∉ Region.ready md ops h := by
  intro hd;obtain ⟨_, o, ho, X⟩ := mem_ready.1 hd;have L : h.getD i false = true := by
    cases R with
    | zero => simp [Region.ci] at u
    | succ n =>
      unfold Region.ci at u;rw [ho] at u;obtain ⟨e, Z, D⟩ := Array.any_eq_true'.1 u;simp only [Bool.and_eq_true, Bool.or_eq_true, beq_iff_eq] at D;have U := X e Z D.1;rcases D.2 with E | E
      · rw [<- E]; exact U
      · exact Region.du Y n e.on E U
  rcases Nat.lt_or_ge i h.size with z | z
  · simp [z] at O L
    rw [O] at L;cases L
  · simp [Array.getElem?_eq_none z] at O

/-- Whatever order is picked from here on, AND 'S' HOLDS BEHIND EVERY OPERATION THAT IS CARRIED OUT, those of ds apart. -/
def wpAnyLast (P : Program) (h : Region.Mode) (ops : Array Oper) (Q : Exit -> Act -> World -> Prop) (S : World -> Prop) (ds : List Nat) : Nat -> Array Bool -> Act -> World -> Prop
  | 0, listed, a, w => Region.ready h ops listed = [] /\ Q .normal a w
  | fuel + 1, listed, a, w =>
    (Region.ready h ops listed = [] -> Q .normal a w) /\
    ∀ i ∈ Region.ready h ops listed, wpOp P ops Q i (fun u w' => (i ∉ ds -> S w -> S w') /\ wpAnyLast P h ops Q S ds fuel (listed.setIfInBounds i true) u w') a w

theorem wpAny_of_last : ∀ (fuel : Nat) (listed : Array Bool) (a : Act) (w : World), wpAnyLast P md ops Q S ds fuel listed a w -> wpAny P md ops Q fuel listed a w
  | 0, _, _, _, h => h
  | fuel + 1, _, _, _, h => ⟨h.1, fun i D => wpOp_mono (fun u w' z => wpAny_of_last fuel _ u w' z.2) (h.2 i D)⟩

theorem zeA {i : Nat} {oi : Oper} {v : Value} (hi : ops[i]? = some oi) (a4 : ∀ (j : Nat) (o : Oper) cs b, ops[j]? = some o -> o.op ≠ .select cs b)
    (hQ : ∀ c a w, Q (.panic c) (a.put oi.dst v) w -> Q (.panic c) a w) (n : Nat) :
    ∀ (O : Nat) (u : Array Bool) (a : Act) (w : World),
      (∀ j E, ops[j]? = some E -> j ≠ i -> u.getD j true = false -> (∀ e ∈ E.after, Region.binds md e = true -> e.on ≠ i) -> oi.apart ops E = true) ->
      uY md ops u -> (∀ d ∈ ds, u.getD d true = false -> Region.ci md ops i n d = true) ->
      i ∈ Region.ready md ops u -> YieldsIf P ops S oi v a -> S w ->
      wpAnyLast P md ops Q S ds O (u.setIfInBounds i true) (a.put oi.dst v) w -> wpAnyLast P md ops Q S ds (O + 1) u a w := by
  intro O;induction O with
  | zero =>
    intro u a w _ _ _ D hy Y H;refine ⟨fun h => (by rw [h] at D; cases D), fun j L => ?_⟩;by_cases hji : j = i
    · subst hji; exact hy.wpOp hi Y ⟨fun _ h => h, H⟩
    · have := ready_mono L hji
      rw [H.1] at this;cases this
  | succ O ih =>
    intro u a w a3 hc hd D hy Y H;refine ⟨fun h => (by rw [h] at D; cases D), fun j L => ?_⟩;by_cases hji : j = i
    · subst hji; exact hy.wpOp hi Y ⟨fun _ h => h, H⟩
    · have z := H.2 j (ready_mono L hji)
      obtain ⟨Z, E, a1, a5⟩ := mem_ready.1 L;have a0 := (mem_ready.1 D).1;have c1 : ∀ e ∈ E.after, Region.binds md e = true -> e.on ≠ i := fun e he hb a7 => by
        have z := a5 e he hb;rw [a7] at z;rcases Nat.lt_or_ge i u.size with h' | h'
        · simp [h'] at a0 z; rw [a0] at z; cases z
        · simp [Array.getElem?_eq_none h'] at z
      have a9 : j ∉ ds := fun hm => Region.el hc (hd j hm Z) a0 L;have h2 := wpOp_putIf a1 (a3 j E a1 hji Z c1) (fun cs b => a4 i oi cs b hi) (fun cs b => a4 j E cs b a1) hQ hy z;have a8 : ∀ k U, ops[k]? = some U -> k ≠ i -> (u.setIfInBounds j true).getD k true = false ->
          (∀ e ∈ U.after, Region.binds md e = true -> e.on ≠ i) -> oi.apart ops U = true := fun k U hk b9 R c0 => by
        refine a3 k U hk b9 ?_ c0;by_cases hjk : j = k
        · subst hjk; exact Z
        · rw [getD_set_ne true hjk] at R; exact R
      have a6 : ∀ d ∈ ds, (u.setIfInBounds j true).getD d true = false -> Region.ci md ops i n d = true := fun d hm R => by
        refine hd d hm ?_;by_cases hjk : j = d
        · subst hjk; exact Z
        · rw [getD_set_ne true hjk] at R; exact R
      refine wpOp_mono (fun a' w' X => ⟨X.2.1, ih (u.setIfInBounds j true) a' w' a8 (hc.set L) a6 (ready_mono D (Ne.symm hji)) X.1 (X.2.1 a9 Y) ?_⟩) h2;rw [Array.setIfInBounds_comm _ _ hji];exact X.2.2

/-- Take number 'i' first, which yields whatever the world: no S is asked for, nor that anything waits for it. -/
theorem zgG {i : Nat} {oi : Oper} {v : Value} (Z : ops[i]? = some oi) (a5 : ∀ (j : Nat) (o : Oper) cs b, ops[j]? = some o -> o.op ≠ .select cs b)
    (hQ : ∀ c a w, Q (.panic c) (a.put oi.dst v) w -> Q (.panic c) a w) :
    ∀ (L : Nat) (u : Array Bool) (a : Act) (w : World),
      (∀ j E, ops[j]? = some E -> j ≠ i -> u.getD j true = false -> (∀ e ∈ E.after, Region.binds md e = true -> e.on ≠ i) -> oi.apart ops E = true) ->
      i ∈ Region.ready md ops u -> Yields P ops oi v a ->
      wpAnyLast P md ops Q S ds L (u.setIfInBounds i true) (a.put oi.dst v) w -> wpAnyLast P md ops Q S ds (L + 1) u a w := by
  intro L;induction L with
  | zero =>
    intro u a w _ D U H;refine ⟨fun h => (by rw [h] at D; cases D), fun j R => ?_⟩;by_cases hji : j = i
    · subst hji; exact (U.yieldsIf (S := fun _ => True)).wpOp Z trivial ⟨fun _ h => h, H⟩
    · have := ready_mono R hji
      rw [H.1] at this;cases this
  | succ L ih =>
    intro u a w a1 D U H;refine ⟨fun h => (by rw [h] at D; cases D), fun j R => ?_⟩;by_cases hji : j = i
    · subst hji; exact (U.yieldsIf (S := fun _ => True)).wpOp Z trivial ⟨fun _ h => h, H⟩
    · have z := H.2 j (ready_mono R hji)
      obtain ⟨a4, E, a0, a7⟩ := mem_ready.1 R;have a3 := (mem_ready.1 D).1;have c1 : ∀ e ∈ E.after, Region.binds md e = true -> e.on ≠ i := fun e he hb a8 => by
        have z := a7 e he hb;rw [a8] at z;rcases Nat.lt_or_ge i u.size with X | X
        · simp [X] at a3 z; rw [a3] at z; cases z
        · simp [Array.getElem?_eq_none X] at z
      have h2 := wpOp_put a0 (a1 j E a0 hji a4 c1) (fun cs b => a5 i oi cs b Z) (fun cs b => a5 j E cs b a0) hQ U z;have a9 : ∀ k O, ops[k]? = some O -> k ≠ i -> (u.setIfInBounds j true).getD k true = false ->
          (∀ e ∈ O.after, Region.binds md e = true -> e.on ≠ i) -> oi.apart ops O = true := fun k O hk b9 a6 c0 => by
        refine a1 k O hk b9 ?_ c0;by_cases hjk : j = k
        · subst hjk; exact a4
        · rw [getD_set_ne true hjk] at a6; exact a6
      refine wpOp_mono (fun a' w' Y => ⟨Y.2.1, ih (u.setIfInBounds j true) a' w' a9 (ready_mono D (Ne.symm hji)) Y.1 ?_⟩) h2;rw [Array.setIfInBounds_comm _ _ hji];exact Y.2.2

/-- Take number 'i' first. -/
theorem zft {i : Nat} {oi : Oper} {v : Value} {z : Nat} {u : Array Bool} {a : Act} {w : World} (D : ops[i]? = some oi)
    (hs : Region.noSelect ops = true) (R : Region.free md ops u i = true) (X : (Region.ready md ops u).contains i = true)
    (O : Region.e7 md ops u = true) (U : Region.gd md ops u ds i = true)
    (E : ∀ c a w, Q (.panic c) (a.put oi.dst v) w -> Q (.panic c) a w) (Z : YieldsIf P ops S oi v a) (L : S w)
    (h : wpAnyLast P md ops Q S ds z (u.setIfInBounds i true) (a.put oi.dst v) w) : wpAnyLast P md ops Q S ds (z + 1) u a w :=
  zeA D (Region.noSelect_spec hs) E ops.size z u a w (Region.free_spec D R) (Region.fp O)
    (fun d hm Y => by have := List.all_eq_true.1 U d hm; rw [Y] at this; simpa using this) (by simpa using X) Z L h

theorem zgF {rs : List Nat} {z : Nat} {u : Array Bool} {a : Act} {w : World} (D : Region.ready md ops u = rs) (L : rs ≠ [])
    (h : ∀ i ∈ rs, wpOp P ops Q i (fun E w' => (i ∉ ds -> S w -> S w') /\ wpAnyLast P md ops Q S ds z (u.setIfInBounds i true) E w') a w) : wpAnyLast P md ops Q S ds (z + 1) u a w :=
  ⟨fun h0 => absurd (D ▸ h0) L, D ▸ h⟩

theorem zfs {z : Array Bool} {a : Act} {w : World} (u : Region.ready md ops z = []) (h : Q .normal a w) :
    ∀ D, wpAnyLast P md ops Q S ds D z a w
  | 0 => ⟨u, h⟩
  | _ + 1 => ⟨fun _ => h, by rw [u]; simp⟩

theorem zar {u : Nat} {a : Act} {w : World} (hm : P.follows .mixedOrders = true)
    (h : wpAnyLast P .any ops Q S ds ops.size (Array.replicate ops.size false) a { w with drawn := w.drawn + 1 }) : (Code.region u ops true).wp P Q a w :=
  wp_region_any hm (wpAny_of_last _ _ _ _ h)

end

section
variable {P : Program} {ops : Array Oper} {Q : Exit -> Act -> World -> Prop} {md : Region.Mode} {S : World -> Prop} {ds : List Nat}

def jY (P : Program) (D : Region.Mode) (ops : Array Oper) (Q : Exit -> Act -> World -> Prop) (S : World -> Prop) (ds : List Nat) (u : Nat) (z : Array Bool) (a : Act) (w : World) (rs : List Nat) : Prop :=
  ∀ i ∈ rs, wpOp P ops Q i (fun h w' => (i ∉ ds -> S w -> S w') /\ wpAnyLast P D ops Q S ds u (z.setIfInBounds i true) h w') a w
theorem jY.nil {u : Nat} {z : Array Bool} {a : Act} {w : World} : jY P md ops Q S ds u z a w [] := fun _ h => by cases h
theorem jY.cons {z : Nat} {E : Array Bool} {a : Act} {w : World} {i : Nat} {o : Oper} {rs : List Nat} (U : ops[i]? = some o) (hd : i ∉ ds)
    (h : ∀ u : Act -> World -> Prop, Shut (∀ a w, S w -> (S w -> wpAnyLast P md ops Q S ds z (E.setIfInBounds i true) a w) -> u a w) -> if Region.wanted o (yielded ops a.tmps) = true then Oper.wp P o a w u Q else u (a.put o.dst undef) w)
    (hs : jY P md ops Q S ds z E a w rs) : jY P md ops Q S ds z E a w (i :: rs) := fun j D => by
  rcases List.mem_cons.1 D with rfl | D
  · exact wpOp_step U (fun u O => h u (fun a w L R => O a w ⟨fun _ _ => L, R L⟩))
  · exact hs j D
/-- Behind an operation of ds nothing is shown. -/
theorem jY.gw {z : Nat} {E : Array Bool} {a : Act} {w : World} {i : Nat} {o : Oper} {rs : List Nat} (U : ops[i]? = some o) (hd : i ∈ ds)
    (h : ∀ u : Act -> World -> Prop, Shut (∀ a w, wpAnyLast P md ops Q S ds z (E.setIfInBounds i true) a w -> u a w) -> if Region.wanted o (yielded ops a.tmps) = true then Oper.wp P o a w u Q else u (a.put o.dst undef) w)
    (hs : jY P md ops Q S ds z E a w rs) : jY P md ops Q S ds z E a w (i :: rs) := fun j D => by
  rcases List.mem_cons.1 D with rfl | D
  · exact wpOp_step U (fun u L => h u (fun a w O => L a w ⟨fun R => absurd hd R, O⟩))
  · exact hs j D
theorem Qr {rs : List Nat} {z : Nat} {u : Array Bool} {a : Act} {w : World} (E : Region.ready md ops u = rs) (D : rs ≠ [])
    (h : jY P md ops Q S ds z u a w rs) : wpAnyLast P md ops Q S ds (z + 1) u a w := zgF E D h
theorem zkU {z : Nat} {a : Act} {w : World} (hm : P.follows .mixedOrders = true) (u : S w.drew)
    (h : S w.drew -> wpAnyLast P .any ops Q S ds ops.size (Array.replicate ops.size false) a w.drew) : (Code.region z ops true).wp P Q a w :=
  zar hm (h u)
/-- THE SAME STEPS WITH WHAT HAS COME UP WRITTEN OUT (a literal array of Bools) and one check a step: quicker, and what is printed stays short. -/
theorem start_ {E n : Nat} {a : Act} {w : World} (l : Array Bool) (hm : P.follows .mixedOrders = true) (D : ops.size = n) (z : Array.replicate n false = l) (u : S w.drew)
    (h : S w.drew -> wpAnyLast P .any ops Q S ds n l a w.drew) : (Code.region E ops true).wp P Q a w := by
  subst D;subst z;exact zar hm (h u)
def takeB (h : Region.Mode) (ops : Array Oper) (ds : List Nat) (l l' : Array Bool) (i : Nat) : Bool :=
  Region.noSelect ops && Region.free h ops l i && (Region.ready h ops l).contains i && Region.e7 h ops l && Region.gd h ops l ds i && (l.setIfInBounds i true == l')
theorem take_ {i : Nat} {N : Option Tmp} {oi : Oper} {v : Value} {z : Nat} {l : Array Bool} {a : Act} {w : World} (l' : Array Bool) (hi : ops[i]? = some oi) (Y : oi.dst = N) (D : takeB md ops ds l l' i = true)
    (Z : ∀ c a w, Q (.panic c) (a.put oi.dst v) w -> Q (.panic c) a w) (hy : YieldsIf P ops S oi v a) (hS : S w) {u : Act} (ha : a.put N v = u)
    (h : wpAnyLast P md ops Q S ds z l' u w) : wpAnyLast P md ops Q S ds (z + 1) l a w := by
  subst ha;subst Y;simp only [takeB, Bool.and_eq_true, beq_iff_eq] at D;obtain ⟨⟨⟨⟨⟨E, L⟩, O⟩, R⟩, U⟩, X⟩ := D;subst X;exact zft hi E L O R U Z hy hS h
def anyB (h : Region.Mode) (ops : Array Oper) (l l' : Array Bool) (i : Nat) : Bool :=
  Region.noSelect ops && Region.free h ops l i && (Region.ready h ops l).contains i && (l.setIfInBounds i true == l')
/-- An operation that yields in every world (a move, a number, an address): taken first wherever it may come up, behind a store too. -/
theorem pure_ {i : Nat} {N : Option Tmp} {oi : Oper} {v : Value} {u : Nat} {l : Array Bool} {a : Act} {w : World} (l' : Array Bool) (E : ops[i]? = some oi) (X : oi.dst = N) (D : anyB md ops l l' i = true)
    (Y : ∀ c a w, Q (.panic c) (a.put oi.dst v) w -> Q (.panic c) a w) (hy : Yields P ops oi v a) {z : Act} (Z : a.put N v = z)
    (h : wpAnyLast P md ops Q S ds u l' z w) : wpAnyLast P md ops Q S ds (u + 1) l a w := by
  subst Z;subst X;simp only [anyB, Bool.and_eq_true, beq_iff_eq] at D;obtain ⟨⟨⟨L, O⟩, R⟩, U⟩ := D;subst U;exact zgG E (Region.noSelect_spec L) Y u l a w (Region.free_spec E O) (by simpa using R) hy h
def readyB (h : Region.Mode) (ops : Array Oper) (l l' : Array Bool) (i : Nat) : Bool := (Region.ready h ops l == [i]) && (l.setIfInBounds i true == l')
/-- One operation alone may come up now (a call, a build, an append ..): it is run, S is shown behind it. -/
theorem one_ {i : Nat} {N : Option Tmp} {oi : Oper} {z : Nat} {l : Array Bool} {a : Act} {w : World} (l' : Array Bool) (U : ops[i]? = some oi) (R : oi.dst = N) (D : readyB md ops l l' i = true) (hd : i ∉ ds)
    (h : ∀ K : Act -> World -> Prop, Shut (∀ u w', S w' -> (S w' -> wpAnyLast P md ops Q S ds z l' u w') -> K u w') -> if Region.wanted oi (yielded ops a.tmps) = true then Oper.wp P oi a w K Q else K (a.put N undef) w) :
    wpAnyLast P md ops Q S ds (z + 1) l a w := by
  subst R;simp only [readyB, Bool.and_eq_true, beq_iff_eq] at D;obtain ⟨E, L⟩ := D;subst L;exact Qr E (by simp) (jY.cons U hd (fun K O => h K O) jY.nil)
/-- The same for one of ds: nothing is shown behind it. -/
theorem last_ {i : Nat} {N : Option Tmp} {oi : Oper} {z : Nat} {l : Array Bool} {a : Act} {w : World} (l' : Array Bool) (U : ops[i]? = some oi) (R : oi.dst = N) (D : readyB md ops l l' i = true) (hd : i ∈ ds)
    (h : ∀ K : Act -> World -> Prop, Shut (∀ u w', wpAnyLast P md ops Q S ds z l' u w' -> K u w') -> if Region.wanted oi (yielded ops a.tmps) = true then Oper.wp P oi a w K Q else K (a.put N undef) w) :
    wpAnyLast P md ops Q S ds (z + 1) l a w := by
  subst R;simp only [readyB, Bool.and_eq_true, beq_iff_eq] at D;obtain ⟨E, L⟩ := D;subst L;exact Qr E (by simp) (jY.gw U hd (fun K O => h K O) jY.nil)
theorem done_ {l : Array Bool} {a : Act} {w : World} {n : Nat} (u : (Region.ready md ops l == []) = true) (h : Q .normal a w) : wpAnyLast P md ops Q S ds n l a w := zfs (by simpa using u) h n
/-! ### Several operations that write or call may come up: each order is walked, what follows is shown once (zrb) -/
theorem two_ {i j : Nat} {Ni Nj : Option Tmp} {oi u : Oper} {z : Nat} {l : Array Bool} {a : Act} {w : World} (L O : Array Bool) (hi : ops[i]? = some oi) (hj : ops[j]? = some u) (a0 : oi.dst = Ni) (a1 : u.dst = Nj)
    (E : (Region.ready md ops l == [i, j] && l.setIfInBounds i true == L && l.setIfInBounds j true == O) = true) (a3 : i ∉ ds) (a4 : j ∉ ds)
    (R : ∀ K : Act -> World -> Prop, Shut (∀ h w', S w' -> (S w' -> wpAnyLast P md ops Q S ds z L h w') -> K h w') -> if Region.wanted oi (yielded ops a.tmps) = true then Oper.wp P oi a w K Q else K (a.put Ni undef) w)
    (U : ∀ K : Act -> World -> Prop, Shut (∀ h w', S w' -> (S w' -> wpAnyLast P md ops Q S ds z O h w') -> K h w') -> if Region.wanted u (yielded ops a.tmps) = true then Oper.wp P u a w K Q else K (a.put Nj undef) w) :
    wpAnyLast P md ops Q S ds (z + 1) l a w := by
  subst a0;subst a1;simp only [Bool.and_eq_true, beq_iff_eq] at E;obtain ⟨⟨X, Y⟩, Z⟩ := E;subst Y;subst Z;exact Qr X (by simp) (jY.cons hi a3 (fun K D => R K D) (jY.cons hj a4 (fun K D => U K D) jY.nil))
theorem zru {i j k : Nat} {Ni Nj L : Option Tmp} {oi D E : Oper} {z : Nat} {l : Array Bool} {a : Act} {w : World} (R U lk : Array Bool) (hi : ops[i]? = some oi) (hj : ops[j]? = some D) (hk : ops[k]? = some E) (a0 : oi.dst = Ni) (a1 : D.dst = Nj) (a3 : E.dst = L)
    (O : (Region.ready md ops l == [i, j, k] && l.setIfInBounds i true == R && l.setIfInBounds j true == U && l.setIfInBounds k true == lk) = true) (a4 : i ∉ ds) (a5 : j ∉ ds) (a6 : k ∉ ds)
    (X : ∀ K : Act -> World -> Prop, Shut (∀ h w', S w' -> (S w' -> wpAnyLast P md ops Q S ds z R h w') -> K h w') -> if Region.wanted oi (yielded ops a.tmps) = true then Oper.wp P oi a w K Q else K (a.put Ni undef) w)
    (Y : ∀ K : Act -> World -> Prop, Shut (∀ h w', S w' -> (S w' -> wpAnyLast P md ops Q S ds z U h w') -> K h w') -> if Region.wanted D (yielded ops a.tmps) = true then Oper.wp P D a w K Q else K (a.put Nj undef) w)
    (Z : ∀ K : Act -> World -> Prop, Shut (∀ h w', S w' -> (S w' -> wpAnyLast P md ops Q S ds z lk h w') -> K h w') -> if Region.wanted E (yielded ops a.tmps) = true then Oper.wp P E a w K Q else K (a.put L undef) w) :
    wpAnyLast P md ops Q S ds (z + 1) l a w := by
  subst a0;subst a1;subst a3;simp only [Bool.and_eq_true, beq_iff_eq] at O;obtain ⟨⟨⟨h4, h5⟩, h6⟩, h7⟩ := O;subst h5;subst h6;subst h7;exact Qr h4 (by simp) (jY.cons hi a4 (fun K u => X K u) (jY.cons hj a5 (fun K u => Y K u) (jY.cons hk a6 (fun K u => Z K u) jY.nil)))
/-- The act with some destinations filled. -/
def zhK : Act -> List (Tmp × Value) -> Act
  | a, [] => a
  | a, (n, v) :: r => zhK (a.put (some n) v) r
/-- What follows, once: s the values that the orders leave, F what is known of them and of the world. -/
theorem zrb {σ : Type} {u : Nat} {l : Array Bool} {a : Act} {w : World} (z : Nat) (l' : Array Bool) (D : σ -> List (Tmp × Value)) (F : σ -> World -> Prop)
    (E : ∀ s w', F s w' -> wpAnyLast P md ops Q S ds z l' (zhK a (D s)) w')
    (h : (∀ s w', F s w' -> wpAnyLast P md ops Q S ds z l' (zhK a (D s)) w') -> wpAnyLast P md ops Q S ds u l a w) : wpAnyLast P md ops Q S ds u l a w := h E
/-- The act written out. -/
theorem zrz {z : Nat} {l : Array Bool} {a u : Act} {w : World} (D : a = u) (h : wpAnyLast P md ops Q S ds z l u w) : wpAnyLast P md ops Q S ds z l a w := by subst D;exact h
/-- A call of a Go function, by its contract. -/
theorem zqZ {oi : Oper} {N : Option Tmp} {a : Act} {w : World} {K : Act -> World -> Prop} (f : FuncId) (args : Array Value) (L : Region.wanted oi (yielded ops a.tmps) = true) (u : oi.dst = N) (E : (execOp a.eval oi).run P w = .ok (.enter f args) w)
    (h : Calls P f args w fun e w' => ∃ v, e = .returned v /\ K (a.put N v) w') : if Region.wanted oi (yielded ops a.tmps) = true then Oper.wp P oi a w K Q else K (a.put N undef) w := by
  rw [if_pos L];subst u;unfold Oper.wp;rw [E, Oper.upon_enter];refine h.mono fun e O z => ?_;obtain ⟨v, rfl, D⟩ := z;exact D
theorem enters_ {f : FuncId} {fn : Func} (hf : P.funcs[f]? = some fn) (hname : (fn.name == "runtime.NumGoroutine") = false) (hb : fn.body.isSome = true) (args : Array Value) (w : World) : (callFunc f args).run P w = .ok (.enter f args) w := by
  have h1 : fn.name ≠ "runtime.NumGoroutine" := by simpa using hname
  obtain ⟨c, hc⟩ := Option.isSome_iff_exists.1 hb;simp [callFunc, hf, h1, hc]
/-- The same, the operation's run shown here: 'goes_ A.func3 (by kernel_rfl) rfl #[..] (by rfl) rfl rfl (by rfl) ?_'. -/
theorem zrw {oi : Oper} {N : Option Tmp} {a : Act} {w : World} {K : Act -> World -> Prop} {f : FuncId} {fn : Func} {as : Array Operand} {ts : Array TypeId} (hf : P.funcs[f]? = some fn) (hname : (fn.name == "runtime.NumGoroutine") = false) (hb : fn.body.isSome = true) (args : Array Value)
    (hw : Region.wanted oi (yielded ops a.tmps) = true) (hN : oi.dst = N) (hop : oi.op = .call { callee := .value (.func f), args := as, argTypes := ts }) (hargs : as.map a.eval = args)
    (h : Calls P f args w fun e w' => ∃ v, e = .returned v /\ K (a.put N v) w') : if Region.wanted oi (yielded ops a.tmps) = true then Oper.wp P oi a w K Q else K (a.put N undef) w := by
  refine zqZ f args hw hN ?_ h;have he := enters_ hf hname hb args w;unfold execOp;simp [hop, resolve, Deferred.ofValue, invoke, Act.eval, hargs, he]
/-- A call in a plain region, as an arm of go_wp2_with ('hd' first: it fails at once at another operation). -/
theorem zrs {rest : List Oper} {oi : Oper} {a : Act} {w : World} (N : Option Tmp) (hd : oi.dst = N) (hg : oi.guard = none) {f : FuncId} {fn : Func} {as : Array Operand} {ts : Array TypeId} (hf : P.funcs[f]? = some fn) (hname : (fn.name == "runtime.NumGoroutine") = false) (hb : fn.body.isSome = true) (args : Array Value)
    (hop : oi.op = .call { callee := .value (.func f), args := as, argTypes := ts }) (hargs : as.map a.eval = args)
    (h : Calls P f args w fun e w' => ∃ v, e = .returned v /\ wpList P ops Q rest (a.put N v) w') : wpList P ops Q (oi :: rest) a w := by
  refine wpList_plain hg fun K hK => ?_;have he := enters_ hf hname hb args w;have hrun : (execOp a.eval oi).run P w = .ok (.enter f args) w := by unfold execOp;simp [hop, resolve, Deferred.ofValue, invoke, Act.eval, hargs, he]
  unfold Oper.wp;rw [hrun, Oper.upon_enter];refine h.mono fun e w'' hh => ?_;obtain ⟨v, rfl, hk⟩ := hh;subst hd;exact hK _ _ hk
/-- An operation that yields a value (and may make memory). -/
theorem zrv {oi : Oper} {N : Option Tmp} {a : Act} {w w1 : World} {v : Value} {K : Act -> World -> Prop} (D : Region.wanted oi (yielded ops a.tmps) = true) (u : oi.dst = N) (z : (execOp a.eval oi).run P w = .ok (.value v) w1)
    (h : K (a.put N v) w1) : if Region.wanted oi (yielded ops a.tmps) = true then Oper.wp P oi a w K Q else K (a.put N undef) w := by
  rw [if_pos D];subst u;unfold Oper.wp;rw [z];exact h
/-- A store. -/
theorem zrA {oi : Oper} {a : Act} {w w1 : World} {K : Act -> World -> Prop} (D : Region.wanted oi (yielded ops a.tmps) = true) (u : oi.dst = none) (z : (execOp a.eval oi).run P w = .ok .skip w1)
    (h : K a w1) : if Region.wanted oi (yielded ops a.tmps) = true then Oper.wp P oi a w K Q else K (a.put none undef) w := by
  rw [if_pos D];unfold Oper.wp;rw [z];show K (a.put oi.dst undef) w1;rw [u];exact h
/-- An operation whose guard is off, behind a store of ds. -/
theorem zrB {oi : Oper} {N : Option Tmp} {a : Act} {w : World} {K : Act -> World -> Prop} (u : Region.wanted oi (yielded ops a.tmps) = false) (h : K (a.put N undef) w) : if Region.wanted oi (yielded ops a.tmps) = true then Oper.wp P oi a w K Q else K (a.put N undef) w := by rw [u, if_neg (by simp)];exact h
theorem zry (n : Int) : IntKind.i64.wrap n = Go.RowKit.wrap64 n := by unfold Go.RowKit.wrap64; exact IntKind.wrap_i64 n
theorem zrx (n : Int) : IntKind.i32.wrap n = Go.RowKit.wrap32 n := by unfold Go.RowKit.wrap32; exact IntKind.wrap_i32 n
end
end Go.Proofs.YtechnoogjhohfaaGreatW.PrintLast
