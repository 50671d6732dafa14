/- The heats that are taken one by one, in the order in which pours are due: what both ways make. No program in sight. -/
import Derived.Test.YtonoeohmpaegdaaOrd
import Derived.Test.YtonoeohmpaegdaaSched
import Derived.Test.YtonoeohmpaegdaaNext
import Derived.Test.YtonoeohmpaegdaaOwn
namespace Go.Proofs.Ytonoeohmpaegdaa
set_option linter.unusedVariables false
open Go.RowKit
structure HeatV where
  (p c s e : Int)
def ha0 (L : List HeatV) (i : Nat) : Int := (L[i]?.map HeatV.p).getD 0
def ha1 (L : List HeatV) (i : Nat) : Int := (L[i]?.map HeatV.c).getD 0
def ha2 (L : List HeatV) (i : Nat) : Int := (L[i]?.map HeatV.s).getD 0
def ha3 (L : List HeatV) (i : Nat) : Int := (L[i]?.map HeatV.e).getD 0
def heatC (x : HeatV) : List Value := [.int .i64 x.p, .int .i64 x.c, .int .i64 x.s, .int .i64 x.e]
def heatsL (L : List HeatV) : List Value := L.flatMap heatC
theorem heatsL_snoc (L : List HeatV) (x : HeatV) : heatsL L ++ heatC x = heatsL (L ++ [x]) := by simp [heatsL]
theorem heatsL_at : ∀ (L : List HeatV) (i : Nat), i < L.length → (heatsL L)[i * 4]? = some (.int .i64 (ha0 L i)) ∧ (heatsL L)[i * 4 + 1]? = some (.int .i64 (ha1 L i)) ∧ (heatsL L)[i * 4 + 2]? = some (.int .i64 (ha2 L i)) ∧ (heatsL L)[i * 4 + 3]? = some (.int .i64 (ha3 L i))
  | [], i, h => absurd h (Nat.not_lt_zero _)
  | x :: L, 0, _ => by simp [heatsL, heatC, ha0, ha1, ha2, ha3]
  | x :: L, i + 1, h => by
    have ih := heatsL_at L i (by simpa using h)
    have e : ∀ j, (heatsL (x :: L))[(i + 1) * 4 + j]? = (heatsL L)[i * 4 + j]? := fun j => by
      show (heatC x ++ heatsL L)[(i + 1) * 4 + j]? = _
      rw [List.getElem?_append_right (by simp [heatC]; omega)]
      congr 1
      simp [heatC]; omega
    have e0 := e 0
    simp only [Nat.add_zero] at e0
    rw [e0, e 1, e 2, e 3]
    simpa [ha0, ha1, ha2, ha3] using ih
theorem fa_same {p p' e e' : Nat → Int} {f0 c : Int} : ∀ {k : Nat}, (∀ i, i < k → p i = p' i ∧ e i = e' i) → fa p e f0 c k = fa p' e' f0 c k
  | 0, _ => rfl
  | k + 1, h => by
    obtain ⟨h1, h2⟩ := h k (Nat.lt_succ_self _)
    unfold fa
    rw [h1, h2, fa_same fun i hi => h i (by omega)]
theorem fa_snoc (L : List HeatV) (x : HeatV) (f0 c : Int) : fa (ha1 (L ++ [x])) (ha3 (L ++ [x])) f0 c (L ++ [x]).length = if (x.c == c) = true then x.e else fa (ha1 L) (ha3 L) f0 c L.length := by
  have e : (L ++ [x]).length = L.length + 1 := by simp
  rw [e, fa, show ha1 (L ++ [x]) L.length = x.c by simp [ha1], show ha3 (L ++ [x]) L.length = x.e by simp [ha3]]
  rw [fa_same (p := ha1 (L ++ [x])) (p' := ha1 L) (e := ha3 (L ++ [x])) (e' := ha3 L) fun i hi => ?_]
  simp [ha1, ha3, hi, List.getElem?_append_left]
structure GP where
  (n m : Nat)
  (pm pr pd cc ch cf : Nat → Int)
namespace GP
def fr (D : GP) (L : List HeatV) (c : Nat) : Int := fa (ha1 L) (ha3 L) (D.cf c) c L.length
theorem fr_snoc (D : GP) (L : List HeatV) (x : HeatV) (c : Nat) : D.fr (L ++ [x]) c = if (x.c == (c : Int)) = true then x.e else D.fr L c := fa_snoc L x _ _
def st (D : GP) (L : List HeatV) (p c : Nat) : Int := nhS (D.pr p) (D.ch c) (D.fr L c)
def ok (D : GP) (L : List HeatV) (p c : Nat) : Bool := decide (D.pm p ≤ D.cc c) && decide (D.st L p c + D.ch c ≤ D.pd p)
def beat (b : Option HeatV) (e : Int) : Bool := match b with
  | none => true
  | some h => decide (e < h.e)
/-- the best heat of pour p behind heats L, in the first crucibles -/
def best (D : GP) (L : List HeatV) (p : Nat) : Nat → Option HeatV
  | 0 => none
  | c + 1 => bif D.ok L p c && beat (D.best L p c) (D.st L p c + D.ch c) then some ⟨p, c, D.st L p c, D.st L p c + D.ch c⟩ else D.best L p c
def o (D : GP) (k : Nat) : Nat := ordF D.pd D.n k
def hs (D : GP) : Nat → List HeatV
  | 0 => []
  | k + 1 => D.hs k ++ (D.best (D.hs k) (D.o k) D.m).toList
def got (D : GP) (k : Nat) : Bool := (D.best (D.hs k) (D.o k) D.m).isSome
def Fit (D : GP) : Prop := (∀ i, i < D.n → 0 ≤ D.pr i ∧ D.pr i ≤ 10000 ∧ D.pd i ≤ 10000) ∧ ∀ c, c < D.m → (1 ≤ D.ch c ∧ D.ch c ≤ 10000) ∧ 0 ≤ D.cf c ∧ D.cf c ≤ 10000
def FrB (D : GP) (L : List HeatV) : Prop := ∀ c, c < D.m → D.cf c ≤ D.fr L c ∧ D.fr L c ≤ 10000
theorem best_of {D : GP} {L : List HeatV} {p : Nat} : ∀ {q : Nat} {h : HeatV}, D.best L p q = some h → ∃ c, c < q ∧ D.ok L p c = true ∧ h = ⟨p, c, D.st L p c, D.st L p c + D.ch c⟩
  | 0, h, e => by cases e
  | q + 1, h, e => by
    unfold best at e
    cases q1 : D.ok L p q && beat (D.best L p q) (D.st L p q + D.ch q)
    · rw [q1, cond_false] at e
      obtain ⟨c, h1, h2⟩ := best_of e
      exact ⟨c, by omega, h2⟩
    · rw [q1, cond_true] at e
      exact ⟨q, by omega, (Bool.and_eq_true _ _ |>.mp q1).1, (Option.some.inj e).symm⟩
theorem o_lt {D : GP} {k : Nat} (h : k < D.n) : D.o k < D.n := ordF_lt _ h
theorem ok_of {D : GP} {L : List HeatV} {p c : Nat} (h : D.ok L p c = true) : D.pm p ≤ D.cc c ∧ D.st L p c + D.ch c ≤ D.pd p := by
  obtain ⟨h1, h2⟩ := Bool.and_eq_true _ _ |>.mp h
  exact ⟨of_decide_eq_true h1, of_decide_eq_true h2⟩
/-- a heat that is taken -/
theorem best_bd {D : GP} (hf : D.Fit) {L : List HeatV} (hb : D.FrB L) {p q : Nat} (hp : p < D.n) (hq : q ≤ D.m) {h : HeatV} (e : D.best L p q = some h) : 0 ≤ h.s ∧ h.s ≤ 10000 ∧ 1 ≤ h.e ∧ h.e ≤ 10000 ∧ ∃ c : Nat, c < q ∧ h.c = c ∧ D.fr L c ≤ h.e ∧ h.p = p := by
  obtain ⟨c, h1, h2, rfl⟩ := best_of e
  obtain ⟨h3, h4⟩ := ok_of h2
  obtain ⟨h5, h6⟩ := hb c (by omega)
  obtain ⟨⟨h7, h8⟩, h9, h10⟩ := hf.2 c (by omega)
  obtain ⟨h11, h12, h13⟩ := hf.1 p hp
  have h14 : D.fr L c ≤ D.st L p c := by unfold st nhS; omega
  exact ⟨by simp only; omega, by simp only; omega, by simp only; omega, by simp only; omega, c, h1, rfl, by simp only; omega, rfl⟩
theorem hs_succ {D : GP} {k : Nat} {h : HeatV} (e : D.best (D.hs k) (D.o k) D.m = some h) : D.hs (k + 1) = D.hs k ++ [h] := by
  show D.hs k ++ (D.best (D.hs k) (D.o k) D.m).toList = _
  rw [e]; rfl
theorem fr_bd {D : GP} (hf : D.Fit) : ∀ k, k ≤ D.n → D.FrB (D.hs k)
  | 0, _ => fun c hc => by
    have := (hf.2 c hc).2
    exact ⟨Int.le_refl _, this.2⟩
  | k + 1, hk => by
    have ih := fr_bd hf k (by omega)
    cases e : D.best (D.hs k) (D.o k) D.m with
    | none =>
      show D.FrB (D.hs k ++ (D.best (D.hs k) (D.o k) D.m).toList)
      rw [e]
      simpa using ih
    | some h =>
      obtain ⟨b1, b2, b3, b4, c2, b5, b6, b7, b8⟩ := best_bd hf ih (o_lt (show k < D.n by omega)) (Nat.le_refl _) e
      rw [hs_succ e]
      intro c hc
      rw [fr_snoc]
      have := ih c hc
      by_cases q : (h.c == (c : Int)) = true
      · rw [if_pos q]
        have q2 := eq_of_beq q
        obtain rfl : c2 = c := by omega
        omega
      · rw [if_neg q]
        exact this
theorem hs_len {D : GP} : ∀ k, allB D.got k = true → (D.hs k).length = k
  | 0, _ => rfl
  | k + 1, h => by
    obtain ⟨h1, h2⟩ := Bool.and_eq_true _ _ |>.mp h
    have ih := hs_len k h1
    obtain ⟨x, hx⟩ := Option.isSome_iff_exists.1 h2
    rw [hs_succ hx]
    simp [ih]
def doneB (D : GP) (k x : Nat) : Bool := anyB (fun j => D.o j == x) k
theorem done_no {D : GP} {x : Nat} : ∀ {k : Nat}, (∀ j, j < k → D.o j ≠ x) → D.doneB k x = false
  | 0, _ => rfl
  | k + 1, h => by
    unfold doneB
    rw [anyB_succ, show anyB (fun j => D.o j == x) k = false from done_no fun j hj => h j (by omega), Bool.false_or]
    exact beq_eq_false_iff_ne.2 (h k (by omega))
theorem done_of {D : GP} {x : Nat} : ∀ {k : Nat}, D.doneB k x = false → ∀ j, j < k → D.o j ≠ x
  | 0, _, j, hj => absurd hj (Nat.not_lt_zero _)
  | k + 1, h, j, hj => by
    unfold doneB at h
    rw [anyB_succ] at h
    obtain ⟨h1, h2⟩ := Bool.or_eq_false_iff.1 h
    rcases Nat.lt_or_ge j k with q | q
    · exact done_of h1 j q
    · obtain rfl : j = k := by omega
      exact beq_eq_false_iff_ne.1 h2
end GP
def dueBt (d : Nat → Int) (b : Option Nat) (i : Nat) : Bool := match b with
  | none => true
  | some x => decide (d i < d x)
/-- the first one by d of those that are not done -/
def dueS (d : Nat → Int) (dn : Nat → Bool) : Nat → Option Nat
  | 0 => none
  | i + 1 => bif !dn i && dueBt d (dueS d dn i) i then some i else dueS d dn i
theorem due_inv (d : Nat → Int) (dn : Nat → Bool) : ∀ i, match dueS d dn i with
    | none => ∀ j, j < i → dn j = true
    | some b => b < i ∧ dn b = false ∧ ∀ j, j < i → dn j = false → d b < d j ∨ (d b = d j ∧ b ≤ j)
  | 0 => fun j hj => absurd hj (Nat.not_lt_zero _)
  | i + 1 => by
    have ih := due_inv d dn i
    unfold dueS
    cases e : dueS d dn i with
    | none =>
      rw [e] at ih
      cases q : dn i
      · simp only [dueBt, Bool.not_false, Bool.and_true, cond_true]
        refine ⟨by omega, q, fun j hj h => ?_⟩
        rcases Nat.lt_or_ge j i with h1 | h1
        · rw [ih j h1] at h; cases h
        · obtain rfl : j = i := by omega
          exact Or.inr ⟨rfl, Nat.le_refl _⟩
      · simp only [Bool.not_true, Bool.false_and, cond_false]
        intro j hj
        rcases Nat.lt_or_ge j i with h1 | h1
        · exact ih j h1
        · obtain rfl : j = i := by omega
          exact q
    | some b =>
      rw [e] at ih
      obtain ⟨h1, h2, h3⟩ := ih
      cases q : dn i
      · by_cases hl : d i < d b
        · simp only [dueBt, Bool.not_false, Bool.true_and, decide_eq_true hl, cond_true]
          refine ⟨by omega, q, fun j hj h => ?_⟩
          rcases Nat.lt_or_ge j i with h4 | h4
          · have := h3 j h4 h
            omega
          · obtain rfl : j = i := by omega
            exact Or.inr ⟨rfl, Nat.le_refl _⟩
        · simp only [dueBt, Bool.not_false, Bool.true_and, decide_eq_false hl, cond_false]
          refine ⟨by omega, h2, fun j hj h => ?_⟩
          rcases Nat.lt_or_ge j i with h4 | h4
          · exact h3 j h4 h
          · obtain rfl : j = i := by omega
            omega
      · simp only [Bool.not_true, Bool.false_and, cond_false]
        refine ⟨by omega, h2, fun j hj h => ?_⟩
        rcases Nat.lt_or_ge j i with h4 | h4
        · exact h3 j h4 h
        · obtain rfl : j = i := by omega
          rw [q] at h; cases h
theorem due_is (D : GP) {k : Nat} (hk : k < D.n) : dueS D.pd (D.doneB k) D.n = some (D.o k) := by
  have h := due_inv D.pd (D.doneB k) D.n
  have ho := GP.o_lt hk
  have hn : D.doneB k (D.o k) = false := GP.done_no fun j hj => ordF_ne _ hj hk
  cases e : dueS D.pd (D.doneB k) D.n with
  | none =>
    rw [e] at h
    rw [h _ ho] at hn
    cases hn
  | some b =>
    rw [e] at h
    obtain ⟨h1, h2, h3⟩ := h
    have h4 := h3 _ ho hn
    have h5 : b = D.o k ∨ D.pd (D.o k) < D.pd b ∨ (D.pd (D.o k) = D.pd b ∧ D.o k < b) := ordF_least D.pd h1 (GP.done_of h2)
    have h6 : b = D.o k := by omega
    rw [h6]
end Go.Proofs.Ytonoeohmpaegdaa
