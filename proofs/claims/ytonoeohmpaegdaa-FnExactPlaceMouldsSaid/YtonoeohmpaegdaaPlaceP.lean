/- The greatest number of moulds that can be placed, and the first placing of so many: the search with a bound finds the one that is put together step by step. No program in sight. -/
import Derived.Test.YtonoeohmpaegdaaRowBase
namespace Go.Proofs.Ytonoeohmpaegdaa
set_option linter.unusedVariables false
/-- a set with one more -/
def upd (U : Nat → Bool) (i : Nat) : Nat → Bool := fun j => U j || j == i
/-- how many of r moulds from mould k on can be placed; ch k: the holes of mould k; U: the holes that are used -/
def mostC (ch : Nat → List Nat) : Nat → Nat → (Nat → Bool) → Nat
  | 0, _, _ => 0
  | r + 1, k, U => (ch k).foldl (fun a i => if U i = true then a else max a (1 + mostC ch r (k + 1) (upd U i))) (mostC ch r (k + 1) U)
/-- the first placing of so many -/
def greedyC (ch : Nat → List Nat) : Nat → Nat → (Nat → Bool) → List Int
  | 0, _, _ => []
  | r + 1, k, U => match (ch k).find? (fun i => !U i && (1 + mostC ch r (k + 1) (upd U i) == mostC ch (r + 1) k U)) with
    | some i => (i : Int) :: greedyC ch r (k + 1) (upd U i)
    | none => -1 :: greedyC ch r (k + 1) U
/-- the search with a bound -/
def visitC (ch : Nat → List Nat) : Nat → Nat → (Nat → Bool) → List Int → Int → Int × List Int → Int × List Int
  | 0, _, _, now, c, s => if c ≤ s.1 then s else (c, now)
  | r + 1, k, U, now, c, s => if c + ((r + 1 : Nat) : Int) ≤ s.1 then s else
      visitC ch r (k + 1) U (now ++ [-1]) c ((ch k).foldl (fun s i => if U i = true then s else visitC ch r (k + 1) (upd U i) (now ++ [(i : Int)]) (c + 1) s) s)
/-- the value of hole i for mould k -/
def valC (ch : Nat → List Nat) (r k : Nat) (U : Nat → Bool) (i : Nat) : Option Nat := if U i = true then none else some (1 + mostC ch r (k + 1) (upd U i))
def bstS (v : Nat → Option Nat) (b : Option (Nat × Nat)) (i : Nat) : Option (Nat × Nat) :=
  match v i with
  | none => b
  | some x => match b with
    | none => some (x, i)
    | some (y, j) => if y < x then some (x, i) else some (y, j)
def vOf : Option (Nat × Nat) → Nat
  | none => 0
  | some (x, _) => x
def BstP (v : Nat → Option Nat) (L : List Nat) : Option (Nat × Nat) → Prop
  | none => ∀ j ∈ L, v j = none
  | some (x, i) => (∀ j ∈ L, ∀ y, v j = some y → y ≤ x) ∧ L.find? (fun j => v j == some x) = some i ∧ 1 ≤ x
theorem bst_step {v : Nat → Option Nat} (hv : ∀ i x, v i = some x → 1 ≤ x) {L : List Nat} {b : Option (Nat × Nat)} (h : BstP v L b) (i : Nat) : BstP v (L ++ [i]) (bstS v b i) := by
  unfold bstS
  cases e : v i with
  | none =>
    cases b with
    | none =>
      intro j hj
      rcases List.mem_append.1 hj with hj | hj
      · exact h j hj
      · rw [List.mem_singleton.1 hj, e]
    | some q =>
      obtain ⟨x, p⟩ := q
      obtain ⟨h1, h2, h3⟩ := h
      refine ⟨fun j hj y hy => ?_, ?_, h3⟩
      · rcases List.mem_append.1 hj with hj | hj
        · exact h1 j hj y hy
        · rw [List.mem_singleton.1 hj, e] at hy; cases hy
      · rw [List.find?_append, h2]; rfl
  | some x =>
    have hx := hv i x e
    cases b with
    | none =>
      have hn : L.find? (fun j => v j == some x) = none := List.find?_eq_none.2 fun j hj => by rw [h j hj]; simp
      refine ⟨fun j hj y hy => ?_, ?_, hx⟩
      · rcases List.mem_append.1 hj with hj | hj
        · rw [h j hj] at hy; cases hy
        · rw [List.mem_singleton.1 hj, e] at hy; cases hy; exact Nat.le_refl _
      · rw [List.find?_append, hn]
        simp [e]
    | some q =>
      obtain ⟨y, p⟩ := q
      obtain ⟨h1, h2, h3⟩ := h
      show BstP v (L ++ [i]) (if y < x then some (x, i) else some (y, p))
      by_cases hlt : y < x
      · rw [if_pos hlt]
        have hn : L.find? (fun j => v j == some x) = none := List.find?_eq_none.2 fun j hj q => by
          have := h1 j hj x (by simpa using q)
          omega
        refine ⟨fun j hj z hz => ?_, ?_, hx⟩
        · rcases List.mem_append.1 hj with hj | hj
          · have := h1 j hj z hz; omega
          · rw [List.mem_singleton.1 hj, e] at hz; cases hz; exact Nat.le_refl _
        · rw [List.find?_append, hn]
          simp [e]
      · rw [if_neg hlt]
        refine ⟨fun j hj z hz => ?_, ?_, h3⟩
        · rcases List.mem_append.1 hj with hj | hj
          · exact h1 j hj z hz
          · rw [List.mem_singleton.1 hj, e] at hz; cases hz; omega
        · rw [List.find?_append, h2]; rfl
theorem bst_all {v : Nat → Option Nat} (hv : ∀ i x, v i = some x → 1 ≤ x) : ∀ (L pre : List Nat) (b : Option (Nat × Nat)), BstP v pre b → BstP v (pre ++ L) (L.foldl (bstS v) b)
  | [], pre, b, h => by simpa using h
  | i :: L, pre, b, h => by
    have := bst_all hv L (pre ++ [i]) (bstS v b i) (bst_step hv h i)
    simpa using this
theorem val_pos {ch : Nat → List Nat} {r k : Nat} {U : Nat → Bool} : ∀ i x, valC ch r k U i = some x → 1 ≤ x := fun i x h => by
  unfold valC at h
  split at h
  · cases h
  · cases h; omega
/-- the greatest number, by the best hole -/
theorem most_fold (ch : Nat → List Nat) (r k : Nat) (U : Nat → Bool) (z : Nat) : ∀ (L : List Nat) (b : Option (Nat × Nat)), L.foldl (fun a i => if U i = true then a else max a (1 + mostC ch r (k + 1) (upd U i))) (max (vOf b) z) = max (vOf (L.foldl (bstS (valC ch r k U)) b)) z
  | [], b => rfl
  | i :: L, b => by
    have e : (if U i = true then max (vOf b) z else max (max (vOf b) z) (1 + mostC ch r (k + 1) (upd U i))) = max (vOf (bstS (valC ch r k U) b i)) z := by
      unfold bstS valC
      by_cases h : U i = true
      · rw [if_pos h, if_pos h]
      · rw [if_neg h, if_neg h]
        rcases b with _ | ⟨y, j⟩
        · simp only [vOf]; omega
        · simp only [vOf]
          by_cases h2 : y < 1 + mostC ch r (k + 1) (upd U i)
          · rw [if_pos h2]; simp only; omega
          · rw [if_neg h2]; simp only; omega
    show L.foldl _ (if U i = true then max (vOf b) z else max (max (vOf b) z) (1 + mostC ch r (k + 1) (upd U i))) = _
    rw [e]
    exact most_fold ch r k U z L (bstS (valC ch r k U) b i)
def bestC (ch : Nat → List Nat) (r k : Nat) (U : Nat → Bool) : Option (Nat × Nat) := (ch k).foldl (bstS (valC ch r k U)) none
theorem most_eq (ch : Nat → List Nat) (r k : Nat) (U : Nat → Bool) : mostC ch (r + 1) k U = max (vOf (bestC ch r k U)) (mostC ch r (k + 1) U) := by
  have h := most_fold ch r k U (mostC ch r (k + 1) U) (ch k) none
  simp only [vOf, Nat.zero_max] at h
  exact h
theorem find_eq (ch : Nat → List Nat) (r k : Nat) (U : Nat → Bool) (T : Nat) (L : List Nat) : L.find? (fun i => !U i && (1 + mostC ch r (k + 1) (upd U i) == T)) = L.find? (fun j => valC ch r k U j == some T) := by
  congr 1
  funext i
  unfold valC
  cases U i <;> simp
theorem best_is (ch : Nat → List Nat) (r k : Nat) (U : Nat → Bool) : BstP (valC ch r k U) (ch k) (bestC ch r k U) := by
  have := bst_all (v := valC ch r k U) val_pos (ch k) [] none (fun j hj => by cases hj)
  exact this
theorem most_le (ch : Nat → List Nat) : ∀ (r k : Nat) (U : Nat → Bool), mostC ch r k U ≤ r
  | 0, _, _ => Nat.le_refl _
  | r + 1, k, U => by
    rw [most_eq]
    have h1 := most_le ch r (k + 1) U
    have h2 := best_is ch r k U
    cases e : bestC ch r k U with
    | none => simp only [vOf]; omega
    | some q =>
      obtain ⟨x, i⟩ := q
      rw [e] at h2
      have h3 := List.find?_some h2.2.1
      have h4 : valC ch r k U i = some x := by simpa using h3
      unfold valC at h4
      split at h4
      · cases h4
      · cases h4
        have := most_le ch r (k + 1) (upd U i)
        simp only [vOf]
        omega
/-- what stands first -/
theorem greedy_take {ch : Nat → List Nat} {r k x i : Nat} {U : Nat → Bool} (h : bestC ch r k U = some (x, i)) (hx : mostC ch r (k + 1) U ≤ x) : mostC ch (r + 1) k U = x ∧ greedyC ch (r + 1) k U = (i : Int) :: greedyC ch r (k + 1) (upd U i) := by
  have e : mostC ch (r + 1) k U = x := by rw [most_eq, h]; simp only [vOf]; omega
  have h2 := best_is ch r k U
  rw [h] at h2
  refine ⟨e, ?_⟩
  rw [greedyC, e, find_eq, h2.2.1]
theorem greedy_none {ch : Nat → List Nat} {r k : Nat} {U : Nat → Bool} (h : vOf (bestC ch r k U) < mostC ch r (k + 1) U ∨ bestC ch r k U = none) : mostC ch (r + 1) k U = mostC ch r (k + 1) U ∧ greedyC ch (r + 1) k U = -1 :: greedyC ch r (k + 1) U := by
  have e : mostC ch (r + 1) k U = mostC ch r (k + 1) U := by
    rw [most_eq]
    rcases h with h | h
    · omega
    · rw [h]; simp only [vOf]; omega
  have h2 := best_is ch r k U
  refine ⟨e, ?_⟩
  rw [greedyC, e, find_eq]
  have hn : (ch k).find? (fun j => valC ch r k U j == some (mostC ch r (k + 1) U)) = none := List.find?_eq_none.2 fun j hj q => by
    have q2 : valC ch r k U j = some (mostC ch r (k + 1) U) := by simpa using q
    cases e2 : bestC ch r k U with
    | none => rw [e2] at h2; rw [h2 j hj] at q2; cases q2
    | some p =>
      obtain ⟨x, i⟩ := p
      rw [e2] at h2 h
      have := h2.1 j hj _ q2
      rcases h with h | h
      · simp only [vOf] at h; omega
      · cases h
  rw [hn]
/-- the state behind the holes of one mould -/
def stC (ch : Nat → List Nat) (r k : Nat) (U : Nat → Bool) (now : List Int) (c : Int) (s : Int × List Int) : Option (Nat × Nat) → Int × List Int
  | none => s
  | some (x, i) => if s.1 < c + x then (c + x, now ++ (i : Int) :: greedyC ch r (k + 1) (upd U i)) else s
theorem visit_fold (ch : Nat → List Nat) (r k : Nat) (U : Nat → Bool) (now : List Int) (c : Int) (s : Int × List Int)
    (ih : ∀ i s, visitC ch r (k + 1) (upd U i) (now ++ [(i : Int)]) (c + 1) s = if s.1 < c + 1 + mostC ch r (k + 1) (upd U i) then (c + 1 + mostC ch r (k + 1) (upd U i), (now ++ [(i : Int)]) ++ greedyC ch r (k + 1) (upd U i)) else s) :
    ∀ (L : List Nat) (b : Option (Nat × Nat)), L.foldl (fun s i => if U i = true then s else visitC ch r (k + 1) (upd U i) (now ++ [(i : Int)]) (c + 1) s) (stC ch r k U now c s b) = stC ch r k U now c s (L.foldl (bstS (valC ch r k U)) b)
  | [], b => rfl
  | i :: L, b => by
    have e : (if U i = true then stC ch r k U now c s b else visitC ch r (k + 1) (upd U i) (now ++ [(i : Int)]) (c + 1) (stC ch r k U now c s b)) = stC ch r k U now c s (bstS (valC ch r k U) b i) := by
      unfold bstS valC
      by_cases h : U i = true
      · rw [if_pos h, if_pos h]
      · rw [if_neg h, if_neg h, ih]
        generalize hM : mostC ch r (k + 1) (upd U i) = M
        have e1 : c + 1 + (M : Int) = c + ((1 + M : Nat) : Int) := by omega
        have e2 : (now ++ [(i : Int)]) ++ greedyC ch r (k + 1) (upd U i) = now ++ (i : Int) :: greedyC ch r (k + 1) (upd U i) := by simp
        rw [e1, e2]
        rcases b with _ | ⟨y, j⟩
        · rfl
        · by_cases h3 : s.1 < c + (y : Int)
          · have hs : stC ch r k U now c s (some (y, j)) = (c + (y : Int), now ++ (j : Int) :: greedyC ch r (k + 1) (upd U j)) := by simp only [stC]; rw [if_pos h3]
            simp only [hs]
            by_cases h2 : y < 1 + M
            · rw [if_pos (by omega), if_pos h2]
              simp only [stC]
              rw [if_pos (by omega)]
            · rw [if_neg (by omega), if_neg h2, hs]
          · have hs : stC ch r k U now c s (some (y, j)) = s := by simp only [stC]; rw [if_neg h3]
            simp only [hs]
            by_cases h2 : y < 1 + M
            · rw [if_pos h2]
              rfl
            · rw [if_neg h2, hs, if_neg (by omega)]
    show L.foldl _ (if U i = true then stC ch r k U now c s b else visitC ch r (k + 1) (upd U i) (now ++ [(i : Int)]) (c + 1) (stC ch r k U now c s b)) = _
    rw [e]
    exact visit_fold ch r k U now c s ih L (bstS (valC ch r k U) b i)
/-- the search finds the greatest number and the first placing of so many -/
theorem visit_eq (ch : Nat → List Nat) : ∀ (r k : Nat) (U : Nat → Bool) (now : List Int) (c : Int) (s : Int × List Int), visitC ch r k U now c s = if s.1 < c + mostC ch r k U then (c + mostC ch r k U, now ++ greedyC ch r k U) else s
  | 0, k, U, now, c, s => by
    have e0 : mostC ch 0 k U = 0 := rfl
    have e1 : greedyC ch 0 k U = [] := rfl
    have e2 : visitC ch 0 k U now c s = if c ≤ s.1 then s else (c, now) := rfl
    rw [e2]
    simp only [e0, e1]
    by_cases h : c ≤ s.1
    · have h2 : ¬ s.1 < c := by omega
      simp [h, h2]
    · have h2 : s.1 < c := by omega
      simp [h, h2]
  | r + 1, k, U, now, c, s => by
    have hle := most_le ch (r + 1) k U
    rw [visitC]
    by_cases h : c + ((r + 1 : Nat) : Int) ≤ s.1
    · rw [if_pos h, if_neg (by omega)]
    · rw [if_neg h, visit_eq ch r (k + 1) U]
      have hf := visit_fold ch r k U now c s (fun i s => visit_eq ch r (k + 1) (upd U i) _ _ s) (ch k) none
      have hf2 : (ch k).foldl (fun s i => if U i = true then s else visitC ch r (k + 1) (upd U i) (now ++ [(i : Int)]) (c + 1) s) s = stC ch r k U now c s (bestC ch r k U) := hf
      rw [hf2]
      generalize hM : mostC ch r (k + 1) U = M
      cases e : bestC ch r k U with
      | none =>
        obtain ⟨e1, e2⟩ := greedy_none (Or.inr e)
        simp only [e1, e2, hM, stC]
        simp
      | some q =>
        obtain ⟨x, i⟩ := q
        by_cases h3 : s.1 < c + (x : Int)
        · have hs : stC ch r k U now c s (some (x, i)) = (c + (x : Int), now ++ (i : Int) :: greedyC ch r (k + 1) (upd U i)) := by simp only [stC]; rw [if_pos h3]
          simp only [hs]
          by_cases hx : M ≤ x
          · obtain ⟨e1, e2⟩ := greedy_take e (by omega)
            simp only [e1, e2]
            rw [if_neg (by omega), if_pos h3]
          · obtain ⟨e1, e2⟩ := greedy_none (r := r) (k := k) (U := U) (ch := ch) (Or.inl (by rw [e]; simp only [vOf]; omega))
            simp only [e1, e2, hM]
            rw [if_pos (by omega), if_pos (by omega)]
            simp
        · have hs : stC ch r k U now c s (some (x, i)) = s := by simp only [stC]; rw [if_neg h3]
          simp only [hs]
          by_cases hx : M ≤ x
          · obtain ⟨e1, e2⟩ := greedy_take e (by omega)
            simp only [e1, e2]
            rw [if_neg (by omega), if_neg h3]
          · obtain ⟨e1, e2⟩ := greedy_none (r := r) (k := k) (U := U) (ch := ch) (Or.inl (by rw [e]; simp only [vOf]; omega))
            simp only [e1, e2, hM]
            simp
end Go.Proofs.Ytonoeohmpaegdaa
