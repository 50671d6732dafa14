/- Lists of numbers in order, each once: put one by one, or sorted and made one of each. No program in sight. -/
import Derived.Test.YtccjgeoebbnkoaaRowBase
import Derived.Lib.SlicesCompact
namespace Go.Proofs.Ytccjgeoebbnkoaa
set_option linter.unusedVariables false
open Go.Lib
/-- x put into a list in order -/
def putF : List Int → Int → List Int
  | [], x => [x]
  | y :: r, x => if x ≤ y then (if x < y then x :: y :: r else y :: r) else y :: putF r x
theorem putF_mem (l : List Int) (x y : Int) : y ∈ putF l x ↔ y = x ∨ y ∈ l := by
  induction l with
  | nil => simp [putF]
  | cons z r ih =>
    unfold putF
    by_cases h1 : x ≤ z
    · rw [if_pos h1]
      by_cases h2 : x < z
      · rw [if_pos h2]; simp
      · rw [if_neg h2]
        have : x = z := by omega
        subst this
        simp
    · rw [if_neg h1]
      simp only [List.mem_cons, ih]
      constructor
      · rintro (h | h | h)
        · exact Or.inr (Or.inl h)
        · exact Or.inl h
        · exact Or.inr (Or.inr h)
      · rintro (h | h | h)
        · exact Or.inr (Or.inl h)
        · exact Or.inl h
        · exact Or.inr (Or.inr h)
theorem putF_sorted {l : List Int} (x : Int) (h : l.Pairwise (· < ·)) : (putF l x).Pairwise (· < ·) := by
  induction l with
  | nil => simp [putF]
  | cons z r ih =>
    obtain ⟨ha, hr⟩ := List.pairwise_cons.1 h
    unfold putF
    by_cases h1 : x ≤ z
    · rw [if_pos h1]
      by_cases h2 : x < z
      · rw [if_pos h2]
        refine List.pairwise_cons.2 ⟨fun y hy => ?_, h⟩
        rcases List.mem_cons.1 hy with rfl | hy
        · exact h2
        · have := ha y hy; omega
      · rw [if_neg h2]; exact h
    · rw [if_neg h1]
      refine List.pairwise_cons.2 ⟨fun y hy => ?_, ih hr⟩
      rcases (putF_mem r x y).1 hy with rfl | hy
      · omega
      · exact ha y hy
theorem putF_len (l : List Int) (x : Int) : (putF l x).length ≤ l.length + 1 := by
  induction l with
  | nil => simp [putF]
  | cons z r ih =>
    unfold putF
    split
    · split <;> simp
    · simp only [List.length_cons]; omega
def putsF (p : Nat → Int) : Nat → List Int
  | 0 => []
  | k + 1 => putF (putsF p k) (p k)
theorem putsF_len (p : Nat → Int) : ∀ k, (putsF p k).length ≤ k
  | 0 => Nat.le_refl _
  | k + 1 => by
    have := putsF_len p k
    have := putF_len (putsF p k) (p k)
    show (putF (putsF p k) (p k)).length ≤ k + 1
    omega
theorem putsF_sorted (p : Nat → Int) : ∀ k, (putsF p k).Pairwise (· < ·)
  | 0 => List.Pairwise.nil
  | k + 1 => putF_sorted _ (putsF_sorted p k)
theorem putsF_mem (p : Nat → Int) (y : Int) : ∀ k, y ∈ putsF p k ↔ ∃ i, i < k ∧ y = p i
  | 0 => by simp [putsF]
  | k + 1 => by
    show y ∈ putF (putsF p k) (p k) ↔ _
    rw [putF_mem, putsF_mem p y k]
    constructor
    · rintro (h | ⟨i, hi, h⟩)
      · exact ⟨k, by omega, h⟩
      · exact ⟨i, by omega, h⟩
    · rintro ⟨i, hi, h⟩
      by_cases hk : i = k
      · subst hk; exact Or.inl h
      · exact Or.inr ⟨i, by omega, h⟩
theorem uniq_sorted {l m : List Int} (hl : l.Pairwise (· < ·)) (hm : m.Pairwise (· < ·)) (h : ∀ y, y ∈ l ↔ y ∈ m) : l = m := by
  induction l generalizing m with
  | nil =>
    cases m with
    | nil => rfl
    | cons b s => exact absurd ((h b).2 (by simp)) (by simp)
  | cons a r ih =>
    cases m with
    | nil => exact absurd ((h a).1 (by simp)) (by simp)
    | cons b s =>
      obtain ⟨ha, hr⟩ := List.pairwise_cons.1 hl
      obtain ⟨hb, hs⟩ := List.pairwise_cons.1 hm
      have e : a = b := by
        rcases List.mem_cons.1 ((h a).1 (by simp)) with q | q
        · exact q
        · rcases List.mem_cons.1 ((h b).2 (by simp)) with q2 | q2
          · exact q2.symm
          · have h1 := hb a q
            have h2 := ha b q2
            omega
      subst e
      congr 1
      refine ih hr hs fun y => ?_
      have hy := h y
      simp only [List.mem_cons] at hy
      constructor
      · intro q
        rcases hy.1 (Or.inr q) with q2 | q2
        · have := ha y q; omega
        · exact q2
      · intro q
        rcases hy.2 (Or.inr q) with q2 | q2
        · have := hb y q; omega
        · exact q2
theorem toArr_get (zs : List Int) {i : Nat} (h : i < zs.length) : (zs.toArray[i]!) = zs[i] := by simp [h]
theorem compact_mem (zs : List Int) (y : Int) : y ∈ compact zs ↔ y ∈ zs := by
  unfold compact compactUpTo
  simp only [List.mem_map, List.mem_filter, List.mem_range]
  constructor
  · rintro ⟨i, ⟨hi, -⟩, rfl⟩
    rw [toArr_get zs hi]
    exact List.getElem_mem hi
  · intro hy
    obtain ⟨i, hi, rfl⟩ := List.getElem_of_mem hy
    have : ∀ i, (hi : i < zs.length) → ∃ a, (a < zs.length ∧ keeps zs.toArray a = true) ∧ zs.toArray[a]! = zs[i] := by
      intro i
      induction i with
      | zero => intro hi; exact ⟨0, ⟨hi, by simp [keeps]⟩, toArr_get zs hi⟩
      | succ j ih =>
        intro hi
        by_cases hk : keeps zs.toArray (j + 1) = true
        · exact ⟨j + 1, ⟨hi, hk⟩, toArr_get zs hi⟩
        · obtain ⟨a, h1, h2⟩ := ih (by omega)
          refine ⟨a, h1, h2.trans ?_⟩
          simp only [keeps, decide_eq_true_eq, not_or, Nat.add_sub_cancel] at hk
          have e := Decidable.of_not_not hk.2
          rw [toArr_get zs hi, toArr_get zs (show j < zs.length by omega)] at e
          exact e.symm
    exact this i hi
theorem compact_sorted {zs : List Int} (h : zs.Pairwise (· ≤ ·)) : (compact zs).Pairwise (· < ·) := by
  have hle : ∀ i j, (hi : i < zs.length) → (hj : j < zs.length) → i ≤ j → zs[i] ≤ zs[j] := by
    intro i j hi hj hij
    rcases Nat.lt_or_ge i j with q | q
    · exact (List.pairwise_iff_getElem.1 h) i j hi hj q
    · obtain rfl : i = j := by omega
      exact Int.le_refl _
  unfold compact compactUpTo
  rw [List.pairwise_map]
  refine ((List.pairwise_lt_range (n := zs.length)).filter _).imp_of_mem ?_
  intro i j hi hj hij
  simp only [List.mem_filter, List.mem_range] at hi hj
  have hk := hj.2
  simp only [keeps, decide_eq_true_eq] at hk
  rcases hk with hk | hk
  · omega
  · rw [toArr_get zs hj.1, toArr_get zs (show j - 1 < zs.length by omega)] at hk
    rw [toArr_get zs hi.1, toArr_get zs hj.1]
    have h1 := hle i (j - 1) hi.1 (by omega) (by omega)
    have h2 := hle (j - 1) j (by omega) hj.1 (by omega)
    omega
def rowL (p : Nat → Int) (n : Nat) : List Int := (List.range n).map p
theorem rowL_len (p : Nat → Int) (n : Nat) : (rowL p n).length = n := by simp [rowL]
theorem sort_puts (p : Nat → Int) (n : Nat) : compact ((rowL p n).mergeSort fun x y => decide (x ≤ y)) = putsF p n := by
  have hs : ((rowL p n).mergeSort fun x y => decide (x ≤ y)).Pairwise (· ≤ ·) := by
    have := List.pairwise_mergeSort (le := fun x y : Int => decide (x ≤ y)) (fun a b c h1 h2 => by simp at *; omega) (fun a b => by simp; omega) (rowL p n)
    simpa using this
  refine uniq_sorted (compact_sorted hs) (putsF_sorted p n) fun y => ?_
  rw [compact_mem, (List.mergeSort_perm _ _).mem_iff, putsF_mem]
  simp only [rowL, List.mem_map, List.mem_range]
  constructor
  · rintro ⟨i, hi, e⟩; exact ⟨i, hi, e.symm⟩
  · rintro ⟨i, hi, e⟩; exact ⟨i, hi, e.symm⟩
end Go.Proofs.Ytccjgeoebbnkoaa
