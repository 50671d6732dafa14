/- Lists of texts in order, each once: put one by one, or sorted. No program in sight. -/
import Derived.Test.YticnpibkpfpojaaGreatRowBase
import Derived.Sort.KeysCollected
import Derived.Sort.Walk0
namespace Go.Proofs.YticnpibkpfpojaaGreat
set_option linter.unusedVariables false
open Go
def RB (a b : List UInt8) : Prop := Op.bytesLess a b = true
theorem rb_iff {a b : List UInt8} : RB a b ↔ a < b := by
  unfold RB
  rw [bytesLess_eq]
  simp
theorem rb_trans {a b c : List UInt8} (h1 : RB a b) (h2 : RB b c) : RB a c := rb_iff.2 (List.lt_trans (rb_iff.1 h1) (rb_iff.1 h2))
theorem rb_irrefl (a : List UInt8) : ¬ RB a a := fun h => List.lt_irrefl a (rb_iff.1 h)
theorem rb_or {a b : List UInt8} (h : Op.bytesLess b a = false) : RB a b ∨ a = b := by
  have := less_total a b
  rw [h] at this
  simp only [Bool.not_false, Bool.or_eq_true, beq_iff_eq] at this
  exact this
/-- x put into a list in order -/
def putS : List (List UInt8) → List UInt8 → List (List UInt8)
  | [], x => [x]
  | y :: r, x => if Op.bytesLess y x = true then y :: putS r x else x :: (y :: r).filter (fun z => !(z == x))
theorem putS_mem (l : List (List UInt8)) (x y : List UInt8) : y ∈ putS l x ↔ y = x ∨ y ∈ l := by
  induction l with
  | nil => simp [putS]
  | cons z r ih =>
    unfold putS
    by_cases h1 : Op.bytesLess z x = true
    · rw [if_pos h1]
      simp only [List.mem_cons, ih]
      constructor
      · rintro (h | h | h)
        · exact Or.inr (Or.inl h)
        · exact Or.inl h
        · exact Or.inr (Or.inr h)
      · rintro (h | h | h)
        · exact Or.inr (Or.inl h)
        · exact Or.inl h
        · exact Or.inr (Or.inr h)
    · rw [if_neg h1, List.mem_cons, List.mem_filter]
      constructor
      · rintro (h | ⟨h, _⟩)
        · exact Or.inl h
        · exact Or.inr h
      · rintro (h | h)
        · exact Or.inl h
        · by_cases e : y = x
          · exact Or.inl e
          · exact Or.inr ⟨h, by simpa using e⟩
theorem putS_sorted {l : List (List UInt8)} (x : List UInt8) (h : l.Pairwise RB) : (putS l x).Pairwise RB := by
  induction l with
  | nil => simp [putS]
  | cons z r ih =>
    obtain ⟨ha, hr⟩ := List.pairwise_cons.1 h
    unfold putS
    by_cases h1 : Op.bytesLess z x = true
    · rw [if_pos h1]
      refine List.pairwise_cons.2 ⟨fun y hy => ?_, ih hr⟩
      rcases (putS_mem r x y).1 hy with rfl | hy
      · exact h1
      · exact ha y hy
    · rw [if_neg h1]
      have h2 : Op.bytesLess z x = false := by simpa using h1
      refine List.pairwise_cons.2 ⟨fun y hy => ?_, h.filter _⟩
      obtain ⟨hy1, hy2⟩ := List.mem_filter.1 hy
      have hne : y ≠ x := by simpa using hy2
      rcases rb_or h2 with h3 | h3
      · rcases List.mem_cons.1 hy1 with rfl | hy1
        · exact h3
        · exact rb_trans h3 (ha y hy1)
      · subst h3
        rcases List.mem_cons.1 hy1 with rfl | hy1
        · exact absurd rfl hne
        · exact ha y hy1
theorem putS_len (l : List (List UInt8)) (x : List UInt8) : (putS l x).length ≤ l.length + 1 := by
  induction l with
  | nil => simp [putS]
  | cons z r ih =>
    unfold putS
    split
    · simp only [List.length_cons]; omega
    · have := List.length_filter_le (fun z => !(z == x)) (z :: r)
      simp only [List.length_cons] at this ⊢
      omega
def putAll (acc l : List (List UInt8)) : List (List UInt8) := l.foldl putS acc
theorem putAll_snoc (acc l : List (List UInt8)) (x : List UInt8) : putAll acc (l ++ [x]) = putS (putAll acc l) x := by simp [putAll]
theorem putAll_mem (y : List UInt8) : ∀ (l acc : List (List UInt8)), y ∈ putAll acc l ↔ y ∈ acc ∨ y ∈ l
  | [], acc => by simp [putAll]
  | x :: r, acc => by
    show y ∈ putAll (putS acc x) r ↔ _
    rw [putAll_mem y r (putS acc x), putS_mem, List.mem_cons]
    constructor
    · rintro ((h | h) | h)
      · exact Or.inr (Or.inl h)
      · exact Or.inl h
      · exact Or.inr (Or.inr h)
    · rintro (h | h | h)
      · exact Or.inl (Or.inr h)
      · exact Or.inl (Or.inl h)
      · exact Or.inr h
theorem putAll_sorted : ∀ (l : List (List UInt8)) {acc : List (List UInt8)}, acc.Pairwise RB → (putAll acc l).Pairwise RB
  | [], _, h => h
  | x :: r, _, h => putAll_sorted r (putS_sorted x h)
theorem putAll_len : ∀ (l acc : List (List UInt8)), (putAll acc l).length ≤ acc.length + l.length
  | [], acc => by simp [putAll]
  | x :: r, acc => by
    have h1 := putAll_len r (putS acc x)
    have h2 := putS_len acc x
    show (putAll (putS acc x) r).length ≤ _
    simp only [List.length_cons]
    omega
theorem rb_nodup {l : List (List UInt8)} (h : l.Pairwise RB) : l.Nodup := h.imp fun {a b} hab e => by subst e; exact rb_irrefl a hab
theorem sort_putAll {l : List (List UInt8)} (h : l.Nodup) : l.mergeSort (fun x y => decide (x ≤ y)) = putAll [] l := by
  have tr : ∀ a b c : List UInt8, decide (a ≤ b) = true → decide (b ≤ c) = true → decide (a ≤ c) = true := fun a b c h1 h2 => by simp only [decide_eq_true_eq] at *; exact List.le_trans h1 h2
  have to : ∀ a b : List UInt8, (decide (a ≤ b) || decide (b ≤ a)) = true := fun a b => by simp only [Bool.or_eq_true, decide_eq_true_eq]; exact List.le_total a b
  have hs := putAll_sorted l (acc := []) List.Pairwise.nil
  refine List.Perm.eq_of_pairwise (le := fun a b => decide (a ≤ b) = true) (fun a b _ _ h1 h2 => ?_) (List.pairwise_mergeSort tr to l) (hs.imp fun {a b} hab => by simp only [decide_eq_true_eq]; exact List.le_of_lt (rb_iff.1 hab)) ((List.mergeSort_perm l _).trans ?_)
  · simp only [decide_eq_true_eq] at h1 h2
    exact List.le_antisymm h1 h2
  · refine (List.perm_ext_iff_of_nodup h (rb_nodup hs)).2 fun y => ?_
    rw [putAll_mem]
    simp
end Go.Proofs.YticnpibkpfpojaaGreat
