/- Words for 'one of the first n' and 'the first that is not so'. No program in sight. -/
import Derived.Test.YticnpibkpfpojaaGreatDoorRowBase
namespace Go.Proofs.YticnpibkpfpojaaGreatDoor
set_option linter.unusedVariables false
/-- one of the first n -/
def anyB (p : Nat → Bool) (n : Nat) : Bool := !allB (fun i => !p i) n
theorem anyB_hit {p : Nat → Bool} {n k : Nat} (hk : k < n) (h : p k = true) : anyB p n = true := by
  unfold anyB
  rw [allB_no hk (show (!p k) = false by rw [h]; rfl)]
  rfl
theorem anyB_no {p : Nat → Bool} {n : Nat} (h : ∀ i, i < n → p i = false) : anyB p n = false := by
  unfold anyB
  rw [allB_yes (fun i hi => by rw [h i hi]; rfl)]
  rfl
theorem anyB_succ (p : Nat → Bool) (n : Nat) : anyB p (n + 1) = (anyB p n || p n) := by
  show (!(allB (fun i => !p i) n && !p n)) = ((!allB (fun i => !p i) n) || p n)
  cases allB (fun i => !p i) n <;> cases p n <;> rfl
theorem anyB_of {p : Nat → Bool} {n : Nat} (h : anyB p n = true) : ∃ i, i < n ∧ p i = true := by
  induction n with
  | zero => cases h
  | succ m ih =>
    rw [anyB_succ, Bool.or_eq_true] at h
    rcases h with h | h
    · obtain ⟨i, hi, hp⟩ := ih h
      exact ⟨i, by omega, hp⟩
    · exact ⟨m, by omega, h⟩
/-- the index of the first that is not so, or -1 -/
def fno (ok : Nat → Bool) : Nat → Int
  | 0 => -1
  | n + 1 => if allB ok n = true then (if ok n = true then -1 else n) else fno ok n
theorem fno_all {ok : Nat → Bool} {n : Nat} (h : allB ok n = true) : fno ok n = -1 := by
  cases n with
  | zero => rfl
  | succ m =>
    have h2 : allB ok m = true ∧ ok m = true := by simpa [allB] using h
    simp [fno, h2.1, h2.2]
theorem fno_hit {ok : Nat → Bool} {n k : Nat} (hk : k < n) (h : allB ok k = true) (hq : ok k = false) : fno ok n = k := by
  induction n with
  | zero => omega
  | succ m ih =>
    rcases Nat.lt_or_ge k m with h1 | h1
    · unfold fno
      rw [if_neg (by rw [allB_no h1 hq]; simp)]
      exact ih h1
    · obtain rfl : k = m := by omega
      simp [fno, h, hq]
theorem fno_neg {ok : Nat → Bool} {n : Nat} : decide (fno ok n < 0) = allB ok n := by
  cases h : allB ok n
  · refine decide_eq_false ?_
    induction n with
    | zero => cases h
    | succ m ih =>
      cases q : allB ok m
      · have := ih q
        unfold fno
        rw [if_neg (by rw [q]; simp)]
        exact this
      · have h2 : ok m = false := by simpa [allB, q] using h
        rw [fno_hit (Nat.lt_succ_self m) q h2]
        omega
  · rw [fno_all h]; rfl
end Go.Proofs.YticnpibkpfpojaaGreatDoor
