/- LeftIn, in the program and in the reference. -/
import Derived.Test.YticnpibkpfpojaaGreatLeft
import Derived.Deep.RegionHeld3
namespace Go.Proofs.YticnpibkpfpojaaGreat
set_option linter.unusedVariables false
open Go.RowKit

theorem fno_hit2 {ok : Nat → Bool} : ∀ {n : Nat}, allB ok n = false → ∃ k, k < n ∧ fno ok n = (k : Int) ∧ ok k = false
  | 0, h => by cases h
  | n + 1, h => by
    cases q : allB ok n
    · obtain ⟨k, h1, h2, h3⟩ := fno_hit2 q
      refine ⟨k, by omega, ?_, h3⟩
      unfold fno
      rw [if_neg (by rw [q]; simp)]
      exact h2
    · have h2 : ok n = false := by simpa [allB, q] using h
      exact ⟨n, by omega, fno_hit (by omega) q h2, h2⟩
/-- the place of the first melt with an id -/
def mIx (ids : Nat → ByteArray) (m : Nat) (x : ByteArray) : Nat := (fno (fun q => !eqS (ids q) x) m).toNat
theorem mIx_of {ids : Nat → ByteArray} {m : Nat} {x : ByteArray} (h : hasId ids m x = true) : mIx ids m x < m ∧ fno (fun q => !eqS (ids q) x) m = (mIx ids m x : Int) ∧ eqS (ids (mIx ids m x)) x = true := by
  have h1 : allB (fun q => !eqS (ids q) x) m = false := by unfold hasId anyB at h; simpa using h
  obtain ⟨k, h2, h3, h4⟩ := fno_hit2 h1
  have e : mIx ids m x = k := by unfold mIx; rw [h3]; simp
  rw [e]
  exact ⟨h2, h3, by simpa using h4⟩
noncomputable def lfC (g : Nat → MeltV) (m : Nat) (f : Nat → BellV) (n : Nat) (x : ByteArray) : Int :=
  if (okMelts g m && okBells f n) = true then (if (hasId (fun q => (g q).id) m x && allKnown (fun q => (g q).id) m f n) = true then (if (g (mIx (fun q => (g q).id) m x)).ma - tkB f x n < 0 then 6 else 0) else 3) else 1
noncomputable def lfV (g : Nat → MeltV) (m : Nat) (f : Nat → BellV) (n : Nat) (x : ByteArray) : Int := if lfC g m f n x = 0 then (g (mIx (fun q => (g q).id) m x)).ma - tkB f x n else 0
theorem okM_ma {g : Nat → MeltV} {m i : Nat} (h : okMelts g m = true) (hi : i < m) : 0 ≤ (g i).ma ∧ (g i).ma ≤ 320000000 := by
  unfold okMelts meltsOk at h
  simp only [Bool.and_eq_true] at h
  have h2 := allB_of h.1 i hi
  unfold meltAt' goodAt meltV at h2
  simp only [Bool.and_eq_true] at h2
  have := inB_iff.1 h2.1.1.2.2.2.2
  omega
theorem okM_srt {g : Nat → MeltV} {m : Nat} (h : okMelts g m = true) : Srt (fun q => (g q).id) m := by
  unfold okMelts at h
  simp only [Bool.and_eq_true] at h
  exact meltsOk_srt h.1
theorem tkB_congr (f : Nat → BellV) {a b : ByteArray} (h : ∀ y i, tkS y a i = tkS y b i) : ∀ n, tkB f a n = tkB f b n
  | 0 => rfl
  | n + 1 => by
    show tkB f a n + tkS (f n) a (f n).n = tkB f b n + tkS (f n) b (f n).n
    rw [tkB_congr f h n, h]
end Go.Proofs.YticnpibkpfpojaaGreat
