/- Whether melts are possible with ingots: in the reference, and both whole. -/
import Derived.Test.YtkilfapknemjhaaEnough
namespace Go.Proofs.Ytkilfapknemjhaa
set_option linter.unusedVariables false
open Go.RowKit

noncomputable def okIngs (s0 : Nat → ByteArray) (a1 a2 a3 a4 : Nat → Int) (n : Nat) : Bool := allB (goodAt (fun i => ingB (s0 i) (a1 i) (a2 i) (a3 i) (a4 i)) s0) n && decide ((n : Int) ≤ 16)
theorem okIngs_srt {s0 : Nat → ByteArray} {a1 a2 a3 a4 : Nat → Int} {n : Nat} (h : okIngs s0 a1 a2 a3 a4 n = true) : Srt s0 n := srt_of fun k hk => by
  unfold okIngs at h
  simp only [Bool.and_eq_true] at h
  have h1 := allB_of h.1 (k + 1) hk
  unfold goodAt at h1
  simp only [Bool.and_eq_true] at h1
  have h2 := h1.2
  show Op.bytesLess (s0 k).toList (s0 (k + 1)).toList = true
  simpa using h2
theorem okIngs_bd {s0 : Nat → ByteArray} {a1 a2 a3 a4 : Nat → Int} {n : Nat} (h : okIngs s0 a1 a2 a3 a4 n = true) : IngB n a1 a3 a4 ∧ n ≤ 16 := by
  unfold okIngs at h
  simp only [Bool.and_eq_true, decide_eq_true_eq] at h
  refine ⟨fun i hi => ?_, by omega⟩
  have h1 := allB_of h.1 i hi
  unfold goodAt at h1
  simp only [Bool.and_eq_true] at h1
  obtain ⟨b1, b2, b3, b4, b5⟩ := ingB_of h1.1
  exact ⟨⟨by omega, by omega⟩, b3, b4⟩
theorem okIngs_pos {s0 : Nat → ByteArray} {a1 a2 a3 a4 : Nat → Int} {n : Nat} (h : okIngs s0 a1 a2 a3 a4 n = true) : ∀ i, i < n → 1 ≤ a1 i := fun i hi => by
  unfold okIngs at h
  simp only [Bool.and_eq_true, decide_eq_true_eq] at h
  have h1 := allB_of h.1 i hi
  unfold goodAt at h1
  simp only [Bool.and_eq_true] at h1
  obtain ⟨b1, b2, b3, b4, b5⟩ := ingB_of h1.1
  exact b1.1
theorem okM_q {g : Nat → MeltV} {m : Nat} (h : okMelts g m = true) : ∀ i, i < m → (g i).n ≤ 16 := fun i hi => by
  unfold okMelts meltsOk at h
  simp only [Bool.and_eq_true] at h
  have h2 := allB_of h.1 i hi
  unfold meltAt' goodAt meltV at h2
  simp only [Bool.and_eq_true, decide_eq_true_eq] at h2
  have := h2.1.1.2.2.1
  omega
theorem allB_and (p q : Nat → Bool) : ∀ m, (allB p m && allB q m) = allB (fun i => p i && q i) m
  | 0 => rfl
  | m + 1 => by
    have ih := allB_and p q m
    simp only [allB]
    rw [← ih]
    cases allB p m <;> cases allB q m <;> cases p m <;> cases q m <;> rfl
def posOne (s0 : Nat → ByteArray) (n : Nat) (a1 : Nat → Int) (x : MeltV) : Bool := allHave s0 n x.ss x.n && !decide (mostV s0 n a1 x.ss x.n < x.ma)
end Go.Proofs.Ytkilfapknemjhaa
