/- What FreeFrom reckons: a time is pushed on over the list until nothing pushes it. No program in sight. -/
import Derived.Test.YtaanlkdpconfiaaCheckOp
namespace Go.Proofs.Ytaanlkdpconfiaa
set_option linter.unusedVariables false
open Go.RowKit
def bitOf : Value → Nat
  | .bool true => 1
  | _ => 0
section
variable (p ct cf : Nat → Int) (bay : Int)
def hitB (t : Int) (i : Nat) : Bool := p i == bay && inB t (cf i) (strip (ct i) (cf i) - 1)
def fstep (t : Int) (i : Nat) : Int := if hitB p ct cf bay t i = true then strip (ct i) (cf i) else t
def fpass : Nat → Int → Int
  | 0, t => t
  | n + 1, t => fstep p ct cf bay (fpass n t) n
def flim (n : Nat) : Nat → Int → Int
  | 0, t => t
  | k + 1, t => flim n k (fpass p ct cf bay n t)
end
section
variable {p ct cf : Nat → Int} {bay : Int}
theorem fstep_hit {t : Int} {i : Nat} (h : hitB p ct cf bay t i = true) : fstep p ct cf bay t i = strip (ct i) (cf i) ∧ t < strip (ct i) (cf i) := by
  refine ⟨by simp [fstep, h], ?_⟩
  unfold hitB at h
  have h2 := inB_iff.1 (Bool.and_eq_true _ _ |>.mp h).2
  omega
theorem fstep_not {t : Int} {i : Nat} (h : hitB p ct cf bay t i = false) : fstep p ct cf bay t i = t := by simp [fstep, h]
theorem fstep_le (t : Int) (i : Nat) : t ≤ fstep p ct cf bay t i := by
  cases h : hitB p ct cf bay t i
  · rw [fstep_not h]; omega
  · have := fstep_hit h; omega
theorem fpass_le (k : Nat) (t : Int) : t ≤ fpass p ct cf bay k t := by
  induction k with
  | zero => exact Int.le_refl _
  | succ n ih =>
    have h := fstep_le (p := p) (ct := ct) (cf := cf) (bay := bay) (fpass p ct cf bay n t) n
    have e : fpass p ct cf bay (n + 1) t = fstep p ct cf bay (fpass p ct cf bay n t) n := rfl
    omega
theorem strip_bd {n : Nat} (ho : CastOk n ct cf) {i : Nat} (hi : i < n) : 0 ≤ strip (ct i) (cf i) ∧ strip (ct i) (cf i) ≤ 1054360 := by
  obtain ⟨⟨a, b⟩, c, d⟩ := ho i hi
  have := tt_bd 150 a b
  unfold strip
  omega
theorem fpass_bd {n : Nat} (ho : CastOk n ct cf) {t : Int} (ht : t ≤ 1054360) : ∀ k, k ≤ n → fpass p ct cf bay k t ≤ 1054360
  | 0, _ => ht
  | k + 1, hk => by
    have ih := fpass_bd ho ht k (by omega)
    have e : fpass p ct cf bay (k + 1) t = fstep p ct cf bay (fpass p ct cf bay k t) k := rfl
    rw [e]
    cases h : hitB p ct cf bay (fpass p ct cf bay k t) k
    · rw [fstep_not h]; exact ih
    · rw [(fstep_hit h).1]; exact (strip_bd ho (show k < n by omega)).2
theorem flim_still {n : Nat} {t : Int} (h : fpass p ct cf bay n t = t) : ∀ k, flim p ct cf bay n k t = t
  | 0 => rfl
  | k + 1 => by
    show flim p ct cf bay n k (fpass p ct cf bay n t) = t
    rw [h]
    exact flim_still h k
end
/-- how far the outer loop is: steps are left that lead to R, and there are enough of them -/
def FInv (p ct cf : Nat → Int) (bay : Int) (n : Nat) (R t : Int) (ch : Bool) : Prop :=
  0 ≤ t ∧ t ≤ 1054360 ∧ (ch = false → t = R) ∧ (ch = true → ∃ k : Nat, flim p ct cf bay n k t = R ∧ 1054361 ≤ (k : Int) + t)
/-- .. and within a pass, behind k elements -/
def GInv (p ct cf : Nat → Int) (bay : Int) (n : Nat) (R t0 t : Int) (ch : Bool) (k : Nat) : Prop :=
  t = fpass p ct cf bay k t0 ∧ t0 ≤ t ∧ t ≤ 1054360 ∧ (ch = true ↔ t0 < t)
section
variable {p ct cf : Nat → Int} {bay R t0 t : Int} {n k : Nat} {ch : Bool}
theorem GInv.start (h1 : t0 ≤ 1054360) : GInv p ct cf bay n R t0 t0 false 0 := ⟨rfl, Int.le_refl _, h1, by simp⟩
theorem GInv.hit (h : GInv p ct cf bay n R t0 t ch k) (ho : CastOk n ct cf) (hk : k < n) (hh : hitB p ct cf bay t k = true) : GInv p ct cf bay n R t0 (strip (ct k) (cf k)) true (k + 1) := by
  obtain ⟨rfl, h1, h2, h3⟩ := h
  obtain ⟨e, l⟩ := fstep_hit hh
  exact ⟨e.symm, by omega, (strip_bd ho hk).2, by simp; omega⟩
theorem GInv.miss (h : GInv p ct cf bay n R t0 t ch k) (hh : hitB p ct cf bay t k = false) : GInv p ct cf bay n R t0 t ch (k + 1) := by
  obtain ⟨rfl, h1, h2, h3⟩ := h
  exact ⟨(fstep_not hh).symm, h1, h2, h3⟩
theorem GInv.done (h : GInv p ct cf bay n R t0 t ch n) (hf : FInv p ct cf bay n R t0 true) : FInv p ct cf bay n R t ch ∧ (1054361 - t).toNat + ch.toNat < (1054361 - t0).toNat + 1 := by
  obtain ⟨rfl, h1, h2, h3⟩ := h
  obtain ⟨f0, f1, f2, f3⟩ := hf
  obtain ⟨m, hm, hk⟩ := f3 rfl
  cases ch
  · have e : fpass p ct cf bay n t0 = t0 := by
      have : ¬ t0 < fpass p ct cf bay n t0 := fun q => by simpa using h3.2 q
      omega
    refine ⟨⟨by omega, h2, fun _ => ?_, fun q => by cases q⟩, by rw [e]; simp⟩
    rw [e, ← hm, flim_still e m]
  · have l := h3.1 rfl
    cases m with
    | zero => omega
    | succ j => exact ⟨⟨by omega, h2, fun q => (by cases q), fun _ => ⟨j, hm, by omega⟩⟩, by simp; omega⟩
theorem FInv.start (h0 : 0 ≤ t) (h1 : t ≤ 1000000) : FInv p ct cf bay n (flim p ct cf bay n 1054361 t) t true := ⟨h0, by omega, fun q => (by cases q), fun _ => ⟨1054361, rfl, by omega⟩⟩
end
end Go.Proofs.Ytaanlkdpconfiaa
