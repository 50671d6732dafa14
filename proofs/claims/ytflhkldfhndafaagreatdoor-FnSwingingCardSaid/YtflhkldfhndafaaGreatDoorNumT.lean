/- Numbers in decimal, read back: which texts spell a number as it is written. No program in sight. -/
import Derived.Test.YtflhkldfhndafaaGreatDoorRowBase
import Derived.Lib.ItoaLen
import Derived.Lib.ItoaMem
import Derived.Lib.AtoiTie
import Derived.Lib.ParseIntBTie
import Derived.Lib.Strings
namespace Go.Proofs.YtflhkldfhndafaaGreatDoor
set_option linter.unusedVariables false
open Go.Lib
theorem decFrom_app (l m : List UInt8) : ∀ a, decFrom a (l ++ m) = (decFrom a l).bind fun v => decFrom v m := by
  induction l with
  | nil => intro a; rfl
  | cons b r ih =>
    intro a
    simp only [List.cons_append, decFrom]
    cases digitVal b with
    | none => rfl
    | some d => exact ih _
theorem digitVal_dig {d : Nat} (h : d < 10) : digitVal (UInt8.ofNat (48 + d)) = some d := by
  have e : (UInt8.ofNat (48 + d)).toNat = 48 + d := by simp [UInt8.toNat_ofNat']; omega
  unfold digitVal
  rw [e, if_pos (by omega)]
  simp
theorem decFrom_digits (u : Nat) : decFrom 0 (decDigits u) = some u := by
  induction u using Nat.strongRecOn with
  | ind u ih =>
    by_cases h : u < 10
    · rw [decDigits_one h]
      simp only [decFrom, digitVal_dig h, Nat.zero_mul, Nat.zero_add]
    · rw [decDigits, dif_neg h, decFrom_app, ih (u / 10) (by omega)]
      simp only [Option.bind_some, decFrom, digitVal_dig (show u % 10 < 10 by omega)]
      congr 1
      omega
theorem decDigits_ne (u : Nat) : decDigits u ≠ [] := by
  rw [decDigits]
  split <;> simp
theorem digits_byte (u : Nat) : ∀ b ∈ decDigits u, 48 ≤ b.toNat ∧ b.toNat ≤ 57 := by
  intro b hb
  obtain ⟨k, hk, e⟩ := List.getElem_of_mem hb
  obtain ⟨d, hd⟩ := digit_of_decFrom _ 0 u (decFrom_digits u) k b (by rw [List.getElem?_eq_getElem hk, e])
  have := digitVal_eq hd
  omega
theorem decDigits_zero : decDigits 0 = [48] := by rw [decDigits_one (by omega)]; rfl
theorem head_append_ne {α : Type} {l m : List α} (h : l ≠ []) : (l ++ m).head? = l.head? := by
  cases l with
  | nil => exact absurd rfl h
  | cons a r => rfl
theorem digits_head (u : Nat) (h : 0 < u) : (decDigits u).head? ≠ some 48 := by
  induction u using Nat.strongRecOn with
  | ind u ih =>
    by_cases h1 : u < 10
    · rw [decDigits_one h1]
      intro e
      have e2 : UInt8.ofNat (48 + u) = 48 := by simpa using e
      have e3 := congrArg UInt8.toNat e2
      simp [UInt8.toNat_ofNat'] at e3
      omega
    · rw [decDigits, dif_neg h1, head_append_ne (decDigits_ne _)]
      exact ih (u / 10) (by omega) (by omega)
/-- digits without a 0 ahead are the digits of the number that they spell -/
theorem digits_canon (l : List UInt8) : ∀ v, l ≠ [] → decFrom 0 l = some v → (l.head? ≠ some 48 ∨ l.length = 1) → decDigits v = l := by
  induction hn : l.length generalizing l with
  | zero => intro v h; exact absurd (List.eq_nil_of_length_eq_zero hn) h
  | succ n ih =>
    intro v hne hv hh
    have hsp := (List.dropLast_concat_getLast hne).symm
    obtain ⟨r, c, rfl⟩ : ∃ r c, l = r ++ [c] := ⟨_, _, hsp⟩
    rw [decFrom_app] at hv
    cases hr : decFrom 0 r with
    | none => rw [hr] at hv; cases hv
    | some a =>
      rw [hr] at hv
      simp only [Option.bind_some, decFrom] at hv
      cases hd : digitVal c with
      | none => rw [hd] at hv; cases hv
      | some d =>
        rw [hd] at hv
        have hv2 : a * 10 + d = v := by simpa using hv
        obtain ⟨q1, q2, q3⟩ := digitVal_eq hd
        have hc : c = UInt8.ofNat (48 + d) := by
          apply UInt8.toNat_inj.1
          rw [UInt8.toNat_ofNat']
          omega
        have hd10 : d < 10 := by omega
        by_cases hr0 : r = []
        · subst hr0
          have ha : a = 0 := by simpa [decFrom] using hr.symm
          subst ha
          rw [← hv2, decDigits_one (by omega), hc]
          simp
        · have hrl : r.length = n := by simpa using hn
          have hh2 : r.head? ≠ some 48 := by
            rcases hh with hh | hh
            · rwa [head_append_ne hr0] at hh
            · have : r.length = 0 := by omega
              exact absurd (List.eq_nil_of_length_eq_zero this) hr0
          have e := ih r hrl a hr0 hr (Or.inl hh2)
          have ha : 0 < a := by
            rcases Nat.eq_zero_or_pos a with h0 | h0
            · rw [h0, decDigits_zero] at e
              rw [← e] at hh2
              exact absurd rfl hh2
            · exact h0
          rw [decDigits, dif_neg (by omega), show v / 10 = a by omega, e, show v % 10 = d by omega, hc]
theorem digits_lt {u : Nat} (h : (decDigits u).length ≤ 18) : u < 1000000000000000000 := decFrom_lt18 (decFrom_digits u) h
theorem digits_le {u : Nat} (h : u < 1000000000000000000) : (decDigits u).length ≤ 18 := by
  rw [decDigits_length]
  rcases Nat.lt_or_ge (nDigits u) 19 with h1 | h1
  · omega
  · obtain ⟨k, hk⟩ : ∃ k, nDigits u = k + 1 := ⟨nDigits u - 1, by omega⟩
    have h2 : 10 ^ k ≤ u := by
      rcases Nat.lt_or_ge u (10 ^ k) with h3 | h3
      · exfalso
        rcases Nat.eq_zero_or_pos u with h0 | h0
        · subst h0; have := nDigits_small (u := 0) (by omega); omega
        · have : ∀ k u, 0 < u → u < 10 ^ k → nDigits u ≤ k := by
            intro k
            induction k with
            | zero => intro u a b; simp at b; omega
            | succ k ih =>
              intro u a b
              by_cases hu : u < 10
              · rw [nDigits_small hu]; omega
              · rw [nDigits_big hu]
                have := ih (u / 10) (by omega) (by rw [Nat.pow_succ] at b; omega)
                omega
          have := this k u h0 h3
          omega
      · exact h3
    have h4 : 10 ^ 18 ≤ 10 ^ k := Nat.pow_le_pow_right (by omega) (by omega)
    have h5 : (10 : Nat) ^ 18 = 1000000000000000000 := by decide
    omega
def numR (n : Int) : Prop := -1000000000000000000 < n ∧ n < 1000000000000000000
theorem itoa_cases (n : Int) : (0 ≤ n ∧ ∃ u : Nat, n = u ∧ itoa n = decDigits u) ∨ (n < 0 ∧ ∃ u : Nat, 0 < u ∧ n = -(u : Int) ∧ itoa n = 45 :: decDigits u) := by
  by_cases h : 0 ≤ n
  · obtain ⟨u, rfl⟩ := Int.eq_ofNat_of_zero_le h
    exact Or.inl ⟨h, u, rfl, itoa_nonneg u⟩
  · obtain ⟨u, hu⟩ := Int.eq_ofNat_of_zero_le (show 0 ≤ -n by omega)
    refine Or.inr ⟨by omega, u, by omega, by omega, ?_⟩
    rw [show n = -(u : Int) by omega]
    exact itoa_neg u (by omega)
theorem atoi_itoa (n : Int) : atoi (itoa n) = some n := by
  rcases itoa_cases n with ⟨_, u, rfl, e⟩ | ⟨_, u, hu, rfl, e⟩
  · rw [e]
    have hne := decDigits_ne u
    cases hl : decDigits u with
    | nil => exact absurd hl hne
    | cons b r =>
      have hb := digits_byte u b (by rw [hl]; simp)
      have h1 : (b == 45) = false := by
        apply beq_eq_false_iff_ne.2
        intro q; subst q; revert hb; decide
      have h2 : (b == 43) = false := by
        apply beq_eq_false_iff_ne.2
        intro q; subst q; revert hb; decide
      have h3 := decFrom_digits u
      rw [hl] at h3
      simp [atoi, h1, h2, decNat, h3]
  · rw [e]
    have h3 := decFrom_digits u
    have hne := decDigits_ne u
    simp [atoi, decNat, h3, hne]
theorem parse_itoa {n : Int} (h : numR n) : parseIntB 64 (itoa n) = .ok n := by
  rw [parseIntB_64]
  unfold numR at h
  rcases itoa_cases n with ⟨_, u, rfl, e⟩ | ⟨_, u, hu, rfl, e⟩
  · have hl : (itoa (u : Int)).length ≤ 18 := by rw [e]; exact digits_le (by omega)
    rw [atoiAll_short _ hl, atoi_itoa]
    rfl
  · have hl : (decDigits u).length ≤ 18 := digits_le (by omega)
    rw [e, atoiAll_minus, signed_short hl]
    simp [decNat, decDigits_ne, decFrom_digits, NumEnd.ofOption]
/-- the number that a text spells as it is written; none: it is no such text, or one of more than 18 digits -/
noncomputable def numO (l : List UInt8) : Option Int := @ite _ (∃ n, numR n ∧ itoa n = l) (Classical.propDecidable _) (atoi l) none
theorem numO_itoa {n : Int} (h : numR n) : numO (itoa n) = some n := by
  unfold numO
  rw [if_pos ⟨n, h, rfl⟩, atoi_itoa]
theorem numO_some {l : List UInt8} {n : Int} (h : numO l = some n) : numR n ∧ itoa n = l := by
  unfold numO at h
  split at h
  · rename_i hq
    obtain ⟨m, h1, rfl⟩ := hq
    rw [atoi_itoa] at h
    obtain rfl : m = n := by simpa using h
    exact ⟨h1, rfl⟩
  · cases h
theorem numO_none {l : List UInt8} (h : ∀ n, numR n → itoa n ≠ l) : numO l = none := by
  unfold numO
  rw [if_neg (fun ⟨n, a, b⟩ => h n a b)]
/-- what stands behind a '-' -/
def magL (l : List UInt8) : List UInt8 := trimPrefix l [45]
theorem mag_itoa (n : Int) : ∃ u : Nat, magL (itoa n) = decDigits u ∧ (numR n ↔ u < 1000000000000000000) := by
  unfold numR
  rcases itoa_cases n with ⟨_, u, rfl, e⟩ | ⟨_, u, hu, rfl, e⟩
  · refine ⟨u, ?_, by omega⟩
    rw [e]
    have hne := decDigits_ne u
    cases hl : decDigits u with
    | nil => exact absurd hl hne
    | cons b r =>
      have hb := digits_byte u b (by rw [hl]; simp)
      have h1 : ¬ 45 = b := by intro q; subst q; revert hb; decide
      simp [magL, trimPrefix, hasPrefix, h1]
  · refine ⟨u, ?_, by omega⟩
    rw [e]
    simp [magL, trimPrefix, hasPrefix]
theorem numO_long {l : List UInt8} (h : (magL l).length < 1 ∨ 18 < (magL l).length) : numO l = none := numO_none fun n hn e => by
  obtain ⟨u, h1, h2⟩ := mag_itoa n
  rw [e] at h1
  rw [h1] at h
  have := digits_le (h2.1 hn)
  have h3 : (decDigits u).length ≠ 0 := fun q => decDigits_ne u (List.eq_nil_of_length_eq_zero q)
  omega
theorem numO_parsed {l : List UInt8} {v : Int} (h : parseIntB 64 l = .ok v) (hs : (magL l).length ≤ 18) : numO l = if itoa v = l then some v else none := by
  by_cases e : itoa v = l
  · rw [if_pos e]
    obtain ⟨u, h1, h2⟩ := mag_itoa v
    rw [e] at h1
    rw [h1] at hs
    rw [← e]
    exact numO_itoa (h2.2 (digits_lt hs))
  · rw [if_neg e]
    refine numO_none fun n hn q => ?_
    have h3 := parse_itoa hn
    rw [q, h] at h3
    have : v = n := by injection h3
    exact e (this ▸ q)
theorem numO_unparsed {l : List UInt8} (h : ∀ v, parseIntB 64 l ≠ .ok v) : numO l = none := numO_none fun n hn q => h n (q ▸ parse_itoa hn)
/-- .. found digit by digit -/
theorem numO_digits {m : List UInt8} {v : Nat} (hne : m ≠ []) (hv : decFrom 0 m = some v) (hl : m.length ≤ 18) (hh : m.head? ≠ some 48 ∨ m.length = 1) : numO m = some (v : Int) := by
  have e := digits_canon m v hne hv hh
  have hb := digits_lt (u := v) (by rw [e]; exact hl)
  have := numO_itoa (n := (v : Int)) ⟨by omega, by omega⟩
  rwa [itoa_nonneg, e] at this
theorem numO_minus {m : List UInt8} {v : Nat} (hne : m ≠ []) (hv : decFrom 0 m = some v) (hl : m.length ≤ 18) (hh : m.head? ≠ some 48) : numO (45 :: m) = some (-(v : Int)) := by
  have e := digits_canon m v hne hv (Or.inl hh)
  have hb := digits_lt (u := v) (by rw [e]; exact hl)
  have h0 : 1 ≤ v := by
    rcases Nat.eq_zero_or_pos v with q | q
    · subst q
      rw [decDigits_zero] at e
      rw [← e] at hh
      exact absurd rfl hh
    · exact q
  have := numO_itoa (n := -(v : Int)) ⟨by omega, by omega⟩
  rwa [itoa_neg v h0, e] at this
theorem numO_bad {l : List UInt8} {k : Nat} {b : UInt8} (hk : (magL l)[k]? = some b) (hb : b.toNat < 48 ∨ 57 < b.toNat) : numO l = none := numO_none fun n hn e => by
  obtain ⟨u, h1, h2⟩ := mag_itoa n
  rw [e] at h1
  rw [h1] at hk
  have := digits_byte u b (List.mem_of_getElem? hk)
  omega
theorem numO_zero {l : List UInt8} (h : (magL l).head? = some 48) (hl : 1 < l.length) : numO l = none := numO_none fun n hn e => by
  rcases itoa_cases n with ⟨_, u, rfl, q⟩ | ⟨_, u, hu, rfl, q⟩
  · obtain ⟨u2, h1, -⟩ := mag_itoa (u : Int)
    rw [e] at h1 q
    have hm : magL l = l := by
      rw [q]
      have hne := decDigits_ne u
      cases hd : decDigits u with
      | nil => exact absurd hd hne
      | cons b r =>
        have hb := digits_byte u b (by rw [hd]; simp)
        have h1 : ¬ 45 = b := by intro q; subst q; revert hb; decide
        simp [magL, trimPrefix, hasPrefix, h1]
    rw [hm, q] at h
    rcases Nat.eq_zero_or_pos u with h0 | h0
    · subst h0
      rw [q, decDigits_zero] at hl
      simp at hl
    · exact digits_head u h0 h
  · rw [← e, q] at h
    have : magL (45 :: decDigits u) = decDigits u := by simp [magL, trimPrefix, hasPrefix]
    rw [this] at h
    exact digits_head u hu h
end Go.Proofs.YtflhkldfhndafaaGreatDoor
