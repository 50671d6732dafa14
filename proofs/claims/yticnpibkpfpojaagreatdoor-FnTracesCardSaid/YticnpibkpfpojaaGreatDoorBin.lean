/- Texts compared by the library, and a list searched by halves. -/
import Derived.Test.YticnpibkpfpojaaGreatDoorStrs
import Derived.Test.YticnpibkpfpojaaGreatDoorAny
namespace Go.Proofs.YticnpibkpfpojaaGreatDoor
set_option linter.unusedVariables false
open Go.RowKit

def ltS (a b : ByteArray) : Bool := Op.bytesLess a.toList b.toList
def eqS (a b : ByteArray) : Bool := a.toList == b.toList
theorem less_irrefl : ∀ x : List UInt8, Op.bytesLess x x = false
  | [] => rfl
  | a :: x => by
    have ih := less_irrefl x
    have h1 : ¬ a < a := fun q => Nat.lt_irrefl _ q
    simp [Op.bytesLess, h1, ih]
theorem less_trans : ∀ {x y z : List UInt8}, Op.bytesLess x y = true → Op.bytesLess y z = true → Op.bytesLess x z = true
  | [], [], _, h, _ => by cases h
  | [], _ :: _, [], _, h => by cases h
  | [], _ :: _, _ :: _, _, _ => rfl
  | _ :: _, [], _, h, _ => by cases h
  | _ :: _, _ :: _, [], _, h => by cases h
  | a :: x, b :: y, c :: z, h1, h2 => by
    have ih := @less_trans x y z
    simp only [Op.bytesLess, Bool.or_eq_true, Bool.and_eq_true, decide_eq_true_eq, beq_iff_eq] at h1 h2 ⊢
    rcases h1 with h1 | ⟨rfl, h1⟩
    · rcases h2 with h2 | ⟨rfl, h2⟩
      · exact Or.inl (Nat.lt_trans h1 h2)
      · exact Or.inl h1
    · rcases h2 with h2 | ⟨rfl, h2⟩
      · exact Or.inl h2
      · exact Or.inr ⟨rfl, ih h1 h2⟩
theorem ltS_irrefl (a : ByteArray) : ltS a a = false := less_irrefl _
theorem ltS_trans {a b c : ByteArray} (h1 : ltS a b = true) (h2 : ltS b c = true) : ltS a c = true := less_trans h1 h2
theorem ltS_congr {a b c : ByteArray} (h : eqS a b = true) : ltS a c = ltS b c := by
  unfold eqS at h
  unfold ltS
  rw [eq_of_beq h]
theorem ltS_total (a b : ByteArray) : (ltS a b || eqS a b) = !ltS b a := less_total _ _
def cmpS (a b : ByteArray) : Int := if ltS a b = true then -1 else if ltS b a = true then 1 else 0
theorem cmpS_neg (a b : ByteArray) : decide (cmpS a b < 0) = ltS a b := by
  unfold cmpS
  cases ltS a b <;> cases ltS b a <;> decide
theorem cmpS_zero (a b : ByteArray) : (cmpS a b == 0) = eqS a b := by
  have h := ltS_total a b
  have h2 := ltS_total b a
  unfold cmpS
  cases h3 : ltS a b <;> cases h4 : ltS b a <;> cases h5 : eqS a b <;> simp [h3, h4, h5] at h h2 ⊢
  have : eqS b a = true := by unfold eqS at h5 ⊢; rw [eq_of_beq h5]; exact beq_self_eq_true _
  rw [this] at h2
  cases h2
set_option maxHeartbeats 1000000 in
theorem isNaNS_calls (a : ByteArray) (w : World) :
    Calls Tryz.prog 46 #[.string a] w fun e w' => e = .returned (.bool false) ∧ w = w' := by
  go_enter Tryz.func46, Tryz.ntmps46
  go_wp2
  go_ret
  exact ⟨by first | rfl | simp, rfl⟩
set_option maxHeartbeats 1000000 in
theorem compareS_calls (a b : ByteArray) (w : World) :
    Calls Tryz.prog 18 #[.string a, .string b] w fun e w' => e = .returned (.int .i64 (cmpS a b)) ∧ w = w' := by
  cases q1 : ltS a b
  · cases q2 : ltS b a
    · rw [show cmpS a b = 0 by unfold cmpS; rw [q1, q2]; rfl]
      have g1 : Op.bytesLess a.toList b.toList = false := q1
      have g2 : Op.bytesLess b.toList a.toList = false := q2
      have g3 : (a.toList == b.toList) = true := by have h := ltS_total a b; rw [q1, q2] at h; simpa [eqS] using h
      go_enter Tryz.func18, Tryz.ntmps18
      go_wp2_with (go_at_call 46; refine (isNaNS_calls _ _).mono ?_; rintro e w1 ⟨rfl, rfl⟩)
      go_ret
      exact ⟨rfl, rfl⟩
    · rw [show cmpS a b = 1 by unfold cmpS; rw [q1, q2]; rfl]
      have g1 : Op.bytesLess a.toList b.toList = false := q1
      have g2 : Op.bytesLess b.toList a.toList = true := q2
      have g3 : (a.toList == b.toList) = false := by have h := ltS_total a b; rw [q1, q2] at h; simpa [eqS] using h
      go_enter Tryz.func18, Tryz.ntmps18
      go_wp2_with (go_at_call 46; refine (isNaNS_calls _ _).mono ?_; rintro e w1 ⟨rfl, rfl⟩)
      go_ret
      exact ⟨rfl, rfl⟩
  · rw [show cmpS a b = -1 by unfold cmpS; rw [q1]; rfl]
    have g1 : Op.bytesLess a.toList b.toList = true := q1
    go_enter Tryz.func18, Tryz.ntmps18
    go_wp2_with (go_at_call 46; refine (isNaNS_calls _ _).mono ?_; rintro e w1 ⟨rfl, rfl⟩)
    go_ret
    exact ⟨rfl, rfl⟩
/-- rising ids -/
def Srt (ids : Nat → ByteArray) (n : Nat) : Prop := ∀ a b, a < b → b < n → ltS (ids a) (ids b) = true
theorem srt_of {ids : Nat → ByteArray} {n : Nat} (h : ∀ k, k + 1 < n → ltS (ids k) (ids (k + 1)) = true) : Srt ids n := by
  intro a b hab hb
  induction b with
  | zero => omega
  | succ b ih =>
    by_cases e : a = b
    · subst e; exact h a hb
    · exact ltS_trans (ih (by omega) (by omega)) (h b hb)
/-- what a search by halves knows -/
def Half (ids : Nat → ByteArray) (n : Nat) (x : ByteArray) (i j : Nat) : Prop := Srt ids n → (∀ q, q < i → ltS (ids q) x = true) ∧ (∀ q, j ≤ q → q < n → ltS (ids q) x = false)
theorem Half.start (ids : Nat → ByteArray) (n : Nat) (x : ByteArray) : Half ids n x 0 n := fun _ => ⟨fun q h => by omega, fun q h1 h2 => by omega⟩
theorem Half.up {ids : Nat → ByteArray} {n : Nat} {x : ByteArray} {i j h : Nat} (hh : Half ids n x i j) (h1 : i ≤ h) (hn : h < n) (hl : ltS (ids h) x = true) : Half ids n x (h + 1) j := fun s =>
  ⟨fun q hq => by
    by_cases e : q = h
    · subst e; exact hl
    · exact ltS_trans (s q h (by omega) hn) hl, (hh s).2⟩
theorem Half.down {ids : Nat → ByteArray} {n : Nat} {x : ByteArray} {i j h : Nat} (hh : Half ids n x i j) (hl : ltS (ids h) x = false) : Half ids n x i h := fun s =>
  ⟨(hh s).1, fun q h1 h2 => by
    by_cases e : q = h
    · subst e; exact hl
    · cases h3 : ltS (ids q) x
      · rfl
      · have := ltS_trans (s h q (by omega) h2) h3
        rw [hl] at this; cases this⟩
def hasId (ids : Nat → ByteArray) (n : Nat) (x : ByteArray) : Bool := anyB (fun q => eqS (ids q) x) n
theorem Half.found {ids : Nat → ByteArray} {n : Nat} {x : ByteArray} {i : Nat} (hh : Half ids n x i i) (s : Srt ids n) : (decide (i < n) && eqS (ids i) x) = hasId ids n x := by
  obtain ⟨h1, h2⟩ := hh s
  cases q : (decide (i < n) && eqS (ids i) x)
  · refine (anyB_no fun p hp => ?_).symm
    cases e : eqS (ids p) x
    · rfl
    · exfalso
      have e2 : ltS (ids p) x = false := (ltS_congr e).trans (ltS_irrefl x)
      rcases Nat.lt_trichotomy p i with h3 | h3 | h3
      · rw [h1 p h3] at e2; cases e2
      · subst h3
        simp [hp, e] at q
      · have h4 := s i p h3 hp
        have h5 : ltS (ids i) x = true := by
          have : (ids p).toList = x.toList := eq_of_beq e
          unfold ltS at h4 ⊢
          rw [← this]; exact h4
        rw [h2 i (Nat.le_refl _) (by omega)] at h5; cases h5
  · simp only [Bool.and_eq_true, decide_eq_true_eq] at q
    exact (anyB_hit q.1 q.2).symm
theorem srt_uniq {ids : Nat → ByteArray} {n : Nat} {x : ByteArray} (s : Srt ids n) {a b : Nat} (ha : a < n) (hb : b < n) (h1 : eqS (ids a) x = true) (h2 : eqS (ids b) x = true) : a = b := by
  have e : (ids a).toList = (ids b).toList := (eq_of_beq h1).trans (eq_of_beq h2).symm
  rcases Nat.lt_trichotomy a b with h | h | h
  · have := s a b h hb
    unfold ltS at this
    rw [e, less_irrefl] at this; cases this
  · exact h
  · have := s b a h ha
    unfold ltS at this
    rw [e, less_irrefl] at this; cases this
end Go.Proofs.YticnpibkpfpojaaGreatDoor
