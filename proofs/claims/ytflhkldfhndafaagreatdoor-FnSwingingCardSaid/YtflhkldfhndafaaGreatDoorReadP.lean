/- Texts read back: names, numbers and lists of numbers found in a text by its cuts. No program in sight. -/
import Derived.Test.YtflhkldfhndafaaGreatDoorSplit
import Derived.Test.YtflhkldfhndafaaGreatDoorNameT
namespace Go.Proofs.YtflhkldfhndafaaGreatDoor
set_option linter.unusedVariables false
open Go.RowKit
/-- the bytes of a text -/
abbrev bl (s : ByteArray) : List UInt8 := s.data.toList
/-- the text of some bytes -/
abbrev tx (l : List UInt8) : ByteArray := ⟨l.toArray⟩
theorem bl_tx (l : List UInt8) : bl (tx l) = l := by simp
theorem tx_bl (s : ByteArray) : tx (bl s) = s := ba_eq (by simp)
theorem bl_len (s : ByteArray) : (bl s).length = s.size := Array.length_toList
theorem bl_app (a b : ByteArray) : bl (a ++ b) = bl a ++ bl b := by simp
theorem bl_one (c : UInt8) : bl ⟨#[c]⟩ = [c] := rfl
theorem name_byte {s : ByteArray} (h : nameB s = true) {b : UInt8} (hb : b ∈ bl s) : (97 ≤ b.toNat ∧ b.toNat ≤ 122) ∨ (48 ≤ b.toNat ∧ b.toNat ≤ 57) := by
  obtain ⟨k, hk, e⟩ := List.getElem_of_mem hb
  have hk2 : k < s.size := by rwa [bl_len] at hk
  have h1 := (nameB_of h).2.2 k hk2
  have h2 : bt s k = (b.toNat : Int) := by
    rw [← bt_list, List.getD_eq_getElem?_getD, List.getElem?_eq_getElem hk, e]
    rfl
  unfold okAt at h1
  rw [h2] at h1
  omega
theorem name_no {s : ByteArray} (h : nameB s = true) {c : UInt8} (hc : c.toNat < 48 ∨ (57 < c.toNat ∧ c.toNat < 97)) : c ∉ bl s := fun q => by
  have := name_byte h q
  omega
def xsOf (p : Nat → Int) (n : Nat) : List Int := (List.range n).map p
theorem xs_l3 (a b c : Int) : xsOf (l3 a b c) 3 = [a, b, c] := rfl
theorem xs_l4 (a b c d : Int) : xsOf (l4 a b c d) 4 = [a, b, c, d] := rfl
theorem xs_len (p : Nat → Int) (n : Nat) : (xsOf p n).length = n := by simp [xsOf]
theorem joinT_bl (p : Nat → Int) {n : Nat} (h : 0 < n) : bl (joinT p n) = lText (xsOf p n) := by
  have hne : xsOf p n ≠ [] := fun e => by
    have := congrArg List.length e
    rw [xs_len] at this
    simp at this
    omega
  unfold lText
  rw [if_neg hne]
  simp [joinT, listL, xsOf, Function.comp_def]
theorem lFits_of {p : Nat → Int} {n : Nat} (hn : n ≤ 64) (h : ∀ i, i < n → -1000000000000 ≤ p i ∧ p i ≤ 1000000000000) : lFits (xsOf p n) := by
  refine ⟨by rw [xs_len]; exact hn, fun x hx => ?_⟩
  obtain ⟨i, hi, rfl⟩ := List.mem_map.1 hx
  exact h i (List.mem_range.1 hi)
theorem joinTail_mem {b : UInt8} {sep : List UInt8} : ∀ {ls : List (List UInt8)}, b ∈ Lib.joinTail sep ls → b ∈ sep ∨ ∃ l ∈ ls, b ∈ l
  | [], h => by simp [Lib.joinTail] at h
  | x :: r, h => by
    rw [joinTail_cons] at h
    rcases List.mem_append.1 h with h | h
    · rcases List.mem_append.1 h with h | h
      · exact Or.inl h
      · exact Or.inr ⟨x, by simp, h⟩
    · rcases joinTail_mem h with h | ⟨l, h1, h2⟩
      · exact Or.inl h
      · exact Or.inr ⟨l, List.mem_cons_of_mem _ h1, h2⟩
theorem join_mem {b : UInt8} {sep : List UInt8} {ls : List (List UInt8)} (h : b ∈ Lib.join ls sep) : b ∈ sep ∨ ∃ l ∈ ls, b ∈ l := by
  cases ls with
  | nil => simp [Lib.join] at h
  | cons x r =>
    rw [Lib.join_cons] at h
    rcases List.mem_append.1 h with h | h
    · exact Or.inr ⟨x, by simp, h⟩
    · rcases joinTail_mem h with h | ⟨l, h1, h2⟩
      · exact Or.inl h
      · exact Or.inr ⟨l, List.mem_cons_of_mem _ h1, h2⟩
theorem lText_no (xs : List Int) {c : UInt8} (h1 : c.toNat ≠ 45) (h2 : c.toNat < 48 ∨ 57 < c.toNat) (h3 : c.toNat ≠ 44) : c ∉ lText xs := fun h => by
  unfold lText at h
  split at h
  · have : c = 45 := by simpa using h
    subst this
    exact h1 rfl
  · rcases join_mem h with h | ⟨l, hl, h⟩
    · have : c = 44 := by simpa using h
      subst this
      exact h3 rfl
    · obtain ⟨x, -, rfl⟩ := List.mem_map.1 hl
      exact itoa_no h1 h2 h
theorem nameT_bl (s : ByteArray) (p : Nat → Int) {n : Nat} (h : 0 < n) : bl (nameT s p n) = bl s ++ 32 :: lText (xsOf p n) := by
  unfold nameT
  rw [bl_app, bl_app, joinT_bl p h, List.append_assoc]
  rfl
theorem nameT_split {s : ByteArray} (h : nameB s = true) (p : Nat → Int) {n : Nat} (hn : 0 < n) : splC 32 (bl (nameT s p n)) = [bl s, lText (xsOf p n)] := by
  rw [nameT_bl s p hn, splC_app (name_no h (by decide)), splC_none (lText_no _ (by decide) (by decide) (by decide))]
theorem nameT_cut {s : ByteArray} (h : nameB s = true) (p : Nat → Int) {n : Nat} (hn : 0 < n) : Lib.cut (bl (nameT s p n)) [32] = (bl s, lText (xsOf p n), true) := by
  rw [nameT_bl s p hn, cut_app (name_no h (by decide))]
theorem nameT_of {l : List UInt8} {a b : List UInt8} {p : Nat → Int} {n : Nat} (h : splC 32 l = [a, b]) (hn : 0 < n) (hb : lText (xsOf p n) = b) : bl (nameT (tx a) p n) = l := by
  rw [nameT_bl _ p hn, bl_tx, hb]
  exact (splC_two h).1.symm
theorem numD_itoa {n : Int} (h : numR n) : numD (Lib.itoa n) = n := by unfold numD; rw [numO_itoa h]; rfl
theorem numD_some {l : List UInt8} {n : Int} (h : numO l = some n) : numD l = n := by unfold numD; rw [h]; rfl
theorem numD_none {l : List UInt8} (h : numO l = none) : numD l = 0 := by unfold numD; rw [h]; rfl
theorem numD_rng (l : List UInt8) : -1000000000000000000 < numD l ∧ numD l < 1000000000000000000 := by
  cases h : numO l with
  | none => rw [numD_none h]; omega
  | some n =>
    rw [numD_some h]
    exact (numO_some h).1
/-- what was read of a text: v and b say whether a value with property B has the text -/
def readOut {α : Type} (B : α → Bool) (T : α → ByteArray) (z : α) (s : ByteArray) (x : α) (b : Bool) : Prop := (b = true ∧ B x = true ∧ T x = s) ∨ (b = false ∧ x = z ∧ ∀ y, B y = true → T y ≠ s)
theorem readOut_same {α : Type} {B : α → Bool} {T : α → ByteArray} {z x y : α} {s : ByteArray} {b c : Bool} (hinj : ∀ x y, B x = true → B y = true → T x = T y → x = y) (h1 : readOut B T z s x b) (h2 : readOut B T z s y c) : x = y ∧ b = c := by
  rcases h1 with ⟨rfl, p1, p2⟩ | ⟨rfl, rfl, p1⟩
  · rcases h2 with ⟨rfl, q1, q2⟩ | ⟨rfl, rfl, q1⟩
    · exact ⟨hinj x y p1 q1 (p2.trans q2.symm), rfl⟩
    · exact absurd p2 (q1 x p1)
  · rcases h2 with ⟨rfl, q1, q2⟩ | ⟨rfl, rfl, q1⟩
    · exact absurd q2 (p1 y q1)
    · exact ⟨rfl, rfl⟩
end Go.Proofs.YtflhkldfhndafaaGreatDoor
