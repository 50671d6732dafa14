/- The name and the numbers that a text spells. No program in sight. -/
import Derived.Test.YtflhkldfhndafaaGreatDoorReadP
namespace Go.Proofs.YtflhkldfhndafaaGreatDoor
set_option linter.unusedVariables false
open Go.RowKit
/-- a name, a blank, a list of numbers -/
def nlT (nm : ByteArray) (xs : List Int) : ByteArray := tx (bl nm ++ 32 :: lText xs)
theorem nlT_bl (nm : ByteArray) (xs : List Int) : bl (nlT nm xs) = bl nm ++ 32 :: lText xs := bl_tx _
theorem nameT_nl (nm : ByteArray) (p : Nat → Int) {n : Nat} (h : 0 < n) : nameT nm p n = nlT nm (xsOf p n) := ba_eq (by show bl _ = bl _; rw [nameT_bl nm p h, nlT_bl])
theorem nlT_split {nm : ByteArray} (h : nameB nm = true) (xs : List Int) : splC 32 (bl (nlT nm xs)) = [bl nm, lText xs] := by
  rw [nlT_bl, splC_app (name_no h (by decide)), splC_none (lText_no _ (by decide) (by decide) (by decide))]
theorem nlT_cut {nm : ByteArray} (h : nameB nm = true) (xs : List Int) : Lib.cut (bl (nlT nm xs)) [32] = (bl nm, lText xs, true) := by
  rw [nlT_bl, cut_app (name_no h (by decide))]
/-- what B must be -/
def nlB (B : ByteArray → List Int → Prop) (n : Nat) : Prop := ∀ nm xs, B nm xs → nameB nm = true ∧ lFits xs ∧ xs.length = n
def noNl (B : ByteArray → List Int → Prop) (s : ByteArray) : Prop := ∀ nm xs, B nm xs → nlT nm xs ≠ s
def nlOut (B : ByteArray → List Int → Prop) (s nm : ByteArray) (xs zs : List Int) (b : Bool) : Prop := (b = true ∧ B nm xs ∧ nlT nm xs = s) ∨ (b = false ∧ nm = ⟨#[]⟩ ∧ xs = zs ∧ noNl B s)
theorem nl_inj {B : ByteArray → List Int → Prop} {n : Nat} (hB : nlB B n) {a b : ByteArray} {xs ys : List Int} (h1 : B a xs) (h2 : B b ys) (h : nlT a xs = nlT b ys) : a = b ∧ xs = ys := by
  have e1 := nlT_split (hB _ _ h1).1 xs
  rw [h, nlT_split (hB _ _ h2).1 ys] at e1
  obtain ⟨e2, e3⟩ := List.cons.inj e1
  exact ⟨ba_eq e2.symm, (lText_inj (List.cons.inj e3).1).symm⟩
theorem nlOut_same {B : ByteArray → List Int → Prop} {n : Nat} (hB : nlB B n) {s n1 n2 : ByteArray} {xs ys zs : List Int} {b c : Bool} (h1 : nlOut B s n1 xs zs b) (h2 : nlOut B s n2 ys zs c) : n1 = n2 ∧ xs = ys ∧ b = c := by
  rcases h1 with ⟨rfl, p1, p2⟩ | ⟨rfl, rfl, rfl, p1⟩
  · rcases h2 with ⟨rfl, q1, q2⟩ | ⟨rfl, rfl, rfl, q1⟩
    · obtain ⟨a, b⟩ := nl_inj hB p1 q1 (p2.trans q2.symm)
      exact ⟨a, b, rfl⟩
    · exact absurd p2 (q1 _ _ p1)
  · rcases h2 with ⟨rfl, q1, q2⟩ | ⟨rfl, rfl, rfl, q1⟩
    · exact absurd q2 (p1 _ _ q1)
    · exact ⟨rfl, rfl, rfl⟩
/-- the program's road: what lies before and behind the first blank -/
theorem nl_cand {B : ByteArray → List Int → Prop} {n : Nat} (hB : nlB B n) {s nm : ByteArray} {xs : List Int} (h : B nm xs) (ht : nlT nm xs = s) : tx (Lib.cut (bl s) [32]).1 = nm ∧ listO (Lib.cut (bl s) [32]).2.1 = some xs := by
  obtain ⟨h1, h2, -⟩ := hB _ _ h
  rw [← ht, nlT_cut h1]
  exact ⟨tx_bl nm, listO_some.2 ⟨h2, rfl⟩⟩
theorem nl_miss {B : ByteArray → List Int → Prop} {n : Nat} (hB : nlB B n) {s : ByteArray} (h : ∀ xs, listO (Lib.cut (bl s) [32]).2.1 = some xs → B (tx (Lib.cut (bl s) [32]).1) xs → nlT (tx (Lib.cut (bl s) [32]).1) xs ≠ s) : noNl B s := fun nm xs q1 q2 => by
  obtain ⟨e1, e2⟩ := nl_cand hB q1 q2
  rw [← e1] at q1 q2
  exact h xs e2 q1 q2
/-- the reference's road: two parts -/
theorem nl_no1 {B : ByteArray → List Int → Prop} {n : Nat} (hB : nlB B n) {s : ByteArray} (h : (splC 32 (bl s)).length ≠ 2) : noNl B s := fun nm xs q1 q2 => by
  rw [← q2, nlT_split (hB _ _ q1).1] at h
  exact h rfl
theorem nl_no2 {B : ByteArray → List Int → Prop} {n : Nat} (hB : nlB B n) {s : ByteArray} {a b : List UInt8} (h1 : splC 32 (bl s) = [a, b]) (h : ∀ xs, listO b = some xs → ¬ B (tx a) xs) : noNl B s := fun nm xs q1 q2 => by
  rw [← q2, nlT_split (hB _ _ q1).1] at h1
  obtain ⟨h3, h4⟩ := List.cons.inj h1
  have h5 := (List.cons.inj h4).1
  have h6 := h xs (listO_some.2 ⟨(hB _ _ q1).2.1, h5⟩)
  rw [← h3, tx_bl] at h6
  exact h6 q1
theorem nl_yes {s : ByteArray} {a b : List UInt8} {xs : List Int} (h1 : splC 32 (bl s) = [a, b]) (h2 : listO b = some xs) : nlT (tx a) xs = s := by
  apply ba_eq
  show bl _ = bl _
  rw [nlT_bl, bl_tx, (listO_some.1 h2).2, (splC_two h1).1]
end Go.Proofs.YtflhkldfhndafaaGreatDoor
