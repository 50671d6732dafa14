/- The hole that a text spells. No program in sight. -/
import Derived.Test.YtflhkldfhndafaaDoorReadP
import Derived.Test.YtflhkldfhndafaaDoorHoleT
namespace Go.Proofs.YtflhkldfhndafaaDoor
set_option linter.unusedVariables false
open Go.RowKit
theorem hole_bl (s : ByteArray) (r d : Int) : bl (holeT s r d) = bl s ++ 32 :: (Lib.itoa r ++ 120 :: Lib.itoa d) := by
  unfold holeT
  rw [bl_app, bl_app, bl_app, bl_app, bl_one, bl_one, bl_tx, bl_tx]
  simp
theorem holeB_name {s : ByteArray} {r d : Int} (h : holeB s r d = true) : nameB s = true := by
  simp only [holeB, Bool.and_eq_true] at h
  exact h.1
theorem hole_no32 (r d : Int) : (32 : UInt8) ∉ Lib.itoa r ++ 120 :: Lib.itoa d := fun h => by
  rcases List.mem_append.1 h with h | h
  · exact itoa_no (by decide) (by decide) h
  · rcases List.mem_cons.1 h with h | h
    · exact absurd h (by decide)
    · exact itoa_no (by decide) (by decide) h
theorem hole_no120 (r : Int) : (120 : UInt8) ∉ Lib.itoa r := itoa_no (by decide) (by decide)
theorem hole_split {s : ByteArray} {r d : Int} (h : holeB s r d = true) : splC 32 (bl (holeT s r d)) = [bl s, Lib.itoa r ++ 120 :: Lib.itoa d] := by
  rw [hole_bl, splC_app (name_no (holeB_name h) (by decide)), splC_none (hole_no32 r d)]
theorem hole_split2 (r d : Int) : splC 120 (Lib.itoa r ++ 120 :: Lib.itoa d) = [Lib.itoa r, Lib.itoa d] := by
  rw [splC_app (hole_no120 r), splC_none (hole_no120 d)]
theorem hole_cut {s : ByteArray} {r d : Int} (h : holeB s r d = true) : Lib.cut (bl (holeT s r d)) [32] = (bl s, Lib.itoa r ++ 120 :: Lib.itoa d, true) := by
  rw [hole_bl, cut_app (name_no (holeB_name h) (by decide))]
theorem hole_cut2 (r d : Int) : Lib.cut (Lib.itoa r ++ 120 :: Lib.itoa d) [120] = (Lib.itoa r, Lib.itoa d, true) := cut_app (hole_no120 r)
theorem hole_num {s : ByteArray} {r d : Int} (h : holeB s r d = true) : numR r ∧ numR d := by
  obtain ⟨⟨r0, r1⟩, ⟨d0, d1⟩⟩ := holeB_of h
  exact ⟨⟨by omega, by omega⟩, ⟨by omega, by omega⟩⟩
def holeOut (s nm : ByteArray) (r d : Int) (b : Bool) : Prop := (b = true ∧ holeB nm r d = true ∧ holeT nm r d = s) ∨ (b = false ∧ nm = ⟨#[]⟩ ∧ r = 0 ∧ d = 0 ∧ ∀ nm r d, holeB nm r d = true → holeT nm r d ≠ s)
theorem hole_inj {s1 s2 : ByteArray} {r1 r2 d1 d2 : Int} (h1 : holeB s1 r1 d1 = true) (h2 : holeB s2 r2 d2 = true) (h : holeT s1 r1 d1 = holeT s2 r2 d2) : s1 = s2 ∧ r1 = r2 ∧ d1 = d2 := by
  have e1 := hole_split h1
  rw [h, hole_split h2] at e1
  obtain ⟨e2, e3⟩ := List.cons.inj e1
  have e4 := (List.cons.inj e3).1
  have e5 := hole_split2 r2 d2
  rw [e4, hole_split2] at e5
  obtain ⟨e6, e7⟩ := List.cons.inj e5
  exact ⟨ba_eq e2.symm, itoa_inj e6, itoa_inj (List.cons.inj e7).1⟩
theorem holeOut_same {s n1 n2 : ByteArray} {r1 r2 d1 d2 : Int} {b c : Bool} (h1 : holeOut s n1 r1 d1 b) (h2 : holeOut s n2 r2 d2 c) : n1 = n2 ∧ r1 = r2 ∧ d1 = d2 ∧ b = c := by
  rcases h1 with ⟨rfl, p1, p2⟩ | ⟨rfl, rfl, rfl, rfl, p1⟩
  · rcases h2 with ⟨rfl, q1, q2⟩ | ⟨rfl, rfl, rfl, rfl, q1⟩
    · obtain ⟨a, b, c⟩ := hole_inj p1 q1 (p2.trans q2.symm)
      exact ⟨a, b, c, rfl⟩
    · exact absurd p2 (q1 _ _ _ p1)
  · rcases h2 with ⟨rfl, q1, q2⟩ | ⟨rfl, rfl, rfl, rfl, q1⟩
    · exact absurd q2 (p1 _ _ _ q1)
    · exact ⟨rfl, rfl, rfl, rfl⟩
def noHole (s : ByteArray) : Prop := ∀ nm r d, holeB nm r d = true → holeT nm r d ≠ s
/-- the program's road: the parts at the first blank and the first x -/
theorem hole_cand {s nm : ByteArray} {r d : Int} (h : holeB nm r d = true) (ht : holeT nm r d = s) :
    tx (Lib.cut (bl s) [32]).1 = nm ∧ numD (Lib.cut (Lib.cut (bl s) [32]).2.1 [120]).1 = r ∧ numD (Lib.cut (Lib.cut (bl s) [32]).2.1 [120]).2.1 = d := by
  obtain ⟨n1, n2⟩ := hole_num h
  rw [← ht, hole_cut h]
  show tx (bl nm) = nm ∧ numD (Lib.cut (Lib.itoa r ++ 120 :: Lib.itoa d) [120]).1 = r ∧ numD (Lib.cut (Lib.itoa r ++ 120 :: Lib.itoa d) [120]).2.1 = d
  rw [hole_cut2]
  exact ⟨tx_bl nm, numD_itoa n1, numD_itoa n2⟩
theorem hole_miss {s nm : ByteArray} {r d : Int} (h1 : tx (Lib.cut (bl s) [32]).1 = nm) (h2 : numD (Lib.cut (Lib.cut (bl s) [32]).2.1 [120]).1 = r) (h3 : numD (Lib.cut (Lib.cut (bl s) [32]).2.1 [120]).2.1 = d) (h : holeB nm r d = false ∨ holeT nm r d ≠ s) : noHole s := fun a b c q1 q2 => by
  obtain ⟨e1, e2, e3⟩ := hole_cand q1 q2
  rw [h1] at e1
  rw [h2] at e2
  rw [h3] at e3
  subst e1 e2 e3
  rcases h with h | h
  · rw [q1] at h; cases h
  · exact h q2
/-- the reference's road: all parts -/
theorem hole_no1 {s : ByteArray} (h : (splC 32 (bl s)).length ≠ 2) : noHole s := fun a b c q1 q2 => by
  rw [← q2, hole_split q1] at h
  exact h rfl
theorem hole_no2 {s : ByteArray} {a b : List UInt8} (h1 : splC 32 (bl s) = [a, b]) (h : (splC 120 b).length ≠ 2) : noHole s := fun nm r d q1 q2 => by
  rw [← q2, hole_split q1] at h1
  obtain ⟨-, h3⟩ := List.cons.inj h1
  rw [← (List.cons.inj h3).1, hole_split2] at h
  exact h rfl
theorem hole_no3 {s : ByteArray} {a b c d : List UInt8} (h1 : splC 32 (bl s) = [a, b]) (h2 : splC 120 b = [c, d]) (h : numO c = none ∨ numO d = none ∨ holeB (tx a) (numD c) (numD d) = false) : noHole s := fun nm r q q1 q2 => by
  rw [← q2, hole_split q1] at h1
  obtain ⟨h3, h4⟩ := List.cons.inj h1
  rw [← (List.cons.inj h4).1, hole_split2] at h2
  obtain ⟨h5, h6⟩ := List.cons.inj h2
  have h7 := (List.cons.inj h6).1
  obtain ⟨n1, n2⟩ := hole_num q1
  rw [← h5, ← h7, ← h3, numO_itoa n1, numO_itoa n2, numD_itoa n1, numD_itoa n2, tx_bl, q1] at h
  rcases h with h | h | h <;> cases h
theorem hole_yes {s : ByteArray} {a b c d : List UInt8} {r q : Int} (h1 : splC 32 (bl s) = [a, b]) (h2 : splC 120 b = [c, d]) (h3 : numO c = some r) (h4 : numO d = some q) : holeT (tx a) r q = s := by
  apply ba_eq
  show bl _ = bl _
  rw [hole_bl, bl_tx, (numO_some h3).2, (numO_some h4).2, (splC_two h1).1, (splC_two h2).1]
end Go.Proofs.YtflhkldfhndafaaDoor
