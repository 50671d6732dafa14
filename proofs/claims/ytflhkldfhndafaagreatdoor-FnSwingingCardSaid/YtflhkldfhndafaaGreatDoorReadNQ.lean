/- Pours, castings and hung bells that a text spells. No program in sight. -/
import Derived.Test.YtflhkldfhndafaaGreatDoorReadNP
import Derived.Test.YtflhkldfhndafaaGreatDoorNameT
namespace Go.Proofs.YtflhkldfhndafaaGreatDoor
set_option linter.unusedVariables false
open Go.RowKit
theorem len_three {α : Type} {l : List α} (h : l.length = 3) : ∃ a b c, l = [a, b, c] := by
  match l, h with
  | [a, b, c], _ => exact ⟨a, b, c, rfl⟩
theorem len_four {α : Type} {l : List α} (h : l.length = 4) : ∃ a b c d, l = [a, b, c, d] := by
  match l, h with
  | [a, b, c, d], _ => exact ⟨a, b, c, d, rfl⟩
theorem cut_rest (c : UInt8) (l : List UInt8) : (Lib.cut l [c]).1.length ≤ l.length ∧ (Lib.cut l [c]).2.1.length ≤ l.length - 1 := by
  rcases cut_cases c l with h | ⟨a, r, rfl, h⟩
  · rw [cut_no h]
    exact ⟨Nat.le_refl _, Nat.zero_le _⟩
  · rw [cut_app h]
    simp
theorem two_sizes {s : ByteArray} {c : UInt8} {a b : List UInt8} (h : splC c (bl s) = [a, b]) : a.length ≤ s.size ∧ b.length + 1 ≤ s.size := by
  have h1 := congrArg List.length (splC_two h).1
  rw [bl_len] at h1
  simp at h1
  omega
theorem cell_ar {W : World} {a : Addr} {v : Value} (h : W.cell? a = some v) (o : Obj) : (W.alloc o).cell? a = some v := (Go.World.cell?_alloc_some _ _ _ (by rw [h]; rfl)).trans h
def hungP (nm : ByteArray) (xs : List Int) : Prop := ∃ m r d q, xs = [m, r, d, q] ∧ hungB nm m r d q = true
theorem hungP_name {nm : ByteArray} {m r d q : Int} (h : hungB nm m r d q = true) : nameB nm = true := by
  unfold hungB at h
  simp only [Bool.and_eq_true] at h
  exact h.1
theorem hungP_nl : nlB hungP 4 := by
  rintro nm xs ⟨m, r, d, q, rfl, h⟩
  exact ⟨hungP_name h, lFits_of (p := l4 m r d q) (n := 4) (by omega) (hung_rng h).2, rfl⟩
theorem hungP_text (nm : ByteArray) (m r d q : Int) : nameT nm (l4 m r d q) 4 = nlT nm [m, r, d, q] := nameT_nl nm (l4 m r d q) (by omega)
theorem hungP_same {s n1 n2 : ByteArray} {m r d q m' r' d' q' : Int} {b c : Bool} (h1 : nlOut hungP s n1 [m, r, d, q] [0, 0, 0, 0] b) (h2 : nlOut hungP s n2 [m', r', d', q'] [0, 0, 0, 0] c) : n1 = n2 ∧ m = m' ∧ r = r' ∧ d = d' ∧ q = q' ∧ b = c := by
  obtain ⟨e1, e2, e3⟩ := nlOut_same hungP_nl h1 h2
  simp only [List.cons.injEq, and_true] at e2
  obtain ⟨t0, t1, t2, t3⟩ := e2
  exact ⟨e1, t0, t1, t2, t3, e3⟩
def hungPRet (w : World) (s : ByteArray) (e : Ending) (w' : World) : Prop := ∃ nm m r d q b, e = .returned (.tuple #[.agg #[.string nm, .int .i64 m, .int .i64 r, .int .i64 d, .int .i64 q], .bool b]) ∧ nlOut hungP s nm [m, r, d, q] [0, 0, 0, 0] b ∧ Below w.heap.size w w'
theorem hungP_bad {w w' : World} {s : ByteArray} (h : noNl hungP s) (hb : Below w.heap.size w w') : hungPRet w s (.returned (.tuple #[.agg #[.string ⟨#[]⟩, .int .i64 0, .int .i64 0, .int .i64 0, .int .i64 0], .bool false])) w' := ⟨_, _, _, _, _, _, rfl, Or.inr ⟨rfl, rfl, rfl, h⟩, hb⟩
theorem hungP_good {w w' : World} {s nm : ByteArray} {m r d q : Int} (h : hungB nm m r d q = true) (ht : nlT nm [m, r, d, q] = s) (hb : Below w.heap.size w w') : hungPRet w s (.returned (.tuple #[.agg #[.string nm, .int .i64 m, .int .i64 r, .int .i64 d, .int .i64 q], .bool true])) w' := ⟨_, _, _, _, _, _, rfl, Or.inl ⟨rfl, ⟨_, _, _, _, rfl, h⟩, ht⟩, hb⟩
end Go.Proofs.YtflhkldfhndafaaGreatDoor
