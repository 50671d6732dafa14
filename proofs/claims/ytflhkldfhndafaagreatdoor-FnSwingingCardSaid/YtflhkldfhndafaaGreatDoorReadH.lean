/- Holes read, by the program and by the reference. -/
import Derived.Test.YtflhkldfhndafaaGreatDoorReadL
namespace Go.Proofs.YtflhkldfhndafaaGreatDoor
set_option linter.unusedVariables false
open Go.RowKit

theorem cut_size (c : UInt8) (l : List UInt8) : (Lib.cut l [c]).1.length ≤ l.length ∧ (Lib.cut l [c]).2.1.length ≤ l.length := by
  rcases cut_cases c l with h | ⟨a, r, rfl, h⟩
  · rw [cut_no h]
    exact ⟨Nat.le_refl _, Nat.zero_le _⟩
  · rw [cut_app h]
    simp
    omega
theorem len_two {α : Type} {l : List α} (h : l.length = 2) : ∃ a b, l = [a, b] := by
  match l, h with
  | [a, b], _ => exact ⟨a, b, rfl⟩
theorem tx_size (l : List UInt8) : (tx l).size = l.length := by rw [← bl_len, bl_tx]
/-- a text cut at all of a byte -/
def SpRet (w : World) (l : List (List UInt8)) (e : Ending) (w' : World) : Prop := ∃ g cap, e = .returned (.slice (some ⟨g, 0, none⟩) l.length cap) ∧ w.heap.size ≤ g ∧ TxAt w' g l ∧ Below w.heap.size w w'
/-- a text cut at the first of a byte -/
theorem cut_ret (s : ByteArray) (c : UInt8) (a b : List UInt8) (t : Bool) (w : World) (hs : s.size ≤ 1048576) (hL : HasLib w) (h : Lib.cut (bl s) [c] = (a, b, t)) : Calls Tryz.prog 21 #[.string s, .string ⟨#[c]⟩] w fun e w' => e = .returned (.tuple #[.string (tx a), .string (tx b), .bool t]) ∧ Below w.heap.size w w' := by
  have := Cut_calls s c w hs hL
  rw [h] at this
  exact this
theorem dec_ret (s : ByteArray) (r : Int) (o : Bool) (w : World) (hs : s.size ≤ 1048576) (hL : HasLib w) (hr : numD (bl s) = r) (ho : (numO (bl s)).isSome = o) : Calls Tryz.prog 35 #[.string s] w fun e w' => e = .returned (.tuple #[.int .i64 r, .bool o]) ∧ Below w.heap.size w w' := by
  have := ReadDecimal_calls s w hs hL
  unfold numOut at this
  rw [hr, ho] at this
  exact this
end Go.Proofs.YtflhkldfhndafaaGreatDoor
