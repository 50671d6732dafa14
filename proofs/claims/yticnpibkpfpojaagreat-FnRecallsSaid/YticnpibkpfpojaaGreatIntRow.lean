/- A slice of numbers: how it reads. No program in sight. -/
import Derived.Test.YticnpibkpfpojaaGreatRowBase
namespace Go.Proofs.YticnpibkpfpojaaGreat
set_option linter.unusedVariables false
open Go.RowKit
def IntRow (w : World) (A : Option Addr) (n : Nat) (p : Nat → Int) : Prop := 0 < n → ∃ b o, A = some ⟨b, o, none⟩ ∧ ∀ i, i < n → w.cell? ⟨b, o + i, none⟩ = some (.int .i64 (p i))
theorem IntRow.keep {w w' : World} {A : Option Addr} {n : Nat} {p : Nat → Int} (h : IntRow w A n p) (hb : Below w.heap.size w w') : IntRow w' A n p := fun hn => by
  obtain ⟨b, o, hA, hall⟩ := h hn
  exact ⟨b, o, hA, fun i hi => cell_keep hb (hall i hi)⟩
theorem IntRow.below {w w' : World} {A : Option Addr} {n B : Nat} {p : Nat → Int} (h : IntRow w A n p) (hb : Below B w w') (hB : w.heap.size ≤ B) : IntRow w' A n p := h.keep (hb.mono hB)
theorem IntRow.take {w : World} {A : Option Addr} {n m : Nat} {p : Nat → Int} (h : IntRow w A n p) (hm : m ≤ n) : IntRow w A m p := fun h0 => by
  obtain ⟨b, o, hA, hall⟩ := h (by omega)
  exact ⟨b, o, hA, fun i hi => hall i (by omega)⟩
/-- the row of a literal of three or four numbers -/
def l3 (a b c : Int) : Nat → Int := fun i => match i with | 0 => a | 1 => b | _ => c
def l4 (a b c d : Int) : Nat → Int := fun i => match i with | 0 => a | 1 => b | 2 => c | _ => d
theorem row_l3 {w : World} {g : Nat} {t : TypeId} {a b c : Int} (h : Blk w g t #[.int .i64 a, .int .i64 b, .int .i64 c]) : IntRow w (some ⟨g, 0, none⟩) 3 (l3 a b c) := fun _ => ⟨g, 0, rfl, fun i hi => by
  rw [Nat.zero_add, h.cell]
  match i, hi with
  | 0, _ => rfl
  | 1, _ => rfl
  | 2, _ => rfl⟩
theorem row_l4 {w : World} {g : Nat} {t : TypeId} {a b c d : Int} (h : Blk w g t #[.int .i64 a, .int .i64 b, .int .i64 c, .int .i64 d]) : IntRow w (some ⟨g, 0, none⟩) 4 (l4 a b c d) := fun _ => ⟨g, 0, rfl, fun i hi => by
  rw [Nat.zero_add, h.cell]
  match i, hi with
  | 0, _ => rfl
  | 1, _ => rfl
  | 2, _ => rfl
  | 3, _ => rfl⟩
end Go.Proofs.YticnpibkpfpojaaGreat
