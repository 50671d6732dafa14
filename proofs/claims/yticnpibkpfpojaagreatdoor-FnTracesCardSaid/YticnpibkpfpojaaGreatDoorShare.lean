/- Shares and lists of shares: how they read, their size, copy and comparison. -/
import Derived.Test.YticnpibkpfpojaaGreatDoorName
import Derived.Test.YticnpibkpfpojaaGreatDoorPred
import Derived.Test.YticnpibkpfpojaaGreatDoorRowBase
import Derived.Test.YticnpibkpfpojaaGreatDoorFrame
import Derived.Deep.RegionHeld3
import Derived.Handy
import Derived.KernelRfl
import Derived.ShutString
import Derived.ChangeShapes
namespace Go.Proofs.YticnpibkpfpojaaGreatDoor
set_option linter.unusedVariables false
open Go.RowKit

/-- element of type Share at ⟨b, o⟩ -/
def ShareAt (w : World) (b o : Nat) (s0 : ByteArray) (a1 : Int) : Prop := w.cell? ⟨b, o, none⟩ = some (.string s0) ∧ w.cell? ⟨b, o + 1, none⟩ = some (.int .i64 a1)
/-- the slice at A reads as n elements -/
def ShareRow (w : World) (A : Option Addr) (n : Nat) (s0 : Nat → ByteArray) (a1 : Nat → Int) : Prop := 0 < n → ∃ b o, A = some ⟨b, o, none⟩ ∧ ∀ i, i < n → ShareAt w b (o + i * 2) (s0 i) (a1 i)
theorem ShareAt.lt {w : World} {b o : Nat} {s0 : ByteArray} {a1 : Int} (h : ShareAt w b o s0 a1) : b < w.heap.size := cell_lt h.1
theorem ShareAt.below {w w' : World} {b o B : Nat} {s0 : ByteArray} {a1 : Int} (h : ShareAt w b o s0 a1) (hb : Below B w w') (hB : w.heap.size ≤ B) : ShareAt w' b o s0 a1 :=
  ⟨(hb.cell (p := ⟨b, o, none⟩) (Nat.lt_of_lt_of_le (ShareAt.lt h) hB)).trans h.1, (hb.cell (p := ⟨b, o + 1, none⟩) (Nat.lt_of_lt_of_le (ShareAt.lt h) hB)).trans h.2⟩
theorem ShareRow.below {w w' : World} {A : Option Addr} {n B : Nat} {s0 : Nat → ByteArray} {a1 : Nat → Int} (h : ShareRow w A n s0 a1) (hb : Below B w w') (hB : w.heap.size ≤ B) : ShareRow w' A n s0 a1 := fun hn => by
  obtain ⟨b, o, hA, hall⟩ := h hn
  exact ⟨b, o, hA, fun i hi => (hall i hi).below hb hB⟩
theorem ShareRow.same {w w' : World} {g q n : Nat} {s0 : Nat → ByteArray} {a1 : Nat → Int} (h : ShareRow w (some ⟨g, q, none⟩) n s0 a1) (hb : w'.heap[g]? = w.heap[g]?) : ShareRow w' (some ⟨g, q, none⟩) n s0 a1 := fun hn => by
  obtain ⟨b, o, hA, hall⟩ := h hn
  simp only [Option.some.injEq, Addr.mk.injEq, and_true] at hA
  obtain ⟨rfl, rfl⟩ := hA
  exact ⟨g, q, rfl, fun i hi => ⟨(World.cell?_of_block (w := w) (a := ⟨g, q + i * 2, none⟩) hb).trans (hall i hi).1, (World.cell?_of_block (w := w) (a := ⟨g, q + i * 2 + 1, none⟩) hb).trans (hall i hi).2⟩⟩
/-- the sum of the first n -/
def sumI (f : Nat → Int) : Nat → Int
  | 0 => 0
  | n + 1 => sumI f n + f n
end Go.Proofs.YticnpibkpfpojaaGreatDoor
