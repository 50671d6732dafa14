/- ValidBell of the reference, by value. -/
import Derived.Test.YticnpibkpfpojaaGreatDoorBell
namespace Go.Proofs.YticnpibkpfpojaaGreatDoor
set_option linter.unusedVariables false
open Go.RowKit

theorem ShareRow.keep {w w' : World} {A : Option Addr} {n : Nat} {ss : Nat → ByteArray} {ms : Nat → Int} (h : ShareRow w A n ss ms) (hb : Below w.heap.size w w') : ShareRow w' A n ss ms := h.below hb (Nat.le_refl _)
end Go.Proofs.YticnpibkpfpojaaGreatDoor
