/- What a row's list gives: the library's table of powers of ten reads as its initialiser lays it. No further condition. -/
import Derived.Test.YtmliceloimdckaaDoorCards
import Derived.Test.YtmliceloimdckaaDoorTie
import Derived.Test.YtmliceloimdckaaDoorFrame
import Derived.Test.YtmliceloimdckaaDoorText
import Derived.Lib.LaidTab
import Derived.LaidMore
import Derived.Stop.Joined
import Derived.Stop.LaidErr
namespace Go.Proofs.YtmliceloimdckaaDoor
set_option linter.unusedVariables false
open Go.ChangeShapes Go.WideShapes Go.ChangeAt Go.RowKit
theorem hasPow_of {W : World} (h : laidMetH Tryd.prog Rows.fnExactHoleTextRow.laid W) : HasPow W := by
  rw [MakeChecks.laidMetH_plain _ _ _ (by kernel_rfl)] at h
  have h3 := laidMet.tail (laidMet.tail h)
  exact Lib.tabIs_of_head (rest := []) (by kernel_rfl) (by kernel_rfl : (Tryd.prog.globals[1]?).map (·.type) = some 168) Tryd.underlying168 Tryd.underlying146 (by kernel_rfl) (by kernel_rfl) h3
end Go.Proofs.YtmliceloimdckaaDoor
