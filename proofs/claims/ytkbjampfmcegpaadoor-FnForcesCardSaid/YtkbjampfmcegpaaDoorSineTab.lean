/- What the row's list gives: the table of sines reads as its initialiser lays it. No further condition. -/
import Derived.Test.YtkbjampfmcegpaaDoorCards
import Derived.Test.YtkbjampfmcegpaaDoorTie
import Derived.Test.YtkbjampfmcegpaaDoorFrame
import Derived.Test.YtkbjampfmcegpaaDoorSine
import Derived.Lib.LaidTab
import Derived.LaidMore
import Derived.Stop.Joined
namespace Go.Proofs.YtkbjampfmcegpaaDoor
set_option linter.unusedVariables false
open Go.ChangeShapes Go.WideShapes Go.ChangeAt Go.RowKit

theorem gSines : Tryd.prog.globalNamed (Rows.fnForcesRow.laid.head?.map (·.1)).get! = some 0 := by kernel_rfl
theorem hasTab_of {W : World} (h : laidMetH Tryd.prog Rows.fnForcesRow.laid W) : HasTab W := by
  rw [MakeChecks.laidMetH_plain _ _ _ (by kernel_rfl)] at h
  have ht : Lib.TabIs Tryd.prog W _ .i64 sinL := Lib.tabIs_of_head (rest := []) (by kernel_rfl) (by kernel_rfl : (Tryd.prog.globals[0]?).map (·.type) = some 50) Tryd.underlying50 Tryd.underlying2 (by kernel_rfl) (by kernel_rfl) h
  exact fun i hi => ht.cell (by kernel_rfl) i hi
end Go.Proofs.YtkbjampfmcegpaaDoor
