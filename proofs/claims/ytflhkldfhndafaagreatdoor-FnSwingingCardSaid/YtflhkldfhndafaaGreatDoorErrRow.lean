/- The one type of the library's plain errors. -/
import Derived.Test.YtflhkldfhndafaaGreatDoorProg
import Derived.Stop.LaidErr
namespace Go.Proofs.YtflhkldfhndafaaGreatDoor
set_option linter.unusedVariables false
theorem errStar : "*" ++ "errors.errorString" = "*errors.errorString" := by decide
theorem errRow (u : TypeId) (h : Tryz.prog.typeName? 3 u = some "*errors.errorString") : u = 125 :=
  typeName_ptr_named (nm := "errors.errorString") (by rw [errStar]; kernel_rfl) (by kernel_rfl) (by decide) u (by rw [errStar]; exact h)
end Go.Proofs.YtflhkldfhndafaaGreatDoor
