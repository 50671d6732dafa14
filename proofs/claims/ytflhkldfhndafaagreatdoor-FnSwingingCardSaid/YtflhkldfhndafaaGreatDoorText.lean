/- Numbers in decimal, as the program writes them (the library's table of powers of ten laid). -/
import Derived.Test.YtflhkldfhndafaaGreatDoorShelf
import Derived.Test.YtflhkldfhndafaaGreatDoorOwn
import Derived.Lib.AppendIntMem
import Derived.Lib.ItoaLen
import Derived.Laws.IdiomStrings
namespace Go.Proofs.YtflhkldfhndafaaGreatDoor
set_option linter.unusedVariables false
open Go.RowKit
/-- the library's table of powers of ten reads as its initialiser lays it -/
def HasPow (w : World) : Prop := Lib.TabIs Tryz.prog w Tryz.var_internal_strconv_uint64pow10 .u64 Lib.pow10Tab
theorem HasPow.keep {w w' : World} (h : HasPow w) (hb : Below w.heap.size w w') : HasPow w' := Lib.tabBelow_of_tabIs h _ hb
theorem HasPow.drewN {w : World} (h : HasPow w) (n : Nat) : HasPow (w.drewN n) := h
theorem HasPow.alloc {w : World} (h : HasPow w) (o : Obj) : HasPow (w.alloc o) := h.keep ((Below.refl _ _).alloc (Nat.le_refl _) _)
set_option maxHeartbeats 400000 in
theorem Decimal_calls (n : Int) (w : World) (h0 : -9223372036854775808 ≤ n) (h1 : n ≤ 9223372036854775807) (hT : HasPow w) :
    Calls Tryz.prog 39 #[.int .i64 n] w fun e w' => e = .returned (.string ⟨(Lib.itoa n).toArray⟩) ∧ Below w.heap.size w w' := by
  have HT := Lib.hid hT
  clear hT
  go_enter Tryz.func39, Tryz.ntmps39
  go_wp2_with (go_at_call 50; refine (Tryz.strconv_FormatInt_10 n h0 h1 w HT.out).mono ?_; rintro e w1 ⟨rfl, k, os, rfl⟩)
  go_ret
  exact ⟨rfl, Lib.below_grow _ w (Nat.le_refl _) k os⟩
end Go.Proofs.YtflhkldfhndafaaGreatDoor
