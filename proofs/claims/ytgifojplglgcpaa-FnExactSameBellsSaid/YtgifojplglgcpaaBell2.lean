/- ValidBell of the reference, by value. -/
import Derived.Test.YtgifojplglgcpaaBell
namespace Go.Proofs.Ytgifojplglgcpaa
set_option linter.unusedVariables false
open Go.RowKit

theorem ShareRow.keep {w w' : World} {A : Option Addr} {n : Nat} {ss : Nat → ByteArray} {ms : Nat → Int} (h : ShareRow w A n ss ms) (hb : Below w.heap.size w w') : ShareRow w' A n ss ms := h.below hb (Nat.le_refl _)
set_option maxHeartbeats 1000000 in
theorem sValidBell_calls (s : ByteArray) (no ma fe : Int) (A : Option Addr) (n c : Nat) (ss : Nat → ByteArray) (ms : Nat → Int) (w : World) (hs : s.size ≤ maxLen) (h : ShareRow w A n ss ms) (hss : ∀ i, i < n → (ss i).size ≤ maxLen) (hn : n ≤ 1048576) :
    Calls Try.prog 55 #[.agg #[.string s, .int .i64 no, .int .i64 ma, .int .i64 fe, .slice A n c]] w fun e w' => e = .returned (.bool (bellB s no ma fe n ss ms)) ∧ Below w.heap.size w w' := by
  have hB := (Below.refl w.heap.size w).alloc (Nat.le_refl _) (.cells #[.string s, .int .i64 no, .int .i64 ma, .int .i64 fe, .slice A n c] 79)
  have h2 := Lib.hid (h.below hB (Nat.le_refl _))
  have HSS := Lib.hid hss
  clear h hss
  go_enter Try.func55, Try.ntmps55
  go_wp2_with (go_at_call 109; refine (sbell_calls w.heap.size 0 s no ma fe A n c ss ms _ hs h2.out HSS.out hn (by simp) (by simp) (by simp) (by simp) (by simp)).mono ?_; rintro e w1 ⟨rfl, nd, rfl⟩)
  go_ret
  exact ⟨rfl, below_drewN hB nd⟩
end Go.Proofs.Ytgifojplglgcpaa
