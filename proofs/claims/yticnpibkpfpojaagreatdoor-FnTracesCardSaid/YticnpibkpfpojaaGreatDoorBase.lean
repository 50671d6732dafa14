/- Contracts of the smallest functions: a number between two bounds, the absolute value, the nearest quotient. Each for all arguments in the ranges that it names. -/
import Derived.Test.YticnpibkpfpojaaGreatDoorProg
import Derived.Test.YticnpibkpfpojaaGreatDoorNum
import Derived.Deep.QuietTactic
import Derived.BigQuiet
import Derived.Lib.Hide
namespace Go.Proofs.YticnpibkpfpojaaGreatDoor
set_option linter.unusedVariables false
open Go.RowKit

theorem quiet_left {P : Program} {f : FuncId} {args : Array Value} {w : World} {n : Nat} {v : Value}
    (h : Calls P f args (w.drewN n) fun e w' => e = .returned v ∧ w.drewN n = w') : Calls P f args (w.drewN n) fun e w'' => e = .returned v ∧ ∃ m, w'' = w.drewN m :=
  h.mono fun _ _ ⟨he, hm⟩ => ⟨he, n, hm.symm⟩
theorem quiet_more {P : Program} {f : FuncId} {args : Array Value} {w : World} {n : Nat} {v : Value}
    (h : Calls P f args (w.drewN n) fun e w' => e = .returned v ∧ ∃ m, w' = (w.drewN n).drewN m) : Calls P f args (w.drewN n) fun e w'' => e = .returned v ∧ ∃ m, w'' = w.drewN m :=
  h.mono fun _ _ ⟨he, m, hm⟩ => ⟨he, n + m, by rw [hm, World.drewN_drewN]⟩
theorem bcell {W w1 : World} (hb : Below W.heap.size W w1) : (∀ b o, b < W.heap.size → w1.cell? ⟨b, o, none⟩ = W.cell? ⟨b, o, none⟩) ∧ (∀ b o, b < W.heap.size → w1.frozen? ⟨b, o, none⟩ = W.frozen? ⟨b, o, none⟩) :=
  ⟨fun b o h => hb.cell (p := ⟨b, o, none⟩) h, fun b o h => hb.frozen (p := ⟨b, o, none⟩) h⟩
theorem below_drewN {B : Nat} {a w : World} (h : Below B a w) (n : Nat) : Below B a (w.drewN n) := ⟨h.os, h.tape, h.output, h.size, h.block⟩
theorem quo_nonneg {a b : Int} (h : 0 ≤ a) (h2 : a ≤ 9223372036854775807) (hb : 1 ≤ b) : IntKind.i64.wrap (a.tdiv b) = a / b := by
  rw [Int.tdiv_eq_ediv_of_nonneg h]
  have h3 := Int.ediv_nonneg h (show 0 ≤ b by omega)
  have h4 := Int.ediv_le_self b h
  exact IntWalk.i64_in _ ⟨by omega, by omega⟩
theorem quo_neg {a b : Int} (h : a < 0) (h2 : -9223372036854775807 ≤ a) (hb : 1 ≤ b) : IntKind.i64.wrap (a.tdiv b) = -((-a) / b) := by
  have e : a.tdiv b = -((-a).tdiv b) := by rw [Int.neg_tdiv, Int.neg_neg]
  rw [e, Int.tdiv_eq_ediv_of_nonneg (show 0 ≤ -a by omega)]
  have h3 := Int.ediv_nonneg (show 0 ≤ -a by omega) (show 0 ≤ b by omega)
  have h4 := Int.ediv_le_self b (show 0 ≤ -a by omega)
  exact IntWalk.i64_in _ ⟨by omega, by omega⟩
theorem rem_neg {a b : Int} (h : a < 0) : a.tmod b = -((-a) % b) := by
  have e : a.tmod b = -((-a).tmod b) := by rw [Int.neg_tmod, Int.neg_neg]
  rw [e, Int.tmod_eq_emod_of_nonneg (show 0 ≤ -a by omega)]
theorem ret_int {k : IntKind} {a b : Int} (h : a = b) : Ending.returned (.int k a) = .returned (.int k b) := by rw [h]
theorem ret_bool {a b : Bool} (h : a = b) : Ending.returned (.bool a) = .returned (.bool b) := by rw [h]

/-- a number from low to high -/
def inB (n low high : Int) : Bool := decide (low ≤ n ∧ n ≤ high)
theorem inB_yes {n low high : Int} (h1 : low ≤ n) (h2 : n ≤ high) : inB n low high = true := by simp [inB, h1, h2]
theorem inB_no {n low high : Int} (h : n < low ∨ high < n) : inB n low high = false := by
  simp only [inB, decide_eq_false_iff_not]; omega
theorem inB_iff {n low high : Int} : inB n low high = true ↔ low ≤ n ∧ n ≤ high := by simp [inB]
theorem inB_iff' {n low high : Int} : inB n low high = false ↔ n < low ∨ high < n := by
  simp only [inB, decide_eq_false_iff_not]; omega

set_option maxHeartbeats 400000 in
theorem within_calls (n low high : Int) (w : World) :
    Calls Tryz.prog 54 #[.int .i64 n, .int .i64 low, .int .i64 high] w fun e w' => e = .returned (.bool (inB n low high)) ∧ w = w' := by
  by_cases h1 : low ≤ n
  · by_cases h2 : n ≤ high
    · rw [inB_yes h1 h2]
      go_enter Tryz.func54, Tryz.ntmps54
      go_wp2
      go_ret
      exact ⟨rfl, rfl⟩
    · rw [inB_no (by omega)]
      go_enter Tryz.func54, Tryz.ntmps54
      go_wp2
      go_ret
      exact ⟨rfl, rfl⟩
  · rw [inB_no (by omega)]
    go_enter Tryz.func54, Tryz.ntmps54
    go_wp2
    go_ret
    exact ⟨rfl, rfl⟩

set_option maxHeartbeats 400000 in
theorem in_calls (n low high : Int) (w : World) :
    Calls Tryz.prog 94 #[.int .i64 n, .int .i64 low, .int .i64 high] w fun e w' => e = .returned (.bool (inB n low high)) ∧ w = w' := by
  by_cases h1 : low ≤ n
  · by_cases h2 : n ≤ high
    · rw [inB_yes h1 h2]
      go_enter Tryz.func94, Tryz.ntmps94
      go_wp2
      go_ret
      exact ⟨rfl, rfl⟩
    · rw [inB_no (by omega)]
      go_enter Tryz.func94, Tryz.ntmps94
      go_wp2
      go_ret
      exact ⟨rfl, rfl⟩
  · rw [inB_no (by omega)]
    go_enter Tryz.func94, Tryz.ntmps94
    go_wp2
    go_ret
    exact ⟨rfl, rfl⟩



set_option maxHeartbeats 400000 in
theorem div_calls (a b : Int) (w : World) (hb : 1 ≤ b) (hb2 : b ≤ 1000000000000000000) (h1 : -4000000000000000000 ≤ a) (h2 : a ≤ 4000000000000000000) :
    Calls Tryz.prog 154 #[.int .i64 a, .int .i64 b] w fun e w' => e = .returned (.int .i64 (nr a b)) ∧ w = w' := by
  by_cases h : a < 0
  · have h5 : 0 ≤ (b - 2 * a) / (2 * b) := Int.ediv_nonneg (by omega) (by omega)
    have h6 : (b - 2 * a) / (2 * b) ≤ b - 2 * a := Int.ediv_le_self _ (by omega)
    have e : nr a b = -((b - 2 * a) / (2 * b)) := by unfold nr; rw [if_pos h]
    rw [e]
    go_enter Tryz.func154, Tryz.ntmps154
    go_wp2
    go_ret
    exact ⟨rfl, rfl⟩
  · have h5 : 0 ≤ (2 * a + b) / (2 * b) := Int.ediv_nonneg (by omega) (by omega)
    have h6 : (2 * a + b) / (2 * b) ≤ 2 * a + b := Int.ediv_le_self _ (by omega)
    have e : nr a b = (2 * a + b) / (2 * b) := by unfold nr; rw [if_neg h]
    rw [e]
    clear e
    go_enter Tryz.func154, Tryz.ntmps154
    go_wp2
    go_ret
    exact ⟨rfl, rfl⟩

theorem tmod_bd (d : Int) : -360 < d.tmod 360 ∧ d.tmod 360 < 360 := by
  have := Int.tmod_lt_of_pos d (show (0 : Int) < 360 by omega)
  have := Int.lt_tmod_of_pos d (show (0 : Int) < 360 by omega)
  omega
theorem tmod_up (d : Int) : (d.tmod 360 + 360) % 360 = d % 360 := by
  have h2 := Int.tmod_eq_emod (a := d) (b := 360)
  split at h2 <;> omega

end Go.Proofs.YticnpibkpfpojaaGreatDoor
