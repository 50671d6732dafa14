/- FitsBay: a bay and a casting are valid and it fits, in the program and in the reference. For all fields. -/
import Derived.Test.YtaanlkdpconfiaaCast
namespace Go.Proofs.Ytaanlkdpconfiaa
set_option linter.unusedVariables false
open Go.RowKit

set_option maxHeartbeats 1000000 in
theorem fitsBay_calls (s : ByteArray) (r d : Int) (s2 : ByteArray) (r2 d2 t f : Int) (w : World) :
    Calls Try.prog 182 #[.agg #[.string s, .int .i64 r, .int .i64 d], .agg #[.string s2, .int .i64 r2, .int .i64 d2, .int .i64 t, .int .i64 f]] w fun e w' => e = .returned (.bool (fitB r d r2 d2)) ∧ Below w.heap.size w w' := by
  unfold fitB
  cases hq0 : decide (r2 ≤ r)
  ·
    go_enter Try.func182, Try.ntmps182
    go_wp2_with (first | fail)
    go_ret
    exact ⟨rfl, ((Below.refl _ _).alloc (Nat.le_refl _) _).alloc (by simp) _⟩
  ·
    cases hq1 : decide (d2 ≤ d)
    ·
      go_enter Try.func182, Try.ntmps182
      go_wp2_with (first | fail)
      go_ret
      exact ⟨rfl, ((Below.refl _ _).alloc (Nat.le_refl _) _).alloc (by simp) _⟩
    ·
      go_enter Try.func182, Try.ntmps182
      go_wp2_with (first | fail)
      go_ret
      exact ⟨rfl, ((Below.refl _ _).alloc (Nat.le_refl _) _).alloc (by simp) _⟩
set_option maxHeartbeats 1000000 in
theorem sfits_calls (b o b2 o2 : Nat) (r d r2 d2 : Int) (w : World) (c1 : w.cell? ⟨b, o + 1, none⟩ = some (.int .i64 r)) (c2 : w.cell? ⟨b, o + 2, none⟩ = some (.int .i64 d)) (c3 : w.cell? ⟨b2, o2 + 1, none⟩ = some (.int .i64 r2)) (c4 : w.cell? ⟨b2, o2 + 2, none⟩ = some (.int .i64 d2)) :
    Calls Try.prog 177 #[.pointer (some ⟨b, o, none⟩), .pointer (some ⟨b2, o2, none⟩)] w fun e w' => e = .returned (.bool (fitB r d r2 d2)) ∧ ∃ n, w' = w.drewN n := by
  unfold fitB
  cases hq0 : decide (r2 ≤ r)
  ·
    go_enter Try.func177, Try.ntmps177
    go_wp2_with fail
    go_quiet (fail)
    go_wp2
    go_ret
    exact ⟨rfl, _, rfl⟩
  ·
    cases hq1 : decide (d2 ≤ d)
    ·
      go_enter Try.func177, Try.ntmps177
      go_wp2_with fail
      go_quiet (fail)
      go_wp2
      go_ret
      exact ⟨rfl, _, rfl⟩
    ·
      go_enter Try.func177, Try.ntmps177
      go_wp2_with fail
      go_quiet (fail)
      go_wp2
      go_ret
      exact ⟨rfl, _, rfl⟩
noncomputable def fbB (s : ByteArray) (r d : Int) (s2 : ByteArray) (r2 d2 t f : Int) : Bool := bayB s r d && (castB s2 r2 d2 t f && fitB r d r2 d2)
end Go.Proofs.Ytaanlkdpconfiaa
