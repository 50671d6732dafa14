/- Clappers: which are valid; the mirror's copy. For all fields. -/
import Derived.Test.YtlmfdjohaogeoaaPred
import Derived.Handy
namespace Go.Proofs.Ytlmfdjohaogeoaa
set_option linter.unusedVariables false
open Go.RowKit

/-- Is a clapper valid? -/
def clapperB (m l g : Int) : Bool := inB m 10 1000000 && (inB l 1000 300000 && inB g 10 50000)
theorem clapperB_of {m l g : Int} (h : clapperB m l g = true) : (10 ≤ m ∧ m ≤ 1000000) ∧ (1000 ≤ l ∧ l ≤ 300000) ∧ (10 ≤ g ∧ g ≤ 50000) := by
  simp only [clapperB, Bool.and_eq_true] at h
  exact ⟨inB_iff.1 h.1, inB_iff.1 h.2.1, inB_iff.1 h.2.2⟩
set_option maxHeartbeats 400000 in
theorem toClapper_calls (a0 : Int) (a1 : Int) (a2 : Int) (w : World) :
    Calls Try.prog 16 #[.agg #[.int .i64 a0, .int .i64 a1, .int .i64 a2]] w fun e w' => e = .returned (.agg #[.int .i64 a0, .int .i64 a1, .int .i64 a2]) ∧ Below w.heap.size w w' := by
  go_enter Try.func16, Try.ntmps16
  go_wp2
  refine bodyPost_ret (v := .agg #[.int .i64 a0, .int .i64 a1, .int .i64 a2]) (by simp [results, Try.results16, go_sem]) rfl ⟨rfl, ?_⟩
  go_grown
set_option maxHeartbeats 1000000 in
theorem validClapper_calls (a0 a1 a2 : Int) (w : World) :
    Calls Try.prog 17 #[.agg #[.int .i64 a0, .int .i64 a1, .int .i64 a2]] w fun e w' => e = .returned (.bool (clapperB a0 a1 a2)) ∧ Below w.heap.size w w' := by
  unfold clapperB
  cases hq0 : inB a0 10 1000000
  ·
    go_enter Try.func17, Try.ntmps17
    go_wp2_with (first | (go_at_call 52; refine (within_calls _ _ _ _).mono ?_; rintro e w1 ⟨rfl, rfl⟩))
    go_ret
    exact ⟨rfl, (Below.refl _ _).alloc (Nat.le_refl _) _⟩
  ·
    cases hq1 : inB a1 1000 300000
    ·
      go_enter Try.func17, Try.ntmps17
      go_wp2_with (first | (go_at_call 52; refine (within_calls _ _ _ _).mono ?_; rintro e w1 ⟨rfl, rfl⟩))
      go_ret
      exact ⟨rfl, (Below.refl _ _).alloc (Nat.le_refl _) _⟩
    ·
      cases hq2 : inB a2 10 50000
      ·
        go_enter Try.func17, Try.ntmps17
        go_wp2_with (first | (go_at_call 52; refine (within_calls _ _ _ _).mono ?_; rintro e w1 ⟨rfl, rfl⟩))
        go_ret
        exact ⟨rfl, (Below.refl _ _).alloc (Nat.le_refl _) _⟩
      ·
        go_enter Try.func17, Try.ntmps17
        go_wp2_with (first | (go_at_call 52; refine (within_calls _ _ _ _).mono ?_; rintro e w1 ⟨rfl, rfl⟩))
        go_ret
        exact ⟨rfl, (Below.refl _ _).alloc (Nat.le_refl _) _⟩
set_option maxHeartbeats 1000000 in
theorem sokClapper_calls (b o : Nat) (a0 a1 a2 : Int) (w : World) (c0 : w.cell? ⟨b, o, none⟩ = some (.int .i64 a0)) (c1 : w.cell? ⟨b, o + 1, none⟩ = some (.int .i64 a1)) (c2 : w.cell? ⟨b, o + 2, none⟩ = some (.int .i64 a2)) :
    Calls Try.prog 51 #[.pointer (some ⟨b, o, none⟩)] w fun e w' => e = .returned (.bool (clapperB a0 a1 a2)) ∧ w = w' := by
  unfold clapperB
  cases hq0 : inB a0 10 1000000
  ·
    go_enter Try.func51, Try.ntmps51
    go_wp2_with (first | (go_at_call 65; refine (in_calls _ _ _ _).mono ?_; rintro e w1 ⟨rfl, rfl⟩))
    go_ret
    exact ⟨rfl, rfl⟩
  ·
    cases hq1 : inB a1 1000 300000
    ·
      go_enter Try.func51, Try.ntmps51
      go_wp2_with (first | (go_at_call 65; refine (in_calls _ _ _ _).mono ?_; rintro e w1 ⟨rfl, rfl⟩))
      go_ret
      exact ⟨rfl, rfl⟩
    ·
      cases hq2 : inB a2 10 50000
      ·
        go_enter Try.func51, Try.ntmps51
        go_wp2_with (first | (go_at_call 65; refine (in_calls _ _ _ _).mono ?_; rintro e w1 ⟨rfl, rfl⟩))
        go_ret
        exact ⟨rfl, rfl⟩
      ·
        go_enter Try.func51, Try.ntmps51
        go_wp2_with (first | (go_at_call 65; refine (in_calls _ _ _ _).mono ?_; rintro e w1 ⟨rfl, rfl⟩))
        go_ret
        exact ⟨rfl, rfl⟩
set_option maxHeartbeats 400000 in
theorem svalidClapper_calls (a0 a1 a2 : Int) (w : World) :
    Calls Try.prog 15 #[.agg #[.int .i64 a0, .int .i64 a1, .int .i64 a2]] w fun e w' => e = .returned (.bool (clapperB a0 a1 a2)) ∧ Below w.heap.size w w' := by
  go_enter Try.func15, Try.ntmps15
  go_wp2_with (go_at_call 51; refine (sokClapper_calls _ 0 a0 a1 a2 _ (by simp) (by simp) (by simp)).mono ?_; rintro e w' ⟨rfl, rfl⟩)
  go_ret
  exact ⟨rfl, (Below.refl _ _).alloc (Nat.le_refl _) _⟩
end Go.Proofs.Ytlmfdjohaogeoaa
