/- FitsBay: a bay and a casting are valid and it fits, in the program and in the reference. For all fields. -/
import Derived.Test.YtlmfdjohaogeoaaCast
namespace Go.Proofs.Ytlmfdjohaogeoaa
set_option linter.unusedVariables false
open Go.RowKit

set_option maxHeartbeats 1000000 in
theorem fitsBay_calls (s : ByteArray) (r d : Int) (s2 : ByteArray) (r2 d2 t f : Int) (w : World) :
    Calls Try.prog 76 #[.agg #[.string s, .int .i64 r, .int .i64 d], .agg #[.string s2, .int .i64 r2, .int .i64 d2, .int .i64 t, .int .i64 f]] w fun e w' => e = .returned (.bool (fitB r d r2 d2)) ∧ Below w.heap.size w w' := by
  unfold fitB
  cases hq0 : decide (r2 ≤ r)
  ·
    go_enter Try.func76, Try.ntmps76
    go_wp2_with (first | fail)
    go_ret
    exact ⟨rfl, ((Below.refl _ _).alloc (Nat.le_refl _) _).alloc (by simp) _⟩
  ·
    cases hq1 : decide (d2 ≤ d)
    ·
      go_enter Try.func76, Try.ntmps76
      go_wp2_with (first | fail)
      go_ret
      exact ⟨rfl, ((Below.refl _ _).alloc (Nat.le_refl _) _).alloc (by simp) _⟩
    ·
      go_enter Try.func76, Try.ntmps76
      go_wp2_with (first | fail)
      go_ret
      exact ⟨rfl, ((Below.refl _ _).alloc (Nat.le_refl _) _).alloc (by simp) _⟩
set_option maxHeartbeats 1000000 in
theorem sfits_calls (b o b2 o2 : Nat) (r d r2 d2 : Int) (w : World) (c1 : w.cell? ⟨b, o + 1, none⟩ = some (.int .i64 r)) (c2 : w.cell? ⟨b, o + 2, none⟩ = some (.int .i64 d)) (c3 : w.cell? ⟨b2, o2 + 1, none⟩ = some (.int .i64 r2)) (c4 : w.cell? ⟨b2, o2 + 2, none⟩ = some (.int .i64 d2)) :
    Calls Try.prog 73 #[.pointer (some ⟨b, o, none⟩), .pointer (some ⟨b2, o2, none⟩)] w fun e w' => e = .returned (.bool (fitB r d r2 d2)) ∧ ∃ n, w' = w.drewN n := by
  unfold fitB
  cases hq0 : decide (r2 ≤ r)
  ·
    go_enter Try.func73, Try.ntmps73
    go_wp2_with fail
    go_quiet (fail)
    go_wp2
    go_ret
    exact ⟨rfl, _, rfl⟩
  ·
    cases hq1 : decide (d2 ≤ d)
    ·
      go_enter Try.func73, Try.ntmps73
      go_wp2_with fail
      go_quiet (fail)
      go_wp2
      go_ret
      exact ⟨rfl, _, rfl⟩
    ·
      go_enter Try.func73, Try.ntmps73
      go_wp2_with fail
      go_quiet (fail)
      go_wp2
      go_ret
      exact ⟨rfl, _, rfl⟩
noncomputable def fbB (s : ByteArray) (r d : Int) (s2 : ByteArray) (r2 d2 t f : Int) : Bool := bayB s r d && (castB s2 r2 d2 t f && fitB r d r2 d2)
set_option maxHeartbeats 1000000 in
theorem FitsBay_calls (s : ByteArray) (r d : Int) (s2 : ByteArray) (r2 d2 t f : Int) (w : World) (hs : s.size ≤ maxLen) (hs2 : s2.size ≤ maxLen) :
    Calls Try.prog 38 #[.agg #[.string s, .int .i64 r, .int .i64 d], .agg #[.string s2, .int .i64 r2, .int .i64 d2, .int .i64 t, .int .i64 f]] w fun e w' => e = .returned (.bool (fbB s r d s2 r2 d2 t f)) ∧ Below w.heap.size w w' := by
  have hB := Below.refl w.heap.size w
  unfold fbB
  cases hq0 : bayB s r d
  ·
    go_enter Try.func38, Try.ntmps38
    go_wp2_with (first | (go_at_call 74; refine (validBay_calls _ _ _ _ hs).mono ?_; rintro e w1 ⟨rfl, hb⟩; obtain ⟨hc, hf⟩ := bcell hb; have hz := hb.size; (try simp at hz); (try have hl0 : w.heap.size < w1.heap.size := by omega); (try have hl1 : w.heap.size + 1 < w1.heap.size := by omega); (try have hl2 : w.heap.size + 1 + 1 < w1.heap.size := by omega); replace hB : Below w.heap.size w w1 := Below.trans (by go_grown) (hb.mono (by go_size)); clear hb) | (go_at_call 75; refine (validCasting_calls _ _ _ _ _ _ hs2).mono ?_; rintro e w1 ⟨rfl, hb⟩; obtain ⟨hc, hf⟩ := bcell hb; have hz := hb.size; (try simp at hz); (try have hl0 : w.heap.size < w1.heap.size := by omega); (try have hl1 : w.heap.size + 1 < w1.heap.size := by omega); (try have hl2 : w.heap.size + 1 + 1 < w1.heap.size := by omega); replace hB : Below w.heap.size w w1 := Below.trans (by go_grown) (hb.mono (by go_size)); clear hb) | (go_at_call 76; refine (fitsBay_calls _ _ _ _ _ _ _ _ _).mono ?_; rintro e w1 ⟨rfl, hb⟩; obtain ⟨hc, hf⟩ := bcell hb; have hz := hb.size; (try simp at hz); (try have hl0 : w.heap.size < w1.heap.size := by omega); (try have hl1 : w.heap.size + 1 < w1.heap.size := by omega); (try have hl2 : w.heap.size + 1 + 1 < w1.heap.size := by omega); replace hB : Below w.heap.size w w1 := Below.trans (by go_grown) (hb.mono (by go_size)); clear hb))
    go_ret
    exact ⟨rfl, hB⟩
  ·
    cases hq1 : castB s2 r2 d2 t f
    ·
      go_enter Try.func38, Try.ntmps38
      go_wp2_with (first | (go_at_call 74; refine (validBay_calls _ _ _ _ hs).mono ?_; rintro e w1 ⟨rfl, hb⟩; obtain ⟨hc, hf⟩ := bcell hb; have hz := hb.size; (try simp at hz); (try have hl0 : w.heap.size < w1.heap.size := by omega); (try have hl1 : w.heap.size + 1 < w1.heap.size := by omega); (try have hl2 : w.heap.size + 1 + 1 < w1.heap.size := by omega); replace hB : Below w.heap.size w w1 := Below.trans (by go_grown) (hb.mono (by go_size)); clear hb) | (go_at_call 75; refine (validCasting_calls _ _ _ _ _ _ hs2).mono ?_; rintro e w1 ⟨rfl, hb⟩; obtain ⟨hc, hf⟩ := bcell hb; have hz := hb.size; (try simp at hz); (try have hl0 : w.heap.size < w1.heap.size := by omega); (try have hl1 : w.heap.size + 1 < w1.heap.size := by omega); (try have hl2 : w.heap.size + 1 + 1 < w1.heap.size := by omega); replace hB : Below w.heap.size w w1 := Below.trans (by go_grown) (hb.mono (by go_size)); clear hb) | (go_at_call 76; refine (fitsBay_calls _ _ _ _ _ _ _ _ _).mono ?_; rintro e w1 ⟨rfl, hb⟩; obtain ⟨hc, hf⟩ := bcell hb; have hz := hb.size; (try simp at hz); (try have hl0 : w.heap.size < w1.heap.size := by omega); (try have hl1 : w.heap.size + 1 < w1.heap.size := by omega); (try have hl2 : w.heap.size + 1 + 1 < w1.heap.size := by omega); replace hB : Below w.heap.size w w1 := Below.trans (by go_grown) (hb.mono (by go_size)); clear hb))
      go_ret
      exact ⟨rfl, hB⟩
    ·
      cases hq2 : fitB r d r2 d2
      ·
        go_enter Try.func38, Try.ntmps38
        go_wp2_with (first | (go_at_call 74; refine (validBay_calls _ _ _ _ hs).mono ?_; rintro e w1 ⟨rfl, hb⟩; obtain ⟨hc, hf⟩ := bcell hb; have hz := hb.size; (try simp at hz); (try have hl0 : w.heap.size < w1.heap.size := by omega); (try have hl1 : w.heap.size + 1 < w1.heap.size := by omega); (try have hl2 : w.heap.size + 1 + 1 < w1.heap.size := by omega); replace hB : Below w.heap.size w w1 := Below.trans (by go_grown) (hb.mono (by go_size)); clear hb) | (go_at_call 75; refine (validCasting_calls _ _ _ _ _ _ hs2).mono ?_; rintro e w1 ⟨rfl, hb⟩; obtain ⟨hc, hf⟩ := bcell hb; have hz := hb.size; (try simp at hz); (try have hl0 : w.heap.size < w1.heap.size := by omega); (try have hl1 : w.heap.size + 1 < w1.heap.size := by omega); (try have hl2 : w.heap.size + 1 + 1 < w1.heap.size := by omega); replace hB : Below w.heap.size w w1 := Below.trans (by go_grown) (hb.mono (by go_size)); clear hb) | (go_at_call 76; refine (fitsBay_calls _ _ _ _ _ _ _ _ _).mono ?_; rintro e w1 ⟨rfl, hb⟩; obtain ⟨hc, hf⟩ := bcell hb; have hz := hb.size; (try simp at hz); (try have hl0 : w.heap.size < w1.heap.size := by omega); (try have hl1 : w.heap.size + 1 < w1.heap.size := by omega); (try have hl2 : w.heap.size + 1 + 1 < w1.heap.size := by omega); replace hB : Below w.heap.size w w1 := Below.trans (by go_grown) (hb.mono (by go_size)); clear hb))
        go_ret
        exact ⟨rfl, hB⟩
      ·
        go_enter Try.func38, Try.ntmps38
        go_wp2_with (first | (go_at_call 74; refine (validBay_calls _ _ _ _ hs).mono ?_; rintro e w1 ⟨rfl, hb⟩; obtain ⟨hc, hf⟩ := bcell hb; have hz := hb.size; (try simp at hz); (try have hl0 : w.heap.size < w1.heap.size := by omega); (try have hl1 : w.heap.size + 1 < w1.heap.size := by omega); (try have hl2 : w.heap.size + 1 + 1 < w1.heap.size := by omega); replace hB : Below w.heap.size w w1 := Below.trans (by go_grown) (hb.mono (by go_size)); clear hb) | (go_at_call 75; refine (validCasting_calls _ _ _ _ _ _ hs2).mono ?_; rintro e w1 ⟨rfl, hb⟩; obtain ⟨hc, hf⟩ := bcell hb; have hz := hb.size; (try simp at hz); (try have hl0 : w.heap.size < w1.heap.size := by omega); (try have hl1 : w.heap.size + 1 < w1.heap.size := by omega); (try have hl2 : w.heap.size + 1 + 1 < w1.heap.size := by omega); replace hB : Below w.heap.size w w1 := Below.trans (by go_grown) (hb.mono (by go_size)); clear hb) | (go_at_call 76; refine (fitsBay_calls _ _ _ _ _ _ _ _ _).mono ?_; rintro e w1 ⟨rfl, hb⟩; obtain ⟨hc, hf⟩ := bcell hb; have hz := hb.size; (try simp at hz); (try have hl0 : w.heap.size < w1.heap.size := by omega); (try have hl1 : w.heap.size + 1 < w1.heap.size := by omega); (try have hl2 : w.heap.size + 1 + 1 < w1.heap.size := by omega); replace hB : Below w.heap.size w w1 := Below.trans (by go_grown) (hb.mono (by go_size)); clear hb))
        go_ret
        exact ⟨rfl, hB⟩
set_option maxHeartbeats 1000000 in
theorem sFitsBay_calls (s : ByteArray) (r d : Int) (s2 : ByteArray) (r2 d2 t f : Int) (w : World) (hs : s.size ≤ maxLen) (hs2 : s2.size ≤ maxLen) :
    Calls Try.prog 35 #[.agg #[.string s, .int .i64 r, .int .i64 d], .agg #[.string s2, .int .i64 r2, .int .i64 d2, .int .i64 t, .int .i64 f]] w fun e w' => e = .returned (.bool (fbB s r d s2 r2 d2 t f)) ∧ Below w.heap.size w w' := by
  unfold fbB
  cases hq0 : bayB s r d
  ·
    go_enter Try.func35, Try.ntmps35
    go_wp2_with (first | (go_at_call 71; refine (sokBay_calls _ 0 s r d _ hs (by simp) (by simp) (by simp)).mono ?_; rintro e w1 ⟨rfl, rfl⟩) | (go_at_call 72; refine (sokCasting_calls _ 0 s2 r2 d2 t f _ hs2 (by simp) (by simp) (by simp) (by simp) (by simp)).mono ?_; rintro e w1 ⟨rfl, rfl⟩) | (go_at_call 73; refine (sfits_calls _ 0 _ 0 r d r2 d2 _ (by simp) (by simp) (by simp) (by simp)).mono ?_; rintro e w1 ⟨rfl, nd, rfl⟩))
    go_ret
    exact ⟨rfl, by first | exact ((Below.refl _ _).alloc (Nat.le_refl _) _).alloc (by simp) _ | exact below_drewN (((Below.refl _ _).alloc (Nat.le_refl _) _).alloc (by simp) _) _⟩
  ·
    cases hq1 : castB s2 r2 d2 t f
    ·
      go_enter Try.func35, Try.ntmps35
      go_wp2_with (first | (go_at_call 71; refine (sokBay_calls _ 0 s r d _ hs (by simp) (by simp) (by simp)).mono ?_; rintro e w1 ⟨rfl, rfl⟩) | (go_at_call 72; refine (sokCasting_calls _ 0 s2 r2 d2 t f _ hs2 (by simp) (by simp) (by simp) (by simp) (by simp)).mono ?_; rintro e w1 ⟨rfl, rfl⟩) | (go_at_call 73; refine (sfits_calls _ 0 _ 0 r d r2 d2 _ (by simp) (by simp) (by simp) (by simp)).mono ?_; rintro e w1 ⟨rfl, nd, rfl⟩))
      go_ret
      exact ⟨rfl, by first | exact ((Below.refl _ _).alloc (Nat.le_refl _) _).alloc (by simp) _ | exact below_drewN (((Below.refl _ _).alloc (Nat.le_refl _) _).alloc (by simp) _) _⟩
    ·
      cases hq2 : fitB r d r2 d2
      ·
        go_enter Try.func35, Try.ntmps35
        go_wp2_with (first | (go_at_call 71; refine (sokBay_calls _ 0 s r d _ hs (by simp) (by simp) (by simp)).mono ?_; rintro e w1 ⟨rfl, rfl⟩) | (go_at_call 72; refine (sokCasting_calls _ 0 s2 r2 d2 t f _ hs2 (by simp) (by simp) (by simp) (by simp) (by simp)).mono ?_; rintro e w1 ⟨rfl, rfl⟩) | (go_at_call 73; refine (sfits_calls _ 0 _ 0 r d r2 d2 _ (by simp) (by simp) (by simp) (by simp)).mono ?_; rintro e w1 ⟨rfl, nd, rfl⟩))
        go_ret
        exact ⟨rfl, by first | exact ((Below.refl _ _).alloc (Nat.le_refl _) _).alloc (by simp) _ | exact below_drewN (((Below.refl _ _).alloc (Nat.le_refl _) _).alloc (by simp) _) _⟩
      ·
        go_enter Try.func35, Try.ntmps35
        go_wp2_with (first | (go_at_call 71; refine (sokBay_calls _ 0 s r d _ hs (by simp) (by simp) (by simp)).mono ?_; rintro e w1 ⟨rfl, rfl⟩) | (go_at_call 72; refine (sokCasting_calls _ 0 s2 r2 d2 t f _ hs2 (by simp) (by simp) (by simp) (by simp) (by simp)).mono ?_; rintro e w1 ⟨rfl, rfl⟩) | (go_at_call 73; refine (sfits_calls _ 0 _ 0 r d r2 d2 _ (by simp) (by simp) (by simp) (by simp)).mono ?_; rintro e w1 ⟨rfl, nd, rfl⟩))
        go_ret
        exact ⟨rfl, by first | exact ((Below.refl _ _).alloc (Nat.le_refl _) _).alloc (by simp) _ | exact below_drewN (((Below.refl _ _).alloc (Nat.le_refl _) _).alloc (by simp) _) _⟩
end Go.Proofs.Ytlmfdjohaogeoaa
