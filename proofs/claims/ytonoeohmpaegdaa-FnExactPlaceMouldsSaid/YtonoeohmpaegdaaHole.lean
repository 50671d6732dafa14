/- Holes: which are valid, in the program and in the reference. For all fields. -/
import Derived.Test.YtonoeohmpaegdaaName
import Derived.Test.YtonoeohmpaegdaaPred
import Derived.Handy
namespace Go.Proofs.Ytonoeohmpaegdaa
set_option linter.unusedVariables false
open Go.RowKit

noncomputable def holeB (s : ByteArray) (r d : Int) : Bool := nameB s && (inB r 1 300000 && inB d 1 600000)
set_option maxHeartbeats 400000 in
theorem toHole_calls (s0 : ByteArray) (a1 : Int) (a2 : Int) (w : World) :
    Calls Try.prog 40 #[.agg #[.string s0, .int .i64 a1, .int .i64 a2]] w fun e w' => e = .returned (.agg #[.string s0, .int .i64 a1, .int .i64 a2]) ∧ Below w.heap.size w w' := by
  go_enter Try.func40, Try.ntmps40
  go_wp2
  refine bodyPost_ret (v := .agg #[.string s0, .int .i64 a1, .int .i64 a2]) (by simp [results, Try.results40, go_sem]) rfl ⟨rfl, ?_⟩
  go_grown
set_option maxHeartbeats 400000 in
theorem szHole_calls (s0 : ByteArray) (a1 : Int) (a2 : Int) (n : Int) (w : World) (hs : s0.size ≤ maxLen) (h0 : 0 ≤ n) (h1 : n ≤ 4611686018427387904) :
    Calls Try.prog 32 #[.agg #[.string s0, .int .i64 a1, .int .i64 a2], .int .i64 n] w fun e w' => e = .returned (.int .i64 (if n < s0.size then -1 else n - s0.size)) ∧ Below w.heap.size w w' := by
  unfold maxLen at hs
  by_cases h : n < s0.size
  · rw [if_pos h]
    go_enter Try.func32, Try.ntmps32
    go_wp2
    go_ret
    exact ⟨rfl, (Below.refl _ _).alloc (Nat.le_refl _) _⟩
  · rw [if_neg h]
    go_enter Try.func32, Try.ntmps32
    go_wp2
    go_ret
    exact ⟨rfl, (Below.refl _ _).alloc (Nat.le_refl _) _⟩
set_option maxHeartbeats 400000 in
theorem eqHole_calls (s0 : ByteArray) (a1 : Int) (a2 : Int) (w : World) :
    Calls Try.prog 49 #[.agg #[.string s0, .int .i64 a1, .int .i64 a2], .agg #[.string s0, .int .i64 a1, .int .i64 a2]] w fun e w' => e = .returned (.bool true) ∧ Below w.heap.size w w' := by
  go_enter Try.func49, Try.ntmps49
  go_wp2
  go_ret
  exact ⟨rfl, ((Below.refl _ _).alloc (Nat.le_refl _) _).alloc (by simp) _⟩
set_option maxHeartbeats 1000000 in
theorem validHole_calls (s0 : ByteArray) (a1 a2 : Int) (w : World) (hs : s0.size ≤ maxLen) :
    Calls Try.prog 86 #[.agg #[.string s0, .int .i64 a1, .int .i64 a2]] w fun e w' => e = .returned (.bool (holeB s0 a1 a2)) ∧ Below w.heap.size w w' := by
  have hB := Below.refl w.heap.size w
  unfold holeB
  cases hq0 : nameB s0
  ·
    go_enter Try.func86, Try.ntmps86
    go_wp2_with (first | (go_at_call 81; refine (isName_calls _ _ hs).mono ?_; rintro e w1 ⟨rfl, hb⟩; obtain ⟨hc, hf⟩ := bcell hb; have hz := hb.size; (try simp at hz); (try have hl0 : w.heap.size < w1.heap.size := by omega); (try have hl1 : w.heap.size + 1 < w1.heap.size := by omega); (try have hl2 : w.heap.size + 1 + 1 < w1.heap.size := by omega); replace hB : Below w.heap.size w w1 := Below.trans (by go_grown) (hb.mono (by go_size)); clear hb) | (go_at_call 87; refine (within_calls _ _ _ _).mono ?_; rintro e w1 ⟨rfl, rfl⟩))
    go_ret
    exact ⟨rfl, hB⟩
  ·
    cases hq1 : inB a1 1 300000
    ·
      go_enter Try.func86, Try.ntmps86
      go_wp2_with (first | (go_at_call 81; refine (isName_calls _ _ hs).mono ?_; rintro e w1 ⟨rfl, hb⟩; obtain ⟨hc, hf⟩ := bcell hb; have hz := hb.size; (try simp at hz); (try have hl0 : w.heap.size < w1.heap.size := by omega); (try have hl1 : w.heap.size + 1 < w1.heap.size := by omega); (try have hl2 : w.heap.size + 1 + 1 < w1.heap.size := by omega); replace hB : Below w.heap.size w w1 := Below.trans (by go_grown) (hb.mono (by go_size)); clear hb) | (go_at_call 87; refine (within_calls _ _ _ _).mono ?_; rintro e w1 ⟨rfl, rfl⟩))
      go_ret
      exact ⟨rfl, hB⟩
    ·
      cases hq2 : inB a2 1 600000
      ·
        go_enter Try.func86, Try.ntmps86
        go_wp2_with (first | (go_at_call 81; refine (isName_calls _ _ hs).mono ?_; rintro e w1 ⟨rfl, hb⟩; obtain ⟨hc, hf⟩ := bcell hb; have hz := hb.size; (try simp at hz); (try have hl0 : w.heap.size < w1.heap.size := by omega); (try have hl1 : w.heap.size + 1 < w1.heap.size := by omega); (try have hl2 : w.heap.size + 1 + 1 < w1.heap.size := by omega); replace hB : Below w.heap.size w w1 := Below.trans (by go_grown) (hb.mono (by go_size)); clear hb) | (go_at_call 87; refine (within_calls _ _ _ _).mono ?_; rintro e w1 ⟨rfl, rfl⟩))
        go_ret
        exact ⟨rfl, hB⟩
      ·
        go_enter Try.func86, Try.ntmps86
        go_wp2_with (first | (go_at_call 81; refine (isName_calls _ _ hs).mono ?_; rintro e w1 ⟨rfl, hb⟩; obtain ⟨hc, hf⟩ := bcell hb; have hz := hb.size; (try simp at hz); (try have hl0 : w.heap.size < w1.heap.size := by omega); (try have hl1 : w.heap.size + 1 < w1.heap.size := by omega); (try have hl2 : w.heap.size + 1 + 1 < w1.heap.size := by omega); replace hB : Below w.heap.size w w1 := Below.trans (by go_grown) (hb.mono (by go_size)); clear hb) | (go_at_call 87; refine (within_calls _ _ _ _).mono ?_; rintro e w1 ⟨rfl, rfl⟩))
        go_ret
        exact ⟨rfl, hB⟩
set_option maxHeartbeats 1000000 in
theorem sokHole_calls (b o : Nat) (s0 : ByteArray) (a1 a2 : Int) (w : World) (hs : s0.size ≤ maxLen) (c0 : w.cell? ⟨b, o, none⟩ = some (.string s0)) (c1 : w.cell? ⟨b, o + 1, none⟩ = some (.int .i64 a1)) (c2 : w.cell? ⟨b, o + 2, none⟩ = some (.int .i64 a2)) :
    Calls Try.prog 77 #[.pointer (some ⟨b, o, none⟩)] w fun e w' => e = .returned (.bool (holeB s0 a1 a2)) ∧ w = w' := by
  unfold holeB
  cases hq0 : nameB s0
  ·
    go_enter Try.func77, Try.ntmps77
    go_wp2_with (first | (go_at_call 73; refine (sname_calls _ _ hs).mono ?_; rintro e w1 ⟨rfl, rfl⟩) | (go_at_call 35; refine (in_calls _ _ _ _).mono ?_; rintro e w1 ⟨rfl, rfl⟩))
    go_ret
    exact ⟨rfl, rfl⟩
  ·
    cases hq1 : inB a1 1 300000
    ·
      go_enter Try.func77, Try.ntmps77
      go_wp2_with (first | (go_at_call 73; refine (sname_calls _ _ hs).mono ?_; rintro e w1 ⟨rfl, rfl⟩) | (go_at_call 35; refine (in_calls _ _ _ _).mono ?_; rintro e w1 ⟨rfl, rfl⟩))
      go_ret
      exact ⟨rfl, rfl⟩
    ·
      cases hq2 : inB a2 1 600000
      ·
        go_enter Try.func77, Try.ntmps77
        go_wp2_with (first | (go_at_call 73; refine (sname_calls _ _ hs).mono ?_; rintro e w1 ⟨rfl, rfl⟩) | (go_at_call 35; refine (in_calls _ _ _ _).mono ?_; rintro e w1 ⟨rfl, rfl⟩))
        go_ret
        exact ⟨rfl, rfl⟩
      ·
        go_enter Try.func77, Try.ntmps77
        go_wp2_with (first | (go_at_call 73; refine (sname_calls _ _ hs).mono ?_; rintro e w1 ⟨rfl, rfl⟩) | (go_at_call 35; refine (in_calls _ _ _ _).mono ?_; rintro e w1 ⟨rfl, rfl⟩))
        go_ret
        exact ⟨rfl, rfl⟩
end Go.Proofs.Ytonoeohmpaegdaa
