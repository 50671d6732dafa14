/- Bays and castings: which are valid, whether one fits, when it can be stripped, in the program and in the reference. For all fields. -/
import Derived.Test.YtaanlkdpconfiaaName
import Derived.Test.YtaanlkdpconfiaaCool
import Derived.Handy
namespace Go.Proofs.Ytaanlkdpconfiaa
set_option linter.unusedVariables false
open Go.RowKit

noncomputable def bayB (s : ByteArray) (r d : Int) : Bool := nameB s && (inB r 1 300000 && inB d 1 300000)
noncomputable def castB (s : ByteArray) (r d t f : Int) : Bool := nameB s && (inB r 1 300000 && (inB d 1 300000 && (inB t 1 30000 && inB f 0 1000000)))
theorem castB_of {s : ByteArray} {r d t f : Int} (h : castB s r d t f = true) : (1 ≤ t ∧ t ≤ 30000) ∧ (0 ≤ f ∧ f ≤ 1000000) := by
  simp only [castB, Bool.and_eq_true] at h
  exact ⟨inB_iff.1 h.2.2.2.1, inB_iff.1 h.2.2.2.2⟩
def fitB (r d r2 d2 : Int) : Bool := decide (r2 ≤ r) && decide (d2 ≤ d)
def strip (t f : Int) : Int := f + tt t 150
set_option maxHeartbeats 400000 in
theorem toBay_calls (s0 : ByteArray) (a1 : Int) (a2 : Int) (w : World) :
    Calls Try.prog 87 #[.agg #[.string s0, .int .i64 a1, .int .i64 a2]] w fun e w' => e = .returned (.agg #[.string s0, .int .i64 a1, .int .i64 a2]) ∧ Below w.heap.size w w' := by
  go_enter Try.func87, Try.ntmps87
  go_wp2
  refine bodyPost_ret (v := .agg #[.string s0, .int .i64 a1, .int .i64 a2]) (by simp [results, Try.results87, go_sem]) rfl ⟨rfl, ?_⟩
  go_grown
set_option maxHeartbeats 400000 in
theorem szBay_calls (s0 : ByteArray) (a1 : Int) (a2 : Int) (n : Int) (w : World) (hs : s0.size ≤ maxLen) (h0 : 0 ≤ n) (h1 : n ≤ 4611686018427387904) :
    Calls Try.prog 80 #[.agg #[.string s0, .int .i64 a1, .int .i64 a2], .int .i64 n] w fun e w' => e = .returned (.int .i64 (if n < s0.size then -1 else n - s0.size)) ∧ Below w.heap.size w w' := by
  unfold maxLen at hs
  by_cases h : n < s0.size
  · rw [if_pos h]
    go_enter Try.func80, Try.ntmps80
    go_wp2
    go_ret
    exact ⟨rfl, (Below.refl _ _).alloc (Nat.le_refl _) _⟩
  · rw [if_neg h]
    go_enter Try.func80, Try.ntmps80
    go_wp2
    go_ret
    exact ⟨rfl, (Below.refl _ _).alloc (Nat.le_refl _) _⟩
set_option maxHeartbeats 400000 in
theorem eqBay_calls (s0 : ByteArray) (a1 : Int) (a2 : Int) (w : World) :
    Calls Try.prog 96 #[.agg #[.string s0, .int .i64 a1, .int .i64 a2], .agg #[.string s0, .int .i64 a1, .int .i64 a2]] w fun e w' => e = .returned (.bool true) ∧ Below w.heap.size w w' := by
  go_enter Try.func96, Try.ntmps96
  go_wp2
  go_ret
  exact ⟨rfl, ((Below.refl _ _).alloc (Nat.le_refl _) _).alloc (by simp) _⟩
set_option maxHeartbeats 400000 in
theorem toCasting_calls (s0 : ByteArray) (a1 : Int) (a2 : Int) (a3 : Int) (a4 : Int) (w : World) :
    Calls Try.prog 88 #[.agg #[.string s0, .int .i64 a1, .int .i64 a2, .int .i64 a3, .int .i64 a4]] w fun e w' => e = .returned (.agg #[.string s0, .int .i64 a1, .int .i64 a2, .int .i64 a3, .int .i64 a4]) ∧ Below w.heap.size w w' := by
  go_enter Try.func88, Try.ntmps88
  go_wp2
  refine bodyPost_ret (v := .agg #[.string s0, .int .i64 a1, .int .i64 a2, .int .i64 a3, .int .i64 a4]) (by simp [results, Try.results88, go_sem]) rfl ⟨rfl, ?_⟩
  go_grown
set_option maxHeartbeats 400000 in
theorem szCasting_calls (s0 : ByteArray) (a1 : Int) (a2 : Int) (a3 : Int) (a4 : Int) (n : Int) (w : World) (hs : s0.size ≤ maxLen) (h0 : 0 ≤ n) (h1 : n ≤ 4611686018427387904) :
    Calls Try.prog 81 #[.agg #[.string s0, .int .i64 a1, .int .i64 a2, .int .i64 a3, .int .i64 a4], .int .i64 n] w fun e w' => e = .returned (.int .i64 (if n < s0.size then -1 else n - s0.size)) ∧ Below w.heap.size w w' := by
  unfold maxLen at hs
  by_cases h : n < s0.size
  · rw [if_pos h]
    go_enter Try.func81, Try.ntmps81
    go_wp2
    go_ret
    exact ⟨rfl, (Below.refl _ _).alloc (Nat.le_refl _) _⟩
  · rw [if_neg h]
    go_enter Try.func81, Try.ntmps81
    go_wp2
    go_ret
    exact ⟨rfl, (Below.refl _ _).alloc (Nat.le_refl _) _⟩
set_option maxHeartbeats 400000 in
theorem eqCasting_calls (s0 : ByteArray) (a1 : Int) (a2 : Int) (a3 : Int) (a4 : Int) (w : World) :
    Calls Try.prog 97 #[.agg #[.string s0, .int .i64 a1, .int .i64 a2, .int .i64 a3, .int .i64 a4], .agg #[.string s0, .int .i64 a1, .int .i64 a2, .int .i64 a3, .int .i64 a4]] w fun e w' => e = .returned (.bool true) ∧ Below w.heap.size w w' := by
  go_enter Try.func97, Try.ntmps97
  go_wp2
  go_ret
  exact ⟨rfl, ((Below.refl _ _).alloc (Nat.le_refl _) _).alloc (by simp) _⟩
set_option maxHeartbeats 1000000 in
theorem validBay_calls (s0 : ByteArray) (a1 a2 : Int) (w : World) (hs : s0.size ≤ maxLen) :
    Calls Try.prog 145 #[.agg #[.string s0, .int .i64 a1, .int .i64 a2]] w fun e w' => e = .returned (.bool (bayB s0 a1 a2)) ∧ Below w.heap.size w w' := by
  have hB := Below.refl w.heap.size w
  unfold bayB
  cases hq0 : nameB s0
  ·
    go_enter Try.func145, Try.ntmps145
    go_wp2_with (first | (go_at_call 158; refine (isName_calls _ _ hs).mono ?_; rintro e w1 ⟨rfl, hb⟩; obtain ⟨hc, hf⟩ := bcell hb; have hz := hb.size; (try simp at hz); (try have hl0 : w.heap.size < w1.heap.size := by omega); (try have hl1 : w.heap.size + 1 < w1.heap.size := by omega); (try have hl2 : w.heap.size + 1 + 1 < w1.heap.size := by omega); replace hB : Below w.heap.size w w1 := Below.trans (by go_grown) (hb.mono (by go_size)); clear hb) | (go_at_call 180; refine (isExtent_calls _ _).mono ?_; rintro e w1 ⟨rfl, rfl⟩))
    go_ret
    exact ⟨rfl, hB⟩
  ·
    cases hq1 : inB a1 1 300000
    ·
      go_enter Try.func145, Try.ntmps145
      go_wp2_with (first | (go_at_call 158; refine (isName_calls _ _ hs).mono ?_; rintro e w1 ⟨rfl, hb⟩; obtain ⟨hc, hf⟩ := bcell hb; have hz := hb.size; (try simp at hz); (try have hl0 : w.heap.size < w1.heap.size := by omega); (try have hl1 : w.heap.size + 1 < w1.heap.size := by omega); (try have hl2 : w.heap.size + 1 + 1 < w1.heap.size := by omega); replace hB : Below w.heap.size w w1 := Below.trans (by go_grown) (hb.mono (by go_size)); clear hb) | (go_at_call 180; refine (isExtent_calls _ _).mono ?_; rintro e w1 ⟨rfl, rfl⟩))
      go_ret
      exact ⟨rfl, hB⟩
    ·
      cases hq2 : inB a2 1 300000
      ·
        go_enter Try.func145, Try.ntmps145
        go_wp2_with (first | (go_at_call 158; refine (isName_calls _ _ hs).mono ?_; rintro e w1 ⟨rfl, hb⟩; obtain ⟨hc, hf⟩ := bcell hb; have hz := hb.size; (try simp at hz); (try have hl0 : w.heap.size < w1.heap.size := by omega); (try have hl1 : w.heap.size + 1 < w1.heap.size := by omega); (try have hl2 : w.heap.size + 1 + 1 < w1.heap.size := by omega); replace hB : Below w.heap.size w w1 := Below.trans (by go_grown) (hb.mono (by go_size)); clear hb) | (go_at_call 180; refine (isExtent_calls _ _).mono ?_; rintro e w1 ⟨rfl, rfl⟩))
        go_ret
        exact ⟨rfl, hB⟩
      ·
        go_enter Try.func145, Try.ntmps145
        go_wp2_with (first | (go_at_call 158; refine (isName_calls _ _ hs).mono ?_; rintro e w1 ⟨rfl, hb⟩; obtain ⟨hc, hf⟩ := bcell hb; have hz := hb.size; (try simp at hz); (try have hl0 : w.heap.size < w1.heap.size := by omega); (try have hl1 : w.heap.size + 1 < w1.heap.size := by omega); (try have hl2 : w.heap.size + 1 + 1 < w1.heap.size := by omega); replace hB : Below w.heap.size w w1 := Below.trans (by go_grown) (hb.mono (by go_size)); clear hb) | (go_at_call 180; refine (isExtent_calls _ _).mono ?_; rintro e w1 ⟨rfl, rfl⟩))
        go_ret
        exact ⟨rfl, hB⟩
set_option maxHeartbeats 1000000 in
theorem sokBay_calls (b o : Nat) (s0 : ByteArray) (a1 a2 : Int) (w : World) (hs : s0.size ≤ maxLen) (c0 : w.cell? ⟨b, o, none⟩ = some (.string s0)) (c1 : w.cell? ⟨b, o + 1, none⟩ = some (.int .i64 a1)) (c2 : w.cell? ⟨b, o + 2, none⟩ = some (.int .i64 a2)) :
    Calls Try.prog 141 #[.pointer (some ⟨b, o, none⟩)] w fun e w' => e = .returned (.bool (bayB s0 a1 a2)) ∧ w = w' := by
  unfold bayB
  cases hq0 : nameB s0
  ·
    go_enter Try.func141, Try.ntmps141
    go_wp2_with (first | (go_at_call 151; refine (sname_calls _ _ hs).mono ?_; rintro e w1 ⟨rfl, rfl⟩) | (go_at_call 175; refine (sSize_calls _ _).mono ?_; rintro e w1 ⟨rfl, rfl⟩))
    go_ret
    exact ⟨rfl, rfl⟩
  ·
    cases hq1 : inB a1 1 300000
    ·
      go_enter Try.func141, Try.ntmps141
      go_wp2_with (first | (go_at_call 151; refine (sname_calls _ _ hs).mono ?_; rintro e w1 ⟨rfl, rfl⟩) | (go_at_call 175; refine (sSize_calls _ _).mono ?_; rintro e w1 ⟨rfl, rfl⟩))
      go_ret
      exact ⟨rfl, rfl⟩
    ·
      cases hq2 : inB a2 1 300000
      ·
        go_enter Try.func141, Try.ntmps141
        go_wp2_with (first | (go_at_call 151; refine (sname_calls _ _ hs).mono ?_; rintro e w1 ⟨rfl, rfl⟩) | (go_at_call 175; refine (sSize_calls _ _).mono ?_; rintro e w1 ⟨rfl, rfl⟩))
        go_ret
        exact ⟨rfl, rfl⟩
      ·
        go_enter Try.func141, Try.ntmps141
        go_wp2_with (first | (go_at_call 151; refine (sname_calls _ _ hs).mono ?_; rintro e w1 ⟨rfl, rfl⟩) | (go_at_call 175; refine (sSize_calls _ _).mono ?_; rintro e w1 ⟨rfl, rfl⟩))
        go_ret
        exact ⟨rfl, rfl⟩
set_option maxHeartbeats 1000000 in
theorem validCasting_calls (s0 : ByteArray) (a1 a2 a3 a4 : Int) (w : World) (hs : s0.size ≤ maxLen) :
    Calls Try.prog 146 #[.agg #[.string s0, .int .i64 a1, .int .i64 a2, .int .i64 a3, .int .i64 a4]] w fun e w' => e = .returned (.bool (castB s0 a1 a2 a3 a4)) ∧ Below w.heap.size w w' := by
  have hB := Below.refl w.heap.size w
  unfold castB
  cases hq0 : nameB s0
  ·
    go_enter Try.func146, Try.ntmps146
    go_wp2_with (first | (go_at_call 158; refine (isName_calls _ _ hs).mono ?_; rintro e w1 ⟨rfl, hb⟩; obtain ⟨hc, hf⟩ := bcell hb; have hz := hb.size; (try simp at hz); (try have hl0 : w.heap.size < w1.heap.size := by omega); (try have hl1 : w.heap.size + 1 < w1.heap.size := by omega); (try have hl2 : w.heap.size + 1 + 1 < w1.heap.size := by omega); replace hB : Below w.heap.size w w1 := Below.trans (by go_grown) (hb.mono (by go_size)); clear hb) | (go_at_call 180; refine (isExtent_calls _ _).mono ?_; rintro e w1 ⟨rfl, rfl⟩) | (go_at_call 181; refine (isThick_calls _ _).mono ?_; rintro e w1 ⟨rfl, rfl⟩) | (go_at_call 94; refine (isMinute_calls _ _).mono ?_; rintro e w1 ⟨rfl, rfl⟩))
    go_ret
    exact ⟨rfl, hB⟩
  ·
    cases hq1 : inB a1 1 300000
    ·
      go_enter Try.func146, Try.ntmps146
      go_wp2_with (first | (go_at_call 158; refine (isName_calls _ _ hs).mono ?_; rintro e w1 ⟨rfl, hb⟩; obtain ⟨hc, hf⟩ := bcell hb; have hz := hb.size; (try simp at hz); (try have hl0 : w.heap.size < w1.heap.size := by omega); (try have hl1 : w.heap.size + 1 < w1.heap.size := by omega); (try have hl2 : w.heap.size + 1 + 1 < w1.heap.size := by omega); replace hB : Below w.heap.size w w1 := Below.trans (by go_grown) (hb.mono (by go_size)); clear hb) | (go_at_call 180; refine (isExtent_calls _ _).mono ?_; rintro e w1 ⟨rfl, rfl⟩) | (go_at_call 181; refine (isThick_calls _ _).mono ?_; rintro e w1 ⟨rfl, rfl⟩) | (go_at_call 94; refine (isMinute_calls _ _).mono ?_; rintro e w1 ⟨rfl, rfl⟩))
      go_ret
      exact ⟨rfl, hB⟩
    ·
      cases hq2 : inB a2 1 300000
      ·
        go_enter Try.func146, Try.ntmps146
        go_wp2_with (first | (go_at_call 158; refine (isName_calls _ _ hs).mono ?_; rintro e w1 ⟨rfl, hb⟩; obtain ⟨hc, hf⟩ := bcell hb; have hz := hb.size; (try simp at hz); (try have hl0 : w.heap.size < w1.heap.size := by omega); (try have hl1 : w.heap.size + 1 < w1.heap.size := by omega); (try have hl2 : w.heap.size + 1 + 1 < w1.heap.size := by omega); replace hB : Below w.heap.size w w1 := Below.trans (by go_grown) (hb.mono (by go_size)); clear hb) | (go_at_call 180; refine (isExtent_calls _ _).mono ?_; rintro e w1 ⟨rfl, rfl⟩) | (go_at_call 181; refine (isThick_calls _ _).mono ?_; rintro e w1 ⟨rfl, rfl⟩) | (go_at_call 94; refine (isMinute_calls _ _).mono ?_; rintro e w1 ⟨rfl, rfl⟩))
        go_ret
        exact ⟨rfl, hB⟩
      ·
        cases hq3 : inB a3 1 30000
        ·
          go_enter Try.func146, Try.ntmps146
          go_wp2_with (first | (go_at_call 158; refine (isName_calls _ _ hs).mono ?_; rintro e w1 ⟨rfl, hb⟩; obtain ⟨hc, hf⟩ := bcell hb; have hz := hb.size; (try simp at hz); (try have hl0 : w.heap.size < w1.heap.size := by omega); (try have hl1 : w.heap.size + 1 < w1.heap.size := by omega); (try have hl2 : w.heap.size + 1 + 1 < w1.heap.size := by omega); replace hB : Below w.heap.size w w1 := Below.trans (by go_grown) (hb.mono (by go_size)); clear hb) | (go_at_call 180; refine (isExtent_calls _ _).mono ?_; rintro e w1 ⟨rfl, rfl⟩) | (go_at_call 181; refine (isThick_calls _ _).mono ?_; rintro e w1 ⟨rfl, rfl⟩) | (go_at_call 94; refine (isMinute_calls _ _).mono ?_; rintro e w1 ⟨rfl, rfl⟩))
          go_ret
          exact ⟨rfl, hB⟩
        ·
          cases hq4 : inB a4 0 1000000
          ·
            go_enter Try.func146, Try.ntmps146
            go_wp2_with (first | (go_at_call 158; refine (isName_calls _ _ hs).mono ?_; rintro e w1 ⟨rfl, hb⟩; obtain ⟨hc, hf⟩ := bcell hb; have hz := hb.size; (try simp at hz); (try have hl0 : w.heap.size < w1.heap.size := by omega); (try have hl1 : w.heap.size + 1 < w1.heap.size := by omega); (try have hl2 : w.heap.size + 1 + 1 < w1.heap.size := by omega); replace hB : Below w.heap.size w w1 := Below.trans (by go_grown) (hb.mono (by go_size)); clear hb) | (go_at_call 180; refine (isExtent_calls _ _).mono ?_; rintro e w1 ⟨rfl, rfl⟩) | (go_at_call 181; refine (isThick_calls _ _).mono ?_; rintro e w1 ⟨rfl, rfl⟩) | (go_at_call 94; refine (isMinute_calls _ _).mono ?_; rintro e w1 ⟨rfl, rfl⟩))
            go_ret
            exact ⟨rfl, hB⟩
          ·
            go_enter Try.func146, Try.ntmps146
            go_wp2_with (first | (go_at_call 158; refine (isName_calls _ _ hs).mono ?_; rintro e w1 ⟨rfl, hb⟩; obtain ⟨hc, hf⟩ := bcell hb; have hz := hb.size; (try simp at hz); (try have hl0 : w.heap.size < w1.heap.size := by omega); (try have hl1 : w.heap.size + 1 < w1.heap.size := by omega); (try have hl2 : w.heap.size + 1 + 1 < w1.heap.size := by omega); replace hB : Below w.heap.size w w1 := Below.trans (by go_grown) (hb.mono (by go_size)); clear hb) | (go_at_call 180; refine (isExtent_calls _ _).mono ?_; rintro e w1 ⟨rfl, rfl⟩) | (go_at_call 181; refine (isThick_calls _ _).mono ?_; rintro e w1 ⟨rfl, rfl⟩) | (go_at_call 94; refine (isMinute_calls _ _).mono ?_; rintro e w1 ⟨rfl, rfl⟩))
            go_ret
            exact ⟨rfl, hB⟩
set_option maxHeartbeats 1000000 in
theorem sokCasting_calls (b o : Nat) (s0 : ByteArray) (a1 a2 a3 a4 : Int) (w : World) (hs : s0.size ≤ maxLen) (c0 : w.cell? ⟨b, o, none⟩ = some (.string s0)) (c1 : w.cell? ⟨b, o + 1, none⟩ = some (.int .i64 a1)) (c2 : w.cell? ⟨b, o + 2, none⟩ = some (.int .i64 a2)) (c3 : w.cell? ⟨b, o + 3, none⟩ = some (.int .i64 a3)) (c4 : w.cell? ⟨b, o + 4, none⟩ = some (.int .i64 a4)) :
    Calls Try.prog 142 #[.pointer (some ⟨b, o, none⟩)] w fun e w' => e = .returned (.bool (castB s0 a1 a2 a3 a4)) ∧ w = w' := by
  unfold castB
  cases hq0 : nameB s0
  ·
    go_enter Try.func142, Try.ntmps142
    go_wp2_with (first | (go_at_call 151; refine (sname_calls _ _ hs).mono ?_; rintro e w1 ⟨rfl, rfl⟩) | (go_at_call 175; refine (sSize_calls _ _).mono ?_; rintro e w1 ⟨rfl, rfl⟩) | (go_at_call 176; refine (sThick_calls _ _).mono ?_; rintro e w1 ⟨rfl, rfl⟩) | (go_at_call 85; refine (in_calls _ _ _ _).mono ?_; rintro e w1 ⟨rfl, rfl⟩))
    go_ret
    exact ⟨rfl, rfl⟩
  ·
    cases hq1 : inB a1 1 300000
    ·
      go_enter Try.func142, Try.ntmps142
      go_wp2_with (first | (go_at_call 151; refine (sname_calls _ _ hs).mono ?_; rintro e w1 ⟨rfl, rfl⟩) | (go_at_call 175; refine (sSize_calls _ _).mono ?_; rintro e w1 ⟨rfl, rfl⟩) | (go_at_call 176; refine (sThick_calls _ _).mono ?_; rintro e w1 ⟨rfl, rfl⟩) | (go_at_call 85; refine (in_calls _ _ _ _).mono ?_; rintro e w1 ⟨rfl, rfl⟩))
      go_ret
      exact ⟨rfl, rfl⟩
    ·
      cases hq2 : inB a2 1 300000
      ·
        go_enter Try.func142, Try.ntmps142
        go_wp2_with (first | (go_at_call 151; refine (sname_calls _ _ hs).mono ?_; rintro e w1 ⟨rfl, rfl⟩) | (go_at_call 175; refine (sSize_calls _ _).mono ?_; rintro e w1 ⟨rfl, rfl⟩) | (go_at_call 176; refine (sThick_calls _ _).mono ?_; rintro e w1 ⟨rfl, rfl⟩) | (go_at_call 85; refine (in_calls _ _ _ _).mono ?_; rintro e w1 ⟨rfl, rfl⟩))
        go_ret
        exact ⟨rfl, rfl⟩
      ·
        cases hq3 : inB a3 1 30000
        ·
          go_enter Try.func142, Try.ntmps142
          go_wp2_with (first | (go_at_call 151; refine (sname_calls _ _ hs).mono ?_; rintro e w1 ⟨rfl, rfl⟩) | (go_at_call 175; refine (sSize_calls _ _).mono ?_; rintro e w1 ⟨rfl, rfl⟩) | (go_at_call 176; refine (sThick_calls _ _).mono ?_; rintro e w1 ⟨rfl, rfl⟩) | (go_at_call 85; refine (in_calls _ _ _ _).mono ?_; rintro e w1 ⟨rfl, rfl⟩))
          go_ret
          exact ⟨rfl, rfl⟩
        ·
          cases hq4 : inB a4 0 1000000
          ·
            go_enter Try.func142, Try.ntmps142
            go_wp2_with (first | (go_at_call 151; refine (sname_calls _ _ hs).mono ?_; rintro e w1 ⟨rfl, rfl⟩) | (go_at_call 175; refine (sSize_calls _ _).mono ?_; rintro e w1 ⟨rfl, rfl⟩) | (go_at_call 176; refine (sThick_calls _ _).mono ?_; rintro e w1 ⟨rfl, rfl⟩) | (go_at_call 85; refine (in_calls _ _ _ _).mono ?_; rintro e w1 ⟨rfl, rfl⟩))
            go_ret
            exact ⟨rfl, rfl⟩
          ·
            go_enter Try.func142, Try.ntmps142
            go_wp2_with (first | (go_at_call 151; refine (sname_calls _ _ hs).mono ?_; rintro e w1 ⟨rfl, rfl⟩) | (go_at_call 175; refine (sSize_calls _ _).mono ?_; rintro e w1 ⟨rfl, rfl⟩) | (go_at_call 176; refine (sThick_calls _ _).mono ?_; rintro e w1 ⟨rfl, rfl⟩) | (go_at_call 85; refine (in_calls _ _ _ _).mono ?_; rintro e w1 ⟨rfl, rfl⟩))
            go_ret
            exact ⟨rfl, rfl⟩
set_option maxHeartbeats 400000 in
theorem stripTime_calls (s : ByteArray) (r d t f : Int) (w : World) (t0 : 1 ≤ t) (t1 : t ≤ 30000) (f0 : 0 ≤ f) (f1 : f ≤ 1000000) :
    Calls Try.prog 95 #[.agg #[.string s, .int .i64 r, .int .i64 d, .int .i64 t, .int .i64 f]] w fun e w' => e = .returned (.int .i64 (strip t f)) ∧ Below w.heap.size w w' := by
  obtain ⟨q0, q1⟩ := tt_bd 150 t0 t1
  have e1 : IntKind.i64.wrap (f + tt t 150) = f + tt t 150 := IntWalk.i64_in _ ⟨by omega, by omega⟩
  unfold strip
  go_enter Try.func95, Try.ntmps95
  go_wp2_with fail
  go_quiet ((go_at_call 148; exact quiet_more (timeTo_calls _ _ _ t0 t1)))
  go_wp2
  go_ret
  exact ⟨rfl, below_drewN ((Below.refl _ _).alloc (Nat.le_refl _) _) _⟩
set_option maxHeartbeats 1000000 in
theorem sstrip_calls (b o : Nat) (t f : Int) (w : World) (t0 : 1 ≤ t) (t1 : t ≤ 30000) (f0 : 0 ≤ f) (f1 : f ≤ 1000000) (c3 : w.cell? ⟨b, o + 3, none⟩ = some (.int .i64 t)) (c4 : w.cell? ⟨b, o + 4, none⟩ = some (.int .i64 f)) :
    Calls Try.prog 86 #[.pointer (some ⟨b, o, none⟩)] w fun e w' => e = .returned (.int .i64 (strip t f)) ∧ ∃ n, w' = w.drewN n := by
  obtain ⟨q0, q1⟩ := tt_bd 150 t0 t1
  have e1 : IntKind.i64.wrap (f + tt t 150) = f + tt t 150 := IntWalk.i64_in _ ⟨by omega, by omega⟩
  unfold strip
  go_enter Try.func86, Try.ntmps86
  go_wp2_with fail
  go_quiet ((go_at_call 144; exact quiet_more (sto_calls _ _ _ t0 t1)))
  go_wp2
  go_ret
  exact ⟨rfl, _, rfl⟩
noncomputable def spV2 (s : ByteArray) (r d t f : Int) : Int := if castB s r d t f = true then strip t f else 0
noncomputable def okB (b : Bool) : Int := if b = true then 0 else 1
end Go.Proofs.Ytaanlkdpconfiaa
