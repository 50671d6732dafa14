/- Pours and crucibles: which are valid; the next heat, in the program and in the reference. For all fields. -/
import Derived.Test.YtonoeohmpaegdaaName
import Derived.Test.YtonoeohmpaegdaaPred
import Derived.Handy
namespace Go.Proofs.Ytonoeohmpaegdaa
set_option linter.unusedVariables false
open Go.RowKit

noncomputable def pourB (s : ByteArray) (m r d : Int) : Bool := nameB s && (inB m 1 20000000 && (inB r 0 d && decide (d ≤ 10000)))
noncomputable def crucB (s : ByteArray) (c h f : Int) : Bool := nameB s && (inB c 1 20000000 && (inB h 1 10000 && inB f 0 10000))
theorem pourB_of {s : ByteArray} {m r d : Int} (h : pourB s m r d = true) : (1 ≤ m ∧ m ≤ 20000000) ∧ (0 ≤ r ∧ r ≤ d) ∧ d ≤ 10000 := by
  simp only [pourB, Bool.and_eq_true] at h
  exact ⟨inB_iff.1 h.2.1, inB_iff.1 h.2.2.1, of_decide_eq_true h.2.2.2⟩
theorem crucB_of {s : ByteArray} {c h f : Int} (q : crucB s c h f = true) : (1 ≤ c ∧ c ≤ 20000000) ∧ (1 ≤ h ∧ h ≤ 10000) ∧ (0 ≤ f ∧ f ≤ 10000) := by
  simp only [crucB, Bool.and_eq_true] at q
  exact ⟨inB_iff.1 q.2.1, inB_iff.1 q.2.2.1, inB_iff.1 q.2.2.2⟩
theorem pourB_alt (s : ByteArray) (m r d : Int) : (nameB s && (inB m 1 20000000 && (inB r 0 10000 && inB d r 10000))) = pourB s m r d := by
  unfold pourB
  congr 2
  rw [Bool.eq_iff_iff]
  simp only [Bool.and_eq_true, inB_iff, decide_eq_true_eq]
  omega
set_option maxHeartbeats 400000 in
theorem toPour_calls (s0 : ByteArray) (a1 : Int) (a2 : Int) (a3 : Int) (w : World) :
    Calls Try.prog 59 #[.agg #[.string s0, .int .i64 a1, .int .i64 a2, .int .i64 a3]] w fun e w' => e = .returned (.agg #[.string s0, .int .i64 a1, .int .i64 a2, .int .i64 a3]) ∧ Below w.heap.size w w' := by
  go_enter Try.func59, Try.ntmps59
  go_wp2
  refine bodyPost_ret (v := .agg #[.string s0, .int .i64 a1, .int .i64 a2, .int .i64 a3]) (by simp [results, Try.results59, go_sem]) rfl ⟨rfl, ?_⟩
  go_grown
set_option maxHeartbeats 400000 in
theorem szPour_calls (s0 : ByteArray) (a1 : Int) (a2 : Int) (a3 : Int) (n : Int) (w : World) (hs : s0.size ≤ maxLen) (h0 : 0 ≤ n) (h1 : n ≤ 4611686018427387904) :
    Calls Try.prog 52 #[.agg #[.string s0, .int .i64 a1, .int .i64 a2, .int .i64 a3], .int .i64 n] w fun e w' => e = .returned (.int .i64 (if n < s0.size then -1 else n - s0.size)) ∧ Below w.heap.size w w' := by
  unfold maxLen at hs
  by_cases h : n < s0.size
  · rw [if_pos h]
    go_enter Try.func52, Try.ntmps52
    go_wp2
    go_ret
    exact ⟨rfl, (Below.refl _ _).alloc (Nat.le_refl _) _⟩
  · rw [if_neg h]
    go_enter Try.func52, Try.ntmps52
    go_wp2
    go_ret
    exact ⟨rfl, (Below.refl _ _).alloc (Nat.le_refl _) _⟩
set_option maxHeartbeats 400000 in
theorem eqPour_calls (s0 : ByteArray) (a1 : Int) (a2 : Int) (a3 : Int) (w : World) :
    Calls Try.prog 70 #[.agg #[.string s0, .int .i64 a1, .int .i64 a2, .int .i64 a3], .agg #[.string s0, .int .i64 a1, .int .i64 a2, .int .i64 a3]] w fun e w' => e = .returned (.bool true) ∧ Below w.heap.size w w' := by
  go_enter Try.func70, Try.ntmps70
  go_wp2
  go_ret
  exact ⟨rfl, ((Below.refl _ _).alloc (Nat.le_refl _) _).alloc (by simp) _⟩
set_option maxHeartbeats 400000 in
theorem toCrucible_calls (s0 : ByteArray) (a1 : Int) (a2 : Int) (a3 : Int) (w : World) :
    Calls Try.prog 60 #[.agg #[.string s0, .int .i64 a1, .int .i64 a2, .int .i64 a3]] w fun e w' => e = .returned (.agg #[.string s0, .int .i64 a1, .int .i64 a2, .int .i64 a3]) ∧ Below w.heap.size w w' := by
  go_enter Try.func60, Try.ntmps60
  go_wp2
  refine bodyPost_ret (v := .agg #[.string s0, .int .i64 a1, .int .i64 a2, .int .i64 a3]) (by simp [results, Try.results60, go_sem]) rfl ⟨rfl, ?_⟩
  go_grown
set_option maxHeartbeats 400000 in
theorem szCrucible_calls (s0 : ByteArray) (a1 : Int) (a2 : Int) (a3 : Int) (n : Int) (w : World) (hs : s0.size ≤ maxLen) (h0 : 0 ≤ n) (h1 : n ≤ 4611686018427387904) :
    Calls Try.prog 53 #[.agg #[.string s0, .int .i64 a1, .int .i64 a2, .int .i64 a3], .int .i64 n] w fun e w' => e = .returned (.int .i64 (if n < s0.size then -1 else n - s0.size)) ∧ Below w.heap.size w w' := by
  unfold maxLen at hs
  by_cases h : n < s0.size
  · rw [if_pos h]
    go_enter Try.func53, Try.ntmps53
    go_wp2
    go_ret
    exact ⟨rfl, (Below.refl _ _).alloc (Nat.le_refl _) _⟩
  · rw [if_neg h]
    go_enter Try.func53, Try.ntmps53
    go_wp2
    go_ret
    exact ⟨rfl, (Below.refl _ _).alloc (Nat.le_refl _) _⟩
set_option maxHeartbeats 400000 in
theorem eqCrucible_calls (s0 : ByteArray) (a1 : Int) (a2 : Int) (a3 : Int) (w : World) :
    Calls Try.prog 71 #[.agg #[.string s0, .int .i64 a1, .int .i64 a2, .int .i64 a3], .agg #[.string s0, .int .i64 a1, .int .i64 a2, .int .i64 a3]] w fun e w' => e = .returned (.bool true) ∧ Below w.heap.size w w' := by
  go_enter Try.func71, Try.ntmps71
  go_wp2
  go_ret
  exact ⟨rfl, ((Below.refl _ _).alloc (Nat.le_refl _) _).alloc (by simp) _⟩
set_option maxHeartbeats 1000000 in
theorem validPour_calls (s0 : ByteArray) (a1 a2 a3 : Int) (w : World) (hs : s0.size ≤ maxLen) :
    Calls Try.prog 94 #[.agg #[.string s0, .int .i64 a1, .int .i64 a2, .int .i64 a3]] w fun e w' => e = .returned (.bool (pourB s0 a1 a2 a3)) ∧ Below w.heap.size w w' := by
  have hB := Below.refl w.heap.size w
  unfold pourB
  cases hq0 : nameB s0
  ·
    go_enter Try.func94, Try.ntmps94
    go_wp2_with (first | (go_at_call 81; refine (isName_calls _ _ hs).mono ?_; rintro e w1 ⟨rfl, hb⟩; obtain ⟨hc, hf⟩ := bcell hb; have hz := hb.size; (try simp at hz); (try have hl0 : w.heap.size < w1.heap.size := by omega); (try have hl1 : w.heap.size + 1 < w1.heap.size := by omega); (try have hl2 : w.heap.size + 1 + 1 < w1.heap.size := by omega); replace hB : Below w.heap.size w w1 := Below.trans (by go_grown) (hb.mono (by go_size)); clear hb) | (go_at_call 103; refine (isMass_calls _ _).mono ?_; rintro e w1 ⟨rfl, rfl⟩) | (go_at_call 87; refine (within_calls _ _ _ _).mono ?_; rintro e w1 ⟨rfl, rfl⟩))
    go_ret
    exact ⟨rfl, hB⟩
  ·
    cases hq1 : inB a1 1 20000000
    ·
      go_enter Try.func94, Try.ntmps94
      go_wp2_with (first | (go_at_call 81; refine (isName_calls _ _ hs).mono ?_; rintro e w1 ⟨rfl, hb⟩; obtain ⟨hc, hf⟩ := bcell hb; have hz := hb.size; (try simp at hz); (try have hl0 : w.heap.size < w1.heap.size := by omega); (try have hl1 : w.heap.size + 1 < w1.heap.size := by omega); (try have hl2 : w.heap.size + 1 + 1 < w1.heap.size := by omega); replace hB : Below w.heap.size w w1 := Below.trans (by go_grown) (hb.mono (by go_size)); clear hb) | (go_at_call 103; refine (isMass_calls _ _).mono ?_; rintro e w1 ⟨rfl, rfl⟩) | (go_at_call 87; refine (within_calls _ _ _ _).mono ?_; rintro e w1 ⟨rfl, rfl⟩))
      go_ret
      exact ⟨rfl, hB⟩
    ·
      cases hq2 : inB a2 0 a3
      ·
        go_enter Try.func94, Try.ntmps94
        go_wp2_with (first | (go_at_call 81; refine (isName_calls _ _ hs).mono ?_; rintro e w1 ⟨rfl, hb⟩; obtain ⟨hc, hf⟩ := bcell hb; have hz := hb.size; (try simp at hz); (try have hl0 : w.heap.size < w1.heap.size := by omega); (try have hl1 : w.heap.size + 1 < w1.heap.size := by omega); (try have hl2 : w.heap.size + 1 + 1 < w1.heap.size := by omega); replace hB : Below w.heap.size w w1 := Below.trans (by go_grown) (hb.mono (by go_size)); clear hb) | (go_at_call 103; refine (isMass_calls _ _).mono ?_; rintro e w1 ⟨rfl, rfl⟩) | (go_at_call 87; refine (within_calls _ _ _ _).mono ?_; rintro e w1 ⟨rfl, rfl⟩))
        go_ret
        exact ⟨rfl, hB⟩
      ·
        cases hq3 : decide (a3 ≤ 10000)
        ·
          go_enter Try.func94, Try.ntmps94
          go_wp2_with (first | (go_at_call 81; refine (isName_calls _ _ hs).mono ?_; rintro e w1 ⟨rfl, hb⟩; obtain ⟨hc, hf⟩ := bcell hb; have hz := hb.size; (try simp at hz); (try have hl0 : w.heap.size < w1.heap.size := by omega); (try have hl1 : w.heap.size + 1 < w1.heap.size := by omega); (try have hl2 : w.heap.size + 1 + 1 < w1.heap.size := by omega); replace hB : Below w.heap.size w w1 := Below.trans (by go_grown) (hb.mono (by go_size)); clear hb) | (go_at_call 103; refine (isMass_calls _ _).mono ?_; rintro e w1 ⟨rfl, rfl⟩) | (go_at_call 87; refine (within_calls _ _ _ _).mono ?_; rintro e w1 ⟨rfl, rfl⟩))
          go_ret
          exact ⟨rfl, hB⟩
        ·
          go_enter Try.func94, Try.ntmps94
          go_wp2_with (first | (go_at_call 81; refine (isName_calls _ _ hs).mono ?_; rintro e w1 ⟨rfl, hb⟩; obtain ⟨hc, hf⟩ := bcell hb; have hz := hb.size; (try simp at hz); (try have hl0 : w.heap.size < w1.heap.size := by omega); (try have hl1 : w.heap.size + 1 < w1.heap.size := by omega); (try have hl2 : w.heap.size + 1 + 1 < w1.heap.size := by omega); replace hB : Below w.heap.size w w1 := Below.trans (by go_grown) (hb.mono (by go_size)); clear hb) | (go_at_call 103; refine (isMass_calls _ _).mono ?_; rintro e w1 ⟨rfl, rfl⟩) | (go_at_call 87; refine (within_calls _ _ _ _).mono ?_; rintro e w1 ⟨rfl, rfl⟩))
          go_ret
          exact ⟨rfl, hB⟩
set_option maxHeartbeats 1000000 in
theorem sokPour0_calls (b o : Nat) (s0 : ByteArray) (a1 a2 a3 : Int) (w : World) (hs : s0.size ≤ maxLen) (c0 : w.cell? ⟨b, o, none⟩ = some (.string s0)) (c1 : w.cell? ⟨b, o + 1, none⟩ = some (.int .i64 a1)) (c2 : w.cell? ⟨b, o + 2, none⟩ = some (.int .i64 a2)) (c3 : w.cell? ⟨b, o + 3, none⟩ = some (.int .i64 a3)) :
    Calls Try.prog 91 #[.pointer (some ⟨b, o, none⟩)] w fun e w' => e = .returned (.bool (nameB s0 && (inB a1 1 20000000 && (inB a2 0 10000 && inB a3 a2 10000)))) ∧ ∃ n, w' = w.drewN n := by
  cases hq0 : nameB s0
  ·
    have HC0 := Lib.hid (show ∀ m, Calls Try.prog 73 #[.string s0] (w.drewN m) (fun e w' => e = .returned (.bool false) ∧ w.drewN m = w') from fun m => by have hq := sname_calls s0 (w.drewN m) hs; rwa [hq0] at hq)
    go_enter Try.func91, Try.ntmps91
    go_wp2_with fail
    go_quiet (first | (go_at_call 73; with_reducible exact quiet_left (HC0.out _)))
    go_wp2
    go_ret
    exact ⟨rfl, _, rfl⟩
  ·
    cases hq1 : inB a1 1 20000000
    ·
      have HC0 := Lib.hid (show ∀ m, Calls Try.prog 73 #[.string s0] (w.drewN m) (fun e w' => e = .returned (.bool true) ∧ w.drewN m = w') from fun m => by have hq := sname_calls s0 (w.drewN m) hs; rwa [hq0] at hq)
      have HC1 := Lib.hid (show ∀ m, Calls Try.prog 35 #[.int .i64 a1, .int .i64 1, .int .i64 20000000] (w.drewN m) (fun e w' => e = .returned (.bool false) ∧ w.drewN m = w') from fun m => by have hq := in_calls a1 1 20000000 (w.drewN m); rwa [hq1] at hq)
      go_enter Try.func91, Try.ntmps91
      go_wp2_with fail
      go_quiet (first | (go_at_call 73; with_reducible exact quiet_left (HC0.out _)) | (go_at_call 35; with_reducible exact quiet_left (HC1.out _)))
      go_wp2
      go_ret
      exact ⟨rfl, _, rfl⟩
    ·
      cases hq2 : inB a2 0 10000
      ·
        have HC0 := Lib.hid (show ∀ m, Calls Try.prog 73 #[.string s0] (w.drewN m) (fun e w' => e = .returned (.bool true) ∧ w.drewN m = w') from fun m => by have hq := sname_calls s0 (w.drewN m) hs; rwa [hq0] at hq)
        have HC1 := Lib.hid (show ∀ m, Calls Try.prog 35 #[.int .i64 a1, .int .i64 1, .int .i64 20000000] (w.drewN m) (fun e w' => e = .returned (.bool true) ∧ w.drewN m = w') from fun m => by have hq := in_calls a1 1 20000000 (w.drewN m); rwa [hq1] at hq)
        have HC2 := Lib.hid (show ∀ m, Calls Try.prog 35 #[.int .i64 a2, .int .i64 0, .int .i64 10000] (w.drewN m) (fun e w' => e = .returned (.bool false) ∧ w.drewN m = w') from fun m => by have hq := in_calls a2 0 10000 (w.drewN m); rwa [hq2] at hq)
        go_enter Try.func91, Try.ntmps91
        go_wp2_with fail
        go_quiet (first | (go_at_call 73; with_reducible exact quiet_left (HC0.out _)) | (go_at_call 35; with_reducible exact quiet_left (HC1.out _)) | (go_at_call 35; with_reducible exact quiet_left (HC2.out _)))
        go_wp2
        go_ret
        exact ⟨rfl, _, rfl⟩
      ·
        cases hq3 : inB a3 a2 10000
        ·
          have HC0 := Lib.hid (show ∀ m, Calls Try.prog 73 #[.string s0] (w.drewN m) (fun e w' => e = .returned (.bool true) ∧ w.drewN m = w') from fun m => by have hq := sname_calls s0 (w.drewN m) hs; rwa [hq0] at hq)
          have HC1 := Lib.hid (show ∀ m, Calls Try.prog 35 #[.int .i64 a1, .int .i64 1, .int .i64 20000000] (w.drewN m) (fun e w' => e = .returned (.bool true) ∧ w.drewN m = w') from fun m => by have hq := in_calls a1 1 20000000 (w.drewN m); rwa [hq1] at hq)
          have HC2 := Lib.hid (show ∀ m, Calls Try.prog 35 #[.int .i64 a2, .int .i64 0, .int .i64 10000] (w.drewN m) (fun e w' => e = .returned (.bool true) ∧ w.drewN m = w') from fun m => by have hq := in_calls a2 0 10000 (w.drewN m); rwa [hq2] at hq)
          have HC3 := Lib.hid (show ∀ m, Calls Try.prog 35 #[.int .i64 a3, .int .i64 a2, .int .i64 10000] (w.drewN m) (fun e w' => e = .returned (.bool false) ∧ w.drewN m = w') from fun m => by have hq := in_calls a3 a2 10000 (w.drewN m); rwa [hq3] at hq)
          go_enter Try.func91, Try.ntmps91
          go_wp2_with fail
          go_quiet (first | (go_at_call 73; with_reducible exact quiet_left (HC0.out _)) | (go_at_call 35; with_reducible exact quiet_left (HC1.out _)) | (go_at_call 35; with_reducible exact quiet_left (HC2.out _)) | (go_at_call 35; with_reducible exact quiet_left (HC3.out _)))
          go_wp2
          go_ret
          exact ⟨rfl, _, rfl⟩
        ·
          have HC0 := Lib.hid (show ∀ m, Calls Try.prog 73 #[.string s0] (w.drewN m) (fun e w' => e = .returned (.bool true) ∧ w.drewN m = w') from fun m => by have hq := sname_calls s0 (w.drewN m) hs; rwa [hq0] at hq)
          have HC1 := Lib.hid (show ∀ m, Calls Try.prog 35 #[.int .i64 a1, .int .i64 1, .int .i64 20000000] (w.drewN m) (fun e w' => e = .returned (.bool true) ∧ w.drewN m = w') from fun m => by have hq := in_calls a1 1 20000000 (w.drewN m); rwa [hq1] at hq)
          have HC2 := Lib.hid (show ∀ m, Calls Try.prog 35 #[.int .i64 a2, .int .i64 0, .int .i64 10000] (w.drewN m) (fun e w' => e = .returned (.bool true) ∧ w.drewN m = w') from fun m => by have hq := in_calls a2 0 10000 (w.drewN m); rwa [hq2] at hq)
          have HC3 := Lib.hid (show ∀ m, Calls Try.prog 35 #[.int .i64 a3, .int .i64 a2, .int .i64 10000] (w.drewN m) (fun e w' => e = .returned (.bool true) ∧ w.drewN m = w') from fun m => by have hq := in_calls a3 a2 10000 (w.drewN m); rwa [hq3] at hq)
          go_enter Try.func91, Try.ntmps91
          go_wp2_with fail
          go_quiet (first | (go_at_call 73; with_reducible exact quiet_left (HC0.out _)) | (go_at_call 35; with_reducible exact quiet_left (HC1.out _)) | (go_at_call 35; with_reducible exact quiet_left (HC2.out _)) | (go_at_call 35; with_reducible exact quiet_left (HC3.out _)))
          go_wp2
          go_ret
          exact ⟨rfl, _, rfl⟩
theorem sokPour_calls (b o : Nat) (s0 : ByteArray) (a1 a2 a3 : Int) (w : World) (hs : s0.size ≤ maxLen) (c0 : w.cell? ⟨b, o, none⟩ = some (.string s0)) (c1 : w.cell? ⟨b, o + 1, none⟩ = some (.int .i64 a1)) (c2 : w.cell? ⟨b, o + 2, none⟩ = some (.int .i64 a2)) (c3 : w.cell? ⟨b, o + 3, none⟩ = some (.int .i64 a3)) :
    Calls Try.prog 91 #[.pointer (some ⟨b, o, none⟩)] w fun e w' => e = .returned (.bool (pourB s0 a1 a2 a3)) ∧ ∃ n, w' = w.drewN n := by
  rw [← pourB_alt]
  exact sokPour0_calls b o s0 a1 a2 a3 w hs c0 c1 c2 c3
set_option maxHeartbeats 1000000 in
theorem validCrucible_calls (s0 : ByteArray) (a1 a2 a3 : Int) (w : World) (hs : s0.size ≤ maxLen) :
    Calls Try.prog 95 #[.agg #[.string s0, .int .i64 a1, .int .i64 a2, .int .i64 a3]] w fun e w' => e = .returned (.bool (crucB s0 a1 a2 a3)) ∧ Below w.heap.size w w' := by
  have hB := Below.refl w.heap.size w
  unfold crucB
  cases hq0 : nameB s0
  ·
    go_enter Try.func95, Try.ntmps95
    go_wp2_with (first | (go_at_call 81; refine (isName_calls _ _ hs).mono ?_; rintro e w1 ⟨rfl, hb⟩; obtain ⟨hc, hf⟩ := bcell hb; have hz := hb.size; (try simp at hz); (try have hl0 : w.heap.size < w1.heap.size := by omega); (try have hl1 : w.heap.size + 1 < w1.heap.size := by omega); (try have hl2 : w.heap.size + 1 + 1 < w1.heap.size := by omega); replace hB : Below w.heap.size w w1 := Below.trans (by go_grown) (hb.mono (by go_size)); clear hb) | (go_at_call 103; refine (isMass_calls _ _).mono ?_; rintro e w1 ⟨rfl, rfl⟩) | (go_at_call 87; refine (within_calls _ _ _ _).mono ?_; rintro e w1 ⟨rfl, rfl⟩))
    go_ret
    exact ⟨rfl, hB⟩
  ·
    cases hq1 : inB a1 1 20000000
    ·
      go_enter Try.func95, Try.ntmps95
      go_wp2_with (first | (go_at_call 81; refine (isName_calls _ _ hs).mono ?_; rintro e w1 ⟨rfl, hb⟩; obtain ⟨hc, hf⟩ := bcell hb; have hz := hb.size; (try simp at hz); (try have hl0 : w.heap.size < w1.heap.size := by omega); (try have hl1 : w.heap.size + 1 < w1.heap.size := by omega); (try have hl2 : w.heap.size + 1 + 1 < w1.heap.size := by omega); replace hB : Below w.heap.size w w1 := Below.trans (by go_grown) (hb.mono (by go_size)); clear hb) | (go_at_call 103; refine (isMass_calls _ _).mono ?_; rintro e w1 ⟨rfl, rfl⟩) | (go_at_call 87; refine (within_calls _ _ _ _).mono ?_; rintro e w1 ⟨rfl, rfl⟩))
      go_ret
      exact ⟨rfl, hB⟩
    ·
      cases hq2 : inB a2 1 10000
      ·
        go_enter Try.func95, Try.ntmps95
        go_wp2_with (first | (go_at_call 81; refine (isName_calls _ _ hs).mono ?_; rintro e w1 ⟨rfl, hb⟩; obtain ⟨hc, hf⟩ := bcell hb; have hz := hb.size; (try simp at hz); (try have hl0 : w.heap.size < w1.heap.size := by omega); (try have hl1 : w.heap.size + 1 < w1.heap.size := by omega); (try have hl2 : w.heap.size + 1 + 1 < w1.heap.size := by omega); replace hB : Below w.heap.size w w1 := Below.trans (by go_grown) (hb.mono (by go_size)); clear hb) | (go_at_call 103; refine (isMass_calls _ _).mono ?_; rintro e w1 ⟨rfl, rfl⟩) | (go_at_call 87; refine (within_calls _ _ _ _).mono ?_; rintro e w1 ⟨rfl, rfl⟩))
        go_ret
        exact ⟨rfl, hB⟩
      ·
        cases hq3 : inB a3 0 10000
        ·
          go_enter Try.func95, Try.ntmps95
          go_wp2_with (first | (go_at_call 81; refine (isName_calls _ _ hs).mono ?_; rintro e w1 ⟨rfl, hb⟩; obtain ⟨hc, hf⟩ := bcell hb; have hz := hb.size; (try simp at hz); (try have hl0 : w.heap.size < w1.heap.size := by omega); (try have hl1 : w.heap.size + 1 < w1.heap.size := by omega); (try have hl2 : w.heap.size + 1 + 1 < w1.heap.size := by omega); replace hB : Below w.heap.size w w1 := Below.trans (by go_grown) (hb.mono (by go_size)); clear hb) | (go_at_call 103; refine (isMass_calls _ _).mono ?_; rintro e w1 ⟨rfl, rfl⟩) | (go_at_call 87; refine (within_calls _ _ _ _).mono ?_; rintro e w1 ⟨rfl, rfl⟩))
          go_ret
          exact ⟨rfl, hB⟩
        ·
          go_enter Try.func95, Try.ntmps95
          go_wp2_with (first | (go_at_call 81; refine (isName_calls _ _ hs).mono ?_; rintro e w1 ⟨rfl, hb⟩; obtain ⟨hc, hf⟩ := bcell hb; have hz := hb.size; (try simp at hz); (try have hl0 : w.heap.size < w1.heap.size := by omega); (try have hl1 : w.heap.size + 1 < w1.heap.size := by omega); (try have hl2 : w.heap.size + 1 + 1 < w1.heap.size := by omega); replace hB : Below w.heap.size w w1 := Below.trans (by go_grown) (hb.mono (by go_size)); clear hb) | (go_at_call 103; refine (isMass_calls _ _).mono ?_; rintro e w1 ⟨rfl, rfl⟩) | (go_at_call 87; refine (within_calls _ _ _ _).mono ?_; rintro e w1 ⟨rfl, rfl⟩))
          go_ret
          exact ⟨rfl, hB⟩
set_option maxHeartbeats 1000000 in
theorem sokCruc_calls (b o : Nat) (s0 : ByteArray) (a1 a2 a3 : Int) (w : World) (hs : s0.size ≤ maxLen) (c0 : w.cell? ⟨b, o, none⟩ = some (.string s0)) (c1 : w.cell? ⟨b, o + 1, none⟩ = some (.int .i64 a1)) (c2 : w.cell? ⟨b, o + 2, none⟩ = some (.int .i64 a2)) (c3 : w.cell? ⟨b, o + 3, none⟩ = some (.int .i64 a3)) :
    Calls Try.prog 92 #[.pointer (some ⟨b, o, none⟩)] w fun e w' => e = .returned (.bool (crucB s0 a1 a2 a3)) ∧ w = w' := by
  unfold crucB
  cases hq0 : nameB s0
  ·
    go_enter Try.func92, Try.ntmps92
    go_wp2_with (first | (go_at_call 73; refine (sname_calls _ _ hs).mono ?_; rintro e w1 ⟨rfl, rfl⟩) | (go_at_call 35; refine (in_calls _ _ _ _).mono ?_; rintro e w1 ⟨rfl, rfl⟩))
    go_ret
    exact ⟨rfl, rfl⟩
  ·
    cases hq1 : inB a1 1 20000000
    ·
      go_enter Try.func92, Try.ntmps92
      go_wp2_with (first | (go_at_call 73; refine (sname_calls _ _ hs).mono ?_; rintro e w1 ⟨rfl, rfl⟩) | (go_at_call 35; refine (in_calls _ _ _ _).mono ?_; rintro e w1 ⟨rfl, rfl⟩))
      go_ret
      exact ⟨rfl, rfl⟩
    ·
      cases hq2 : inB a2 1 10000
      ·
        go_enter Try.func92, Try.ntmps92
        go_wp2_with (first | (go_at_call 73; refine (sname_calls _ _ hs).mono ?_; rintro e w1 ⟨rfl, rfl⟩) | (go_at_call 35; refine (in_calls _ _ _ _).mono ?_; rintro e w1 ⟨rfl, rfl⟩))
        go_ret
        exact ⟨rfl, rfl⟩
      ·
        cases hq3 : inB a3 0 10000
        ·
          go_enter Try.func92, Try.ntmps92
          go_wp2_with (first | (go_at_call 73; refine (sname_calls _ _ hs).mono ?_; rintro e w1 ⟨rfl, rfl⟩) | (go_at_call 35; refine (in_calls _ _ _ _).mono ?_; rintro e w1 ⟨rfl, rfl⟩))
          go_ret
          exact ⟨rfl, rfl⟩
        ·
          go_enter Try.func92, Try.ntmps92
          go_wp2_with (first | (go_at_call 73; refine (sname_calls _ _ hs).mono ?_; rintro e w1 ⟨rfl, rfl⟩) | (go_at_call 35; refine (in_calls _ _ _ _).mono ?_; rintro e w1 ⟨rfl, rfl⟩))
          go_ret
          exact ⟨rfl, rfl⟩
end Go.Proofs.Ytonoeohmpaegdaa
