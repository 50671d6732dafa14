/- Hung bells: what makes one valid, in the program and in the reference; the mirror's copy, size and comparison. For all fields that the model can hold. -/
import Derived.Test.YtmliceloimdckaaDoorName
import Derived.Test.YtmliceloimdckaaDoorPred
import Derived.Handy
namespace Go.Proofs.YtmliceloimdckaaDoor
set_option linter.unusedVariables false
open Go.RowKit

/-- Is a hung bell valid? -/
noncomputable def hungB (s : ByteArray) (m a f g : Int) : Bool := nameB s && (inB m 1 20000000 && (inB a 1 30000 && (inB f 1 1000 && inB g 1 180)))
theorem hungB_of {s : ByteArray} {m a f g : Int} (h : hungB s m a f g = true) : nameB s = true ∧ (1 ≤ m ∧ m ≤ 20000000) ∧ (1 ≤ a ∧ a ≤ 30000) ∧ (1 ≤ f ∧ f ≤ 1000) ∧ (1 ≤ g ∧ g ≤ 180) := by
  simp only [hungB, Bool.and_eq_true] at h
  exact ⟨h.1, inB_iff.1 h.2.1, inB_iff.1 h.2.2.1, inB_iff.1 h.2.2.2.1, inB_iff.1 h.2.2.2.2⟩



set_option maxHeartbeats 1000000 in
theorem validHung_calls (s : ByteArray) (m a f g : Int) (w : World) (hs : s.size ≤ maxLen) :
    Calls Tryd.prog 60 #[.agg #[.string s, .int .i64 m, .int .i64 a, .int .i64 f, .int .i64 g]] w fun e w' => e = .returned (.bool (hungB s m a f g)) ∧ Below w.heap.size w w' := by
  unfold hungB
  cases hN : nameB s
  ·
    go_enter Tryd.func60, Tryd.ntmps60
    go_wp2_with (first | (go_at_call 85; refine (isName_calls _ _ hs).mono ?_; rintro e w1 ⟨rfl, hb⟩; rw [hN]; obtain ⟨hc1, hf1⟩ := bcell hb; have hb1 := Lib.hid hb; clear hb) | (go_at_call 89; refine (isMass_calls _ _).mono ?_; rintro e w' ⟨rfl, rfl⟩) | (go_at_call 86; refine (within_calls _ _ _ _).mono ?_; rintro e w' ⟨rfl, rfl⟩))
    go_ret
    exact ⟨rfl, (((Below.refl _ _).alloc (Nat.le_refl _) _).trans (hb1.out.mono (by simp)))⟩
  · cases hM : inB m 1 20000000
    ·
      go_enter Tryd.func60, Tryd.ntmps60
      go_wp2_with (first | (go_at_call 85; refine (isName_calls _ _ hs).mono ?_; rintro e w1 ⟨rfl, hb⟩; rw [hN]; obtain ⟨hc1, hf1⟩ := bcell hb; have hb1 := Lib.hid hb; clear hb) | (go_at_call 89; refine (isMass_calls _ _).mono ?_; rintro e w' ⟨rfl, rfl⟩) | (go_at_call 86; refine (within_calls _ _ _ _).mono ?_; rintro e w' ⟨rfl, rfl⟩))
      go_ret
      exact ⟨rfl, (((Below.refl _ _).alloc (Nat.le_refl _) _).trans (hb1.out.mono (by simp)))⟩
    · cases hA : inB a 1 30000
      ·
        go_enter Tryd.func60, Tryd.ntmps60
        go_wp2_with (first | (go_at_call 85; refine (isName_calls _ _ hs).mono ?_; rintro e w1 ⟨rfl, hb⟩; rw [hN]; obtain ⟨hc1, hf1⟩ := bcell hb; have hb1 := Lib.hid hb; clear hb) | (go_at_call 89; refine (isMass_calls _ _).mono ?_; rintro e w' ⟨rfl, rfl⟩) | (go_at_call 86; refine (within_calls _ _ _ _).mono ?_; rintro e w' ⟨rfl, rfl⟩))
        go_ret
        exact ⟨rfl, (((Below.refl _ _).alloc (Nat.le_refl _) _).trans (hb1.out.mono (by simp)))⟩
      · cases hF : inB f 1 1000
        ·
          go_enter Tryd.func60, Tryd.ntmps60
          go_wp2_with (first | (go_at_call 85; refine (isName_calls _ _ hs).mono ?_; rintro e w1 ⟨rfl, hb⟩; rw [hN]; obtain ⟨hc1, hf1⟩ := bcell hb; have hb1 := Lib.hid hb; clear hb) | (go_at_call 89; refine (isMass_calls _ _).mono ?_; rintro e w' ⟨rfl, rfl⟩) | (go_at_call 86; refine (within_calls _ _ _ _).mono ?_; rintro e w' ⟨rfl, rfl⟩))
          go_ret
          exact ⟨rfl, (((Below.refl _ _).alloc (Nat.le_refl _) _).trans (hb1.out.mono (by simp)))⟩
        · cases hG : inB g 1 180
          ·
            go_enter Tryd.func60, Tryd.ntmps60
            go_wp2_with (first | (go_at_call 85; refine (isName_calls _ _ hs).mono ?_; rintro e w1 ⟨rfl, hb⟩; rw [hN]; obtain ⟨hc1, hf1⟩ := bcell hb; have hb1 := Lib.hid hb; clear hb) | (go_at_call 89; refine (isMass_calls _ _).mono ?_; rintro e w' ⟨rfl, rfl⟩) | (go_at_call 86; refine (within_calls _ _ _ _).mono ?_; rintro e w' ⟨rfl, rfl⟩))
            go_ret
            exact ⟨rfl, (((Below.refl _ _).alloc (Nat.le_refl _) _).trans (hb1.out.mono (by simp)))⟩
          ·
            go_enter Tryd.func60, Tryd.ntmps60
            go_wp2_with (first | (go_at_call 85; refine (isName_calls _ _ hs).mono ?_; rintro e w1 ⟨rfl, hb⟩; rw [hN]; obtain ⟨hc1, hf1⟩ := bcell hb; have hb1 := Lib.hid hb; clear hb) | (go_at_call 89; refine (isMass_calls _ _).mono ?_; rintro e w' ⟨rfl, rfl⟩) | (go_at_call 86; refine (within_calls _ _ _ _).mono ?_; rintro e w' ⟨rfl, rfl⟩))
            go_ret
            exact ⟨rfl, (((Below.refl _ _).alloc (Nat.le_refl _) _).trans (hb1.out.mono (by simp)))⟩

set_option maxHeartbeats 1000000 in
theorem sokHung_calls (b : Nat) (s : ByteArray) (m a f g : Int) (w : World) (hs : s.size ≤ maxLen)
    (c0 : w.cell? ⟨b, 0, none⟩ = some (.string s)) (c1 : w.cell? ⟨b, 1, none⟩ = some (.int .i64 m)) (c2 : w.cell? ⟨b, 2, none⟩ = some (.int .i64 a)) (c3 : w.cell? ⟨b, 3, none⟩ = some (.int .i64 f)) (c4 : w.cell? ⟨b, 4, none⟩ = some (.int .i64 g)) :
    Calls Tryd.prog 58 #[.pointer (some ⟨b, 0, none⟩)] w fun e w' => e = .returned (.bool (hungB s m a f g)) ∧ w = w' := by
  unfold hungB
  cases hN : nameB s
  ·
    go_enter Tryd.func58, Tryd.ntmps58
    go_wp2_with (first | (go_at_call 82; refine (sname_calls _ _ hs).mono ?_; rintro e w1 ⟨rfl, rfl⟩; rw [hN]) | (go_at_call 83; refine (in_calls _ _ _ _).mono ?_; rintro e w' ⟨rfl, rfl⟩))
    go_ret
    exact ⟨rfl, rfl⟩
  · cases hM : inB m 1 20000000
    ·
      go_enter Tryd.func58, Tryd.ntmps58
      go_wp2_with (first | (go_at_call 82; refine (sname_calls _ _ hs).mono ?_; rintro e w1 ⟨rfl, rfl⟩; rw [hN]) | (go_at_call 83; refine (in_calls _ _ _ _).mono ?_; rintro e w' ⟨rfl, rfl⟩))
      go_ret
      exact ⟨rfl, rfl⟩
    · cases hA : inB a 1 30000
      ·
        go_enter Tryd.func58, Tryd.ntmps58
        go_wp2_with (first | (go_at_call 82; refine (sname_calls _ _ hs).mono ?_; rintro e w1 ⟨rfl, rfl⟩; rw [hN]) | (go_at_call 83; refine (in_calls _ _ _ _).mono ?_; rintro e w' ⟨rfl, rfl⟩))
        go_ret
        exact ⟨rfl, rfl⟩
      · cases hF : inB f 1 1000
        ·
          go_enter Tryd.func58, Tryd.ntmps58
          go_wp2_with (first | (go_at_call 82; refine (sname_calls _ _ hs).mono ?_; rintro e w1 ⟨rfl, rfl⟩; rw [hN]) | (go_at_call 83; refine (in_calls _ _ _ _).mono ?_; rintro e w' ⟨rfl, rfl⟩))
          go_ret
          exact ⟨rfl, rfl⟩
        · cases hG : inB g 1 180
          ·
            go_enter Tryd.func58, Tryd.ntmps58
            go_wp2_with (first | (go_at_call 82; refine (sname_calls _ _ hs).mono ?_; rintro e w1 ⟨rfl, rfl⟩; rw [hN]) | (go_at_call 83; refine (in_calls _ _ _ _).mono ?_; rintro e w' ⟨rfl, rfl⟩))
            go_ret
            exact ⟨rfl, rfl⟩
          ·
            go_enter Tryd.func58, Tryd.ntmps58
            go_wp2_with (first | (go_at_call 82; refine (sname_calls _ _ hs).mono ?_; rintro e w1 ⟨rfl, rfl⟩; rw [hN]) | (go_at_call 83; refine (in_calls _ _ _ _).mono ?_; rintro e w' ⟨rfl, rfl⟩))
            go_ret
            exact ⟨rfl, rfl⟩


set_option maxHeartbeats 400000 in
theorem toHung_calls (s : ByteArray) (m a f g : Int) (w : World) :
    Calls Tryd.prog 23 #[.agg #[.string s, .int .i64 m, .int .i64 a, .int .i64 f, .int .i64 g]] w fun e w' => e = .returned (.agg #[.string s, .int .i64 m, .int .i64 a, .int .i64 f, .int .i64 g]) ∧ Below w.heap.size w w' := by
  go_enter Tryd.func23, Tryd.ntmps23
  go_wp2
  refine bodyPost_ret (v := .agg #[.string s, .int .i64 m, .int .i64 a, .int .i64 f, .int .i64 g]) (by simp [results, Tryd.results23, go_sem]) rfl ⟨rfl, ?_⟩
  go_grown

set_option maxHeartbeats 400000 in
theorem szHung_calls (s : ByteArray) (m a f g n : Int) (w : World) (hs : s.size ≤ maxLen) (h0 : 0 ≤ n) (h1 : n ≤ 4611686018427387904) :
    Calls Tryd.prog 21 #[.agg #[.string s, .int .i64 m, .int .i64 a, .int .i64 f, .int .i64 g], .int .i64 n] w fun e w' => e = .returned (.int .i64 (if n < s.size then -1 else n - s.size)) ∧ Below w.heap.size w w' := by
  unfold maxLen at hs
  by_cases h : n < s.size
  · rw [if_pos h]
    go_enter Tryd.func21, Tryd.ntmps21
    go_wp2
    go_ret
    exact ⟨rfl, (Below.refl _ _).alloc (Nat.le_refl _) _⟩
  · rw [if_neg h]
    go_enter Tryd.func21, Tryd.ntmps21
    go_wp2
    go_ret
    exact ⟨rfl, (Below.refl _ _).alloc (Nat.le_refl _) _⟩

set_option maxHeartbeats 400000 in
theorem eqHung_calls (s : ByteArray) (m a f g : Int) (w : World) :
    Calls Tryd.prog 42 #[.agg #[.string s, .int .i64 m, .int .i64 a, .int .i64 f, .int .i64 g], .agg #[.string s, .int .i64 m, .int .i64 a, .int .i64 f, .int .i64 g]] w fun e w' => e = .returned (.bool true) ∧ Below w.heap.size w w' := by
  go_enter Tryd.func42, Tryd.ntmps42
  go_wp2
  go_ret
  exact ⟨rfl, ((Below.refl _ _).alloc (Nat.le_refl _) _).alloc (by simp) _⟩

end Go.Proofs.YtmliceloimdckaaDoor
