/- Hung bells: what makes one valid, in the program and in the reference; the mirror's copy, size and comparison. For all fields that the model can hold. -/
import Derived.Test.YtflhkldfhndafaaGreatDoorName
import Derived.Test.YtflhkldfhndafaaGreatDoorPred
import Derived.Handy
namespace Go.Proofs.YtflhkldfhndafaaGreatDoor
set_option linter.unusedVariables false
open Go.RowKit

/-- Is a hung bell valid? -/
noncomputable def hungB (s : ByteArray) (m a f g : Int) : Bool := nameB s && (inB m 1 20000000 && (inB a 1 30000 && (inB f 1 1000 && inB g 1 180)))
theorem hungB_of {s : ByteArray} {m a f g : Int} (h : hungB s m a f g = true) : nameB s = true ∧ (1 ≤ m ∧ m ≤ 20000000) ∧ (1 ≤ a ∧ a ≤ 30000) ∧ (1 ≤ f ∧ f ≤ 1000) ∧ (1 ≤ g ∧ g ≤ 180) := by
  simp only [hungB, Bool.and_eq_true] at h
  exact ⟨h.1, inB_iff.1 h.2.1, inB_iff.1 h.2.2.1, inB_iff.1 h.2.2.2.1, inB_iff.1 h.2.2.2.2⟩



set_option maxHeartbeats 1000000 in
theorem validHung_calls (s : ByteArray) (m a f g : Int) (w : World) (hs : s.size ≤ maxLen) :
    Calls Tryz.prog 19 #[.agg #[.string s, .int .i64 m, .int .i64 a, .int .i64 f, .int .i64 g]] w fun e w' => e = .returned (.bool (hungB s m a f g)) ∧ Below w.heap.size w w' := by
  unfold hungB
  cases hN : nameB s
  ·
    go_enter Tryz.func19, Tryz.ntmps19
    go_wp2_with (first | (go_at_call 31; refine (isName_calls _ _ hs).mono ?_; rintro e w1 ⟨rfl, hb⟩; rw [hN]; obtain ⟨hc1, hf1⟩ := bcell hb; have hb1 := Lib.hid hb; clear hb) | (go_at_call 24; refine (isMass_calls _ _).mono ?_; rintro e w' ⟨rfl, rfl⟩) | (go_at_call 25; refine (within_calls _ _ _ _).mono ?_; rintro e w' ⟨rfl, rfl⟩))
    go_ret
    exact ⟨rfl, (((Below.refl _ _).alloc (Nat.le_refl _) _).trans (hb1.out.mono (by simp)))⟩
  · cases hM : inB m 1 20000000
    ·
      go_enter Tryz.func19, Tryz.ntmps19
      go_wp2_with (first | (go_at_call 31; refine (isName_calls _ _ hs).mono ?_; rintro e w1 ⟨rfl, hb⟩; rw [hN]; obtain ⟨hc1, hf1⟩ := bcell hb; have hb1 := Lib.hid hb; clear hb) | (go_at_call 24; refine (isMass_calls _ _).mono ?_; rintro e w' ⟨rfl, rfl⟩) | (go_at_call 25; refine (within_calls _ _ _ _).mono ?_; rintro e w' ⟨rfl, rfl⟩))
      go_ret
      exact ⟨rfl, (((Below.refl _ _).alloc (Nat.le_refl _) _).trans (hb1.out.mono (by simp)))⟩
    · cases hA : inB a 1 30000
      ·
        go_enter Tryz.func19, Tryz.ntmps19
        go_wp2_with (first | (go_at_call 31; refine (isName_calls _ _ hs).mono ?_; rintro e w1 ⟨rfl, hb⟩; rw [hN]; obtain ⟨hc1, hf1⟩ := bcell hb; have hb1 := Lib.hid hb; clear hb) | (go_at_call 24; refine (isMass_calls _ _).mono ?_; rintro e w' ⟨rfl, rfl⟩) | (go_at_call 25; refine (within_calls _ _ _ _).mono ?_; rintro e w' ⟨rfl, rfl⟩))
        go_ret
        exact ⟨rfl, (((Below.refl _ _).alloc (Nat.le_refl _) _).trans (hb1.out.mono (by simp)))⟩
      · cases hF : inB f 1 1000
        ·
          go_enter Tryz.func19, Tryz.ntmps19
          go_wp2_with (first | (go_at_call 31; refine (isName_calls _ _ hs).mono ?_; rintro e w1 ⟨rfl, hb⟩; rw [hN]; obtain ⟨hc1, hf1⟩ := bcell hb; have hb1 := Lib.hid hb; clear hb) | (go_at_call 24; refine (isMass_calls _ _).mono ?_; rintro e w' ⟨rfl, rfl⟩) | (go_at_call 25; refine (within_calls _ _ _ _).mono ?_; rintro e w' ⟨rfl, rfl⟩))
          go_ret
          exact ⟨rfl, (((Below.refl _ _).alloc (Nat.le_refl _) _).trans (hb1.out.mono (by simp)))⟩
        · cases hG : inB g 1 180
          ·
            go_enter Tryz.func19, Tryz.ntmps19
            go_wp2_with (first | (go_at_call 31; refine (isName_calls _ _ hs).mono ?_; rintro e w1 ⟨rfl, hb⟩; rw [hN]; obtain ⟨hc1, hf1⟩ := bcell hb; have hb1 := Lib.hid hb; clear hb) | (go_at_call 24; refine (isMass_calls _ _).mono ?_; rintro e w' ⟨rfl, rfl⟩) | (go_at_call 25; refine (within_calls _ _ _ _).mono ?_; rintro e w' ⟨rfl, rfl⟩))
            go_ret
            exact ⟨rfl, (((Below.refl _ _).alloc (Nat.le_refl _) _).trans (hb1.out.mono (by simp)))⟩
          ·
            go_enter Tryz.func19, Tryz.ntmps19
            go_wp2_with (first | (go_at_call 31; refine (isName_calls _ _ hs).mono ?_; rintro e w1 ⟨rfl, hb⟩; rw [hN]; obtain ⟨hc1, hf1⟩ := bcell hb; have hb1 := Lib.hid hb; clear hb) | (go_at_call 24; refine (isMass_calls _ _).mono ?_; rintro e w' ⟨rfl, rfl⟩) | (go_at_call 25; refine (within_calls _ _ _ _).mono ?_; rintro e w' ⟨rfl, rfl⟩))
            go_ret
            exact ⟨rfl, (((Below.refl _ _).alloc (Nat.le_refl _) _).trans (hb1.out.mono (by simp)))⟩

set_option maxHeartbeats 1000000 in
theorem sokHung_calls (b : Nat) (s : ByteArray) (m a f g : Int) (w : World) (hs : s.size ≤ maxLen)
    (c0 : w.cell? ⟨b, 0, none⟩ = some (.string s)) (c1 : w.cell? ⟨b, 1, none⟩ = some (.int .i64 m)) (c2 : w.cell? ⟨b, 2, none⟩ = some (.int .i64 a)) (c3 : w.cell? ⟨b, 3, none⟩ = some (.int .i64 f)) (c4 : w.cell? ⟨b, 4, none⟩ = some (.int .i64 g)) :
    Calls Tryz.prog 28 #[.pointer (some ⟨b, 0, none⟩)] w fun e w' => e = .returned (.bool (hungB s m a f g)) ∧ w = w' := by
  unfold hungB
  cases hN : nameB s
  ·
    go_enter Tryz.func28, Tryz.ntmps28
    go_wp2_with (first | (go_at_call 42; refine (sname_calls _ _ hs).mono ?_; rintro e w1 ⟨rfl, rfl⟩; rw [hN]) | (go_at_call 43; refine (in_calls _ _ _ _).mono ?_; rintro e w' ⟨rfl, rfl⟩))
    go_ret
    exact ⟨rfl, rfl⟩
  · cases hM : inB m 1 20000000
    ·
      go_enter Tryz.func28, Tryz.ntmps28
      go_wp2_with (first | (go_at_call 42; refine (sname_calls _ _ hs).mono ?_; rintro e w1 ⟨rfl, rfl⟩; rw [hN]) | (go_at_call 43; refine (in_calls _ _ _ _).mono ?_; rintro e w' ⟨rfl, rfl⟩))
      go_ret
      exact ⟨rfl, rfl⟩
    · cases hA : inB a 1 30000
      ·
        go_enter Tryz.func28, Tryz.ntmps28
        go_wp2_with (first | (go_at_call 42; refine (sname_calls _ _ hs).mono ?_; rintro e w1 ⟨rfl, rfl⟩; rw [hN]) | (go_at_call 43; refine (in_calls _ _ _ _).mono ?_; rintro e w' ⟨rfl, rfl⟩))
        go_ret
        exact ⟨rfl, rfl⟩
      · cases hF : inB f 1 1000
        ·
          go_enter Tryz.func28, Tryz.ntmps28
          go_wp2_with (first | (go_at_call 42; refine (sname_calls _ _ hs).mono ?_; rintro e w1 ⟨rfl, rfl⟩; rw [hN]) | (go_at_call 43; refine (in_calls _ _ _ _).mono ?_; rintro e w' ⟨rfl, rfl⟩))
          go_ret
          exact ⟨rfl, rfl⟩
        · cases hG : inB g 1 180
          ·
            go_enter Tryz.func28, Tryz.ntmps28
            go_wp2_with (first | (go_at_call 42; refine (sname_calls _ _ hs).mono ?_; rintro e w1 ⟨rfl, rfl⟩; rw [hN]) | (go_at_call 43; refine (in_calls _ _ _ _).mono ?_; rintro e w' ⟨rfl, rfl⟩))
            go_ret
            exact ⟨rfl, rfl⟩
          ·
            go_enter Tryz.func28, Tryz.ntmps28
            go_wp2_with (first | (go_at_call 42; refine (sname_calls _ _ hs).mono ?_; rintro e w1 ⟨rfl, rfl⟩; rw [hN]) | (go_at_call 43; refine (in_calls _ _ _ _).mono ?_; rintro e w' ⟨rfl, rfl⟩))
            go_ret
            exact ⟨rfl, rfl⟩

set_option maxHeartbeats 400000 in
theorem svalidHung_calls (s : ByteArray) (m a f g : Int) (w : World) (hs : s.size ≤ maxLen) :
    Calls Tryz.prog 15 #[.agg #[.string s, .int .i64 m, .int .i64 a, .int .i64 f, .int .i64 g]] w fun e w' => e = .returned (.bool (hungB s m a f g)) ∧ Below w.heap.size w w' := by
  go_enter Tryz.func15, Tryz.ntmps15
  go_wp2_with (go_at_call 28; refine (sokHung_calls _ s m a f g _ hs (by simp) (by simp) (by simp) (by simp) (by simp)).mono ?_; rintro e w' ⟨rfl, rfl⟩)
  go_ret
  exact ⟨rfl, (Below.refl _ _).alloc (Nat.le_refl _) _⟩




end Go.Proofs.YtflhkldfhndafaaGreatDoor
