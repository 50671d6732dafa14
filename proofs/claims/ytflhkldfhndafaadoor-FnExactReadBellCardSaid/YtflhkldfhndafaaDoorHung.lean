/- Hung bells: what makes one valid, in the program and in the reference; the mirror's copy, size and comparison. For all fields that the model can hold. -/
import Derived.Test.YtflhkldfhndafaaDoorName
import Derived.Test.YtflhkldfhndafaaDoorPred
import Derived.Handy
namespace Go.Proofs.YtflhkldfhndafaaDoor
set_option linter.unusedVariables false
open Go.RowKit

/-- Is a hung bell valid? -/
noncomputable def hungB (s : ByteArray) (m a f g : Int) : Bool := nameB s && (inB m 1 20000000 && (inB a 1 30000 && (inB f 1 1000 && inB g 1 180)))
theorem hungB_of {s : ByteArray} {m a f g : Int} (h : hungB s m a f g = true) : nameB s = true ∧ (1 ≤ m ∧ m ≤ 20000000) ∧ (1 ≤ a ∧ a ≤ 30000) ∧ (1 ≤ f ∧ f ≤ 1000) ∧ (1 ≤ g ∧ g ≤ 180) := by
  simp only [hungB, Bool.and_eq_true] at h
  exact ⟨h.1, inB_iff.1 h.2.1, inB_iff.1 h.2.2.1, inB_iff.1 h.2.2.2.1, inB_iff.1 h.2.2.2.2⟩



set_option maxHeartbeats 1000000 in
theorem validHung_calls (s : ByteArray) (m a f g : Int) (w : World) (hs : s.size ≤ maxLen) :
    Calls Tryd.prog 38 #[.agg #[.string s, .int .i64 m, .int .i64 a, .int .i64 f, .int .i64 g]] w fun e w' => e = .returned (.bool (hungB s m a f g)) ∧ Below w.heap.size w w' := by
  unfold hungB
  cases hN : nameB s
  ·
    go_enter Tryd.func38, Tryd.ntmps38
    go_wp2_with (first | (go_at_call 57; refine (isName_calls _ _ hs).mono ?_; rintro e w1 ⟨rfl, hb⟩; rw [hN]; obtain ⟨hc1, hf1⟩ := bcell hb; have hb1 := Lib.hid hb; clear hb) | (go_at_call 60; refine (isMass_calls _ _).mono ?_; rintro e w' ⟨rfl, rfl⟩) | (go_at_call 58; refine (within_calls _ _ _ _).mono ?_; rintro e w' ⟨rfl, rfl⟩))
    go_ret
    exact ⟨rfl, (((Below.refl _ _).alloc (Nat.le_refl _) _).trans (hb1.out.mono (by simp)))⟩
  · cases hM : inB m 1 20000000
    ·
      go_enter Tryd.func38, Tryd.ntmps38
      go_wp2_with (first | (go_at_call 57; refine (isName_calls _ _ hs).mono ?_; rintro e w1 ⟨rfl, hb⟩; rw [hN]; obtain ⟨hc1, hf1⟩ := bcell hb; have hb1 := Lib.hid hb; clear hb) | (go_at_call 60; refine (isMass_calls _ _).mono ?_; rintro e w' ⟨rfl, rfl⟩) | (go_at_call 58; refine (within_calls _ _ _ _).mono ?_; rintro e w' ⟨rfl, rfl⟩))
      go_ret
      exact ⟨rfl, (((Below.refl _ _).alloc (Nat.le_refl _) _).trans (hb1.out.mono (by simp)))⟩
    · cases hA : inB a 1 30000
      ·
        go_enter Tryd.func38, Tryd.ntmps38
        go_wp2_with (first | (go_at_call 57; refine (isName_calls _ _ hs).mono ?_; rintro e w1 ⟨rfl, hb⟩; rw [hN]; obtain ⟨hc1, hf1⟩ := bcell hb; have hb1 := Lib.hid hb; clear hb) | (go_at_call 60; refine (isMass_calls _ _).mono ?_; rintro e w' ⟨rfl, rfl⟩) | (go_at_call 58; refine (within_calls _ _ _ _).mono ?_; rintro e w' ⟨rfl, rfl⟩))
        go_ret
        exact ⟨rfl, (((Below.refl _ _).alloc (Nat.le_refl _) _).trans (hb1.out.mono (by simp)))⟩
      · cases hF : inB f 1 1000
        ·
          go_enter Tryd.func38, Tryd.ntmps38
          go_wp2_with (first | (go_at_call 57; refine (isName_calls _ _ hs).mono ?_; rintro e w1 ⟨rfl, hb⟩; rw [hN]; obtain ⟨hc1, hf1⟩ := bcell hb; have hb1 := Lib.hid hb; clear hb) | (go_at_call 60; refine (isMass_calls _ _).mono ?_; rintro e w' ⟨rfl, rfl⟩) | (go_at_call 58; refine (within_calls _ _ _ _).mono ?_; rintro e w' ⟨rfl, rfl⟩))
          go_ret
          exact ⟨rfl, (((Below.refl _ _).alloc (Nat.le_refl _) _).trans (hb1.out.mono (by simp)))⟩
        · cases hG : inB g 1 180
          ·
            go_enter Tryd.func38, Tryd.ntmps38
            go_wp2_with (first | (go_at_call 57; refine (isName_calls _ _ hs).mono ?_; rintro e w1 ⟨rfl, hb⟩; rw [hN]; obtain ⟨hc1, hf1⟩ := bcell hb; have hb1 := Lib.hid hb; clear hb) | (go_at_call 60; refine (isMass_calls _ _).mono ?_; rintro e w' ⟨rfl, rfl⟩) | (go_at_call 58; refine (within_calls _ _ _ _).mono ?_; rintro e w' ⟨rfl, rfl⟩))
            go_ret
            exact ⟨rfl, (((Below.refl _ _).alloc (Nat.le_refl _) _).trans (hb1.out.mono (by simp)))⟩
          ·
            go_enter Tryd.func38, Tryd.ntmps38
            go_wp2_with (first | (go_at_call 57; refine (isName_calls _ _ hs).mono ?_; rintro e w1 ⟨rfl, hb⟩; rw [hN]; obtain ⟨hc1, hf1⟩ := bcell hb; have hb1 := Lib.hid hb; clear hb) | (go_at_call 60; refine (isMass_calls _ _).mono ?_; rintro e w' ⟨rfl, rfl⟩) | (go_at_call 58; refine (within_calls _ _ _ _).mono ?_; rintro e w' ⟨rfl, rfl⟩))
            go_ret
            exact ⟨rfl, (((Below.refl _ _).alloc (Nat.le_refl _) _).trans (hb1.out.mono (by simp)))⟩

set_option maxHeartbeats 1000000 in
theorem sokHung_calls (b : Nat) (s : ByteArray) (m a f g : Int) (w : World) (hs : s.size ≤ maxLen)
    (c0 : w.cell? ⟨b, 0, none⟩ = some (.string s)) (c1 : w.cell? ⟨b, 1, none⟩ = some (.int .i64 m)) (c2 : w.cell? ⟨b, 2, none⟩ = some (.int .i64 a)) (c3 : w.cell? ⟨b, 3, none⟩ = some (.int .i64 f)) (c4 : w.cell? ⟨b, 4, none⟩ = some (.int .i64 g)) :
    Calls Tryd.prog 61 #[.pointer (some ⟨b, 0, none⟩)] w fun e w' => e = .returned (.bool (hungB s m a f g)) ∧ w = w' := by
  unfold hungB
  cases hN : nameB s
  ·
    go_enter Tryd.func61, Tryd.ntmps61
    go_wp2_with (first | (go_at_call 51; refine (sname_calls _ _ hs).mono ?_; rintro e w1 ⟨rfl, rfl⟩; rw [hN]) | (go_at_call 52; refine (in_calls _ _ _ _).mono ?_; rintro e w' ⟨rfl, rfl⟩))
    go_ret
    exact ⟨rfl, rfl⟩
  · cases hM : inB m 1 20000000
    ·
      go_enter Tryd.func61, Tryd.ntmps61
      go_wp2_with (first | (go_at_call 51; refine (sname_calls _ _ hs).mono ?_; rintro e w1 ⟨rfl, rfl⟩; rw [hN]) | (go_at_call 52; refine (in_calls _ _ _ _).mono ?_; rintro e w' ⟨rfl, rfl⟩))
      go_ret
      exact ⟨rfl, rfl⟩
    · cases hA : inB a 1 30000
      ·
        go_enter Tryd.func61, Tryd.ntmps61
        go_wp2_with (first | (go_at_call 51; refine (sname_calls _ _ hs).mono ?_; rintro e w1 ⟨rfl, rfl⟩; rw [hN]) | (go_at_call 52; refine (in_calls _ _ _ _).mono ?_; rintro e w' ⟨rfl, rfl⟩))
        go_ret
        exact ⟨rfl, rfl⟩
      · cases hF : inB f 1 1000
        ·
          go_enter Tryd.func61, Tryd.ntmps61
          go_wp2_with (first | (go_at_call 51; refine (sname_calls _ _ hs).mono ?_; rintro e w1 ⟨rfl, rfl⟩; rw [hN]) | (go_at_call 52; refine (in_calls _ _ _ _).mono ?_; rintro e w' ⟨rfl, rfl⟩))
          go_ret
          exact ⟨rfl, rfl⟩
        · cases hG : inB g 1 180
          ·
            go_enter Tryd.func61, Tryd.ntmps61
            go_wp2_with (first | (go_at_call 51; refine (sname_calls _ _ hs).mono ?_; rintro e w1 ⟨rfl, rfl⟩; rw [hN]) | (go_at_call 52; refine (in_calls _ _ _ _).mono ?_; rintro e w' ⟨rfl, rfl⟩))
            go_ret
            exact ⟨rfl, rfl⟩
          ·
            go_enter Tryd.func61, Tryd.ntmps61
            go_wp2_with (first | (go_at_call 51; refine (sname_calls _ _ hs).mono ?_; rintro e w1 ⟨rfl, rfl⟩; rw [hN]) | (go_at_call 52; refine (in_calls _ _ _ _).mono ?_; rintro e w' ⟨rfl, rfl⟩))
            go_ret
            exact ⟨rfl, rfl⟩




set_option maxHeartbeats 400000 in
theorem eqHung_calls (s : ByteArray) (m a f g : Int) (w : World) :
    Calls Tryd.prog 16 #[.agg #[.string s, .int .i64 m, .int .i64 a, .int .i64 f, .int .i64 g], .agg #[.string s, .int .i64 m, .int .i64 a, .int .i64 f, .int .i64 g]] w fun e w' => e = .returned (.bool true) ∧ Below w.heap.size w w' := by
  go_enter Tryd.func16, Tryd.ntmps16
  go_wp2
  go_ret
  exact ⟨rfl, ((Below.refl _ _).alloc (Nat.le_refl _) _).alloc (by simp) _⟩

end Go.Proofs.YtflhkldfhndafaaDoor
