/- Holes: which are valid, in the program and in the reference. For all fields. -/
import Derived.Test.YtflhkldfhndafaaDoorName
import Derived.Test.YtflhkldfhndafaaDoorPred
import Derived.Handy
namespace Go.Proofs.YtflhkldfhndafaaDoor
set_option linter.unusedVariables false
open Go.RowKit

noncomputable def holeB (s : ByteArray) (r d : Int) : Bool := nameB s && (inB r 1 300000 && inB d 1 600000)
set_option maxHeartbeats 400000 in
theorem eqHole_calls (s0 : ByteArray) (a1 : Int) (a2 : Int) (w : World) :
    Calls Tryd.prog 10 #[.agg #[.string s0, .int .i64 a1, .int .i64 a2], .agg #[.string s0, .int .i64 a1, .int .i64 a2]] w fun e w' => e = .returned (.bool true) ∧ Below w.heap.size w w' := by
  go_enter Tryd.func10, Tryd.ntmps10
  go_wp2
  go_ret
  exact ⟨rfl, ((Below.refl _ _).alloc (Nat.le_refl _) _).alloc (by simp) _⟩
set_option maxHeartbeats 1000000 in
theorem validHole_calls (s0 : ByteArray) (a1 a2 : Int) (w : World) (hs : s0.size ≤ maxLen) :
    Calls Tryd.prog 30 #[.agg #[.string s0, .int .i64 a1, .int .i64 a2]] w fun e w' => e = .returned (.bool (holeB s0 a1 a2)) ∧ Below w.heap.size w w' := by
  have hB := Below.refl w.heap.size w
  unfold holeB
  cases hq0 : nameB s0
  ·
    go_enter Tryd.func30, Tryd.ntmps30
    go_wp2_with (first | (go_at_call 57; refine (isName_calls _ _ hs).mono ?_; rintro e w1 ⟨rfl, hb⟩; obtain ⟨hc, hf⟩ := bcell hb; have hz := hb.size; (try simp at hz); (try have hl0 : w.heap.size < w1.heap.size := by omega); (try have hl1 : w.heap.size + 1 < w1.heap.size := by omega); (try have hl2 : w.heap.size + 1 + 1 < w1.heap.size := by omega); replace hB : Below w.heap.size w w1 := Below.trans (by go_grown) (hb.mono (by go_size)); clear hb) | (go_at_call 58; refine (within_calls _ _ _ _).mono ?_; rintro e w1 ⟨rfl, rfl⟩))
    go_ret
    exact ⟨rfl, hB⟩
  ·
    cases hq1 : inB a1 1 300000
    ·
      go_enter Tryd.func30, Tryd.ntmps30
      go_wp2_with (first | (go_at_call 57; refine (isName_calls _ _ hs).mono ?_; rintro e w1 ⟨rfl, hb⟩; obtain ⟨hc, hf⟩ := bcell hb; have hz := hb.size; (try simp at hz); (try have hl0 : w.heap.size < w1.heap.size := by omega); (try have hl1 : w.heap.size + 1 < w1.heap.size := by omega); (try have hl2 : w.heap.size + 1 + 1 < w1.heap.size := by omega); replace hB : Below w.heap.size w w1 := Below.trans (by go_grown) (hb.mono (by go_size)); clear hb) | (go_at_call 58; refine (within_calls _ _ _ _).mono ?_; rintro e w1 ⟨rfl, rfl⟩))
      go_ret
      exact ⟨rfl, hB⟩
    ·
      cases hq2 : inB a2 1 600000
      ·
        go_enter Tryd.func30, Tryd.ntmps30
        go_wp2_with (first | (go_at_call 57; refine (isName_calls _ _ hs).mono ?_; rintro e w1 ⟨rfl, hb⟩; obtain ⟨hc, hf⟩ := bcell hb; have hz := hb.size; (try simp at hz); (try have hl0 : w.heap.size < w1.heap.size := by omega); (try have hl1 : w.heap.size + 1 < w1.heap.size := by omega); (try have hl2 : w.heap.size + 1 + 1 < w1.heap.size := by omega); replace hB : Below w.heap.size w w1 := Below.trans (by go_grown) (hb.mono (by go_size)); clear hb) | (go_at_call 58; refine (within_calls _ _ _ _).mono ?_; rintro e w1 ⟨rfl, rfl⟩))
        go_ret
        exact ⟨rfl, hB⟩
      ·
        go_enter Tryd.func30, Tryd.ntmps30
        go_wp2_with (first | (go_at_call 57; refine (isName_calls _ _ hs).mono ?_; rintro e w1 ⟨rfl, hb⟩; obtain ⟨hc, hf⟩ := bcell hb; have hz := hb.size; (try simp at hz); (try have hl0 : w.heap.size < w1.heap.size := by omega); (try have hl1 : w.heap.size + 1 < w1.heap.size := by omega); (try have hl2 : w.heap.size + 1 + 1 < w1.heap.size := by omega); replace hB : Below w.heap.size w w1 := Below.trans (by go_grown) (hb.mono (by go_size)); clear hb) | (go_at_call 58; refine (within_calls _ _ _ _).mono ?_; rintro e w1 ⟨rfl, rfl⟩))
        go_ret
        exact ⟨rfl, hB⟩
set_option maxHeartbeats 1000000 in
theorem sokHole_calls (b o : Nat) (s0 : ByteArray) (a1 a2 : Int) (w : World) (hs : s0.size ≤ maxLen) (c0 : w.cell? ⟨b, o, none⟩ = some (.string s0)) (c1 : w.cell? ⟨b, o + 1, none⟩ = some (.int .i64 a1)) (c2 : w.cell? ⟨b, o + 2, none⟩ = some (.int .i64 a2)) :
    Calls Tryd.prog 27 #[.pointer (some ⟨b, o, none⟩)] w fun e w' => e = .returned (.bool (holeB s0 a1 a2)) ∧ w = w' := by
  unfold holeB
  cases hq0 : nameB s0
  ·
    go_enter Tryd.func27, Tryd.ntmps27
    go_wp2_with (first | (go_at_call 51; refine (sname_calls _ _ hs).mono ?_; rintro e w1 ⟨rfl, rfl⟩) | (go_at_call 52; refine (in_calls _ _ _ _).mono ?_; rintro e w1 ⟨rfl, rfl⟩))
    go_ret
    exact ⟨rfl, rfl⟩
  ·
    cases hq1 : inB a1 1 300000
    ·
      go_enter Tryd.func27, Tryd.ntmps27
      go_wp2_with (first | (go_at_call 51; refine (sname_calls _ _ hs).mono ?_; rintro e w1 ⟨rfl, rfl⟩) | (go_at_call 52; refine (in_calls _ _ _ _).mono ?_; rintro e w1 ⟨rfl, rfl⟩))
      go_ret
      exact ⟨rfl, rfl⟩
    ·
      cases hq2 : inB a2 1 600000
      ·
        go_enter Tryd.func27, Tryd.ntmps27
        go_wp2_with (first | (go_at_call 51; refine (sname_calls _ _ hs).mono ?_; rintro e w1 ⟨rfl, rfl⟩) | (go_at_call 52; refine (in_calls _ _ _ _).mono ?_; rintro e w1 ⟨rfl, rfl⟩))
        go_ret
        exact ⟨rfl, rfl⟩
      ·
        go_enter Tryd.func27, Tryd.ntmps27
        go_wp2_with (first | (go_at_call 51; refine (sname_calls _ _ hs).mono ?_; rintro e w1 ⟨rfl, rfl⟩) | (go_at_call 52; refine (in_calls _ _ _ _).mono ?_; rintro e w1 ⟨rfl, rfl⟩))
        go_ret
        exact ⟨rfl, rfl⟩
end Go.Proofs.YtflhkldfhndafaaDoor
