/- The text of a hole, in the program and in the reference. -/
import Derived.Test.YtflhkldfhndafaaDoorText
import Derived.Test.YtflhkldfhndafaaDoorHole
import Derived.Deep.RegionHeld3
namespace Go.Proofs.YtflhkldfhndafaaDoor
set_option linter.unusedVariables false
set_option linter.unusedSimpArgs false
open Go.RowKit

def holeT (s : ByteArray) (r d : Int) : ByteArray := s ++ ⟨#[32]⟩ ++ ⟨(Lib.itoa r).toArray⟩ ++ ⟨#[120]⟩ ++ ⟨(Lib.itoa d).toArray⟩
noncomputable def holeText (s : ByteArray) (r d : Int) : ByteArray := if holeB s r d = true then holeT s r d else ⟨#[]⟩
theorem holeB_of {s : ByteArray} {r d : Int} (h : holeB s r d = true) : (1 ≤ r ∧ r ≤ 300000) ∧ (1 ≤ d ∧ d ≤ 600000) := by
  simp only [holeB, Bool.and_eq_true] at h
  exact ⟨inB_iff.1 h.2.1, inB_iff.1 h.2.2⟩
set_option maxHeartbeats 2000000 in
theorem HoleText_calls (s : ByteArray) (r d : Int) (w : World) (hs : s.size ≤ maxLen) (hT : HasPow w) :
    Calls Tryd.prog 31 #[.agg #[.string s, .int .i64 r, .int .i64 d]] w fun e w' => e = .returned (.string (holeText s r d)) ∧ Below w.heap.size w w' := by
  have HT := Lib.hid hT
  clear hT
  cases q1 : holeB s r d
  · rw [show holeText s r d = ⟨#[]⟩ by simp [holeText, q1]]
    have hB := (Below.refl w.heap.size w)
    go_enter Tryd.func31, Tryd.ntmps31
    go_wp2_with (go_at_call 30; refine (validHole_calls s r d _ hs).mono ?_; rintro e w1 ⟨rfl, hb⟩; obtain ⟨hc, hf⟩ := bcell hb; have hz := hb.size; (try simp at hz); (try have hl0 : w.heap.size < w1.heap.size := by omega); (try have hl1 : w.heap.size + 1 < w1.heap.size := by omega); (try have hl2 : w.heap.size + 1 + 1 < w1.heap.size := by omega); replace hB : Below w.heap.size w w1 := Below.trans (by go_grown) (hb.mono (by go_size)); clear hb; rw [q1])
    go_ret
    exact ⟨rfl, hB⟩
  · rw [show holeText s r d = holeT s r d by simp [holeText, q1]]
    obtain ⟨⟨r0, r1⟩, ⟨d0, d1⟩⟩ := holeB_of q1
    have q1n : nameB s = true := by have q := q1; simp only [holeB, Bool.and_eq_true] at q; exact q.1
    have hs10 := (nameB_of q1n).2.1
    have ha := Lib.itoa_length_le r (by omega) (by omega)
    have hb0 := Lib.itoa_length_le d (by omega) (by omega)
    have f1 : ¬ 9223372036854775807 < s.size + 1 := by omega
    have f2 : ¬ 9223372036854775807 < s.size + 1 + (Lib.itoa r).length := by omega
    have f3 : ¬ 9223372036854775807 < s.size + 1 + (Lib.itoa r).length + 1 := by omega
    have f4 : ¬ 9223372036854775807 < s.size + 1 + (Lib.itoa r).length + 1 + (Lib.itoa d).length := by omega
    have hB := (Below.refl w.heap.size w)
    have hal := (Below.refl w.heap.size w).alloc (Nat.le_refl _) (.cells #[.string s, .int .i64 r, .int .i64 d] 23)
    go_enter Tryd.func31, Tryd.ntmps31
    go_wp2_with (go_at_call 30; refine (validHole_calls s r d _ hs).mono ?_; rintro e w1 ⟨rfl, hb⟩; obtain ⟨hc, hf⟩ := bcell hb; have hz := hb.size; (try simp at hz); (try have hl0 : w.heap.size < w1.heap.size := by omega); (try have hl1 : w.heap.size + 1 < w1.heap.size := by omega); (try have hl2 : w.heap.size + 1 + 1 < w1.heap.size := by omega); replace hB : Below w.heap.size w w1 := Below.trans (by go_grown) (hb.mono (by go_size)); clear hb; rw [q1])
    refine wp_gen (fun W0 hW0 => ?_)
    have s0_ : Below w.heap.size w W0 := by rw [hW0]; exact hB
    have s1_ : W0.cell? ⟨w.heap.size, 0, none⟩ = some (.string s) := by rw [hW0]; simp [hc]
    have s2_ : W0.cell? ⟨w.heap.size, 1, none⟩ = some (.int .i64 r) := by rw [hW0]; simp [hc]
    have s3_ : W0.cell? ⟨w.heap.size, 2, none⟩ = some (.int .i64 d) := by rw [hW0]; simp [hc]
    have s4_ : HasPow W0 := by rw [hW0]; exact HT.out.keep hB
    have s5_ : w.heap.size < W0.heap.size := by rw [hW0]; exact hl0
    clear hW0
    refine wp_region_held_drew (S := fun w' => Below w.heap.size w w' ∧ w'.cell? ⟨w.heap.size, 0, none⟩ = some (.string s) ∧ w'.cell? ⟨w.heap.size, 1, none⟩ = some (.int .i64 r) ∧ w'.cell? ⟨w.heap.size, 2, none⟩ = some (.int .i64 d) ∧ HasPow w' ∧ w.heap.size < w'.heap.size) (by kernel_rfl) ?_ (fun hHeld => ?_)
    · exact ⟨s0_.drew, s1_, s2_, s3_, s4_, s5_⟩
    clear s0_ s1_ s2_ s3_ s4_ s5_
    refine take_yes (i := 0) (d := 6) (v := ?_) _ rfl rfl (by kernel_rfl) (by kernel_rfl) (by kernel_rfl) (fun _ _ _ _ h => h) (by rfl) ?_ (by assumption) ?_
    rotate_left 1
    · ((intro w hSw; (try dsimp only at hSw); go_simp) <;> (try with_reducible rfl))
    (try simp only [Act.put, List.setIfInBounds_toArray, List.set_cons_zero, List.set_cons_succ])
    refine take_yes (i := 1) (d := 7) (v := ?_) _ rfl rfl (by kernel_rfl) (by kernel_rfl) (by kernel_rfl) (fun _ _ _ _ h => h) (by rfl) ?_ (by assumption) ?_
    rotate_left 1
    · ((intro w hSw; (try dsimp only at hSw); go_simp) <;> (try with_reducible rfl))
    (try simp only [Act.put, List.setIfInBounds_toArray, List.set_cons_zero, List.set_cons_succ])
    refine take_yes (i := 2) (d := 8) (v := ?_) _ rfl rfl (by kernel_rfl) (by kernel_rfl) (by kernel_rfl) (fun _ _ _ _ h => h) (by rfl) ?_ (by assumption) ?_
    rotate_left 1
    · ((intro w hSw; (try dsimp only at hSw); go_simp) <;> (try with_reducible rfl))
    (try simp only [Act.put, List.setIfInBounds_toArray, List.set_cons_zero, List.set_cons_succ])
    refine take_yes (i := 3) (d := 9) (v := ?_) _ rfl rfl (by kernel_rfl) (by kernel_rfl) (by kernel_rfl) (fun _ _ _ _ h => h) (by rfl) ?_ (by assumption) ?_
    rotate_left 1
    · ((intro w hSw; (try dsimp only at hSw); go_simp) <;> (try with_reducible rfl))
    (try simp only [Act.put, List.setIfInBounds_toArray, List.set_cons_zero, List.set_cons_succ])
    refine take_yes (i := 4) (d := 10) (v := ?_) _ rfl rfl (by kernel_rfl) (by kernel_rfl) (by kernel_rfl) (fun _ _ _ _ h => h) (by rfl) ?_ (by assumption) ?_
    rotate_left 1
    · ((intro w hSw; (try dsimp only at hSw); go_simp) <;> (try with_reducible rfl))
    (try simp only [Act.put, List.setIfInBounds_toArray, List.set_cons_zero, List.set_cons_succ])
    refine take_yes (i := 8) (d := 14) (v := ?_) _ rfl rfl (by kernel_rfl) (by kernel_rfl) (by kernel_rfl) (fun _ _ _ _ h => h) (by rfl) ?_ (by assumption) ?_
    rotate_left 1
    · ((intro w hSw; (try dsimp only at hSw); go_simp) <;> (try with_reducible rfl))
    (try simp only [Act.put, List.setIfInBounds_toArray, List.set_cons_zero, List.set_cons_succ])
    refine take_yes (i := 9) (d := 15) (v := ?_) _ rfl rfl (by kernel_rfl) (by kernel_rfl) (by kernel_rfl) (fun _ _ _ _ h => h) (by rfl) ?_ (by assumption) ?_
    rotate_left 1
    · ((intro w hSw; (try dsimp only at hSw); go_simp) <;> (try with_reducible rfl))
    (try simp only [Act.put, List.setIfInBounds_toArray, List.set_cons_zero, List.set_cons_succ])
    (refine wpAnyH_ready (rs := [5]) (by kernel_rfl) (by simp) ?_; refine AllReadyH.cons rfl (fun K hK => ?_) AllReadyH.nil; go_simp; go_at_call 56; refine (Decimal_calls _ _ (by omega) (by omega) hHeld.2.2.2.2.1).mono ?_; rintro e wd ⟨rfl, hb⟩; refine hK.out _ _ (by obtain ⟨x0_, x1_, x2_, x3_, x4_, x5_⟩ := hHeld; exact ⟨x0_.trans (hb.mono x0_.size), cell_keep hb x1_, cell_keep hb x2_, cell_keep hb x3_, x4_.keep hb, Nat.lt_of_lt_of_le x5_ hb.size⟩) (fun hHeld2 => ?_); clear hK K hHeld hb; have hHeld := hHeld2; clear hHeld2; (try simp only [Act.put, List.setIfInBounds_toArray, List.set_cons_zero, List.set_cons_succ]))
    refine take_yes (i := 6) (d := 12) (v := ?_) _ rfl rfl (by kernel_rfl) (by kernel_rfl) (by kernel_rfl) (fun _ _ _ _ h => h) (by rfl) ?_ (by assumption) ?_
    rotate_left 1
    · ((intro w hSw; (try dsimp only at hSw); go_simp) <;> (try with_reducible rfl))
    (try simp only [Act.put, List.setIfInBounds_toArray, List.set_cons_zero, List.set_cons_succ])
    refine take_yes (i := 7) (d := 13) (v := ?_) _ rfl rfl (by kernel_rfl) (by kernel_rfl) (by kernel_rfl) (fun _ _ _ _ h => h) (by rfl) ?_ (by assumption) ?_
    rotate_left 1
    · ((intro w hSw; (try dsimp only at hSw); go_simp) <;> (try with_reducible rfl))
    (try simp only [Act.put, List.setIfInBounds_toArray, List.set_cons_zero, List.set_cons_succ])
    (refine wpAnyH_ready (rs := [10]) (by kernel_rfl) (by simp) ?_; refine AllReadyH.cons rfl (fun K hK => ?_) AllReadyH.nil; go_simp; go_at_call 56; refine (Decimal_calls _ _ (by omega) (by omega) hHeld.2.2.2.2.1).mono ?_; rintro e wd ⟨rfl, hb⟩; refine hK.out _ _ (by obtain ⟨x0_, x1_, x2_, x3_, x4_, x5_⟩ := hHeld; exact ⟨x0_.trans (hb.mono x0_.size), cell_keep hb x1_, cell_keep hb x2_, cell_keep hb x3_, x4_.keep hb, Nat.lt_of_lt_of_le x5_ hb.size⟩) (fun hHeld2 => ?_); clear hK K hHeld hb; have hHeld := hHeld2; clear hHeld2; (try simp only [Act.put, List.setIfInBounds_toArray, List.set_cons_zero, List.set_cons_succ]))
    refine take_yes (i := 11) (d := 17) (v := ?_) _ rfl rfl (by kernel_rfl) (by kernel_rfl) (by kernel_rfl) (fun _ _ _ _ h => h) (by rfl) ?_ (by assumption) ?_
    rotate_left 1
    · ((intro w hSw; (try dsimp only at hSw); go_simp) <;> (try with_reducible rfl))
    (try simp only [Act.put, List.setIfInBounds_toArray, List.set_cons_zero, List.set_cons_succ])
    refine take_yes (i := 12) (d := 2) (v := ?_) _ rfl rfl (by kernel_rfl) (by kernel_rfl) (by kernel_rfl) (fun _ _ _ _ h => h) (by rfl) ?_ (by assumption) ?_
    rotate_left 1
    · ((intro w hSw; (try dsimp only at hSw); go_simp) <;> (try with_reducible rfl))
    (try simp only [Act.put, List.setIfInBounds_toArray, List.set_cons_zero, List.set_cons_succ])
    refine wpAnyH_done (by kernel_rfl) ?_ _
    obtain ⟨z0, z1, z2, z3, z4, z5⟩ := hHeld
    go_wp2
    go_ret
    exact ⟨rfl, z0⟩
end Go.Proofs.YtflhkldfhndafaaDoor
