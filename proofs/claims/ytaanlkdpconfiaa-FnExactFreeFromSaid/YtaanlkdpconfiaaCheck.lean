/- Places of castings in bays: which are possible, in the program and in the reference. For valid castings. -/
import Derived.Test.YtaanlkdpconfiaaBays
import Derived.Test.YtaanlkdpconfiaaCastings
import Derived.Test.YtaanlkdpconfiaaInts
import Derived.Test.YtaanlkdpconfiaaFits
namespace Go.Proofs.Ytaanlkdpconfiaa
set_option linter.unusedVariables false
set_option linter.unusedSimpArgs false
open Go.RowKit

def overB (t f t2 f2 : Int) : Bool := decide (f < strip t2 f2) && decide (f2 < strip t f)
set_option maxHeartbeats 4000000 in
theorem overlap_calls (s : ByteArray) (r d t f : Int) (s2 : ByteArray) (r2 d2 t2 f2 : Int) (w : World) (t0 : 1 ≤ t) (t1 : t ≤ 30000) (f0 : 0 ≤ f) (f1 : f ≤ 1000000) (u0 : 1 ≤ t2) (u1 : t2 ≤ 30000) (g0 : 0 ≤ f2) (g1 : f2 ≤ 1000000) :
    Calls Try.prog 183 #[.agg #[.string s, .int .i64 r, .int .i64 d, .int .i64 t, .int .i64 f], .agg #[.string s2, .int .i64 r2, .int .i64 d2, .int .i64 t2, .int .i64 f2]] w fun e w' => e = .returned (.bool (overB t f t2 f2)) ∧ Below w.heap.size w w' := by
  cases p1 : decide (f < strip t2 f2)
  · have hB := ((Below.refl w.heap.size w).alloc (Nat.le_refl _) (.cells #[.string s, .int .i64 r, .int .i64 d, .int .i64 t, .int .i64 f] 124)).alloc (by simp) (.cells #[.string s2, .int .i64 r2, .int .i64 d2, .int .i64 t2, .int .i64 f2] 124)
    go_enter Try.func183, Try.ntmps183
    go_wp2_with fail
    refine wp_gen (fun W0 hW0 => ?_)
    have s0_ : Below w.heap.size w W0 := by rw [hW0]; exact hB
    have s1_ : W0.cell? ⟨w.heap.size, 0, none⟩ = some (.string s) := by simp [hW0]
    have s2_ : W0.cell? ⟨w.heap.size, 1, none⟩ = some (.int .i64 r) := by simp [hW0]
    have s3_ : W0.cell? ⟨w.heap.size, 2, none⟩ = some (.int .i64 d) := by simp [hW0]
    have s4_ : W0.cell? ⟨w.heap.size, 3, none⟩ = some (.int .i64 t) := by simp [hW0]
    have s5_ : W0.cell? ⟨w.heap.size, 4, none⟩ = some (.int .i64 f) := by simp [hW0]
    have s6_ : W0.cell? ⟨w.heap.size + 1, 0, none⟩ = some (.string s2) := by simp [hW0]
    have s7_ : W0.cell? ⟨w.heap.size + 1, 1, none⟩ = some (.int .i64 r2) := by simp [hW0]
    have s8_ : W0.cell? ⟨w.heap.size + 1, 2, none⟩ = some (.int .i64 d2) := by simp [hW0]
    have s9_ : W0.cell? ⟨w.heap.size + 1, 3, none⟩ = some (.int .i64 t2) := by simp [hW0]
    have s10_ : W0.cell? ⟨w.heap.size + 1, 4, none⟩ = some (.int .i64 f2) := by simp [hW0]
    clear hW0
    refine wp_region_held_drew (S := fun w' => Below w.heap.size w w' ∧ w'.cell? ⟨w.heap.size, 0, none⟩ = some (.string s) ∧ w'.cell? ⟨w.heap.size, 1, none⟩ = some (.int .i64 r) ∧ w'.cell? ⟨w.heap.size, 2, none⟩ = some (.int .i64 d) ∧ w'.cell? ⟨w.heap.size, 3, none⟩ = some (.int .i64 t) ∧ w'.cell? ⟨w.heap.size, 4, none⟩ = some (.int .i64 f) ∧ w'.cell? ⟨w.heap.size + 1, 0, none⟩ = some (.string s2) ∧ w'.cell? ⟨w.heap.size + 1, 1, none⟩ = some (.int .i64 r2) ∧ w'.cell? ⟨w.heap.size + 1, 2, none⟩ = some (.int .i64 d2) ∧ w'.cell? ⟨w.heap.size + 1, 3, none⟩ = some (.int .i64 t2) ∧ w'.cell? ⟨w.heap.size + 1, 4, none⟩ = some (.int .i64 f2)) (by kernel_rfl) ?_ (fun hHeld => ?_)
    · exact ⟨s0_.drew, s1_, s2_, s3_, s4_, s5_, s6_, s7_, s8_, s9_, s10_⟩
    clear s0_ s1_ s2_ s3_ s4_ s5_ s6_ s7_ s8_ s9_ s10_
    refine take_yes (i := 0) (d := 5) (v := ?_) _ rfl rfl (by kernel_rfl) (by kernel_rfl) (by kernel_rfl) (fun _ _ _ _ h => h) (by rfl) ?_ (by assumption) ?_
    rotate_left 1
    · ((intro w hSw; (try dsimp only at hSw); go_simp) <;> (try with_reducible rfl))
    (try simp only [Act.put, List.setIfInBounds_toArray, List.set_cons_zero, List.set_cons_succ])
    refine take_yes (i := 1) (d := 6) (v := ?_) _ rfl rfl (by kernel_rfl) (by kernel_rfl) (by kernel_rfl) (fun _ _ _ _ h => h) (by rfl) ?_ (by assumption) ?_
    rotate_left 1
    · ((intro w hSw; (try dsimp only at hSw); go_simp) <;> (try with_reducible rfl))
    (try simp only [Act.put, List.setIfInBounds_toArray, List.set_cons_zero, List.set_cons_succ])
    refine take_yes (i := 2) (d := 7) (v := ?_) _ rfl rfl (by kernel_rfl) (by kernel_rfl) (by kernel_rfl) (fun _ _ _ _ h => h) (by rfl) ?_ (by assumption) ?_
    rotate_left 1
    · ((intro w hSw; (try dsimp only at hSw); go_simp) <;> (try with_reducible rfl))
    (try simp only [Act.put, List.setIfInBounds_toArray, List.set_cons_zero, List.set_cons_succ])
    (refine wpAnyH_ready (rs := [3]) (by kernel_rfl) (by simp) ?_; refine AllReadyH.cons rfl (fun K hK => ?_) AllReadyH.nil; go_simp; go_at_call 95; refine (stripTime_calls _ _ _ _ _ _ (by omega) (by omega) (by omega) (by omega)).mono ?_; rintro e wd ⟨rfl, hb⟩; refine hK.out _ _ (by obtain ⟨x0_, x1_, x2_, x3_, x4_, x5_, x6_, x7_, x8_, x9_, x10_⟩ := hHeld; exact ⟨x0_.trans (hb.mono x0_.size), cell_keep hb x1_, cell_keep hb x2_, cell_keep hb x3_, cell_keep hb x4_, cell_keep hb x5_, cell_keep hb x6_, cell_keep hb x7_, cell_keep hb x8_, cell_keep hb x9_, cell_keep hb x10_⟩) (fun hHeld2 => ?_); clear hK K hHeld hb; have hHeld := hHeld2; clear hHeld2; (try simp only [Act.put, List.setIfInBounds_toArray, List.set_cons_zero, List.set_cons_succ]))
    refine take_yes (i := 4) (d := 9) (v := ?_) _ rfl rfl (by kernel_rfl) (by kernel_rfl) (by kernel_rfl) (fun _ _ _ _ h => h) (by rfl) ?_ (by assumption) ?_
    rotate_left 1
    · ((intro w hSw; (try dsimp only at hSw); go_simp) <;> (try with_reducible rfl))
    (try simp only [Act.put, List.setIfInBounds_toArray, List.set_cons_zero, List.set_cons_succ])
    refine take_yes (i := 5) (d := 10) (v := ?_) _ rfl rfl (by kernel_rfl) (by kernel_rfl) (by kernel_rfl) (fun _ _ _ _ h => h) (by rfl) ?_ (by assumption) ?_
    rotate_left 1
    · ((intro w hSw; (try dsimp only at hSw); go_simp) <;> (try with_reducible rfl))
    (try simp only [Act.put, List.setIfInBounds_toArray, List.set_cons_zero, List.set_cons_succ])
    (refine take_no (i := 6) (d := 11) _ rfl rfl (by kernel_rfl) (by kernel_rfl) (by kernel_rfl) (fun _ _ _ _ h => h) (by rfl) (by assumption) ?_; (try simp only [Act.put, List.setIfInBounds_toArray, List.set_cons_zero, List.set_cons_succ]))
    (refine take_no (i := 7) (d := 12) _ rfl rfl (by kernel_rfl) (by kernel_rfl) (by kernel_rfl) (fun _ _ _ _ h => h) (by rfl) (by assumption) ?_; (try simp only [Act.put, List.setIfInBounds_toArray, List.set_cons_zero, List.set_cons_succ]))
    (refine take_no (i := 8) (d := 13) _ rfl rfl (by kernel_rfl) (by kernel_rfl) (by kernel_rfl) (fun _ _ _ _ h => h) (by rfl) (by assumption) ?_; (try simp only [Act.put, List.setIfInBounds_toArray, List.set_cons_zero, List.set_cons_succ]))
    (refine take_no (i := 9) (d := 14) _ rfl rfl (by kernel_rfl) (by kernel_rfl) (by kernel_rfl) (fun _ _ _ _ h => h) (by rfl) (by assumption) ?_; (try simp only [Act.put, List.setIfInBounds_toArray, List.set_cons_zero, List.set_cons_succ]))
    (refine take_no (i := 10) (d := 15) _ rfl rfl (by kernel_rfl) (by kernel_rfl) (by kernel_rfl) (fun _ _ _ _ h => h) (by rfl) (by assumption) ?_; (try simp only [Act.put, List.setIfInBounds_toArray, List.set_cons_zero, List.set_cons_succ]))
    refine take_yes (i := 11) (d := 16) (v := ?_) _ rfl rfl (by kernel_rfl) (by kernel_rfl) (by kernel_rfl) (fun _ _ _ _ h => h) (by rfl) ?_ (by assumption) ?_
    rotate_left 1
    · ((intro w hSw; (try dsimp only at hSw); go_simp) <;> (try with_reducible rfl))
    (try simp only [Act.put, List.setIfInBounds_toArray, List.set_cons_zero, List.set_cons_succ])
    refine take_yes (i := 12) (d := 4) (v := ?_) _ rfl rfl (by kernel_rfl) (by kernel_rfl) (by kernel_rfl) (fun _ _ _ _ h => h) (by rfl) ?_ (by assumption) ?_
    rotate_left 1
    · ((intro w hSw; (try dsimp only at hSw); go_simp) <;> (try with_reducible rfl))
    (try simp only [Act.put, List.setIfInBounds_toArray, List.set_cons_zero, List.set_cons_succ])
    refine wpAnyH_done (by kernel_rfl) ?_ _
    obtain ⟨z0, z1, z2, z3, z4, z5, z6, z7, z8, z9, z10⟩ := hHeld
    go_wp2
    go_ret
    exact ⟨ret_bool (by simp [overB, p1, p1]), z0⟩
  · cases p2 : decide (f2 < strip t f)
    · have hB := ((Below.refl w.heap.size w).alloc (Nat.le_refl _) (.cells #[.string s, .int .i64 r, .int .i64 d, .int .i64 t, .int .i64 f] 124)).alloc (by simp) (.cells #[.string s2, .int .i64 r2, .int .i64 d2, .int .i64 t2, .int .i64 f2] 124)
      go_enter Try.func183, Try.ntmps183
      go_wp2_with fail
      refine wp_gen (fun W0 hW0 => ?_)
      have s0_ : Below w.heap.size w W0 := by rw [hW0]; exact hB
      have s1_ : W0.cell? ⟨w.heap.size, 0, none⟩ = some (.string s) := by simp [hW0]
      have s2_ : W0.cell? ⟨w.heap.size, 1, none⟩ = some (.int .i64 r) := by simp [hW0]
      have s3_ : W0.cell? ⟨w.heap.size, 2, none⟩ = some (.int .i64 d) := by simp [hW0]
      have s4_ : W0.cell? ⟨w.heap.size, 3, none⟩ = some (.int .i64 t) := by simp [hW0]
      have s5_ : W0.cell? ⟨w.heap.size, 4, none⟩ = some (.int .i64 f) := by simp [hW0]
      have s6_ : W0.cell? ⟨w.heap.size + 1, 0, none⟩ = some (.string s2) := by simp [hW0]
      have s7_ : W0.cell? ⟨w.heap.size + 1, 1, none⟩ = some (.int .i64 r2) := by simp [hW0]
      have s8_ : W0.cell? ⟨w.heap.size + 1, 2, none⟩ = some (.int .i64 d2) := by simp [hW0]
      have s9_ : W0.cell? ⟨w.heap.size + 1, 3, none⟩ = some (.int .i64 t2) := by simp [hW0]
      have s10_ : W0.cell? ⟨w.heap.size + 1, 4, none⟩ = some (.int .i64 f2) := by simp [hW0]
      clear hW0
      refine wp_region_held_drew (S := fun w' => Below w.heap.size w w' ∧ w'.cell? ⟨w.heap.size, 0, none⟩ = some (.string s) ∧ w'.cell? ⟨w.heap.size, 1, none⟩ = some (.int .i64 r) ∧ w'.cell? ⟨w.heap.size, 2, none⟩ = some (.int .i64 d) ∧ w'.cell? ⟨w.heap.size, 3, none⟩ = some (.int .i64 t) ∧ w'.cell? ⟨w.heap.size, 4, none⟩ = some (.int .i64 f) ∧ w'.cell? ⟨w.heap.size + 1, 0, none⟩ = some (.string s2) ∧ w'.cell? ⟨w.heap.size + 1, 1, none⟩ = some (.int .i64 r2) ∧ w'.cell? ⟨w.heap.size + 1, 2, none⟩ = some (.int .i64 d2) ∧ w'.cell? ⟨w.heap.size + 1, 3, none⟩ = some (.int .i64 t2) ∧ w'.cell? ⟨w.heap.size + 1, 4, none⟩ = some (.int .i64 f2)) (by kernel_rfl) ?_ (fun hHeld => ?_)
      · exact ⟨s0_.drew, s1_, s2_, s3_, s4_, s5_, s6_, s7_, s8_, s9_, s10_⟩
      clear s0_ s1_ s2_ s3_ s4_ s5_ s6_ s7_ s8_ s9_ s10_
      refine take_yes (i := 0) (d := 5) (v := ?_) _ rfl rfl (by kernel_rfl) (by kernel_rfl) (by kernel_rfl) (fun _ _ _ _ h => h) (by rfl) ?_ (by assumption) ?_
      rotate_left 1
      · ((intro w hSw; (try dsimp only at hSw); go_simp) <;> (try with_reducible rfl))
      (try simp only [Act.put, List.setIfInBounds_toArray, List.set_cons_zero, List.set_cons_succ])
      refine take_yes (i := 1) (d := 6) (v := ?_) _ rfl rfl (by kernel_rfl) (by kernel_rfl) (by kernel_rfl) (fun _ _ _ _ h => h) (by rfl) ?_ (by assumption) ?_
      rotate_left 1
      · ((intro w hSw; (try dsimp only at hSw); go_simp) <;> (try with_reducible rfl))
      (try simp only [Act.put, List.setIfInBounds_toArray, List.set_cons_zero, List.set_cons_succ])
      refine take_yes (i := 2) (d := 7) (v := ?_) _ rfl rfl (by kernel_rfl) (by kernel_rfl) (by kernel_rfl) (fun _ _ _ _ h => h) (by rfl) ?_ (by assumption) ?_
      rotate_left 1
      · ((intro w hSw; (try dsimp only at hSw); go_simp) <;> (try with_reducible rfl))
      (try simp only [Act.put, List.setIfInBounds_toArray, List.set_cons_zero, List.set_cons_succ])
      (refine wpAnyH_ready (rs := [3]) (by kernel_rfl) (by simp) ?_; refine AllReadyH.cons rfl (fun K hK => ?_) AllReadyH.nil; go_simp; go_at_call 95; refine (stripTime_calls _ _ _ _ _ _ (by omega) (by omega) (by omega) (by omega)).mono ?_; rintro e wd ⟨rfl, hb⟩; refine hK.out _ _ (by obtain ⟨x0_, x1_, x2_, x3_, x4_, x5_, x6_, x7_, x8_, x9_, x10_⟩ := hHeld; exact ⟨x0_.trans (hb.mono x0_.size), cell_keep hb x1_, cell_keep hb x2_, cell_keep hb x3_, cell_keep hb x4_, cell_keep hb x5_, cell_keep hb x6_, cell_keep hb x7_, cell_keep hb x8_, cell_keep hb x9_, cell_keep hb x10_⟩) (fun hHeld2 => ?_); clear hK K hHeld hb; have hHeld := hHeld2; clear hHeld2; (try simp only [Act.put, List.setIfInBounds_toArray, List.set_cons_zero, List.set_cons_succ]))
      refine take_yes (i := 4) (d := 9) (v := ?_) _ rfl rfl (by kernel_rfl) (by kernel_rfl) (by kernel_rfl) (fun _ _ _ _ h => h) (by rfl) ?_ (by assumption) ?_
      rotate_left 1
      · ((intro w hSw; (try dsimp only at hSw); go_simp) <;> (try with_reducible rfl))
      (try simp only [Act.put, List.setIfInBounds_toArray, List.set_cons_zero, List.set_cons_succ])
      refine take_yes (i := 5) (d := 10) (v := ?_) _ rfl rfl (by kernel_rfl) (by kernel_rfl) (by kernel_rfl) (fun _ _ _ _ h => h) (by rfl) ?_ (by assumption) ?_
      rotate_left 1
      · ((intro w hSw; (try dsimp only at hSw); go_simp) <;> (try with_reducible rfl))
      (try simp only [Act.put, List.setIfInBounds_toArray, List.set_cons_zero, List.set_cons_succ])
      refine take_yes (i := 6) (d := 11) (v := ?_) _ rfl rfl (by kernel_rfl) (by kernel_rfl) (by kernel_rfl) (fun _ _ _ _ h => h) (by rfl) ?_ (by assumption) ?_
      rotate_left 1
      · ((intro w hSw; (try dsimp only at hSw); go_simp) <;> (try with_reducible rfl))
      (try simp only [Act.put, List.setIfInBounds_toArray, List.set_cons_zero, List.set_cons_succ])
      refine take_yes (i := 7) (d := 12) (v := ?_) _ rfl rfl (by kernel_rfl) (by kernel_rfl) (by kernel_rfl) (fun _ _ _ _ h => h) (by rfl) ?_ (by assumption) ?_
      rotate_left 1
      · ((intro w hSw; (try dsimp only at hSw); go_simp) <;> (try with_reducible rfl))
      (try simp only [Act.put, List.setIfInBounds_toArray, List.set_cons_zero, List.set_cons_succ])
      refine take_yes (i := 8) (d := 13) (v := ?_) _ rfl rfl (by kernel_rfl) (by kernel_rfl) (by kernel_rfl) (fun _ _ _ _ h => h) (by rfl) ?_ (by assumption) ?_
      rotate_left 1
      · ((intro w hSw; (try dsimp only at hSw); go_simp) <;> (try with_reducible rfl))
      (try simp only [Act.put, List.setIfInBounds_toArray, List.set_cons_zero, List.set_cons_succ])
      (refine wpAnyH_ready (rs := [9]) (by kernel_rfl) (by simp) ?_; refine AllReadyH.cons rfl (fun K hK => ?_) AllReadyH.nil; go_simp; go_at_call 95; refine (stripTime_calls _ _ _ _ _ _ (by omega) (by omega) (by omega) (by omega)).mono ?_; rintro e wd ⟨rfl, hb⟩; refine hK.out _ _ (by obtain ⟨x0_, x1_, x2_, x3_, x4_, x5_, x6_, x7_, x8_, x9_, x10_⟩ := hHeld; exact ⟨x0_.trans (hb.mono x0_.size), cell_keep hb x1_, cell_keep hb x2_, cell_keep hb x3_, cell_keep hb x4_, cell_keep hb x5_, cell_keep hb x6_, cell_keep hb x7_, cell_keep hb x8_, cell_keep hb x9_, cell_keep hb x10_⟩) (fun hHeld2 => ?_); clear hK K hHeld hb; have hHeld := hHeld2; clear hHeld2; (try simp only [Act.put, List.setIfInBounds_toArray, List.set_cons_zero, List.set_cons_succ]))
      refine take_yes (i := 10) (d := 15) (v := ?_) _ rfl rfl (by kernel_rfl) (by kernel_rfl) (by kernel_rfl) (fun _ _ _ _ h => h) (by rfl) ?_ (by assumption) ?_
      rotate_left 1
      · ((intro w hSw; (try dsimp only at hSw); go_simp) <;> (try with_reducible rfl))
      (try simp only [Act.put, List.setIfInBounds_toArray, List.set_cons_zero, List.set_cons_succ])
      refine take_yes (i := 11) (d := 16) (v := ?_) _ rfl rfl (by kernel_rfl) (by kernel_rfl) (by kernel_rfl) (fun _ _ _ _ h => h) (by rfl) ?_ (by assumption) ?_
      rotate_left 1
      · ((intro w hSw; (try dsimp only at hSw); go_simp) <;> (try with_reducible rfl))
      (try simp only [Act.put, List.setIfInBounds_toArray, List.set_cons_zero, List.set_cons_succ])
      refine take_yes (i := 12) (d := 4) (v := ?_) _ rfl rfl (by kernel_rfl) (by kernel_rfl) (by kernel_rfl) (fun _ _ _ _ h => h) (by rfl) ?_ (by assumption) ?_
      rotate_left 1
      · ((intro w hSw; (try dsimp only at hSw); go_simp) <;> (try with_reducible rfl))
      (try simp only [Act.put, List.setIfInBounds_toArray, List.set_cons_zero, List.set_cons_succ])
      refine wpAnyH_done (by kernel_rfl) ?_ _
      obtain ⟨z0, z1, z2, z3, z4, z5, z6, z7, z8, z9, z10⟩ := hHeld
      go_wp2
      go_ret
      exact ⟨ret_bool (by simp [overB, p1, p2]), z0⟩
    · have hB := ((Below.refl w.heap.size w).alloc (Nat.le_refl _) (.cells #[.string s, .int .i64 r, .int .i64 d, .int .i64 t, .int .i64 f] 124)).alloc (by simp) (.cells #[.string s2, .int .i64 r2, .int .i64 d2, .int .i64 t2, .int .i64 f2] 124)
      go_enter Try.func183, Try.ntmps183
      go_wp2_with fail
      refine wp_gen (fun W0 hW0 => ?_)
      have s0_ : Below w.heap.size w W0 := by rw [hW0]; exact hB
      have s1_ : W0.cell? ⟨w.heap.size, 0, none⟩ = some (.string s) := by simp [hW0]
      have s2_ : W0.cell? ⟨w.heap.size, 1, none⟩ = some (.int .i64 r) := by simp [hW0]
      have s3_ : W0.cell? ⟨w.heap.size, 2, none⟩ = some (.int .i64 d) := by simp [hW0]
      have s4_ : W0.cell? ⟨w.heap.size, 3, none⟩ = some (.int .i64 t) := by simp [hW0]
      have s5_ : W0.cell? ⟨w.heap.size, 4, none⟩ = some (.int .i64 f) := by simp [hW0]
      have s6_ : W0.cell? ⟨w.heap.size + 1, 0, none⟩ = some (.string s2) := by simp [hW0]
      have s7_ : W0.cell? ⟨w.heap.size + 1, 1, none⟩ = some (.int .i64 r2) := by simp [hW0]
      have s8_ : W0.cell? ⟨w.heap.size + 1, 2, none⟩ = some (.int .i64 d2) := by simp [hW0]
      have s9_ : W0.cell? ⟨w.heap.size + 1, 3, none⟩ = some (.int .i64 t2) := by simp [hW0]
      have s10_ : W0.cell? ⟨w.heap.size + 1, 4, none⟩ = some (.int .i64 f2) := by simp [hW0]
      clear hW0
      refine wp_region_held_drew (S := fun w' => Below w.heap.size w w' ∧ w'.cell? ⟨w.heap.size, 0, none⟩ = some (.string s) ∧ w'.cell? ⟨w.heap.size, 1, none⟩ = some (.int .i64 r) ∧ w'.cell? ⟨w.heap.size, 2, none⟩ = some (.int .i64 d) ∧ w'.cell? ⟨w.heap.size, 3, none⟩ = some (.int .i64 t) ∧ w'.cell? ⟨w.heap.size, 4, none⟩ = some (.int .i64 f) ∧ w'.cell? ⟨w.heap.size + 1, 0, none⟩ = some (.string s2) ∧ w'.cell? ⟨w.heap.size + 1, 1, none⟩ = some (.int .i64 r2) ∧ w'.cell? ⟨w.heap.size + 1, 2, none⟩ = some (.int .i64 d2) ∧ w'.cell? ⟨w.heap.size + 1, 3, none⟩ = some (.int .i64 t2) ∧ w'.cell? ⟨w.heap.size + 1, 4, none⟩ = some (.int .i64 f2)) (by kernel_rfl) ?_ (fun hHeld => ?_)
      · exact ⟨s0_.drew, s1_, s2_, s3_, s4_, s5_, s6_, s7_, s8_, s9_, s10_⟩
      clear s0_ s1_ s2_ s3_ s4_ s5_ s6_ s7_ s8_ s9_ s10_
      refine take_yes (i := 0) (d := 5) (v := ?_) _ rfl rfl (by kernel_rfl) (by kernel_rfl) (by kernel_rfl) (fun _ _ _ _ h => h) (by rfl) ?_ (by assumption) ?_
      rotate_left 1
      · ((intro w hSw; (try dsimp only at hSw); go_simp) <;> (try with_reducible rfl))
      (try simp only [Act.put, List.setIfInBounds_toArray, List.set_cons_zero, List.set_cons_succ])
      refine take_yes (i := 1) (d := 6) (v := ?_) _ rfl rfl (by kernel_rfl) (by kernel_rfl) (by kernel_rfl) (fun _ _ _ _ h => h) (by rfl) ?_ (by assumption) ?_
      rotate_left 1
      · ((intro w hSw; (try dsimp only at hSw); go_simp) <;> (try with_reducible rfl))
      (try simp only [Act.put, List.setIfInBounds_toArray, List.set_cons_zero, List.set_cons_succ])
      refine take_yes (i := 2) (d := 7) (v := ?_) _ rfl rfl (by kernel_rfl) (by kernel_rfl) (by kernel_rfl) (fun _ _ _ _ h => h) (by rfl) ?_ (by assumption) ?_
      rotate_left 1
      · ((intro w hSw; (try dsimp only at hSw); go_simp) <;> (try with_reducible rfl))
      (try simp only [Act.put, List.setIfInBounds_toArray, List.set_cons_zero, List.set_cons_succ])
      (refine wpAnyH_ready (rs := [3]) (by kernel_rfl) (by simp) ?_; refine AllReadyH.cons rfl (fun K hK => ?_) AllReadyH.nil; go_simp; go_at_call 95; refine (stripTime_calls _ _ _ _ _ _ (by omega) (by omega) (by omega) (by omega)).mono ?_; rintro e wd ⟨rfl, hb⟩; refine hK.out _ _ (by obtain ⟨x0_, x1_, x2_, x3_, x4_, x5_, x6_, x7_, x8_, x9_, x10_⟩ := hHeld; exact ⟨x0_.trans (hb.mono x0_.size), cell_keep hb x1_, cell_keep hb x2_, cell_keep hb x3_, cell_keep hb x4_, cell_keep hb x5_, cell_keep hb x6_, cell_keep hb x7_, cell_keep hb x8_, cell_keep hb x9_, cell_keep hb x10_⟩) (fun hHeld2 => ?_); clear hK K hHeld hb; have hHeld := hHeld2; clear hHeld2; (try simp only [Act.put, List.setIfInBounds_toArray, List.set_cons_zero, List.set_cons_succ]))
      refine take_yes (i := 4) (d := 9) (v := ?_) _ rfl rfl (by kernel_rfl) (by kernel_rfl) (by kernel_rfl) (fun _ _ _ _ h => h) (by rfl) ?_ (by assumption) ?_
      rotate_left 1
      · ((intro w hSw; (try dsimp only at hSw); go_simp) <;> (try with_reducible rfl))
      (try simp only [Act.put, List.setIfInBounds_toArray, List.set_cons_zero, List.set_cons_succ])
      refine take_yes (i := 5) (d := 10) (v := ?_) _ rfl rfl (by kernel_rfl) (by kernel_rfl) (by kernel_rfl) (fun _ _ _ _ h => h) (by rfl) ?_ (by assumption) ?_
      rotate_left 1
      · ((intro w hSw; (try dsimp only at hSw); go_simp) <;> (try with_reducible rfl))
      (try simp only [Act.put, List.setIfInBounds_toArray, List.set_cons_zero, List.set_cons_succ])
      refine take_yes (i := 6) (d := 11) (v := ?_) _ rfl rfl (by kernel_rfl) (by kernel_rfl) (by kernel_rfl) (fun _ _ _ _ h => h) (by rfl) ?_ (by assumption) ?_
      rotate_left 1
      · ((intro w hSw; (try dsimp only at hSw); go_simp) <;> (try with_reducible rfl))
      (try simp only [Act.put, List.setIfInBounds_toArray, List.set_cons_zero, List.set_cons_succ])
      refine take_yes (i := 7) (d := 12) (v := ?_) _ rfl rfl (by kernel_rfl) (by kernel_rfl) (by kernel_rfl) (fun _ _ _ _ h => h) (by rfl) ?_ (by assumption) ?_
      rotate_left 1
      · ((intro w hSw; (try dsimp only at hSw); go_simp) <;> (try with_reducible rfl))
      (try simp only [Act.put, List.setIfInBounds_toArray, List.set_cons_zero, List.set_cons_succ])
      refine take_yes (i := 8) (d := 13) (v := ?_) _ rfl rfl (by kernel_rfl) (by kernel_rfl) (by kernel_rfl) (fun _ _ _ _ h => h) (by rfl) ?_ (by assumption) ?_
      rotate_left 1
      · ((intro w hSw; (try dsimp only at hSw); go_simp) <;> (try with_reducible rfl))
      (try simp only [Act.put, List.setIfInBounds_toArray, List.set_cons_zero, List.set_cons_succ])
      (refine wpAnyH_ready (rs := [9]) (by kernel_rfl) (by simp) ?_; refine AllReadyH.cons rfl (fun K hK => ?_) AllReadyH.nil; go_simp; go_at_call 95; refine (stripTime_calls _ _ _ _ _ _ (by omega) (by omega) (by omega) (by omega)).mono ?_; rintro e wd ⟨rfl, hb⟩; refine hK.out _ _ (by obtain ⟨x0_, x1_, x2_, x3_, x4_, x5_, x6_, x7_, x8_, x9_, x10_⟩ := hHeld; exact ⟨x0_.trans (hb.mono x0_.size), cell_keep hb x1_, cell_keep hb x2_, cell_keep hb x3_, cell_keep hb x4_, cell_keep hb x5_, cell_keep hb x6_, cell_keep hb x7_, cell_keep hb x8_, cell_keep hb x9_, cell_keep hb x10_⟩) (fun hHeld2 => ?_); clear hK K hHeld hb; have hHeld := hHeld2; clear hHeld2; (try simp only [Act.put, List.setIfInBounds_toArray, List.set_cons_zero, List.set_cons_succ]))
      refine take_yes (i := 10) (d := 15) (v := ?_) _ rfl rfl (by kernel_rfl) (by kernel_rfl) (by kernel_rfl) (fun _ _ _ _ h => h) (by rfl) ?_ (by assumption) ?_
      rotate_left 1
      · ((intro w hSw; (try dsimp only at hSw); go_simp) <;> (try with_reducible rfl))
      (try simp only [Act.put, List.setIfInBounds_toArray, List.set_cons_zero, List.set_cons_succ])
      refine take_yes (i := 11) (d := 16) (v := ?_) _ rfl rfl (by kernel_rfl) (by kernel_rfl) (by kernel_rfl) (fun _ _ _ _ h => h) (by rfl) ?_ (by assumption) ?_
      rotate_left 1
      · ((intro w hSw; (try dsimp only at hSw); go_simp) <;> (try with_reducible rfl))
      (try simp only [Act.put, List.setIfInBounds_toArray, List.set_cons_zero, List.set_cons_succ])
      refine take_yes (i := 12) (d := 4) (v := ?_) _ rfl rfl (by kernel_rfl) (by kernel_rfl) (by kernel_rfl) (fun _ _ _ _ h => h) (by rfl) ?_ (by assumption) ?_
      rotate_left 1
      · ((intro w hSw; (try dsimp only at hSw); go_simp) <;> (try with_reducible rfl))
      (try simp only [Act.put, List.setIfInBounds_toArray, List.set_cons_zero, List.set_cons_succ])
      refine wpAnyH_done (by kernel_rfl) ?_ _
      obtain ⟨z0, z1, z2, z3, z4, z5, z6, z7, z8, z9, z10⟩ := hHeld
      go_wp2
      go_ret
      exact ⟨ret_bool (by simp [overB, p1, p2]), z0⟩
def CastOk (n : Nat) (ct cf : Nat → Int) : Prop := ∀ i, i < n → (1 ≤ ct i ∧ ct i ≤ 30000) ∧ (0 ≤ cf i ∧ cf i ≤ 1000000)
def clash (p : Nat → Int) (ct cf : Nat → Int) (bay : Int) (k i : Nat) : Bool := p i == bay && overB (ct i) (cf i) (ct k) (cf k)
def canB (br bd cr cd : Nat → Int) (p : Nat → Int) (ct cf : Nat → Int) (m k bay : Nat) : Bool := fitB (br bay) (bd bay) (cr k) (cd k) && allB (fun i => !clash p ct cf bay k i) m
set_option maxHeartbeats 4000000 in
theorem canBe_calls (A : Option Addr) (n c : Nat) (bs : Nat → ByteArray) (br bd : Nat → Int) (B : Option Addr) (n2 c2 : Nat) (cs : Nat → ByteArray) (cr cd ct cf : Nat → Int) (P : Option Addr) (m cp : Nat) (p : Nat → Int) (k bay : Nat) (w : World) (h : BayRow w A n bs br bd) (h2 : CastingRow w B n2 cs cr cd ct cf) (h3 : IntRow w P m p) (ho : CastOk n2 ct cf) (hk : k < n2) (hb : bay < n) (hm : m ≤ k) (hn : n ≤ 1048576) (hn2 : n2 ≤ 1048576) :
    Calls Try.prog 147 #[.slice A n c, .slice B n2 c2, .slice P m cp, .int .i64 k, .int .i64 bay] w fun e w' => e = .returned (.bool (canB br bd cr cd p ct cf m k bay)) ∧ Below w.heap.size w w' := by
  obtain ⟨b, o, rfl, hrow⟩ := h (by omega)
  obtain ⟨b2, o2, rfl, hrow2⟩ := h2 (by omega)
  obtain ⟨x0, x1, x2⟩ := hrow bay hb
  obtain ⟨y0, y1, y2, y3, y4⟩ := hrow2 k hk
  have HR := Lib.hid hrow
  have HR2 := Lib.hid hrow2
  have H3 := Lib.hid h3
  have HO := Lib.hid ho
  generalize hres : canB br bd cr cd p ct cf m k bay = R
  have HRES := Lib.hid hres
  clear h h2 h3 ho hrow hrow2 hres
  cases q1 : fitB (br bay) (bd bay) (cr k) (cd k)
  · go_enter Try.func147, Try.ntmps147
    go_wp2_with fail
    refine wp_gen (fun W0 hW0 => ?_)
    have s0_ : Below w.heap.size w W0 := by rw [hW0]; exact Below.refl _ _
    have s1_ : W0.cell? ⟨b, o + bay * 3, none⟩ = some (.string (bs bay)) := by rw [hW0]; exact x0
    have s2_ : W0.cell? ⟨b, o + bay * 3 + 1, none⟩ = some (.int .i64 (br bay)) := by rw [hW0]; exact x1
    have s3_ : W0.cell? ⟨b, o + bay * 3 + 2, none⟩ = some (.int .i64 (bd bay)) := by rw [hW0]; exact x2
    have s4_ : W0.cell? ⟨b2, o2 + k * 5, none⟩ = some (.string (cs k)) := by rw [hW0]; exact y0
    have s5_ : W0.cell? ⟨b2, o2 + k * 5 + 1, none⟩ = some (.int .i64 (cr k)) := by rw [hW0]; exact y1
    have s6_ : W0.cell? ⟨b2, o2 + k * 5 + 2, none⟩ = some (.int .i64 (cd k)) := by rw [hW0]; exact y2
    have s7_ : W0.cell? ⟨b2, o2 + k * 5 + 3, none⟩ = some (.int .i64 (ct k)) := by rw [hW0]; exact y3
    have s8_ : W0.cell? ⟨b2, o2 + k * 5 + 4, none⟩ = some (.int .i64 (cf k)) := by rw [hW0]; exact y4
    clear hW0
    refine wp_region_held_drew (S := fun w' => Below w.heap.size w w' ∧ w'.cell? ⟨b, o + bay * 3, none⟩ = some (.string (bs bay)) ∧ w'.cell? ⟨b, o + bay * 3 + 1, none⟩ = some (.int .i64 (br bay)) ∧ w'.cell? ⟨b, o + bay * 3 + 2, none⟩ = some (.int .i64 (bd bay)) ∧ w'.cell? ⟨b2, o2 + k * 5, none⟩ = some (.string (cs k)) ∧ w'.cell? ⟨b2, o2 + k * 5 + 1, none⟩ = some (.int .i64 (cr k)) ∧ w'.cell? ⟨b2, o2 + k * 5 + 2, none⟩ = some (.int .i64 (cd k)) ∧ w'.cell? ⟨b2, o2 + k * 5 + 3, none⟩ = some (.int .i64 (ct k)) ∧ w'.cell? ⟨b2, o2 + k * 5 + 4, none⟩ = some (.int .i64 (cf k))) (by kernel_rfl) ?_ (fun hHeld => ?_)
    · exact ⟨s0_.drew, s1_, s2_, s3_, s4_, s5_, s6_, s7_, s8_⟩
    clear s0_ s1_ s2_ s3_ s4_ s5_ s6_ s7_ s8_
    refine take_yes (i := 0) (d := 13) (v := ?_) _ rfl rfl (by kernel_rfl) (by kernel_rfl) (by kernel_rfl) (fun _ _ _ _ h => h) (by rfl) ?_ (by assumption) ?_
    rotate_left 1
    · ((intro w hSw; (try dsimp only at hSw); go_simp) <;> (try with_reducible rfl))
    (try simp only [Act.put, List.setIfInBounds_toArray, List.set_cons_zero, List.set_cons_succ])
    refine take_yes (i := 1) (d := 14) (v := ?_) _ rfl rfl (by kernel_rfl) (by kernel_rfl) (by kernel_rfl) (fun _ _ _ _ h => h) (by rfl) ?_ (by assumption) ?_
    rotate_left 1
    · ((intro w hSw; (try dsimp only at hSw); go_simp) <;> (try with_reducible rfl))
    (try simp only [Act.put, List.setIfInBounds_toArray, List.set_cons_zero, List.set_cons_succ])
    refine take_yes (i := 2) (d := 15) (v := ?_) _ rfl rfl (by kernel_rfl) (by kernel_rfl) (by kernel_rfl) (fun _ _ _ _ h => h) (by rfl) ?_ (by assumption) ?_
    rotate_left 1
    · ((intro w hSw; (try dsimp only at hSw); go_simp) <;> (try with_reducible rfl))
    (try simp only [Act.put, List.setIfInBounds_toArray, List.set_cons_zero, List.set_cons_succ])
    refine take_yes (i := 3) (d := 16) (v := ?_) _ rfl rfl (by kernel_rfl) (by kernel_rfl) (by kernel_rfl) (fun _ _ _ _ h => h) (by rfl) ?_ (by assumption) ?_
    rotate_left 1
    · ((intro w hSw; (try dsimp only at hSw); go_simp) <;> (try with_reducible rfl))
    (try simp only [Act.put, List.setIfInBounds_toArray, List.set_cons_zero, List.set_cons_succ])
    refine take_yes (i := 4) (d := 17) (v := ?_) _ rfl rfl (by kernel_rfl) (by kernel_rfl) (by kernel_rfl) (fun _ _ _ _ h => h) (by rfl) ?_ (by assumption) ?_
    rotate_left 1
    · ((intro w hSw; (try dsimp only at hSw); go_simp) <;> (try with_reducible rfl))
    (try simp only [Act.put, List.setIfInBounds_toArray, List.set_cons_zero, List.set_cons_succ])
    refine take_yes (i := 5) (d := 18) (v := ?_) _ rfl rfl (by kernel_rfl) (by kernel_rfl) (by kernel_rfl) (fun _ _ _ _ h => h) (by rfl) ?_ (by assumption) ?_
    rotate_left 1
    · ((intro w hSw; (try dsimp only at hSw); go_simp) <;> (try with_reducible rfl))
    (try simp only [Act.put, List.setIfInBounds_toArray, List.set_cons_zero, List.set_cons_succ])
    refine take_yes (i := 6) (d := 19) (v := ?_) _ rfl rfl (by kernel_rfl) (by kernel_rfl) (by kernel_rfl) (fun _ _ _ _ h => h) (by rfl) ?_ (by assumption) ?_
    rotate_left 1
    · ((intro w hSw; (try dsimp only at hSw); go_simp) <;> (try with_reducible rfl))
    (try simp only [Act.put, List.setIfInBounds_toArray, List.set_cons_zero, List.set_cons_succ])
    refine take_yes (i := 7) (d := 20) (v := ?_) _ rfl rfl (by kernel_rfl) (by kernel_rfl) (by kernel_rfl) (fun _ _ _ _ h => h) (by rfl) ?_ (by assumption) ?_
    rotate_left 1
    · ((intro w hSw; (try dsimp only at hSw); go_simp) <;> (try with_reducible rfl))
    (try simp only [Act.put, List.setIfInBounds_toArray, List.set_cons_zero, List.set_cons_succ])
    (refine wpAnyH_ready (rs := [8]) (by kernel_rfl) (by simp) ?_; refine AllReadyH.cons rfl (fun K hK => ?_) AllReadyH.nil; go_simp; go_at_call 182; refine (fitsBay_calls _ _ _ _ _ _ _ _ _).mono ?_; simp only [q1]; rintro e wd ⟨rfl, hb⟩; refine hK.out _ _ (by obtain ⟨x0_, x1_, x2_, x3_, x4_, x5_, x6_, x7_, x8_⟩ := hHeld; exact ⟨x0_.trans (hb.mono x0_.size), cell_keep hb x1_, cell_keep hb x2_, cell_keep hb x3_, cell_keep hb x4_, cell_keep hb x5_, cell_keep hb x6_, cell_keep hb x7_, cell_keep hb x8_⟩) (fun hHeld2 => ?_); clear hK K hHeld hb; have hHeld := hHeld2; clear hHeld2; (try simp only [Act.put, List.setIfInBounds_toArray, List.set_cons_zero, List.set_cons_succ]))
    refine take_yes (i := 9) (d := 22) (v := ?_) _ rfl rfl (by kernel_rfl) (by kernel_rfl) (by kernel_rfl) (fun _ _ _ _ h => h) (by rfl) ?_ (by assumption) ?_
    rotate_left 1
    · ((intro w hSw; (try dsimp only at hSw); go_simp) <;> (try with_reducible rfl))
    (try simp only [Act.put, List.setIfInBounds_toArray, List.set_cons_zero, List.set_cons_succ])
    refine wpAnyH_done (by kernel_rfl) ?_ _
    obtain ⟨z0, z1, z2, z3, z4, z5, z6, z7, z8⟩ := hHeld
    go_wp2
    go_ret
    exact ⟨ret_bool (by rw [← HRES.out]; simp [canB, q1]), z0⟩
  · go_enter Try.func147, Try.ntmps147
    go_wp2_with fail
    refine wp_gen (fun W0 hW0 => ?_)
    have s0_ : Below w.heap.size w W0 := by rw [hW0]; exact Below.refl _ _
    have s1_ : W0.cell? ⟨b, o + bay * 3, none⟩ = some (.string (bs bay)) := by rw [hW0]; exact x0
    have s2_ : W0.cell? ⟨b, o + bay * 3 + 1, none⟩ = some (.int .i64 (br bay)) := by rw [hW0]; exact x1
    have s3_ : W0.cell? ⟨b, o + bay * 3 + 2, none⟩ = some (.int .i64 (bd bay)) := by rw [hW0]; exact x2
    have s4_ : W0.cell? ⟨b2, o2 + k * 5, none⟩ = some (.string (cs k)) := by rw [hW0]; exact y0
    have s5_ : W0.cell? ⟨b2, o2 + k * 5 + 1, none⟩ = some (.int .i64 (cr k)) := by rw [hW0]; exact y1
    have s6_ : W0.cell? ⟨b2, o2 + k * 5 + 2, none⟩ = some (.int .i64 (cd k)) := by rw [hW0]; exact y2
    have s7_ : W0.cell? ⟨b2, o2 + k * 5 + 3, none⟩ = some (.int .i64 (ct k)) := by rw [hW0]; exact y3
    have s8_ : W0.cell? ⟨b2, o2 + k * 5 + 4, none⟩ = some (.int .i64 (cf k)) := by rw [hW0]; exact y4
    clear hW0
    refine wp_region_held_drew (S := fun w' => Below w.heap.size w w' ∧ w'.cell? ⟨b, o + bay * 3, none⟩ = some (.string (bs bay)) ∧ w'.cell? ⟨b, o + bay * 3 + 1, none⟩ = some (.int .i64 (br bay)) ∧ w'.cell? ⟨b, o + bay * 3 + 2, none⟩ = some (.int .i64 (bd bay)) ∧ w'.cell? ⟨b2, o2 + k * 5, none⟩ = some (.string (cs k)) ∧ w'.cell? ⟨b2, o2 + k * 5 + 1, none⟩ = some (.int .i64 (cr k)) ∧ w'.cell? ⟨b2, o2 + k * 5 + 2, none⟩ = some (.int .i64 (cd k)) ∧ w'.cell? ⟨b2, o2 + k * 5 + 3, none⟩ = some (.int .i64 (ct k)) ∧ w'.cell? ⟨b2, o2 + k * 5 + 4, none⟩ = some (.int .i64 (cf k))) (by kernel_rfl) ?_ (fun hHeld => ?_)
    · exact ⟨s0_.drew, s1_, s2_, s3_, s4_, s5_, s6_, s7_, s8_⟩
    clear s0_ s1_ s2_ s3_ s4_ s5_ s6_ s7_ s8_
    refine take_yes (i := 0) (d := 13) (v := ?_) _ rfl rfl (by kernel_rfl) (by kernel_rfl) (by kernel_rfl) (fun _ _ _ _ h => h) (by rfl) ?_ (by assumption) ?_
    rotate_left 1
    · ((intro w hSw; (try dsimp only at hSw); go_simp) <;> (try with_reducible rfl))
    (try simp only [Act.put, List.setIfInBounds_toArray, List.set_cons_zero, List.set_cons_succ])
    refine take_yes (i := 1) (d := 14) (v := ?_) _ rfl rfl (by kernel_rfl) (by kernel_rfl) (by kernel_rfl) (fun _ _ _ _ h => h) (by rfl) ?_ (by assumption) ?_
    rotate_left 1
    · ((intro w hSw; (try dsimp only at hSw); go_simp) <;> (try with_reducible rfl))
    (try simp only [Act.put, List.setIfInBounds_toArray, List.set_cons_zero, List.set_cons_succ])
    refine take_yes (i := 2) (d := 15) (v := ?_) _ rfl rfl (by kernel_rfl) (by kernel_rfl) (by kernel_rfl) (fun _ _ _ _ h => h) (by rfl) ?_ (by assumption) ?_
    rotate_left 1
    · ((intro w hSw; (try dsimp only at hSw); go_simp) <;> (try with_reducible rfl))
    (try simp only [Act.put, List.setIfInBounds_toArray, List.set_cons_zero, List.set_cons_succ])
    refine take_yes (i := 3) (d := 16) (v := ?_) _ rfl rfl (by kernel_rfl) (by kernel_rfl) (by kernel_rfl) (fun _ _ _ _ h => h) (by rfl) ?_ (by assumption) ?_
    rotate_left 1
    · ((intro w hSw; (try dsimp only at hSw); go_simp) <;> (try with_reducible rfl))
    (try simp only [Act.put, List.setIfInBounds_toArray, List.set_cons_zero, List.set_cons_succ])
    refine take_yes (i := 4) (d := 17) (v := ?_) _ rfl rfl (by kernel_rfl) (by kernel_rfl) (by kernel_rfl) (fun _ _ _ _ h => h) (by rfl) ?_ (by assumption) ?_
    rotate_left 1
    · ((intro w hSw; (try dsimp only at hSw); go_simp) <;> (try with_reducible rfl))
    (try simp only [Act.put, List.setIfInBounds_toArray, List.set_cons_zero, List.set_cons_succ])
    refine take_yes (i := 5) (d := 18) (v := ?_) _ rfl rfl (by kernel_rfl) (by kernel_rfl) (by kernel_rfl) (fun _ _ _ _ h => h) (by rfl) ?_ (by assumption) ?_
    rotate_left 1
    · ((intro w hSw; (try dsimp only at hSw); go_simp) <;> (try with_reducible rfl))
    (try simp only [Act.put, List.setIfInBounds_toArray, List.set_cons_zero, List.set_cons_succ])
    refine take_yes (i := 6) (d := 19) (v := ?_) _ rfl rfl (by kernel_rfl) (by kernel_rfl) (by kernel_rfl) (fun _ _ _ _ h => h) (by rfl) ?_ (by assumption) ?_
    rotate_left 1
    · ((intro w hSw; (try dsimp only at hSw); go_simp) <;> (try with_reducible rfl))
    (try simp only [Act.put, List.setIfInBounds_toArray, List.set_cons_zero, List.set_cons_succ])
    refine take_yes (i := 7) (d := 20) (v := ?_) _ rfl rfl (by kernel_rfl) (by kernel_rfl) (by kernel_rfl) (fun _ _ _ _ h => h) (by rfl) ?_ (by assumption) ?_
    rotate_left 1
    · ((intro w hSw; (try dsimp only at hSw); go_simp) <;> (try with_reducible rfl))
    (try simp only [Act.put, List.setIfInBounds_toArray, List.set_cons_zero, List.set_cons_succ])
    (refine wpAnyH_ready (rs := [8]) (by kernel_rfl) (by simp) ?_; refine AllReadyH.cons rfl (fun K hK => ?_) AllReadyH.nil; go_simp; go_at_call 182; refine (fitsBay_calls _ _ _ _ _ _ _ _ _).mono ?_; simp only [q1]; rintro e wd ⟨rfl, hb⟩; refine hK.out _ _ (by obtain ⟨x0_, x1_, x2_, x3_, x4_, x5_, x6_, x7_, x8_⟩ := hHeld; exact ⟨x0_.trans (hb.mono x0_.size), cell_keep hb x1_, cell_keep hb x2_, cell_keep hb x3_, cell_keep hb x4_, cell_keep hb x5_, cell_keep hb x6_, cell_keep hb x7_, cell_keep hb x8_⟩) (fun hHeld2 => ?_); clear hK K hHeld hb; have hHeld := hHeld2; clear hHeld2; (try simp only [Act.put, List.setIfInBounds_toArray, List.set_cons_zero, List.set_cons_succ]))
    refine take_yes (i := 9) (d := 22) (v := ?_) _ rfl rfl (by kernel_rfl) (by kernel_rfl) (by kernel_rfl) (fun _ _ _ _ h => h) (by rfl) ?_ (by assumption) ?_
    rotate_left 1
    · ((intro w hSw; (try dsimp only at hSw); go_simp) <;> (try with_reducible rfl))
    (try simp only [Act.put, List.setIfInBounds_toArray, List.set_cons_zero, List.set_cons_succ])
    refine wpAnyH_done (by kernel_rfl) ?_ _
    obtain ⟨z0, z1, z2, z3, z4, z5, z6, z7, z8⟩ := hHeld
    have Z0 := Lib.hid z0
    clear z0 z1 z2 z3 z4 z5 z6 z7 z8
    go_wp2
    go_loopw [25] (fun i wr => ∃ i' : Nat, i' ≤ m ∧ i = .int .i64 i' ∧ Hid (allB (fun i => !clash p ct cf bay k i) i' = true) ∧ Below w.heap.size w wr) (fun i _ => m - (intOf i).toNat)
    case atStart => exact ⟨0, by omega, rfl, rfl, Z0.out⟩
    case round =>
      obtain ⟨i, hi, rfl, hgood, hbr⟩ := hrel
      by_cases hlt : i < m
      · obtain ⟨b3, o3, rfl, hrow3⟩ := H3.out (by omega)
        have c0 : wr.cell? ⟨b3, o3 + i, none⟩ = some (.int .i64 (p i)) := (hbr.cell (p := ⟨b3, o3 + i, none⟩) (cell_lt (hrow3 i hlt))).trans (hrow3 i hlt)
        obtain ⟨u0, u1, u2, u3, u4⟩ := (HR2.out i (by omega)).below hbr (Nat.le_refl _)
        obtain ⟨v0, v1, v2, v3, v4⟩ := (HR2.out k hk).below hbr (Nat.le_refl _)
        have hin2 : i < n2 := by omega
        obtain ⟨a0, a1⟩ := HO.out i (by omega)
        obtain ⟨e0, e1⟩ := HO.out k hk
        have HR3 := Lib.hid hrow3
        clear hrow3
        cases q2 : (p i == (bay : Int))
        · have HK : Hid ((!clash p ct cf bay k i) = true) := Lib.hid (by simp [clash, q2])
          have q3 : True := trivial
          go_wp2_with fail
          refine wp_gen (fun W0 hW0 => ?_)
          have s0_ : Below w.heap.size w W0 := by rw [hW0]; exact hbr
          have s1_ : W0.cell? ⟨b2, o2 + i * 5, none⟩ = some (.string (cs i)) := by rw [hW0]; exact u0
          have s2_ : W0.cell? ⟨b2, o2 + i * 5 + 1, none⟩ = some (.int .i64 (cr i)) := by rw [hW0]; exact u1
          have s3_ : W0.cell? ⟨b2, o2 + i * 5 + 2, none⟩ = some (.int .i64 (cd i)) := by rw [hW0]; exact u2
          have s4_ : W0.cell? ⟨b2, o2 + i * 5 + 3, none⟩ = some (.int .i64 (ct i)) := by rw [hW0]; exact u3
          have s5_ : W0.cell? ⟨b2, o2 + i * 5 + 4, none⟩ = some (.int .i64 (cf i)) := by rw [hW0]; exact u4
          have s6_ : W0.cell? ⟨b2, o2 + k * 5, none⟩ = some (.string (cs k)) := by rw [hW0]; exact v0
          have s7_ : W0.cell? ⟨b2, o2 + k * 5 + 1, none⟩ = some (.int .i64 (cr k)) := by rw [hW0]; exact v1
          have s8_ : W0.cell? ⟨b2, o2 + k * 5 + 2, none⟩ = some (.int .i64 (cd k)) := by rw [hW0]; exact v2
          have s9_ : W0.cell? ⟨b2, o2 + k * 5 + 3, none⟩ = some (.int .i64 (ct k)) := by rw [hW0]; exact v3
          have s10_ : W0.cell? ⟨b2, o2 + k * 5 + 4, none⟩ = some (.int .i64 (cf k)) := by rw [hW0]; exact v4
          clear hW0
          refine wp_region_held_drew (S := fun w' => Below w.heap.size w w' ∧ w'.cell? ⟨b2, o2 + i * 5, none⟩ = some (.string (cs i)) ∧ w'.cell? ⟨b2, o2 + i * 5 + 1, none⟩ = some (.int .i64 (cr i)) ∧ w'.cell? ⟨b2, o2 + i * 5 + 2, none⟩ = some (.int .i64 (cd i)) ∧ w'.cell? ⟨b2, o2 + i * 5 + 3, none⟩ = some (.int .i64 (ct i)) ∧ w'.cell? ⟨b2, o2 + i * 5 + 4, none⟩ = some (.int .i64 (cf i)) ∧ w'.cell? ⟨b2, o2 + k * 5, none⟩ = some (.string (cs k)) ∧ w'.cell? ⟨b2, o2 + k * 5 + 1, none⟩ = some (.int .i64 (cr k)) ∧ w'.cell? ⟨b2, o2 + k * 5 + 2, none⟩ = some (.int .i64 (cd k)) ∧ w'.cell? ⟨b2, o2 + k * 5 + 3, none⟩ = some (.int .i64 (ct k)) ∧ w'.cell? ⟨b2, o2 + k * 5 + 4, none⟩ = some (.int .i64 (cf k))) (by kernel_rfl) ?_ (fun hHeld => ?_)
          · exact ⟨s0_.drew, s1_, s2_, s3_, s4_, s5_, s6_, s7_, s8_, s9_, s10_⟩
          clear s0_ s1_ s2_ s3_ s4_ s5_ s6_ s7_ s8_ s9_ s10_
          refine take_yes (i := 0) (d := 30) (v := ?_) _ rfl rfl (by kernel_rfl) (by kernel_rfl) (by kernel_rfl) (fun _ _ _ _ h => h) (by rfl) ?_ (by assumption) ?_
          rotate_left 1
          · ((intro w hSw; (try dsimp only at hSw); go_simp) <;> (try with_reducible rfl))
          (try simp only [Act.put, List.setIfInBounds_toArray, List.set_cons_zero, List.set_cons_succ])
          refine take_yes (i := 1) (d := 31) (v := ?_) _ rfl rfl (by kernel_rfl) (by kernel_rfl) (by kernel_rfl) (fun _ _ _ _ h => h) (by rfl) ?_ (by assumption) ?_
          rotate_left 1
          · ((intro w hSw; (try dsimp only at hSw); go_simp) <;> (try with_reducible rfl))
          (try simp only [Act.put, List.setIfInBounds_toArray, List.set_cons_zero, List.set_cons_succ])
          refine take_yes (i := 2) (d := 32) (v := ?_) _ rfl rfl (by kernel_rfl) (by kernel_rfl) (by kernel_rfl) (fun _ _ _ _ h => h) (by rfl) ?_ (by assumption) ?_
          rotate_left 1
          · ((intro w hSw; (try dsimp only at hSw); go_simp) <;> (try with_reducible rfl))
          (try simp only [Act.put, List.setIfInBounds_toArray, List.set_cons_zero, List.set_cons_succ])
          refine take_yes (i := 3) (d := 33) (v := ?_) _ rfl rfl (by kernel_rfl) (by kernel_rfl) (by kernel_rfl) (fun _ _ _ _ h => h) (by rfl) ?_ (by assumption) ?_
          rotate_left 1
          · ((intro w hSw; (try dsimp only at hSw); go_simp) <;> (try with_reducible rfl))
          (try simp only [Act.put, List.setIfInBounds_toArray, List.set_cons_zero, List.set_cons_succ])
          (refine take_no (i := 4) (d := 34) _ rfl rfl (by kernel_rfl) (by kernel_rfl) (by kernel_rfl) (fun _ _ _ _ h => h) (by rfl) (by assumption) ?_; (try simp only [Act.put, List.setIfInBounds_toArray, List.set_cons_zero, List.set_cons_succ]))
          (refine take_no (i := 5) (d := 35) _ rfl rfl (by kernel_rfl) (by kernel_rfl) (by kernel_rfl) (fun _ _ _ _ h => h) (by rfl) (by assumption) ?_; (try simp only [Act.put, List.setIfInBounds_toArray, List.set_cons_zero, List.set_cons_succ]))
          (refine take_no (i := 6) (d := 36) _ rfl rfl (by kernel_rfl) (by kernel_rfl) (by kernel_rfl) (fun _ _ _ _ h => h) (by rfl) (by assumption) ?_; (try simp only [Act.put, List.setIfInBounds_toArray, List.set_cons_zero, List.set_cons_succ]))
          (refine take_no (i := 7) (d := 37) _ rfl rfl (by kernel_rfl) (by kernel_rfl) (by kernel_rfl) (fun _ _ _ _ h => h) (by rfl) (by assumption) ?_; (try simp only [Act.put, List.setIfInBounds_toArray, List.set_cons_zero, List.set_cons_succ]))
          (refine take_no (i := 8) (d := 38) _ rfl rfl (by kernel_rfl) (by kernel_rfl) (by kernel_rfl) (fun _ _ _ _ h => h) (by rfl) (by assumption) ?_; (try simp only [Act.put, List.setIfInBounds_toArray, List.set_cons_zero, List.set_cons_succ]))
          (refine take_no (i := 9) (d := 39) _ rfl rfl (by kernel_rfl) (by kernel_rfl) (by kernel_rfl) (fun _ _ _ _ h => h) (by rfl) (by assumption) ?_; (try simp only [Act.put, List.setIfInBounds_toArray, List.set_cons_zero, List.set_cons_succ]))
          (refine take_no (i := 10) (d := 40) _ rfl rfl (by kernel_rfl) (by kernel_rfl) (by kernel_rfl) (fun _ _ _ _ h => h) (by rfl) (by assumption) ?_; (try simp only [Act.put, List.setIfInBounds_toArray, List.set_cons_zero, List.set_cons_succ]))
          (refine take_no (i := 11) (d := 41) _ rfl rfl (by kernel_rfl) (by kernel_rfl) (by kernel_rfl) (fun _ _ _ _ h => h) (by rfl) (by assumption) ?_; (try simp only [Act.put, List.setIfInBounds_toArray, List.set_cons_zero, List.set_cons_succ]))
          (refine take_no (i := 12) (d := 42) _ rfl rfl (by kernel_rfl) (by kernel_rfl) (by kernel_rfl) (fun _ _ _ _ h => h) (by rfl) (by assumption) ?_; (try simp only [Act.put, List.setIfInBounds_toArray, List.set_cons_zero, List.set_cons_succ]))
          refine take_yes (i := 13) (d := 43) (v := ?_) _ rfl rfl (by kernel_rfl) (by kernel_rfl) (by kernel_rfl) (fun _ _ _ _ h => h) (by rfl) ?_ (by assumption) ?_
          rotate_left 1
          · ((intro w hSw; (try dsimp only at hSw); go_simp) <;> (try with_reducible rfl))
          (try simp only [Act.put, List.setIfInBounds_toArray, List.set_cons_zero, List.set_cons_succ])
          refine wpAnyH_done (by kernel_rfl) ?_ _
          obtain ⟨z0, z1, z2, z3, z4, z5, z6, z7, z8, z9, z10⟩ := hHeld
          go_wp2
          go_roundw
          case rel => exact ⟨i + 1, by omega, by go_num, Lib.hid (by rw [show allB (fun i => !clash p ct cf bay k i) (i + 1) = (allB (fun i => !clash p ct cf bay k i) i && !clash p ct cf bay k i) from rfl, hgood.out, HK.out]; rfl), z0⟩
          case measure => simp [intOf]; omega
        · cases q3 : overB (ct i) (cf i) (ct k) (cf k)
          · have HK : Hid ((!clash p ct cf bay k i) = true) := Lib.hid (by simp [clash, q3])
            go_wp2_with fail
            refine wp_gen (fun W0 hW0 => ?_)
            have s0_ : Below w.heap.size w W0 := by rw [hW0]; exact hbr
            have s1_ : W0.cell? ⟨b2, o2 + i * 5, none⟩ = some (.string (cs i)) := by rw [hW0]; exact u0
            have s2_ : W0.cell? ⟨b2, o2 + i * 5 + 1, none⟩ = some (.int .i64 (cr i)) := by rw [hW0]; exact u1
            have s3_ : W0.cell? ⟨b2, o2 + i * 5 + 2, none⟩ = some (.int .i64 (cd i)) := by rw [hW0]; exact u2
            have s4_ : W0.cell? ⟨b2, o2 + i * 5 + 3, none⟩ = some (.int .i64 (ct i)) := by rw [hW0]; exact u3
            have s5_ : W0.cell? ⟨b2, o2 + i * 5 + 4, none⟩ = some (.int .i64 (cf i)) := by rw [hW0]; exact u4
            have s6_ : W0.cell? ⟨b2, o2 + k * 5, none⟩ = some (.string (cs k)) := by rw [hW0]; exact v0
            have s7_ : W0.cell? ⟨b2, o2 + k * 5 + 1, none⟩ = some (.int .i64 (cr k)) := by rw [hW0]; exact v1
            have s8_ : W0.cell? ⟨b2, o2 + k * 5 + 2, none⟩ = some (.int .i64 (cd k)) := by rw [hW0]; exact v2
            have s9_ : W0.cell? ⟨b2, o2 + k * 5 + 3, none⟩ = some (.int .i64 (ct k)) := by rw [hW0]; exact v3
            have s10_ : W0.cell? ⟨b2, o2 + k * 5 + 4, none⟩ = some (.int .i64 (cf k)) := by rw [hW0]; exact v4
            clear hW0
            refine wp_region_held_drew (S := fun w' => Below w.heap.size w w' ∧ w'.cell? ⟨b2, o2 + i * 5, none⟩ = some (.string (cs i)) ∧ w'.cell? ⟨b2, o2 + i * 5 + 1, none⟩ = some (.int .i64 (cr i)) ∧ w'.cell? ⟨b2, o2 + i * 5 + 2, none⟩ = some (.int .i64 (cd i)) ∧ w'.cell? ⟨b2, o2 + i * 5 + 3, none⟩ = some (.int .i64 (ct i)) ∧ w'.cell? ⟨b2, o2 + i * 5 + 4, none⟩ = some (.int .i64 (cf i)) ∧ w'.cell? ⟨b2, o2 + k * 5, none⟩ = some (.string (cs k)) ∧ w'.cell? ⟨b2, o2 + k * 5 + 1, none⟩ = some (.int .i64 (cr k)) ∧ w'.cell? ⟨b2, o2 + k * 5 + 2, none⟩ = some (.int .i64 (cd k)) ∧ w'.cell? ⟨b2, o2 + k * 5 + 3, none⟩ = some (.int .i64 (ct k)) ∧ w'.cell? ⟨b2, o2 + k * 5 + 4, none⟩ = some (.int .i64 (cf k))) (by kernel_rfl) ?_ (fun hHeld => ?_)
            · exact ⟨s0_.drew, s1_, s2_, s3_, s4_, s5_, s6_, s7_, s8_, s9_, s10_⟩
            clear s0_ s1_ s2_ s3_ s4_ s5_ s6_ s7_ s8_ s9_ s10_
            refine take_yes (i := 0) (d := 30) (v := ?_) _ rfl rfl (by kernel_rfl) (by kernel_rfl) (by kernel_rfl) (fun _ _ _ _ h => h) (by rfl) ?_ (by assumption) ?_
            rotate_left 1
            · ((intro w hSw; (try dsimp only at hSw); go_simp) <;> (try with_reducible rfl))
            (try simp only [Act.put, List.setIfInBounds_toArray, List.set_cons_zero, List.set_cons_succ])
            refine take_yes (i := 1) (d := 31) (v := ?_) _ rfl rfl (by kernel_rfl) (by kernel_rfl) (by kernel_rfl) (fun _ _ _ _ h => h) (by rfl) ?_ (by assumption) ?_
            rotate_left 1
            · ((intro w hSw; (try dsimp only at hSw); go_simp) <;> (try with_reducible rfl))
            (try simp only [Act.put, List.setIfInBounds_toArray, List.set_cons_zero, List.set_cons_succ])
            refine take_yes (i := 2) (d := 32) (v := ?_) _ rfl rfl (by kernel_rfl) (by kernel_rfl) (by kernel_rfl) (fun _ _ _ _ h => h) (by rfl) ?_ (by assumption) ?_
            rotate_left 1
            · ((intro w hSw; (try dsimp only at hSw); go_simp) <;> (try with_reducible rfl))
            (try simp only [Act.put, List.setIfInBounds_toArray, List.set_cons_zero, List.set_cons_succ])
            refine take_yes (i := 3) (d := 33) (v := ?_) _ rfl rfl (by kernel_rfl) (by kernel_rfl) (by kernel_rfl) (fun _ _ _ _ h => h) (by rfl) ?_ (by assumption) ?_
            rotate_left 1
            · ((intro w hSw; (try dsimp only at hSw); go_simp) <;> (try with_reducible rfl))
            (try simp only [Act.put, List.setIfInBounds_toArray, List.set_cons_zero, List.set_cons_succ])
            refine take_yes (i := 4) (d := 34) (v := ?_) _ rfl rfl (by kernel_rfl) (by kernel_rfl) (by kernel_rfl) (fun _ _ _ _ h => h) (by rfl) ?_ (by assumption) ?_
            rotate_left 1
            · ((intro w hSw; (try dsimp only at hSw); go_simp) <;> (try with_reducible rfl))
            (try simp only [Act.put, List.setIfInBounds_toArray, List.set_cons_zero, List.set_cons_succ])
            refine take_yes (i := 5) (d := 35) (v := ?_) _ rfl rfl (by kernel_rfl) (by kernel_rfl) (by kernel_rfl) (fun _ _ _ _ h => h) (by rfl) ?_ (by assumption) ?_
            rotate_left 1
            · ((intro w hSw; (try dsimp only at hSw); go_simp) <;> (try with_reducible rfl))
            (try simp only [Act.put, List.setIfInBounds_toArray, List.set_cons_zero, List.set_cons_succ])
            refine take_yes (i := 6) (d := 36) (v := ?_) _ rfl rfl (by kernel_rfl) (by kernel_rfl) (by kernel_rfl) (fun _ _ _ _ h => h) (by rfl) ?_ (by assumption) ?_
            rotate_left 1
            · ((intro w hSw; (try dsimp only at hSw); go_simp) <;> (try with_reducible rfl))
            (try simp only [Act.put, List.setIfInBounds_toArray, List.set_cons_zero, List.set_cons_succ])
            refine take_yes (i := 7) (d := 37) (v := ?_) _ rfl rfl (by kernel_rfl) (by kernel_rfl) (by kernel_rfl) (fun _ _ _ _ h => h) (by rfl) ?_ (by assumption) ?_
            rotate_left 1
            · ((intro w hSw; (try dsimp only at hSw); go_simp) <;> (try with_reducible rfl))
            (try simp only [Act.put, List.setIfInBounds_toArray, List.set_cons_zero, List.set_cons_succ])
            refine take_yes (i := 8) (d := 38) (v := ?_) _ rfl rfl (by kernel_rfl) (by kernel_rfl) (by kernel_rfl) (fun _ _ _ _ h => h) (by rfl) ?_ (by assumption) ?_
            rotate_left 1
            · ((intro w hSw; (try dsimp only at hSw); go_simp) <;> (try with_reducible rfl))
            (try simp only [Act.put, List.setIfInBounds_toArray, List.set_cons_zero, List.set_cons_succ])
            refine take_yes (i := 9) (d := 39) (v := ?_) _ rfl rfl (by kernel_rfl) (by kernel_rfl) (by kernel_rfl) (fun _ _ _ _ h => h) (by rfl) ?_ (by assumption) ?_
            rotate_left 1
            · ((intro w hSw; (try dsimp only at hSw); go_simp) <;> (try with_reducible rfl))
            (try simp only [Act.put, List.setIfInBounds_toArray, List.set_cons_zero, List.set_cons_succ])
            refine take_yes (i := 10) (d := 40) (v := ?_) _ rfl rfl (by kernel_rfl) (by kernel_rfl) (by kernel_rfl) (fun _ _ _ _ h => h) (by rfl) ?_ (by assumption) ?_
            rotate_left 1
            · ((intro w hSw; (try dsimp only at hSw); go_simp) <;> (try with_reducible rfl))
            (try simp only [Act.put, List.setIfInBounds_toArray, List.set_cons_zero, List.set_cons_succ])
            refine take_yes (i := 11) (d := 41) (v := ?_) _ rfl rfl (by kernel_rfl) (by kernel_rfl) (by kernel_rfl) (fun _ _ _ _ h => h) (by rfl) ?_ (by assumption) ?_
            rotate_left 1
            · ((intro w hSw; (try dsimp only at hSw); go_simp) <;> (try with_reducible rfl))
            (try simp only [Act.put, List.setIfInBounds_toArray, List.set_cons_zero, List.set_cons_succ])
            (refine wpAnyH_ready (rs := [12]) (by kernel_rfl) (by simp) ?_; refine AllReadyH.cons rfl (fun K hK => ?_) AllReadyH.nil; go_simp; go_at_call 183; refine (overlap_calls _ _ _ _ _ _ _ _ _ _ _ a0.1 a0.2 a1.1 a1.2 e0.1 e0.2 e1.1 e1.2).mono ?_; simp only [q3]; rintro e wd ⟨rfl, hb⟩; refine hK.out _ _ (by obtain ⟨x0_, x1_, x2_, x3_, x4_, x5_, x6_, x7_, x8_, x9_, x10_⟩ := hHeld; exact ⟨x0_.trans (hb.mono x0_.size), cell_keep hb x1_, cell_keep hb x2_, cell_keep hb x3_, cell_keep hb x4_, cell_keep hb x5_, cell_keep hb x6_, cell_keep hb x7_, cell_keep hb x8_, cell_keep hb x9_, cell_keep hb x10_⟩) (fun hHeld2 => ?_); clear hK K hHeld hb; have hHeld := hHeld2; clear hHeld2; (try simp only [Act.put, List.setIfInBounds_toArray, List.set_cons_zero, List.set_cons_succ]))
            refine take_yes (i := 13) (d := 43) (v := ?_) _ rfl rfl (by kernel_rfl) (by kernel_rfl) (by kernel_rfl) (fun _ _ _ _ h => h) (by rfl) ?_ (by assumption) ?_
            rotate_left 1
            · ((intro w hSw; (try dsimp only at hSw); go_simp) <;> (try with_reducible rfl))
            (try simp only [Act.put, List.setIfInBounds_toArray, List.set_cons_zero, List.set_cons_succ])
            refine wpAnyH_done (by kernel_rfl) ?_ _
            obtain ⟨z0, z1, z2, z3, z4, z5, z6, z7, z8, z9, z10⟩ := hHeld
            go_wp2
            go_roundw
            case rel => exact ⟨i + 1, by omega, by go_num, Lib.hid (by rw [show allB (fun i => !clash p ct cf bay k i) (i + 1) = (allB (fun i => !clash p ct cf bay k i) i && !clash p ct cf bay k i) from rfl, hgood.out, HK.out]; rfl), z0⟩
            case measure => simp [intOf]; omega
          · have HK : Hid ((!clash p ct cf bay k i) = false) := Lib.hid (by simp only [clash, q2, q3]; rfl)
            go_wp2_with fail
            refine wp_gen (fun W0 hW0 => ?_)
            have s0_ : Below w.heap.size w W0 := by rw [hW0]; exact hbr
            have s1_ : W0.cell? ⟨b2, o2 + i * 5, none⟩ = some (.string (cs i)) := by rw [hW0]; exact u0
            have s2_ : W0.cell? ⟨b2, o2 + i * 5 + 1, none⟩ = some (.int .i64 (cr i)) := by rw [hW0]; exact u1
            have s3_ : W0.cell? ⟨b2, o2 + i * 5 + 2, none⟩ = some (.int .i64 (cd i)) := by rw [hW0]; exact u2
            have s4_ : W0.cell? ⟨b2, o2 + i * 5 + 3, none⟩ = some (.int .i64 (ct i)) := by rw [hW0]; exact u3
            have s5_ : W0.cell? ⟨b2, o2 + i * 5 + 4, none⟩ = some (.int .i64 (cf i)) := by rw [hW0]; exact u4
            have s6_ : W0.cell? ⟨b2, o2 + k * 5, none⟩ = some (.string (cs k)) := by rw [hW0]; exact v0
            have s7_ : W0.cell? ⟨b2, o2 + k * 5 + 1, none⟩ = some (.int .i64 (cr k)) := by rw [hW0]; exact v1
            have s8_ : W0.cell? ⟨b2, o2 + k * 5 + 2, none⟩ = some (.int .i64 (cd k)) := by rw [hW0]; exact v2
            have s9_ : W0.cell? ⟨b2, o2 + k * 5 + 3, none⟩ = some (.int .i64 (ct k)) := by rw [hW0]; exact v3
            have s10_ : W0.cell? ⟨b2, o2 + k * 5 + 4, none⟩ = some (.int .i64 (cf k)) := by rw [hW0]; exact v4
            clear hW0
            refine wp_region_held_drew (S := fun w' => Below w.heap.size w w' ∧ w'.cell? ⟨b2, o2 + i * 5, none⟩ = some (.string (cs i)) ∧ w'.cell? ⟨b2, o2 + i * 5 + 1, none⟩ = some (.int .i64 (cr i)) ∧ w'.cell? ⟨b2, o2 + i * 5 + 2, none⟩ = some (.int .i64 (cd i)) ∧ w'.cell? ⟨b2, o2 + i * 5 + 3, none⟩ = some (.int .i64 (ct i)) ∧ w'.cell? ⟨b2, o2 + i * 5 + 4, none⟩ = some (.int .i64 (cf i)) ∧ w'.cell? ⟨b2, o2 + k * 5, none⟩ = some (.string (cs k)) ∧ w'.cell? ⟨b2, o2 + k * 5 + 1, none⟩ = some (.int .i64 (cr k)) ∧ w'.cell? ⟨b2, o2 + k * 5 + 2, none⟩ = some (.int .i64 (cd k)) ∧ w'.cell? ⟨b2, o2 + k * 5 + 3, none⟩ = some (.int .i64 (ct k)) ∧ w'.cell? ⟨b2, o2 + k * 5 + 4, none⟩ = some (.int .i64 (cf k))) (by kernel_rfl) ?_ (fun hHeld => ?_)
            · exact ⟨s0_.drew, s1_, s2_, s3_, s4_, s5_, s6_, s7_, s8_, s9_, s10_⟩
            clear s0_ s1_ s2_ s3_ s4_ s5_ s6_ s7_ s8_ s9_ s10_
            refine take_yes (i := 0) (d := 30) (v := ?_) _ rfl rfl (by kernel_rfl) (by kernel_rfl) (by kernel_rfl) (fun _ _ _ _ h => h) (by rfl) ?_ (by assumption) ?_
            rotate_left 1
            · ((intro w hSw; (try dsimp only at hSw); go_simp) <;> (try with_reducible rfl))
            (try simp only [Act.put, List.setIfInBounds_toArray, List.set_cons_zero, List.set_cons_succ])
            refine take_yes (i := 1) (d := 31) (v := ?_) _ rfl rfl (by kernel_rfl) (by kernel_rfl) (by kernel_rfl) (fun _ _ _ _ h => h) (by rfl) ?_ (by assumption) ?_
            rotate_left 1
            · ((intro w hSw; (try dsimp only at hSw); go_simp) <;> (try with_reducible rfl))
            (try simp only [Act.put, List.setIfInBounds_toArray, List.set_cons_zero, List.set_cons_succ])
            refine take_yes (i := 2) (d := 32) (v := ?_) _ rfl rfl (by kernel_rfl) (by kernel_rfl) (by kernel_rfl) (fun _ _ _ _ h => h) (by rfl) ?_ (by assumption) ?_
            rotate_left 1
            · ((intro w hSw; (try dsimp only at hSw); go_simp) <;> (try with_reducible rfl))
            (try simp only [Act.put, List.setIfInBounds_toArray, List.set_cons_zero, List.set_cons_succ])
            refine take_yes (i := 3) (d := 33) (v := ?_) _ rfl rfl (by kernel_rfl) (by kernel_rfl) (by kernel_rfl) (fun _ _ _ _ h => h) (by rfl) ?_ (by assumption) ?_
            rotate_left 1
            · ((intro w hSw; (try dsimp only at hSw); go_simp) <;> (try with_reducible rfl))
            (try simp only [Act.put, List.setIfInBounds_toArray, List.set_cons_zero, List.set_cons_succ])
            refine take_yes (i := 4) (d := 34) (v := ?_) _ rfl rfl (by kernel_rfl) (by kernel_rfl) (by kernel_rfl) (fun _ _ _ _ h => h) (by rfl) ?_ (by assumption) ?_
            rotate_left 1
            · ((intro w hSw; (try dsimp only at hSw); go_simp) <;> (try with_reducible rfl))
            (try simp only [Act.put, List.setIfInBounds_toArray, List.set_cons_zero, List.set_cons_succ])
            refine take_yes (i := 5) (d := 35) (v := ?_) _ rfl rfl (by kernel_rfl) (by kernel_rfl) (by kernel_rfl) (fun _ _ _ _ h => h) (by rfl) ?_ (by assumption) ?_
            rotate_left 1
            · ((intro w hSw; (try dsimp only at hSw); go_simp) <;> (try with_reducible rfl))
            (try simp only [Act.put, List.setIfInBounds_toArray, List.set_cons_zero, List.set_cons_succ])
            refine take_yes (i := 6) (d := 36) (v := ?_) _ rfl rfl (by kernel_rfl) (by kernel_rfl) (by kernel_rfl) (fun _ _ _ _ h => h) (by rfl) ?_ (by assumption) ?_
            rotate_left 1
            · ((intro w hSw; (try dsimp only at hSw); go_simp) <;> (try with_reducible rfl))
            (try simp only [Act.put, List.setIfInBounds_toArray, List.set_cons_zero, List.set_cons_succ])
            refine take_yes (i := 7) (d := 37) (v := ?_) _ rfl rfl (by kernel_rfl) (by kernel_rfl) (by kernel_rfl) (fun _ _ _ _ h => h) (by rfl) ?_ (by assumption) ?_
            rotate_left 1
            · ((intro w hSw; (try dsimp only at hSw); go_simp) <;> (try with_reducible rfl))
            (try simp only [Act.put, List.setIfInBounds_toArray, List.set_cons_zero, List.set_cons_succ])
            refine take_yes (i := 8) (d := 38) (v := ?_) _ rfl rfl (by kernel_rfl) (by kernel_rfl) (by kernel_rfl) (fun _ _ _ _ h => h) (by rfl) ?_ (by assumption) ?_
            rotate_left 1
            · ((intro w hSw; (try dsimp only at hSw); go_simp) <;> (try with_reducible rfl))
            (try simp only [Act.put, List.setIfInBounds_toArray, List.set_cons_zero, List.set_cons_succ])
            refine take_yes (i := 9) (d := 39) (v := ?_) _ rfl rfl (by kernel_rfl) (by kernel_rfl) (by kernel_rfl) (fun _ _ _ _ h => h) (by rfl) ?_ (by assumption) ?_
            rotate_left 1
            · ((intro w hSw; (try dsimp only at hSw); go_simp) <;> (try with_reducible rfl))
            (try simp only [Act.put, List.setIfInBounds_toArray, List.set_cons_zero, List.set_cons_succ])
            refine take_yes (i := 10) (d := 40) (v := ?_) _ rfl rfl (by kernel_rfl) (by kernel_rfl) (by kernel_rfl) (fun _ _ _ _ h => h) (by rfl) ?_ (by assumption) ?_
            rotate_left 1
            · ((intro w hSw; (try dsimp only at hSw); go_simp) <;> (try with_reducible rfl))
            (try simp only [Act.put, List.setIfInBounds_toArray, List.set_cons_zero, List.set_cons_succ])
            refine take_yes (i := 11) (d := 41) (v := ?_) _ rfl rfl (by kernel_rfl) (by kernel_rfl) (by kernel_rfl) (fun _ _ _ _ h => h) (by rfl) ?_ (by assumption) ?_
            rotate_left 1
            · ((intro w hSw; (try dsimp only at hSw); go_simp) <;> (try with_reducible rfl))
            (try simp only [Act.put, List.setIfInBounds_toArray, List.set_cons_zero, List.set_cons_succ])
            (refine wpAnyH_ready (rs := [12]) (by kernel_rfl) (by simp) ?_; refine AllReadyH.cons rfl (fun K hK => ?_) AllReadyH.nil; go_simp; go_at_call 183; refine (overlap_calls _ _ _ _ _ _ _ _ _ _ _ a0.1 a0.2 a1.1 a1.2 e0.1 e0.2 e1.1 e1.2).mono ?_; simp only [q3]; rintro e wd ⟨rfl, hb⟩; refine hK.out _ _ (by obtain ⟨x0_, x1_, x2_, x3_, x4_, x5_, x6_, x7_, x8_, x9_, x10_⟩ := hHeld; exact ⟨x0_.trans (hb.mono x0_.size), cell_keep hb x1_, cell_keep hb x2_, cell_keep hb x3_, cell_keep hb x4_, cell_keep hb x5_, cell_keep hb x6_, cell_keep hb x7_, cell_keep hb x8_, cell_keep hb x9_, cell_keep hb x10_⟩) (fun hHeld2 => ?_); clear hK K hHeld hb; have hHeld := hHeld2; clear hHeld2; (try simp only [Act.put, List.setIfInBounds_toArray, List.set_cons_zero, List.set_cons_succ]))
            refine take_yes (i := 13) (d := 43) (v := ?_) _ rfl rfl (by kernel_rfl) (by kernel_rfl) (by kernel_rfl) (fun _ _ _ _ h => h) (by rfl) ?_ (by assumption) ?_
            rotate_left 1
            · ((intro w hSw; (try dsimp only at hSw); go_simp) <;> (try with_reducible rfl))
            (try simp only [Act.put, List.setIfInBounds_toArray, List.set_cons_zero, List.set_cons_succ])
            refine wpAnyH_done (by kernel_rfl) ?_ _
            obtain ⟨z0, z1, z2, z3, z4, z5, z6, z7, z8, z9, z10⟩ := hHeld
            go_wp2
            go_ret
            exact ⟨ret_bool (by rw [← HRES.out]; unfold canB; rw [allB_no hlt HK.out, Bool.and_false]), z0⟩
      · obtain rfl : i = m := by omega
        go_wp2
        go_ret
        exact ⟨ret_bool (by rw [← HRES.out]; unfold canB; rw [q1, hgood.out]; rfl), hbr⟩
theorem IntRow.take {w : World} {A : Option Addr} {n m : Nat} {p : Nat → Int} (h : IntRow w A n p) (hm : m ≤ n) : IntRow w A m p := fun h0 => by
  obtain ⟨b, o, hA, hall⟩ := h (by omega)
  exact ⟨b, o, hA, fun i hi => hall i (by omega)⟩
def placeB (br bd cr cd : Nat → Int) (p : Nat → Int) (ct cf : Nat → Int) (n k : Nat) : Bool := inB (p k) 0 ((n : Int) - 1) && canB br bd cr cd p ct cf k k (p k).toNat
def placesB (br bd cr cd : Nat → Int) (p : Nat → Int) (ct cf : Nat → Int) (n n2 n3 : Nat) : Bool := n3 == n2 && allB (placeB br bd cr cd p ct cf n) n3
theorem sizeBays_calls (A : Option Addr) (n c : Nat) (w : World) (hn : n ≤ 1048576) :
    Calls Try.prog 93 #[.slice A n c] w fun e w' => e = .returned (.int .i64 n) ∧ w = w' := by
  go_enter Try.func93, Try.ntmps93
  go_wp2
  go_ret
  exact ⟨rfl, rfl⟩
set_option maxHeartbeats 4000000 in
theorem arePossible_calls (A : Option Addr) (n c : Nat) (bs : Nat → ByteArray) (br bd : Nat → Int) (B : Option Addr) (n2 c2 : Nat) (cs : Nat → ByteArray) (cr cd ct cf : Nat → Int) (P : Option Addr) (n3 cp : Nat) (p : Nat → Int) (w : World) (h : BayRow w A n bs br bd) (h2 : CastingRow w B n2 cs cr cd ct cf) (h3 : IntRow w P n3 p) (ho : CastOk n2 ct cf) (hn : n ≤ 1048576) (hn2 : n2 ≤ 1048576) (hn3 : n3 ≤ 1048576) (hcp : n3 ≤ cp) (hcm : cp ≤ maxLen) :
    Calls Try.prog 91 #[.slice A n c, .slice B n2 c2, .slice P n3 cp] w fun e w' => e = .returned (.bool (placesB br bd cr cd p ct cf n n2 n3)) ∧ Below w.heap.size w w' := by
  have H := Lib.hid h
  have H2 := Lib.hid h2
  have H3 := Lib.hid h3
  have HO := Lib.hid ho
  unfold maxLen at hcm
  clear h h2 h3 ho
  by_cases hne : n3 = n2
  · subst hne
    generalize hres : placesB br bd cr cd p ct cf n n3 n3 = R
    have HRES := Lib.hid hres
    clear hres
    go_enter Try.func91, Try.ntmps91
    go_wp2
    go_loopw [16] (fun i wr => ∃ k : Nat, k ≤ n3 ∧ i = .int .i64 k ∧ Hid (allB (placeB br bd cr cd p ct cf n) k = true) ∧ Below w.heap.size w wr) (fun i _ => n3 - (intOf i).toNat)
    case atStart => exact ⟨0, by omega, rfl, rfl, Below.refl _ _⟩
    case round =>
      obtain ⟨k, hk, rfl, hgood, hbr⟩ := hrel
      by_cases hlt : k < n3
      · obtain ⟨b3, o3, rfl, hrow3⟩ := H3.out (by omega)
        have c0 : wr.cell? ⟨b3, o3 + k, none⟩ = some (.int .i64 (p k)) := (hbr.cell (p := ⟨b3, o3 + k, none⟩) (cell_lt (hrow3 k hlt))).trans (hrow3 k hlt)
        have HR3 := Lib.hid hrow3
        clear hrow3
        cases q1 : inB (p k) 0 ((n : Int) - 1)
        · have HK : Hid (placeB br bd cr cd p ct cf n k = false) := Lib.hid (by simp [placeB, q1])
          go_wp2_with (first | (go_at_call 93; refine (sizeBays_calls _ _ _ _ hn).mono ?_; rintro e w1 ⟨rfl, rfl⟩) | (go_at_call 92; refine (within_calls _ _ _ _).mono ?_; rintro e w1 ⟨rfl, rfl⟩))
          go_ret
          exact ⟨ret_bool (by rw [← HRES.out]; unfold placesB; rw [allB_no hlt HK.out, Bool.and_false]), hbr⟩
        · obtain ⟨z0, z1⟩ := inB_iff.1 q1
          obtain ⟨bay, hbay⟩ := Int.eq_ofNat_of_zero_le z0
          have hbn : bay < n := by omega
          have HBAY := Lib.hid hbay
          have HC := Lib.hid (show ∀ cq, Calls Try.prog 147 #[.slice A n c, .slice B n3 c2, .slice (some ⟨b3, o3, none⟩) k cq, .int .i64 k, .int .i64 (p k)] wr (fun e w' => e = .returned (.bool (canB br bd cr cd p ct cf k k (p k).toNat)) ∧ Below wr.heap.size wr w') from fun cq => by
            have q := canBe_calls A n c bs br bd B n3 c2 cs cr cd ct cf (some ⟨b3, o3, none⟩) k cq p k bay wr (H.out.below hbr (Nat.le_refl _)) (H2.out.below hbr (Nat.le_refl _)) ((IntRow.below H3.out hbr (Nat.le_refl _)).take (by omega)) HO.out hlt hbn (Nat.le_refl _) hn hn3
            rw [hbay, Int.toNat_natCast]
            exact q)
          clear hbay
          cases q2 : canB br bd cr cd p ct cf k k (p k).toNat
          · have HK : Hid (placeB br bd cr cd p ct cf n k = false) := Lib.hid (by simp [placeB, q2])
            go_wp2_with (first | (go_at_call 93; refine (sizeBays_calls _ _ _ _ hn).mono ?_; rintro e w1 ⟨rfl, rfl⟩) | (go_at_call 92; refine (within_calls _ _ _ _).mono ?_; rintro e w1 ⟨rfl, rfl⟩) | (go_at_call 147; with_reducible refine (HC.out _).mono ?_; rw [q2]; rintro e w1 ⟨rfl, hb⟩; have hbr2 := hbr.trans (hb.mono hbr.size); clear hb))
            go_ret
            exact ⟨ret_bool (by rw [← HRES.out]; unfold placesB; rw [allB_no hlt HK.out, Bool.and_false]), hbr2⟩
          · have HK : Hid (placeB br bd cr cd p ct cf n k = true) := Lib.hid (by simp [placeB, q1, q2])
            go_wp2_with (first | (go_at_call 93; refine (sizeBays_calls _ _ _ _ hn).mono ?_; rintro e w1 ⟨rfl, rfl⟩) | (go_at_call 92; refine (within_calls _ _ _ _).mono ?_; rintro e w1 ⟨rfl, rfl⟩) | (go_at_call 147; with_reducible refine (HC.out _).mono ?_; rw [q2]; rintro e w1 ⟨rfl, hb⟩; have hbr2 := hbr.trans (hb.mono hbr.size); clear hb))
            go_roundw
            case rel => exact ⟨k + 1, by omega, by go_num, Lib.hid (by rw [show allB (placeB br bd cr cd p ct cf n) (k + 1) = (allB (placeB br bd cr cd p ct cf n) k && placeB br bd cr cd p ct cf n k) from rfl, hgood.out, HK.out]; rfl), hbr2⟩
            case measure => simp [intOf]; omega
      · obtain rfl : k = n3 := by omega
        go_wp2
        go_ret
        exact ⟨ret_bool (by rw [← HRES.out]; unfold placesB; rw [beq_self_eq_true, hgood.out]; rfl), hbr⟩
  · have hz : placesB br bd cr cd p ct cf n n2 n3 = false := by unfold placesB; rw [beq_eq_false_iff_ne.2 hne]; rfl
    rw [hz]
    have hne2 : decide (n3 = n2) = false := decide_eq_false hne
    have hne3 : (n3 == n2) = false := beq_eq_false_iff_ne.2 hne
    have hne4 : (((n3 : Nat) : Int) == ((n2 : Nat) : Int)) = false := beq_eq_false_iff_ne.2 (by omega)
    go_enter Try.func91, Try.ntmps91
    go_wp2
    go_ret
    exact ⟨rfl, Below.refl _ _⟩
set_option maxHeartbeats 4000000 in
theorem l16Possible_calls (A : Option Addr) (n c : Nat) (bs : Nat → ByteArray) (br bd : Nat → Int) (B : Option Addr) (n2 c2 : Nat) (cs : Nat → ByteArray) (cr cd ct cf : Nat → Int) (P : Option Addr) (m cp : Nat) (p : Nat → Int) (k bay : Nat) (w : World) (h : BayRow w A n bs br bd) (h2 : CastingRow w B n2 cs cr cd ct cf) (h3 : IntRow w P m p) (ho : CastOk n2 ct cf) (hk : k < n2) (hb : bay < n) (hm : k ≤ m) (hn : n ≤ 1048576) (hn2 : n2 ≤ 1048576) (hm2 : m ≤ 1048576) :
    Calls Try.prog 143 #[.slice A n c, .slice B n2 c2, .slice P m cp, .int .i64 k, .int .i64 bay] w fun e w' => e = .returned (.bool (canB br bd cr cd p ct cf k k bay)) ∧ ∃ q, w' = w.drewN q := by
  obtain ⟨b, o, rfl, hrow⟩ := h (by omega)
  obtain ⟨b2, o2, rfl, hrow2⟩ := h2 (by omega)
  obtain ⟨x0, x1, x2⟩ := hrow bay hb
  obtain ⟨y0, y1, y2, y3, y4⟩ := hrow2 k hk
  have HR2 := Lib.hid hrow2
  have H3 := Lib.hid h3
  have HO := Lib.hid ho
  generalize hres : canB br bd cr cd p ct cf k k bay = R
  have HRES := Lib.hid hres
  have hcf := fun q => sfits_calls b (o + bay * 3) b2 (o2 + k * 5) _ _ _ _ (w.drewN q) x1 x2 y1 y2
  clear h h2 h3 ho hrow hrow2 hres
  cases q1 : fitB (br bay) (bd bay) (cr k) (cd k)
  · rw [q1] at hcf
    have HCF := Lib.hid hcf
    clear hcf
    go_enter Try.func143, Try.ntmps143
    go_wp2_with fail
    go_quiet ((go_at_call 177; with_reducible exact quiet_more (HCF.out _)))
    go_wp2
    go_ret
    exact ⟨ret_bool (by rw [← HRES.out]; simp [canB, q1]), _, rfl⟩
  · rw [q1] at hcf
    have HCF := Lib.hid hcf
    clear hcf
    go_enter Try.func143, Try.ntmps143
    go_wp2_with fail
    go_quiet ((go_at_call 177; with_reducible exact quiet_more (HCF.out _)))
    go_wp2
    go_loopw [11] (fun i wr => ∃ i' : Nat, i' ≤ k ∧ i = .int .i64 i' ∧ Hid (allB (fun i => !clash p ct cf bay k i) i' = true) ∧ Hid (∃ q, wr = w.drewN q)) (fun i _ => k - (intOf i).toNat)
    case atStart => exact ⟨0, by omega, rfl, rfl, Lib.hid ⟨_, rfl⟩⟩
    case round =>
      obtain ⟨i, hi, rfl, hgood, hwr⟩ := hrel
      by_cases hlt : i < k
      · obtain ⟨b3, o3, rfl, hrow3⟩ := H3.out (by omega)
        have c0 : wr.cell? ⟨b3, o3 + i, none⟩ = some (.int .i64 (p i)) := by obtain ⟨q, hq⟩ := hwr.out; rw [hq]; exact hrow3 i (by omega)
        obtain ⟨u0, u1, u2, u3, u4⟩ : CastingAt wr b2 (o2 + i * 5) (cs i) (cr i) (cd i) (ct i) (cf i) := by obtain ⟨q, hq⟩ := hwr.out; rw [hq]; exact HR2.out i (by omega)
        obtain ⟨v0, v1, v2, v3, v4⟩ : CastingAt wr b2 (o2 + k * 5) (cs k) (cr k) (cd k) (ct k) (cf k) := by obtain ⟨q, hq⟩ := hwr.out; rw [hq]; exact HR2.out k hk
        have hin2 : i < n2 := by omega
        have him : i < m := by omega
        obtain ⟨a0, a1⟩ := HO.out i (by omega)
        obtain ⟨e0, e1⟩ := HO.out k hk
        have HR3 := Lib.hid hrow3
        clear hrow3
        cases q2 : (p i == (bay : Int))
        · have HK : Hid ((!clash p ct cf bay k i) = true) := Lib.hid (by simp [clash, q2])
          have HCK := Lib.hid (show ∀ q, Calls Try.prog 86 #[.pointer (some ⟨b2, o2 + k * 5, none⟩)] (wr.drewN q) (fun e w' => e = .returned (.int .i64 (strip (ct k) (cf k))) ∧ ∃ q2, w' = (wr.drewN q).drewN q2) from fun q => sstrip_calls b2 (o2 + k * 5) _ _ (wr.drewN q) e0.1 e0.2 e1.1 e1.2 v3 v4)
          have HCI := Lib.hid (show ∀ q, Calls Try.prog 86 #[.pointer (some ⟨b2, o2 + i * 5, none⟩)] (wr.drewN q) (fun e w' => e = .returned (.int .i64 (strip (ct i) (cf i))) ∧ ∃ q2, w' = (wr.drewN q).drewN q2) from fun q => sstrip_calls b2 (o2 + i * 5) _ _ (wr.drewN q) a0.1 a0.2 a1.1 a1.2 u3 u4)
          go_wp2_with fail
          go_quiet (first | (go_at_call 86; with_reducible exact quiet_more (HCK.out _)) | (go_at_call 86; with_reducible exact quiet_more (HCI.out _)))
          go_wp2
          go_roundw
          case rel => exact ⟨i + 1, by omega, by go_num, Lib.hid (by rw [show allB (fun i => !clash p ct cf bay k i) (i + 1) = (allB (fun i => !clash p ct cf bay k i) i && !clash p ct cf bay k i) from rfl, hgood.out, HK.out]; rfl), Lib.hid (by obtain ⟨q, hq⟩ := hwr.out; rw [hq]; exact ⟨_, World.drewN_drewN _ _ _⟩)⟩
          case measure => simp [intOf]; omega
        · cases p1 : decide (cf i < strip (ct k) (cf k))
          · have HK : Hid ((!clash p ct cf bay k i) = true) := Lib.hid (by simp only [clash, overB, p1, Bool.false_and, Bool.and_false, Bool.not_false])
            have HCK := Lib.hid (show ∀ q, Calls Try.prog 86 #[.pointer (some ⟨b2, o2 + k * 5, none⟩)] (wr.drewN q) (fun e w' => e = .returned (.int .i64 (strip (ct k) (cf k))) ∧ ∃ q2, w' = (wr.drewN q).drewN q2) from fun q => sstrip_calls b2 (o2 + k * 5) _ _ (wr.drewN q) e0.1 e0.2 e1.1 e1.2 v3 v4)
            have HCI := Lib.hid (show ∀ q, Calls Try.prog 86 #[.pointer (some ⟨b2, o2 + i * 5, none⟩)] (wr.drewN q) (fun e w' => e = .returned (.int .i64 (strip (ct i) (cf i))) ∧ ∃ q2, w' = (wr.drewN q).drewN q2) from fun q => sstrip_calls b2 (o2 + i * 5) _ _ (wr.drewN q) a0.1 a0.2 a1.1 a1.2 u3 u4)
            go_wp2_with fail
            go_quiet (first | (go_at_call 86; with_reducible exact quiet_more (HCK.out _)) | (go_at_call 86; with_reducible exact quiet_more (HCI.out _)))
            go_wp2
            go_roundw
            case rel => exact ⟨i + 1, by omega, by go_num, Lib.hid (by rw [show allB (fun i => !clash p ct cf bay k i) (i + 1) = (allB (fun i => !clash p ct cf bay k i) i && !clash p ct cf bay k i) from rfl, hgood.out, HK.out]; rfl), Lib.hid (by obtain ⟨q, hq⟩ := hwr.out; rw [hq]; exact ⟨_, World.drewN_drewN _ _ _⟩)⟩
            case measure => simp [intOf]; omega
          · cases p2 : decide (cf k < strip (ct i) (cf i))
            · have HK : Hid ((!clash p ct cf bay k i) = true) := Lib.hid (by simp only [clash, overB, p2, Bool.and_false, Bool.not_false])
              have HCK := Lib.hid (show ∀ q, Calls Try.prog 86 #[.pointer (some ⟨b2, o2 + k * 5, none⟩)] (wr.drewN q) (fun e w' => e = .returned (.int .i64 (strip (ct k) (cf k))) ∧ ∃ q2, w' = (wr.drewN q).drewN q2) from fun q => sstrip_calls b2 (o2 + k * 5) _ _ (wr.drewN q) e0.1 e0.2 e1.1 e1.2 v3 v4)
              have HCI := Lib.hid (show ∀ q, Calls Try.prog 86 #[.pointer (some ⟨b2, o2 + i * 5, none⟩)] (wr.drewN q) (fun e w' => e = .returned (.int .i64 (strip (ct i) (cf i))) ∧ ∃ q2, w' = (wr.drewN q).drewN q2) from fun q => sstrip_calls b2 (o2 + i * 5) _ _ (wr.drewN q) a0.1 a0.2 a1.1 a1.2 u3 u4)
              go_wp2_with fail
              go_quiet (first | (go_at_call 86; with_reducible exact quiet_more (HCK.out _)) | (go_at_call 86; with_reducible exact quiet_more (HCI.out _)))
              go_wp2
              go_roundw
              case rel => exact ⟨i + 1, by omega, by go_num, Lib.hid (by rw [show allB (fun i => !clash p ct cf bay k i) (i + 1) = (allB (fun i => !clash p ct cf bay k i) i && !clash p ct cf bay k i) from rfl, hgood.out, HK.out]; rfl), Lib.hid (by obtain ⟨q, hq⟩ := hwr.out; rw [hq]; exact ⟨_, World.drewN_drewN _ _ _⟩)⟩
              case measure => simp [intOf]; omega
            · have HK : Hid ((!clash p ct cf bay k i) = false) := Lib.hid (by simp only [clash, overB, q2, p1, p2, Bool.and_self, Bool.not_true])
              have HCK := Lib.hid (show ∀ q, Calls Try.prog 86 #[.pointer (some ⟨b2, o2 + k * 5, none⟩)] (wr.drewN q) (fun e w' => e = .returned (.int .i64 (strip (ct k) (cf k))) ∧ ∃ q2, w' = (wr.drewN q).drewN q2) from fun q => sstrip_calls b2 (o2 + k * 5) _ _ (wr.drewN q) e0.1 e0.2 e1.1 e1.2 v3 v4)
              have HCI := Lib.hid (show ∀ q, Calls Try.prog 86 #[.pointer (some ⟨b2, o2 + i * 5, none⟩)] (wr.drewN q) (fun e w' => e = .returned (.int .i64 (strip (ct i) (cf i))) ∧ ∃ q2, w' = (wr.drewN q).drewN q2) from fun q => sstrip_calls b2 (o2 + i * 5) _ _ (wr.drewN q) a0.1 a0.2 a1.1 a1.2 u3 u4)
              go_wp2_with fail
              go_quiet (first | (go_at_call 86; with_reducible exact quiet_more (HCK.out _)) | (go_at_call 86; with_reducible exact quiet_more (HCI.out _)))
              go_wp2
              go_ret
              exact ⟨ret_bool (by rw [← HRES.out]; unfold canB; rw [allB_no hlt HK.out, Bool.and_false]), by obtain ⟨q, hq⟩ := hwr.out; rw [hq]; exact ⟨_, World.drewN_drewN _ _ _⟩⟩
      · obtain rfl : i = k := by omega
        go_wp2
        go_ret
        exact ⟨ret_bool (by rw [← HRES.out]; unfold canB; rw [q1, hgood.out]; rfl), hwr.out⟩
set_option maxHeartbeats 4000000 in
theorem l16Check_calls (A : Option Addr) (n c : Nat) (bs : Nat → ByteArray) (br bd : Nat → Int) (B : Option Addr) (n2 c2 : Nat) (cs : Nat → ByteArray) (cr cd ct cf : Nat → Int) (P : Option Addr) (n3 cp : Nat) (p : Nat → Int) (w : World) (h : BayRow w A n bs br bd) (h2 : CastingRow w B n2 cs cr cd ct cf) (h3 : IntRow w P n3 p) (ho : CastOk n2 ct cf) (hn : n ≤ 1048576) (hn2 : n2 ≤ 1048576) (hn3 : n3 ≤ 1048576) :
    Calls Try.prog 84 #[.slice A n c, .slice B n2 c2, .slice P n3 cp] w fun e w' => e = .returned (.bool (placesB br bd cr cd p ct cf n n2 n3)) ∧ ∃ q, w' = w.drewN q := by
  have H := Lib.hid h
  have H2 := Lib.hid h2
  have H3 := Lib.hid h3
  have HO := Lib.hid ho
  clear h h2 h3 ho
  by_cases hne : n3 = n2
  · subst hne
    generalize hres : placesB br bd cr cd p ct cf n n3 n3 = R
    have HRES := Lib.hid hres
    clear hres
    go_enter Try.func84, Try.ntmps84
    go_wp2
    go_loopw [7] (fun i wr => ∃ k : Nat, k ≤ n3 ∧ i = .int .i64 k ∧ Hid (allB (placeB br bd cr cd p ct cf n) k = true) ∧ Hid (∃ q, wr = w.drewN q)) (fun i _ => n3 - (intOf i).toNat)
    case atStart => exact ⟨0, by omega, rfl, rfl, Lib.hid ⟨0, rfl⟩⟩
    case round =>
      obtain ⟨k, hk, rfl, hgood, hwr⟩ := hrel
      by_cases hlt : k < n3
      · obtain ⟨b3, o3, rfl, hrow3⟩ := H3.out (by omega)
        have c0 : wr.cell? ⟨b3, o3 + k, none⟩ = some (.int .i64 (p k)) := by obtain ⟨q, hq⟩ := hwr.out; rw [hq]; exact hrow3 k hlt
        have HR3 := Lib.hid hrow3
        clear hrow3
        have HCI := Lib.hid (show Calls Try.prog 85 #[.int .i64 (p k), .int .i64 0, .int .i64 ((n : Int) - 1)] wr (fun e w' => e = .returned (.bool (inB (p k) 0 ((n : Int) - 1))) ∧ wr = w') from in_calls _ _ _ _)
        cases q1 : inB (p k) 0 ((n : Int) - 1)
        · rw [q1] at HCI
          have HK : Hid (placeB br bd cr cd p ct cf n k = false) := Lib.hid (by simp [placeB, q1])
          go_wp2_with (go_at_call 85; with_reducible refine HCI.out.mono ?_; rintro e w1 ⟨rfl, rfl⟩)
          go_ret
          exact ⟨ret_bool (by rw [← HRES.out]; unfold placesB; rw [allB_no hlt HK.out, Bool.and_false]), hwr.out⟩
        · obtain ⟨z0, z1⟩ := inB_iff.1 q1
          rw [q1] at HCI
          obtain ⟨bay, hbay⟩ := Int.eq_ofNat_of_zero_le z0
          have hbn : bay < n := by omega
          have HCP := Lib.hid (show Calls Try.prog 143 #[.slice A n c, .slice B n3 c2, .slice (some ⟨b3, o3, none⟩) n3 cp, .int .i64 k, .int .i64 (p k)] wr (fun e w' => e = .returned (.bool (canB br bd cr cd p ct cf k k (p k).toNat)) ∧ ∃ q, w' = wr.drewN q) from by
            obtain ⟨q0, hq0⟩ := hwr.out
            have q := l16Possible_calls A n c bs br bd B n3 c2 cs cr cd ct cf (some ⟨b3, o3, none⟩) n3 cp p k bay wr (by rw [hq0]; exact H.out) (by rw [hq0]; exact H2.out) (by rw [hq0]; exact H3.out) HO.out hlt hbn (Nat.le_of_lt hlt) hn hn2 hn3
            rw [hbay, Int.toNat_natCast]
            exact q)
          clear hbay
          cases q2 : canB br bd cr cd p ct cf k k (p k).toNat
          · rw [q2] at HCP
            have HK : Hid (placeB br bd cr cd p ct cf n k = false) := Lib.hid (by simp [placeB, q2])
            go_wp2_with (first | (go_at_call 85; with_reducible refine HCI.out.mono ?_; rintro e w1 ⟨rfl, rfl⟩) | (go_at_call 143; with_reducible refine HCP.out.mono ?_; rintro e w1 ⟨rfl, qq, rfl⟩))
            go_ret
            exact ⟨ret_bool (by rw [← HRES.out]; unfold placesB; rw [allB_no hlt HK.out, Bool.and_false]), (by obtain ⟨q, hq⟩ := hwr.out; rw [hq]; exact ⟨_, World.drewN_drewN _ _ _⟩)⟩
          · rw [q2] at HCP
            have HK : Hid (placeB br bd cr cd p ct cf n k = true) := Lib.hid (by simp [placeB, q1, q2])
            go_wp2_with (first | (go_at_call 85; with_reducible refine HCI.out.mono ?_; rintro e w1 ⟨rfl, rfl⟩) | (go_at_call 143; with_reducible refine HCP.out.mono ?_; rintro e w1 ⟨rfl, qq, rfl⟩))
            go_roundw
            case rel => exact ⟨k + 1, by omega, by go_num, Lib.hid (by rw [show allB (placeB br bd cr cd p ct cf n) (k + 1) = (allB (placeB br bd cr cd p ct cf n) k && placeB br bd cr cd p ct cf n k) from rfl, hgood.out, HK.out]; rfl), Lib.hid (by obtain ⟨q, hq⟩ := hwr.out; rw [hq]; exact ⟨_, World.drewN_drewN _ _ _⟩)⟩
            case measure => simp [intOf]; omega
      · obtain rfl : k = n3 := by omega
        go_wp2
        go_ret
        exact ⟨ret_bool (by rw [← HRES.out]; unfold placesB; rw [beq_self_eq_true, hgood.out]; rfl), hwr.out⟩
  · have hz : placesB br bd cr cd p ct cf n n2 n3 = false := by unfold placesB; rw [beq_eq_false_iff_ne.2 hne]; rfl
    rw [hz]
    have hne2 : decide (n3 = n2) = false := decide_eq_false hne
    have hne3 : (n3 == n2) = false := beq_eq_false_iff_ne.2 hne
    have hne4 : (((n3 : Nat) : Int) == ((n2 : Nat) : Int)) = false := beq_eq_false_iff_ne.2 (by omega)
    go_enter Try.func84, Try.ntmps84
    go_wp2
    go_ret
    exact ⟨rfl, 0, rfl⟩
end Go.Proofs.Ytaanlkdpconfiaa
