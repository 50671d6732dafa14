/- Profiles of another size, in the program and in the reference. -/
import Derived.Test.YtaanlkdpconfiaaProfC
namespace Go.Proofs.Ytaanlkdpconfiaa
set_option linter.unusedVariables false
set_option linter.unusedSimpArgs false
open Go.RowKit

theorem cell_far {W : World} {a q : Addr} {u v : Value} (h : W.cell? a = some u) (hp : q.block ≠ a.block) : (W.setCell q v).cell? a = some u := (Go.World.cell?_setCell_far W q a v hp).trans h
theorem blk_grown {w w' : World} {g : Nat} {t : TypeId} {cs : Array Value} {row : Option Nat} (h : Blk w g t cs) (hg : w.grownBy w' row) (hne : some g ≠ row) : Blk w' g t cs := (hg.block g h.lt hne).trans h
def rs (f : Nat → Int) (num den : Int) : Nat → Int := fun i => nr (f i * num) den
theorem nearest_below (a b : Int) (w : World) (hb : 1 ≤ b) (hb2 : b ≤ 1000000000000000000) (h1 : -4000000000000000000 ≤ a) (h2 : a ≤ 4000000000000000000) :
    Calls Try.prog 170 #[.int .i64 a, .int .i64 b] w fun e w' => e = .returned (.int .i64 (nr a b)) ∧ Below w.heap.size w w' :=
  (nearest_calls a b w hb hb2 h1 h2).mono fun e w' h => by
    obtain ⟨he, n, rfl⟩ := h
    exact ⟨he, below_drewN (Below.refl _ _) n⟩
/-- a block of three numbers -/
def Blk3 (w : World) (g : Nat) : Prop := ∃ a b c : Int, Blk w g 177 #[.int .i64 a, .int .i64 b, .int .i64 c]
theorem Blk3.keep {w w' : World} {g : Nat} (h : Blk3 w g) (hb : Below w.heap.size w w') : Blk3 w' g := by
  obtain ⟨a, b, c, h⟩ := h
  exact ⟨a, b, c, h.keep hb⟩
theorem Blk3.set3 {w : World} {g : Nat} (h : Blk3 w g) (x y z : Int) : Blk3 (((w.setCell ⟨g, 0, none⟩ (.int .i64 x)).setCell ⟨g, 1, none⟩ (.int .i64 y)).setCell ⟨g, 2, none⟩ (.int .i64 z)) g := by
  obtain ⟨a, b, c, h⟩ := h
  exact ⟨x, y, z, ((h.set_ 0 _).set_ 1 _).set_ 2 _⟩
set_option maxRecDepth 20000 in
set_option maxHeartbeats 4000000 in
theorem scale1_calls (kk x y z num den : Int) (g1 g2 : Nat) (w : World) (c1 : w.cell? ⟨g1, 0, none⟩ = some (.int .i64 num)) (c2 : w.cell? ⟨g2, 0, none⟩ = some (.int .i64 den)) (hx : 0 ≤ x ∧ x ≤ 300000) (hy : 0 ≤ y ∧ y ≤ 300000) (hz : 0 ≤ z ∧ z ≤ 300000) (hn : 1 ≤ num ∧ num ≤ 2000) (hd : 1 ≤ den ∧ den ≤ 2000) :
    Calls Try.prog 169 #[.int .i64 kk, .agg #[.int .i64 x, .int .i64 y, .int .i64 z], .pointer (some ⟨g1, 0, none⟩), .pointer (some ⟨g2, 0, none⟩)] w fun e w' => e = .returned (.agg #[.int .i64 (nr (x * num) den), .int .i64 (nr (y * num) den), .int .i64 (nr (z * num) den)]) ∧ Below w.heap.size w w' := by
  have hb : ∀ u : Int, 0 ≤ u → u ≤ 300000 → 0 ≤ u * num ∧ u * num ≤ 600000000 := fun u h0 h1 =>
    ⟨Int.mul_nonneg h0 (by omega), Int.le_trans (Int.mul_le_mul h1 hn.2 (by omega) (by omega)) (by omega)⟩
  have bx := hb x hx.1 hx.2
  have byy := hb y hy.1 hy.2
  have bz := hb z hz.1 hz.2
  have e1 : IntKind.i64.wrap (x * num) = x * num := IntWalk.i64_in _ ⟨by omega, by omega⟩
  have e2 : IntKind.i64.wrap (y * num) = y * num := IntWalk.i64_in _ ⟨by omega, by omega⟩
  have e3 : IntKind.i64.wrap (z * num) = z * num := IntWalk.i64_in _ ⟨by omega, by omega⟩
  have hl1 := cell_lt c1
  have hl2 := cell_lt c2
  have d1 := cell_al2 c1
  have d2 := cell_al2 c2
  clear hb
  go_enter Try.func169, Try.ntmps169
  go_wp2_with fail
  have n1 : w.heap.size + 1 ≠ g1 := by omega
  have n2 : w.heap.size + 1 ≠ g2 := by omega
  have n3 : w.heap.size + 1 ≠ w.heap.size := by omega
  refine wp_gen (fun W0 hW0 => ?_)
  have s0_ : Below w.heap.size w W0 := by rw [hW0]; exact ((Below.refl _ _).alloc (Nat.le_refl _) _).alloc (by simp) _
  have s1_ : W0.cell? ⟨g1, 0, none⟩ = some (.int .i64 num) := by rw [hW0]; exact d1 _ _
  have s2_ : W0.cell? ⟨g2, 0, none⟩ = some (.int .i64 den) := by rw [hW0]; exact d2 _ _
  have s3_ : W0.cell? ⟨w.heap.size, 0, none⟩ = some (.int .i64 x) := by simp [hW0]
  have s4_ : W0.cell? ⟨w.heap.size, 1, none⟩ = some (.int .i64 y) := by simp [hW0]
  have s5_ : W0.cell? ⟨w.heap.size, 2, none⟩ = some (.int .i64 z) := by simp [hW0]
  have s6_ : Blk3 W0 (w.heap.size + 1) := by rw [hW0]; exact ⟨0, 0, 0, Blk.new2 w _ _ _⟩
  clear hW0
  refine wp_region_held_drew (S := fun w' => Below w.heap.size w w' ∧ w'.cell? ⟨g1, 0, none⟩ = some (.int .i64 num) ∧ w'.cell? ⟨g2, 0, none⟩ = some (.int .i64 den) ∧ w'.cell? ⟨w.heap.size, 0, none⟩ = some (.int .i64 x) ∧ w'.cell? ⟨w.heap.size, 1, none⟩ = some (.int .i64 y) ∧ w'.cell? ⟨w.heap.size, 2, none⟩ = some (.int .i64 z) ∧ Blk3 w' (w.heap.size + 1)) (by kernel_rfl) ?_ (fun hHeld => ?_)
  · exact ⟨s0_.drew, s1_, s2_, s3_, s4_, s5_, s6_⟩
  clear s0_ s1_ s2_ s3_ s4_ s5_ s6_
  refine take_yes (i := 0) (d := 7) (v := ?_) _ rfl rfl (by kernel_rfl) (by kernel_rfl) (by kernel_rfl) (fun _ _ _ _ h => h) (by rfl) ?_ (by assumption) ?_
  rotate_left 1
  · ((intro w hSw; (try dsimp only at hSw); go_simp) <;> (try with_reducible rfl))
  (try simp only [Act.put, List.setIfInBounds_toArray, List.set_cons_zero, List.set_cons_succ])
  refine take_yes (i := 1) (d := 8) (v := ?_) _ rfl rfl (by kernel_rfl) (by kernel_rfl) (by kernel_rfl) (fun _ _ _ _ h => h) (by rfl) ?_ (by assumption) ?_
  rotate_left 1
  · ((intro w hSw; (try dsimp only at hSw); go_simp) <;> (try with_reducible rfl))
  (try simp only [Act.put, List.setIfInBounds_toArray, List.set_cons_zero, List.set_cons_succ])
  refine take_yes (i := 2) (d := 9) (v := ?_) _ rfl rfl (by kernel_rfl) (by kernel_rfl) (by kernel_rfl) (fun _ _ _ _ h => h) (by rfl) ?_ (by assumption) ?_
  rotate_left 1
  · ((intro w hSw; (try dsimp only at hSw); go_simp) <;> (try with_reducible rfl))
  (try simp only [Act.put, List.setIfInBounds_toArray, List.set_cons_zero, List.set_cons_succ])
  refine take_yes (i := 3) (d := 10) (v := ?_) _ rfl rfl (by kernel_rfl) (by kernel_rfl) (by kernel_rfl) (fun _ _ _ _ h => h) (by rfl) ?_ (by assumption) ?_
  rotate_left 1
  · ((intro w hSw; (try dsimp only at hSw); go_simp) <;> (try with_reducible rfl))
  (try simp only [Act.put, List.setIfInBounds_toArray, List.set_cons_zero, List.set_cons_succ])
  refine take_yes (i := 4) (d := 11) (v := ?_) _ rfl rfl (by kernel_rfl) (by kernel_rfl) (by kernel_rfl) (fun _ _ _ _ h => h) (by rfl) ?_ (by assumption) ?_
  rotate_left 1
  · ((intro w hSw; (try dsimp only at hSw); go_simp) <;> (try with_reducible rfl))
  (try simp only [Act.put, List.setIfInBounds_toArray, List.set_cons_zero, List.set_cons_succ])
  refine take_yes (i := 6) (d := 13) (v := ?_) _ rfl rfl (by kernel_rfl) (by kernel_rfl) (by kernel_rfl) (fun _ _ _ _ h => h) (by rfl) ?_ (by assumption) ?_
  rotate_left 1
  · ((intro w hSw; (try dsimp only at hSw); go_simp) <;> (try with_reducible rfl))
  (try simp only [Act.put, List.setIfInBounds_toArray, List.set_cons_zero, List.set_cons_succ])
  refine take_yes (i := 7) (d := 14) (v := ?_) _ rfl rfl (by kernel_rfl) (by kernel_rfl) (by kernel_rfl) (fun _ _ _ _ h => h) (by rfl) ?_ (by assumption) ?_
  rotate_left 1
  · ((intro w hSw; (try dsimp only at hSw); go_simp) <;> (try with_reducible rfl))
  (try simp only [Act.put, List.setIfInBounds_toArray, List.set_cons_zero, List.set_cons_succ])
  refine take_yes (i := 8) (d := 15) (v := ?_) _ rfl rfl (by kernel_rfl) (by kernel_rfl) (by kernel_rfl) (fun _ _ _ _ h => h) (by rfl) ?_ (by assumption) ?_
  rotate_left 1
  · ((intro w hSw; (try dsimp only at hSw); go_simp) <;> (try with_reducible rfl))
  (try simp only [Act.put, List.setIfInBounds_toArray, List.set_cons_zero, List.set_cons_succ])
  refine take_yes (i := 9) (d := 16) (v := ?_) _ rfl rfl (by kernel_rfl) (by kernel_rfl) (by kernel_rfl) (fun _ _ _ _ h => h) (by rfl) ?_ (by assumption) ?_
  rotate_left 1
  · ((intro w hSw; (try dsimp only at hSw); go_simp) <;> (try with_reducible rfl))
  (try simp only [Act.put, List.setIfInBounds_toArray, List.set_cons_zero, List.set_cons_succ])
  refine take_yes (i := 10) (d := 17) (v := ?_) _ rfl rfl (by kernel_rfl) (by kernel_rfl) (by kernel_rfl) (fun _ _ _ _ h => h) (by rfl) ?_ (by assumption) ?_
  rotate_left 1
  · ((intro w hSw; (try dsimp only at hSw); go_simp) <;> (try with_reducible rfl))
  (try simp only [Act.put, List.setIfInBounds_toArray, List.set_cons_zero, List.set_cons_succ])
  refine take_yes (i := 12) (d := 19) (v := ?_) _ rfl rfl (by kernel_rfl) (by kernel_rfl) (by kernel_rfl) (fun _ _ _ _ h => h) (by rfl) ?_ (by assumption) ?_
  rotate_left 1
  · ((intro w hSw; (try dsimp only at hSw); go_simp) <;> (try with_reducible rfl))
  (try simp only [Act.put, List.setIfInBounds_toArray, List.set_cons_zero, List.set_cons_succ])
  refine take_yes (i := 13) (d := 20) (v := ?_) _ rfl rfl (by kernel_rfl) (by kernel_rfl) (by kernel_rfl) (fun _ _ _ _ h => h) (by rfl) ?_ (by assumption) ?_
  rotate_left 1
  · ((intro w hSw; (try dsimp only at hSw); go_simp) <;> (try with_reducible rfl))
  (try simp only [Act.put, List.setIfInBounds_toArray, List.set_cons_zero, List.set_cons_succ])
  refine take_yes (i := 14) (d := 21) (v := ?_) _ rfl rfl (by kernel_rfl) (by kernel_rfl) (by kernel_rfl) (fun _ _ _ _ h => h) (by rfl) ?_ (by assumption) ?_
  rotate_left 1
  · ((intro w hSw; (try dsimp only at hSw); go_simp) <;> (try with_reducible rfl))
  (try simp only [Act.put, List.setIfInBounds_toArray, List.set_cons_zero, List.set_cons_succ])
  refine take_yes (i := 15) (d := 22) (v := ?_) _ rfl rfl (by kernel_rfl) (by kernel_rfl) (by kernel_rfl) (fun _ _ _ _ h => h) (by rfl) ?_ (by assumption) ?_
  rotate_left 1
  · ((intro w hSw; (try dsimp only at hSw); go_simp) <;> (try with_reducible rfl))
  (try simp only [Act.put, List.setIfInBounds_toArray, List.set_cons_zero, List.set_cons_succ])
  refine take_yes (i := 16) (d := 23) (v := ?_) _ rfl rfl (by kernel_rfl) (by kernel_rfl) (by kernel_rfl) (fun _ _ _ _ h => h) (by rfl) ?_ (by assumption) ?_
  rotate_left 1
  · ((intro w hSw; (try dsimp only at hSw); go_simp) <;> (try with_reducible rfl))
  (try simp only [Act.put, List.setIfInBounds_toArray, List.set_cons_zero, List.set_cons_succ])
  (refine wpAnyH_ready (rs := [5]) (by kernel_rfl) (by simp) ?_; refine AllReadyH.cons rfl (fun K hK => ?_) AllReadyH.nil; go_simp; go_at_call 170; refine (nearest_below _ _ _ (by omega) (by omega) (by omega) (by omega)).mono ?_; rintro e wd ⟨rfl, hb⟩; refine hK.out _ _ (by obtain ⟨x0_, x1_, x2_, x3_, x4_, x5_, x6_⟩ := hHeld; exact ⟨x0_.trans (hb.mono x0_.size), cell_keep hb x1_, cell_keep hb x2_, cell_keep hb x3_, cell_keep hb x4_, cell_keep hb x5_, x6_.keep hb⟩) (fun hHeld2 => ?_); clear hK K hHeld hb; have hHeld := hHeld2; clear hHeld2; (try simp only [Act.put, List.setIfInBounds_toArray, List.set_cons_zero, List.set_cons_succ]))
  (refine wpAnyH_ready (rs := [11]) (by kernel_rfl) (by simp) ?_; refine AllReadyH.cons rfl (fun K hK => ?_) AllReadyH.nil; go_simp; go_at_call 170; refine (nearest_below _ _ _ (by omega) (by omega) (by omega) (by omega)).mono ?_; rintro e wd ⟨rfl, hb⟩; refine hK.out _ _ (by obtain ⟨x0_, x1_, x2_, x3_, x4_, x5_, x6_⟩ := hHeld; exact ⟨x0_.trans (hb.mono x0_.size), cell_keep hb x1_, cell_keep hb x2_, cell_keep hb x3_, cell_keep hb x4_, cell_keep hb x5_, x6_.keep hb⟩) (fun hHeld2 => ?_); clear hK K hHeld hb; have hHeld := hHeld2; clear hHeld2; (try simp only [Act.put, List.setIfInBounds_toArray, List.set_cons_zero, List.set_cons_succ]))
  (refine wpAnyH_ready (rs := [17]) (by kernel_rfl) (by simp) ?_; refine AllReadyH.cons rfl (fun K hK => ?_) AllReadyH.nil; go_simp; go_at_call 170; refine (nearest_below _ _ _ (by omega) (by omega) (by omega) (by omega)).mono ?_; rintro e wd ⟨rfl, hb⟩; refine hK.out _ _ (by obtain ⟨x0_, x1_, x2_, x3_, x4_, x5_, x6_⟩ := hHeld; exact ⟨x0_.trans (hb.mono x0_.size), cell_keep hb x1_, cell_keep hb x2_, cell_keep hb x3_, cell_keep hb x4_, cell_keep hb x5_, x6_.keep hb⟩) (fun hHeld2 => ?_); clear hK K hHeld hb; have hHeld := hHeld2; clear hHeld2; (try simp only [Act.put, List.setIfInBounds_toArray, List.set_cons_zero, List.set_cons_succ]))
  refine take_yes (i := 18) (d := 25) (v := ?_) _ rfl rfl (by kernel_rfl) (by kernel_rfl) (by kernel_rfl) (fun _ _ _ _ h => h) (by rfl) ?_ (by assumption) ?_
  rotate_left 1
  · ((intro w hSw; (try dsimp only at hSw); go_simp) <;> (try with_reducible rfl))
  (try simp only [Act.put, List.setIfInBounds_toArray, List.set_cons_zero, List.set_cons_succ])
  (refine wpAnyH_ready (rs := [19]) (by kernel_rfl) (by simp) ?_; refine AllReadyH.cons rfl (fun K hK => ?_) AllReadyH.nil; obtain ⟨x0_, x1_, x2_, x3_, x4_, x5_, x6_⟩ := hHeld; have hst := x6_.set3 (nr (x * num) den) (nr (y * num) den) (nr (z * num) den); obtain ⟨ra_, rb_, rc_, hrb⟩ := id x6_; have r0 := (hrb.cell 0).trans rfl; have r1 := (hrb.cell 1).trans rfl; have r2 := (hrb.cell 2).trans rfl; have rf := hrb.frozen; have HST := Lib.hid (hrb); clear hrb; go_simp; refine hK.out _ _ (by exact ⟨((x0_.setCell (by simp) _).setCell (by simp) _).setCell (by simp) _, cell_far (cell_far (cell_far x1_ n1) n1) n1, cell_far (cell_far (cell_far x2_ n2) n2) n2, cell_far (cell_far (cell_far x3_ n3) n3) n3, cell_far (cell_far (cell_far x4_ n3) n3) n3, cell_far (cell_far (cell_far x5_ n3) n3) n3, hst⟩) (fun hHeld2 => ?_); clear hK K x0_ x1_ x2_ x3_ x4_ x5_ x6_; (try clear hOld); have hHeld := hHeld2; clear hHeld2; (try simp only [Act.put, List.setIfInBounds_toArray, List.set_cons_zero, List.set_cons_succ]))
  refine wpAnyH_done (by kernel_rfl) ?_ _
  obtain ⟨z0, z1, z2, z3, z4, z5, z6⟩ := hHeld
  clear z1 z2 z3 z4 z5 z6 hst r0 r1 r2 rf
  have hfin := Lib.hid (((HST.out.set_ 0 (.int .i64 (nr (x * num) den))).set_ 1 (.int .i64 (nr (y * num) den))).set_ 2 (.int .i64 (nr (z * num) den)))
  clear HST
  have hz0 := Lib.hid z0
  clear z0
  go_wp2
  have y0 := (hfin.out.cell 0).trans rfl
  have y1 := (hfin.out.cell 1).trans rfl
  have y2 := (hfin.out.cell 2).trans rfl
  refine bodyPost_ret (v := .agg #[.int .i64 (nr (x * num) den), .int .i64 (nr (y * num) den), .int .i64 (nr (z * num) den)]) ?_ rfl ⟨rfl, hz0.out⟩
  generalize ((wd.setCell ⟨w.heap.size + 1, 0, none⟩ (.int .i64 (nr (x * num) den))).setCell ⟨w.heap.size + 1, 1, none⟩ (.int .i64 (nr (y * num) den))).setCell ⟨w.heap.size + 1, 2, none⟩ (.int .i64 (nr (z * num) den)) = wf at y0 y1 y2 ⊢
  simp [results, Try.results169, go_sem, y0, y1, y2]
end Go.Proofs.Ytaanlkdpconfiaa
