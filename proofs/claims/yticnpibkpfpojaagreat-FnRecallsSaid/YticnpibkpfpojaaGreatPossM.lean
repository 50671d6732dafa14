/- Whether melts are possible with ingots: in the program. -/
import Derived.Test.YticnpibkpfpojaaGreatEnough
import Derived.Deep.RegionHeld3
namespace Go.Proofs.YticnpibkpfpojaaGreat
set_option linter.unusedVariables false
set_option linter.unusedSimpArgs false
open Go.RowKit

set_option maxRecDepth 20000 in
set_option maxHeartbeats 2000000 in
theorem possible1_calls (A : Option Addr) (n c : Nat) (s0 : Nat → ByteArray) (a1 a2 a3 a4 : Nat → Int) (s : ByteArray) (AK : Option Addr) (q CK : Nat) (ss : Nat → ByteArray) (ma : Int) (G : Nat) (w : World) (h : IngotRow w A n s0 a1 a2 a3 a4) (hn : n ≤ 1048576) (hs : Srt s0 n) (h2 : StrRow w AK q ss) (hq : q ≤ 16) (hall : allHave s0 n ss q = true) (hb : IngB n a1 a3 a4) (hG : Blk w G 24 #[.slice A n c]) :
    Calls Tryz.prog 64 #[.agg #[.string s, .slice AK q CK, .int .i64 ma], .pointer (some ⟨G, 0, none⟩)] w fun e w' => e = .returned (.bool (decide (mostV s0 n a1 ss q < ma))) ∧ Below w.heap.size w w' := by
  have HAL := Lib.hid ((Below.refl w.heap.size w).alloc (Nat.le_refl _) (.cells #[.string s, .slice AK q CK, .int .i64 ma] 66))
  have HC := Lib.hid (fun (W : World) (hbr : Below w.heap.size w W) => mostFrom_calls A n c s0 a1 a2 a3 a4 s AK q CK ss ma W (h.below hbr (Nat.le_refl _)) hn hs (h2.keep hbr) hq hall hb)
  have hGw := hG.lt
  have HGG := Lib.hid hG
  generalize mostV s0 n a1 ss q = M at *
  clear h h2 hs hall hb hG
  go_enter Tryz.func64, Tryz.ntmps64
  go_wp2_with fail
  refine wp_gen (fun W0 hW0 => ?_)
  have s0_ : Below w.heap.size w W0 := by rw [hW0]; exact HAL.out
  have s1_ : Blk W0 w.heap.size 66 #[.string s, .slice AK q CK, .int .i64 ma] := by rw [hW0]; exact Blk.new _ _ _
  have s2_ : Blk W0 G 24 #[.slice A n c] := by rw [hW0]; exact HGG.out.keep HAL.out
  have s3_ : W0.cell? ⟨w.heap.size, 0, none⟩ = some (.string s) := (s1_.cell 0).trans rfl
  have s4_ : W0.cell? ⟨w.heap.size, 1, none⟩ = some (.slice AK q CK) := (s1_.cell 1).trans rfl
  have s5_ : W0.cell? ⟨w.heap.size, 2, none⟩ = some (.int .i64 ma) := (s1_.cell 2).trans rfl
  have s6_ : W0.cell? ⟨G, 0, none⟩ = some (.slice A n c) := (s2_.cell 0).trans rfl
  have s7_ : w.heap.size < W0.heap.size := by rw [hW0]; simp
  clear hW0
  refine wp_region_held_drew (S := fun w' => Below w.heap.size w w' ∧ Blk w' w.heap.size 66 #[.string s, .slice AK q CK, .int .i64 ma] ∧ Blk w' G 24 #[.slice A n c] ∧ w'.cell? ⟨w.heap.size, 0, none⟩ = some (.string s) ∧ w'.cell? ⟨w.heap.size, 1, none⟩ = some (.slice AK q CK) ∧ w'.cell? ⟨w.heap.size, 2, none⟩ = some (.int .i64 ma) ∧ w'.cell? ⟨G, 0, none⟩ = some (.slice A n c) ∧ w.heap.size < w'.heap.size) (by kernel_rfl) ?_ (fun hHeld => ?_)
  · exact ⟨s0_.drew, s1_, s2_, s3_, s4_, s5_, s6_, s7_⟩
  clear s0_ s1_ s2_ s3_ s4_ s5_ s6_ s7_
  refine take_yes (i := 0) (d := 4) (v := ?_) _ rfl rfl (by kernel_rfl) (by kernel_rfl) (by kernel_rfl) (fun _ _ _ _ h => h) (by rfl) ?_ (by assumption) ?_
  rotate_left 1
  · ((intro w hSw; (try dsimp only at hSw); go_simp) <;> (try with_reducible rfl))
  (try simp only [Act.put, List.setIfInBounds_toArray, List.set_cons_zero, List.set_cons_succ])
  refine take_yes (i := 1) (d := 5) (v := ?_) _ rfl rfl (by kernel_rfl) (by kernel_rfl) (by kernel_rfl) (fun _ _ _ _ h => h) (by rfl) ?_ (by assumption) ?_
  rotate_left 1
  · ((intro w hSw; (try dsimp only at hSw); go_simp) <;> (try with_reducible rfl))
  (try simp only [Act.put, List.setIfInBounds_toArray, List.set_cons_zero, List.set_cons_succ])
  refine take_yes (i := 2) (d := 6) (v := ?_) _ rfl rfl (by kernel_rfl) (by kernel_rfl) (by kernel_rfl) (fun _ _ _ _ h => h) (by rfl) ?_ (by assumption) ?_
  rotate_left 1
  · ((intro w hSw; (try dsimp only at hSw); go_simp) <;> (try with_reducible rfl))
  (try simp only [Act.put, List.setIfInBounds_toArray, List.set_cons_zero, List.set_cons_succ])
  refine take_yes (i := 3) (d := 7) (v := ?_) _ rfl rfl (by kernel_rfl) (by kernel_rfl) (by kernel_rfl) (fun _ _ _ _ h => h) (by rfl) ?_ (by assumption) ?_
  rotate_left 1
  · ((intro w hSw; (try dsimp only at hSw); go_simp) <;> (try with_reducible rfl))
  (try simp only [Act.put, List.setIfInBounds_toArray, List.set_cons_zero, List.set_cons_succ])
  (refine wpAnyH_ready (rs := [4]) (by kernel_rfl) (by simp) ?_; refine AllReadyH.cons rfl (fun K hK => ?_) AllReadyH.nil; go_simp; go_at_call 65; refine (HC.out _ (And.left hHeld)).mono ?_; rintro e wd ⟨rfl, hb⟩; refine hK.out _ _ (by obtain ⟨x0_, x1_, x2_, x3_, x4_, x5_, x6_, x7_⟩ := hHeld; exact ⟨x0_.trans (hb.mono x0_.size), x1_.keep hb, x2_.keep hb, cell_keep hb x3_, cell_keep hb x4_, cell_keep hb x5_, cell_keep hb x6_, Nat.lt_of_lt_of_le x7_ hb.size⟩) (fun hHeld2 => ?_); clear hK K hHeld hb; have hHeld := hHeld2; clear hHeld2; (try simp only [Act.put, List.setIfInBounds_toArray, List.set_cons_zero, List.set_cons_succ]))
  refine take_yes (i := 5) (d := 9) (v := ?_) _ rfl rfl (by kernel_rfl) (by kernel_rfl) (by kernel_rfl) (fun _ _ _ _ h => h) (by rfl) ?_ (by assumption) ?_
  rotate_left 1
  · ((intro w hSw; (try dsimp only at hSw); go_simp) <;> (try with_reducible rfl))
  (try simp only [Act.put, List.setIfInBounds_toArray, List.set_cons_zero, List.set_cons_succ])
  refine take_yes (i := 6) (d := 3) (v := ?_) _ rfl rfl (by kernel_rfl) (by kernel_rfl) (by kernel_rfl) (fun _ _ _ _ h => h) (by rfl) ?_ (by assumption) ?_
  rotate_left 1
  · ((intro w hSw; (try dsimp only at hSw); go_simp) <;> (try with_reducible rfl))
  (try simp only [Act.put, List.setIfInBounds_toArray, List.set_cons_zero, List.set_cons_succ])
  refine wpAnyH_done (by kernel_rfl) ?_ _
  obtain ⟨z0, z1, z2, z3, z4, z5, z6, z7⟩ := hHeld
  go_wp2
  go_ret
  exact ⟨rfl, z0⟩
noncomputable def possB (s0 : Nat → ByteArray) (n : Nat) (a1 : Nat → Int) (g : Nat → MeltV) (m : Nat) : Bool := existB s0 n g m && !anyB (fun i => decide (mostV s0 n a1 (g i).ss (g i).n < (g i).ma)) m
set_option maxHeartbeats 2000000 in
theorem possible_calls (A : Option Addr) (n c : Nat) (s0 : Nat → ByteArray) (a1 a2 a3 a4 : Nat → Int) (B : Option Addr) (m d : Nat) (g : Nat → MeltV) (w : World) (h : IngotRow w A n s0 a1 a2 a3 a4) (hn : n ≤ 1048576) (hs : Srt s0 n) (h2 : MeltRow w B m g) (hm : m ≤ 1048576) (hq : ∀ i, i < m → (g i).n ≤ 16) (hb : IngB n a1 a3 a4) :
    Calls Tryz.prog 40 #[.slice A n c, .slice B m d] w fun e w' => e = .returned (.bool (possB s0 n a1 g m)) ∧ Below w.heap.size w w' := by
  have hal := (Below.refl w.heap.size w).alloc (Nat.le_refl _) (.cells #[.slice A n c] 24)
  have HX := Blk.new w 24 #[.slice A n c]
  have HAL := Lib.hid hal
  have HE := Lib.hid (exist_calls A n c s0 a1 a2 a3 a4 B m d g _ (h.below hal (Nat.le_refl _)) hn hs (h2.keep hal) hm (fun i hi => by have := hq i hi; omega))
  have HXX := Lib.hid HX
  cases q1 : existB s0 n g m
  · rw [show possB s0 n a1 g m = false by unfold possB; rw [q1]; rfl]
    rw [q1] at HE
    clear hal HX h h2 hs hq hb
    go_enter Tryz.func40, Tryz.ntmps40
    go_wp2_with (go_at_call 29; refine HE.out.mono ?_; rintro e w1 ⟨rfl, hb1⟩; have hbr := HAL.out.trans (hb1.mono HAL.out.size); clear hb1)
    go_ret
    exact ⟨rfl, hbr⟩
  · rw [show possB s0 n a1 g m = !anyB (fun i => decide (mostV s0 n a1 (g i).ss (g i).n < (g i).ma)) m by unfold possB; rw [q1]; rfl]
    rw [q1] at HE
    have HC := Lib.hid (fun (W : World) (hbr : Below w.heap.size w W) (hG : Blk W w.heap.size 24 #[.slice A n c]) => anyPoss B m d g w.heap.size (fun i => decide (mostV s0 n a1 (g i).ss (g i).n < (g i).ma)) W (h2.keep hbr) hm (fun k W2 AK CK hk hb2 hst => possible1_calls A n c s0 a1 a2 a3 a4 (g k).id AK _ CK (g k).ss (g k).ma _ W2 ((h.below hbr (Nat.le_refl _)).below hb2 (Nat.le_refl _)) hn hs hst (hq k hk) (allB_of q1 k hk) hb (hG.keep hb2)))
    clear hal HX h h2 hs hq hb
    go_enter Tryz.func40, Tryz.ntmps40
    go_wp2_with (first | (go_at_call 29; refine HE.out.mono ?_; rintro e w1 ⟨rfl, hb1⟩; have hbr := HAL.out.trans (hb1.mono HAL.out.size); have hG := Lib.hid (HXX.out.keep hb1); clear hb1) | (go_at_call 41; refine (HC.out _ hbr hG.out).mono ?_; rintro e w2 ⟨rfl, hb2⟩; have hbr2 := hbr.trans (hb2.mono hbr.size); clear hb2))
    go_ret
    exact ⟨rfl, hbr2⟩
end Go.Proofs.YticnpibkpfpojaaGreat
