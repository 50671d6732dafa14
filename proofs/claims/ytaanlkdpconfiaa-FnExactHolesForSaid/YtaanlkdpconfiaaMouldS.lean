/- Profiles of another size, MouldFor and CastFrom (the reference's way). -/
import Derived.Test.YtaanlkdpconfiaaMould
namespace Go.Proofs.Ytaanlkdpconfiaa
set_option linter.unusedVariables false
set_option linter.unusedSimpArgs false
open Go.RowKit

set_option maxRecDepth 20000 in
set_option maxHeartbeats 8000000 in
theorem l07Sized_calls (bb oo : Nat) (s : ByteArray) (A : Option Addr) (n c : Nat) (p q h : Nat → Int) (num den : Int) (w : World) (k0 : w.cell? ⟨bb, oo, none⟩ = some (.string s)) (k1 : w.cell? ⟨bb, oo + 1, none⟩ = some (.slice A n c)) (hr : RingRow w A n p q h) (hn0 : 0 < n) (hn : n ≤ 32) (hx : ∀ i, i < n → (0 ≤ p i ∧ p i ≤ 300000) ∧ (0 ≤ q i ∧ q i ≤ 300000) ∧ (0 ≤ h i ∧ h i ≤ 300000)) (hnum : 1 ≤ num ∧ num ≤ 2000) (hden : 1 ≤ den ∧ den ≤ 2000) :
    Calls Try.prog 127 #[.pointer (some ⟨bb, oo, none⟩), .int .i64 num, .int .i64 den] w fun e w' => (∃ G c', e = .returned (.agg #[.string s, .slice (some ⟨G, 0, none⟩) n c']) ∧ RingOwn w' (some ⟨G, 0, none⟩) n (rs p num den) (rs q num den) (rs h num den) G ∧ w.heap.size ≤ G) ∧ Below w.heap.size w w' := by
  obtain ⟨i0, hi, hz0, hz1, hz2⟩ := info_parts Ring_info
  have HR := Lib.hid hr
  have HX := Lib.hid hx
  have K1 := Lib.hid k1
  have hmul : ∀ u : Int, 0 ≤ u → u ≤ 300000 → 0 ≤ u * num ∧ u * num ≤ 600000000 := fun u h0 h1 =>
    ⟨Int.mul_nonneg h0 (by omega), Int.le_trans (Int.mul_le_mul h1 hnum.2 (by omega) (by omega)) (by omega)⟩
  have HMUL := Lib.hid hmul
  have k0a := cell_al k0
  have k0b := cell_al2 k0
  clear hr hx hmul k1
  go_enter Try.func127, Try.ntmps127
  go_wp2_with fail
  have hst := Lib.hid (show Below w.heap.size w ((w.alloc (.cells #[.string ⟨#[]⟩, .slice none 0 0] 84)).alloc (.cells #[.string s, .slice none 0 0] 84)) from ((Below.refl w.heap.size w).alloc (Nat.le_refl _) _).alloc (by simp) _)
  clear k0a k0b k0
  go_loopw [8] (fun i wr => ∃ (k : Nat) (v : Value), k ≤ n ∧ i = .int .i64 k ∧ Hid (wr.ownsRow (w.heap.size + 1 + 1) 177 3 v k (ringsL (rs p num den) (rs q num den) (rs h num den) k)) ∧ Hid (Blk wr (w.heap.size + 1) 84 #[.string s, v]) ∧ Hid (Blk wr w.heap.size 84 #[.string ⟨#[]⟩, .slice none 0 0]) ∧ w.heap.size + 1 + 1 ≤ wr.heap.size ∧ Below w.heap.size w wr) (fun i _ => n - (intOf i).toNat)
  case atStart => exact ⟨0, _, by omega, rfl, Lib.hid (World.ownsRow_nil _ _ _ _), Lib.hid (Blk.new2 _ _ _ _), Lib.hid ((Blk.new _ _ _).alloc _), by simp, hst.out⟩
  case round =>
    obtain ⟨k, v, hk, rfl, hown, hob, hzb, hsz, hbr⟩ := hrel
    have k1 := cell_keep hbr K1.out
    by_cases hlt : k < n
    · obtain ⟨b, o, rfl, hrow⟩ := HR.out (by omega)
      obtain ⟨u0, u1, u2⟩ := (hrow k hlt).below hbr (Nat.le_refl _)
      obtain ⟨hx1, hx2, hx3⟩ := HX.out k hlt
      have bx := HMUL.out _ hx1.1 hx1.2
      have byy := HMUL.out _ hx2.1 hx2.2
      have bz := HMUL.out _ hx3.1 hx3.2
      have e1 : IntKind.i64.wrap (p k * num) = p k * num := IntWalk.i64_in _ ⟨by omega, by omega⟩
      have e2 : IntKind.i64.wrap (q k * num) = q k * num := IntWalk.i64_in _ ⟨by omega, by omega⟩
      have e3 : IntKind.i64.wrap (h k * num) = h k * num := IntWalk.i64_in _ ⟨by omega, by omega⟩
      have HR2 := Lib.hid hrow
      have HLT := Lib.hid hown.out.lt
      have n3 : w.heap.size + 1 ≠ wr.heap.size := by omega
      have n4 : w.heap.size + 1 < wr.heap.size := by omega
      clear hrow
      go_wp2_with fail
      refine wp_gen (fun W0 hW0 => ?_)
      have s0_ : Below w.heap.size w W0 := by rw [hW0]; exact hbr.alloc hbr.size _
      have s1_ : W0.cell? ⟨wr.heap.size, 0, none⟩ = some (.int .i64 (p k)) := by simp [hW0]
      have s2_ : W0.cell? ⟨wr.heap.size, 1, none⟩ = some (.int .i64 (q k)) := by simp [hW0]
      have s3_ : W0.cell? ⟨wr.heap.size, 2, none⟩ = some (.int .i64 (h k)) := by simp [hW0]
      have s4_ : wr.heap.size < W0.heap.size := by simp [hW0]
      have s5_ : Blk W0 w.heap.size 84 #[.string ⟨#[]⟩, .slice none 0 0] := by rw [hW0]; exact hzb.out.alloc _
      have HO0 : Hid (W0.ownsRow (w.heap.size + 1 + 1) 177 3 v k (ringsL (rs p num den) (rs q num den) (rs h num den) k)) := Lib.hid (by rw [hW0]; exact hown.out.alloc _)
      have HB0 : Hid (Blk W0 (w.heap.size + 1) 84 #[.string s, v]) := Lib.hid (by rw [hW0]; exact hob.out.alloc _)
      have o1 : W0.cell? ⟨w.heap.size + 1, 1, none⟩ = some v := (HB0.out.cell 1).trans rfl
      have o1a := cell_al (show W0.drew.cell? ⟨w.heap.size + 1, 1, none⟩ = some v from o1)
      have o1b := cell_al o1
      clear hW0
      refine wp_region_held_drew (S := fun w' => Below w.heap.size w w' ∧ w'.cell? ⟨wr.heap.size, 0, none⟩ = some (.int .i64 (p k)) ∧ w'.cell? ⟨wr.heap.size, 1, none⟩ = some (.int .i64 (q k)) ∧ w'.cell? ⟨wr.heap.size, 2, none⟩ = some (.int .i64 (h k)) ∧ wr.heap.size < w'.heap.size ∧ Blk w' w.heap.size 84 #[.string ⟨#[]⟩, .slice none 0 0]) (by kernel_rfl) ?_ (fun hHeld => ?_)
      · exact ⟨s0_.drew, s1_, s2_, s3_, s4_, s5_⟩
      clear s0_ s1_ s2_ s3_ s4_ s5_
      refine take_yes (i := 0) (d := 31) (v := ?_) _ rfl rfl (by kernel_rfl) (by kernel_rfl) (by kernel_rfl) (fun _ _ _ _ h => h) (by rfl) ?_ (by assumption) ?_
      rotate_left 1
      · ((intro w hSw; (try dsimp only at hSw); go_simp) <;> (try with_reducible rfl))
      (try simp only [Act.put, List.setIfInBounds_toArray, List.set_cons_zero, List.set_cons_succ])
      refine take_yes (i := 2) (d := 33) (v := ?_) _ rfl rfl (by kernel_rfl) (by kernel_rfl) (by kernel_rfl) (fun _ _ _ _ h => h) (by rfl) ?_ (by assumption) ?_
      rotate_left 1
      · ((intro w hSw; (try dsimp only at hSw); go_simp) <;> (try with_reducible rfl))
      (try simp only [Act.put, List.setIfInBounds_toArray, List.set_cons_zero, List.set_cons_succ])
      refine take_yes (i := 3) (d := 34) (v := ?_) _ rfl rfl (by kernel_rfl) (by kernel_rfl) (by kernel_rfl) (fun _ _ _ _ h => h) (by rfl) ?_ (by assumption) ?_
      rotate_left 1
      · ((intro w hSw; (try dsimp only at hSw); go_simp) <;> (try with_reducible rfl))
      (try simp only [Act.put, List.setIfInBounds_toArray, List.set_cons_zero, List.set_cons_succ])
      refine take_yes (i := 4) (d := 35) (v := ?_) _ rfl rfl (by kernel_rfl) (by kernel_rfl) (by kernel_rfl) (fun _ _ _ _ h => h) (by rfl) ?_ (by assumption) ?_
      rotate_left 1
      · ((intro w hSw; (try dsimp only at hSw); go_simp) <;> (try with_reducible rfl))
      (try simp only [Act.put, List.setIfInBounds_toArray, List.set_cons_zero, List.set_cons_succ])
      refine take_yes (i := 5) (d := 36) (v := ?_) _ rfl rfl (by kernel_rfl) (by kernel_rfl) (by kernel_rfl) (fun _ _ _ _ h => h) (by rfl) ?_ (by assumption) ?_
      rotate_left 1
      · ((intro w hSw; (try dsimp only at hSw); go_simp) <;> (try with_reducible rfl))
      (try simp only [Act.put, List.setIfInBounds_toArray, List.set_cons_zero, List.set_cons_succ])
      refine take_yes (i := 6) (d := 37) (v := ?_) _ rfl rfl (by kernel_rfl) (by kernel_rfl) (by kernel_rfl) (fun _ _ _ _ h => h) (by rfl) ?_ (by assumption) ?_
      rotate_left 1
      · ((intro w hSw; (try dsimp only at hSw); go_simp) <;> (try with_reducible rfl))
      (try simp only [Act.put, List.setIfInBounds_toArray, List.set_cons_zero, List.set_cons_succ])
      refine take_yes (i := 8) (d := 39) (v := ?_) _ rfl rfl (by kernel_rfl) (by kernel_rfl) (by kernel_rfl) (fun _ _ _ _ h => h) (by rfl) ?_ (by assumption) ?_
      rotate_left 1
      · ((intro w hSw; (try dsimp only at hSw); go_simp) <;> (try with_reducible rfl))
      (try simp only [Act.put, List.setIfInBounds_toArray, List.set_cons_zero, List.set_cons_succ])
      refine take_yes (i := 9) (d := 40) (v := ?_) _ rfl rfl (by kernel_rfl) (by kernel_rfl) (by kernel_rfl) (fun _ _ _ _ h => h) (by rfl) ?_ (by assumption) ?_
      rotate_left 1
      · ((intro w hSw; (try dsimp only at hSw); go_simp) <;> (try with_reducible rfl))
      (try simp only [Act.put, List.setIfInBounds_toArray, List.set_cons_zero, List.set_cons_succ])
      refine take_yes (i := 10) (d := 41) (v := ?_) _ rfl rfl (by kernel_rfl) (by kernel_rfl) (by kernel_rfl) (fun _ _ _ _ h => h) (by rfl) ?_ (by assumption) ?_
      rotate_left 1
      · ((intro w hSw; (try dsimp only at hSw); go_simp) <;> (try with_reducible rfl))
      (try simp only [Act.put, List.setIfInBounds_toArray, List.set_cons_zero, List.set_cons_succ])
      refine take_yes (i := 11) (d := 42) (v := ?_) _ rfl rfl (by kernel_rfl) (by kernel_rfl) (by kernel_rfl) (fun _ _ _ _ h => h) (by rfl) ?_ (by assumption) ?_
      rotate_left 1
      · ((intro w hSw; (try dsimp only at hSw); go_simp) <;> (try with_reducible rfl))
      (try simp only [Act.put, List.setIfInBounds_toArray, List.set_cons_zero, List.set_cons_succ])
      refine take_yes (i := 12) (d := 43) (v := ?_) _ rfl rfl (by kernel_rfl) (by kernel_rfl) (by kernel_rfl) (fun _ _ _ _ h => h) (by rfl) ?_ (by assumption) ?_
      rotate_left 1
      · ((intro w hSw; (try dsimp only at hSw); go_simp) <;> (try with_reducible rfl))
      (try simp only [Act.put, List.setIfInBounds_toArray, List.set_cons_zero, List.set_cons_succ])
      refine take_yes (i := 14) (d := 45) (v := ?_) _ rfl rfl (by kernel_rfl) (by kernel_rfl) (by kernel_rfl) (fun _ _ _ _ h => h) (by rfl) ?_ (by assumption) ?_
      rotate_left 1
      · ((intro w hSw; (try dsimp only at hSw); go_simp) <;> (try with_reducible rfl))
      (try simp only [Act.put, List.setIfInBounds_toArray, List.set_cons_zero, List.set_cons_succ])
      refine take_yes (i := 15) (d := 46) (v := ?_) _ rfl rfl (by kernel_rfl) (by kernel_rfl) (by kernel_rfl) (fun _ _ _ _ h => h) (by rfl) ?_ (by assumption) ?_
      rotate_left 1
      · ((intro w hSw; (try dsimp only at hSw); go_simp) <;> (try with_reducible rfl))
      (try simp only [Act.put, List.setIfInBounds_toArray, List.set_cons_zero, List.set_cons_succ])
      refine take_yes (i := 16) (d := 47) (v := ?_) _ rfl rfl (by kernel_rfl) (by kernel_rfl) (by kernel_rfl) (fun _ _ _ _ h => h) (by rfl) ?_ (by assumption) ?_
      rotate_left 1
      · ((intro w hSw; (try dsimp only at hSw); go_simp) <;> (try with_reducible rfl))
      (try simp only [Act.put, List.setIfInBounds_toArray, List.set_cons_zero, List.set_cons_succ])
      refine take_yes (i := 17) (d := 48) (v := ?_) _ rfl rfl (by kernel_rfl) (by kernel_rfl) (by kernel_rfl) (fun _ _ _ _ h => h) (by rfl) ?_ (by assumption) ?_
      rotate_left 1
      · ((intro w hSw; (try dsimp only at hSw); go_simp) <;> (try with_reducible rfl))
      (try simp only [Act.put, List.setIfInBounds_toArray, List.set_cons_zero, List.set_cons_succ])
      refine take_yes (i := 18) (d := 49) (v := ?_) _ rfl rfl (by kernel_rfl) (by kernel_rfl) (by kernel_rfl) (fun _ _ _ _ h => h) (by rfl) ?_ (by assumption) ?_
      rotate_left 1
      · ((intro w hSw; (try dsimp only at hSw); go_simp) <;> (try with_reducible rfl))
      (try simp only [Act.put, List.setIfInBounds_toArray, List.set_cons_zero, List.set_cons_succ])
      refine wpAnyH_ready (rs := [1, 7]) (by kernel_rfl) (by simp) ?_; refine AllReadyH.cons rfl (fun K hK => ?_) (AllReadyH.cons rfl (fun K hK => ?_) AllReadyH.nil)
      · go_simp; refine hK.out _ _ (by assumption) (fun hHeld2 => ?_); clear hK K hHeld; have hHeld := hHeld2; clear hHeld2; (try simp only [Act.put, List.setIfInBounds_toArray, List.set_cons_zero, List.set_cons_succ])
        (refine wpAnyH_ready (rs := [7]) (by kernel_rfl) (by simp) ?_; refine AllReadyH.cons rfl (fun K hK => ?_) AllReadyH.nil; go_simp; go_at_call 166; refine (div_calls _ _ _ (by omega) (by omega) (by omega) (by omega)).mono ?_; rintro e wd ⟨rfl, rfl⟩; refine hK.out _ _ (by assumption) (fun hHeld2 => ?_); clear hK K hHeld; have hHeld := hHeld2; clear hHeld2; (try simp only [Act.put, List.setIfInBounds_toArray, List.set_cons_zero, List.set_cons_succ]))
        (refine wpAnyH_ready (rs := [13]) (by kernel_rfl) (by simp) ?_; refine AllReadyH.cons rfl (fun K hK => ?_) AllReadyH.nil; go_simp; go_at_call 166; refine (div_calls _ _ _ (by omega) (by omega) (by omega) (by omega)).mono ?_; rintro e wd ⟨rfl, rfl⟩; refine hK.out _ _ (by assumption) (fun hHeld2 => ?_); clear hK K hHeld; have hHeld := hHeld2; clear hHeld2; (try simp only [Act.put, List.setIfInBounds_toArray, List.set_cons_zero, List.set_cons_succ]))
        (refine wpAnyH_ready (rs := [19]) (by kernel_rfl) (by simp) ?_; refine AllReadyH.cons rfl (fun K hK => ?_) AllReadyH.nil; go_simp; go_at_call 166; refine (div_calls _ _ _ (by omega) (by omega) (by omega) (by omega)).mono ?_; rintro e wd ⟨rfl, rfl⟩; refine hK.out _ _ (by assumption) (fun hHeld2 => ?_); clear hK K hHeld; have hHeld := hHeld2; clear hHeld2; (try simp only [Act.put, List.setIfInBounds_toArray, List.set_cons_zero, List.set_cons_succ]))
        refine take_yes (i := 20) (d := 51) (v := ?_) _ rfl rfl (by kernel_rfl) (by kernel_rfl) (by kernel_rfl) (fun _ _ _ _ h => h) (by rfl) ?_ (by assumption) ?_
        rotate_left 1
        · ((intro w hSw; (try dsimp only at hSw); go_simp) <;> (try with_reducible rfl))
        (try simp only [Act.put, List.setIfInBounds_toArray, List.set_cons_zero, List.set_cons_succ])
        (refine wpAnyH_ready (rs := [21]) (by kernel_rfl) (by simp) ?_; refine AllReadyH.cons rfl (fun K hK => ?_) AllReadyH.nil; go_simp; refine hK.out _ _ (by obtain ⟨x0_, x1_, x2_, x3_, x4_, x5_⟩ := hHeld; exact ⟨x0_.trans (((Below.refl _ _).alloc (Nat.le_refl _) _).mono x0_.size), cell_keep ((Below.refl _ _).alloc (Nat.le_refl _) _) x1_, cell_keep ((Below.refl _ _).alloc (Nat.le_refl _) _) x2_, cell_keep ((Below.refl _ _).alloc (Nat.le_refl _) _) x3_, Nat.lt_of_lt_of_le x4_ ((Below.refl _ _).alloc (Nat.le_refl _) _).size, x5_.keep ((Below.refl _ _).alloc (Nat.le_refl _) _)⟩) (fun hHeld2 => ?_); clear hK K; have hOld := hHeld; clear hHeld; have hHeld := hHeld2; clear hHeld2; (try simp only [Act.put, List.setIfInBounds_toArray, List.set_cons_zero, List.set_cons_succ]))
        (refine wpAnyH_ready (rs := [22]) (by kernel_rfl) (by simp) ?_; refine AllReadyH.cons rfl (fun K hK => ?_) AllReadyH.nil; refine step_append_own _ rfl (.tmp 32) (.tmp 52) _ rfl (w.heap.size + 1 + 1) 177 i0 (.agg #[.int .i64 0, .int .i64 0, .int .i64 0]) 3 24 Try.underlying82 hi hz0 hz1 hz2 rfl (by decide) _ _ _ rfl ((own_drew HO0.out).alloc _) ⟨_, 0, none⟩ 1 1 [.int .i64 (nr (p k * num) den), .int .i64 (nr (q k * num) den), .int .i64 (nr (h k * num) den)] rfl rfl (fun j u hj => by match j, hj with | 0, hj => simp at hj; subst hj; simp [Addr.add] | 1, hj => simp at hj; subst hj; simp [Addr.add] | 2, hj => simp at hj; subst hj; simp [Addr.add]) (fun u hu => by simp at hu; rcases hu with rfl | rfl | rfl <;> rfl) (by unfold maxLen; omega) (by omega) (by have := hHeld.2.2.2.2.1; omega) ?_; intro v_ wa_ hown_ hgrow_ hat_; obtain ⟨g_, cap_, cur_, rfl, -⟩ := own_blk hown_ (by omega); have HB2 := Lib.hid ((hgrow_.block _ (HB0.out.drew.alloc _).lt (fun e => absurd (HLT.out _ e.symm).1 (by (try dsimp only); omega))).trans (HB0.out.drew.alloc _)); have HBT : Blk _ _ _ _ := HB2.out; have o3 : wa_.cell? ⟨w.heap.size + 1, 1, none⟩ = some v := (HBT.cell 1).trans rfl; have f3 := HBT.frozen; clear HBT; refine hK.out _ _ (by obtain ⟨x0_, x1_, x2_, x3_, x4_, x5_⟩ := hHeld; exact ⟨x0_.grown hgrow_ x0_.size (fun k hk => by have := (HLT.out k hk).1; omega), hgrow_.cell x1_ (fun e => Nat.lt_irrefl _ (HLT.out _ e.symm).2), hgrow_.cell x2_ (fun e => Nat.lt_irrefl _ (HLT.out _ e.symm).2), hgrow_.cell x3_ (fun e => Nat.lt_irrefl _ (HLT.out _ e.symm).2), Nat.lt_of_lt_of_le x4_ hgrow_.size, (hgrow_.block _ x5_.lt (fun e => absurd (HLT.out _ e.symm).1 (by (try dsimp only); omega))).trans x5_⟩) (fun hHeld2 => ?_); clear hK K hHeld; (try clear hOld); have hHeld := hHeld2; clear hHeld2; (try simp only [Act.put, List.setIfInBounds_toArray, List.set_cons_zero, List.set_cons_succ]))
        refine take_yes (i := 23) (d := 54) (v := ?_) _ rfl rfl (by kernel_rfl) (by kernel_rfl) (by kernel_rfl) (fun _ _ _ _ h => h) (by rfl) ?_ (by assumption) ?_
        rotate_left 1
        · ((intro w hSw; (try dsimp only at hSw); go_simp) <;> (try with_reducible rfl))
        (try simp only [Act.put, List.setIfInBounds_toArray, List.set_cons_zero, List.set_cons_succ])
        (refine wpAnyH_ready (rs := [24]) (by kernel_rfl) (by simp) ?_; refine AllReadyH.cons rfl (fun K hK => ?_) AllReadyH.nil; go_simp; refine hK.out _ _ (by obtain ⟨x0_, x1_, x2_, x3_, x4_, x5_⟩ := hHeld; exact ⟨x0_.setCell (p := ⟨w.heap.size + 1, 1, none⟩) (by (try dsimp only); omega) (.slice (some ⟨g_, 0, none⟩) (k + 1) cap_), cell_far (q := ⟨w.heap.size + 1, 1, none⟩) x1_ n3, cell_far (q := ⟨w.heap.size + 1, 1, none⟩) x2_ n3, cell_far (q := ⟨w.heap.size + 1, 1, none⟩) x3_ n3, by simpa using x4_, x5_.far (by (try dsimp only); omega) (.slice (some ⟨g_, 0, none⟩) (k + 1) cap_)⟩) (fun hHeld2 => ?_); clear hK K hHeld; (try clear hOld); have hHeld := hHeld2; clear hHeld2; (try simp only [Act.put, List.setIfInBounds_toArray, List.set_cons_zero, List.set_cons_succ]))
        refine wpAnyH_done (by kernel_rfl) ?_ _
        obtain ⟨z0, z1, z2, z3, z4, z5⟩ := hHeld
        have HOWN := Lib.hid (own_store (p := ⟨w.heap.size + 1, 1, none⟩) (show World.ownsRow _ _ _ _ _ (k + 1) (ringsL (rs p num den) (rs q num den) (rs h num den) (k + 1)) from hown_) (by (try dsimp only); omega) (.slice (some ⟨g_, 0, none⟩) (k + 1) cap_))
        have HB3 := Lib.hid (Blk.set_ HB2.out 1 (.slice (some ⟨g_, 0, none⟩) (k + 1) cap_))
        clear hown_ hgrow_ hat_ HB2 o3 f3
        go_wp2
        go_roundw
        case rel => exact ⟨k + 1, (.slice (some ⟨g_, 0, none⟩) (k + 1) cap_), by omega, by go_num, HOWN, HB3, Lib.hid z5, by omega, z0⟩
        case measure => simp [intOf]; omega
      · go_simp; go_at_call 166; refine (div_calls _ _ _ (by omega) (by omega) (by omega) (by omega)).mono ?_; rintro e wd ⟨rfl, rfl⟩; refine hK.out _ _ (by assumption) (fun hHeld2 => ?_); clear hK K hHeld; have hHeld := hHeld2; clear hHeld2; (try simp only [Act.put, List.setIfInBounds_toArray, List.set_cons_zero, List.set_cons_succ])
        refine wpAnyH_ready (rs := [1, 13]) (by kernel_rfl) (by simp) ?_; refine AllReadyH.cons rfl (fun K hK => ?_) (AllReadyH.cons rfl (fun K hK => ?_) AllReadyH.nil)
        · go_simp; refine hK.out _ _ (by assumption) (fun hHeld2 => ?_); clear hK K hHeld; have hHeld := hHeld2; clear hHeld2; (try simp only [Act.put, List.setIfInBounds_toArray, List.set_cons_zero, List.set_cons_succ])
          (refine wpAnyH_ready (rs := [13]) (by kernel_rfl) (by simp) ?_; refine AllReadyH.cons rfl (fun K hK => ?_) AllReadyH.nil; go_simp; go_at_call 166; refine (div_calls _ _ _ (by omega) (by omega) (by omega) (by omega)).mono ?_; rintro e wd ⟨rfl, rfl⟩; refine hK.out _ _ (by assumption) (fun hHeld2 => ?_); clear hK K hHeld; have hHeld := hHeld2; clear hHeld2; (try simp only [Act.put, List.setIfInBounds_toArray, List.set_cons_zero, List.set_cons_succ]))
          (refine wpAnyH_ready (rs := [19]) (by kernel_rfl) (by simp) ?_; refine AllReadyH.cons rfl (fun K hK => ?_) AllReadyH.nil; go_simp; go_at_call 166; refine (div_calls _ _ _ (by omega) (by omega) (by omega) (by omega)).mono ?_; rintro e wd ⟨rfl, rfl⟩; refine hK.out _ _ (by assumption) (fun hHeld2 => ?_); clear hK K hHeld; have hHeld := hHeld2; clear hHeld2; (try simp only [Act.put, List.setIfInBounds_toArray, List.set_cons_zero, List.set_cons_succ]))
          refine take_yes (i := 20) (d := 51) (v := ?_) _ rfl rfl (by kernel_rfl) (by kernel_rfl) (by kernel_rfl) (fun _ _ _ _ h => h) (by rfl) ?_ (by assumption) ?_
          rotate_left 1
          · ((intro w hSw; (try dsimp only at hSw); go_simp) <;> (try with_reducible rfl))
          (try simp only [Act.put, List.setIfInBounds_toArray, List.set_cons_zero, List.set_cons_succ])
          (refine wpAnyH_ready (rs := [21]) (by kernel_rfl) (by simp) ?_; refine AllReadyH.cons rfl (fun K hK => ?_) AllReadyH.nil; go_simp; refine hK.out _ _ (by obtain ⟨x0_, x1_, x2_, x3_, x4_, x5_⟩ := hHeld; exact ⟨x0_.trans (((Below.refl _ _).alloc (Nat.le_refl _) _).mono x0_.size), cell_keep ((Below.refl _ _).alloc (Nat.le_refl _) _) x1_, cell_keep ((Below.refl _ _).alloc (Nat.le_refl _) _) x2_, cell_keep ((Below.refl _ _).alloc (Nat.le_refl _) _) x3_, Nat.lt_of_lt_of_le x4_ ((Below.refl _ _).alloc (Nat.le_refl _) _).size, x5_.keep ((Below.refl _ _).alloc (Nat.le_refl _) _)⟩) (fun hHeld2 => ?_); clear hK K; have hOld := hHeld; clear hHeld; have hHeld := hHeld2; clear hHeld2; (try simp only [Act.put, List.setIfInBounds_toArray, List.set_cons_zero, List.set_cons_succ]))
          (refine wpAnyH_ready (rs := [22]) (by kernel_rfl) (by simp) ?_; refine AllReadyH.cons rfl (fun K hK => ?_) AllReadyH.nil; refine step_append_own _ rfl (.tmp 32) (.tmp 52) _ rfl (w.heap.size + 1 + 1) 177 i0 (.agg #[.int .i64 0, .int .i64 0, .int .i64 0]) 3 24 Try.underlying82 hi hz0 hz1 hz2 rfl (by decide) _ _ _ rfl ((own_drew HO0.out).alloc _) ⟨_, 0, none⟩ 1 1 [.int .i64 (nr (p k * num) den), .int .i64 (nr (q k * num) den), .int .i64 (nr (h k * num) den)] rfl rfl (fun j u hj => by match j, hj with | 0, hj => simp at hj; subst hj; simp [Addr.add] | 1, hj => simp at hj; subst hj; simp [Addr.add] | 2, hj => simp at hj; subst hj; simp [Addr.add]) (fun u hu => by simp at hu; rcases hu with rfl | rfl | rfl <;> rfl) (by unfold maxLen; omega) (by omega) (by have := hHeld.2.2.2.2.1; omega) ?_; intro v_ wa_ hown_ hgrow_ hat_; obtain ⟨g_, cap_, cur_, rfl, -⟩ := own_blk hown_ (by omega); have HB2 := Lib.hid ((hgrow_.block _ (HB0.out.drew.alloc _).lt (fun e => absurd (HLT.out _ e.symm).1 (by (try dsimp only); omega))).trans (HB0.out.drew.alloc _)); have HBT : Blk _ _ _ _ := HB2.out; have o3 : wa_.cell? ⟨w.heap.size + 1, 1, none⟩ = some v := (HBT.cell 1).trans rfl; have f3 := HBT.frozen; clear HBT; refine hK.out _ _ (by obtain ⟨x0_, x1_, x2_, x3_, x4_, x5_⟩ := hHeld; exact ⟨x0_.grown hgrow_ x0_.size (fun k hk => by have := (HLT.out k hk).1; omega), hgrow_.cell x1_ (fun e => Nat.lt_irrefl _ (HLT.out _ e.symm).2), hgrow_.cell x2_ (fun e => Nat.lt_irrefl _ (HLT.out _ e.symm).2), hgrow_.cell x3_ (fun e => Nat.lt_irrefl _ (HLT.out _ e.symm).2), Nat.lt_of_lt_of_le x4_ hgrow_.size, (hgrow_.block _ x5_.lt (fun e => absurd (HLT.out _ e.symm).1 (by (try dsimp only); omega))).trans x5_⟩) (fun hHeld2 => ?_); clear hK K hHeld; (try clear hOld); have hHeld := hHeld2; clear hHeld2; (try simp only [Act.put, List.setIfInBounds_toArray, List.set_cons_zero, List.set_cons_succ]))
          refine take_yes (i := 23) (d := 54) (v := ?_) _ rfl rfl (by kernel_rfl) (by kernel_rfl) (by kernel_rfl) (fun _ _ _ _ h => h) (by rfl) ?_ (by assumption) ?_
          rotate_left 1
          · ((intro w hSw; (try dsimp only at hSw); go_simp) <;> (try with_reducible rfl))
          (try simp only [Act.put, List.setIfInBounds_toArray, List.set_cons_zero, List.set_cons_succ])
          (refine wpAnyH_ready (rs := [24]) (by kernel_rfl) (by simp) ?_; refine AllReadyH.cons rfl (fun K hK => ?_) AllReadyH.nil; go_simp; refine hK.out _ _ (by obtain ⟨x0_, x1_, x2_, x3_, x4_, x5_⟩ := hHeld; exact ⟨x0_.setCell (p := ⟨w.heap.size + 1, 1, none⟩) (by (try dsimp only); omega) (.slice (some ⟨g_, 0, none⟩) (k + 1) cap_), cell_far (q := ⟨w.heap.size + 1, 1, none⟩) x1_ n3, cell_far (q := ⟨w.heap.size + 1, 1, none⟩) x2_ n3, cell_far (q := ⟨w.heap.size + 1, 1, none⟩) x3_ n3, by simpa using x4_, x5_.far (by (try dsimp only); omega) (.slice (some ⟨g_, 0, none⟩) (k + 1) cap_)⟩) (fun hHeld2 => ?_); clear hK K hHeld; (try clear hOld); have hHeld := hHeld2; clear hHeld2; (try simp only [Act.put, List.setIfInBounds_toArray, List.set_cons_zero, List.set_cons_succ]))
          refine wpAnyH_done (by kernel_rfl) ?_ _
          obtain ⟨z0, z1, z2, z3, z4, z5⟩ := hHeld
          have HOWN := Lib.hid (own_store (p := ⟨w.heap.size + 1, 1, none⟩) (show World.ownsRow _ _ _ _ _ (k + 1) (ringsL (rs p num den) (rs q num den) (rs h num den) (k + 1)) from hown_) (by (try dsimp only); omega) (.slice (some ⟨g_, 0, none⟩) (k + 1) cap_))
          have HB3 := Lib.hid (Blk.set_ HB2.out 1 (.slice (some ⟨g_, 0, none⟩) (k + 1) cap_))
          clear hown_ hgrow_ hat_ HB2 o3 f3
          go_wp2
          go_roundw
          case rel => exact ⟨k + 1, (.slice (some ⟨g_, 0, none⟩) (k + 1) cap_), by omega, by go_num, HOWN, HB3, Lib.hid z5, by omega, z0⟩
          case measure => simp [intOf]; omega
        · go_simp; go_at_call 166; refine (div_calls _ _ _ (by omega) (by omega) (by omega) (by omega)).mono ?_; rintro e wd ⟨rfl, rfl⟩; refine hK.out _ _ (by assumption) (fun hHeld2 => ?_); clear hK K hHeld; have hHeld := hHeld2; clear hHeld2; (try simp only [Act.put, List.setIfInBounds_toArray, List.set_cons_zero, List.set_cons_succ])
          refine wpAnyH_ready (rs := [1, 19]) (by kernel_rfl) (by simp) ?_; refine AllReadyH.cons rfl (fun K hK => ?_) (AllReadyH.cons rfl (fun K hK => ?_) AllReadyH.nil)
          · go_simp; refine hK.out _ _ (by assumption) (fun hHeld2 => ?_); clear hK K hHeld; have hHeld := hHeld2; clear hHeld2; (try simp only [Act.put, List.setIfInBounds_toArray, List.set_cons_zero, List.set_cons_succ])
            (refine wpAnyH_ready (rs := [19]) (by kernel_rfl) (by simp) ?_; refine AllReadyH.cons rfl (fun K hK => ?_) AllReadyH.nil; go_simp; go_at_call 166; refine (div_calls _ _ _ (by omega) (by omega) (by omega) (by omega)).mono ?_; rintro e wd ⟨rfl, rfl⟩; refine hK.out _ _ (by assumption) (fun hHeld2 => ?_); clear hK K hHeld; have hHeld := hHeld2; clear hHeld2; (try simp only [Act.put, List.setIfInBounds_toArray, List.set_cons_zero, List.set_cons_succ]))
            refine take_yes (i := 20) (d := 51) (v := ?_) _ rfl rfl (by kernel_rfl) (by kernel_rfl) (by kernel_rfl) (fun _ _ _ _ h => h) (by rfl) ?_ (by assumption) ?_
            rotate_left 1
            · ((intro w hSw; (try dsimp only at hSw); go_simp) <;> (try with_reducible rfl))
            (try simp only [Act.put, List.setIfInBounds_toArray, List.set_cons_zero, List.set_cons_succ])
            (refine wpAnyH_ready (rs := [21]) (by kernel_rfl) (by simp) ?_; refine AllReadyH.cons rfl (fun K hK => ?_) AllReadyH.nil; go_simp; refine hK.out _ _ (by obtain ⟨x0_, x1_, x2_, x3_, x4_, x5_⟩ := hHeld; exact ⟨x0_.trans (((Below.refl _ _).alloc (Nat.le_refl _) _).mono x0_.size), cell_keep ((Below.refl _ _).alloc (Nat.le_refl _) _) x1_, cell_keep ((Below.refl _ _).alloc (Nat.le_refl _) _) x2_, cell_keep ((Below.refl _ _).alloc (Nat.le_refl _) _) x3_, Nat.lt_of_lt_of_le x4_ ((Below.refl _ _).alloc (Nat.le_refl _) _).size, x5_.keep ((Below.refl _ _).alloc (Nat.le_refl _) _)⟩) (fun hHeld2 => ?_); clear hK K; have hOld := hHeld; clear hHeld; have hHeld := hHeld2; clear hHeld2; (try simp only [Act.put, List.setIfInBounds_toArray, List.set_cons_zero, List.set_cons_succ]))
            (refine wpAnyH_ready (rs := [22]) (by kernel_rfl) (by simp) ?_; refine AllReadyH.cons rfl (fun K hK => ?_) AllReadyH.nil; refine step_append_own _ rfl (.tmp 32) (.tmp 52) _ rfl (w.heap.size + 1 + 1) 177 i0 (.agg #[.int .i64 0, .int .i64 0, .int .i64 0]) 3 24 Try.underlying82 hi hz0 hz1 hz2 rfl (by decide) _ _ _ rfl ((own_drew HO0.out).alloc _) ⟨_, 0, none⟩ 1 1 [.int .i64 (nr (p k * num) den), .int .i64 (nr (q k * num) den), .int .i64 (nr (h k * num) den)] rfl rfl (fun j u hj => by match j, hj with | 0, hj => simp at hj; subst hj; simp [Addr.add] | 1, hj => simp at hj; subst hj; simp [Addr.add] | 2, hj => simp at hj; subst hj; simp [Addr.add]) (fun u hu => by simp at hu; rcases hu with rfl | rfl | rfl <;> rfl) (by unfold maxLen; omega) (by omega) (by have := hHeld.2.2.2.2.1; omega) ?_; intro v_ wa_ hown_ hgrow_ hat_; obtain ⟨g_, cap_, cur_, rfl, -⟩ := own_blk hown_ (by omega); have HB2 := Lib.hid ((hgrow_.block _ (HB0.out.drew.alloc _).lt (fun e => absurd (HLT.out _ e.symm).1 (by (try dsimp only); omega))).trans (HB0.out.drew.alloc _)); have HBT : Blk _ _ _ _ := HB2.out; have o3 : wa_.cell? ⟨w.heap.size + 1, 1, none⟩ = some v := (HBT.cell 1).trans rfl; have f3 := HBT.frozen; clear HBT; refine hK.out _ _ (by obtain ⟨x0_, x1_, x2_, x3_, x4_, x5_⟩ := hHeld; exact ⟨x0_.grown hgrow_ x0_.size (fun k hk => by have := (HLT.out k hk).1; omega), hgrow_.cell x1_ (fun e => Nat.lt_irrefl _ (HLT.out _ e.symm).2), hgrow_.cell x2_ (fun e => Nat.lt_irrefl _ (HLT.out _ e.symm).2), hgrow_.cell x3_ (fun e => Nat.lt_irrefl _ (HLT.out _ e.symm).2), Nat.lt_of_lt_of_le x4_ hgrow_.size, (hgrow_.block _ x5_.lt (fun e => absurd (HLT.out _ e.symm).1 (by (try dsimp only); omega))).trans x5_⟩) (fun hHeld2 => ?_); clear hK K hHeld; (try clear hOld); have hHeld := hHeld2; clear hHeld2; (try simp only [Act.put, List.setIfInBounds_toArray, List.set_cons_zero, List.set_cons_succ]))
            refine take_yes (i := 23) (d := 54) (v := ?_) _ rfl rfl (by kernel_rfl) (by kernel_rfl) (by kernel_rfl) (fun _ _ _ _ h => h) (by rfl) ?_ (by assumption) ?_
            rotate_left 1
            · ((intro w hSw; (try dsimp only at hSw); go_simp) <;> (try with_reducible rfl))
            (try simp only [Act.put, List.setIfInBounds_toArray, List.set_cons_zero, List.set_cons_succ])
            (refine wpAnyH_ready (rs := [24]) (by kernel_rfl) (by simp) ?_; refine AllReadyH.cons rfl (fun K hK => ?_) AllReadyH.nil; go_simp; refine hK.out _ _ (by obtain ⟨x0_, x1_, x2_, x3_, x4_, x5_⟩ := hHeld; exact ⟨x0_.setCell (p := ⟨w.heap.size + 1, 1, none⟩) (by (try dsimp only); omega) (.slice (some ⟨g_, 0, none⟩) (k + 1) cap_), cell_far (q := ⟨w.heap.size + 1, 1, none⟩) x1_ n3, cell_far (q := ⟨w.heap.size + 1, 1, none⟩) x2_ n3, cell_far (q := ⟨w.heap.size + 1, 1, none⟩) x3_ n3, by simpa using x4_, x5_.far (by (try dsimp only); omega) (.slice (some ⟨g_, 0, none⟩) (k + 1) cap_)⟩) (fun hHeld2 => ?_); clear hK K hHeld; (try clear hOld); have hHeld := hHeld2; clear hHeld2; (try simp only [Act.put, List.setIfInBounds_toArray, List.set_cons_zero, List.set_cons_succ]))
            refine wpAnyH_done (by kernel_rfl) ?_ _
            obtain ⟨z0, z1, z2, z3, z4, z5⟩ := hHeld
            have HOWN := Lib.hid (own_store (p := ⟨w.heap.size + 1, 1, none⟩) (show World.ownsRow _ _ _ _ _ (k + 1) (ringsL (rs p num den) (rs q num den) (rs h num den) (k + 1)) from hown_) (by (try dsimp only); omega) (.slice (some ⟨g_, 0, none⟩) (k + 1) cap_))
            have HB3 := Lib.hid (Blk.set_ HB2.out 1 (.slice (some ⟨g_, 0, none⟩) (k + 1) cap_))
            clear hown_ hgrow_ hat_ HB2 o3 f3
            go_wp2
            go_roundw
            case rel => exact ⟨k + 1, (.slice (some ⟨g_, 0, none⟩) (k + 1) cap_), by omega, by go_num, HOWN, HB3, Lib.hid z5, by omega, z0⟩
            case measure => simp [intOf]; omega
          · go_simp; go_at_call 166; refine (div_calls _ _ _ (by omega) (by omega) (by omega) (by omega)).mono ?_; rintro e wd ⟨rfl, rfl⟩; refine hK.out _ _ (by assumption) (fun hHeld2 => ?_); clear hK K hHeld; have hHeld := hHeld2; clear hHeld2; (try simp only [Act.put, List.setIfInBounds_toArray, List.set_cons_zero, List.set_cons_succ])
            refine take_yes (i := 20) (d := 51) (v := ?_) _ rfl rfl (by kernel_rfl) (by kernel_rfl) (by kernel_rfl) (fun _ _ _ _ h => h) (by rfl) ?_ (by assumption) ?_
            rotate_left 1
            · ((intro w hSw; (try dsimp only at hSw); go_simp) <;> (try with_reducible rfl))
            (try simp only [Act.put, List.setIfInBounds_toArray, List.set_cons_zero, List.set_cons_succ])
            refine wpAnyH_ready (rs := [1, 21]) (by kernel_rfl) (by simp) ?_; refine AllReadyH.cons rfl (fun K hK => ?_) (AllReadyH.cons rfl (fun K hK => ?_) AllReadyH.nil)
            · go_simp; refine hK.out _ _ (by assumption) (fun hHeld2 => ?_); clear hK K hHeld; have hHeld := hHeld2; clear hHeld2; (try simp only [Act.put, List.setIfInBounds_toArray, List.set_cons_zero, List.set_cons_succ])
              (refine wpAnyH_ready (rs := [21]) (by kernel_rfl) (by simp) ?_; refine AllReadyH.cons rfl (fun K hK => ?_) AllReadyH.nil; go_simp; refine hK.out _ _ (by obtain ⟨x0_, x1_, x2_, x3_, x4_, x5_⟩ := hHeld; exact ⟨x0_.trans (((Below.refl _ _).alloc (Nat.le_refl _) _).mono x0_.size), cell_keep ((Below.refl _ _).alloc (Nat.le_refl _) _) x1_, cell_keep ((Below.refl _ _).alloc (Nat.le_refl _) _) x2_, cell_keep ((Below.refl _ _).alloc (Nat.le_refl _) _) x3_, Nat.lt_of_lt_of_le x4_ ((Below.refl _ _).alloc (Nat.le_refl _) _).size, x5_.keep ((Below.refl _ _).alloc (Nat.le_refl _) _)⟩) (fun hHeld2 => ?_); clear hK K; have hOld := hHeld; clear hHeld; have hHeld := hHeld2; clear hHeld2; (try simp only [Act.put, List.setIfInBounds_toArray, List.set_cons_zero, List.set_cons_succ]))
              (refine wpAnyH_ready (rs := [22]) (by kernel_rfl) (by simp) ?_; refine AllReadyH.cons rfl (fun K hK => ?_) AllReadyH.nil; refine step_append_own _ rfl (.tmp 32) (.tmp 52) _ rfl (w.heap.size + 1 + 1) 177 i0 (.agg #[.int .i64 0, .int .i64 0, .int .i64 0]) 3 24 Try.underlying82 hi hz0 hz1 hz2 rfl (by decide) _ _ _ rfl ((own_drew HO0.out).alloc _) ⟨_, 0, none⟩ 1 1 [.int .i64 (nr (p k * num) den), .int .i64 (nr (q k * num) den), .int .i64 (nr (h k * num) den)] rfl rfl (fun j u hj => by match j, hj with | 0, hj => simp at hj; subst hj; simp [Addr.add] | 1, hj => simp at hj; subst hj; simp [Addr.add] | 2, hj => simp at hj; subst hj; simp [Addr.add]) (fun u hu => by simp at hu; rcases hu with rfl | rfl | rfl <;> rfl) (by unfold maxLen; omega) (by omega) (by have := hHeld.2.2.2.2.1; omega) ?_; intro v_ wa_ hown_ hgrow_ hat_; obtain ⟨g_, cap_, cur_, rfl, -⟩ := own_blk hown_ (by omega); have HB2 := Lib.hid ((hgrow_.block _ (HB0.out.drew.alloc _).lt (fun e => absurd (HLT.out _ e.symm).1 (by (try dsimp only); omega))).trans (HB0.out.drew.alloc _)); have HBT : Blk _ _ _ _ := HB2.out; have o3 : wa_.cell? ⟨w.heap.size + 1, 1, none⟩ = some v := (HBT.cell 1).trans rfl; have f3 := HBT.frozen; clear HBT; refine hK.out _ _ (by obtain ⟨x0_, x1_, x2_, x3_, x4_, x5_⟩ := hHeld; exact ⟨x0_.grown hgrow_ x0_.size (fun k hk => by have := (HLT.out k hk).1; omega), hgrow_.cell x1_ (fun e => Nat.lt_irrefl _ (HLT.out _ e.symm).2), hgrow_.cell x2_ (fun e => Nat.lt_irrefl _ (HLT.out _ e.symm).2), hgrow_.cell x3_ (fun e => Nat.lt_irrefl _ (HLT.out _ e.symm).2), Nat.lt_of_lt_of_le x4_ hgrow_.size, (hgrow_.block _ x5_.lt (fun e => absurd (HLT.out _ e.symm).1 (by (try dsimp only); omega))).trans x5_⟩) (fun hHeld2 => ?_); clear hK K hHeld; (try clear hOld); have hHeld := hHeld2; clear hHeld2; (try simp only [Act.put, List.setIfInBounds_toArray, List.set_cons_zero, List.set_cons_succ]))
              refine take_yes (i := 23) (d := 54) (v := ?_) _ rfl rfl (by kernel_rfl) (by kernel_rfl) (by kernel_rfl) (fun _ _ _ _ h => h) (by rfl) ?_ (by assumption) ?_
              rotate_left 1
              · ((intro w hSw; (try dsimp only at hSw); go_simp) <;> (try with_reducible rfl))
              (try simp only [Act.put, List.setIfInBounds_toArray, List.set_cons_zero, List.set_cons_succ])
              (refine wpAnyH_ready (rs := [24]) (by kernel_rfl) (by simp) ?_; refine AllReadyH.cons rfl (fun K hK => ?_) AllReadyH.nil; go_simp; refine hK.out _ _ (by obtain ⟨x0_, x1_, x2_, x3_, x4_, x5_⟩ := hHeld; exact ⟨x0_.setCell (p := ⟨w.heap.size + 1, 1, none⟩) (by (try dsimp only); omega) (.slice (some ⟨g_, 0, none⟩) (k + 1) cap_), cell_far (q := ⟨w.heap.size + 1, 1, none⟩) x1_ n3, cell_far (q := ⟨w.heap.size + 1, 1, none⟩) x2_ n3, cell_far (q := ⟨w.heap.size + 1, 1, none⟩) x3_ n3, by simpa using x4_, x5_.far (by (try dsimp only); omega) (.slice (some ⟨g_, 0, none⟩) (k + 1) cap_)⟩) (fun hHeld2 => ?_); clear hK K hHeld; (try clear hOld); have hHeld := hHeld2; clear hHeld2; (try simp only [Act.put, List.setIfInBounds_toArray, List.set_cons_zero, List.set_cons_succ]))
              refine wpAnyH_done (by kernel_rfl) ?_ _
              obtain ⟨z0, z1, z2, z3, z4, z5⟩ := hHeld
              have HOWN := Lib.hid (own_store (p := ⟨w.heap.size + 1, 1, none⟩) (show World.ownsRow _ _ _ _ _ (k + 1) (ringsL (rs p num den) (rs q num den) (rs h num den) (k + 1)) from hown_) (by (try dsimp only); omega) (.slice (some ⟨g_, 0, none⟩) (k + 1) cap_))
              have HB3 := Lib.hid (Blk.set_ HB2.out 1 (.slice (some ⟨g_, 0, none⟩) (k + 1) cap_))
              clear hown_ hgrow_ hat_ HB2 o3 f3
              go_wp2
              go_roundw
              case rel => exact ⟨k + 1, (.slice (some ⟨g_, 0, none⟩) (k + 1) cap_), by omega, by go_num, HOWN, HB3, Lib.hid z5, by omega, z0⟩
              case measure => simp [intOf]; omega
            · go_simp; refine hK.out _ _ (by obtain ⟨x0_, x1_, x2_, x3_, x4_, x5_⟩ := hHeld; exact ⟨x0_.trans (((Below.refl _ _).alloc (Nat.le_refl _) _).mono x0_.size), cell_keep ((Below.refl _ _).alloc (Nat.le_refl _) _) x1_, cell_keep ((Below.refl _ _).alloc (Nat.le_refl _) _) x2_, cell_keep ((Below.refl _ _).alloc (Nat.le_refl _) _) x3_, Nat.lt_of_lt_of_le x4_ ((Below.refl _ _).alloc (Nat.le_refl _) _).size, x5_.keep ((Below.refl _ _).alloc (Nat.le_refl _) _)⟩) (fun hHeld2 => ?_); clear hK K; have hOld := hHeld; clear hHeld; have hHeld := hHeld2; clear hHeld2; (try simp only [Act.put, List.setIfInBounds_toArray, List.set_cons_zero, List.set_cons_succ])
              (refine wpAnyH_ready (rs := [1]) (by kernel_rfl) (by simp) ?_; refine AllReadyH.cons rfl (fun K hK => ?_) AllReadyH.nil; go_simp; refine hK.out _ _ (by assumption) (fun hHeld2 => ?_); clear hK K hHeld; have hHeld := hHeld2; clear hHeld2; (try simp only [Act.put, List.setIfInBounds_toArray, List.set_cons_zero, List.set_cons_succ]))
              (refine wpAnyH_ready (rs := [22]) (by kernel_rfl) (by simp) ?_; refine AllReadyH.cons rfl (fun K hK => ?_) AllReadyH.nil; refine step_append_own _ rfl (.tmp 32) (.tmp 52) _ rfl (w.heap.size + 1 + 1) 177 i0 (.agg #[.int .i64 0, .int .i64 0, .int .i64 0]) 3 24 Try.underlying82 hi hz0 hz1 hz2 rfl (by decide) _ _ _ rfl ((own_drew HO0.out).alloc _) ⟨_, 0, none⟩ 1 1 [.int .i64 (nr (p k * num) den), .int .i64 (nr (q k * num) den), .int .i64 (nr (h k * num) den)] rfl rfl (fun j u hj => by match j, hj with | 0, hj => simp at hj; subst hj; simp [Addr.add] | 1, hj => simp at hj; subst hj; simp [Addr.add] | 2, hj => simp at hj; subst hj; simp [Addr.add]) (fun u hu => by simp at hu; rcases hu with rfl | rfl | rfl <;> rfl) (by unfold maxLen; omega) (by omega) (by have := hHeld.2.2.2.2.1; omega) ?_; intro v_ wa_ hown_ hgrow_ hat_; obtain ⟨g_, cap_, cur_, rfl, -⟩ := own_blk hown_ (by omega); have HB2 := Lib.hid ((hgrow_.block _ (HB0.out.drew.alloc _).lt (fun e => absurd (HLT.out _ e.symm).1 (by (try dsimp only); omega))).trans (HB0.out.drew.alloc _)); have HBT : Blk _ _ _ _ := HB2.out; have o3 : wa_.cell? ⟨w.heap.size + 1, 1, none⟩ = some v := (HBT.cell 1).trans rfl; have f3 := HBT.frozen; clear HBT; refine hK.out _ _ (by obtain ⟨x0_, x1_, x2_, x3_, x4_, x5_⟩ := hHeld; exact ⟨x0_.grown hgrow_ x0_.size (fun k hk => by have := (HLT.out k hk).1; omega), hgrow_.cell x1_ (fun e => Nat.lt_irrefl _ (HLT.out _ e.symm).2), hgrow_.cell x2_ (fun e => Nat.lt_irrefl _ (HLT.out _ e.symm).2), hgrow_.cell x3_ (fun e => Nat.lt_irrefl _ (HLT.out _ e.symm).2), Nat.lt_of_lt_of_le x4_ hgrow_.size, (hgrow_.block _ x5_.lt (fun e => absurd (HLT.out _ e.symm).1 (by (try dsimp only); omega))).trans x5_⟩) (fun hHeld2 => ?_); clear hK K hHeld; (try clear hOld); have hHeld := hHeld2; clear hHeld2; (try simp only [Act.put, List.setIfInBounds_toArray, List.set_cons_zero, List.set_cons_succ]))
              refine take_yes (i := 23) (d := 54) (v := ?_) _ rfl rfl (by kernel_rfl) (by kernel_rfl) (by kernel_rfl) (fun _ _ _ _ h => h) (by rfl) ?_ (by assumption) ?_
              rotate_left 1
              · ((intro w hSw; (try dsimp only at hSw); go_simp) <;> (try with_reducible rfl))
              (try simp only [Act.put, List.setIfInBounds_toArray, List.set_cons_zero, List.set_cons_succ])
              (refine wpAnyH_ready (rs := [24]) (by kernel_rfl) (by simp) ?_; refine AllReadyH.cons rfl (fun K hK => ?_) AllReadyH.nil; go_simp; refine hK.out _ _ (by obtain ⟨x0_, x1_, x2_, x3_, x4_, x5_⟩ := hHeld; exact ⟨x0_.setCell (p := ⟨w.heap.size + 1, 1, none⟩) (by (try dsimp only); omega) (.slice (some ⟨g_, 0, none⟩) (k + 1) cap_), cell_far (q := ⟨w.heap.size + 1, 1, none⟩) x1_ n3, cell_far (q := ⟨w.heap.size + 1, 1, none⟩) x2_ n3, cell_far (q := ⟨w.heap.size + 1, 1, none⟩) x3_ n3, by simpa using x4_, x5_.far (by (try dsimp only); omega) (.slice (some ⟨g_, 0, none⟩) (k + 1) cap_)⟩) (fun hHeld2 => ?_); clear hK K hHeld; (try clear hOld); have hHeld := hHeld2; clear hHeld2; (try simp only [Act.put, List.setIfInBounds_toArray, List.set_cons_zero, List.set_cons_succ]))
              refine wpAnyH_done (by kernel_rfl) ?_ _
              obtain ⟨z0, z1, z2, z3, z4, z5⟩ := hHeld
              have HOWN := Lib.hid (own_store (p := ⟨w.heap.size + 1, 1, none⟩) (show World.ownsRow _ _ _ _ _ (k + 1) (ringsL (rs p num den) (rs q num den) (rs h num den) (k + 1)) from hown_) (by (try dsimp only); omega) (.slice (some ⟨g_, 0, none⟩) (k + 1) cap_))
              have HB3 := Lib.hid (Blk.set_ HB2.out 1 (.slice (some ⟨g_, 0, none⟩) (k + 1) cap_))
              clear hown_ hgrow_ hat_ HB2 o3 f3
              go_wp2
              go_roundw
              case rel => exact ⟨k + 1, (.slice (some ⟨g_, 0, none⟩) (k + 1) cap_), by omega, by go_num, HOWN, HB3, Lib.hid z5, by omega, z0⟩
              case measure => simp [intOf]; omega
    · obtain rfl : k = n := by omega
      obtain ⟨g, cap, rfl, hg, hro⟩ := ringOwn_of hown.out (by omega)
      have HRO := Lib.hid hro
      have x0 := (hob.out.cell 0).trans rfl
      have x1 := (hob.out.cell 1).trans rfl
      have y0 := (hzb.out.cell 0).trans rfl
      have y1 := (hzb.out.cell 1).trans rfl
      have f2 := hzb.out.frozen
      have n5 : w.heap.size ≠ g := by omega
      clear hro
      go_wp2
      refine bodyPost_ret (v := .agg #[.string s, .slice (some ⟨g, 0, none⟩) k cap]) (by simp [results, Try.results127, go_sem, y0, y1]) rfl ⟨⟨g, cap, rfl, ?_, by omega⟩, ?_⟩
      · refine HRO.out.same ?_
        repeat (refine (Below.heap_setCell _ _ _ _ (by simp <;> omega)).trans ?_)
        rfl
      · repeat (refine Below.setCell ?_ (by simp <;> omega) _)
        exact hbr
theorem l05Ok_below (bb oo : Nat) (s : ByteArray) (A : Option Addr) (n c : Nat) (p q h : Nat → Int) (w : World) (hs : s.size ≤ maxLen) (hr : RingRow w A n p q h) (hn : n ≤ 1048576) (g0 : w.cell? ⟨bb, oo, none⟩ = some (.string s)) (g1 : w.cell? ⟨bb, oo + 1, none⟩ = some (.slice A n c)) :
    Calls Try.prog 109 #[.pointer (some ⟨bb, oo, none⟩)] w fun e w' => e = .returned (.bool (profB s n p q h)) ∧ Below w.heap.size w w' :=
  (l05Ok_calls bb oo s A n c p q h w hs hr hn g0 g1).mono fun e w' he => by
    obtain ⟨he, m, rfl⟩ := he
    exact ⟨he, below_drewN (Below.refl _ _) m⟩
set_option maxHeartbeats 1000000 in
theorem l07Done_yes (s : ByteArray) (A : Option Addr) (n c : Nat) (p q h : Nat → Int) (w : World) (hs : s.size ≤ maxLen) (hr : RingRow w A n p q h) (hn : n ≤ 1048576) (q1 : profB s n p q h = true) :
    Calls Try.prog 126 #[.agg #[.string s, .slice A n c]] w fun e w' => e = .returned (.tuple #[.agg #[.string s, .slice A n c], .int .i64 0]) ∧ Below w.heap.size w w' := by
  have HR := Lib.hid hr
  have HS := Lib.hid hs
  have HAL := Lib.hid (((Below.refl w.heap.size w).alloc (Nat.le_refl _) (.cells #[.string s, .slice A n c] 84)).alloc (by simp) (.cells #[.string ⟨#[]⟩, .slice none 0 0] 84))
  have D1 := Lib.hid (show World.cell? ((w.alloc (.cells #[.string s, .slice A n c] 84)).alloc (.cells #[.string ⟨#[]⟩, .slice none 0 0] 84)) ⟨w.heap.size, 0, none⟩ = some (.string s) from (((Blk.new w 84 #[.string s, .slice A n c]).alloc _).cell 0).trans rfl)
  have D2 := Lib.hid (show World.cell? ((w.alloc (.cells #[.string s, .slice A n c] 84)).alloc (.cells #[.string ⟨#[]⟩, .slice none 0 0] 84)) ⟨w.heap.size, 0 + 1, none⟩ = some (.slice A n c) from (((Blk.new w 84 #[.string s, .slice A n c]).alloc _).cell 1).trans rfl)
  clear hr hs
  go_enter Try.func126, Try.ntmps126
  go_wp2_with (go_at_call 109; refine (l05Ok_below _ _ _ A n c p q h _ HS.out (HR.out.below HAL.out (Nat.le_refl _)) hn D1.out D2.out).mono ?_; rintro e w1 ⟨rfl, hb⟩; rw [q1]; have R1 := ((Blk.new w 84 #[.string s, .slice A n c]).alloc (.cells #[.string ⟨#[]⟩, .slice none 0 0] 84)).keep hb; have R2 := (Blk.new2 w (.cells #[.string s, .slice A n c] 84) 84 #[.string ⟨#[]⟩, .slice none 0 0]).keep hb; have x0 := (R1.cell 0).trans rfl; have x1 := (R1.cell 1).trans rfl; have y0 := (R2.cell 0).trans rfl; have y1 := (R2.cell 1).trans rfl; have f2 := R2.frozen; have HB := Lib.hid (HAL.out.trans (hb.mono HAL.out.size)); have HR1 := Lib.hid R1; have HR2 := Lib.hid R2; have hsz := HB.out.size; have hl2 := R2.lt; clear R1 R2 hb)
  refine bodyPost_ret (v := .tuple #[.agg #[.string s, .slice A n c], .int .i64 0]) (by simp [results, Try.results126, go_sem, y0, y1]) rfl ⟨rfl, ?_⟩
  repeat (refine Below.setCell ?_ (by simp <;> omega) _)
  exact HB.out
set_option maxHeartbeats 1000000 in
theorem l07Done_no (s : ByteArray) (A : Option Addr) (n c : Nat) (p q h : Nat → Int) (w : World) (hs : s.size ≤ maxLen) (hr : RingRow w A n p q h) (hn : n ≤ 1048576) (q1 : profB s n p q h = false) :
    Calls Try.prog 126 #[.agg #[.string s, .slice A n c]] w fun e w' => e = .returned (.tuple #[.agg #[.string ⟨#[]⟩, .slice none 0 0], .int .i64 6]) ∧ Below w.heap.size w w' := by
  have HR := Lib.hid hr
  have HS := Lib.hid hs
  have HAL := Lib.hid (((Below.refl w.heap.size w).alloc (Nat.le_refl _) (.cells #[.string s, .slice A n c] 84)).alloc (by simp) (.cells #[.string ⟨#[]⟩, .slice none 0 0] 84))
  have D1 := Lib.hid (show World.cell? ((w.alloc (.cells #[.string s, .slice A n c] 84)).alloc (.cells #[.string ⟨#[]⟩, .slice none 0 0] 84)) ⟨w.heap.size, 0, none⟩ = some (.string s) from (((Blk.new w 84 #[.string s, .slice A n c]).alloc _).cell 0).trans rfl)
  have D2 := Lib.hid (show World.cell? ((w.alloc (.cells #[.string s, .slice A n c] 84)).alloc (.cells #[.string ⟨#[]⟩, .slice none 0 0] 84)) ⟨w.heap.size, 0 + 1, none⟩ = some (.slice A n c) from (((Blk.new w 84 #[.string s, .slice A n c]).alloc _).cell 1).trans rfl)
  clear hr hs
  go_enter Try.func126, Try.ntmps126
  go_wp2_with (go_at_call 109; refine (l05Ok_below _ _ _ A n c p q h _ HS.out (HR.out.below HAL.out (Nat.le_refl _)) hn D1.out D2.out).mono ?_; rintro e w1 ⟨rfl, hb⟩; rw [q1]; have R1 := ((Blk.new w 84 #[.string s, .slice A n c]).alloc (.cells #[.string ⟨#[]⟩, .slice none 0 0] 84)).keep hb; have R2 := (Blk.new2 w (.cells #[.string s, .slice A n c] 84) 84 #[.string ⟨#[]⟩, .slice none 0 0]).keep hb; have x0 := (R1.cell 0).trans rfl; have x1 := (R1.cell 1).trans rfl; have y0 := (R2.cell 0).trans rfl; have y1 := (R2.cell 1).trans rfl; have f2 := R2.frozen; have HB := Lib.hid (HAL.out.trans (hb.mono HAL.out.size)); have HR1 := Lib.hid R1; have HR2 := Lib.hid R2; have hsz := HB.out.size; have hl2 := R2.lt; clear R1 R2 hb)
  refine bodyPost_ret (v := .tuple #[.agg #[.string ⟨#[]⟩, .slice none 0 0], .int .i64 6]) (by simp [results, Try.results126, go_sem, y0, y1]) rfl ⟨rfl, ?_⟩
  repeat (refine Below.setCell ?_ (by simp <;> omega) _)
  exact HB.out
theorem l07Done_calls (s : ByteArray) (A : Option Addr) (n c : Nat) (p q h : Nat → Int) (G : Nat) (w : World) (hs : s.size ≤ maxLen) (hr : RingOwn w A n p q h G) (hn : n ≤ 1048576) :
    Calls Try.prog 126 #[.agg #[.string s, .slice A n c]] w fun e w' => (∃ A' c', e = .returned (.tuple #[.agg #[.string (bif profB s n p q h then s else ⟨#[]⟩), .slice A' (bif profB s n p q h then n else 0) c'], .int .i64 (bif profB s n p q h then 0 else 6)]) ∧ RingOwn w' A' (bif profB s n p q h then n else 0) p q h G) ∧ Below w.heap.size w w' := by
  cases q1 : profB s n p q h
  · exact (l07Done_no s A n c p q h w hs hr.row hn q1).mono fun e w' he => ⟨⟨none, 0, he.1, fun h0 => absurd h0 (Nat.lt_irrefl _)⟩, he.2⟩
  · exact (l07Done_yes s A n c p q h w hs hr.row hn q1).mono fun e w' he => ⟨⟨A, c, he.1, hr.keep he.2⟩, he.2⟩
theorem l15Shrink_calls (x : Int) (w : World) : Calls Try.prog 125 #[.int .i64 x] w fun e w' => e = .returned (.bool (inB x 0 50)) ∧ w = w' := by
  go_enter Try.func125, Try.ntmps125
  go_wp2_with (go_at_call 85; refine (in_calls _ _ _ _).mono ?_; rintro e w1 ⟨rfl, rfl⟩)
  go_ret
  exact ⟨rfl, rfl⟩
set_option maxHeartbeats 4000000 in
theorem sMouldFor_calls (s : ByteArray) (A : Option Addr) (n c : Nat) (p q h : Nat → Int) (x : Int) (w : World) (hs : s.size ≤ maxLen) (hr : RingRow w A n p q h) (hn : n ≤ 1048576) :
    Calls Try.prog 60 #[.agg #[.string s, .slice A n c], .int .i64 x] w fun e w' => HadOut w s n p q h (1000 + x) 1000 x e w' := by
  have HR := Lib.hid hr
  have HS := Lib.hid hs
  have HAL := Lib.hid (((Below.refl w.heap.size w).alloc (Nat.le_refl _) (.cells #[.string s, .slice A n c] 84)).alloc (by simp) (.cells #[.string ⟨#[]⟩, .slice none 0 0] 84))
  have D1 := Lib.hid (show World.cell? ((w.alloc (.cells #[.string s, .slice A n c] 84)).alloc (.cells #[.string ⟨#[]⟩, .slice none 0 0] 84)) ⟨w.heap.size, 0, none⟩ = some (.string s) from (((Blk.new w 84 #[.string s, .slice A n c]).alloc _).cell 0).trans rfl)
  have D2 := Lib.hid (show World.cell? ((w.alloc (.cells #[.string s, .slice A n c] 84)).alloc (.cells #[.string ⟨#[]⟩, .slice none 0 0] 84)) ⟨w.heap.size, 0 + 1, none⟩ = some (.slice A n c) from (((Blk.new w 84 #[.string s, .slice A n c]).alloc _).cell 1).trans rfl)
  clear hr hs
  cases q1 : profB s n p q h
  · go_enter Try.func60, Try.ntmps60
    go_wp2_with (go_at_call 109; refine (l05Ok_below _ _ _ A n c p q h _ HS.out (HR.out.below HAL.out (Nat.le_refl _)) hn D1.out D2.out).mono ?_; rintro e w1 ⟨rfl, hb⟩; rw [q1]; have R1 := ((Blk.new w 84 #[.string s, .slice A n c]).alloc (.cells #[.string ⟨#[]⟩, .slice none 0 0] 84)).keep hb; have R2 := (Blk.new2 w (.cells #[.string s, .slice A n c] 84) 84 #[.string ⟨#[]⟩, .slice none 0 0]).keep hb; have x0 := (R1.cell 0).trans rfl; have x1 := (R1.cell 1).trans rfl; have y0 := (R2.cell 0).trans rfl; have y1 := (R2.cell 1).trans rfl; have f2 := R2.frozen; have HB := Lib.hid (HAL.out.trans (hb.mono HAL.out.size)); have HR1 := Lib.hid R1; have HR2 := Lib.hid R2; have hsz := HB.out.size; have hl2 := R2.lt; clear R1 R2 hb)
    refine bodyPost_ret (v := .tuple #[.agg #[.string ⟨#[]⟩, .slice none 0 0], .int .i64 1]) (by simp [results, Try.results60, go_sem, y0, y1]) rfl (HadOut.none ?_ (by simp only [hadB, q1]; rfl) (by simp only [hadC, q1]; rfl))
    repeat (refine Below.setCell ?_ (by simp <;> omega) _)
    exact HB.out
  · cases q2 : inB x 0 50
    · go_enter Try.func60, Try.ntmps60
      go_wp2_with (first | (go_at_call 109; refine (l05Ok_below _ _ _ A n c p q h _ HS.out (HR.out.below HAL.out (Nat.le_refl _)) hn D1.out D2.out).mono ?_; rintro e w1 ⟨rfl, hb⟩; rw [q1]; have R1 := ((Blk.new w 84 #[.string s, .slice A n c]).alloc (.cells #[.string ⟨#[]⟩, .slice none 0 0] 84)).keep hb; have R2 := (Blk.new2 w (.cells #[.string s, .slice A n c] 84) 84 #[.string ⟨#[]⟩, .slice none 0 0]).keep hb; have x0 := (R1.cell 0).trans rfl; have x1 := (R1.cell 1).trans rfl; have y0 := (R2.cell 0).trans rfl; have y1 := (R2.cell 1).trans rfl; have f2 := R2.frozen; have HB := Lib.hid (HAL.out.trans (hb.mono HAL.out.size)); have HR1 := Lib.hid R1; have HR2 := Lib.hid R2; have hsz := HB.out.size; have hl2 := R2.lt; clear R1 R2 hb) | (go_at_call 125; refine (l15Shrink_calls _ _).mono ?_; rintro e w2 ⟨rfl, rfl⟩; rw [q2]))
      refine bodyPost_ret (v := .tuple #[.agg #[.string ⟨#[]⟩, .slice none 0 0], .int .i64 2]) (by simp [results, Try.results60, go_sem, y0, y1]) rfl (HadOut.none ?_ (by simp only [hadB, q1, q2]; rfl) (by simp only [hadC, q1, q2]; rfl))
      repeat (refine Below.setCell ?_ (by simp <;> omega) _)
      exact HB.out
    · obtain ⟨hn0, hn32, hx⟩ := prof_rng q1
      have HX := Lib.hid hx
      obtain ⟨g0, g1⟩ := inB_iff.1 q2
      have e1 : IntKind.i64.wrap (1000 + x) = 1000 + x := IntWalk.i64_in _ ⟨by omega, by omega⟩
      clear hx
      go_enter Try.func60, Try.ntmps60
      go_wp2_with (first | ((go_at_call 109; refine (l05Ok_below _ _ _ A n c p q h _ HS.out (HR.out.below HAL.out (Nat.le_refl _)) hn D1.out D2.out).mono ?_; rintro e w1 ⟨rfl, hb⟩; rw [q1]; have R1 := ((Blk.new w 84 #[.string s, .slice A n c]).alloc (.cells #[.string ⟨#[]⟩, .slice none 0 0] 84)).keep hb; have R2 := (Blk.new2 w (.cells #[.string s, .slice A n c] 84) 84 #[.string ⟨#[]⟩, .slice none 0 0]).keep hb; have x0 := (R1.cell 0).trans rfl; have x1 := (R1.cell 1).trans rfl; have y0 := (R2.cell 0).trans rfl; have y1 := (R2.cell 1).trans rfl; have f2 := R2.frozen; have HB := Lib.hid (HAL.out.trans (hb.mono HAL.out.size)); have HR1 := Lib.hid R1; have HR2 := Lib.hid R2; have hsz := HB.out.size; have hl2 := R2.lt; clear R1 R2 hb); have X0 := Lib.hid x0; have X1 := Lib.hid x1) | (go_at_call 125; refine (l15Shrink_calls _ _).mono ?_; rintro e w2 ⟨rfl, rfl⟩; rw [q2]) | (go_at_call 127; refine (l07Sized_calls _ _ s A n c p q h _ _ _ X0.out X1.out (HR.out.below HB.out (Nat.le_refl _)) hn0 hn32 HX.out (by omega) (by omega)).mono ?_; rintro e w2 ⟨⟨G, c2, rfl, hro, hG⟩, hb2⟩; clear x0 x1 y0 y1 f2; have HR3 := Lib.hid (HR2.out.keep hb2); have HB2 := Lib.hid (HB.out.trans (hb2.mono hsz)); have hsz2 := HB2.out.size; have HRO := Lib.hid hro; clear hb2 hro) | (go_at_call 126; refine (l07Done_calls s _ n c2 _ _ _ G _ HS.out HRO.out (by omega)).mono ?_; rintro e w3 ⟨⟨A', c', rfl, hro2⟩, hb3⟩; have R3 := HR3.out.keep hb3; have y0 := (R3.cell 0).trans rfl; have y1 := (R3.cell 1).trans rfl; have f2 := R3.frozen; have HB3 := Lib.hid (HB2.out.trans (hb3.mono hsz2)); have HRO2 := Lib.hid hro2; clear R3 hb3 hro2))
      have hB : hadB s n p q h (1000 + x) 1000 x = profB s n (rs p (1000 + x) 1000) (rs q (1000 + x) 1000) (rs h (1000 + x) 1000) := by simp only [hadB, q1, q2, Bool.true_and]
      have hC : hadC s n p q h (1000 + x) 1000 x = bif profB s n (rs p (1000 + x) 1000) (rs q (1000 + x) 1000) (rs h (1000 + x) 1000) then 0 else 6 := by simp only [hadC, q1, q2, cond_true]
      unfold HadOut
      rw [hB, hC]
      refine bodyPost_ret (v := .tuple #[.agg #[.string _, .slice A' _ c'], .int .i64 _]) (by simp [results, Try.results60, go_sem, y0, y1]) rfl ⟨A', c', G, rfl, ?_, by omega, ?_⟩
      · refine HRO2.out.same ?_
        repeat (refine (Below.heap_setCell _ _ _ _ (by simp <;> omega)).trans ?_)
        rfl
      · repeat (refine Below.setCell ?_ (by simp <;> omega) _)
        exact HB3.out
set_option maxHeartbeats 4000000 in
theorem sCastFrom_calls (s : ByteArray) (A : Option Addr) (n c : Nat) (p q h : Nat → Int) (x : Int) (w : World) (hs : s.size ≤ maxLen) (hr : RingRow w A n p q h) (hn : n ≤ 1048576) :
    Calls Try.prog 54 #[.agg #[.string s, .slice A n c], .int .i64 x] w fun e w' => HadOut w s n p q h 1000 (1000 + x) x e w' := by
  have HR := Lib.hid hr
  have HS := Lib.hid hs
  have HAL := Lib.hid (((Below.refl w.heap.size w).alloc (Nat.le_refl _) (.cells #[.string s, .slice A n c] 84)).alloc (by simp) (.cells #[.string ⟨#[]⟩, .slice none 0 0] 84))
  have D1 := Lib.hid (show World.cell? ((w.alloc (.cells #[.string s, .slice A n c] 84)).alloc (.cells #[.string ⟨#[]⟩, .slice none 0 0] 84)) ⟨w.heap.size, 0, none⟩ = some (.string s) from (((Blk.new w 84 #[.string s, .slice A n c]).alloc _).cell 0).trans rfl)
  have D2 := Lib.hid (show World.cell? ((w.alloc (.cells #[.string s, .slice A n c] 84)).alloc (.cells #[.string ⟨#[]⟩, .slice none 0 0] 84)) ⟨w.heap.size, 0 + 1, none⟩ = some (.slice A n c) from (((Blk.new w 84 #[.string s, .slice A n c]).alloc _).cell 1).trans rfl)
  clear hr hs
  cases q1 : profB s n p q h
  · go_enter Try.func54, Try.ntmps54
    go_wp2_with (go_at_call 109; refine (l05Ok_below _ _ _ A n c p q h _ HS.out (HR.out.below HAL.out (Nat.le_refl _)) hn D1.out D2.out).mono ?_; rintro e w1 ⟨rfl, hb⟩; rw [q1]; have R1 := ((Blk.new w 84 #[.string s, .slice A n c]).alloc (.cells #[.string ⟨#[]⟩, .slice none 0 0] 84)).keep hb; have R2 := (Blk.new2 w (.cells #[.string s, .slice A n c] 84) 84 #[.string ⟨#[]⟩, .slice none 0 0]).keep hb; have x0 := (R1.cell 0).trans rfl; have x1 := (R1.cell 1).trans rfl; have y0 := (R2.cell 0).trans rfl; have y1 := (R2.cell 1).trans rfl; have f2 := R2.frozen; have HB := Lib.hid (HAL.out.trans (hb.mono HAL.out.size)); have HR1 := Lib.hid R1; have HR2 := Lib.hid R2; have hsz := HB.out.size; have hl2 := R2.lt; clear R1 R2 hb)
    refine bodyPost_ret (v := .tuple #[.agg #[.string ⟨#[]⟩, .slice none 0 0], .int .i64 1]) (by simp [results, Try.results54, go_sem, y0, y1]) rfl (HadOut.none ?_ (by simp only [hadB, q1]; rfl) (by simp only [hadC, q1]; rfl))
    repeat (refine Below.setCell ?_ (by simp <;> omega) _)
    exact HB.out
  · cases q2 : inB x 0 50
    · go_enter Try.func54, Try.ntmps54
      go_wp2_with (first | (go_at_call 109; refine (l05Ok_below _ _ _ A n c p q h _ HS.out (HR.out.below HAL.out (Nat.le_refl _)) hn D1.out D2.out).mono ?_; rintro e w1 ⟨rfl, hb⟩; rw [q1]; have R1 := ((Blk.new w 84 #[.string s, .slice A n c]).alloc (.cells #[.string ⟨#[]⟩, .slice none 0 0] 84)).keep hb; have R2 := (Blk.new2 w (.cells #[.string s, .slice A n c] 84) 84 #[.string ⟨#[]⟩, .slice none 0 0]).keep hb; have x0 := (R1.cell 0).trans rfl; have x1 := (R1.cell 1).trans rfl; have y0 := (R2.cell 0).trans rfl; have y1 := (R2.cell 1).trans rfl; have f2 := R2.frozen; have HB := Lib.hid (HAL.out.trans (hb.mono HAL.out.size)); have HR1 := Lib.hid R1; have HR2 := Lib.hid R2; have hsz := HB.out.size; have hl2 := R2.lt; clear R1 R2 hb) | (go_at_call 125; refine (l15Shrink_calls _ _).mono ?_; rintro e w2 ⟨rfl, rfl⟩; rw [q2]))
      refine bodyPost_ret (v := .tuple #[.agg #[.string ⟨#[]⟩, .slice none 0 0], .int .i64 2]) (by simp [results, Try.results54, go_sem, y0, y1]) rfl (HadOut.none ?_ (by simp only [hadB, q1, q2]; rfl) (by simp only [hadC, q1, q2]; rfl))
      repeat (refine Below.setCell ?_ (by simp <;> omega) _)
      exact HB.out
    · obtain ⟨hn0, hn32, hx⟩ := prof_rng q1
      have HX := Lib.hid hx
      obtain ⟨g0, g1⟩ := inB_iff.1 q2
      have e1 : IntKind.i64.wrap (1000 + x) = 1000 + x := IntWalk.i64_in _ ⟨by omega, by omega⟩
      clear hx
      go_enter Try.func54, Try.ntmps54
      go_wp2_with (first | ((go_at_call 109; refine (l05Ok_below _ _ _ A n c p q h _ HS.out (HR.out.below HAL.out (Nat.le_refl _)) hn D1.out D2.out).mono ?_; rintro e w1 ⟨rfl, hb⟩; rw [q1]; have R1 := ((Blk.new w 84 #[.string s, .slice A n c]).alloc (.cells #[.string ⟨#[]⟩, .slice none 0 0] 84)).keep hb; have R2 := (Blk.new2 w (.cells #[.string s, .slice A n c] 84) 84 #[.string ⟨#[]⟩, .slice none 0 0]).keep hb; have x0 := (R1.cell 0).trans rfl; have x1 := (R1.cell 1).trans rfl; have y0 := (R2.cell 0).trans rfl; have y1 := (R2.cell 1).trans rfl; have f2 := R2.frozen; have HB := Lib.hid (HAL.out.trans (hb.mono HAL.out.size)); have HR1 := Lib.hid R1; have HR2 := Lib.hid R2; have hsz := HB.out.size; have hl2 := R2.lt; clear R1 R2 hb); have X0 := Lib.hid x0; have X1 := Lib.hid x1) | (go_at_call 125; refine (l15Shrink_calls _ _).mono ?_; rintro e w2 ⟨rfl, rfl⟩; rw [q2]) | (go_at_call 127; refine (l07Sized_calls _ _ s A n c p q h _ _ _ X0.out X1.out (HR.out.below HB.out (Nat.le_refl _)) hn0 hn32 HX.out (by omega) (by omega)).mono ?_; rintro e w2 ⟨⟨G, c2, rfl, hro, hG⟩, hb2⟩; clear x0 x1 y0 y1 f2; have HR3 := Lib.hid (HR2.out.keep hb2); have HB2 := Lib.hid (HB.out.trans (hb2.mono hsz)); have hsz2 := HB2.out.size; have HRO := Lib.hid hro; clear hb2 hro) | (go_at_call 126; refine (l07Done_calls s _ n c2 _ _ _ G _ HS.out HRO.out (by omega)).mono ?_; rintro e w3 ⟨⟨A', c', rfl, hro2⟩, hb3⟩; have R3 := HR3.out.keep hb3; have y0 := (R3.cell 0).trans rfl; have y1 := (R3.cell 1).trans rfl; have f2 := R3.frozen; have HB3 := Lib.hid (HB2.out.trans (hb3.mono hsz2)); have HRO2 := Lib.hid hro2; clear R3 hb3 hro2))
      have hB : hadB s n p q h 1000 (1000 + x) x = profB s n (rs p 1000 (1000 + x)) (rs q 1000 (1000 + x)) (rs h 1000 (1000 + x)) := by simp only [hadB, q1, q2, Bool.true_and]
      have hC : hadC s n p q h 1000 (1000 + x) x = bif profB s n (rs p 1000 (1000 + x)) (rs q 1000 (1000 + x)) (rs h 1000 (1000 + x)) then 0 else 6 := by simp only [hadC, q1, q2, cond_true]
      unfold HadOut
      rw [hB, hC]
      refine bodyPost_ret (v := .tuple #[.agg #[.string _, .slice A' _ c'], .int .i64 _]) (by simp [results, Try.results54, go_sem, y0, y1]) rfl ⟨A', c', G, rfl, ?_, by omega, ?_⟩
      · refine HRO2.out.same ?_
        repeat (refine (Below.heap_setCell _ _ _ _ (by simp <;> omega)).trans ?_)
        rfl
      · repeat (refine Below.setCell ?_ (by simp <;> omega) _)
        exact HB3.out
end Go.Proofs.Ytaanlkdpconfiaa
