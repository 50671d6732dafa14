import Derived.Test.YticnpibkpfpojaaGreatDoorJMelt
import Derived.Deep.RegionWith
import Derived.Deep.DeepCutAuto
/- Drawn alloys: what this drawing function leaves, for every source. -/
namespace Go.Proofs.YticnpibkpfpojaaGreatDoor
set_option linter.unusedVariables false
set_option linter.unusedSimpArgs false
open Go.RowKit

set_option maxHeartbeats 2000000 in
theorem l13DrawAlloy_calls (b m : Nat) (w : World) (h : Src w b m) (hm : m ≤ 100000000) :
    Calls Tryz.prog 128 #[.pointer (some ⟨b, 0, none⟩)] w fun e w' => ∃ c t o, ((0 ≤ t ∧ t ≤ 1000000) ∧ (0 ≤ o ∧ o ≤ 1000000)) ∧ e = .returned (.agg #[.int .i64 c, .int .i64 t, .int .i64 o]) ∧ Src w' b (m + 4) ∧ Only b w w' := by
  have hlt := h.lt
  go_enter Tryz.func128, Tryz.ntmps128
  go_wp2_with fail
  go_at_call 41
  refine (among_calls (okI 0 1000000) _ _ _ _ _ _ _ _ (by exact (h.alloc _).alloc _) (by omega) (by exact Blk.new2 _ _ _ _) (by omega) (by rfl) (by rfl) (by omega) (by omega)).mono ?_
  rintro e w1 ⟨t, ht, rfl, hs1, ho1⟩
  obtain ⟨t0, t1⟩ := okI_iff.1 ht
  have hz1 := ho1.size
  simp at hz1
  have R1 := Lib.hid (ho1.blk (show w.heap.size ≠ b by omega) ((Blk.new w 161 #[.int .i64 0, .int .i64 0, .int .i64 0]).alloc _))
  have hb1 := Lib.hid ((((Only.refl b w).alloc _).alloc _).trans ho1)
  clear ht ho1
  by_cases hlw : t < 1000000
  · go_wp2_with fail
    go_at_call 41
    refine (among_calls (okI 0 20000) _ _ _ _ _ _ _ _ (by exact (hs1.alloc _).alloc _) (by omega) (by exact Blk.new2 _ _ _ _) (by omega) (by rfl) (by rfl) (by omega) (by omega)).mono ?_
    rintro e w2 ⟨o, ho, rfl, hs2, ho2⟩
    obtain ⟨o0, o1⟩ := okI_iff.1 ho
    have hz2 := ho2.size
    simp at hz2
    have R2 := ho2.blk (show w.heap.size ≠ b by omega) ((R1.out.alloc _).alloc _)
    have G2 := ho2.blk (show w1.heap.size ≠ b by omega) ((Blk.new w1 161 #[.int .i64 0, .int .i64 t, .int .i64 0]).alloc _)
    have hb2 := Lib.hid (((hb1.out.alloc _).alloc _).trans ho2)
    have gf := G2.frozen
    have rf := R2.frozen
    have x0 := (G2.cell 0).trans rfl
    have x1 := (G2.cell 1).trans rfl
    have x2 := (G2.cell 2).trans rfl
    have y0 := (R2.cell 0).trans rfl
    have y1 := (R2.cell 1).trans rfl
    have y2 := (R2.cell 2).trans rfl
    have hne : w.heap.size ≠ w1.heap.size := by omega
    clear ho ho2 hs1 R1 hb1 G2 R2
    go_wp2
    refine bodyPost_ret (v := .agg #[.int .i64 (1000000 - t - o), .int .i64 t, .int .i64 o]) (by simp [results, Tryz.results128, go_sem, y0, y1, y2]) rfl ?_
    refine ⟨_, _, _, ⟨⟨by omega, by omega⟩, by omega, by omega⟩, rfl, ?_, ?_⟩
    · repeat (refine Src.far ?_ (by omega) _ _)
      exact hs2
    · repeat (refine Only.setNew ?_ (by omega) _ _)
      exact hb2.out
  · have hne : w.heap.size ≠ w1.heap.size := by omega
    have R2 := R1.out.alloc (.cells #[.int .i64 (1000000 - t), .int .i64 t, .int .i64 0] 161)
    have rf := R2.frozen
    have y0 := (R2.cell 0).trans rfl
    have y1 := (R2.cell 1).trans rfl
    have y2 := (R2.cell 2).trans rfl
    clear R1 R2
    go_wp2
    refine bodyPost_ret (v := .agg #[.int .i64 (1000000 - t), .int .i64 t, .int .i64 0]) (by simp [results, Tryz.results128, go_sem, y0, y1, y2]) rfl ?_
    refine ⟨_, _, _, ⟨⟨by omega, by omega⟩, by omega, by omega⟩, rfl, ?_, ?_⟩
    · repeat (refine Src.far ?_ (by omega) _ _)
      exact hs1.alloc _ |>.mono (by omega)
    · repeat (refine Only.setNew ?_ (by omega) _ _)
      exact hb1.out.alloc _
end Go.Proofs.YticnpibkpfpojaaGreatDoor

/- Drawn ingots: what these drawing functions leave, for every source. -/
namespace Go.Proofs.YticnpibkpfpojaaGreatDoor
set_option linter.unusedVariables false
set_option linter.unusedSimpArgs false
open Go.RowKit

def namesA : Array Value := #[.string ⟨#[97]⟩, .string ⟨#[98]⟩, .string ⟨#[99]⟩, .string ⟨#[100]⟩, .string ⟨#[101]⟩, .string ⟨#[102]⟩, .string ⟨#[103]⟩]
theorem names_at : ∀ {k : Nat}, k < 7 → namesA[k]? = some (.string (letter k))
  | 0, _ => rfl
  | 1, _ => rfl
  | 2, _ => rfl
  | 3, _ => rfl
  | 4, _ => rfl
  | 5, _ => rfl
  | 6, _ => rfl
  | k + 7, h => by omega
theorem IngotI_info : (Tryz.prog.info? 163).map (fun i => (i.zero, i.size, i.bytes)) = some (some (.agg #[.string ⟨#[]⟩, .int .i64 0, .int .i64 0, .int .i64 0, .int .i64 0]), 5, 48) := by kernel_rfl
set_option maxRecDepth 20000 in
set_option maxHeartbeats 8000000 in
theorem l13Draw_calls (b m : Nat) (w : World) (h : Src w b m) (hm : m ≤ 10000000) :
    Calls Tryz.prog 97 #[.pointer (some ⟨b, 0, none⟩)] w fun e w' => ∃ A n c s0 a1 a2 a3 a4, e = .returned (.slice A n c) ∧ IngD w' A n c s0 a1 a2 a3 a4 ∧ Src w' b (m + 100) ∧ Only b w w' := by
  obtain ⟨i0, hi, hz0, hz1, hz2⟩ := info_parts IngotI_info
  have hlt := h.lt
  have hn0 : Hid (Blk (w.alloc (.cells namesA 9)) w.heap.size 9 namesA) := Lib.hid (Blk.new _ _ _)
  go_enter Tryz.func97, Tryz.ntmps97
  go_wp2_with fail
  go_at_call 40
  refine (pick_calls _ _ _ _ (h.alloc _) (by omega) (by omega)).mono ?_
  rintro e w1 ⟨q, ⟨q0, q1⟩, rfl, hs1, ho1⟩
  obtain ⟨n, rfl⟩ := Int.eq_ofNat_of_zero_le q0
  have hn7 : n ≤ 7 := by omega
  have hz1' := ho1.size
  simp at hz1'
  have hN1 := Lib.hid (ho1.blk (show w.heap.size ≠ b by omega) hn0.out)
  have hb1 := Lib.hid (((Only.refl b w).alloc _).trans ho1)
  have hL := Lib.hid (World.ownsRow_lit (base := w.heap.size + 1) (e := 163) (size := 5) w1 #[] 0 (by omega) (by unfold maxLen; omega) rfl)
  clear q1 ho1 hn0
  go_wp2
  go_loopw [5, 6] (fun v i wr => ∃ (k : Nat) (xs : List Value), k ≤ n ∧ i = .int .i64 k ∧ Hid (wr.ownsRow (w.heap.size + 1) 163 5 v k xs) ∧ Hid (IngXs xs k) ∧ Hid (Src wr b (m + 2 + 6 * k)) ∧ Hid (Only b w wr) ∧ Hid (Blk wr w.heap.size 9 namesA)) (fun _ i _ => n - (intOf i).toNat)
  case atStart => exact ⟨0, [], by omega, rfl, hL, IngXs.nil, Lib.hid (hs1.alloc _), Lib.hid (hb1.out.alloc _), Lib.hid (hN1.out.alloc _)⟩
  case round =>
    clear hL hs1 hb1 hN1
    obtain ⟨k, xs, hk, rfl, hown, hxs, hs, ho, hN⟩ := hrel
    by_cases hlt2 : k < n
    · have hk7 : k < 7 := by omega
      have hk7i : (k : Int) < 7 := by omega
      have nk := (hN.out.cell k).trans (names_at (show k < 7 by omega))
      have hws := ho.out.size
      have hsrc := hs.out
      have hg0 := hN.out.lt
      go_wp2_with fail
      go_cut [7] (fun q wx => ∃ G p, q = .pointer (some ⟨G, 0, none⟩) ∧ 0 ≤ p ∧ p ≤ 89 ∧ Hid (wr.heap.size ≤ G ∧ Blk wx G 163 #[.string (letter k), .int .i64 (1000 * (1 + p)), .int .i64 0, .int .i64 0, .int .i64 0] ∧ Src wx b (m + 4 + 6 * k) ∧ Only b wr wx))
      case first =>
        have HSRC := Lib.hid hsrc
        have NK := Lib.hid nk
        clear hs hsrc nk
        refine wp_gen (fun W0 hW0 => ?_)
        have s0_ : Only b wr W0 := by rw [hW0]; exact Only.refl _ _
        have s1_ : W0.cell? ⟨w.heap.size, k, none⟩ = some (.string (letter k)) := by rw [hW0]; exact NK.out
        have HS0 := Lib.hid (show Src W0 b (m + 2 + 6 * k) by rw [hW0]; exact HSRC.out)
        clear hW0
        refine wp_region_held_drew (S := fun w' => Only b wr w' ∧ w'.cell? ⟨w.heap.size, k, none⟩ = some (.string (letter k))) (by kernel_rfl) ?_ (fun hHeld => ?_)
        · exact ⟨s0_.drew, s1_⟩
        clear s0_ s1_
        refine take_yes (i := 0) (d := 17) (v := ?_) _ rfl rfl (by kernel_rfl) (by kernel_rfl) (by kernel_rfl) (fun _ _ _ _ h => h) (by rfl) ?_ (by assumption) ?_
        rotate_left 1
        · ((intro w hSw; (try dsimp only at hSw); go_simp) <;> (try with_reducible rfl))
        (try simp only [Act.put, List.setIfInBounds_toArray, List.set_cons_zero, List.set_cons_succ])
        refine take_yes (i := 1) (d := 18) (v := ?_) _ rfl rfl (by kernel_rfl) (by kernel_rfl) (by kernel_rfl) (fun _ _ _ _ h => h) (by rfl) ?_ (by assumption) ?_
        rotate_left 1
        · ((intro w hSw; (try dsimp only at hSw); go_simp) <;> (try with_reducible rfl))
        (try simp only [Act.put, List.setIfInBounds_toArray, List.set_cons_zero, List.set_cons_succ])
        refine take_yes (i := 2) (d := 19) (v := ?_) _ rfl rfl (by kernel_rfl) (by kernel_rfl) (by kernel_rfl) (fun _ _ _ _ h => h) (by rfl) ?_ (by assumption) ?_
        rotate_left 1
        · ((intro w hSw; (try dsimp only at hSw); go_simp) <;> (try with_reducible rfl))
        (try simp only [Act.put, List.setIfInBounds_toArray, List.set_cons_zero, List.set_cons_succ])
        refine take_yes (i := 3) (d := 20) (v := ?_) _ rfl rfl (by kernel_rfl) (by kernel_rfl) (by kernel_rfl) (fun _ _ _ _ h => h) (by rfl) ?_ (by assumption) ?_
        rotate_left 1
        · ((intro w hSw; (try dsimp only at hSw); go_simp) <;> (try with_reducible rfl))
        (try simp only [Act.put, List.setIfInBounds_toArray, List.set_cons_zero, List.set_cons_succ])
        refine take_yes (i := 4) (d := 21) (v := ?_) _ rfl rfl (by kernel_rfl) (by kernel_rfl) (by kernel_rfl) (fun _ _ _ _ h => h) (by rfl) ?_ (by assumption) ?_
        rotate_left 1
        · ((intro w hSw; (try dsimp only at hSw); go_simp) <;> (try with_reducible rfl))
        (try simp only [Act.put, List.setIfInBounds_toArray, List.set_cons_zero, List.set_cons_succ])
        refine wpAnyH_ready (rs := [5, 9]) (by kernel_rfl) (by simp) ?_; refine AllReadyH.cons rfl (fun K hK => ?_) (AllReadyH.cons rfl (fun K hK => ?_) AllReadyH.nil)
        · go_simp; go_at_call 40; refine (pick_calls b (m + 2 + 6 * k) _ _ (by first | exact HS0.out | exact HS0.out.drew | exact HS0.out.alloc _ | exact HS0.out.drew.alloc _) (by omega) (by omega)).mono ?_; rintro e wd ⟨p, ⟨p0, p1⟩, rfl, hs2, hb⟩; have p2 : p ≤ 89 := (by omega); clear p1; have e1 : IntKind.i64.wrap (1 + p) = 1 + p := IntWalk.i64_in _ ⟨by omega, by omega⟩; have e2 : IntKind.i64.wrap (1000 * (1 + p)) = 1000 * (1 + p) := IntWalk.i64_in _ ⟨by omega, by omega⟩; refine hK.out _ _ (by obtain ⟨x0_, x1_⟩ := hHeld; exact ⟨x0_.trans hb, hb.keep (show w.heap.size ≠ b by omega) x1_⟩) (fun hHeld2 => ?_); (try have hnb2 := Lib.hid (hb.blk (by omega) hnb.out)); (try clear hnb); (try have hnb := hnb2); (try clear hnb2); clear hK K hHeld hb; have hHeld := hHeld2; clear hHeld2; (try simp only [Act.put, List.setIfInBounds_toArray, List.set_cons_zero, List.set_cons_succ])
          refine take_yes (i := 6) (d := 23) (v := ?_) _ rfl rfl (by kernel_rfl) (by kernel_rfl) (by kernel_rfl) (fun _ _ _ _ h => h) (by rfl) ?_ (by assumption) ?_
          rotate_left 1
          · ((intro w hSw; (try dsimp only at hSw); go_simp) <;> (try with_reducible rfl))
          (try simp only [Act.put, List.setIfInBounds_toArray, List.set_cons_zero, List.set_cons_succ])
          refine take_yes (i := 7) (d := 24) (v := ?_) _ rfl rfl (by kernel_rfl) (by kernel_rfl) (by kernel_rfl) (fun _ _ _ _ h => h) (by rfl) ?_ (by assumption) ?_
          rotate_left 1
          · ((intro w hSw; (try dsimp only at hSw); go_simp) <;> (try with_reducible rfl))
          (try simp only [Act.put, List.setIfInBounds_toArray, List.set_cons_zero, List.set_cons_succ])
          refine take_yes (i := 8) (d := 25) (v := ?_) _ rfl rfl (by kernel_rfl) (by kernel_rfl) (by kernel_rfl) (fun _ _ _ _ h => h) (by rfl) ?_ (by assumption) ?_
          rotate_left 1
          · ((intro w hSw; (try dsimp only at hSw); go_simp) <;> (try with_reducible rfl))
          (try simp only [Act.put, List.setIfInBounds_toArray, List.set_cons_zero, List.set_cons_succ])
          (refine wpAnyH_ready (rs := [9]) (by kernel_rfl) (by simp) ?_; refine AllReadyH.cons rfl (fun K hK => ?_) AllReadyH.nil; go_simp; refine hK.out _ _ (by obtain ⟨x0_, x1_⟩ := hHeld; exact ⟨x0_.trans (only_of ((Below.refl _ _).alloc (Nat.le_refl _) _)), cell_keep ((Below.refl _ _).alloc (Nat.le_refl _) _) x1_⟩) (fun hHeld2 => ?_); clear hK K; have hOld := hHeld; clear hHeld; have hHeld := hHeld2; clear hHeld2; have hgz := hOld.1.size; (try simp only [World.size_drew] at hgz); (first | have hnb := Lib.hid (new_heldO hHeld) | have hnb := Lib.hid (new_heldOD hHeld)); (try simp only [Act.put, List.setIfInBounds_toArray, List.set_cons_zero, List.set_cons_succ]))
          (refine wpAnyH_ready (rs := [10]) (by kernel_rfl) (by simp) ?_; refine AllReadyH.cons rfl (fun K hK => ?_) AllReadyH.nil; obtain ⟨x0_, x1_⟩ := hHeld; (try have q0 := (hnb.out.cell 0).trans rfl); (try have q1 := (hnb.out.cell 1).trans rfl); (try have q2 := (hnb.out.cell 2).trans rfl); (try have q3 := (hnb.out.cell 3).trans rfl); (try have q4 := (hnb.out.cell 4).trans rfl); (try have qf := hnb.out.frozen); go_simp; refine hK.out _ _ (by exact (by first | with_reducible exact (fun hb_ => ⟨hOld.1.trans (only_of hb_), cell_keep hb_ hOld.2⟩) ((Below.refl _ _).alloc (Nat.le_refl _) _) | exact ⟨((((x0_.setNew (by omega) _ _).setNew (by omega) _ _).setNew (by omega) _ _).setNew (by omega) _ _).setNew (by omega) _ _, cellG (cellG (cellG (cellG (cellG x1_ (by omega)) (by omega)) (by omega)) (by omega)) (by omega)⟩)) (fun hHeld2 => ?_); clear hK K x0_ x1_; (try clear hOld); have hHeld := hHeld2; clear hHeld2; (try simp only [Act.put, List.setIfInBounds_toArray, List.set_cons_zero, List.set_cons_succ]))
          refine wpAnyH_done (by kernel_rfl) ?_ _
          obtain ⟨z0, z1⟩ := hHeld
          go_wp2_with fail
          go_meet
          first | with_reducible exact ⟨_, p, rfl, p0, p2, Lib.hid ⟨hgz, Blk.new _ _ _, (hs2.alloc _).mono (by omega), z0⟩⟩ | exact ⟨_, p, rfl, p0, p2, Lib.hid ⟨hgz, ((((hnb.out.set_ 0 _).set_ 1 _).set_ 2 _).set_ 3 _).set_ 4 _, (((((hs2.far (by omega) _ _).far (by omega) _ _).far (by omega) _ _).far (by omega) _ _).far (by omega) _ _).mono (by omega), z0⟩⟩
        · go_simp; refine hK.out _ _ (by obtain ⟨x0_, x1_⟩ := hHeld; exact ⟨x0_.trans (only_of ((Below.refl _ _).alloc (Nat.le_refl _) _)), cell_keep ((Below.refl _ _).alloc (Nat.le_refl _) _) x1_⟩) (fun hHeld2 => ?_); clear hK K; have hOld := hHeld; clear hHeld; have hHeld := hHeld2; clear hHeld2; have hgz := hOld.1.size; (try simp only [World.size_drew] at hgz); (first | have hnb := Lib.hid (new_heldO hHeld) | have hnb := Lib.hid (new_heldOD hHeld)); (try simp only [Act.put, List.setIfInBounds_toArray, List.set_cons_zero, List.set_cons_succ])
          (refine wpAnyH_ready (rs := [5]) (by kernel_rfl) (by simp) ?_; refine AllReadyH.cons rfl (fun K hK => ?_) AllReadyH.nil; go_simp; go_at_call 40; refine (pick_calls b (m + 2 + 6 * k) _ _ (by first | exact HS0.out | exact HS0.out.drew | exact HS0.out.alloc _ | exact HS0.out.drew.alloc _) (by omega) (by omega)).mono ?_; rintro e wd ⟨p, ⟨p0, p1⟩, rfl, hs2, hb⟩; have p2 : p ≤ 89 := (by omega); clear p1; have e1 : IntKind.i64.wrap (1 + p) = 1 + p := IntWalk.i64_in _ ⟨by omega, by omega⟩; have e2 : IntKind.i64.wrap (1000 * (1 + p)) = 1000 * (1 + p) := IntWalk.i64_in _ ⟨by omega, by omega⟩; refine hK.out _ _ (by obtain ⟨x0_, x1_⟩ := hHeld; exact ⟨x0_.trans hb, hb.keep (show w.heap.size ≠ b by omega) x1_⟩) (fun hHeld2 => ?_); (try have hnb2 := Lib.hid (hb.blk (by omega) hnb.out)); (try clear hnb); (try have hnb := hnb2); (try clear hnb2); clear hK K hHeld hb; have hHeld := hHeld2; clear hHeld2; (try simp only [Act.put, List.setIfInBounds_toArray, List.set_cons_zero, List.set_cons_succ]))
          refine take_yes (i := 6) (d := 23) (v := ?_) _ rfl rfl (by kernel_rfl) (by kernel_rfl) (by kernel_rfl) (fun _ _ _ _ h => h) (by rfl) ?_ (by assumption) ?_
          rotate_left 1
          · ((intro w hSw; (try dsimp only at hSw); go_simp) <;> (try with_reducible rfl))
          (try simp only [Act.put, List.setIfInBounds_toArray, List.set_cons_zero, List.set_cons_succ])
          refine take_yes (i := 7) (d := 24) (v := ?_) _ rfl rfl (by kernel_rfl) (by kernel_rfl) (by kernel_rfl) (fun _ _ _ _ h => h) (by rfl) ?_ (by assumption) ?_
          rotate_left 1
          · ((intro w hSw; (try dsimp only at hSw); go_simp) <;> (try with_reducible rfl))
          (try simp only [Act.put, List.setIfInBounds_toArray, List.set_cons_zero, List.set_cons_succ])
          refine take_yes (i := 8) (d := 25) (v := ?_) _ rfl rfl (by kernel_rfl) (by kernel_rfl) (by kernel_rfl) (fun _ _ _ _ h => h) (by rfl) ?_ (by assumption) ?_
          rotate_left 1
          · ((intro w hSw; (try dsimp only at hSw); go_simp) <;> (try with_reducible rfl))
          (try simp only [Act.put, List.setIfInBounds_toArray, List.set_cons_zero, List.set_cons_succ])
          (refine wpAnyH_ready (rs := [10]) (by kernel_rfl) (by simp) ?_; refine AllReadyH.cons rfl (fun K hK => ?_) AllReadyH.nil; obtain ⟨x0_, x1_⟩ := hHeld; (try have q0 := (hnb.out.cell 0).trans rfl); (try have q1 := (hnb.out.cell 1).trans rfl); (try have q2 := (hnb.out.cell 2).trans rfl); (try have q3 := (hnb.out.cell 3).trans rfl); (try have q4 := (hnb.out.cell 4).trans rfl); (try have qf := hnb.out.frozen); go_simp; refine hK.out _ _ (by exact (by first | with_reducible exact (fun hb_ => ⟨hOld.1.trans (only_of hb_), cell_keep hb_ hOld.2⟩) ((Below.refl _ _).alloc (Nat.le_refl _) _) | exact ⟨((((x0_.setNew (by omega) _ _).setNew (by omega) _ _).setNew (by omega) _ _).setNew (by omega) _ _).setNew (by omega) _ _, cellG (cellG (cellG (cellG (cellG x1_ (by omega)) (by omega)) (by omega)) (by omega)) (by omega)⟩)) (fun hHeld2 => ?_); clear hK K x0_ x1_; (try clear hOld); have hHeld := hHeld2; clear hHeld2; (try simp only [Act.put, List.setIfInBounds_toArray, List.set_cons_zero, List.set_cons_succ]))
          refine wpAnyH_done (by kernel_rfl) ?_ _
          obtain ⟨z0, z1⟩ := hHeld
          go_wp2_with fail
          go_meet
          first | with_reducible exact ⟨_, p, rfl, p0, p2, Lib.hid ⟨hgz, Blk.new _ _ _, (hs2.alloc _).mono (by omega), z0⟩⟩ | exact ⟨_, p, rfl, p0, p2, Lib.hid ⟨hgz, ((((hnb.out.set_ 0 _).set_ 1 _).set_ 2 _).set_ 3 _).set_ 4 _, (((((hs2.far (by omega) _ _).far (by omega) _ _).far (by omega) _ _).far (by omega) _ _).far (by omega) _ _).mono (by omega), z0⟩⟩
      case rest =>
        obtain ⟨G, p, rfl, p0, p1, hcc⟩ := hcut
        obtain ⟨hG, hBk, hs2, ho2⟩ := hcc.out
        have HBk := Lib.hid hBk
        have HO2 := Lib.hid ho2
        have hbG : b < G := by omega
        have hGl := hBk.lt
        clear hcc hBk hs ho2 nk hsrc
        go_wp2_with fail
        go_at_call 128
        refine (l13DrawAlloy_calls b _ _ hs2 (by omega)).mono ?_
        rintro e w3 ⟨c, t, o, hto, rfl, hs3, ho3⟩
        have HTO := Lib.hid hto
        clear hto
        have B3 := Lib.hid (ho3.blk (show G ≠ b by omega) HBk.out)
        have O3 := Lib.hid (HO2.out.trans ho3)
        have g0 := (B3.out.cell 0).trans rfl
        have g1 := (B3.out.cell 1).trans rfl
        have g2 := (B3.out.cell 2).trans rfl
        have g3 := (B3.out.cell 3).trans rfl
        have g4 := (B3.out.cell 4).trans rfl
        have gf := B3.out.frozen
        obtain ⟨W4, hW4⟩ : ∃ W4, W4 = ((w3.setCell ⟨G, 2, none⟩ (.int .i64 c)).setCell ⟨G, 3, none⟩ (.int .i64 t)).setCell ⟨G, 4, none⟩ (.int .i64 o) := ⟨_, rfl⟩
        have B4 : Hid (Blk W4 G 163 #[.string (letter k), .int .i64 (1000 * (1 + p)), .int .i64 c, .int .i64 t, .int .i64 o]) := Lib.hid (by rw [hW4]; exact (((B3.out.set_ 2 _).set_ 3 _).set_ 4 _))
        have S4 : Hid (Src W4 b (m + 2 + 6 * (k + 1))) := Lib.hid (by rw [hW4]; exact (((hs3.far hbG _ _).far hbG _ _).far hbG _ _).mono (by omega))
        have O4 : Hid (Only b wr W4) := Lib.hid (by rw [hW4]; exact ((O3.out.setNew hG _ _).setNew hG _ _).setNew hG _ _)
        have W4H := Lib.hid hW4
        clear hs2 ho3 hs3 HO2 HBk hW4
        have NEWS := Lib.hid (World.news_of_block (Blk.new W4 163 #[.string (letter k), .int .i64 (1000 * (1 + p)), .int .i64 c, .int .i64 t, .int .i64 o]))
        have hlt9 := hown.out.lt
        have OWN4 := Lib.hid ((own_only hown.out O4.out (by omega)).alloc (.cells #[.string (letter k), .int .i64 (1000 * (1 + p)), .int .i64 c, .int .i64 t, .int .i64 o] 163))
        have hb4 : w.heap.size + 1 ≤ W4.heap.size := Nat.le_trans (by omega) O4.out.size
        have hN4 := Lib.hid ((O4.out.blk (show w.heap.size ≠ b by omega) hN.out).alloc (.cells #[.string (letter k), .int .i64 (1000 * (1 + p)), .int .i64 c, .int .i64 t, .int .i64 o] 163))
        have ON4 := Lib.hid ((ho.out.trans O4.out).alloc (.cells #[.string (letter k), .int .i64 (1000 * (1 + p)), .int .i64 c, .int .i64 t, .int .i64 o] 163))
        have SR4 := Lib.hid (S4.out.alloc (.cells #[.string (letter k), .int .i64 (1000 * (1 + p)), .int .i64 c, .int .i64 t, .int .i64 o] 163))
        obtain ⟨WA, hWA⟩ : ∃ WA, WA = W4.alloc (.cells #[.string (letter k), .int .i64 (1000 * (1 + p)), .int .i64 c, .int .i64 t, .int .i64 o] 163) := ⟨_, rfl⟩
        have hz9 : w.heap.size + 1 ≤ WA.heap.size := by rw [hWA]; simp; omega
        have NEWS2 : Hid (∀ (j : Nat) u, ([.string (letter k), .int .i64 (1000 * (1 + p)), .int .i64 c, .int .i64 t, .int .i64 o] : List Value)[j]? = some u → WA.cell? ((⟨w3.heap.size, 0, none⟩ : Addr).add j) = some u) := Lib.hid (by rw [hWA, W4H.out]; rw [W4H.out] at NEWS; simpa using NEWS.out)
        rw [← hWA] at OWN4 hN4 ON4 SR4
        rw [W4H.out] at hWA
        have WAH := Lib.hid hWA
        clear hWA NEWS W4H B4 S4 O4 hb4 B3 O3 hown ho hN
        go_wp2_with (at_builtin; rw [← WAH.out]; refine wpList_append_own _ rfl _ _ 44 rfl (w.heap.size + 1) 163 i0 (.agg #[.string ⟨#[]⟩, .int .i64 0, .int .i64 0, .int .i64 0, .int .i64 0]) 5 48 Tryz.underlying44 hi hz0 hz1 hz2 rfl (by decide) _ _ _ rfl OWN4.out ⟨_, 0, none⟩ 1 1 [.string (letter k), .int .i64 (1000 * (1 + p)), .int .i64 c, .int .i64 t, .int .i64 o] rfl rfl NEWS2.out (fun u hu => by simp at hu; rcases hu with rfl | rfl | rfl | rfl | rfl <;> rfl) (by unfold maxLen; omega) (by omega) hz9 ?_; intro v9 w9 hown' hgrow _; refine Hid.out ?_)
        refine Lib.hid ?_
        have OW9 := Lib.hid hown'
        have OX9 := Lib.hid (hxs.out.snoc (m := 1000 * (1 + p)) (a := c) ⟨by omega, by omega⟩ HTO.out.1 HTO.out.2)
        have ON9 := Lib.hid (ON4.out.grow hgrow (fun z hz => by have := (hlt9 z hz).1; omega))
        have SR9 := Lib.hid ((SR4.out.grow hgrow (fun z hz => by have := (hlt9 z hz).1; omega)))
        have NM9 := Lib.hid (hN4.out.grow hgrow (fun e => by have := (hlt9 _ e).1; omega))
        clear hown' hgrow ON4 SR4 hN4 OWN4 NEWS2 WAH hlt9 hz9
        go_wp2
        go_roundw
        case rel => exact ⟨k + 1, _, by omega, by go_num, OW9, OX9, SR9, ON9, NM9⟩
        case measure => simp [intOf]; omega
    · obtain rfl : k = n := by omega
      obtain ⟨A, c, s0, a1, a2, a3, a4, rfl, hD⟩ := ingD_of hown.out hxs.out hn7
      have HD := Lib.hid hD
      clear hD hown hxs hN
      go_wp2
      go_ret
      exact ⟨A, k, c, s0, a1, a2, a3, a4, rfl, HD.out, hs.out.mono (by omega), ho.out⟩
end Go.Proofs.YticnpibkpfpojaaGreatDoor

/- A drawn melt: what the drawing function leaves, for every source. -/
namespace Go.Proofs.YticnpibkpfpojaaGreatDoor
set_option linter.unusedVariables false
open Go.RowKit

/-- ingots as the drawing functions hand them out -/
def IngE (w : World) (A : Option Addr) (n c : Nat) (s0 : Nat → ByteArray) (a1 a2 a3 a4 : Nat → Int) : Prop := n ≤ c ∧ n ≤ 7 ∧ IngT w A n s0 a1 a2 a3 a4 ∧ ∀ i, i < n → (s0 i).size ≤ maxLen
theorem chosen_none (A : Option Addr) (c : Nat) (b o : Nat) (x : MeltV) (w : World) (h2 : MeltAt w b o x) (hq : x.n ≤ 16) (h0 : 0 < x.n) :
    Calls Tryz.prog 153 #[.slice A 0 c, .pointer (some ⟨b, o, none⟩)] w fun e w' => e = .returned (.tuple #[.slice none 0 0, .bool false]) ∧ Below w.heap.size w w' := by
  obtain ⟨AK, CK, m0, m1, m2, m3⟩ := h2
  obtain ⟨b2, o2, rfl, hrow⟩ := m3 h0
  generalize x.n = q at *
  have C0 := Lib.hid (hrow 0 h0)
  have HM1 := Lib.hid m1
  have HB0 := Lib.hid ((Below.refl w.heap.size w).alloc (Nat.le_refl _) (.cells #[] 2))
  obtain ⟨y, hy⟩ : ∃ y, y = x.ss 0 := ⟨_, rfl⟩
  rw [← hy, Nat.add_zero] at C0
  clear m0 m1 m2 m3 hrow hy
  go_enter Tryz.func153, Tryz.ntmps153
  go_wp2
  go_loopw [6, 7] (fun v i wr => i = .int .i64 0 ∧ Below w.heap.size w wr) (fun _ _ _ => 0)
  case atStart => exact ⟨rfl, HB0.out⟩
  case round =>
    obtain ⟨rfl, hbr⟩ := hrel
    have m1 := cell_keep hbr HM1.out
    have c0 := cell_keep hbr C0.out
    go_wp2
    go_loopw [6, 8, 9] (fun v fd i wr => i = .int .i64 0 ∧ fd = .bool false ∧ Below w.heap.size w wr) (fun _ _ _ _ => 0)
    case atStart => exact ⟨rfl, rfl, hbr⟩
    case round =>
      clear hbr m1 c0
      obtain ⟨rfl, rfl, hbr⟩ := hrel
      go_wp2
      refine bodyPost_ret (v := .tuple #[.slice none 0 0, .bool false]) (by simp [results, Tryz.results153, go_sem]) rfl ?_
      exact ⟨rfl, hbr⟩
theorem metal_none (A : Option Addr) (c : Nat) (b o : Nat) (x : MeltV) (w : World) (h2 : MeltAt w b o x) (hq : x.n ≤ 16) (h0 : 0 < x.n) :
    Calls Tryz.prog 135 #[.slice A 0 c, .pointer (some ⟨b, o, none⟩)] w fun e w' => e = .returned (.int .i64 0) ∧ Below w.heap.size w w' := by
  have HC := Lib.hid (chosen_none A c b o x w h2 hq h0)
  clear h2
  go_enter Tryz.func135, Tryz.ntmps135
  go_wp2_with fail
  go_at_call 153
  with_reducible refine HC.out.mono ?_
  rintro e w1 ⟨rfl, hb1⟩
  go_wp2
  go_loopw [7, 8] (fun u i wr => i = .int .i64 0 ∧ u = .int .i64 0 ∧ Below w.heap.size w wr) (fun _ _ _ => 0)
  case atStart => exact ⟨rfl, rfl, hb1⟩
  case round =>
    obtain ⟨rfl, rfl, hbr⟩ := hrel
    go_wp2
    go_ret
    exact ⟨rfl, hbr⟩
theorem Src.keep {w w' : World} {b m : Nat} (h : Src w b m) (hb : Below w.heap.size w w') : Src w' b m := h.below hb
theorem own_nil (w : World) (base e size : Nat) : w.ownsRow base e size (.slice none 0 0) 0 [] := ⟨by simp, .inl ⟨rfl, rfl⟩⟩
theorem own_far2 {w : World} {base e size n : Nat} {v u : Value} {xs : List Value} {p : Addr} (h : w.ownsRow base e size v n xs) (hp : p.block < base) : (w.setCell p u).ownsRow base e size v n xs :=
  h.kept (row := some p.block) (gb_set (World.grownBy.refl _ _) rfl u) (by
    cases hb : v.ownBlock with
    | none => exact .inl rfl
    | some k => exact .inr fun e => by have := (h.lt k hb).1; injection e with e; omega)
theorem Src.not {w : World} {b m g : Nat} {T : TypeId} {cs : Array Value} (h : Src w b m) (hb : Blk w g T cs) (hT : T ≠ 80) : g ≠ b := fun e => by
  obtain ⟨A, n, c, k, x, h1, -⟩ := h
  subst e
  exact hT (hb.type h1)
theorem ingD_B {w : World} {A : Option Addr} {n c : Nat} {s0 : Nat → ByteArray} {a1 a2 a3 a4 : Nat → Int} (h : IngD w A n c s0 a1 a2 a3 a4) : IngB n a1 a3 a4 ∧ Srt s0 n := by
  obtain ⟨-, hn, -, hx⟩ := h
  exact ⟨fun i hi => by obtain ⟨-, h1, h2, h3⟩ := hx i hi; omega, srt_congr (letter_srt hn) (fun i hi => (hx i hi).1)⟩
/-- the metal of a drawn melt -/
theorem drawn_metal (A : Option Addr) (n c : Nat) (s0 : Nat → ByteArray) (a1 a2 a3 a4 : Nat → Int) (b o : Nat) (x : MeltV) (w : World) (h : IngD w A n c s0 a1 a2 a3 a4) (h2 : MeltAt w b o x) (hq : x.n ≤ 16) (h0 : 0 < x.n) (hx : n = 0 ∨ ∀ i, i < x.n → ∃ j, j < n ∧ x.ss i = letter j) :
    Calls Tryz.prog 135 #[.slice A n c, .pointer (some ⟨b, o, none⟩)] w fun e w' => ∃ M : Int, (0 ≤ M ∧ M ≤ 320000000) ∧ e = .returned (.int .i64 M) ∧ Below w.heap.size w w' := by
  rcases Nat.eq_zero_or_pos n with z | z
  · subst z
    exact (metal_none A c b o x w h2 hq h0).mono fun e w' ⟨h1, h2⟩ => ⟨0, by omega, h1, h2⟩
  · obtain ⟨hB, hS⟩ := ingD_B h
    have hx2 : allHave s0 n x.ss x.n = true := allB_yes fun i hi => by
      rcases hx with hx | hx
      · omega
      · obtain ⟨j, hj, he⟩ := hx i hi
        exact hasId_at hj (by rw [(h.2.2.2 j hj).1, he]; exact beq_self_eq_true _)
    exact (sMetal_calls A n c s0 a1 a2 a3 a4 b o x w h.2.2.1.row (by have := h.2.1; omega) hS h2 hq hx2 hB).mono fun e w' ⟨h1, h2⟩ => ⟨_, metV_le hx2 hB hq, h1, h2⟩
theorem smax_calls (a b : Int) (w : World) :
    Calls Tryz.prog 44 #[.int .i64 a, .int .i64 b] w fun e w' => (∃ v : Int, a ≤ v ∧ e = .returned (.int .i64 v)) ∧ w = w' := by
  by_cases h : b < a
  · go_enter Tryz.func44, Tryz.ntmps44
    go_wp2
    go_ret
    exact ⟨⟨a, by omega, rfl⟩, rfl⟩
  · go_enter Tryz.func44, Tryz.ntmps44
    go_wp2
    go_ret
    exact ⟨⟨b, by omega, rfl⟩, rfl⟩
end Go.Proofs.YticnpibkpfpojaaGreatDoor

/- A drawn melt: what the drawing function leaves, for every source. -/
namespace Go.Proofs.YticnpibkpfpojaaGreatDoor
set_option linter.unusedVariables false
set_option linter.unusedSimpArgs false
open Go.RowKit

theorem cell_arN {W : World} {a : Addr} {v : Value} (h : W.cell? a = some v) (o : Obj) : (W.alloc o).cell? a = some v := (Go.World.cell?_alloc_some _ _ _ (by rw [h]; rfl)).trans h
theorem strs_upd (ss : Nat → ByteArray) (k : Nat) (x : ByteArray) : strsL ss k ++ [.string x] = strsL (fun j => if j = k then x else ss j) (k + 1) := by
  rw [← strsL_succ, if_pos rfl]
  congr 1
  unfold strsL
  apply List.map_congr_left
  intro j hj
  show _ = Value.string (if j = k then x else ss j)
  rw [if_neg (by have := List.mem_range.1 hj; omega)]
theorem letters_upd {ss : Nat → ByteArray} {cnt n k : Nat} (h : ∀ i, i < cnt → ∃ j, j < n ∧ ss i = letter j) (hk : k < n) : ∀ i, i < cnt + 1 → ∃ j, j < n ∧ (if i = cnt then letter k else ss i) = letter j := fun i hi => by
  by_cases hik : i = cnt
  · exact ⟨k, hk, if_pos hik⟩
  · rw [if_neg hik]; exact h i (by omega)
theorem own_slice {w : World} {base e size n : Nat} {v : Value} {xs : List Value} (h : w.ownsRow base e size v n xs) : ∃ A c, v = .slice A n c := by
  rcases h.2 with ⟨q, z⟩ | ⟨g, cap, cur, q, -⟩
  · subst z; exact ⟨none, 0, q⟩
  · exact ⟨_, cap, q⟩
theorem strT_own2 {w : World} {base n cap : Nat} {A : Option Addr} {ss : Nat → ByteArray} (h : w.ownsRow base 9 1 (.slice A n cap) n (strsL ss n)) : StrT w A n ss := fun hn => by
  obtain ⟨g2, cap2, cur, e, -, hb, -, -, -, hx⟩ := own_blk h hn
  simp only [Value.slice.injEq, true_and] at e
  obtain ⟨rfl, rfl⟩ := e
  exact ⟨g2, 0, cur, rfl, hb, fun i hi => by rw [Nat.zero_add, hx i (by omega), strsL_at ss hi]⟩
set_option maxRecDepth 20000 in
set_option maxHeartbeats 8000000 in
theorem l14DrawOne_calls (b m : Nat) (A : Option Addr) (n c : Nat) (s0 : Nat → ByteArray) (a1 a2 a3 a4 : Nat → Int) (w : World) (h : Src w b m) (hm : m ≤ 10000000) (hI : IngD w A n c s0 a1 a2 a3 a4) :
    Calls Tryz.prog 99 #[.pointer (some ⟨b, 0, none⟩), .slice A n c] w fun e w' => ∃ s ma k ss C e2, e = .returned (.agg #[.string s, .slice C k e2, .int .i64 ma]) ∧ FineM ⟨s, k, ss, ma⟩ ∧ StrT w' C k ss ∧ Src w' b (m + 30) ∧ Only b w w' := by
  obtain ⟨i0, hi, hz0, hz1, hz2⟩ := info_parts Str_info
  have hlt := h.lt
  have hn7 := hI.2.1
  have HI := Lib.hid hI
  have HSW := Lib.hid h
  clear hI
  go_enter Tryz.func99, Tryz.ntmps99
  go_wp2_with fail
  go_at_call 42
  refine (text_calls (fun s => decide (s.size ≤ 2)) _ _ _ _ _ _ _ _ (by exact (h.alloc _).alloc _) (by omega) (by exact Blk.new2 _ _ _ _) (by omega) (by decide +kernel) (by rfl) (by omega) (by omega)).mono ?_
  rintro e w1 ⟨s, hsn, rfl, hs1, ho1⟩
  have hss : s.size ≤ 2 := of_decide_eq_true hsn
  have hz1' := ho1.size
  simp at hz1'
  have R1 := Lib.hid (ho1.blk (show w.heap.size ≠ b by omega) ((Blk.new w 74 #[.string ⟨#[]⟩, .slice none 0 0, .int .i64 0]).alloc _))
  have hb1 := Lib.hid ((((Only.refl b w).alloc _).alloc _).trans ho1)
  have S1 := Lib.hid hs1
  clear hsn ho1 hs1 h
  go_wp2_with fail
  go_loopw [6] (fun i wr => ∃ (k cnt : Nat) (v : Value) (ss : Nat → ByteArray), k ≤ n ∧ i = .int .i64 k ∧ cnt ≤ k ∧ Hid (wr.ownsRow (w1.heap.size + 1) 9 1 v cnt (strsL ss cnt)) ∧ Hid (∀ i, i < cnt → ∃ j, j < n ∧ ss i = letter j) ∧ Hid (Blk wr w1.heap.size 74 #[.string s, v, .int .i64 0]) ∧ Hid (Blk wr w.heap.size 74 #[.string ⟨#[]⟩, .slice none 0 0, .int .i64 0]) ∧ Hid (Src wr b (m + 2 + 2 * k)) ∧ Hid (Only b w wr)) (fun i _ => n - (intOf i).toNat)
  case atStart => exact ⟨0, 0, .slice none 0 0, fun _ => ⟨#[]⟩, by omega, rfl, by omega, Lib.hid (own_nil _ _ _ _), Lib.hid (fun i hi => by omega), Lib.hid (Blk.new _ _ _), Lib.hid (R1.out.alloc _), Lib.hid (S1.out.alloc _), Lib.hid (hb1.out.alloc _)⟩
  case round =>
    clear R1 hb1 S1
    obtain ⟨k, cnt, v, ss, hk, rfl, hck, hown, hle, hbx, hR, hs, ho⟩ := hrel
    by_cases hlt2 : k < n
    · obtain ⟨gI, oI, arr, rfl, hbI, hxI⟩ := HI.out.2.2.1 (by omega)
      have hneI : gI ≠ b := HSW.out.not hbI (by decide)
      have hzI := hbI.lt
      have CI := Lib.hid ((ho.out.blk hneI hbI).cell (oI + k * 5) |>.trans (hxI k hlt2).1)
      rw [(HI.out.2.2.2 k hlt2).1] at CI
      have hgz := hbx.out.lt
      clear hbI hxI
      go_wp2_with fail
      go_at_call 43
      refine (one_calls _ _ _ _ hs.out (by omega) (by omega)).mono ?_
      rintro e w2 ⟨q, rfl, hs2, ho2⟩
      have S2 := Lib.hid hs2
      have O2 := Lib.hid (ho.out.trans ho2)
      have own2 := Lib.hid (own_only hown.out ho2 (by omega))
      have B2 := Lib.hid (ho2.blk (show w1.heap.size ≠ b by omega) hbx.out)
      have R2 := Lib.hid (ho2.blk (show w.heap.size ≠ b by omega) hR.out)
      have CI2 := Lib.hid (ho2.keep hneI CI.out)
      have hgz2 := B2.out.lt
      clear hs2 ho2 hs ho hown hbx hR CI
      cases q
      · clear CI2
        go_wp2
        go_roundw
        case rel => exact ⟨k + 1, cnt, v, ss, by omega, by go_num, by omega, own2, hle, B2, R2, Lib.hid (S2.out.mono (by omega)), O2⟩
        case measure => simp [intOf]; omega
      · have HLT := Lib.hid own2.out.lt
        go_wp2_with fail
        refine wp_gen (fun W0 hW0 => ?_)
        have s0_ : Only b w W0 := by rw [hW0]; exact O2.out
        have s1_ : W0.cell? ⟨gI, oI + k * 5, none⟩ = some (.string (letter k)) := by rw [hW0]; exact CI2.out
        have s2_ : w1.heap.size < W0.heap.size := by rw [hW0]; exact hgz2
        have s3_ : Src W0 b (m + 2 + 2 * k + 2) := by rw [hW0]; exact S2.out
        have s4_ : Blk W0 w.heap.size 74 #[.string ⟨#[]⟩, .slice none 0 0, .int .i64 0] := by rw [hW0]; exact R2.out
        have HO0 : Hid (W0.ownsRow (w1.heap.size + 1) 9 1 v cnt (strsL ss cnt)) := Lib.hid (by rw [hW0]; exact own2.out)
        have HB0 : Hid (Blk W0 w1.heap.size 74 #[.string s, v, .int .i64 0]) := Lib.hid (by rw [hW0]; exact B2.out)
        have o1 : W0.cell? ⟨w1.heap.size, 1, none⟩ = some v := (HB0.out.cell 1).trans rfl
        have o1a := cell_arN (show W0.drew.cell? ⟨w1.heap.size, 1, none⟩ = some v from o1)
        have o1b := cell_arN o1
        clear hW0
        refine wp_region_held_drew (S := fun w' => Only b w w' ∧ w'.cell? ⟨gI, oI + k * 5, none⟩ = some (.string (letter k)) ∧ w1.heap.size < w'.heap.size ∧ Src w' b (m + 2 + 2 * k + 2) ∧ Blk w' w.heap.size 74 #[.string ⟨#[]⟩, .slice none 0 0, .int .i64 0]) (by kernel_rfl) ?_ (fun hHeld => ?_)
        · exact ⟨s0_.drew, s1_, s2_, s3_, s4_⟩
        clear s0_ s1_ s2_ s3_ s4_
        refine take_yes (i := 0) (d := 20) (v := ?_) _ rfl rfl (by kernel_rfl) (by kernel_rfl) (by kernel_rfl) (fun _ _ _ _ h => h) (by rfl) ?_ (by assumption) ?_
        rotate_left 1
        · ((intro w hSw; (try dsimp only at hSw); go_simp) <;> (try with_reducible rfl))
        (try simp only [Act.put, List.setIfInBounds_toArray, List.set_cons_zero, List.set_cons_succ])
        refine take_yes (i := 2) (d := 22) (v := ?_) _ rfl rfl (by kernel_rfl) (by kernel_rfl) (by kernel_rfl) (fun _ _ _ _ h => h) (by rfl) ?_ (by assumption) ?_
        rotate_left 1
        · ((intro w hSw; (try dsimp only at hSw); go_simp) <;> (try with_reducible rfl))
        (try simp only [Act.put, List.setIfInBounds_toArray, List.set_cons_zero, List.set_cons_succ])
        refine take_yes (i := 3) (d := 23) (v := ?_) _ rfl rfl (by kernel_rfl) (by kernel_rfl) (by kernel_rfl) (fun _ _ _ _ h => h) (by rfl) ?_ (by assumption) ?_
        rotate_left 1
        · ((intro w hSw; (try dsimp only at hSw); go_simp) <;> (try with_reducible rfl))
        (try simp only [Act.put, List.setIfInBounds_toArray, List.set_cons_zero, List.set_cons_succ])
        refine take_yes (i := 4) (d := 24) (v := ?_) _ rfl rfl (by kernel_rfl) (by kernel_rfl) (by kernel_rfl) (fun _ _ _ _ h => h) (by rfl) ?_ (by assumption) ?_
        rotate_left 1
        · ((intro w hSw; (try dsimp only at hSw); go_simp) <;> (try with_reducible rfl))
        (try simp only [Act.put, List.setIfInBounds_toArray, List.set_cons_zero, List.set_cons_succ])
        refine take_yes (i := 5) (d := 25) (v := ?_) _ rfl rfl (by kernel_rfl) (by kernel_rfl) (by kernel_rfl) (fun _ _ _ _ h => h) (by rfl) ?_ (by assumption) ?_
        rotate_left 1
        · ((intro w hSw; (try dsimp only at hSw); go_simp) <;> (try with_reducible rfl))
        (try simp only [Act.put, List.setIfInBounds_toArray, List.set_cons_zero, List.set_cons_succ])
        refine take_yes (i := 6) (d := 26) (v := ?_) _ rfl rfl (by kernel_rfl) (by kernel_rfl) (by kernel_rfl) (fun _ _ _ _ h => h) (by rfl) ?_ (by assumption) ?_
        rotate_left 1
        · ((intro w hSw; (try dsimp only at hSw); go_simp) <;> (try with_reducible rfl))
        (try simp only [Act.put, List.setIfInBounds_toArray, List.set_cons_zero, List.set_cons_succ])
        refine wpAnyH_ready (rs := [1, 7]) (by kernel_rfl) (by simp) ?_; refine AllReadyH.cons rfl (fun K hK => ?_) (AllReadyH.cons rfl (fun K hK => ?_) AllReadyH.nil)
        · go_simp; refine hK.out _ _ (by assumption) (fun hHeld2 => ?_); clear hK K hHeld; have hHeld := hHeld2; clear hHeld2; (try simp only [Act.put, List.setIfInBounds_toArray, List.set_cons_zero, List.set_cons_succ])
          (refine wpAnyH_ready (rs := [7]) (by kernel_rfl) (by simp) ?_; refine AllReadyH.cons rfl (fun K hK => ?_) AllReadyH.nil; go_simp; refine hK.out _ _ (by obtain ⟨x0_, x1_, x2_, x3_, x4_⟩ := hHeld; exact ⟨x0_.trans (only_of ((Below.refl _ _).alloc (Nat.le_refl _) _)), cell_keep ((Below.refl _ _).alloc (Nat.le_refl _) _) x1_, Nat.lt_of_lt_of_le x2_ ((Below.refl _ _).alloc (Nat.le_refl _) _).size, x3_.keep ((Below.refl _ _).alloc (Nat.le_refl _) _), x4_.keep ((Below.refl _ _).alloc (Nat.le_refl _) _)⟩) (fun hHeld2 => ?_); clear hK K; have hOld := hHeld; clear hHeld; have hHeld := hHeld2; clear hHeld2; (try simp only [Act.put, List.setIfInBounds_toArray, List.set_cons_zero, List.set_cons_succ]))
          (refine wpAnyH_ready (rs := [8]) (by kernel_rfl) (by simp) ?_; refine AllReadyH.cons rfl (fun K hK => ?_) AllReadyH.nil; refine step_append_own _ rfl (.tmp 21) (.tmp 27) _ rfl (w1.heap.size + 1) 9 i0 (.string ⟨#[]⟩) 1 16 Tryz.underlying59 hi hz0 hz1 hz2 rfl (by decide) _ _ _ rfl ((own_drew HO0.out).alloc _) ⟨_, 0, none⟩ 1 1 [.string (letter k)] rfl rfl (fun j u hj => by match j, hj with | 0, hj => simp at hj; subst hj; simp [Addr.add]) (fun u hu => by simp at hu; subst hu; rfl) (by unfold maxLen; omega) (by omega) (by have := hHeld.2.2.1; omega) ?_; intro v_ wa_ hown_ hgrow_ hat_; obtain ⟨g_, cap_, cur_, rfl, -⟩ := own_blk hown_ (by omega); have HB2 := Lib.hid ((HB0.out.drew.alloc (.cells #[.string (letter k)] 9)).grow hgrow_ (fun e => absurd (HLT.out _ e).1 (by omega))); have o3 : wa_.cell? ⟨w1.heap.size, 1, none⟩ = some v := (HB2.out.cell 1).trans rfl; have f3 := HB2.out.frozen; refine hK.out _ _ (by obtain ⟨x0_, x1_, x2_, x3_, x4_⟩ := hHeld; exact ⟨x0_.grow hgrow_ (fun k hk => by have := (HLT.out k hk).1; omega), hgrow_.cell x1_ (fun e => absurd (HLT.out _ e.symm).1 (by (try dsimp only); omega)), Nat.lt_of_lt_of_le x2_ hgrow_.size, x3_.grow hgrow_ (fun k hk => by have := (HLT.out k hk).1; omega), x4_.grow hgrow_ (fun e => absurd (HLT.out _ e).1 (by omega))⟩) (fun hHeld2 => ?_); clear hK K hHeld; (try clear hOld); have hHeld := hHeld2; clear hHeld2; (try simp only [Act.put, List.setIfInBounds_toArray, List.set_cons_zero, List.set_cons_succ]))
          refine take_yes (i := 9) (d := 29) (v := ?_) _ rfl rfl (by kernel_rfl) (by kernel_rfl) (by kernel_rfl) (fun _ _ _ _ h => h) (by rfl) ?_ (by assumption) ?_
          rotate_left 1
          · ((intro w hSw; (try dsimp only at hSw); go_simp) <;> (try with_reducible rfl))
          (try simp only [Act.put, List.setIfInBounds_toArray, List.set_cons_zero, List.set_cons_succ])
          (refine wpAnyH_ready (rs := [10]) (by kernel_rfl) (by simp) ?_; refine AllReadyH.cons rfl (fun K hK => ?_) AllReadyH.nil; go_simp; refine hK.out _ _ (by obtain ⟨x0_, x1_, x2_, x3_, x4_⟩ := hHeld; exact ⟨x0_.setNew (by omega) _ (.slice (some ⟨g_, 0, none⟩) (cnt + 1) cap_), cellG x1_ (by omega), by simpa using x2_, x3_.far (by omega) _ (.slice (some ⟨g_, 0, none⟩) (cnt + 1) cap_), x4_.far (p := ⟨w1.heap.size, 1, none⟩) (by (try dsimp only); omega) (.slice (some ⟨g_, 0, none⟩) (cnt + 1) cap_)⟩) (fun hHeld2 => ?_); clear hK K hHeld; (try clear hOld); have hHeld := hHeld2; clear hHeld2; (try simp only [Act.put, List.setIfInBounds_toArray, List.set_cons_zero, List.set_cons_succ]))
          refine wpAnyH_done (by kernel_rfl) ?_ _
          obtain ⟨z0, z1, z2, z3, z4⟩ := hHeld
          have HOWN := Lib.hid (own_far2 (p := ⟨w1.heap.size, 1, none⟩) (u := (.slice (some ⟨g_, 0, none⟩) (cnt + 1) cap_)) hown_ (by (try dsimp only); omega))
          have HB3 := Lib.hid (Blk.set_ HB2.out 1 (.slice (some ⟨g_, 0, none⟩) (cnt + 1) cap_))
          clear hown_ hgrow_ hat_ HB2 o3 f3
          rw [strs_upd] at HOWN
          go_wp2
          go_roundw
          case rel => exact ⟨k + 1, cnt + 1, (.slice (some ⟨g_, 0, none⟩) (cnt + 1) cap_), _, by omega, by go_num, by omega, HOWN, Lib.hid (letters_upd hle.out hlt2), HB3, Lib.hid z4, Lib.hid (z3.mono (by omega)), Lib.hid z0⟩
          case measure => simp [intOf]; omega
        · go_simp; refine hK.out _ _ (by obtain ⟨x0_, x1_, x2_, x3_, x4_⟩ := hHeld; exact ⟨x0_.trans (only_of ((Below.refl _ _).alloc (Nat.le_refl _) _)), cell_keep ((Below.refl _ _).alloc (Nat.le_refl _) _) x1_, Nat.lt_of_lt_of_le x2_ ((Below.refl _ _).alloc (Nat.le_refl _) _).size, x3_.keep ((Below.refl _ _).alloc (Nat.le_refl _) _), x4_.keep ((Below.refl _ _).alloc (Nat.le_refl _) _)⟩) (fun hHeld2 => ?_); clear hK K; have hOld := hHeld; clear hHeld; have hHeld := hHeld2; clear hHeld2; (try simp only [Act.put, List.setIfInBounds_toArray, List.set_cons_zero, List.set_cons_succ])
          (refine wpAnyH_ready (rs := [1]) (by kernel_rfl) (by simp) ?_; refine AllReadyH.cons rfl (fun K hK => ?_) AllReadyH.nil; go_simp; refine hK.out _ _ (by assumption) (fun hHeld2 => ?_); clear hK K hHeld; have hHeld := hHeld2; clear hHeld2; (try simp only [Act.put, List.setIfInBounds_toArray, List.set_cons_zero, List.set_cons_succ]))
          (refine wpAnyH_ready (rs := [8]) (by kernel_rfl) (by simp) ?_; refine AllReadyH.cons rfl (fun K hK => ?_) AllReadyH.nil; refine step_append_own _ rfl (.tmp 21) (.tmp 27) _ rfl (w1.heap.size + 1) 9 i0 (.string ⟨#[]⟩) 1 16 Tryz.underlying59 hi hz0 hz1 hz2 rfl (by decide) _ _ _ rfl ((own_drew HO0.out).alloc _) ⟨_, 0, none⟩ 1 1 [.string (letter k)] rfl rfl (fun j u hj => by match j, hj with | 0, hj => simp at hj; subst hj; simp [Addr.add]) (fun u hu => by simp at hu; subst hu; rfl) (by unfold maxLen; omega) (by omega) (by have := hHeld.2.2.1; omega) ?_; intro v_ wa_ hown_ hgrow_ hat_; obtain ⟨g_, cap_, cur_, rfl, -⟩ := own_blk hown_ (by omega); have HB2 := Lib.hid ((HB0.out.drew.alloc (.cells #[.string (letter k)] 9)).grow hgrow_ (fun e => absurd (HLT.out _ e).1 (by omega))); have o3 : wa_.cell? ⟨w1.heap.size, 1, none⟩ = some v := (HB2.out.cell 1).trans rfl; have f3 := HB2.out.frozen; refine hK.out _ _ (by obtain ⟨x0_, x1_, x2_, x3_, x4_⟩ := hHeld; exact ⟨x0_.grow hgrow_ (fun k hk => by have := (HLT.out k hk).1; omega), hgrow_.cell x1_ (fun e => absurd (HLT.out _ e.symm).1 (by (try dsimp only); omega)), Nat.lt_of_lt_of_le x2_ hgrow_.size, x3_.grow hgrow_ (fun k hk => by have := (HLT.out k hk).1; omega), x4_.grow hgrow_ (fun e => absurd (HLT.out _ e).1 (by omega))⟩) (fun hHeld2 => ?_); clear hK K hHeld; (try clear hOld); have hHeld := hHeld2; clear hHeld2; (try simp only [Act.put, List.setIfInBounds_toArray, List.set_cons_zero, List.set_cons_succ]))
          refine take_yes (i := 9) (d := 29) (v := ?_) _ rfl rfl (by kernel_rfl) (by kernel_rfl) (by kernel_rfl) (fun _ _ _ _ h => h) (by rfl) ?_ (by assumption) ?_
          rotate_left 1
          · ((intro w hSw; (try dsimp only at hSw); go_simp) <;> (try with_reducible rfl))
          (try simp only [Act.put, List.setIfInBounds_toArray, List.set_cons_zero, List.set_cons_succ])
          (refine wpAnyH_ready (rs := [10]) (by kernel_rfl) (by simp) ?_; refine AllReadyH.cons rfl (fun K hK => ?_) AllReadyH.nil; go_simp; refine hK.out _ _ (by obtain ⟨x0_, x1_, x2_, x3_, x4_⟩ := hHeld; exact ⟨x0_.setNew (by omega) _ (.slice (some ⟨g_, 0, none⟩) (cnt + 1) cap_), cellG x1_ (by omega), by simpa using x2_, x3_.far (by omega) _ (.slice (some ⟨g_, 0, none⟩) (cnt + 1) cap_), x4_.far (p := ⟨w1.heap.size, 1, none⟩) (by (try dsimp only); omega) (.slice (some ⟨g_, 0, none⟩) (cnt + 1) cap_)⟩) (fun hHeld2 => ?_); clear hK K hHeld; (try clear hOld); have hHeld := hHeld2; clear hHeld2; (try simp only [Act.put, List.setIfInBounds_toArray, List.set_cons_zero, List.set_cons_succ]))
          refine wpAnyH_done (by kernel_rfl) ?_ _
          obtain ⟨z0, z1, z2, z3, z4⟩ := hHeld
          have HOWN := Lib.hid (own_far2 (p := ⟨w1.heap.size, 1, none⟩) (u := (.slice (some ⟨g_, 0, none⟩) (cnt + 1) cap_)) hown_ (by (try dsimp only); omega))
          have HB3 := Lib.hid (Blk.set_ HB2.out 1 (.slice (some ⟨g_, 0, none⟩) (cnt + 1) cap_))
          clear hown_ hgrow_ hat_ HB2 o3 f3
          rw [strs_upd] at HOWN
          go_wp2
          go_roundw
          case rel => exact ⟨k + 1, cnt + 1, (.slice (some ⟨g_, 0, none⟩) (cnt + 1) cap_), _, by omega, by go_num, by omega, HOWN, Lib.hid (letters_upd hle.out hlt2), HB3, Lib.hid z4, Lib.hid (z3.mono (by omega)), Lib.hid z0⟩
          case measure => simp [intOf]; omega
    · obtain rfl : k = n := by omega
      obtain ⟨A2, cap, rfl⟩ := own_slice hown.out
      have HT := Lib.hid (strT_own2 hown.out)
      have x1 := (hbx.out.cell 1).trans rfl
      have xf := hbx.out.frozen
      have hgz := hbx.out.lt
      clear hown
      go_upto_if 33 with (fail)
      go_cut [] (fun wx => ∃ (A3 : Option Addr) (cap3 q : Nat) (tt : Nat → ByteArray), 1 ≤ q ∧ q ≤ 7 ∧ Hid (Blk wx w1.heap.size 74 #[.string s, .slice A3 q cap3, .int .i64 0]) ∧ Hid (StrT wx A3 q tt) ∧ Hid ((k = 0 ∨ ∀ i, i < q → ∃ j, j < k ∧ tt i = letter j) ∧ ∀ i, i < q → (tt i).size ≤ maxLen) ∧ Hid (Blk wx w.heap.size 74 #[.string ⟨#[]⟩, .slice none 0 0, .int .i64 0]) ∧ Hid (Src wx b (m + 2 + 2 * k)) ∧ Hid (Only b w wx))
      case first =>
        by_cases hc0 : cnt = 0
        · subst hc0
          go_wp2_with fail
          go_meet
          exact ⟨some ⟨wr.heap.size, 0, none⟩, 1, 1, fun _ => letter 0, by omega, by omega, Lib.hid ((hbx.out.set_ 1 (.slice (some ⟨wr.heap.size, 0, none⟩) 1 1)).alloc _), Lib.hid (fun _ => ⟨wr.heap.size, 0, #[.string ⟨#[97]⟩], rfl, by have q9 := Blk.new (wr.setCell ⟨w1.heap.size, 1, none⟩ (.slice (some ⟨wr.heap.size, 0, none⟩) 1 1)) 9 #[.string ⟨#[97]⟩]; simpa using q9, fun i hi => by obtain rfl : i = 0 := (by omega); rfl⟩), Lib.hid ⟨by rcases Nat.eq_zero_or_pos k with z | z; exact .inl z; exact .inr fun i _ => ⟨0, z, rfl⟩, fun i _ => by rw [letter_size]; unfold maxLen; omega⟩, Lib.hid ((hR.out.far (p := ⟨w1.heap.size, 1, none⟩) (by (try dsimp only); omega) _).alloc _), Lib.hid ((hs.out.far (by omega) _ _).alloc _), Lib.hid ((ho.out.setNew (by omega) _ _).alloc _)⟩
        · have hc1 : ¬ (cnt : Int) = 0 := by omega
          go_wp2_with fail
          go_meet
          exact ⟨A2, cap, cnt, ss, by omega, by omega, hbx, HT, Lib.hid ⟨.inr hle.out, fun i hi => by obtain ⟨j, -, hj⟩ := hle.out i hi; rw [hj, letter_size]; unfold maxLen; omega⟩, hR, hs, ho⟩
      case rest =>
      clear hbx HT hle hR hs ho x1 xf hck
      obtain ⟨A3, cap3, q, tt, hq1, hq7, hbx, HT, hle, hR, hs, ho⟩ := hcut
      have hF := Lib.hid (HSW.out.fix ho.out)
      have HIC := Lib.hid (HI.out.fix hF.out (by unfold NotT; decide))
      have HAT := Lib.hid (show MeltAt wc w1.heap.size 0 ⟨s, q, tt, 0⟩ from meltAt_blk (x := ⟨s, q, tt, 0⟩) hbx.out HT.out.row)
      clear hF
      go_wp2_with fail
      go_at_call 135
      refine (drawn_metal A k c s0 a1 a2 a3 a4 w1.heap.size 0 ⟨s, q, tt, 0⟩ wc HIC.out HAT.out (by show q ≤ 16; omega) (by show 0 < q; omega) hle.out.1).mono ?_
      have HSZ := Lib.hid hle.out.2
      rintro e w4 ⟨M, ⟨hM0, hM1⟩, rfl, hb4⟩
      have B4 := Lib.hid (hbx.out.keep hb4)
      have R4 := Lib.hid (hR.out.keep hb4)
      have S4 := Lib.hid (hs.out.keep hb4)
      have O4 := Lib.hid (ho.out.trans (only_of hb4))
      have T4 := Lib.hid (HT.out.fix (S := fun _ => True) (Fix.below hb4) trivial)
      have hg4 := B4.out.lt
      clear hbx hR hs ho HT HAT HIC hle hb4
      have e1 : IntKind.i64.wrap (M.tdiv 50) = M / 50 := quo_nonneg hM0 (by omega) (by omega)
      have e2 : IntKind.i64.wrap (M - M / 50) = M - M / 50 := IntWalk.i64_in _ ⟨by omega, by omega⟩
      go_wp2_with fail
      go_at_call 41
      refine (among_calls (okI (-2) 1000) _ _ _ _ _ _ _ _ (by exact S4.out.alloc _) (by omega) (by exact Blk.new _ _ _) (by omega) (by rfl) (by rfl) (by omega) (by omega)).mono ?_
      rintro e w5 ⟨t, ht, rfl, hs5, ho5⟩
      obtain ⟨t0, t1⟩ := okI_iff.1 ht
      have e3 : IntKind.i64.wrap (M - M / 50 - t) = M - M / 50 - t := IntWalk.i64_in _ ⟨by omega, by omega⟩
      have B5 := ho5.blk (show w1.heap.size ≠ b by omega) (B4.out.alloc _)
      have R5 := ho5.blk (show w.heap.size ≠ b by omega) (R4.out.alloc _)
      have S5 := Lib.hid hs5
      have O5 := Lib.hid ((O4.out.alloc _).trans ho5)
      have T5 := Lib.hid ((T4.out.fix (S := fun _ => True) (Fix.alloc _) trivial).fix ((S4.out.alloc _).fix ho5) (by unfold NotT; decide))
      have HB5 := Lib.hid B5
      have x0 := (B5.cell 0).trans rfl
      have x1 := (B5.cell 1).trans rfl
      have x2 := (B5.cell 2).trans rfl
      have y0 := (R5.cell 0).trans rfl
      have y1 := (R5.cell 1).trans rfl
      have y2 := (R5.cell 2).trans rfl
      have gf := B5.frozen
      have rf := R5.frozen
      have hne : w.heap.size ≠ w1.heap.size := by omega
      have HR5 := Lib.hid R5
      clear B4 R4 S4 O4 T4 hs5 ho5 ht B5 R5
      go_wp2_with fail
      go_at_call 44
      refine (smax_calls _ _ _).mono ?_
      rintro e w6 ⟨⟨y, hy, rfl⟩, rfl⟩
      go_wp2
      refine bodyPost_ret (v := .agg #[.string s, .slice A3 q cap3, .int .i64 y]) (by simp [results, Tryz.results99, go_sem, y0, y1, y2]) rfl ?_
      have RB1 := HR5.out.far (p := ⟨w1.heap.size, 2, none⟩) hne (.int .i64 y)
      refine ⟨s, y, q, tt, A3, cap3, rfl, ⟨by show s.size ≤ maxLen; unfold maxLen; omega, HSZ.out, by show q ≤ 1048576; omega⟩, ?_, ?_, ?_⟩
      · exact T5.out.fix (S := NotT 74) ((Fix.set_ HB5.out 2 _).trans ((Fix.set_ RB1 0 _).trans ((Fix.set_ (RB1.set_ 0 _) 1 _).trans (Fix.set_ ((RB1.set_ 0 _).set_ 1 _) 2 _)))) (by unfold NotT; decide)
      · repeat (refine Src.far ?_ (by omega) _ _)
        exact S5.out.mono (by omega)
      · repeat (refine Only.setNew ?_ (by omega) _ _)
        exact O5.out
end Go.Proofs.YticnpibkpfpojaaGreatDoor
